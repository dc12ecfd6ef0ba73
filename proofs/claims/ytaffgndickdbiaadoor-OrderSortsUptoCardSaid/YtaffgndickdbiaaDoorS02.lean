/-
  Texts: Pieces, PathCheck, PathFault, NodSpec, PathFns, PathCmp, PathSplit, Same, Tree.
-/
import Derived.Test.YtaffgndickdbiaaDoorS01
import Derived.Lib.SplitLaws
import Derived.Lib.LastIndexByte
set_option linter.unusedVariables false
set_option linter.unusedSimpArgs false
set_option linter.unusedSectionVars false
namespace Go.Creel
open Go.RowKit
def partsL (c : UInt8) : List UInt8 → List (List UInt8)
  | [] => [[]]
  | x :: l => if x = c then [] :: partsL c l else match partsL c l with
    | [] => [[x]]
    | h :: t => (x :: h) :: t
theorem partsL_cons {c x : UInt8} (h : x ≠ c) (l : List UInt8) : partsL c (x :: l) = match partsL c l with | [] => [[x]] | h :: t => (x :: h) :: t := by
  conv => lhs; unfold partsL
  rw [if_neg h]
theorem partsL_ne (c : UInt8) : ∀ l, partsL c l ≠ []
  | [] => by simp [partsL]
  | x :: l => by
    unfold partsL
    split
    · simp
    · split <;> simp
def addLast (x : UInt8) : List (List UInt8) → List (List UInt8)
  | [] => [[x]]
  | [h] => [h ++ [x]]
  | h :: t => h :: addLast x t
theorem partsL_snoc (c x : UInt8) : ∀ l, partsL c (l ++ [x]) = if x = c then partsL c l ++ [[]] else addLast x (partsL c l)
  | [] => by
    by_cases h : x = c <;> simp [partsL, addLast, h]
  | a :: l => by
    have ih := partsL_snoc c x l
    have hne := partsL_ne c l
    simp only [List.cons_append, partsL]
    rw [ih]
    by_cases ha : a = c
    · by_cases hx : x = c
      · simp [ha, hx]
      · simp only [ha, hx, if_true, if_false]
        cases hp : partsL c l with
        | nil => exact absurd hp hne
        | cons h t => rfl
    · by_cases hx : x = c
      · simp only [ha, hx, if_true, if_false]
        cases hp : partsL c l with
        | nil => exact absurd hp hne
        | cons h t => rfl
      · simp only [ha, hx, if_false]
        cases hp : partsL c l with
        | nil => exact absurd hp hne
        | cons h t =>
          cases t with
          | nil => rfl
          | cons h2 t2 => rfl
theorem index_one_no (c : UInt8) : ∀ l : List UInt8, Lib.index l [c] = -1 → partsL c l = [l]
  | [], _ => rfl
  | b :: l, h => by
    unfold Lib.index at h
    by_cases hb : c = b
    · simp [hb] at h
    · have hp : ([c].isPrefixOf (b :: l)) = false := (show (c == b && List.isPrefixOf [] l) = false by rw [beq_eq_false_iff_ne.2 hb]; rfl)
      rw [hp] at h
      simp only [Bool.false_eq_true, if_false] at h
      have hi : Lib.index l [c] = -1 := by
        by_cases e : (Lib.index l [c] == -1) = true
        · simpa using e
        · rw [if_neg e] at h
          have := Lib.index_ge l [c]
          omega
      have ih := index_one_no c l hi
      rw [partsL_cons (fun e => hb e.symm), ih]
theorem index_one_yes (c : UInt8) : ∀ (l : List UInt8) (i : Nat), Lib.index l [c] = i → i < l.length ∧ partsL c l = l.take i :: partsL c (l.drop (i + 1))
  | [], i, h => by simp [Lib.index] at h
  | b :: l, i, h => by
    unfold Lib.index at h
    by_cases hb : c = b
    · have hp : ([c].isPrefixOf (b :: l)) = true := by simp [hb]
      rw [hp] at h
      simp only [if_true] at h
      obtain rfl : i = 0 := by omega
      refine ⟨by simp, ?_⟩
      simp [partsL, hb]
    · have hp : ([c].isPrefixOf (b :: l)) = false := (show (c == b && List.isPrefixOf [] l) = false by rw [beq_eq_false_iff_ne.2 hb]; rfl)
      rw [hp] at h
      simp only [Bool.false_eq_true, if_false] at h
      by_cases e : (Lib.index l [c] == -1) = true
      · rw [if_pos e] at h; omega
      · rw [if_neg e] at h
        have hg := Lib.index_ge l [c]
        have e' : Lib.index l [c] ≠ -1 := by simpa using e
        obtain ⟨j, rfl⟩ : ∃ j, i = j + 1 := ⟨i - 1, by omega⟩
        obtain ⟨h1, ih⟩ := index_one_yes c l j (by omega)
        refine ⟨by simp; omega, ?_⟩
        rw [partsL_cons (fun e => hb e.symm), ih]
        rfl
theorem splitB_parts (c : UInt8) : ∀ (n : Nat) (s : ByteArray), s.size ≤ n → (Lib.splitB (ofL [c]) 0 (Lib.countB s (ofL [c])) s).map (fun p => p.data.toList) = partsL c s.data.toList := by
  intro n
  induction n with
  | zero =>
    intro s hs
    have h0 : s.data.toList = [] := List.eq_nil_of_length_eq_zero (by rw [← Lib.size_eq s]; omega)
    have hi : Lib.indexB s (ofL [c]) = -1 := by unfold Lib.indexB; rw [h0, ofL_data]; rfl
    rw [Lib.splitB_miss _ _ _ _ hi, h0]
    simp [h0, partsL]
  | succ n ih =>
    intro s hs
    rcases Lib.indexB_cases s (ofL [c]) with hi | ⟨i, hi, hle⟩
    · rw [Lib.splitB_miss _ _ _ _ hi]
      have := index_one_no c s.data.toList (by unfold Lib.indexB at hi; rwa [ofL_data] at hi)
      rw [this]; rfl
    · have h1 : (ofL [c]).size = 1 := rfl
      rw [Lib.countB_hit s (ofL [c]) i (by rw [h1]; exact Nat.le_refl 1) hi, Nat.add_comm, Lib.splitB_hit _ _ _ _ i hi]
      obtain ⟨h2, h3⟩ := index_one_yes c s.data.toList i (by unfold Lib.indexB at hi; rwa [ofL_data] at hi)
      rw [h3, List.map_cons, h1]
      have hsz : s.size = s.data.toList.length := Lib.size_eq s
      have e1 : (s.extract 0 (i + 0)).data.toList = List.take i s.data.toList := by rw [Lib.extract_data]; simp
      have e2 : (s.extract (i + 1) s.size).data.toList = List.drop (i + 1) s.data.toList := by
        rw [Lib.extract_data]
        exact List.take_of_length_le (by simp)
      rw [ih (s.extract (i + 1) s.size) (by simp; omega), e2, e1]
def OwnSs (t : TypeId) (w : World) (B : Nat) (v : Value) (l : List ByteArray) : Prop := w.ownsRow B t 1 v l.length (l.map Value.string)
def piece (l : List ByteArray) (k : Nat) : ByteArray := l.getD k ByteArray.empty
theorem piece_eq {l : List ByteArray} {k : Nat} (h : k < l.length) : piece l k = l[k] := by simp [piece, List.getD_eq_getElem?_getD, List.getElem?_eq_getElem h]
theorem OwnSs.cell {t : TypeId} {w : World} {B g cap : Nat} {l : List ByteArray} (h : OwnSs t w B (.slice (some ⟨g, 0, none⟩) l.length cap) l) {j : Nat} (hj : j < l.length) : w.cell? ⟨g, j, none⟩ = some (.string (piece l j)) := by
  rw [World.ownsRow.cellAt h j (by omega), piece_eq hj]
  simp [List.getElem?_eq_getElem hj]
theorem OwnSs.form {t : TypeId} {w : World} {B : Nat} {v : Value} {l : List ByteArray} (h : OwnSs t w B v l) : (v = .slice none 0 0 ∧ l = []) ∨ ∃ g cap, v = .slice (some ⟨g, 0, none⟩) l.length cap ∧ B ≤ g ∧ g < w.heap.size ∧ l.length ≤ cap ∧ cap ≤ maxLen := by
  rcases h.2 with ⟨rfl, h0⟩ | ⟨g, cap, cur, rfl, hbg, hg, hnc, hcm, hcs, htake⟩
  · exact .inl ⟨rfl, List.eq_nil_of_length_eq_zero h0⟩
  · refine .inr ⟨g, cap, rfl, hbg, ?_, hnc, hcm⟩
    rcases Nat.lt_or_ge g w.heap.size with h' | h'
    · exact h'
    · rw [Array.getElem?_eq_none h'] at hg; cases hg
theorem OwnSs.below {t : TypeId} {w w' : World} {B : Nat} {v : Value} {l : List ByteArray} (h : OwnSs t w B v l) (hb : Below w.heap.size w w') : OwnSs t w' B v l := by
  refine ⟨h.1, ?_⟩
  rcases h.2 with h0 | ⟨g, cap, cur, hv, hbg, hg, r⟩
  · exact .inl h0
  · refine .inr ⟨g, cap, cur, hv, hbg, ?_, r⟩
    rw [hb.block g]
    · exact hg
    · rcases Nat.lt_or_ge g w.heap.size with h' | h'
      · exact h'
      · rw [Array.getElem?_eq_none h'] at hg; cases hg
def RetSs (t : TypeId) (w : World) (l : List ByteArray) (e : Ending) (w' : World) : Prop := ∃ v, e = .returned v ∧ OwnSs t w' w.heap.size v l ∧ Below w.heap.size w w'
theorem OwnSs.app {t : TypeId} {w' : World} {B : Nat} {v' : Value} {l m : List ByteArray} (h : w'.ownsRow B t 1 v' (l.length + m.length) (l.map Value.string ++ m.map Value.string)) : OwnSs t w' B v' (l ++ m) := by
  unfold OwnSs
  rw [List.length_append, List.map_append]
  exact h
def MaxOk (w : World) : Prop := 0 < w.heap.size ∧ ∃ m, w.cell? ⟨0, 0, none⟩ = some (.int .i64 m)
theorem MaxOk.below {w w' : World} (h : MaxOk w) (hb : Below w.heap.size w w') : MaxOk w' := by
  obtain ⟨h0, m, hm⟩ := h
  exact ⟨Nat.lt_of_lt_of_le h0 hb.size, m, (hb.cell (p := ⟨0, 0, none⟩) h0).trans hm⟩
def partsS (c : UInt8) (s : ByteArray) : List ByteArray := (partsL c s.data.toList).map ofL
theorem map_ofL {l : List ByteArray} {m : List (List UInt8)} (h : l.map (fun p => p.data.toList) = m) : l = m.map ofL := by
  rw [← h, List.map_map]
  conv => lhs; rw [← List.map_id l]
  apply List.map_congr_left
  intro s _
  simp [ofL_of]
theorem partsL_length (c : UInt8) : ∀ l, (partsL c l).length ≤ l.length + 1
  | [] => by simp [partsL]
  | x :: l => by
    have ih := partsL_length c l
    by_cases h : x = c
    · simp only [partsL, h, if_true, List.length_cons]; omega
    · rw [partsL_cons h]
      cases hp : partsL c l with
      | nil => simp
      | cons a t => rw [hp] at ih; simp at ih ⊢; omega
theorem partsL_sizes (c : UInt8) : ∀ l, ∀ p ∈ partsL c l, p.length ≤ l.length
  | [], p, hp => by simp [partsL] at hp; simp [hp]
  | x :: l, p, hp => by
    have ih := partsL_sizes c l
    by_cases h : x = c
    · simp only [partsL, h, if_true, List.mem_cons] at hp
      rcases hp with rfl | hp
      · simp
      · have := ih p hp; simp; omega
    · rw [partsL_cons h] at hp
      cases hq : partsL c l with
      | nil => rw [hq] at hp; simp at hp; simp [hp]
      | cons a t =>
        rw [hq] at hp ih
        simp only [List.mem_cons] at hp
        rcases hp with rfl | hp
        · have := ih a (by simp); simp; omega
        · have := ih p (by simp [hp]); simp; omega
theorem piece_le {l : List ByteArray} {n : Nat} (h : ∀ p ∈ l, p.size ≤ n) (k : Nat) : (piece l k).size ≤ n := by
  by_cases hk : k < l.length
  · rw [piece_eq hk]; exact h _ (List.getElem_mem _)
  · unfold piece
    rw [List.getD_eq_getElem?_getD, List.getElem?_eq_none (by omega)]
    simp
theorem addLast_set (x : UInt8) : ∀ {l : List (List UInt8)}, l ≠ [] → (addLast x l).map ofL = (l.map ofL).set (l.length - 1) (piece (l.map ofL) (l.length - 1) ++ ofL [x])
  | [], h => absurd rfl h
  | [h], _ => by simp [addLast, piece, ofL_append]
  | a :: b :: t, _ => by
    have ih := addLast_set x (l := b :: t) (by simp)
    simp only [addLast, List.map_cons, List.length_cons, Nat.add_sub_cancel] at ih ⊢
    rw [ih]
    simp [piece]
end Go.Creel
namespace Go.Proofs.YtaffgndickdbiaaDoor
open Go.Creel Go.RowKit
theorem SplitSlash_any (s : ByteArray) (w : World) (hM : MaxOk w) (hs : s.size ≤ 4000000000) :
    Calls Tryd.prog 105 #[.string s, .string ⟨#[47]⟩] w (RetSs 9 w (partsS 47 s)) := by
  obtain ⟨h0, m, hm⟩ := hM
  have key := splitB_parts 47 s.size s (Nat.le_refl _)
  have hk := map_ofL key
  refine (Tryd.strings_Split s (ofL [47]) m w (by omega) hm (Nat.le_refl 1)).mono ?_
  rintro e w' ⟨rfl, rfl⟩
  have hl : (Lib.splitB (ofL [47]) 0 (Lib.countB s (ofL [47])) s).length = Lib.countB s (ofL [47]) + 1 := Lib.splitB_all (ofL [47]) (Nat.le_refl 1) 0 _ s rfl
  have hcl := Lib.countB_le (ofL [47]) (Nat.le_refl 1) s.size s (Nat.le_refl _)
  refine ⟨_, rfl, ?_, (Below.refl _ _).alloc (Nat.le_refl _) _⟩
  unfold partsS
  rw [← hk]
  unfold OwnSs
  rw [hl]
  have := World.ownsRow_lit (base := w.heap.size) (e := 9) (size := 1) w ((Lib.splitB (ofL [47]) 0 (Lib.countB s (ofL [47])) s).map Value.string).toArray (Lib.countB s (ofL [47]) + 1) (Nat.le_refl _) (by unfold maxLen; omega) (by simp [hl])
  simpa using this
theorem info_string : (Tryd.prog.info? 9).map (fun i => (i.zero, i.size, i.bytes)) = some (some (.string ByteArray.empty), 1, 16) := by kernel_rfl
set_option maxRecDepth 100000 in
set_option maxHeartbeats 2000000 in
theorem parts_any (s : ByteArray) (c : UInt8) (n : Int) (hn : n = c.toNat) (w : World) (hs : s.size ≤ 4000000000) :
    Calls Tryd.prog 106 #[.string s, .int .u8 n] w (RetSs 9 w (partsS c s)) := by
  obtain ⟨i0, hi, hz0, hz1, hz2⟩ := info_parts info_string
  have HI := Lib.hid (And.intro hi (And.intro hz0 (And.intro hz1 hz2)))
  have HN := Lib.hid hn
  have h0 : OwnSs 9 (w.alloc (.cells #[.string ⟨#[]⟩] 9)) w.heap.size (.slice (some ⟨w.heap.size, 0, none⟩) 1 1) [ofL []] :=
    World.ownsRow_lit w #[.string ⟨#[]⟩] 1 (Nat.le_refl _) (by decide) rfl
  have H0 := Lib.hid h0
  have HB0 := Lib.hid ((Below.refl w.heap.size w).alloc (Nat.le_refl _) (.cells #[.string ⟨#[]⟩] 9))
  clear h0 hn hi hz0 hz1 hz2
  go_enter Tryd.func106, Tryd.ntmps106
  go_wp2
  go_loopw [5, 6] (fun v i wr => ∃ k : Nat, k ≤ s.size ∧ i = .int .i64 k ∧ OwnSs 9 wr w.heap.size v ((partsL c (s.data.toList.take k)).map ofL) ∧ Below w.heap.size w wr) (fun _ i _ => s.size - (intOf i).toNat)
  case atStart => exact ⟨0, by omega, rfl, H0.out, HB0.out⟩
  case round =>
    obtain ⟨k, hk, rfl, ho, hb⟩ := hrel
    have hne := partsL_ne c (s.data.toList.take k)
    have hlen : ((partsL c (s.data.toList.take k)).map ofL).length ≤ k + 1 := by
      have := partsL_length c (s.data.toList.take k)
      have h2 : (s.data.toList.take k).length ≤ k := List.length_take_le _ _
      rw [List.length_map]; omega
    have hpos : 0 < ((partsL c (s.data.toList.take k)).map ofL).length := by
      rw [List.length_map]; exact List.length_pos_iff.2 hne
    by_cases hlt : k < s.size
    · have hb' : s[k].toNat < 256 := UInt8.toNat_lt _
      have HB := Lib.hid (byt_get s k hlt)
      have hsn : s.data.toList.take (k + 1) = s.data.toList.take k ++ [s[k]] := by
        rw [List.take_succ_eq_append_getElem (by simpa using hlt)]; rfl
      by_cases hc : byt s k = c.toNat
      · have hx : s[k] = c := UInt8.toNat_inj.1 ((byt_get s k hlt).trans hc)
        have HS := Lib.hid (show (partsL c (s.data.toList.take (k + 1))).map ofL = (partsL c (s.data.toList.take k)).map ofL ++ [ofL []] by
          rw [hsn, partsL_snoc, if_pos hx, List.map_append]; rfl)
        have hq : (((s[k].toNat : Nat) : Int) == n) = true := by rw [HN.out, HB.out, hc]; simp
        have hbsz := hb.size
        have HO1 := Lib.hid (World.ownsRow.alloc ho (.cells #[.string ⟨#[]⟩] 9))
        have hb1 := (Below.refl wr.heap.size wr).alloc (Nat.le_refl _) (.cells #[.string ⟨#[]⟩] 9)
        have HSZ := Lib.hid (Nat.le_trans hbsz hb1.size)
        have HB1 := Lib.hid (hb.alloc hbsz (.cells #[.string ⟨#[]⟩] 9))
        generalize hP : (partsL c (s.data.toList.take k)).map ofL = P at *
        clear ho hb hb1 hc hx hsn hne
        go_wp2_with (at_builtin; refine wpList_app _ rfl (.tmp 19) (.tmp 20) 44 44 rfl _ _ rfl rfl (n := P.length) (fun ty => app_src _ _ _ _ w.heap.size 9 i0 (.string ByteArray.empty) 1 16 Tryd.underlying44 HI.out.1 HI.out.2.1 HI.out.2.2.1 HI.out.2.2.2 rfl (by decide) _ _ _ _ _ _ HO1.out (src_one wr _ _ _ Tryd.underlying44 _ rfl) (by unfold maxLen; omega) (by omega) HSZ.out) ?_; intro v1 w1 ho hg _)
        have HO2 := Lib.hid (OwnSs.app (m := [ofL []]) ho)
        have HB2 := Lib.hid (below_app HB1.out hg HO1.out HSZ.out)
        clear ho hg
        go_wp2
        go_roundw
        case rel => exact ⟨k + 1, by omega, by go_num, by rw [HS.out]; exact HO2.out, HB2.out⟩
        case measure => simp [intOf]; omega
      · have hx : s[k] ≠ c := fun e => hc ((byt_get s k hlt).symm.trans (by rw [e]))
        have HS := Lib.hid (show (partsL c (s.data.toList.take (k + 1))).map ofL = ((partsL c (s.data.toList.take k)).map ofL).set (((partsL c (s.data.toList.take k)).map ofL).length - 1) (piece ((partsL c (s.data.toList.take k)).map ofL) (((partsL c (s.data.toList.take k)).map ofL).length - 1) ++ ofL [s[k]]) by
          rw [hsn, partsL_snoc, if_neg hx, addLast_set _ hne, List.length_map])
        have hq : (((s[k].toNat : Nat) : Int) == n) = false := by rw [HN.out, HB.out, beq_eq_false_iff_ne]; omega
        have hex : s.extract k (k + 1) = ofL [s[k]] := by
          apply ext_bytes
          rw [Lib.extract_data, ofL_data, List.drop_eq_getElem_cons (by simpa using hlt)]
          simp
          rfl
        have HEX := Lib.hid hex
        have hpz : (piece ((partsL c (s.data.toList.take k)).map ofL) (((partsL c (s.data.toList.take k)).map ofL).length - 1)).size ≤ s.size := by
          have h1 := partsL_sizes c (s.data.toList.take k)
          have h2 : (s.data.toList.take k).length ≤ s.size := by simp; omega
          refine Nat.le_trans (piece_le (fun p hp => ?_) _) h2
          obtain ⟨q, hq, rfl⟩ := List.mem_map.1 hp
          rw [ofL_size]; exact h1 q hq
        have hform := ho.form
        rcases hform with ⟨_, e0⟩ | ⟨g, cap, hv, hgB, hgw, hcap, hcapm⟩
        · rw [e0] at hpos; simp at hpos
        · subst hv
          have hcell := ho.cell (j := ((partsL c (s.data.toList.take k)).map ofL).length - 1) (by omega)
          have hfree := World.ownsRow.frozenAt ho (((partsL c (s.data.toList.take k)).map ofL).length - 1)
          have HO := Lib.hid ho
          have HBB := Lib.hid hb
          have HGB := Lib.hid hgB
          generalize hP : (partsL c (s.data.toList.take k)).map ofL = P at *
          generalize hpp : piece P (P.length - 1) = pp at *
          have HPP := Lib.hid hpp
          unfold maxLen at hcapm
          clear ho hb hc hx hsn hne hex hpp hgB
          have hpi : ((P.length : Int) - 1).toNat = P.length - 1 := by omega
          go_wp2
          have HST := Lib.hid ((World.ownsRow.stored HO.out (P.length - 1) (.string (pp ++ s.extract k (k + 1)))).1)
          go_region
          go_wp2
          go_roundw
          case rel =>
            refine ⟨k + 1, by omega, by go_num, ?_, (HBB.out.setCell HGB.out _).drew⟩
            have e := HST.out
            have e2 := HS.out
            rw [e2]
            unfold OwnSs
            rw [List.length_set, List.map_set, ← HEX.out]
            exact e
          case measure => simp [intOf]; omega
    · obtain rfl : k = s.size := by omega
      have HO := Lib.hid ho
      have HB := Lib.hid hb
      have hz : s.data.toList.take s.size = s.data.toList := by rw [Lib.size_eq s]; exact List.take_length
      have HZ := Lib.hid hz
      clear ho hb hne hlen hz
      go_wp2
      go_ret
      refine ⟨_, rfl, ?_, HB.out⟩
      have := HO.out
      rw [HZ.out] at this
      exact this
end Go.Proofs.YtaffgndickdbiaaDoor
namespace Go.Creel
def badPart (p : ByteArray) : Bool := decide (p.size = 0) || decide (p = ofL [46]) || decide (p = ofL [46, 46])
def pathFault (s : ByteArray) : Int :=
  if s.size < 1 ∨ 400 < s.size then 1
  else if hasB s 0 = true then 3
  else if (partsS 47 s).any badPart = true then 9 else 0
def hasN (s : ByteArray) : Nat := if hasB s 0 = true then 1 else 0
def nodFaultN (p m kind same : Int) (dl ts h : Nat) : Int :=
  if ¬ p = 0 then p else if ¬ m = 0 then m
  else if kind = 1 then (if ¬ ts = 0 ∨ same < 0 then 3 else if 2000 < dl then 1 else 0)
  else if kind = 2 ∨ kind = 3 then (if 0 < dl ∨ ¬ same = 0 ∨ (kind = 2 ∧ ¬ ts = 0) ∨ (kind = 3 ∧ (ts = 0 ∨ h = 1)) then 3 else if 400 < ts then 1 else 0)
  else 2
def nodFault (e : Nod) : Int := nodFaultN (pathFault e.path) (metaFault e.mt) e.kind e.same e.data.length e.target.size (hasN e.target)
abbrev Nod.val (e : Nod) : Value := .agg #[.string e.path, .int .i64 e.kind, .int .i64 e.same, .string e.target, .int .i64 e.mt.mode, .int .i64 e.mt.uid, .int .i64 e.mt.gid, .string e.mt.user, .string e.mt.group, .int .i64 e.mt.second, .int .i64 e.mt.nano, .slice e.da e.data.length e.dcap]
open Go.RowKit
def joinL : List (List UInt8) → List UInt8
  | [] => []
  | [h] => h
  | h :: t => h ++ 47 :: joinL t
theorem joinL_cons {h : List UInt8} {t : List (List UInt8)} (ht : t ≠ []) : joinL (h :: t) = h ++ 47 :: joinL t := by
  cases t with
  | nil => exact absurd rfl ht
  | cons a b => rfl
theorem joinL_parts : ∀ l, joinL (partsL 47 l) = l
  | [] => rfl
  | x :: l => by
    have ih := joinL_parts l
    by_cases h : x = 47
    · have : partsL 47 (x :: l) = [] :: partsL 47 l := by
        conv => lhs; unfold partsL
        rw [if_pos h]
      rw [this, joinL_cons (partsL_ne _ _), ih, h]; rfl
    · rw [partsL_cons h]
      cases hp : partsL 47 l with
      | nil => exact absurd hp (partsL_ne _ _)
      | cons a t =>
        rw [hp] at ih
        cases t with
        | nil => simp only [joinL] at ih ⊢; rw [ih]
        | cons b t => simp only [joinL, List.cons_append] at ih ⊢; rw [ih]
def pathUp (s : ByteArray) : ByteArray := ofL (joinL (partsL 47 s.data.toList).dropLast)
def pathParts (s : ByteArray) : List ByteArray := if s.size = 0 then [] else partsS 47 s
end Go.Creel
namespace Go.Proofs.YtaffgndickdbiaaDoor
open Go.Creel Go.RowKit
set_option maxRecDepth 100000 in
theorem Parts_any (s : ByteArray) (w : World) (hM : MaxOk w) (hs : s.size ≤ 4000000000) :
    Calls Tryd.prog 73 #[.string s] w (RetSs 9 w (pathParts s)) := by
  by_cases h0 : s.size = 0
  · have HF := Lib.hid (show pathParts s = [] by unfold pathParts; rw [if_pos h0])
    have he := empty_t h0
    clear h0
    go_enter Tryd.func73, Tryd.ntmps73
    go_wp2
    go_ret
    rw [HF.out]
    exact ⟨_, rfl, World.ownsRow_nil w _ _ 1, Below.refl _ _⟩
  · have HF := Lib.hid (show pathParts s = partsS 47 s by unfold pathParts; rw [if_neg h0])
    have he := empty_f h0
    have HM := Lib.hid hM
    clear h0 hM
    go_enter Tryd.func73, Tryd.ntmps73
    go_wp2_with fail
    refine (SplitSlash_any s _ HM.out hs).mono ?_
    rintro e w' ⟨v, rfl, ho, hb⟩
    have HO := Lib.hid ho
    have HB := Lib.hid hb
    clear ho hb
    go_wp2
    go_ret
    rw [HF.out]
    exact ⟨_, rfl, HO.out, HB.out⟩
set_option maxRecDepth 100000 in
theorem PathParts_any (s : ByteArray) (w : World) (hs : s.size ≤ 4000000000) :
    Calls Tryd.prog 82 #[.string s] w (RetSs 9 w (pathParts s)) := by
  by_cases h0 : s.size = 0
  · have HF := Lib.hid (show pathParts s = [] by unfold pathParts; rw [if_pos h0])
    have he := empty_t h0
    clear h0
    go_enter Tryd.func82, Tryd.ntmps82
    go_wp2
    go_ret
    rw [HF.out]
    exact ⟨_, rfl, World.ownsRow_nil w _ _ 1, Below.refl _ _⟩
  · have HF := Lib.hid (show pathParts s = partsS 47 s by unfold pathParts; rw [if_neg h0])
    have he := empty_f h0
    clear h0
    go_enter Tryd.func82, Tryd.ntmps82
    go_wp2_with fail
    refine (parts_any s 47 _ rfl _ hs).mono ?_
    rintro e w' ⟨v, rfl, ho, hb⟩
    have HO := Lib.hid ho
    have HB := Lib.hid hb
    clear ho hb
    go_wp2
    go_ret
    rw [HF.out]
    exact ⟨_, rfl, HO.out, HB.out⟩
end Go.Proofs.YtaffgndickdbiaaDoor
namespace Go.Creel
open Go.RowKit
def cmpS (x y : ByteArray) : Int := if Op.bytesLess x.toList y.toList = true then -1 else if (x.toList == y.toList) = true then 0 else 1
theorem cmpS_cases (x y : ByteArray) : (Op.bytesLess x.toList y.toList = true ∧ cmpS x y = -1) ∨ (Op.bytesLess x.toList y.toList = false ∧ (x.toList == y.toList) = true ∧ cmpS x y = 0) ∨ (Op.bytesLess x.toList y.toList = false ∧ (x.toList == y.toList) = false ∧ cmpS x y = 1) := by
  unfold cmpS
  cases h : Op.bytesLess x.toList y.toList with
  | true => exact .inl ⟨rfl, by simp⟩
  | false =>
    right
    cases h2 : (x.toList == y.toList) with
    | true => exact .inl ⟨rfl, rfl, by simp⟩
    | false => exact .inr ⟨rfl, rfl, by simp⟩
def ordP : List ByteArray → List ByteArray → Int
  | [], [] => 0
  | [], _ :: _ => -1
  | _ :: _, [] => 1
  | x :: xs, y :: ys => if cmpS x y = 0 then ordP xs ys else cmpS x y
theorem ordP_drop {X Y : List ByteArray} : ∀ {k : Nat}, k ≤ X.length → k ≤ Y.length → (∀ j, j < k → cmpS (piece X j) (piece Y j) = 0) → ordP X Y = ordP (X.drop k) (Y.drop k)
  | 0, _, _, _ => by simp
  | k + 1, hx, hy, h => by
    rw [ordP_drop (k := k) (by omega) (by omega) (fun j hj => h j (by omega))]
    rw [List.drop_eq_getElem_cons (show k < X.length by omega), List.drop_eq_getElem_cons (show k < Y.length by omega)]
    have := h k (by omega)
    rw [piece_eq (show k < X.length by omega), piece_eq (show k < Y.length by omega)] at this
    simp only [ordP, this, if_true]
theorem ordP_at {X Y : List ByteArray} {k : Nat} (hx : k < X.length) (hy : k < Y.length) (h : ∀ j, j < k → cmpS (piece X j) (piece Y j) = 0) (hne : cmpS (piece X k) (piece Y k) ≠ 0) : ordP X Y = cmpS (piece X k) (piece Y k) := by
  rw [ordP_drop (Nat.le_of_lt hx) (Nat.le_of_lt hy) h, List.drop_eq_getElem_cons hx, List.drop_eq_getElem_cons hy]
  rw [piece_eq hx, piece_eq hy] at hne ⊢
  simp only [ordP, hne, if_false]
theorem ordP_left {X Y : List ByteArray} (hy : X.length < Y.length) (h : ∀ j, j < X.length → cmpS (piece X j) (piece Y j) = 0) : ordP X Y = -1 := by
  rw [ordP_drop (Nat.le_refl _) (Nat.le_of_lt hy) h, List.drop_eq_getElem_cons hy, List.drop_length]
  rfl
theorem ordP_both {X Y : List ByteArray} (hy : X.length = Y.length) (h : ∀ j, j < X.length → cmpS (piece X j) (piece Y j) = 0) : ordP X Y = 0 := by
  rw [ordP_drop (Nat.le_refl _) (Nat.le_of_eq hy) h, List.drop_length, hy, List.drop_length]
  rfl
theorem ordP_right {X Y : List ByteArray} (hy : Y.length < X.length) (h : ∀ j, j < Y.length → cmpS (piece X j) (piece Y j) = 0) : ordP X Y = 1 := by
  rw [ordP_drop (Nat.le_of_lt hy) (Nat.le_refl _) h, List.drop_eq_getElem_cons hy, List.drop_length]
  rfl
theorem slice_form' {t : TypeId} {w : World} {B : Nat} {v : Value} {l : List ByteArray} (h : OwnSs t w B v l) : ∃ p cap, v = .slice p l.length cap ∧ (0 < l.length → ∃ g, p = some ⟨g, 0, none⟩) := by
  rcases h.form with ⟨rfl, rfl⟩ | ⟨g, cap, rfl, hgB, hgw, hcap, hcapm⟩
  · exact ⟨none, 0, rfl, fun h => absurd h (by simp)⟩
  · exact ⟨_, _, rfl, fun _ => ⟨g, rfl⟩⟩
theorem parts_len' {s : ByteArray} (hs : s.size ≤ 1048576) : (pathParts s).length ≤ 8000000000 := by
  unfold pathParts
  split
  · simp
  · have := partsL_length 47 s.data.toList
    unfold partsS
    rw [List.length_map]
    have e := Lib.size_eq s
    omega
end Go.Creel
namespace Go.Proofs.YtaffgndickdbiaaDoor
open Go.Creel Go.RowKit
set_option maxRecDepth 100000 in
theorem isNaN_any (x : ByteArray) (w : World) : Calls Tryd.prog 116 #[.string x] w fun e w' => e = .returned (.bool false) ∧ w = w' := by
  have he : (x.toList == x.toList) = true := by simp
  go_enter Tryd.func116, Tryd.ntmps116
  go_wp2
  go_ret
  exact ⟨by simp, rfl⟩
set_option maxRecDepth 100000 in
theorem cmpS_any (x y : ByteArray) (w : World) : Calls Tryd.prog 104 #[.string x, .string y] w fun e w' => e = .returned (.int .i64 (cmpS x y)) ∧ w = w' := by
  rcases cmpS_cases x y with ⟨h1, h3⟩ | ⟨h1, h2, h3⟩ | ⟨h1, h2, h3⟩
  all_goals
    have HF := Lib.hid h3
    clear h3
    go_enter Tryd.func104, Tryd.ntmps104
    go_wp2_with (go_at_call 116; refine (isNaN_any _ _).mono ?_; rintro e w' ⟨rfl, rfl⟩)
    go_ret
    exact ⟨ret_i HF.out, rfl⟩
set_option maxRecDepth 100000 in
set_option maxHeartbeats 2000000 in
theorem cmpTexts_any (w : World) (B C : Nat) (v u : Value) (X Y : List ByteArray) (hX : X.length ≤ 8000000000) (hY : Y.length ≤ 8000000000) (hv : OwnSs 9 w B v X) (hu : OwnSs 9 w C u Y) :
    Calls Tryd.prog 72 #[v, u] w fun e w' => e = .returned (.int .i64 (ordP X Y)) ∧ Below w.heap.size w w' := by
  obtain ⟨p, cap, rfl, hp⟩ := slice_form' hv
  obtain ⟨q, caq, rfl, hq⟩ := slice_form' hu
  have HV := Lib.hid hv
  have HU := Lib.hid hu
  have HP := Lib.hid hp
  have HQ := Lib.hid hq
  clear hv hu hp hq
  go_enter Tryd.func72, Tryd.ntmps72
  go_wp2
  go_loopw [5, 11] (fun _ i wr => ∃ k : Nat, k ≤ X.length ∧ k ≤ Y.length ∧ i = .int .i64 k ∧ Hid (∀ j, j < k → cmpS (piece X j) (piece Y j) = 0) ∧ Below w.heap.size w wr) (fun _ i _ => X.length - (intOf i).toNat)
  case atStart => exact ⟨0, by omega, by omega, rfl, Lib.hid fun j hj => absurd hj (by omega), Below.refl _ _⟩
  case round =>
    obtain ⟨k, hk, hk2, rfl, HD, hb⟩ := hrel
    by_cases hlt : k < X.length
    · obtain ⟨g, rfl⟩ := HP.out (by omega)
      have hc := (HV.out.below hb).cell hlt
      by_cases hlt2 : k < Y.length
      · obtain ⟨g2, rfl⟩ := HQ.out (by omega)
        have hc2 := (HU.out.below hb).cell hlt2
        have HBB := Lib.hid hb
        clear hb
        by_cases h0 : cmpS (piece X k) (piece Y k) = 0
        · have H0 := Lib.hid h0
          go_wp2_with (go_at_call 104; refine (cmpS_any _ _ _).mono ?_; rintro e w' ⟨rfl, rfl⟩; rw [H0.out])
          go_roundw
          case rel =>
            refine ⟨k + 1, by omega, by omega, by go_num, Lib.hid fun j hj => ?_, HBB.out⟩
            by_cases e : j = k
            · rw [e]; exact H0.out
            · exact HD.out j (by omega)
          case measure => simp [intOf]; omega
        · have HF := Lib.hid (ordP_at hlt hlt2 HD.out h0)
          have HC := Lib.hid (cmpS_any (piece X k) (piece Y k))
          clear hc2
          have hc2 := (HU.out.below HBB.out).cell hlt2
          generalize cmpS (piece X k) (piece Y k) = c at *
          generalize piece X k = x at *
          generalize piece Y k = y at *
          go_wp2_with (go_at_call 104; refine (HC.out _).mono ?_; rintro e w' ⟨rfl, rfl⟩)
          go_ret
          exact ⟨ret_i HF.out, HBB.out⟩
      · obtain rfl : k = Y.length := by omega
        have HF := Lib.hid (ordP_right hlt HD.out)
        have HBB := Lib.hid hb
        clear hb
        go_wp2
        go_ret
        exact ⟨ret_i HF.out, HBB.out⟩
    · obtain rfl : k = X.length := by omega
      have HBB := Lib.hid hb
      clear hb
      by_cases hlt2 : X.length < Y.length
      · have HF := Lib.hid (ordP_left hlt2 HD.out)
        go_wp2
        go_ret
        exact ⟨ret_i HF.out, HBB.out⟩
      · have HF := Lib.hid (ordP_both (by omega) HD.out)
        go_wp2
        go_ret
        exact ⟨ret_i HF.out, HBB.out⟩
set_option maxRecDepth 100000 in
set_option maxHeartbeats 2000000 in
theorem PathOrder_any (a b : ByteArray) (w : World) (ha : a.size ≤ 1048576) (hb : b.size ≤ 1048576) :
    Calls Tryd.prog 47 #[.string a, .string b] w fun e w' => e = .returned (.int .i64 (ordP (pathParts a) (pathParts b))) ∧ Below w.heap.size w w' := by
  have hX : (pathParts a).length ≤ 8000000000 := parts_len' ha
  have hY : (pathParts b).length ≤ 8000000000 := parts_len' hb
  generalize hXX : pathParts a = X at *
  generalize hYY : pathParts b = Y at *
  have HXX := Lib.hid hXX
  have HYY := Lib.hid hYY
  clear hXX hYY
  go_enter Tryd.func47, Tryd.ntmps47
  go_wp2_with fail
  refine (PathParts_any _ _ (by omega)).mono ?_
  rintro e w1 ⟨v1, rfl, ho, hb1⟩
  rw [HXX.out] at ho
  have HB1 := Lib.hid hb1
  have HO1 := Lib.hid ho
  clear hb1 ho
  go_wp2_with fail
  refine (PathParts_any _ _ (by omega)).mono ?_
  rintro e w2 ⟨v2, rfl, ho, hb2⟩
  rw [HYY.out] at ho
  have HB2 := Lib.hid (HB1.out.trans (hb2.mono HB1.out.size))
  have HV := Lib.hid (HO1.out.below hb2)
  have HU := Lib.hid ho
  clear hb2 ho
  obtain ⟨p, cap, rfl, hp⟩ := slice_form' HV.out
  obtain ⟨q, caq, rfl, hq⟩ := slice_form' HU.out
  go_wp2
  have HP := Lib.hid hp
  have HQ := Lib.hid hq
  clear hp hq
  go_loopw [7] (fun i wr => ∃ k : Nat, k ≤ X.length ∧ k ≤ Y.length ∧ i = .int .i64 k ∧ Hid (∀ j, j < k → cmpS (piece X j) (piece Y j) = 0) ∧ Below w2.heap.size w2 wr) (fun i _ => X.length - (intOf i).toNat)
  case atStart => exact ⟨0, by omega, by omega, rfl, Lib.hid fun j hj => absurd hj (by omega), Below.refl _ _⟩
  case round =>
    obtain ⟨k, hk, hk2, rfl, HD, hbb⟩ := hrel
    by_cases hlt : k < X.length
    · by_cases hlt2 : k < Y.length
      · obtain ⟨g, rfl⟩ := HP.out (by omega)
        obtain ⟨g2, rfl⟩ := HQ.out (by omega)
        have hc := (HV.out.below hbb).cell hlt
        have hc2 := (HU.out.below hbb).cell hlt2
        have HBB := Lib.hid hbb
        clear hbb
        have HAT := Lib.hid (ordP_at hlt hlt2 HD.out)
        generalize hx : piece X k = x at *
        generalize hy : piece Y k = y at *
        have HX := Lib.hid hx
        have HY := Lib.hid hy
        clear hx hy
        rcases cmpS_cases x y with ⟨h1, h3⟩ | ⟨h1, h2, h3⟩ | ⟨h1, h2, h3⟩
        · have HF := Lib.hid ((HAT.out (by rw [h3]; decide)).trans h3)
          clear h3
          go_wp2
          go_quiet (fail)
          go_wp2
          go_ret
          exact ⟨ret_i HF.out, HB2.out.trans ((HBB.out.trans (below_draws _ _ _)).mono HB2.out.size)⟩
        · have H0 := Lib.hid h3
          clear h3
          go_wp2
          go_quiet (fail)
          go_wp2
          go_quiet (fail)
          go_wp2
          go_roundw
          case rel =>
            refine ⟨k + 1, by omega, by omega, by go_num, Lib.hid fun j hj => ?_, HBB.out.trans (below_draws _ _ _)⟩
            by_cases e : j = k
            · rw [e, HX.out, HY.out]; exact H0.out
            · exact HD.out j (by omega)
          case measure => simp [intOf]; omega
        · have HF := Lib.hid ((HAT.out (by rw [h3]; decide)).trans h3)
          clear h3
          go_wp2
          go_quiet (fail)
          go_wp2
          go_quiet (fail)
          go_wp2
          go_ret
          exact ⟨ret_i HF.out, HB2.out.trans (((HBB.out.trans (below_draws _ _ _)).trans (below_draws _ _ _)).mono HB2.out.size)⟩
      · obtain rfl : k = Y.length := by omega
        have HF := Lib.hid (ordP_right hlt HD.out)
        have HBB := Lib.hid hbb
        clear hbb
        go_wp2
        go_ret
        exact ⟨ret_i HF.out, HB2.out.trans (HBB.out.mono HB2.out.size)⟩
    · obtain rfl : k = X.length := by omega
      have HBB := Lib.hid hbb
      clear hbb
      by_cases hlt2 : X.length < Y.length
      · have HF := Lib.hid (ordP_left hlt2 HD.out)
        go_wp2
        go_ret
        exact ⟨ret_i HF.out, HB2.out.trans (HBB.out.mono HB2.out.size)⟩
      · have HF := Lib.hid (ordP_both (by omega) HD.out)
        go_wp2
        go_ret
        exact ⟨ret_i HF.out, HB2.out.trans (HBB.out.mono HB2.out.size)⟩
end Go.Proofs.YtaffgndickdbiaaDoor
namespace Go.Creel
theorem conv_bytes {P : Program} {w : World} {N : Nat} {v : Value} {l : List UInt8} (src e dst : TypeId) (hs : P.underlying src = some (.slice e)) (he : P.underlying e = some (.int .u8)) (hd : P.underlying dst = some .string)
    (h : SliceC N 1 ByteC w [v] l) : (convert src dst v).run P w = .ok (.string (ofL l)) w := by
  rcases bytes_cases h with ⟨a, cap, rfl, rfl⟩ | ⟨b, off, cap, rfl, hpos, hle, hm, _, hc⟩
  · cases a with
    | none => exact run_convert_bytes_nil w src e hs he 0 cap dst hd
    | some a =>
      rw [run_convert_bytes_string w src dst e _ 0 cap hs he hd, run_bytesToString w a 0 cap [] (by simp [loadCells, loadCellsFrom])]
      rfl
  · have hx : strOfNums (l.map fun c => (c.toNat : Int)) = ofL l := by
      apply ext_bytes
      rw [strOfNums_data, ofL_data, List.map_map]
      conv => rhs; rw [← List.map_id l]
      apply List.map_congr_left
      intro c _
      simp
    rw [← hx]
    refine run_convert_bytes_arg w src e hs he b off l.length cap _ (by simp) (fun i hi => ?_) dst hd
    rw [hc i hi]
    simp [bl, List.getD_eq_getElem?_getD, List.getElem?_eq_getElem hi]
end Go.Creel
namespace Go.Proofs.YtaffgndickdbiaaDoor
open Go.Creel Go.RowKit
theorem conv (w : World) {N : Nat} {v : Value} {l : List UInt8} (h : SliceC N 1 ByteC w [v] l) : (convert 38 9 v).run Tryd.prog w = .ok (.string (ofL l)) w :=
  conv_bytes _ _ _ Tryd.underlying38 Tryd.underlying5 Tryd.underlying9 h
set_option maxRecDepth 100000 in
theorem sameBytes_eq {N M : Nat} (v u : Value) (l : List UInt8) (w : World) (h1 : SliceC N 1 ByteC w [v] l) (h2 : SliceC M 1 ByteC w [u] l) :
    Calls Tryd.prog 76 #[v, u] w fun e w' => e = .returned (.bool true) ∧ w = w' := by
  have c1 := conv w h1
  have c2 := conv w h2
  clear h1 h2
  go_enter Tryd.func76, Tryd.ntmps76
  go_wp2
  go_ret
  exact ⟨rfl, rfl⟩
end Go.Proofs.YtaffgndickdbiaaDoor
namespace Go.Creel
open Go.RowKit
def nodZ : Nod := ⟨.empty, 0, 0, .empty, ⟨0, 0, 0, .empty, .empty, 0, 0⟩, none, 0, []⟩
def nk (l : List Nod) (k : Nat) : Nod := l.getD k nodZ
theorem nk_eq {l : List Nod} {k : Nat} (h : k < l.length) : nk l k = l[k] := by simp [nk, List.getD_eq_getElem?_getD, List.getElem?_eq_getElem h]
theorem nk_take {l : List Nod} {i j : Nat} (h : j < i) : nk (l.take i) j = nk l j := by
  simp [nk, List.getD_eq_getElem?_getD, h]
def NodAt (w : World) (b o : Nat) (x : Nod) : Prop := w.cell? ⟨b, o, none⟩ = some (.string x.path) ∧ w.cell? ⟨b, o + 1, none⟩ = some (.int .i64 x.kind) ∧ w.cell? ⟨b, o + 2, none⟩ = some (.int .i64 x.same) ∧ w.cell? ⟨b, o + 3, none⟩ = some (.string x.target) ∧ w.cell? ⟨b, o + 4, none⟩ = some (.int .i64 x.mt.mode) ∧ w.cell? ⟨b, o + 5, none⟩ = some (.int .i64 x.mt.uid) ∧ w.cell? ⟨b, o + 6, none⟩ = some (.int .i64 x.mt.gid) ∧ w.cell? ⟨b, o + 7, none⟩ = some (.string x.mt.user) ∧ w.cell? ⟨b, o + 8, none⟩ = some (.string x.mt.group) ∧ w.cell? ⟨b, o + 9, none⟩ = some (.int .i64 x.mt.second) ∧ w.cell? ⟨b, o + 10, none⟩ = some (.int .i64 x.mt.nano) ∧ w.cell? ⟨b, o + 11, none⟩ = some (.slice x.da x.data.length x.dcap)
def NodsAt (w : World) (b off : Nat) (l : List Nod) : Prop := ∀ i, i < l.length → NodAt w b (off + i * 12) (nk l i)
theorem NodAt.lt {w : World} {b o : Nat} {x : Nod} (h : NodAt w b o x) : b < w.heap.size := World.block_lt_of_cell? w _ h.1
theorem NodAt.below {w w' : World} {b o : Nat} {x : Nod} (h : NodAt w b o x) (hb : Below w.heap.size w w') : NodAt w' b o x := by
  have hlt := h.lt
  obtain ⟨h0, h1, h2, h3, h4, h5, h6, h7, h8, h9, h10, h11⟩ := h
  exact ⟨(hb.cell (p := ⟨b, o, none⟩) hlt).trans h0, (hb.cell (p := ⟨b, o + 1, none⟩) hlt).trans h1, (hb.cell (p := ⟨b, o + 2, none⟩) hlt).trans h2, (hb.cell (p := ⟨b, o + 3, none⟩) hlt).trans h3, (hb.cell (p := ⟨b, o + 4, none⟩) hlt).trans h4, (hb.cell (p := ⟨b, o + 5, none⟩) hlt).trans h5, (hb.cell (p := ⟨b, o + 6, none⟩) hlt).trans h6, (hb.cell (p := ⟨b, o + 7, none⟩) hlt).trans h7, (hb.cell (p := ⟨b, o + 8, none⟩) hlt).trans h8, (hb.cell (p := ⟨b, o + 9, none⟩) hlt).trans h9, (hb.cell (p := ⟨b, o + 10, none⟩) hlt).trans h10, (hb.cell (p := ⟨b, o + 11, none⟩) hlt).trans h11⟩
theorem NodsAt.below {w w' : World} {b off : Nat} {l : List Nod} (h : NodsAt w b off l) (hb : Below w.heap.size w w') : NodsAt w' b off l := fun i hi => (h i hi).below hb
theorem NodsAt.take {w : World} {b off : Nat} {l : List Nod} (h : NodsAt w b off l) (i : Nat) : NodsAt w b off (l.take i) := by
  intro j hj
  have hj' : j < i ∧ j < l.length := by simp at hj; omega
  rw [nk_take hj'.1]
  exact h j hj'.2
theorem Nod.Ok.below {N : Nat} {w w' : World} {x : Nod} (h : x.Ok N w) (hb : Below w.heap.size w w') : x.Ok N w' := ⟨h.path, h.kind, h.same, h.target, h.mt, h.data.below (fun _ _ h => h) hb⟩
theorem nods_cases {N : Nat} {w : World} {v : Value} {l : List Nod} (h : SliceC N 12 (NodC N) w [v] l) : (∃ a cap, v = .slice a 0 cap ∧ l = [] ∧ cap ≤ maxLen ∧ (a = none → cap = 0)) ∨
    ∃ b off cap, v = .slice (some ⟨b, off, none⟩) l.length cap ∧ 0 < l.length ∧ l.length ≤ cap ∧ cap ≤ maxLen ∧ l.length ≤ N ∧ NodsAt w b off l ∧ ∀ i, i < l.length → (nk l i).Ok N w := by
  obtain ⟨a, cap, hv, h1, h2, h3, h5, h4⟩ := h
  simp only [List.cons.injEq, and_true] at hv
  by_cases hl : 0 < l.length
  · obtain ⟨b, off, rfl, hc⟩ := h4 hl
    refine .inr ⟨b, off, cap, hv, hl, h1, h2, h3, fun i hi => ?_, fun i hi => ?_⟩
    · obtain ⟨c, _, hcc, hE, hn⟩ := hc i hi
      rw [nk_eq hi]
      subst hE
      refine ⟨?_, ?_, ?_, ?_, ?_, ?_, ?_, ?_, ?_, ?_, ?_, ?_⟩
      · exact hcc 0 (by omega)
      · exact hcc 1 (by omega)
      · exact hcc 2 (by omega)
      · exact hcc 3 (by omega)
      · exact hcc 4 (by omega)
      · exact hcc 5 (by omega)
      · exact hcc 6 (by omega)
      · exact hcc 7 (by omega)
      · exact hcc 8 (by omega)
      · exact hcc 9 (by omega)
      · exact hcc 10 (by omega)
      · exact hcc 11 (by omega)
    · obtain ⟨c, _, hcc, hE, hn⟩ := hc i hi
      rw [nk_eq hi]
      exact hn
  · have : l = [] := by
      cases l with
      | nil => rfl
      | cons x r => simp at hl
    subst this
    exact .inl ⟨a, cap, by simpa using hv, rfl, h2, h5⟩
def treeFind : List Nod → ByteArray → Nat
  | [], _ => 0
  | x :: t, s => if x.path = s then 0 else treeFind t s + 1
end Go.Creel
namespace Go.Proofs.YtaffgndickdbiaaDoor
open Go.Creel Go.RowKit Go.ChangeShapes
section
variable {H : Type} {enc : TypeId × Value → H} {W : World} {S : DataW H → Prop} {N : Nat}
theorem opens_Nodes (hS : Bd H S N) : Opens enc Tryd.prog W S 22 (SliceC N 12 (NodC N)) := opens_slice hS Tryd.underlying22 (by kernel_rfl) (by decide) (opens_Node hS)
end
end Go.Proofs.YtaffgndickdbiaaDoor
