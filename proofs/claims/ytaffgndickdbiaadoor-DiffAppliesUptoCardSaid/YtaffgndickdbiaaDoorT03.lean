/-
  Texts: Pieces, PathCheck, PathFault, NodSpec.
-/
import Derived.Test.YtaffgndickdbiaaDoorT02
import Derived.Lib.SplitLaws
set_option linter.unusedVariables false
set_option linter.unusedSimpArgs false
set_option linter.unusedSectionVars false
namespace Go.Creel
open Go.RowKit
def partsL (c : UInt8) : List UInt8 → List (List UInt8)
  | [] => [[]]
  | x :: l => if x = c then [] :: partsL c l else match partsL c l with
    | [] => [[x]]
    | h :: t => (x :: h) :: t
theorem partsL_cons {c x : UInt8} (h : x ≠ c) (l : List UInt8) : partsL c (x :: l) = match partsL c l with | [] => [[x]] | h :: t => (x :: h) :: t := by
  conv => lhs; unfold partsL
  rw [if_neg h]
theorem partsL_ne (c : UInt8) : ∀ l, partsL c l ≠ []
  | [] => by simp [partsL]
  | x :: l => by
    unfold partsL
    split
    · simp
    · split <;> simp
def addLast (x : UInt8) : List (List UInt8) → List (List UInt8)
  | [] => [[x]]
  | [h] => [h ++ [x]]
  | h :: t => h :: addLast x t
theorem partsL_snoc (c x : UInt8) : ∀ l, partsL c (l ++ [x]) = if x = c then partsL c l ++ [[]] else addLast x (partsL c l)
  | [] => by
    by_cases h : x = c <;> simp [partsL, addLast, h]
  | a :: l => by
    have ih := partsL_snoc c x l
    have hne := partsL_ne c l
    simp only [List.cons_append, partsL]
    rw [ih]
    by_cases ha : a = c
    · by_cases hx : x = c
      · simp [ha, hx]
      · simp only [ha, hx, if_true, if_false]
        cases hp : partsL c l with
        | nil => exact absurd hp hne
        | cons h t => rfl
    · by_cases hx : x = c
      · simp only [ha, hx, if_true, if_false]
        cases hp : partsL c l with
        | nil => exact absurd hp hne
        | cons h t => rfl
      · simp only [ha, hx, if_false]
        cases hp : partsL c l with
        | nil => exact absurd hp hne
        | cons h t =>
          cases t with
          | nil => rfl
          | cons h2 t2 => rfl
theorem index_one_no (c : UInt8) : ∀ l : List UInt8, Lib.index l [c] = -1 → partsL c l = [l]
  | [], _ => rfl
  | b :: l, h => by
    unfold Lib.index at h
    by_cases hb : c = b
    · simp [hb] at h
    · have hp : ([c].isPrefixOf (b :: l)) = false := (show (c == b && List.isPrefixOf [] l) = false by rw [beq_eq_false_iff_ne.2 hb]; rfl)
      rw [hp] at h
      simp only [Bool.false_eq_true, if_false] at h
      have hi : Lib.index l [c] = -1 := by
        by_cases e : (Lib.index l [c] == -1) = true
        · simpa using e
        · rw [if_neg e] at h
          have := Lib.index_ge l [c]
          omega
      have ih := index_one_no c l hi
      rw [partsL_cons (fun e => hb e.symm), ih]
theorem index_one_yes (c : UInt8) : ∀ (l : List UInt8) (i : Nat), Lib.index l [c] = i → i < l.length ∧ partsL c l = l.take i :: partsL c (l.drop (i + 1))
  | [], i, h => by simp [Lib.index] at h
  | b :: l, i, h => by
    unfold Lib.index at h
    by_cases hb : c = b
    · have hp : ([c].isPrefixOf (b :: l)) = true := by simp [hb]
      rw [hp] at h
      simp only [if_true] at h
      obtain rfl : i = 0 := by omega
      refine ⟨by simp, ?_⟩
      simp [partsL, hb]
    · have hp : ([c].isPrefixOf (b :: l)) = false := (show (c == b && List.isPrefixOf [] l) = false by rw [beq_eq_false_iff_ne.2 hb]; rfl)
      rw [hp] at h
      simp only [Bool.false_eq_true, if_false] at h
      by_cases e : (Lib.index l [c] == -1) = true
      · rw [if_pos e] at h; omega
      · rw [if_neg e] at h
        have hg := Lib.index_ge l [c]
        have e' : Lib.index l [c] ≠ -1 := by simpa using e
        obtain ⟨j, rfl⟩ : ∃ j, i = j + 1 := ⟨i - 1, by omega⟩
        obtain ⟨h1, ih⟩ := index_one_yes c l j (by omega)
        refine ⟨by simp; omega, ?_⟩
        rw [partsL_cons (fun e => hb e.symm), ih]
        rfl
theorem splitB_parts (c : UInt8) : ∀ (n : Nat) (s : ByteArray), s.size ≤ n → (Lib.splitB (ofL [c]) 0 (Lib.countB s (ofL [c])) s).map (fun p => p.data.toList) = partsL c s.data.toList := by
  intro n
  induction n with
  | zero =>
    intro s hs
    have h0 : s.data.toList = [] := List.eq_nil_of_length_eq_zero (by rw [← Lib.size_eq s]; omega)
    have hi : Lib.indexB s (ofL [c]) = -1 := by unfold Lib.indexB; rw [h0, ofL_data]; rfl
    rw [Lib.splitB_miss _ _ _ _ hi, h0]
    simp [h0, partsL]
  | succ n ih =>
    intro s hs
    rcases Lib.indexB_cases s (ofL [c]) with hi | ⟨i, hi, hle⟩
    · rw [Lib.splitB_miss _ _ _ _ hi]
      have := index_one_no c s.data.toList (by unfold Lib.indexB at hi; rwa [ofL_data] at hi)
      rw [this]; rfl
    · have h1 : (ofL [c]).size = 1 := rfl
      rw [Lib.countB_hit s (ofL [c]) i (by rw [h1]; exact Nat.le_refl 1) hi, Nat.add_comm, Lib.splitB_hit _ _ _ _ i hi]
      obtain ⟨h2, h3⟩ := index_one_yes c s.data.toList i (by unfold Lib.indexB at hi; rwa [ofL_data] at hi)
      rw [h3, List.map_cons, h1]
      have hsz : s.size = s.data.toList.length := Lib.size_eq s
      have e1 : (s.extract 0 (i + 0)).data.toList = List.take i s.data.toList := by rw [Lib.extract_data]; simp
      have e2 : (s.extract (i + 1) s.size).data.toList = List.drop (i + 1) s.data.toList := by
        rw [Lib.extract_data]
        exact List.take_of_length_le (by simp)
      rw [ih (s.extract (i + 1) s.size) (by simp; omega), e2, e1]
def OwnSs (t : TypeId) (w : World) (B : Nat) (v : Value) (l : List ByteArray) : Prop := w.ownsRow B t 1 v l.length (l.map Value.string)
def piece (l : List ByteArray) (k : Nat) : ByteArray := l.getD k ByteArray.empty
theorem piece_eq {l : List ByteArray} {k : Nat} (h : k < l.length) : piece l k = l[k] := by simp [piece, List.getD_eq_getElem?_getD, List.getElem?_eq_getElem h]
theorem OwnSs.cell {t : TypeId} {w : World} {B g cap : Nat} {l : List ByteArray} (h : OwnSs t w B (.slice (some ⟨g, 0, none⟩) l.length cap) l) {j : Nat} (hj : j < l.length) : w.cell? ⟨g, j, none⟩ = some (.string (piece l j)) := by
  rw [World.ownsRow.cellAt h j (by omega), piece_eq hj]
  simp [List.getElem?_eq_getElem hj]
theorem OwnSs.form {t : TypeId} {w : World} {B : Nat} {v : Value} {l : List ByteArray} (h : OwnSs t w B v l) : (v = .slice none 0 0 ∧ l = []) ∨ ∃ g cap, v = .slice (some ⟨g, 0, none⟩) l.length cap ∧ B ≤ g ∧ g < w.heap.size ∧ l.length ≤ cap ∧ cap ≤ maxLen := by
  rcases h.2 with ⟨rfl, h0⟩ | ⟨g, cap, cur, rfl, hbg, hg, hnc, hcm, hcs, htake⟩
  · exact .inl ⟨rfl, List.eq_nil_of_length_eq_zero h0⟩
  · refine .inr ⟨g, cap, rfl, hbg, ?_, hnc, hcm⟩
    rcases Nat.lt_or_ge g w.heap.size with h' | h'
    · exact h'
    · rw [Array.getElem?_eq_none h'] at hg; cases hg
theorem OwnSs.below {t : TypeId} {w w' : World} {B : Nat} {v : Value} {l : List ByteArray} (h : OwnSs t w B v l) (hb : Below w.heap.size w w') : OwnSs t w' B v l := by
  refine ⟨h.1, ?_⟩
  rcases h.2 with h0 | ⟨g, cap, cur, hv, hbg, hg, r⟩
  · exact .inl h0
  · refine .inr ⟨g, cap, cur, hv, hbg, ?_, r⟩
    rw [hb.block g]
    · exact hg
    · rcases Nat.lt_or_ge g w.heap.size with h' | h'
      · exact h'
      · rw [Array.getElem?_eq_none h'] at hg; cases hg
def RetSs (t : TypeId) (w : World) (l : List ByteArray) (e : Ending) (w' : World) : Prop := ∃ v, e = .returned v ∧ OwnSs t w' w.heap.size v l ∧ Below w.heap.size w w'
theorem OwnSs.app {t : TypeId} {w' : World} {B : Nat} {v' : Value} {l m : List ByteArray} (h : w'.ownsRow B t 1 v' (l.length + m.length) (l.map Value.string ++ m.map Value.string)) : OwnSs t w' B v' (l ++ m) := by
  unfold OwnSs
  rw [List.length_append, List.map_append]
  exact h
def MaxOk (w : World) : Prop := 0 < w.heap.size ∧ ∃ m, w.cell? ⟨0, 0, none⟩ = some (.int .i64 m)
theorem MaxOk.below {w w' : World} (h : MaxOk w) (hb : Below w.heap.size w w') : MaxOk w' := by
  obtain ⟨h0, m, hm⟩ := h
  exact ⟨Nat.lt_of_lt_of_le h0 hb.size, m, (hb.cell (p := ⟨0, 0, none⟩) h0).trans hm⟩
def partsS (c : UInt8) (s : ByteArray) : List ByteArray := (partsL c s.data.toList).map ofL
theorem map_ofL {l : List ByteArray} {m : List (List UInt8)} (h : l.map (fun p => p.data.toList) = m) : l = m.map ofL := by
  rw [← h, List.map_map]
  conv => lhs; rw [← List.map_id l]
  apply List.map_congr_left
  intro s _
  simp [ofL_of]
theorem partsL_length (c : UInt8) : ∀ l, (partsL c l).length ≤ l.length + 1
  | [] => by simp [partsL]
  | x :: l => by
    have ih := partsL_length c l
    by_cases h : x = c
    · simp only [partsL, h, if_true, List.length_cons]; omega
    · rw [partsL_cons h]
      cases hp : partsL c l with
      | nil => simp
      | cons a t => rw [hp] at ih; simp at ih ⊢; omega
theorem partsL_sizes (c : UInt8) : ∀ l, ∀ p ∈ partsL c l, p.length ≤ l.length
  | [], p, hp => by simp [partsL] at hp; simp [hp]
  | x :: l, p, hp => by
    have ih := partsL_sizes c l
    by_cases h : x = c
    · simp only [partsL, h, if_true, List.mem_cons] at hp
      rcases hp with rfl | hp
      · simp
      · have := ih p hp; simp; omega
    · rw [partsL_cons h] at hp
      cases hq : partsL c l with
      | nil => rw [hq] at hp; simp at hp; simp [hp]
      | cons a t =>
        rw [hq] at hp ih
        simp only [List.mem_cons] at hp
        rcases hp with rfl | hp
        · have := ih a (by simp); simp; omega
        · have := ih p (by simp [hp]); simp; omega
theorem piece_le {l : List ByteArray} {n : Nat} (h : ∀ p ∈ l, p.size ≤ n) (k : Nat) : (piece l k).size ≤ n := by
  by_cases hk : k < l.length
  · rw [piece_eq hk]; exact h _ (List.getElem_mem _)
  · unfold piece
    rw [List.getD_eq_getElem?_getD, List.getElem?_eq_none (by omega)]
    simp
theorem addLast_set (x : UInt8) : ∀ {l : List (List UInt8)}, l ≠ [] → (addLast x l).map ofL = (l.map ofL).set (l.length - 1) (piece (l.map ofL) (l.length - 1) ++ ofL [x])
  | [], h => absurd rfl h
  | [h], _ => by simp [addLast, piece, ofL_append]
  | a :: b :: t, _ => by
    have ih := addLast_set x (l := b :: t) (by simp)
    simp only [addLast, List.map_cons, List.length_cons, Nat.add_sub_cancel] at ih ⊢
    rw [ih]
    simp [piece]
end Go.Creel
namespace Go.Proofs.YtaffgndickdbiaaDoor
open Go.Creel Go.RowKit
theorem SplitSlash_any (s : ByteArray) (w : World) (hM : MaxOk w) (hs : s.size ≤ 4000000000) :
    Calls Tryd.prog 105 #[.string s, .string ⟨#[47]⟩] w (RetSs 9 w (partsS 47 s)) := by
  obtain ⟨h0, m, hm⟩ := hM
  have key := splitB_parts 47 s.size s (Nat.le_refl _)
  have hk := map_ofL key
  refine (Tryd.strings_Split s (ofL [47]) m w (by omega) hm (Nat.le_refl 1)).mono ?_
  rintro e w' ⟨rfl, rfl⟩
  have hl : (Lib.splitB (ofL [47]) 0 (Lib.countB s (ofL [47])) s).length = Lib.countB s (ofL [47]) + 1 := Lib.splitB_all (ofL [47]) (Nat.le_refl 1) 0 _ s rfl
  have hcl := Lib.countB_le (ofL [47]) (Nat.le_refl 1) s.size s (Nat.le_refl _)
  refine ⟨_, rfl, ?_, (Below.refl _ _).alloc (Nat.le_refl _) _⟩
  unfold partsS
  rw [← hk]
  unfold OwnSs
  rw [hl]
  have := World.ownsRow_lit (base := w.heap.size) (e := 9) (size := 1) w ((Lib.splitB (ofL [47]) 0 (Lib.countB s (ofL [47])) s).map Value.string).toArray (Lib.countB s (ofL [47]) + 1) (Nat.le_refl _) (by unfold maxLen; omega) (by simp [hl])
  simpa using this
theorem info_string : (Tryd.prog.info? 9).map (fun i => (i.zero, i.size, i.bytes)) = some (some (.string ByteArray.empty), 1, 16) := by kernel_rfl
set_option maxRecDepth 100000 in
set_option maxHeartbeats 2000000 in
theorem parts_any (s : ByteArray) (c : UInt8) (n : Int) (hn : n = c.toNat) (w : World) (hs : s.size ≤ 4000000000) :
    Calls Tryd.prog 106 #[.string s, .int .u8 n] w (RetSs 9 w (partsS c s)) := by
  obtain ⟨i0, hi, hz0, hz1, hz2⟩ := info_parts info_string
  have HI := Lib.hid (And.intro hi (And.intro hz0 (And.intro hz1 hz2)))
  have HN := Lib.hid hn
  have h0 : OwnSs 9 (w.alloc (.cells #[.string ⟨#[]⟩] 9)) w.heap.size (.slice (some ⟨w.heap.size, 0, none⟩) 1 1) [ofL []] :=
    World.ownsRow_lit w #[.string ⟨#[]⟩] 1 (Nat.le_refl _) (by decide) rfl
  have H0 := Lib.hid h0
  have HB0 := Lib.hid ((Below.refl w.heap.size w).alloc (Nat.le_refl _) (.cells #[.string ⟨#[]⟩] 9))
  clear h0 hn hi hz0 hz1 hz2
  go_enter Tryd.func106, Tryd.ntmps106
  go_wp2
  go_loopw [5, 6] (fun v i wr => ∃ k : Nat, k ≤ s.size ∧ i = .int .i64 k ∧ OwnSs 9 wr w.heap.size v ((partsL c (s.data.toList.take k)).map ofL) ∧ Below w.heap.size w wr) (fun _ i _ => s.size - (intOf i).toNat)
  case atStart => exact ⟨0, by omega, rfl, H0.out, HB0.out⟩
  case round =>
    obtain ⟨k, hk, rfl, ho, hb⟩ := hrel
    have hne := partsL_ne c (s.data.toList.take k)
    have hlen : ((partsL c (s.data.toList.take k)).map ofL).length ≤ k + 1 := by
      have := partsL_length c (s.data.toList.take k)
      have h2 : (s.data.toList.take k).length ≤ k := List.length_take_le _ _
      rw [List.length_map]; omega
    have hpos : 0 < ((partsL c (s.data.toList.take k)).map ofL).length := by
      rw [List.length_map]; exact List.length_pos_iff.2 hne
    by_cases hlt : k < s.size
    · have hb' : s[k].toNat < 256 := UInt8.toNat_lt _
      have HB := Lib.hid (byt_get s k hlt)
      have hsn : s.data.toList.take (k + 1) = s.data.toList.take k ++ [s[k]] := by
        rw [List.take_succ_eq_append_getElem (by simpa using hlt)]; rfl
      by_cases hc : byt s k = c.toNat
      · have hx : s[k] = c := UInt8.toNat_inj.1 ((byt_get s k hlt).trans hc)
        have HS := Lib.hid (show (partsL c (s.data.toList.take (k + 1))).map ofL = (partsL c (s.data.toList.take k)).map ofL ++ [ofL []] by
          rw [hsn, partsL_snoc, if_pos hx, List.map_append]; rfl)
        have hq : (((s[k].toNat : Nat) : Int) == n) = true := by rw [HN.out, HB.out, hc]; simp
        have hbsz := hb.size
        have HO1 := Lib.hid (World.ownsRow.alloc ho (.cells #[.string ⟨#[]⟩] 9))
        have hb1 := (Below.refl wr.heap.size wr).alloc (Nat.le_refl _) (.cells #[.string ⟨#[]⟩] 9)
        have HSZ := Lib.hid (Nat.le_trans hbsz hb1.size)
        have HB1 := Lib.hid (hb.alloc hbsz (.cells #[.string ⟨#[]⟩] 9))
        generalize hP : (partsL c (s.data.toList.take k)).map ofL = P at *
        clear ho hb hb1 hc hx hsn hne
        go_wp2_with (at_builtin; refine wpList_app _ rfl (.tmp 19) (.tmp 20) 44 44 rfl _ _ rfl rfl (n := P.length) (fun ty => app_src _ _ _ _ w.heap.size 9 i0 (.string ByteArray.empty) 1 16 Tryd.underlying44 HI.out.1 HI.out.2.1 HI.out.2.2.1 HI.out.2.2.2 rfl (by decide) _ _ _ _ _ _ HO1.out (src_one wr _ _ _ Tryd.underlying44 _ rfl) (by unfold maxLen; omega) (by omega) HSZ.out) ?_; intro v1 w1 ho hg _)
        have HO2 := Lib.hid (OwnSs.app (m := [ofL []]) ho)
        have HB2 := Lib.hid (below_app HB1.out hg HO1.out HSZ.out)
        clear ho hg
        go_wp2
        go_roundw
        case rel => exact ⟨k + 1, by omega, by go_num, by rw [HS.out]; exact HO2.out, HB2.out⟩
        case measure => simp [intOf]; omega
      · have hx : s[k] ≠ c := fun e => hc ((byt_get s k hlt).symm.trans (by rw [e]))
        have HS := Lib.hid (show (partsL c (s.data.toList.take (k + 1))).map ofL = ((partsL c (s.data.toList.take k)).map ofL).set (((partsL c (s.data.toList.take k)).map ofL).length - 1) (piece ((partsL c (s.data.toList.take k)).map ofL) (((partsL c (s.data.toList.take k)).map ofL).length - 1) ++ ofL [s[k]]) by
          rw [hsn, partsL_snoc, if_neg hx, addLast_set _ hne, List.length_map])
        have hq : (((s[k].toNat : Nat) : Int) == n) = false := by rw [HN.out, HB.out, beq_eq_false_iff_ne]; omega
        have hex : s.extract k (k + 1) = ofL [s[k]] := by
          apply ext_bytes
          rw [Lib.extract_data, ofL_data, List.drop_eq_getElem_cons (by simpa using hlt)]
          simp
          rfl
        have HEX := Lib.hid hex
        have hpz : (piece ((partsL c (s.data.toList.take k)).map ofL) (((partsL c (s.data.toList.take k)).map ofL).length - 1)).size ≤ s.size := by
          have h1 := partsL_sizes c (s.data.toList.take k)
          have h2 : (s.data.toList.take k).length ≤ s.size := by simp; omega
          refine Nat.le_trans (piece_le (fun p hp => ?_) _) h2
          obtain ⟨q, hq, rfl⟩ := List.mem_map.1 hp
          rw [ofL_size]; exact h1 q hq
        have hform := ho.form
        rcases hform with ⟨_, e0⟩ | ⟨g, cap, hv, hgB, hgw, hcap, hcapm⟩
        · rw [e0] at hpos; simp at hpos
        · subst hv
          have hcell := ho.cell (j := ((partsL c (s.data.toList.take k)).map ofL).length - 1) (by omega)
          have hfree := World.ownsRow.frozenAt ho (((partsL c (s.data.toList.take k)).map ofL).length - 1)
          have HO := Lib.hid ho
          have HBB := Lib.hid hb
          have HGB := Lib.hid hgB
          generalize hP : (partsL c (s.data.toList.take k)).map ofL = P at *
          generalize hpp : piece P (P.length - 1) = pp at *
          have HPP := Lib.hid hpp
          unfold maxLen at hcapm
          clear ho hb hc hx hsn hne hex hpp hgB
          have hpi : ((P.length : Int) - 1).toNat = P.length - 1 := by omega
          go_wp2
          have HST := Lib.hid ((World.ownsRow.stored HO.out (P.length - 1) (.string (pp ++ s.extract k (k + 1)))).1)
          go_region
          go_wp2
          go_roundw
          case rel =>
            refine ⟨k + 1, by omega, by go_num, ?_, (HBB.out.setCell HGB.out _).drew⟩
            have e := HST.out
            have e2 := HS.out
            rw [e2]
            unfold OwnSs
            rw [List.length_set, List.map_set, ← HEX.out]
            exact e
          case measure => simp [intOf]; omega
    · obtain rfl : k = s.size := by omega
      have HO := Lib.hid ho
      have HB := Lib.hid hb
      have hz : s.data.toList.take s.size = s.data.toList := by rw [Lib.size_eq s]; exact List.take_length
      have HZ := Lib.hid hz
      clear ho hb hne hlen hz
      go_wp2
      go_ret
      refine ⟨_, rfl, ?_, HB.out⟩
      have := HO.out
      rw [HZ.out] at this
      exact this
end Go.Proofs.YtaffgndickdbiaaDoor
namespace Go.Creel
def badPart (p : ByteArray) : Bool := decide (p.size = 0) || decide (p = ofL [46]) || decide (p = ofL [46, 46])
def pathFault (s : ByteArray) : Int :=
  if s.size < 1 ∨ 400 < s.size then 1
  else if hasB s 0 = true then 3
  else if (partsS 47 s).any badPart = true then 9 else 0
theorem pathFault_size {s : ByteArray} (h : s.size < 1 ∨ 400 < s.size) : pathFault s = 1 := by unfold pathFault; rw [if_pos h]
theorem pathFault_form {s : ByteArray} (h : ¬ (s.size < 1 ∨ 400 < s.size)) (h2 : hasB s 0 = true) : pathFault s = 3 := by unfold pathFault; rw [if_neg h, if_pos h2]
theorem pathFault_part {s : ByteArray} (h : ¬ (s.size < 1 ∨ 400 < s.size)) (h2 : hasB s 0 = false) {k : Nat} (hk : k < (partsS 47 s).length) (hb : badPart (piece (partsS 47 s) k) = true) : pathFault s = 9 := by
  unfold pathFault
  rw [if_neg h, if_neg (by rw [h2]; simp), if_pos]
  rw [List.any_eq_true]
  exact ⟨_, List.getElem_mem hk, by rw [← piece_eq hk]; exact hb⟩
theorem pathFault_ok {s : ByteArray} (h : ¬ (s.size < 1 ∨ 400 < s.size)) (h2 : hasB s 0 = false) (hb : ∀ k, k < (partsS 47 s).length → badPart (piece (partsS 47 s) k) = false) : pathFault s = 0 := by
  unfold pathFault
  rw [if_neg h, if_neg (by rw [h2]; simp), if_neg]
  rw [Bool.not_eq_true, List.any_eq_false]
  intro x hx
  obtain ⟨k, hk, rfl⟩ := List.getElem_of_mem hx
  have := hb k hk
  rw [piece_eq hk] at this
  rw [this]; simp
theorem badPart_yes {p : ByteArray} (h : badPart p = true) : p.toList.isEmpty = true ∨ (p.toList.isEmpty = false ∧ (p.toList == (ofL [46]).toList) = true) ∨ (p.toList.isEmpty = false ∧ (p.toList == (ofL [46]).toList) = false ∧ (p.toList == (ofL [46, 46]).toList) = true) := by
  unfold badPart at h
  by_cases h0 : p.size = 0
  · exact .inl (empty_t h0)
  · right
    by_cases h1 : p = ofL [46]
    · exact .inl ⟨empty_f h0, seq_t h1⟩
    · right
      refine ⟨empty_f h0, seq_f h1, seq_t ?_⟩
      simpa [h0, h1] using h
theorem badPart_no {p : ByteArray} (h : badPart p = false) : p.toList.isEmpty = false ∧ (p.toList == (ofL [46]).toList) = false ∧ (p.toList == (ofL [46, 46]).toList) = false := by
  unfold badPart at h
  simp only [Bool.or_eq_false_iff, decide_eq_false_iff_not] at h
  exact ⟨empty_f h.1.1, seq_f h.1.2, seq_f h.2⟩
theorem toList_ofL (l : List UInt8) : (ofL l).toList = l := by rw [Lib.toList_data, ofL_data]
end Go.Creel
namespace Go.Proofs.YtaffgndickdbiaaDoor
open Go.Creel Go.RowKit
set_option maxRecDepth 100000 in
set_option maxHeartbeats 2000000 in
theorem PathCheck_any (s : ByteArray) (w : World) (hM : MaxOk w) (hs : s.size ≤ maxLen) :
    Calls Tryd.prog 85 #[.string s] w fun e w' => e = .returned (.int .i64 (pathFault s)) ∧ Below w.heap.size w w' := by
  unfold maxLen at hs
  by_cases h : s.size < 1 ∨ 400 < s.size
  · have HF := Lib.hid (pathFault_size h)
    rcases h with h | h
    · go_enter Tryd.func85, Tryd.ntmps85
      go_wp2
      go_ret
      exact ⟨ret_i HF.out, Below.refl _ _⟩
    · go_enter Tryd.func85, Tryd.ntmps85
      go_wp2
      go_ret
      exact ⟨ret_i HF.out, Below.refl _ _⟩
  · have h1 : 1 ≤ s.size := by omega
    have h2 : s.size ≤ 400 := by omega
    have hix := idx_has s 0
    cases hh : hasB s 0 with
    | true =>
      have HF := Lib.hid (pathFault_form h hh)
      rw [hh] at hix
      clear h hh
      go_enter Tryd.func85, Tryd.ntmps85
      go_wp2_with (go_at_call 87; refine (IndexByte_any _ _ _).mono ?_; rintro e w' ⟨rfl, rfl⟩)
      go_ret
      exact ⟨ret_i HF.out, Below.refl _ _⟩
    | false =>
      rw [hh] at hix
      have HNO := Lib.hid (fun k => pathFault_part h hh (k := k))
      have HYES := Lib.hid (pathFault_ok h hh)
      have HM := Lib.hid hM
      clear h hh hM
      go_enter Tryd.func85, Tryd.ntmps85
      go_wp2_with (first | (go_at_call 87; refine (IndexByte_any _ _ _).mono ?_; rintro e w' ⟨rfl, rfl⟩) | (go_at_call 105; fail))
      refine (SplitSlash_any s _ HM.out (by omega)).mono ?_
      rintro e w1 ⟨v, rfl, ho, hb⟩
      have hlen : (partsS 47 s).length ≤ s.size + 1 := by
        have := partsL_length 47 s.data.toList
        unfold partsS
        rw [List.length_map, Lib.size_eq s]; exact this
      have hne : 0 < (partsS 47 s).length := by
        unfold partsS
        rw [List.length_map]; exact List.length_pos_iff.2 (partsL_ne _ _)
      generalize partsS 47 s = P at *
      have hform := ho.form
      rcases hform with ⟨_, e0⟩ | ⟨g, cap, hv, hgB, hgw, hcap, hcapm⟩
      · rw [e0] at hne; simp at hne
      · subst hv
        have HO := Lib.hid ho
        have HB := Lib.hid hb
        clear ho hb hne hgB hgw
        go_wp2
        go_loop [4, 19] (fun _ i => ∃ k : Nat, k ≤ P.length ∧ i = .int .i64 k ∧ Hid (∀ j, j < k → badPart (piece P j) = false)) (fun _ i => P.length - (intOf i).toNat)
        case atStart => exact ⟨0, by omega, rfl, fun j hj => absurd hj (by omega)⟩
        case round =>
          obtain ⟨k, hk, rfl, HD⟩ := hrel
          by_cases hlt : k < P.length
          · have hc := HO.out.cell hlt
            cases hbp : badPart (piece P k) with
            | true =>
              have HF := Lib.hid (HNO.out k hlt hbp)
              have hcase := badPart_yes hbp
              clear hbp
              generalize piece P k = p at *
              rw [toList_ofL, toList_ofL] at hcase
              rcases hcase with e1 | ⟨e1, e2⟩ | ⟨e1, e2, e3⟩
              all_goals
                go_wp2
                go_ret
                exact ⟨ret_i HF.out, HB.out⟩
            | false =>
              obtain ⟨e1, e2, e3⟩ := badPart_no hbp
              rw [toList_ofL] at e2 e3
              have HBP := Lib.hid hbp
              clear hbp
              generalize hp : piece P k = p at *
              have HP := Lib.hid hp
              clear hp
              go_wp2
              go_round
              case rel =>
                refine ⟨k + 1, by omega, by go_num, fun j hj => ?_⟩
                by_cases e : j = k
                · rw [e, HP.out]; exact HBP.out
                · exact HD.out j (by omega)
              case measure => simp [intOf]; omega
          · obtain rfl : k = P.length := by omega
            have HF := Lib.hid (HYES.out HD.out)
            go_wp2
            go_ret
            exact ⟨ret_i HF.out, HB.out⟩
open Go.Creel Go.RowKit
set_option maxRecDepth 100000 in
set_option maxHeartbeats 2000000 in
theorem PathFault_any (s : ByteArray) (w : World) (hs : s.size ≤ maxLen) :
    Calls Tryd.prog 90 #[.string s] w fun e w' => e = .returned (.int .i64 (pathFault s)) ∧ Below w.heap.size w w' := by
  unfold maxLen at hs
  by_cases h : s.size < 1 ∨ 400 < s.size
  · have HF := Lib.hid (pathFault_size h)
    by_cases h0 : s.size = 0
    · have he := empty_t h0
      clear h h0
      go_enter Tryd.func90, Tryd.ntmps90
      go_wp2
      go_ret
      exact ⟨ret_i HF.out, Below.refl _ _⟩
    · have he := empty_f h0
      have h1 : 400 < s.size := by omega
      clear h h0
      go_enter Tryd.func90, Tryd.ntmps90
      go_wp2
      go_ret
      exact ⟨ret_i HF.out, Below.refl _ _⟩
  · have h1 : s.size ≤ 400 := by omega
    have he := empty_f (show ¬ s.size = 0 by omega)
    cases hh : hasB s 0 with
    | true =>
      have HF := Lib.hid (pathFault_form h hh)
      have HH := Lib.hid hh
      clear h hh
      go_enter Tryd.func90, Tryd.ntmps90
      go_wp2_with (go_at_call 92; refine (has_any s 0 0 rfl _ (by unfold maxLen; omega)).mono ?_; rintro e w' ⟨rfl, rfl⟩; rw [HH.out])
      go_ret
      exact ⟨ret_i HF.out, Below.refl _ _⟩
    | false =>
      have HNO := Lib.hid (fun k => pathFault_part h hh (k := k))
      have HYES := Lib.hid (pathFault_ok h hh)
      have HH := Lib.hid hh
      clear h hh
      go_enter Tryd.func90, Tryd.ntmps90
      go_wp2_with (first | (go_at_call 92; refine (has_any s 0 0 rfl _ (by unfold maxLen; omega)).mono ?_; rintro e w' ⟨rfl, rfl⟩; rw [HH.out]) | (go_at_call 106; fail))
      refine (parts_any s 47 _ rfl _ (by omega)).mono ?_
      rintro e w1 ⟨v, rfl, ho, hb⟩
      have hlen : (partsS 47 s).length ≤ s.size + 1 := by
        have := partsL_length 47 s.data.toList
        unfold partsS
        rw [List.length_map, Lib.size_eq s]; exact this
      have hne : 0 < (partsS 47 s).length := by
        unfold partsS
        rw [List.length_map]; exact List.length_pos_iff.2 (partsL_ne _ _)
      generalize partsS 47 s = P at *
      have hform := ho.form
      rcases hform with ⟨_, e0⟩ | ⟨g, cap, hv, hgB, hgw, hcap, hcapm⟩
      · rw [e0] at hne; simp at hne
      · subst hv
        have HO := Lib.hid ho
        have HB := Lib.hid hb
        clear ho hb hne hgB hgw
        go_wp2
        go_loop [4, 17] (fun _ i => ∃ k : Nat, k ≤ P.length ∧ i = .int .i64 k ∧ Hid (∀ j, j < k → badPart (piece P j) = false)) (fun _ i => P.length - (intOf i).toNat)
        case atStart => exact ⟨0, by omega, rfl, fun j hj => absurd hj (by omega)⟩
        case round =>
          obtain ⟨k, hk, rfl, HD⟩ := hrel
          by_cases hlt : k < P.length
          · have hc := HO.out.cell hlt
            cases hbp : badPart (piece P k) with
            | true =>
              have HF := Lib.hid (HNO.out k hlt hbp)
              have hcase := badPart_yes hbp
              clear hbp
              generalize piece P k = p at *
              rw [toList_ofL, toList_ofL] at hcase
              rcases hcase with e1 | ⟨e1, e2⟩ | ⟨e1, e2, e3⟩
              all_goals
                go_wp2
                go_ret
                exact ⟨ret_i HF.out, HB.out⟩
            | false =>
              obtain ⟨e1, e2, e3⟩ := badPart_no hbp
              rw [toList_ofL] at e2 e3
              have HBP := Lib.hid hbp
              clear hbp
              generalize hp : piece P k = p at *
              have HP := Lib.hid hp
              clear hp
              go_wp2
              go_round
              case rel =>
                refine ⟨k + 1, by omega, by go_num, fun j hj => ?_⟩
                by_cases e : j = k
                · rw [e, HP.out]; exact HBP.out
                · exact HD.out j (by omega)
              case measure => simp [intOf]; omega
          · obtain rfl : k = P.length := by omega
            have HF := Lib.hid (HYES.out HD.out)
            go_wp2
            go_ret
            exact ⟨ret_i HF.out, HB.out⟩
end Go.Proofs.YtaffgndickdbiaaDoor
namespace Go.Creel
def hasN (s : ByteArray) : Nat := if hasB s 0 = true then 1 else 0
theorem hasN_t {s : ByteArray} (h : hasB s 0 = true) : hasN s = 1 := by unfold hasN; rw [if_pos h]
theorem hasN_f {s : ByteArray} (h : hasB s 0 = false) : hasN s = 0 := by unfold hasN; rw [h]; rfl
def nodFaultN (p m kind same : Int) (dl ts h : Nat) : Int :=
  if ¬ p = 0 then p else if ¬ m = 0 then m
  else if kind = 1 then (if ¬ ts = 0 ∨ same < 0 then 3 else if 2000 < dl then 1 else 0)
  else if kind = 2 ∨ kind = 3 then (if 0 < dl ∨ ¬ same = 0 ∨ (kind = 2 ∧ ¬ ts = 0) ∨ (kind = 3 ∧ (ts = 0 ∨ h = 1)) then 3 else if 400 < ts then 1 else 0)
  else 2
def nodFault (e : Nod) : Int := nodFaultN (pathFault e.path) (metaFault e.mt) e.kind e.same e.data.length e.target.size (hasN e.target)
abbrev Nod.val (e : Nod) : Value := .agg #[.string e.path, .int .i64 e.kind, .int .i64 e.same, .string e.target, .int .i64 e.mt.mode, .int .i64 e.mt.uid, .int .i64 e.mt.gid, .string e.mt.user, .string e.mt.group, .int .i64 e.mt.second, .int .i64 e.mt.nano, .slice e.da e.data.length e.dcap]
theorem has_empty {s : ByteArray} (h : s.size = 0) : hasB s 0 = false := by
  have e : s.data.toList = [] := List.eq_nil_of_length_eq_zero (by rw [← Lib.size_eq s]; exact h)
  unfold hasB; rw [e]; rfl
end Go.Creel
