/-
  Texts: FindIn, ErrLaid, Laid, Bulk.
-/
import Derived.Test.YtaffgndickdbiaaGreatDoorR48
import Derived.LaidLaws
import Derived.Test.YtaffgndickdbiaaGreatDoorRows
import Derived.Deep.DeepHandedRow
set_option linter.unusedVariables false
set_option linter.unusedSimpArgs false
set_option linter.unusedSectionVars false
namespace Go.Creel
open Go.RowKit
theorem arcIn_len40 (b : List UInt8) : (arcIn b).1.length ≤ 40 := by
  unfold arcIn
  split
  · simp
  · split
    · simp
    · split
      · simp
      · rename_i h
        rcases Nat.lt_or_ge 40 (someOf b).1.length with h2 | h2
        · exact absurd (entsFault_many h2) (by intro e; exact h (by rw [e]; decide))
        · exact h2
theorem ents_someF {N : Nat} {w : World} {la : Option Addr} {lcap : Nat} {l : List Ent} (h : SliceC N 11 (EntC N) w [.slice la l.length lcap] l) (hp : 0 < l.length) : ∃ b off, la = some ⟨b, off, none⟩ ∧ EntsAt w b off l ∧ l.length ≤ lcap ∧ lcap ≤ maxLen := by
  rcases ents_cases h with ⟨a, cap, e, rfl, _⟩ | ⟨b, off, cap, e, _, h2, h3, _, h4, _⟩
  · simp at hp
  · simp only [Value.slice.injEq] at e
    obtain ⟨e1, _, e3⟩ := e
    exact ⟨b, off, e1, h4, by omega, by omega⟩
theorem findIn_bad {b : List UInt8} {s : ByteArray} {l : List Ent} {e : Int} (h : arcIn b = (l, e)) (he : ¬ e = 0) : findIn b s = (entNone, e) := by unfold findIn; rw [h]; simp only; rw [if_pos he]
theorem findIn_hit {b : List UInt8} {s : ByteArray} {l : List Ent} {k : Nat} (h : arcIn b = (l, 0)) (hk : entFind l s = k) (hlt : k < l.length) : findIn b s = (ek l k, 0) := by unfold findIn; rw [h]; simp only; rw [if_neg (by simp), if_pos (by rw [hk]; exact hlt), hk]
theorem findIn_none {b : List UInt8} {s : ByteArray} {l : List Ent} (h : arcIn b = (l, 0)) (hk : entFind l s = l.length) : findIn b s = (entNone, 5) := by unfold findIn; rw [h]; simp only; rw [if_neg (by simp), if_neg (by rw [hk]; omega)]
theorem OwnEnts.shape {t : TypeId} {w : World} {B : Nat} {v : Value} {l : List Ent} (h : OwnEnts t w B v l) : ∃ a c, v = .slice a l.length c := by
  rcases h.form with ⟨rfl, rfl⟩ | ⟨g, c, rfl, _⟩
  · exact ⟨none, 0, rfl⟩
  · exact ⟨_, c, rfl⟩
theorem ek_mem2 {l : List Ent} {k : Nat} (hk : k < l.length) : ek l k ∈ l := by rw [ek_eq hk]; exact List.getElem_mem hk
end Go.Creel
namespace Go.Proofs.YtaffgndickdbiaaGreatDoor
open Go.Creel Go.RowKit
set_option maxRecDepth 100000 in
set_option maxHeartbeats 2000000 in
theorem FindL_any (v : Value) (b : List UInt8) (s : ByteArray) (w : World) (h : SliceC maxLen 1 ByteC w [v] b) (hbl : b.length ≤ 1048576) (hM : MaxOk w) (hE : ErrsOk w) (hT : Pow10 w) :
    Calls Tryz.prog 26 #[v, .string s] w (RetFind w (findIn b s)) := by
  have HAR := Lib.hid (fun W (hb : Below w.heap.size w W) => ArcIn_any v b W (bytesBelow h hb) hbl (hM.below hb) (hE.below hb) (hT.below hb))
  have hlen := arcIn_len40 b
  obtain ⟨⟨l, e0⟩, hk⟩ : ∃ q, arcIn b = q := ⟨_, rfl⟩
  have HK1 := Lib.hid (fun he => findIn_bad (s := s) hk he)
  have HK2 := Lib.hid (fun (he : e0 = 0) k (h1 : entFind l s = k) (h2 : k < l.length) => findIn_hit (b := b) (by rw [hk, he]) h1 h2)
  have HK3 := Lib.hid (fun (he : e0 = 0) (h1 : entFind l s = l.length) => findIn_none (b := b) (by rw [hk, he]) h1)
  rw [hk] at HAR hlen
  simp only at hlen
  have HBZ := Lib.hid ((Below.refl w.heap.size w).alloc (Nat.le_refl _) (.cells #[.string ⟨#[]⟩, .int .i64 0, .string ⟨#[]⟩, .int .i64 0, .int .i64 0, .int .i64 0, .string ⟨#[]⟩, .string ⟨#[]⟩, .int .i64 0, .int .i64 0, .slice none 0 0] 26))
  have HRZ : Hid ((w.alloc (.cells #[.string ⟨#[]⟩, .int .i64 0, .string ⟨#[]⟩, .int .i64 0, .int .i64 0, .int .i64 0, .string ⟨#[]⟩, .string ⟨#[]⟩, .int .i64 0, .int .i64 0, .slice none 0 0] 26)).heap[w.heap.size]? = some (.cells #[.string ⟨#[]⟩, .int .i64 0, .string ⟨#[]⟩, .int .i64 0, .int .i64 0, .int .i64 0, .string ⟨#[]⟩, .string ⟨#[]⟩, .int .i64 0, .int .i64 0, .slice none 0 0] 26 (0, 0))) := Lib.hid (heap_alloc_new _ _)
  have hzs : w.heap.size < (w.alloc (.cells #[.string ⟨#[]⟩, .int .i64 0, .string ⟨#[]⟩, .int .i64 0, .int .i64 0, .int .i64 0, .string ⟨#[]⟩, .string ⟨#[]⟩, .int .i64 0, .int .i64 0, .slice none 0 0] 26)).heap.size := by simp
  clear h hM hE hT hk
  go_enter Tryz.func26, Tryz.ntmps26
  go_wp2_with fail
  refine (HAR.out _ HBZ.out).mono ?_
  rintro e w1 ⟨v1, l1, rfl, ho1, hbr, hpl, hb1⟩
  have HB1 := Lib.hid (HBZ.out.trans (hb1.mono HBZ.out.size))
  have HR1 := Lib.hid ((hb1.block _ (Array.getElem?_eq_some_iff.1 HRZ.out).1).trans HRZ.out)
  have hlr := (Array.getElem?_eq_some_iff.1 HR1.out).1
  have HO1 := Lib.hid ho1
  have HBR := Lib.hid hbr
  simp only at HBR
  have HLN := Lib.hid (bareE_len HBR.out)
  have hll : l1.length ≤ 40 := by rw [HLN.out]; exact hlen
  have HPL := Lib.hid (fun x hx p hp => Nat.lt_of_lt_of_le hzs (hpl x hx p hp))
  obtain ⟨av, cv, rfl⟩ := ho1.shape
  have HS1 := Lib.hid (ho1.slice (by unfold maxLen; omega))
  clear ho1 hbr hpl hb1 HAR hzs HRZ HBZ
  by_cases he : e0 = 0
  · subst he
    go_wp2_with fail
    go_loopw [9, 21] (fun _ i wr => ∃ k : Nat, k ≤ l1.length ∧ i = .int .i64 (k : Int) ∧ Hid (∀ j, j < k → (ek l1 j).path ≠ s) ∧ Hid (Below w1.heap.size w1 wr)) (fun _ i _ => l1.length - (intOf i).toNat)
    case atStart => exact ⟨0, by omega, rfl, Lib.hid (fun j hj => absurd hj (by omega)), Lib.hid (Below.refl _ _)⟩
    case round =>
      obtain ⟨k, hkl, rfl, HNE, HBK⟩ := hrel
      have HRK := Lib.hid ((HBK.out.block _ hlr).trans HR1.out)
      have HBB := Lib.hid (HB1.out.trans (HBK.out.mono HB1.out.size))
      by_cases hlt : k < l1.length
      · have HSK := Lib.hid (ents_below HS1.out HBK.out)
        obtain ⟨g, off, rfl, hce, _, _⟩ := ents_someF HSK.out (by omega)
        obtain ⟨h0, h1, h2, h3, h4, h5, h6, h7, h8, h9, h10⟩ := hce k hlt
        have HXO0 := Lib.hid ((HO1.out.entIn hlt).1.below HBK.out)
        have HPX0 := Lib.hid (HPL.out _ (ek_mem2 hlt))
        have HXB0 := Lib.hid (bareE_nk HBR.out hlt)
        have HEF := Lib.hid (fun hp => entFind_at (s := s) hlt HNE.out hp)
        clear hce HSK
        obtain ⟨x, hxe⟩ : ∃ x, x = ek l1 k := ⟨_, rfl⟩
        rw [← hxe] at HXO0 HPX0 HXB0 HEF h0 h1 h2 h3 h4 h5 h6 h7 h8 h9 h10
        have HXE := Lib.hid hxe
        clear hxe
        by_cases hp : x.path = s
        · have hb := seq_t hp
          have HF := Lib.hid (HK2.out (by first | rfl | trivial) k ((entFind_bare HBR.out s).symm.trans (HEF.out hp)) (by rw [← HLN.out]; exact hlt))
          clear hp HEF HK1 HK2 HK3
          have hrk := (Array.getElem?_eq_some_iff.1 HRK.out).1
          have hne1 := Nat.ne_of_lt hrk
          have hne2 := (Nat.ne_of_lt hrk).symm
          obtain ⟨r0, r1, r2, r3, r4, r5, r6, r7, r8, r9, r10⟩ := cells11 HRK.out
          obtain ⟨f0, f1, f2, f3, f4, f5, f6, f7, f8, f9, f10⟩ := froz11 HRK.out
          go_wp2
          (try simp only [Exit.inBlock, Exit.then])
          refine bodyPost_ret (v := .tuple #[x.val, .int .i64 0]) (by rw [results_cell_tmp rfl]; go_simp) rfl ?_
          rw [HF.out]
          have hg := grown_row w.heap.size [.string x.path, .int .i64 x.kind, .string x.target, .int .i64 x.mt.mode, .int .i64 x.mt.uid, .int .i64 x.mt.gid, .string x.mt.user, .string x.mt.group, .int .i64 x.mt.second, .int .i64 x.mt.nano, .slice x.da x.data.length x.dcap] wr 0
          have HD1 := bytesC_grown HXO0.out.data hg (fun p _ hp e => by have := HPX0.out p hp; simp at e; omega)
          have HB2 := Below.setRow (b := w.heap.size) (Nat.le_refl _) [.string x.path, .int .i64 x.kind, .string x.target, .int .i64 x.mt.mode, .int .i64 x.mt.uid, .int .i64 x.mt.gid, .string x.mt.user, .string x.mt.group, .int .i64 x.mt.second, .int .i64 x.mt.nano, .slice x.da x.data.length x.dcap] w wr 0 HBB.out
          exact ⟨x, rfl, HXB0.out, ⟨HXO0.out.path, HXO0.out.kind, HXO0.out.target, HXO0.out.mt, bytesBelow HD1 ((Below.refl _ _).alloc (Nat.le_refl _) _)⟩, HB2.alloc HB2.size _⟩
        · have hb := seq_f hp
          have HN := Lib.hid hp
          have HA := Lib.hid (HBK.out.alloc HBK.out.size (.cells #[.string x.path, .int .i64 x.kind, .string x.target, .int .i64 x.mt.mode, .int .i64 x.mt.uid, .int .i64 x.mt.gid, .string x.mt.user, .string x.mt.group, .int .i64 x.mt.second, .int .i64 x.mt.nano, .slice x.da x.data.length x.dcap] 26))
          clear hp HEF
          go_wp2
          go_roundw
          case rel => exact ⟨k + 1, by omega, by go_num, Lib.hid (fun j hj => by
            by_cases e : j = k
            · rw [e, ← HXE.out]; exact HN.out
            · exact HNE.out j (by omega)), HA⟩
          case measure => simp [intOf]; omega
      · obtain rfl : k = l1.length := by omega
        have HF := Lib.hid (HK3.out (by first | rfl | trivial) ((entFind_bare HBR.out s).symm.trans ((entFind_no HNE.out).trans HLN.out)))
        clear HK1 HK2 HK3
        obtain ⟨r0, r1, r2, r3, r4, r5, r6, r7, r8, r9, r10⟩ := cells11 HRK.out
        obtain ⟨f0, f1, f2, f3, f4, f5, f6, f7, f8, f9, f10⟩ := froz11 HRK.out
        go_wp2
        (try simp only [Exit.inBlock, Exit.then])
        refine bodyPost_ret (v := .tuple #[.agg #[.string ⟨#[]⟩, .int .i64 0, .string ⟨#[]⟩, .int .i64 0, .int .i64 0, .int .i64 0, .string ⟨#[]⟩, .string ⟨#[]⟩, .int .i64 0, .int .i64 0, .slice none 0 0], .int .i64 5]) (by rw [results_cell_tmp rfl]; go_simp) rfl ?_
        rw [HF.out]
        exact ⟨entNone, rfl, rfl, (entNone_out w _).2.1, Below.setRow (b := w.heap.size) (Nat.le_refl _) [.string ⟨#[]⟩, .int .i64 0, .string ⟨#[]⟩, .int .i64 0, .int .i64 0, .int .i64 0, .string ⟨#[]⟩, .string ⟨#[]⟩, .int .i64 0, .int .i64 0, .slice none 0 0] w wr 0 HBB.out⟩
  · have hq : (e0 != 0) = true := by rw [bne_iff_ne]; exact he
    have HF := Lib.hid (HK1.out he)
    clear HK1 HK2 HK3 he
    obtain ⟨r0, r1, r2, r3, r4, r5, r6, r7, r8, r9, r10⟩ := cells11 HR1.out
    obtain ⟨f0, f1, f2, f3, f4, f5, f6, f7, f8, f9, f10⟩ := froz11 HR1.out
    go_wp2
    (try simp only [Exit.inBlock, Exit.then])
    refine bodyPost_ret (v := .tuple #[.agg #[.string ⟨#[]⟩, .int .i64 0, .string ⟨#[]⟩, .int .i64 0, .int .i64 0, .int .i64 0, .string ⟨#[]⟩, .string ⟨#[]⟩, .int .i64 0, .int .i64 0, .slice none 0 0], .int .i64 e0]) (by rw [results_cell_tmp rfl]; go_simp) rfl ?_
    rw [HF.out]
    exact ⟨entNone, rfl, rfl, (entNone_out w _).2.1, Below.setRow (b := w.heap.size) (Nat.le_refl _) [.string ⟨#[]⟩, .int .i64 0, .string ⟨#[]⟩, .int .i64 0, .int .i64 0, .int .i64 0, .string ⟨#[]⟩, .string ⟨#[]⟩, .int .i64 0, .int .i64 0, .slice none 0 0] w w1 0 HB1.out⟩
set_option maxRecDepth 100000 in
theorem EntryAt_nilF (a : Option Addr) (cap : Nat) (s : ByteArray) (w : World) :
    Calls Tryz.prog 63 #[.slice a 0 cap, .string s] w fun e w' => e = .returned (.int .i64 0) ∧ w = w' := by
  go_enter Tryz.func63, Tryz.ntmps63
  go_wp2
  go_loop [5] (fun i => i = .int .i64 0) (fun i => 0)
  case atStart => rfl
  case round =>
    obtain rfl := hrel
    go_wp2
    go_ret
    exact ⟨rfl, rfl⟩
theorem EntryAt_anyF (v : Value) (l : List Ent) (s : ByteArray) (w : World) (h : SliceC maxLen 11 (EntC maxLen) w [v] l) :
    Calls Tryz.prog 63 #[v, .string s] w fun e w' => e = .returned (.int .i64 (entFind l s)) ∧ w = w' := by
  rcases ents_cases h with ⟨a, cap, rfl, rfl, _⟩ | ⟨b, off, cap, rfl, h1, h2, h3, _, h4, h5⟩
  · exact EntryAt_nilF a cap s w
  · exact EntryAt_at b off cap l s w h2 h3 h4
set_option maxRecDepth 100000 in
set_option maxHeartbeats 2000000 in
theorem FindR_any (v : Value) (b : List UInt8) (s : ByteArray) (w : World) (h : SliceC maxLen 1 ByteC w [v] b) (hbl : b.length ≤ 1048576) (hM : MaxOk w) (hE : ErrsOk w) (hT : Pow10 w) :
    Calls Tryz.prog 28 #[v, .string s] w (RetFind w (findIn b s)) := by
  have HAR := Lib.hid (fun W (hb : Below w.heap.size w W) => ArcOf_any v b W (bytesBelow h hb) hbl (hM.below hb) (hE.below hb) (hT.below hb))
  have hlen := arcIn_len40 b
  obtain ⟨⟨l, e0⟩, hk⟩ : ∃ q, arcIn b = q := ⟨_, rfl⟩
  have HK1 := Lib.hid (fun he => findIn_bad (s := s) hk he)
  have HK2 := Lib.hid (fun (he : e0 = 0) k (h1 : entFind l s = k) (h2 : k < l.length) => findIn_hit (b := b) (by rw [hk, he]) h1 h2)
  have HK3 := Lib.hid (fun (he : e0 = 0) (h1 : entFind l s = l.length) => findIn_none (b := b) (by rw [hk, he]) h1)
  rw [hk] at HAR hlen
  simp only at hlen
  have HBZ := Lib.hid ((Below.refl w.heap.size w).alloc (Nat.le_refl _) (.cells #[.string ⟨#[]⟩, .int .i64 0, .string ⟨#[]⟩, .int .i64 0, .int .i64 0, .int .i64 0, .string ⟨#[]⟩, .string ⟨#[]⟩, .int .i64 0, .int .i64 0, .slice none 0 0] 26))
  have HRZ : Hid ((w.alloc (.cells #[.string ⟨#[]⟩, .int .i64 0, .string ⟨#[]⟩, .int .i64 0, .int .i64 0, .int .i64 0, .string ⟨#[]⟩, .string ⟨#[]⟩, .int .i64 0, .int .i64 0, .slice none 0 0] 26)).heap[w.heap.size]? = some (.cells #[.string ⟨#[]⟩, .int .i64 0, .string ⟨#[]⟩, .int .i64 0, .int .i64 0, .int .i64 0, .string ⟨#[]⟩, .string ⟨#[]⟩, .int .i64 0, .int .i64 0, .slice none 0 0] 26 (0, 0))) := Lib.hid (heap_alloc_new _ _)
  have hzs : w.heap.size < (w.alloc (.cells #[.string ⟨#[]⟩, .int .i64 0, .string ⟨#[]⟩, .int .i64 0, .int .i64 0, .int .i64 0, .string ⟨#[]⟩, .string ⟨#[]⟩, .int .i64 0, .int .i64 0, .slice none 0 0] 26)).heap.size := by simp
  clear h hM hE hT hk
  go_enter Tryz.func28, Tryz.ntmps28
  go_wp2_with fail
  refine (HAR.out _ HBZ.out).mono ?_
  rintro e w1 ⟨v1, l1, rfl, ho1, hbr, hpl, hb1⟩
  have HB1 := Lib.hid (HBZ.out.trans (hb1.mono HBZ.out.size))
  have HR1 := Lib.hid ((hb1.block _ (Array.getElem?_eq_some_iff.1 HRZ.out).1).trans HRZ.out)
  have hlr := (Array.getElem?_eq_some_iff.1 HR1.out).1
  have HO1 := Lib.hid ho1
  have HBR := Lib.hid hbr
  simp only at HBR
  have HLN := Lib.hid (bareE_len HBR.out)
  have hll : l1.length ≤ 40 := by rw [HLN.out]; exact hlen
  have HPL := Lib.hid (fun x hx p hp => Nat.lt_of_lt_of_le hzs (hpl x hx p hp))
  obtain ⟨av, cv, rfl⟩ := ho1.shape
  have HS1 := Lib.hid (ho1.slice (by unfold maxLen; omega))
  clear ho1 hbr hpl hb1 HAR hzs HRZ HBZ
  by_cases he : e0 = 0
  · subst he
    have HEA := Lib.hid (EntryAt_anyF _ l1 s w1 HS1.out)
    have hef := entFind_le l1 s
    have HEB := Lib.hid (entFind_bare HBR.out s)
    go_wp2_with fail
    refine HEA.out.mono ?_
    rintro e w2 ⟨rfl, rfl⟩
    obtain ⟨k, hkk⟩ : ∃ k, k = entFind l1 s := ⟨_, rfl⟩
    rw [← hkk] at hef HEB ⊢
    clear HEA hkk
    by_cases hlt : k < l1.length
    · obtain ⟨g, off, rfl, hce, _, _⟩ := ents_someF HS1.out (by omega)
      obtain ⟨h0, h1, h2, h3, h4, h5, h6, h7, h8, h9, h10⟩ := hce k hlt
      have HXO0 := Lib.hid (HO1.out.entIn hlt).1
      have HPX0 := Lib.hid (HPL.out _ (ek_mem2 hlt))
      have HXB0 := Lib.hid (bareE_nk HBR.out hlt)
      have HF := Lib.hid (HK2.out (by first | rfl | trivial) k HEB.out.symm (by rw [← HLN.out]; exact hlt))
      have hd : decide ((k : Int) < (l1.length : Int)) = true := by rw [decide_eq_true_iff]; omega
      clear hce HK1 HK2 HK3
      generalize ek l1 k = x at *
      obtain ⟨r0, r1, r2, r3, r4, r5, r6, r7, r8, r9, r10⟩ := cells11 HR1.out
      obtain ⟨f0, f1, f2, f3, f4, f5, f6, f7, f8, f9, f10⟩ := froz11 HR1.out
      go_wp2
      (try simp only [Exit.inBlock, Exit.then])
      refine bodyPost_ret (v := .tuple #[x.val, .int .i64 0]) (by rw [results_cell_tmp rfl]; go_simp) rfl ?_
      rw [HF.out]
      have hg := grown_row w.heap.size [.string x.path, .int .i64 x.kind, .string x.target, .int .i64 x.mt.mode, .int .i64 x.mt.uid, .int .i64 x.mt.gid, .string x.mt.user, .string x.mt.group, .int .i64 x.mt.second, .int .i64 x.mt.nano, .slice x.da x.data.length x.dcap] w1 0
      have HD1 := bytesC_grown HXO0.out.data hg (fun p _ hp e => by have := HPX0.out p hp; simp at e; omega)
      exact ⟨x, rfl, HXB0.out, ⟨HXO0.out.path, HXO0.out.kind, HXO0.out.target, HXO0.out.mt, HD1⟩, Below.setRow (b := w.heap.size) (Nat.le_refl _) [.string x.path, .int .i64 x.kind, .string x.target, .int .i64 x.mt.mode, .int .i64 x.mt.uid, .int .i64 x.mt.gid, .string x.mt.user, .string x.mt.group, .int .i64 x.mt.second, .int .i64 x.mt.nano, .slice x.da x.data.length x.dcap] w w1 0 HB1.out⟩
    · have hd : decide ((k : Int) < (l1.length : Int)) = false := by rw [decide_eq_false_iff_not]; omega
      have HF := Lib.hid (HK3.out (by first | rfl | trivial) (HEB.out.symm.trans (by have := HLN.out; omega)))
      clear HK1 HK2 HK3
      obtain ⟨r0, r1, r2, r3, r4, r5, r6, r7, r8, r9, r10⟩ := cells11 HR1.out
      obtain ⟨f0, f1, f2, f3, f4, f5, f6, f7, f8, f9, f10⟩ := froz11 HR1.out
      go_wp2
      (try simp only [Exit.inBlock, Exit.then])
      refine bodyPost_ret (v := .tuple #[.agg #[.string ⟨#[]⟩, .int .i64 0, .string ⟨#[]⟩, .int .i64 0, .int .i64 0, .int .i64 0, .string ⟨#[]⟩, .string ⟨#[]⟩, .int .i64 0, .int .i64 0, .slice none 0 0], .int .i64 5]) (by rw [results_cell_tmp rfl]; go_simp) rfl ?_
      rw [HF.out]
      exact ⟨entNone, rfl, rfl, (entNone_out w _).2.1, Below.setRow (b := w.heap.size) (Nat.le_refl _) [.string ⟨#[]⟩, .int .i64 0, .string ⟨#[]⟩, .int .i64 0, .int .i64 0, .int .i64 0, .string ⟨#[]⟩, .string ⟨#[]⟩, .int .i64 0, .int .i64 0, .slice none 0 0] w w1 0 HB1.out⟩
  · have hq : (e0 != 0) = true := by rw [bne_iff_ne]; exact he
    have HF := Lib.hid (HK1.out he)
    clear HK1 HK2 HK3 he
    obtain ⟨r0, r1, r2, r3, r4, r5, r6, r7, r8, r9, r10⟩ := cells11 HR1.out
    obtain ⟨f0, f1, f2, f3, f4, f5, f6, f7, f8, f9, f10⟩ := froz11 HR1.out
    go_wp2
    (try simp only [Exit.inBlock, Exit.then])
    refine bodyPost_ret (v := .tuple #[.agg #[.string ⟨#[]⟩, .int .i64 0, .string ⟨#[]⟩, .int .i64 0, .int .i64 0, .int .i64 0, .string ⟨#[]⟩, .string ⟨#[]⟩, .int .i64 0, .int .i64 0, .slice none 0 0], .int .i64 e0]) (by rw [results_cell_tmp rfl]; go_simp) rfl ?_
    rw [HF.out]
    exact ⟨entNone, rfl, rfl, (entNone_out w _).2.1, Below.setRow (b := w.heap.size) (Nat.le_refl _) [.string ⟨#[]⟩, .int .i64 0, .string ⟨#[]⟩, .int .i64 0, .int .i64 0, .int .i64 0, .string ⟨#[]⟩, .string ⟨#[]⟩, .int .i64 0, .int .i64 0, .slice none 0 0] w w1 0 HB1.out⟩
end Go.Proofs.YtaffgndickdbiaaGreatDoor
namespace Go.Creel
open Go.RowKit
theorem errAt_laid {P : Program} {W : World} {name tn : String} {dd : DataW Unit} {g : Nat} {t : TypeId} {ms : Array (String × TypeId)}
    (hg : P.globalNamed name = some g) (hty : (P.globals[g]?).map (·.type) = some t) (ht : P.underlying t = some (.interface ms)) :
    ∀ (laid : List (String × DataW Unit)) (ps : List MemPlace) (i : Nat), DataW.LaidVars P W laid ps → laid[i]? = some (name, .iface tn dd) → ErrAt W g
  | [], _, i, _, hi => by simp at hi
  | (n', d) :: r, ps, 0, h, hi => by
    obtain ⟨g', t', cs, fuel, p, q, hg', ht', hvar, hd, _, _⟩ := h
    simp only [List.getElem?_cons_zero, Option.some.injEq, Prod.mk.injEq] at hi
    obtain ⟨rfl, rfl⟩ := hi
    obtain rfl := Option.some.inj (hg.symm.trans hg')
    obtain rfl := Option.some.inj (hty.symm.trans ht')
    obtain ⟨_, u, v, hcs, _, _⟩ := iface_of_trod ht hd
    have h0 := World.var?_cell hg hvar 0
    have h1 : cs[0]? = some (.iface u v) := by rw [← Array.getElem?_toList, hcs]; rfl
    exact ⟨_, h0.trans h1, .inr ⟨_, _, rfl⟩⟩
  | (n', d) :: r, ps, i + 1, h, hi => by
    obtain ⟨g', t', cs, fuel, p, q, hg', ht', hvar, hd, hr, _⟩ := h
    exact errAt_laid hg hty ht r q i hr (by simpa using hi)
theorem bytes_wide {w : World} {v : Value} {l : List UInt8} (h : SliceC 1048576 1 ByteC w [v] l) : SliceC maxLen 1 ByteC w [v] l ∧ l.length ≤ 1048576 := by
  obtain ⟨a, cap, hv, h1, h2, h3, h4, h5⟩ := h
  exact ⟨⟨a, cap, hv, h1, h2, Nat.le_trans h3 (by unfold maxLen; decide), h4, h5⟩, h3⟩
def dcells : Nat → DataW Unit → List Value
  | 0, _ => []
  | _ + 1, .lit (.int k n) => [.int k n]
  | m + 1, .agg ps => ps.flatMap (dcells m)
  | _ + 1, _ => []
def layAll (w : World) (l : List (Nat × DataW Unit)) : World :=
  { w with heap := l.foldl (fun h x => h.modify x.1 fun
    | .cells _ t fr => .cells (dcells 4 x.2).toArray t fr
    | o => o) w.heap }
def layErr (w : World) (x : Nat × TypeId × TypeId × List UInt8) : World :=
  { w with heap := (w.heap.push (.cells #[.string ⟨x.2.2.2.toArray⟩] x.2.2.1 (0, 0))).modify x.1 fun
    | .cells _ t fr => .cells #[.iface x.2.1 (.pointer (some ⟨w.heap.size, 0, none⟩))] t fr
    | o => o }
end Go.Creel
namespace Go.Proofs.YtaffgndickdbiaaGreatDoor
open Go.Creel
def bulkS (H : Type) (d : DataW H) : Prop := Rows.uptoBulk d ≤ 1048576
theorem bulk_one {H : Type} (d : DataW H) : 1 ≤ Rows.uptoBulk d := by
  cases d with
  | lit l => cases l <;> simp [Rows.uptoBulk]
  | nil => simp [Rows.uptoBulk]
  | ptr d => simp [Rows.uptoBulk]
  | slice elems spare => simp [Rows.uptoBulk]
  | agg parts => simp [Rows.uptoBulk]
  | iface t d => simp [Rows.uptoBulk]
  | map entries => simp [Rows.uptoBulk]
  | held h => simp [Rows.uptoBulk]
theorem bulk_part {H : Type} {d : DataW H} {l : List (DataW H)} (h : d ∈ l) : Rows.uptoBulk d ≤ Rows.uptoBulkAll l := by
  induction l with
  | nil => cases h
  | cons x r ih =>
    simp only [Rows.uptoBulkAll]
    cases List.mem_cons.1 h with
    | inl e => subst e; omega
    | inr e => have := ih e; omega
theorem bulk_length {H : Type} (l : List (DataW H)) : l.length ≤ Rows.uptoBulkAll l := by
  induction l with
  | nil => simp [Rows.uptoBulkAll]
  | cons x r ih => have := bulk_one x; simp only [Rows.uptoBulkAll, List.length_cons]; omega
theorem bulk_bd (H : Type) : Bd H (bulkS H) 1048576 where
  str l h _ := by
    simp only [bulkS, Rows.uptoBulk] at h
    omega
  slc el sp h _ := by
    simp only [bulkS, Rows.uptoBulk] at h
    have := bulk_length el
    exact ⟨by omega, fun d hd => by have := bulk_part hd; unfold bulkS; omega⟩
  agg ps h d hd := by
    simp only [bulkS, Rows.uptoBulk] at h
    have := bulk_part hd
    unfold bulkS; omega
theorem bulk_mem {H : Type} {ds : List (DataW H)} {d : DataW H} (hk : Rows.uptoSmall H ds = true) (h : d ∈ ds) : bulkS H d := by
  have h1 : Rows.uptoBulkAll ds ≤ 1048576 := of_decide_eq_true hk
  have := bulk_part h
  unfold bulkS; omega
end Go.Proofs.YtaffgndickdbiaaGreatDoor
