/-
  creelref.PartFits, walked.
-/
import Derived.Test.YtecmcgedeaemgaaDoorFitSpec
import Derived.Test.YtecmcgedeaemgaaDoorTable
import Derived.Test.YtecmcgedeaemgaaDoorGlobTokW
import Derived.Test.YtecmcgedeaemgaaDoorEnter
namespace Go.Creel
set_option linter.unusedVariables false
set_option linter.unusedSimpArgs false
open Go.RowKit
theorem Tok.cells_len (x : Tok) : x.cells.length = 257 := by simp [Tok.cells, tokCells]
theorem tok_flat : ∀ (l : List Tok) (k j : Nat), k < l.length → j < 257 → (l.flatMap Tok.cells)[k * 257 + j]? = (l.getD k noTok).cells[j]?
  | [], _, _, h, _ => absurd h (by simp)
  | x :: r, 0, j, _, hj => by
    rw [List.flatMap_cons, Nat.zero_mul, Nat.zero_add, List.getElem?_append_left (by rw [Tok.cells_len]; omega)]
    rfl
  | x :: r, k + 1, j, hk, hj => by
    rw [List.flatMap_cons, List.getElem?_append_right (by rw [Tok.cells_len]; omega), Tok.cells_len]
    have e : (k + 1) * 257 + j - 257 = k * 257 + j := by omega
    rw [e, tok_flat r k j (by simpa using hk) hj]
    rfl
theorem OwnToks.form {t : TypeId} {w : World} {B : Nat} {v : Value} {l : List Tok} (h : OwnToks t w B v l) : (v = .slice none 0 0 ∧ l = []) ∨ ∃ g cap, v = .slice (some ⟨g, 0, none⟩) l.length cap ∧ B ≤ g ∧ g < w.heap.size ∧ l.length ≤ cap ∧ cap ≤ maxLen := by
  rcases h.2 with ⟨h1, h2⟩ | ⟨g', cap', cur, h', hB, hg, h5, h6, h7, h8⟩
  · exact .inl ⟨h1, List.eq_nil_of_length_eq_zero h2⟩
  · exact .inr ⟨g', cap', h', hB, (Array.getElem?_eq_some_iff.1 hg).1, by omega, by omega⟩
theorem OwnToks.star {t : TypeId} {w : World} {B g cap : Nat} {l : List Tok} (h : OwnToks t w B (.slice (some ⟨g, 0, none⟩) l.length cap) l) {k : Nat} (hk : k < l.length) : w.cell? ⟨g, k * 257, none⟩ = some (.bool (l.getD k noTok).star) :=
by
  have hj : k * 257 < l.length * 257 := by omega
  have e := tok_flat l k 0 hk (by omega)
  rw [Nat.add_zero] at e
  rw [World.ownsRow.cellAt h _ hj, e]
  rfl
theorem OwnToks.fit {t : TypeId} {w : World} {B g cap : Nat} {l : List Tok} (h : OwnToks t w B (.slice (some ⟨g, 0, none⟩) l.length cap) l) {k c : Nat} (hk : k < l.length) (hc : c < 256) : w.cell? ⟨g, k * 257 + 1 + c, none⟩ = some (.bool ((l.getD k noTok).fits c)) := by
  have hj : k * 257 + 1 + c < l.length * 257 := by omega
  rw [World.ownsRow.cellAt h _ hj, Nat.add_assoc, tok_flat l k (1 + c) hk (by omega)]
  simp only [Tok.cells, tokCells]
  rw [Nat.add_comm 1 c, List.getElem?_cons_succ, List.getElem?_map, List.getElem?_range hc]
  rfl
/-- what the closures read: the signs of the pattern, and the text -/
structure TokE (t : TypeId) (w : World) (bl bs : Nat) (v : Value) (B : Nat) (l : List Tok) (s : ByteArray) : Prop where
  lst : w.cell? ⟨bl, 0, none⟩ = some v
  own : OwnToks t w B v l
  str : w.cell? ⟨bs, 0, none⟩ = some (.string s)
theorem TokE.below {t : TypeId} {w w' : World} {bl bs B : Nat} {v : Value} {l : List Tok} {s : ByteArray} (h : TokE t w bl bs v B l s) (hb : Below w.heap.size w w') : TokE t w' bl bs v B l s :=
  ⟨(hb.cell (p := ⟨bl, 0, none⟩) (World.block_lt_of_cell? w _ h.lst)).trans h.lst, h.own.below hb, (hb.cell (p := ⟨bs, 0, none⟩) (World.block_lt_of_cell? w _ h.str)).trans h.str⟩
end Go.Creel
namespace Go.Proofs.YtecmcgedeaemgaaDoor
set_option linter.unusedVariables false
set_option linter.unusedSimpArgs false
open Go.Creel Go.RowKit
set_option maxRecDepth 100000 in
theorem PartR1_any (bl bs B i : Nat) (v : Value) (l : List Tok) (s : ByteArray) (w : World) (h : TokE 127 w bl bs v B l s) (hi : i < l.length) (hl : l.length ≤ 1000) :
    Calls Tryd.prog 111 #[.int .i64 i, .pointer (some ⟨bl, 0, none⟩)] w fun e w' => e = .returned (.bool (l.getD i noTok).star) ∧ Below w.heap.size w w' := by
  have c0 := h.lst
  have ho := h.own
  rcases ho.form with ⟨_, e0⟩ | ⟨g, cap, rfl, _, _, hcap, hcm⟩
  · subst e0; exact absurd hi (by simp)
  · have c1 := ho.star hi
    clear h ho
    unfold maxLen at hcm
    generalize l.getD i noTok = p at *
    go_enter Tryd.func111, Tryd.ntmps111
    go_wp2
    go_ret
    exact ⟨rfl, Below.refl _ _⟩
set_option maxRecDepth 100000 in
theorem PartR2_any (bl bs B i k : Nat) (v : Value) (l : List Tok) (s : ByteArray) (w : World) (h : TokE 127 w bl bs v B l s) (hi : i < l.length) (hl : l.length ≤ 1000) (hk : k < s.size) (hs : s.size ≤ 1000) :
    Calls Tryd.prog 112 #[.int .i64 i, .int .i64 k, .pointer (some ⟨bl, 0, none⟩), .pointer (some ⟨bs, 0, none⟩)] w fun e w' => e = .returned (.bool ((l.getD i noTok).fits (byt s k))) ∧ Below w.heap.size w w' := by
  have c0 := h.lst
  have c2 := h.str
  have ho := h.own
  rcases ho.form with ⟨_, e0⟩ | ⟨g, cap, rfl, _, _, hcap, hcm⟩
  · subst e0; exact absurd hi (by simp)
  · have c1 := ho.fit hi (byt_lt s k)
    clear h ho
    unfold maxLen at hcm
    have hbl := byt_lt s k
    rw [← byt_get s k hk] at c1 hbl ⊢
    generalize l.getD i noTok = p at *
    have hil : (i : Int) < (l.length : Int) := by omega
    have hbi : ((s[k].toNat : Nat) : Int) < 256 := by omega
    go_enter Tryd.func112, Tryd.ntmps112
    go_wp2
    go_quiet (fail)
    go_wp2
    go_ret
    exact ⟨rfl, below_draws _ _ _⟩
set_option maxRecDepth 100000 in
set_option maxHeartbeats 1000000 in
theorem PartFits_any (p s : ByteArray) (w : World) (hok : okAt p 0 = true) (h1 : 1 ≤ p.size) (hp : p.size ≤ 400) (hs : s.size ≤ 400) :
    Calls Tryd.prog 67 #[.string p, .string s] w fun e w' => e = .returned (.bool (partFits p s)) ∧ Below w.heap.size w w' := by
  have hcl := cuts_len hok
  have hne : 0 < (cuts p 0).length := by
    have hb : ¬ tokBad p 0 := fun hb => by rw [okAt_bad (by omega) hb] at hok; cases hok
    rw [cuts_more (by omega) hb]; simp
  have hsome : ∃ l, toks p 0 = some l := by
    unfold okAt at hok
    cases h : toks p 0 with
    | none => rw [h] at hok; cases hok
    | some l => exact ⟨l, rfl⟩
  obtain ⟨l, hl⟩ := hsome
  have hll := (toks_cuts _ 0 l rfl hl).1
  have HF := Lib.hid (partFits_toks p s l hl)
  have HT := Lib.hid (fun w => tokens_any p w (by omega))
  rw [hl] at HT
  have hlp : l.length ≤ 400 := by omega
  have hl0 : 0 < l.length := by omega
  clear hcl hne hok hl hll
  have HW := Lib.hid (fun (bl bs B : Nat) (v : Value) (w : World) (h : TokE 127 w bl bs v B l s) =>
    Table_any l.length s.size 111 112 ⟨bl, 0, none⟩ ⟨bs, 0, none⟩ (fun i => (l.getD i noTok).star) (fun i k => (l.getD i noTok).fits (byt s k)) w (by omega) (by omega)
      (enter_of Tryd.func111 (by kernel_rfl) (by kernel_rfl)) (enter_of Tryd.func112 (by kernel_rfl) (by kernel_rfl))
      (fun w' i hb hi => PartR1_any bl bs B i v _ s w' (h.below hb) hi (by omega))
      (fun w' i k hb hi hk => PartR2_any bl bs B i k v _ s w' (h.below hb) hi (by omega) hk (by omega)))
  go_enter Tryd.func67, Tryd.ntmps67
  go_wp2_with fail
  refine (HT.out _).mono ?_
  rintro e w1 ⟨v, rfl, ho0, hb⟩
  have ho : OwnToks 127 w1 (w.alloc (Obj.cells #[Value.string s] 9)).heap.size v l := ho0
  clear ho0
  have hsz : w.heap.size < w1.heap.size := by have := hb.size; simp at this; omega
  have hcs : w1.cell? ⟨w.heap.size, 0, none⟩ = some (.string s) := (hb.cell (p := ⟨w.heap.size, 0, none⟩) (by simp)).trans (by simp)
  have HE := Lib.hid (show TokE 127 (w1.alloc (.cells #[v] 121)) w1.heap.size w.heap.size v _ l s from ⟨by simp, ho.below ((Below.refl _ _).alloc (Nat.le_refl _) _), ((Below.refl w1.heap.size w1).alloc (Nat.le_refl _) _).cell (p := ⟨w.heap.size, 0, none⟩) hsz |>.trans hcs⟩)
  have HB1 := Lib.hid (((Below.refl w.heap.size w).alloc (Nat.le_refl _) _).trans (hb.mono (by simp)))
  rcases ho.form with ⟨rfl, e0⟩ | ⟨g, cap, rfl, _, _, hcap, hcm⟩
  · have e0' : l = [] := e0
    rw [e0'] at hl0; simp at hl0
  · clear ho hb hcs
    have hc2 := HE.out.str
    go_wp2_with fail
    refine (HW.out _ _ _ _ _ HE.out).mono ?_
    rintro e w2 ⟨rfl, hb⟩
    have HB2 := Lib.hid ((HB1.out.alloc HB1.out.size _).trans (hb.mono (by have := HB1.out.size; simp; omega)))
    rw [← HF.out]
    clear hb
    go_wp2
    go_ret
    exact ⟨rfl, HB2.out⟩
end Go.Proofs.YtecmcgedeaemgaaDoor
