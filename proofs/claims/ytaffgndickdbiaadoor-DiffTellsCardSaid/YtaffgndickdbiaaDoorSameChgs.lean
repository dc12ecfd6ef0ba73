/-
  creellaw.sameChanges, of two lists that are the same.
-/
import Derived.Test.YtaffgndickdbiaaDoorChgsOwn
import Derived.Test.YtaffgndickdbiaaDoorSameTree
namespace Go.Creel
set_option linter.unusedVariables false
set_option linter.unusedSimpArgs false
open Go.RowKit
def ChgCells (w : World) (b o : Nat) (x : Chg) : Prop := w.cell? ⟨b, o, none⟩ = some (.int .i64 x.kind) ∧ w.cell? ⟨b, o + 1, none⟩ = some (.string x.node.path) ∧ w.cell? ⟨b, o + 2, none⟩ = some (.int .i64 x.node.kind) ∧ w.cell? ⟨b, o + 3, none⟩ = some (.int .i64 x.node.same) ∧ w.cell? ⟨b, o + 4, none⟩ = some (.string x.node.target) ∧ w.cell? ⟨b, o + 5, none⟩ = some (.int .i64 x.node.mt.mode) ∧ w.cell? ⟨b, o + 6, none⟩ = some (.int .i64 x.node.mt.uid) ∧ w.cell? ⟨b, o + 7, none⟩ = some (.int .i64 x.node.mt.gid) ∧ w.cell? ⟨b, o + 8, none⟩ = some (.string x.node.mt.user) ∧ w.cell? ⟨b, o + 9, none⟩ = some (.string x.node.mt.group) ∧ w.cell? ⟨b, o + 10, none⟩ = some (.int .i64 x.node.mt.second) ∧ w.cell? ⟨b, o + 11, none⟩ = some (.int .i64 x.node.mt.nano) ∧ w.cell? ⟨b, o + 12, none⟩ = some (.slice x.node.da x.node.data.length x.node.dcap)
theorem ChgAt.cells {w : World} {b o : Nat} {x : Chg} (h : ChgAt w b o x) : ChgCells w b o x := by
  obtain ⟨h0, h1, h2, h3, h4, h5, h6, h7, h8, h9, h10, h11, h12⟩ := h
  exact ⟨h0, h1, h2, h3, h4, h5, h6, h7, h8, h9, h10, h11, h12⟩
theorem ChgCells.below {w w' : World} {b o : Nat} {x : Chg} (h : ChgCells w b o x) (hb : Below w.heap.size w w') : ChgCells w' b o x := by
  have hlt : b < w.heap.size := World.block_lt_of_cell? w _ h.1
  obtain ⟨h0, h1, h2, h3, h4, h5, h6, h7, h8, h9, h10, h11, h12⟩ := h
  exact ⟨(hb.cell (p := ⟨b, o, none⟩) hlt).trans h0, (hb.cell (p := ⟨b, o + 1, none⟩) hlt).trans h1, (hb.cell (p := ⟨b, o + 2, none⟩) hlt).trans h2, (hb.cell (p := ⟨b, o + 3, none⟩) hlt).trans h3, (hb.cell (p := ⟨b, o + 4, none⟩) hlt).trans h4, (hb.cell (p := ⟨b, o + 5, none⟩) hlt).trans h5, (hb.cell (p := ⟨b, o + 6, none⟩) hlt).trans h6, (hb.cell (p := ⟨b, o + 7, none⟩) hlt).trans h7, (hb.cell (p := ⟨b, o + 8, none⟩) hlt).trans h8, (hb.cell (p := ⟨b, o + 9, none⟩) hlt).trans h9, (hb.cell (p := ⟨b, o + 10, none⟩) hlt).trans h10, (hb.cell (p := ⟨b, o + 11, none⟩) hlt).trans h11, (hb.cell (p := ⟨b, o + 12, none⟩) hlt).trans h12⟩
theorem chg_parts {x y : Chg} (h : x.bare = y.bare) : x.kind = y.kind ∧ x.node.bare = y.node.bare := by
  obtain ⟨k, n⟩ := x
  obtain ⟨k', n'⟩ := y
  unfold Chg.bare at h
  simp only [Chg.mk.injEq] at h
  exact h
theorem chg_len {l m : List Chg} (h : l.map Chg.bare = m.map Chg.bare) : l.length = m.length := by simpa using congrArg List.length h
theorem chg_ck {l m : List Chg} (h : l.map Chg.bare = m.map Chg.bare) {k : Nat} (hk : k < l.length) : (ck l k).bare = (ck m k).bare := by
  have hl := chg_len h
  have h2 : (l.map Chg.bare)[k]? = (m.map Chg.bare)[k]? := by rw [h]
  rw [List.getElem?_map, List.getElem?_map, List.getElem?_eq_getElem hk, List.getElem?_eq_getElem (by omega)] at h2
  rw [ck_eq hk, ck_eq (by omega)]
  simpa using h2
abbrev Chg.val (x : Chg) : Value := .agg #[.int .i64 x.kind, .string x.node.path, .int .i64 x.node.kind, .int .i64 x.node.same, .string x.node.target, .int .i64 x.node.mt.mode, .int .i64 x.node.mt.uid, .int .i64 x.node.mt.gid, .string x.node.mt.user, .string x.node.mt.group, .int .i64 x.node.mt.second, .int .i64 x.node.mt.nano, .slice x.node.da x.node.data.length x.node.dcap]
/-- an own row of changes, told of its slice -/
theorem chgs_row {t : TypeId} {w : World} {B : Nat} {v : Value} {l : List Chg} (h : OwnChgs t w B v l) : ∃ p cap, v = .slice p l.length cap ∧ l.length ≤ cap ∧ cap ≤ maxLen ∧ (0 < l.length → ∃ g, p = some ⟨g, 0, none⟩ ∧ ∀ k, k < l.length → ChgCells w g (k * 13) (ck l k) ∧ (ck l k).node.Ok maxLen w) := by
  rcases h.form with ⟨rfl, rfl⟩ | ⟨g, cap, rfl, hgB, hgw, hcap, hcapm⟩
  · exact ⟨none, 0, rfl, by simp, by unfold maxLen; omega, fun h => absurd h (by simp)⟩
  · exact ⟨_, cap, rfl, hcap, hcapm, fun _ => ⟨g, rfl, fun k hk => ⟨(h.chgAt hk).cells, (h.chgIn hk).2.1⟩⟩⟩
end Go.Creel
namespace Go.Proofs.YtaffgndickdbiaaDoor
set_option linter.unusedVariables false
set_option linter.unusedSimpArgs false
open Go.Creel Go.RowKit
abbrev boxC (x : Chg) : Obj := .cells #[.int .i64 x.kind, .string x.node.path, .int .i64 x.node.kind, .int .i64 x.node.same, .string x.node.target, .int .i64 x.node.mt.mode, .int .i64 x.node.mt.uid, .int .i64 x.node.mt.gid, .string x.node.mt.user, .string x.node.mt.group, .int .i64 x.node.mt.second, .int .i64 x.node.mt.nano, .slice x.node.da x.node.data.length x.node.dcap] 62
set_option maxRecDepth 100000 in
set_option maxHeartbeats 1000000 in
theorem SameChg_eq (x y : Chg) (w : World) (hxy : x.bare = y.bare) (hx : x.node.Ok maxLen w) (hy : y.node.Ok maxLen w) :
    Calls Tryd.prog 38 #[x.val, y.val] w fun e w' => e = .returned (.bool true) ∧ Below w.heap.size w w' := by
  obtain ⟨k, n⟩ := x
  obtain ⟨k', n'⟩ := y
  obtain ⟨h1, h2⟩ := chg_parts hxy
  simp only at h1 h2
  subst h1
  have HB := Lib.hid fun o1 o2 : Obj => ((Below.refl w.heap.size w).alloc (Nat.le_refl _) o1).alloc (by simp) o2
  have HS := Lib.hid (fun o1 o2 : Obj => SameNode_eq n n' ((w.alloc o1).alloc o2) h2 (hx.below (HB.out o1 o2)) (hy.below (HB.out o1 o2)))
  have q2 : (k == k) = true := by simp
  clear hx hy hxy h2
  go_enter Tryd.func38, Tryd.ntmps38
  go_wp2_with fail
  refine (HS.out _ _).mono ?_
  rintro e w1 ⟨rfl, hb⟩
  have HB2 := Lib.hid ((HB.out _ _).trans (hb.mono (HB.out _ _).size))
  clear hb
  go_wp2
  go_ret
  exact ⟨rfl, HB2.out⟩
set_option maxRecDepth 100000 in
set_option maxHeartbeats 1000000 in
theorem EqualChgs_any (v1 v2 : Value) (B1 B2 : Nat) (l m : List Chg) (w : World) (hlm : l.map Chg.bare = m.map Chg.bare) (ho1 : OwnChgs 62 w B1 v1 l) (ho2 : OwnChgs 62 w B2 v2 m) :
    Calls Tryd.prog 37 #[v1, v2, .func (.func 38) #[] #[]] w fun e w' => e = .returned (.bool true) ∧ Below w.heap.size w w' := by
  have hl := chg_len hlm
  obtain ⟨p1, cp1, rfl, hcl1, hcm1, hr1⟩ := chgs_row ho1
  obtain ⟨p2, cp2, rfl, hcl2, hcm2, hr2⟩ := chgs_row ho2
  rw [← hl] at hcl2 hr2 ⊢
  have HR1 := Lib.hid hr1
  have HR2 := Lib.hid hr2
  have HLM := Lib.hid (fun k (hk : k < l.length) => chg_ck hlm hk)
  unfold maxLen at hcm1 hcm2
  clear hl ho1 ho2 hlm hr1 hr2
  generalize hn : l.length = n at *
  go_enter Tryd.func37, Tryd.ntmps37
  go_wp2
  go_loopw [7, 8, 9, 17] (fun _ _ _ i wr => ∃ k : Nat, k ≤ n ∧ i = .int .i64 k ∧ Hid (Below w.heap.size w wr)) (fun _ _ _ i _ => n - (intOf i).toNat)
  case atStart => exact ⟨0, by omega, rfl, Lib.hid (Below.refl _ _)⟩
  case round =>
    obtain ⟨k, hk, rfl, HB⟩ := hrel
    by_cases hlt : k < n
    · obtain ⟨b1, rfl, hc1⟩ := HR1.out (by omega)
      obtain ⟨b2, rfl, hc2⟩ := HR2.out (by omega)
      obtain ⟨h0, h1, h2, h3, h4, h5, h6, h7, h8, h9, h10, h11, h12⟩ := (hc1 k hlt).1.below HB.out
      obtain ⟨g0, g1, g2, g3, g4, g5, g6, g7, g8, g9, g10, g11, g12⟩ := ((hc2 k hlt).1.below HB.out).below ((Below.refl wr.heap.size wr).alloc (Nat.le_refl _) (boxC (ck l k)))
      have HS := Lib.hid (fun (w3 : World) (hb : Below wr.heap.size wr w3) => SameChg_eq (ck l k) (ck m k) w3 (HLM.out k hlt) (((hc1 k hlt).2.below HB.out).below hb) (((hc2 k hlt).2.below HB.out).below hb))
      clear hc1 hc2
      generalize ck l k = x at *
      generalize ck m k = y at *
      go_wp2_with (go_at_call 38; have hbb := ((Below.refl wr.heap.size wr).alloc (Nat.le_refl _) (boxC x)).alloc (by simp) (boxC y); refine (HS.out _ hbb).mono ?_; rintro e w' ⟨rfl, hb2⟩; have HB2 := Lib.hid (HB.out.trans ((hbb.trans (hb2.mono hbb.size)).mono HB.out.size)); clear hb2 hbb)
      go_roundw
      case rel => exact ⟨k + 1, by omega, by go_num, HB2⟩
      case measure => simp [intOf]; omega
    · obtain rfl : k = n := by omega
      go_wp2
      go_ret
      exact ⟨rfl, HB.out⟩
set_option maxRecDepth 100000 in
theorem SameChgs_eq (v1 v2 : Value) (B1 B2 : Nat) (l m : List Chg) (w : World) (hlm : l.map Chg.bare = m.map Chg.bare) (ho1 : OwnChgs 62 w B1 v1 l) (ho2 : OwnChgs 62 w B2 v2 m) :
    Calls Tryd.prog 11 #[v1, v2] w fun e w' => e = .returned (.bool true) ∧ Below w.heap.size w w' := by
  have HQ := Lib.hid (EqualChgs_any v1 v2 B1 B2 l m w hlm ho1 ho2)
  clear hlm ho1 ho2
  go_enter Tryd.func11, Tryd.ntmps11
  go_wp2_with fail
  refine HQ.out.mono ?_
  rintro e w1 ⟨rfl, hb⟩
  have HB := Lib.hid hb
  clear hb
  go_wp2
  go_ret
  exact ⟨rfl, HB.out⟩
end Go.Proofs.YtaffgndickdbiaaDoor
