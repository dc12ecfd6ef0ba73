/-
  creellaw.sameTree, of two trees that are the same.
-/
import Derived.Test.YtaffgndickdbiaaDoorNodsOwn
import Derived.Test.YtaffgndickdbiaaDoorAlike
import Derived.Test.YtaffgndickdbiaaDoorBoxOf
namespace Go.Creel
set_option linter.unusedVariables false
set_option linter.unusedSimpArgs false
theorem bare_parts {x y : Nod} (h : x.bare = y.bare) : x.path = y.path ∧ x.kind = y.kind ∧ x.same = y.same ∧ x.target = y.target ∧ x.mt = y.mt ∧ x.data = y.data := by
  unfold Nod.bare at h
  simp only [Nod.mk.injEq, and_true, true_and] at h
  exact h
theorem bare_nk {l m : List Nod} (h : l.map Nod.bare = m.map Nod.bare) {k : Nat} (hk : k < l.length) : (nk l k).bare = (nk m k).bare := by
  have hl : l.length = m.length := by simpa using congrArg List.length h
  have h2 : (l.map Nod.bare)[k]? = (m.map Nod.bare)[k]? := by rw [h]
  rw [List.getElem?_map, List.getElem?_map, List.getElem?_eq_getElem hk, List.getElem?_eq_getElem (by omega)] at h2
  rw [nk_eq hk, nk_eq (by omega)]
  simpa using h2
theorem bare_len {l m : List Nod} (h : l.map Nod.bare = m.map Nod.bare) : l.length = m.length := by simpa using congrArg List.length h
end Go.Creel
namespace Go.Proofs.YtaffgndickdbiaaDoor
set_option linter.unusedVariables false
set_option linter.unusedSimpArgs false
open Go.Creel Go.RowKit
set_option maxRecDepth 100000 in
set_option maxHeartbeats 1000000 in
theorem SameNode_eq (x y : Nod) (w : World) (hxy : x.bare = y.bare) (hx : x.Ok maxLen w) (hy : y.Ok maxLen w) :
    Calls Tryd.prog 39 #[x.val, y.val] w fun e w' => e = .returned (.bool true) ∧ Below w.heap.size w w' := by
  obtain ⟨p, k, s, t, m, da, dc, d⟩ := x
  obtain ⟨p', k', s', t', m', da', dc', d'⟩ := y
  obtain ⟨h1, h2, h3, h4, h5, h6⟩ := bare_parts hxy
  simp only at h1 h2 h3 h4 h5 h6
  subst h1 h2 h3 h4 h5 h6
  have HB := Lib.hid fun o1 o2 : Obj => ((Below.refl w.heap.size w).alloc (Nat.le_refl _) o1).alloc (by simp) o2
  have HS := Lib.hid (fun o1 o2 : Obj => sameBytes_eq (N := maxLen) (M := maxLen) (.slice da d.length dc) (.slice da' d.length dc') d ((w.alloc o1).alloc o2) (hx.data.below (fun _ _ h => h) (HB.out o1 o2)) (hy.data.below (fun _ _ h => h) (HB.out o1 o2)))
  obtain ⟨mo, ui, gi, us, gr, se, na⟩ := m
  have q1 : (p.toList == p.toList) = true := by simp
  have q2 : (k == k) = true := by simp
  have q3 : (s == s) = true := by simp
  have q4 : (t.toList == t.toList) = true := by simp
  have q5 : (mo == mo) = true := by simp
  have q6 : (ui == ui) = true := by simp
  have q7 : (gi == gi) = true := by simp
  have q8 : (us.toList == us.toList) = true := by simp
  have q9 : (gr.toList == gr.toList) = true := by simp
  have q10 : (se == se) = true := by simp
  have q11 : (na == na) = true := by simp
  clear hx hy hxy
  go_enter Tryd.func39, Tryd.ntmps39
  go_wp2_with fail
  refine (HS.out _ _).mono ?_
  rintro e w1 ⟨rfl, rfl⟩
  go_wp2
  go_ret
  exact ⟨rfl, HB.out _ _⟩
set_option maxRecDepth 100000 in
set_option maxHeartbeats 1000000 in
theorem EqualNods_at (b off cap b2 off2 cap2 : Nat) (l m : List Nod) (w : World) (hpos : 0 < l.length) (hlm : l.map Nod.bare = m.map Nod.bare) (hle : l.length ≤ cap) (hm : cap ≤ maxLen) (hle2 : m.length ≤ cap2) (hm2 : cap2 ≤ maxLen) (hc : NodsAt w b off l) (hc2 : NodsAt w b2 off2 m)
    (hk : ∀ i, i < l.length → (nk l i).Ok maxLen w) (hk2 : ∀ i, i < m.length → (nk m i).Ok maxLen w) :
    Calls Tryd.prog 41 #[.slice (some ⟨b, off, none⟩) l.length cap, .slice (some ⟨b2, off2, none⟩) m.length cap2, .func (.func 39) #[] #[]] w fun e w' => e = .returned (.bool true) ∧ Below w.heap.size w w' := by
  have hl := bare_len hlm
  unfold maxLen at hm hm2
  have HC := Lib.hid hc
  have HC2 := Lib.hid (fun i (hi : i < l.length) => hc2 i (by omega))
  have HK := Lib.hid hk
  have HK2 := Lib.hid (fun i (hi : i < l.length) => hk2 i (by omega))
  have HLM := Lib.hid (fun k (hk : k < l.length) => bare_nk hlm hk)
  clear hc hc2 hk hk2 hlm
  rw [← hl] at hle2 ⊢
  clear hl
  generalize hn : l.length = n at *
  go_enter Tryd.func41, Tryd.ntmps41
  go_wp2
  go_loopw [7, 8, 9, 17] (fun _ _ _ i wr => ∃ k : Nat, k ≤ n ∧ i = .int .i64 k ∧ Hid (Below w.heap.size w wr)) (fun _ _ _ i _ => n - (intOf i).toNat)
  case atStart => exact ⟨0, by omega, rfl, Lib.hid (Below.refl _ _)⟩
  case round =>
    obtain ⟨k, hk, rfl, HB⟩ := hrel
    by_cases hlt : k < n
    · obtain ⟨h0, h1, h2, h3, h4, h5, h6, h7, h8, h9, h10, h11⟩ := (HC.out.below HB.out) k (by omega)
      obtain ⟨g0, g1, g2, g3, g4, g5, g6, g7, g8, g9, g10, g11⟩ := ((HC2.out k hlt).below HB.out).below ((Below.refl wr.heap.size wr).alloc (Nat.le_refl _) (boxOf (nk l k)))
      have HS := Lib.hid (fun (w3 : World) (hb : Below wr.heap.size wr w3) => SameNode_eq (nk l k) (nk m k) w3 (HLM.out k hlt) (((HK.out k hlt).below HB.out).below hb) (((HK2.out k hlt).below HB.out).below hb))
      generalize nk l k = x at *
      generalize nk m k = y at *
      go_wp2_with (go_at_call 39; have hbb := ((Below.refl wr.heap.size wr).alloc (Nat.le_refl _) (boxOf x)).alloc (by simp) (boxOf y); refine (HS.out _ hbb).mono ?_; rintro e w' ⟨rfl, hb2⟩; have HB2 := Lib.hid (HB.out.trans ((hbb.trans (hb2.mono hbb.size)).mono HB.out.size)); clear hb2 hbb)
      go_roundw
      case rel => exact ⟨k + 1, by omega, by go_num, HB2⟩
      case measure => simp [intOf]; omega
    · obtain rfl : k = n := by omega
      go_wp2
      go_ret
      exact ⟨rfl, HB.out⟩
set_option maxRecDepth 100000 in
theorem EqualNods_nil (a a2 : Option Addr) (cap cap2 : Nat) (f : Value) (w : World) :
    Calls Tryd.prog 41 #[.slice a 0 cap, .slice a2 0 cap2, f] w fun e w' => e = .returned (.bool true) ∧ w = w' := by
  go_enter Tryd.func41, Tryd.ntmps41
  go_wp2
  go_loop [7, 8, 9, 17] (fun _ _ _ i => i = .int .i64 0) (fun _ _ _ i => 0)
  case atStart => rfl
  case round =>
    obtain rfl := hrel
    go_wp2
    go_ret
    exact ⟨rfl, rfl⟩
set_option maxRecDepth 100000 in
theorem SameTree_eq (v u : Value) (l m : List Nod) (w : World) (hlm : l.map Nod.bare = m.map Nod.bare) (hv : SliceC maxLen 12 (NodC maxLen) w [v] l) (hu : SliceC maxLen 12 (NodC maxLen) w [u] m) :
    Calls Tryd.prog 16 #[v, u] w fun e w' => e = .returned (.bool true) ∧ Below w.heap.size w w' := by
  have hl := bare_len hlm
  have HQ : Hid (Calls Tryd.prog 41 #[v, u, .func (.func 39) #[] #[]] w fun e w' => e = .returned (.bool true) ∧ Below w.heap.size w w') := Lib.hid (by
    rcases nods_cases hv with ⟨a, cap, rfl, rfl, _⟩ | ⟨b, off, cap, rfl, h1, h2, h3, h6, h4, h5⟩
    · rcases nods_cases hu with ⟨a2, cap2, rfl, rfl, _⟩ | ⟨b, off, cap, rfl, h1, h2, h3, h6, h4, h5⟩
      · refine (EqualNods_nil a a2 cap cap2 _ w).mono ?_
        rintro e w' ⟨rfl, rfl⟩
        exact ⟨rfl, Below.refl _ _⟩
      · simp at hl; omega
    · rcases nods_cases hu with ⟨a2, cap2, rfl, rfl, _⟩ | ⟨b2, off2, cap2, rfl, g1, g2, g3, g6, g4, g5⟩
      · simp at hl; simp [hl] at h1
      · exact EqualNods_at b off cap b2 off2 cap2 l m w h1 hlm h2 h3 g2 g3 h4 g4 h5 g5)
  clear hv hu hlm
  go_enter Tryd.func16, Tryd.ntmps16
  go_wp2_with fail
  refine HQ.out.mono ?_
  rintro e w1 ⟨rfl, hb⟩
  have HB := Lib.hid hb
  clear hb
  go_wp2
  go_ret
  exact ⟨rfl, HB.out⟩
end Go.Proofs.YtaffgndickdbiaaDoor
