/-
  diff.Of, walked.
-/
import Derived.Test.YtaffgndickdbiaaDoorNote
import Derived.Test.YtaffgndickdbiaaDoorSameN
import Derived.Test.YtaffgndickdbiaaDoorCompare
import Derived.StillTailTactics
import Derived.Deep.CutRange
import Derived.Deep.RegionHeld3
namespace Go.Creel
set_option linter.unusedVariables false
set_option linter.unusedSimpArgs false
open Go.RowKit
theorem othN_bare {x y n : Nod} (h : n.bare = y.bare) (hne : ¬ x.bare = y.bare) : [(⟨3, n⟩ : Chg)].map Chg.bare = (othN x y).map Chg.bare := by
  unfold othN; rw [if_neg hne]; simp [Chg.bare, h]
theorem othN_same {x y : Nod} (h : x.bare = y.bare) : othN x y = [] := by unfold othN; rw [if_pos h]
/-- where the walk stands: what was said, and what is left -/
def DiffTo (a b : List Nod) (i k : Nat) (o : List Chg) : Prop := o.map Chg.bare ++ (diffL (a.drop i) (b.drop k)).map Chg.bare = (diffL a b).map Chg.bare
section
variable {a b : List Nod} {i k : Nat} {o : List Chg} {n : Nod}
theorem drop_nk {l : List Nod} {i : Nat} (h : i < l.length) : l.drop i = nk l i :: l.drop (i + 1) := by rw [List.drop_eq_getElem_cons h, nk_eq h]
theorem DiffTo.start (a b : List Nod) : DiffTo a b 0 0 [] := by unfold DiffTo; simp
theorem DiffTo.done (h : DiffTo a b a.length b.length o) : o.map Chg.bare = (diffL a b).map Chg.bare := by
  unfold DiffTo at h; rw [List.drop_length, List.drop_length, diffL_nil] at h; simpa using h
theorem DiffTo.step {d : List Chg} {i' k' : Nat} {o' : List Chg} (h : DiffTo a b i k o) (hd : diffL (a.drop i) (b.drop k) = d ++ diffL (a.drop i') (b.drop k')) (ho : o'.map Chg.bare = d.map Chg.bare) : DiffTo a b i' k' (o ++ o') := by
  unfold DiffTo at h ⊢
  rw [← h, hd, List.map_append, List.map_append, ho, List.append_assoc]
theorem DiffTo.left (h : DiffTo a b i b.length o) (hi : i < a.length) (hn : n.bare = (nk a i).bare) : DiffTo a b (i + 1) b.length (o ++ [⟨1, n⟩]) :=
  h.step (d := [⟨1, nk a i⟩]) (by rw [drop_nk hi, List.drop_length, diffL_left]; rfl) (by simp [Chg.bare, hn])
theorem DiffTo.right (h : DiffTo a b a.length k o) (hk : k < b.length) (hn : n.bare = (nk b k).bare) : DiffTo a b a.length (k + 1) (o ++ [⟨2, n⟩]) :=
  h.step (d := [⟨2, nk b k⟩]) (by rw [drop_nk hk, List.drop_length, diffL_nil, diffL_nil]; rfl) (by simp [Chg.bare, hn])
theorem DiffTo.lt (h : DiffTo a b i k o) (hi : i < a.length) (hk : k < b.length) (e : ordN (nk a i) (nk b k) = -1) (hn : n.bare = (nk a i).bare) : DiffTo a b (i + 1) k (o ++ [⟨1, n⟩]) :=
  h.step (d := [⟨1, nk a i⟩]) (by rw [drop_nk hi, drop_nk hk, diffL_lt e]; rfl) (by simp [Chg.bare, hn])
theorem DiffTo.gt (h : DiffTo a b i k o) (hi : i < a.length) (hk : k < b.length) (e : ordN (nk a i) (nk b k) = 1) (hn : n.bare = (nk b k).bare) : DiffTo a b i (k + 1) (o ++ [⟨2, n⟩]) :=
  h.step (d := [⟨2, nk b k⟩]) (by rw [drop_nk hi, drop_nk hk, diffL_gt e]; rfl) (by simp [Chg.bare, hn])
theorem DiffTo.eq (h : DiffTo a b i k o) (hi : i < a.length) (hk : k < b.length) (e : ordN (nk a i) (nk b k) = 0) (hne : ¬ (nk a i).bare = (nk b k).bare) (hn : n.bare = (nk b k).bare) : DiffTo a b (i + 1) (k + 1) (o ++ [⟨3, n⟩]) :=
  h.step (d := othN (nk a i) (nk b k)) (by rw [drop_nk hi, drop_nk hk, diffL_eq e]) (othN_bare hn hne)
theorem DiffTo.same (h : DiffTo a b i k o) (hi : i < a.length) (hk : k < b.length) (e : ordN (nk a i) (nk b k) = 0) (hs : (nk a i).bare = (nk b k).bare) : DiffTo a b (i + 1) (k + 1) o := by
  have := h.step (d := othN (nk a i) (nk b k)) (o' := []) (i' := i + 1) (k' := k + 1) (by rw [drop_nk hi, drop_nk hk, diffL_eq e]) (by rw [othN_same hs])
  simpa using this
theorem DiffTo.len (h : DiffTo a b i k o) : o.length ≤ a.length + b.length := by
  have := congrArg List.length h
  have h2 := diffL_len a b
  simp at this
  omega
end
open Classical in
/-- do two nodes differ, their numbers as well? -/
noncomputable def othB (x y : Nod) : Bool := if x.bare = y.bare then false else true
theorem othB_f {x y : Nod} (h : sameB x y = false) : othB x y = true := by
  unfold othB; rw [if_neg]; intro e; rw [(same_bare.1 e).1] at h; cases h
theorem othB_n {x y : Nod} (h : ¬ x.same = y.same) : othB x y = true := by
  unfold othB; rw [if_neg]; intro e; exact h (same_bare.1 e).2
theorem othB_s {x y : Nod} (h : sameB x y = true) (h2 : x.same = y.same) : othB x y = false := by
  unfold othB; rw [if_pos (same_bare.2 ⟨h, h2⟩)]
theorem othB_iff {x y : Nod} (h : othB x y = true) : ¬ x.bare = y.bare := fun e => by unfold othB at h; rw [if_pos e] at h; cases h
theorem othB_no {x y : Nod} (h : othB x y = false) : x.bare = y.bare := Classical.byContradiction fun e => by unfold othB at h; rw [if_neg e] at h; cases h
/-- changes of the call's own, and a number -/
def RetCE (t : TypeId) (w : World) (p : List Chg × Int) (e : Ending) (w' : World) : Prop := ∃ v l', e = .returned (.tuple #[v, .int .i64 p.2]) ∧ OwnChgs t w' w.heap.size v l' ∧ l'.map Chg.bare = p.1.map Chg.bare ∧ Below w.heap.size w w'
/-- a slice of nodes, its row told where there is one -/
theorem nods_row {w : World} {v : Value} {l : List Nod} (h : SliceC maxLen 12 (NodC maxLen) w [v] l) : ∃ p cap, v = .slice p l.length cap ∧ l.length ≤ cap ∧ cap ≤ maxLen ∧ (0 < l.length → ∃ b off, p = some ⟨b, off, none⟩ ∧ NodsAt w b off l ∧ ∀ i, i < l.length → (nk l i).Ok maxLen w) := by
  rcases nods_cases h with ⟨a, cap, rfl, rfl, h1, h2⟩ | ⟨b, off, cap, rfl, h1, h2, h3, h6, h4, h5⟩
  · exact ⟨a, cap, rfl, by simp, h1, fun h => absurd h (by simp)⟩
  · exact ⟨_, cap, rfl, h2, h3, fun _ => ⟨b, off, rfl, h4, h5⟩⟩
end Go.Creel
namespace Go.Proofs.YtaffgndickdbiaaDoor
set_option linter.unusedVariables false
set_option linter.unusedSimpArgs false
open Go.Creel Go.RowKit
set_option maxRecDepth 100000 in
set_option maxHeartbeats 4000000 in
theorem DiffL_ok (v1 v2 : Value) (a b : List Nod) (w : World) (hM : MaxOk w) (ha : SliceC maxLen 12 (NodC maxLen) w [v1] a) (hb : SliceC maxLen 12 (NodC maxLen) w [v2] b) (hEA : treeFault a = 0) (hEB : treeFault b = 0) :
    Calls Tryd.prog 9 #[v1, v2] w (RetCE tChg w (diffL a b, 0)) := by
  have HM := Lib.hid hM
  have HSA := Lib.hid ha
  have HSB := Lib.hid hb
  obtain ⟨p1, cp1, rfl, hcl1, hcm1, hr1⟩ := nods_row ha
  obtain ⟨p2, cp2, rfl, hcl2, hcm2, hr2⟩ := nods_row hb
  have HA := Lib.hid hr1
  have HB := Lib.hid hr2
  have hfa := (treeFault_all hEA).1
  have hfb := (treeFault_all hEB).1
  have HDA := Lib.hid (treeFault_dat hEA)
  have HDB := Lib.hid (treeFault_dat hEB)
  have HPA := Lib.hid (fun k (hk : k < a.length) => show (nk a k).path.size ≤ 1048576 from Nat.le_trans (nodFault_size ((treeFault_all hEA).2 k hk)) (by omega))
  have HPB := Lib.hid (fun k (hk : k < b.length) => show (nk b k).path.size ≤ 1048576 from Nat.le_trans (nodFault_size ((treeFault_all hEB).2 k hk)) (by omega))
  have HCA := Lib.hid (fun w hM (h : SliceC maxLen 12 (NodC maxLen) w [.slice p1 a.length cp1] a) => TreeCheck_any _ a w hM h)
  have HCB := Lib.hid (fun w hM (h : SliceC maxLen 12 (NodC maxLen) w [.slice p2 b.length cp2] b) => TreeCheck_any _ b w hM h)
  rw [hEA] at HCA
  rw [hEB] at HCB
  unfold maxLen at hcm1 hcm2
  clear hM ha hb hr1 hr2 hEA hEB
  go_enter Tryd.func9, Tryd.ntmps9
  go_wp2_with fail
  refine (HCA.out _ HM.out HSA.out).mono ?_
  rintro e w1 ⟨rfl, hb⟩
  have HB1 := Lib.hid hb
  clear hb
  go_wp2_with fail
  refine (HCB.out _ (HM.out.below HB1.out) (nods_below HSB.out HB1.out)).mono ?_
  rintro e w2 ⟨rfl, hb⟩
  have HB2 := Lib.hid (HB1.out.trans (hb.mono HB1.out.size))
  have HM2 := Lib.hid (HM.out.below HB2.out)
  clear hb
  have HO0 := Lib.hid (show OutC tChg tChgs w (w2.alloc (.cells #[.slice none 0 0] tChgs)) w2.heap.size (.slice none 0 0) [] from
    ⟨heap_alloc_new w2 _, OwnChgs.nil _ _ _, fun c hc => absurd hc (by simp), HB2.out.size, HB2.out.alloc HB2.out.size _⟩)
  go_wp2
  generalize w2.heap.size = bo at *
  go_loopw [10, 11, 12] (fun v10 v11 _ wr => ∃ (i k : Nat) (vo : Value) (o : List Chg), i ≤ a.length ∧ k ≤ b.length ∧ v10 = .int .i64 i ∧ v11 = .int .i64 k ∧ Hid (DiffTo a b i k o) ∧ Hid (OutC tChg tChgs w wr bo vo o)) (fun v10 v11 _ _ => (a.length - (intOf v10).toNat) + (b.length - (intOf v11).toNat))
  case atStart => exact ⟨0, 0, _, [], by omega, by omega, rfl, rfl, Lib.hid (DiffTo.start a b), HO0⟩
  case round =>
    obtain ⟨i, k, vo, o, hi, hk, rfl, rfl, HD, HO⟩ := hrel
    have hol := HD.out.len
    have HWB := Lib.hid HO.out.bel
    by_cases hia : i < a.length
    · obtain ⟨b1, o1, rfl, hc1, hk1⟩ := HA.out (by omega)
      obtain ⟨h0, h1, h2, h3, h4, h5, h6, h7, h8, h9, h10, h11⟩ := (hc1.below HWB.out) i hia
      have HX := Lib.hid ((hk1 i hia).below HWB.out)
      have hxd := HDA.out i hia
      by_cases hkb : k < b.length
      · obtain ⟨b2, o2, rfl, hc2, hk2⟩ := HB.out (by omega)
        have HXA := Lib.hid ((hc1.below HWB.out) i hia)
        have HYA := Lib.hid ((hc2.below HWB.out) k hkb)
        obtain ⟨g0, g1, g2, g3, g4, g5, g6, g7, g8, g9, g10, g11⟩ := HYA.out
        have HY := Lib.hid ((hk2 k hkb).below HWB.out)
        have hyd := HDB.out k hkb
        have hxp := HPA.out i hia
        have hyp := HPB.out k hkb
        have HLT := Lib.hid (fun e n hn => HD.out.lt (n := n) hia hkb e hn)
        have HGT := Lib.hid (fun e n hn => HD.out.gt (n := n) hia hkb e hn)
        have HEQ := Lib.hid (fun e hne n hn => HD.out.eq (n := n) hia hkb e hne hn)
        have HSM := Lib.hid (fun e hs => HD.out.same hia hkb e hs)
        have HRG := Lib.hid (ordN_range (nk a i) (nk b k))
        have HCMP := Lib.hid (fun w hM => Compare_any (nk a i).path (nk b k).path w hM hxp hyp)
        rw [show ordP (pathParts (nk a i).path) (pathParts (nk b k).path) = ordN (nk a i) (nk b k) from rfl] at HCMP
        clear hxp hyp hc1 hk1 hc2 hk2
        generalize nk a i = x at *
        generalize nk b k = y at *
        generalize ordN x y = c at *
        go_upto_region 12 with fail
        go_still_tail 10, (by kernel_rfl)
        go_wp2_with fail
        refine (HCMP.out _ ((HM.out.below HWB.out).below (Below.refl _ _).drew)).mono ?_
        rintro e wc ⟨rfl, hb⟩
        have HBC := Lib.hid ((Below.refl wr.heap.size wr).drew.trans hb)
        clear hb
        have HO1 := Lib.hid (HO.out.below HBC.out)
        have HX1 := Lib.hid (HX.out.below HBC.out)
        have HY1 := Lib.hid (HY.out.below HBC.out)
        have HXA1 := Lib.hid (HXA.out.below HBC.out)
        have HYA1 := Lib.hid (HYA.out.below HBC.out)
        clear h0 h1 h2 h3 h4 h5 h6 h7 h8 h9 h10 h11 g0 g1 g2 g3 g4 g5 g6 g7 g8 g9 g10 g11
        obtain ⟨h0, h1, h2, h3, h4, h5, h6, h7, h8, h9, h10, h11⟩ := HXA1.out
        obtain ⟨g0, g1, g2, g3, g4, g5, g6, g7, g8, g9, g10, g11⟩ := HYA1.out
        rcases HRG.out with rfl | rfl | rfl
        · have HNC := Lib.hid (Note_any bo 1 x w wc vo o HO1.out (by unfold i64; omega) HX1.out hxd (by omega))
          clear HGT HEQ HSM HRG
          go_wp2_with (go_at_call 30; refine HNC.out.mono ?_; rintro e w' ⟨rfl, v', n, hn, hO'⟩; have HN' := Lib.hid hn; have HO' := Lib.hid hO'; clear hn hO')
          go_roundw
          case rel => exact ⟨i + 1, k, _, _, by omega, by omega, by go_num, rfl, Lib.hid (HLT.out (by trivial) n HN'.out), HO'⟩
          case measure => simp [intOf]; omega
        · have HS0 := Lib.hid (fun W (hB : Below wc.heap.size wc W) => show Calls Tryd.prog 32 #[x.val, y.val] W (fun e w' => e = .returned (.bool (sameB x y)) ∧ w'.cell? ⟨b1, o1 + i * 12, none⟩ = some (.string x.path) ∧ w'.cell? ⟨b1, o1 + i * 12 + 1, none⟩ = some (.int .i64 x.kind) ∧ w'.cell? ⟨b1, o1 + i * 12 + 2, none⟩ = some (.int .i64 x.same) ∧ w'.cell? ⟨b1, o1 + i * 12 + 3, none⟩ = some (.string x.target) ∧ w'.cell? ⟨b1, o1 + i * 12 + 4, none⟩ = some (.int .i64 x.mt.mode) ∧ w'.cell? ⟨b1, o1 + i * 12 + 5, none⟩ = some (.int .i64 x.mt.uid) ∧ w'.cell? ⟨b1, o1 + i * 12 + 6, none⟩ = some (.int .i64 x.mt.gid) ∧ w'.cell? ⟨b1, o1 + i * 12 + 7, none⟩ = some (.string x.mt.user) ∧ w'.cell? ⟨b1, o1 + i * 12 + 8, none⟩ = some (.string x.mt.group) ∧ w'.cell? ⟨b1, o1 + i * 12 + 9, none⟩ = some (.int .i64 x.mt.second) ∧ w'.cell? ⟨b1, o1 + i * 12 + 10, none⟩ = some (.int .i64 x.mt.nano) ∧ w'.cell? ⟨b1, o1 + i * 12 + 11, none⟩ = some (.slice x.da x.data.length x.dcap) ∧ w'.cell? ⟨b2, o2 + k * 12, none⟩ = some (.string y.path) ∧ w'.cell? ⟨b2, o2 + k * 12 + 1, none⟩ = some (.int .i64 y.kind) ∧ w'.cell? ⟨b2, o2 + k * 12 + 2, none⟩ = some (.int .i64 y.same) ∧ w'.cell? ⟨b2, o2 + k * 12 + 3, none⟩ = some (.string y.target) ∧ w'.cell? ⟨b2, o2 + k * 12 + 4, none⟩ = some (.int .i64 y.mt.mode) ∧ w'.cell? ⟨b2, o2 + k * 12 + 5, none⟩ = some (.int .i64 y.mt.uid) ∧ w'.cell? ⟨b2, o2 + k * 12 + 6, none⟩ = some (.int .i64 y.mt.gid) ∧ w'.cell? ⟨b2, o2 + k * 12 + 7, none⟩ = some (.string y.mt.user) ∧ w'.cell? ⟨b2, o2 + k * 12 + 8, none⟩ = some (.string y.mt.group) ∧ w'.cell? ⟨b2, o2 + k * 12 + 9, none⟩ = some (.int .i64 y.mt.second) ∧ w'.cell? ⟨b2, o2 + k * 12 + 10, none⟩ = some (.int .i64 y.mt.nano) ∧ w'.cell? ⟨b2, o2 + k * 12 + 11, none⟩ = some (.slice y.da y.data.length y.dcap) ∧ Below wc.heap.size wc w') from
            (Same_any x y W (HX1.out.below hB).data (HY1.out.below hB).data).mono fun e w' hh => by
              have hb2 := hB.trans (hh.2.mono hB.size)
              obtain ⟨a0, a1, a2, a3, a4, a5, a6, a7, a8, a9, a10, a11⟩ := HXA1.out.below hb2
              obtain ⟨e0, e1, e2, e3, e4, e5, e6, e7, e8, e9, e10, e11⟩ := HYA1.out.below hb2
              exact ⟨hh.1, a0, a1, a2, a3, a4, a5, a6, a7, a8, a9, a10, a11, e0, e1, e2, e3, e4, e5, e6, e7, e8, e9, e10, e11, hb2⟩)
          have hbw := (Below.refl wc.heap.size wc).drew
          have HOB := Lib.hid (Below.refl wc.heap.size wc)
          clear HLT HGT HRG
          go_upto_region 17 with fail
          go_cut [77] from 55 to 77 (fun u w5 => u = .bool (othB x y) ∧ Hid (Below wc.heap.size wc w5))
          case first =>
            clear HEQ HSM
            cases hs : sameB x y with
            | false =>
              have HO3 := Lib.hid (othB_f hs)
              have HS := HS0
              rw [hs] at HS
              clear hs HS0
              refine wp_region_held_drew (S := fun w' => w'.cell? ⟨b1, o1 + i * 12, none⟩ = some (.string x.path) ∧ w'.cell? ⟨b1, o1 + i * 12 + 1, none⟩ = some (.int .i64 x.kind) ∧ w'.cell? ⟨b1, o1 + i * 12 + 2, none⟩ = some (.int .i64 x.same) ∧ w'.cell? ⟨b1, o1 + i * 12 + 3, none⟩ = some (.string x.target) ∧ w'.cell? ⟨b1, o1 + i * 12 + 4, none⟩ = some (.int .i64 x.mt.mode) ∧ w'.cell? ⟨b1, o1 + i * 12 + 5, none⟩ = some (.int .i64 x.mt.uid) ∧ w'.cell? ⟨b1, o1 + i * 12 + 6, none⟩ = some (.int .i64 x.mt.gid) ∧ w'.cell? ⟨b1, o1 + i * 12 + 7, none⟩ = some (.string x.mt.user) ∧ w'.cell? ⟨b1, o1 + i * 12 + 8, none⟩ = some (.string x.mt.group) ∧ w'.cell? ⟨b1, o1 + i * 12 + 9, none⟩ = some (.int .i64 x.mt.second) ∧ w'.cell? ⟨b1, o1 + i * 12 + 10, none⟩ = some (.int .i64 x.mt.nano) ∧ w'.cell? ⟨b1, o1 + i * 12 + 11, none⟩ = some (.slice x.da x.data.length x.dcap) ∧ w'.cell? ⟨b2, o2 + k * 12, none⟩ = some (.string y.path) ∧ w'.cell? ⟨b2, o2 + k * 12 + 1, none⟩ = some (.int .i64 y.kind) ∧ w'.cell? ⟨b2, o2 + k * 12 + 2, none⟩ = some (.int .i64 y.same) ∧ w'.cell? ⟨b2, o2 + k * 12 + 3, none⟩ = some (.string y.target) ∧ w'.cell? ⟨b2, o2 + k * 12 + 4, none⟩ = some (.int .i64 y.mt.mode) ∧ w'.cell? ⟨b2, o2 + k * 12 + 5, none⟩ = some (.int .i64 y.mt.uid) ∧ w'.cell? ⟨b2, o2 + k * 12 + 6, none⟩ = some (.int .i64 y.mt.gid) ∧ w'.cell? ⟨b2, o2 + k * 12 + 7, none⟩ = some (.string y.mt.user) ∧ w'.cell? ⟨b2, o2 + k * 12 + 8, none⟩ = some (.string y.mt.group) ∧ w'.cell? ⟨b2, o2 + k * 12 + 9, none⟩ = some (.int .i64 y.mt.second) ∧ w'.cell? ⟨b2, o2 + k * 12 + 10, none⟩ = some (.int .i64 y.mt.nano) ∧ w'.cell? ⟨b2, o2 + k * 12 + 11, none⟩ = some (.slice y.da y.data.length y.dcap) ∧ Below wc.heap.size wc w') (by kernel_rfl) (by go_keep) (fun hHeld => ?_)
              refine wpAnyH_take (i := 0) (v := _) rfl (by kernel_rfl) (by kernel_rfl) (by kernel_rfl) (fun _ _ _ h => h) (Or.inl ⟨by rfl, fun w5 hSw => (by (try dsimp only at hSw); go_simp; try with_reducible rfl)⟩) hHeld ?_
              try simp only [List.getElem_toArray, List.getElem_cons_succ, List.getElem_cons_zero, Act.put, List.setIfInBounds_toArray, List.set_cons_zero, List.set_cons_succ]
              refine wpAnyH_take (i := 1) (v := _) rfl (by kernel_rfl) (by kernel_rfl) (by kernel_rfl) (fun _ _ _ h => h) (Or.inl ⟨by rfl, fun w5 hSw => (by (try dsimp only at hSw); go_simp; try with_reducible rfl)⟩) hHeld ?_
              try simp only [List.getElem_toArray, List.getElem_cons_succ, List.getElem_cons_zero, Act.put, List.setIfInBounds_toArray, List.set_cons_zero, List.set_cons_succ]
              refine wpAnyH_take (i := 2) (v := _) rfl (by kernel_rfl) (by kernel_rfl) (by kernel_rfl) (fun _ _ _ h => h) (Or.inl ⟨by rfl, fun w5 hSw => (by (try dsimp only at hSw); go_simp; try with_reducible rfl)⟩) hHeld ?_
              try simp only [List.getElem_toArray, List.getElem_cons_succ, List.getElem_cons_zero, Act.put, List.setIfInBounds_toArray, List.set_cons_zero, List.set_cons_succ]
              refine wpAnyH_take (i := 3) (v := _) rfl (by kernel_rfl) (by kernel_rfl) (by kernel_rfl) (fun _ _ _ h => h) (Or.inl ⟨by rfl, fun w5 hSw => (by (try dsimp only at hSw); go_simp; try with_reducible rfl)⟩) hHeld ?_
              try simp only [List.getElem_toArray, List.getElem_cons_succ, List.getElem_cons_zero, Act.put, List.setIfInBounds_toArray, List.set_cons_zero, List.set_cons_succ]
              refine wpAnyH_take (i := 4) (v := _) rfl (by kernel_rfl) (by kernel_rfl) (by kernel_rfl) (fun _ _ _ h => h) (Or.inl ⟨by rfl, fun w5 hSw => (by (try dsimp only at hSw); go_simp; try with_reducible rfl)⟩) hHeld ?_
              try simp only [List.getElem_toArray, List.getElem_cons_succ, List.getElem_cons_zero, Act.put, List.setIfInBounds_toArray, List.set_cons_zero, List.set_cons_succ]
              refine wpAnyH_take (i := 5) (v := _) rfl (by kernel_rfl) (by kernel_rfl) (by kernel_rfl) (fun _ _ _ h => h) (Or.inl ⟨by rfl, fun w5 hSw => (by (try dsimp only at hSw); go_simp; try with_reducible rfl)⟩) hHeld ?_
              try simp only [List.getElem_toArray, List.getElem_cons_succ, List.getElem_cons_zero, Act.put, List.setIfInBounds_toArray, List.set_cons_zero, List.set_cons_succ]
              refine wpAnyH_take (i := 6) (v := _) rfl (by kernel_rfl) (by kernel_rfl) (by kernel_rfl) (fun _ _ _ h => h) (Or.inl ⟨by rfl, fun w5 hSw => (by (try dsimp only at hSw); go_simp; try with_reducible rfl)⟩) hHeld ?_
              try simp only [List.getElem_toArray, List.getElem_cons_succ, List.getElem_cons_zero, Act.put, List.setIfInBounds_toArray, List.set_cons_zero, List.set_cons_succ]
              refine wpAnyH_take (i := 7) (v := _) rfl (by kernel_rfl) (by kernel_rfl) (by kernel_rfl) (fun _ _ _ h => h) (Or.inl ⟨by rfl, fun w5 hSw => (by (try dsimp only at hSw); go_simp; try with_reducible rfl)⟩) hHeld ?_
              try simp only [List.getElem_toArray, List.getElem_cons_succ, List.getElem_cons_zero, Act.put, List.setIfInBounds_toArray, List.set_cons_zero, List.set_cons_succ]
              refine wpAnyH_ready (rs := [8]) (by kernel_rfl) (by simp) ?_
              refine AllReadyH.cons rfl (fun K5 hK5 => ?_) AllReadyH.nil
              rw [if_pos (by rfl)]
              go_wp2_with (go_at_call 32; refine (HS.out _ ?_).mono ?_; (simp [*]); rintro e w3 ⟨rfl, r0, r1, r2, r3, r4, r5, r6, r7, r8, r9, r10, r11, r12, r13, r14, r15, r16, r17, r18, r19, r20, r21, r22, r23, hb3⟩)
              refine hK5.out _ _ (by go_keep) (fun hHeld => ?_)
              clear hK5 K5
              try simp only [List.getElem_toArray, List.getElem_cons_succ, List.getElem_cons_zero, Act.put, List.setIfInBounds_toArray, List.set_cons_zero, List.set_cons_succ]
              refine wpAnyH_take (i := 9) (v := _) rfl (by kernel_rfl) (by kernel_rfl) (by kernel_rfl) (fun _ _ _ h => h) (Or.inl ⟨by rfl, fun w5 hSw => (by (try dsimp only at hSw); go_simp; try with_reducible rfl)⟩) hHeld ?_
              try simp only [List.getElem_toArray, List.getElem_cons_succ, List.getElem_cons_zero, Act.put, List.setIfInBounds_toArray, List.set_cons_zero, List.set_cons_succ]
              refine wpAnyH_take (i := 10) (v := _) rfl (by kernel_rfl) (by kernel_rfl) (by kernel_rfl) (fun _ _ _ h => h) (Or.inl ⟨by rfl, fun w5 hSw => (by (try dsimp only at hSw); go_simp; try with_reducible rfl)⟩) hHeld ?_
              try simp only [List.getElem_toArray, List.getElem_cons_succ, List.getElem_cons_zero, Act.put, List.setIfInBounds_toArray, List.set_cons_zero, List.set_cons_succ]
              refine wpAnyH_take (i := 11) (v := undef) rfl (by kernel_rfl) (by kernel_rfl) (by kernel_rfl) (fun _ _ _ h => h) (Or.inr ⟨by rfl, rfl⟩) hHeld ?_
              try simp only [List.getElem_toArray, List.getElem_cons_succ, List.getElem_cons_zero, Act.put, List.setIfInBounds_toArray, List.set_cons_zero, List.set_cons_succ]
              refine wpAnyH_take (i := 12) (v := undef) rfl (by kernel_rfl) (by kernel_rfl) (by kernel_rfl) (fun _ _ _ h => h) (Or.inr ⟨by rfl, rfl⟩) hHeld ?_
              try simp only [List.getElem_toArray, List.getElem_cons_succ, List.getElem_cons_zero, Act.put, List.setIfInBounds_toArray, List.set_cons_zero, List.set_cons_succ]
              refine wpAnyH_take (i := 13) (v := undef) rfl (by kernel_rfl) (by kernel_rfl) (by kernel_rfl) (fun _ _ _ h => h) (Or.inr ⟨by rfl, rfl⟩) hHeld ?_
              try simp only [List.getElem_toArray, List.getElem_cons_succ, List.getElem_cons_zero, Act.put, List.setIfInBounds_toArray, List.set_cons_zero, List.set_cons_succ]
              refine wpAnyH_take (i := 14) (v := undef) rfl (by kernel_rfl) (by kernel_rfl) (by kernel_rfl) (fun _ _ _ h => h) (Or.inr ⟨by rfl, rfl⟩) hHeld ?_
              try simp only [List.getElem_toArray, List.getElem_cons_succ, List.getElem_cons_zero, Act.put, List.setIfInBounds_toArray, List.set_cons_zero, List.set_cons_succ]
              refine wpAnyH_take (i := 15) (v := undef) rfl (by kernel_rfl) (by kernel_rfl) (by kernel_rfl) (fun _ _ _ h => h) (Or.inr ⟨by rfl, rfl⟩) hHeld ?_
              try simp only [List.getElem_toArray, List.getElem_cons_succ, List.getElem_cons_zero, Act.put, List.setIfInBounds_toArray, List.set_cons_zero, List.set_cons_succ]
              refine wpAnyH_take (i := 16) (v := undef) rfl (by kernel_rfl) (by kernel_rfl) (by kernel_rfl) (fun _ _ _ h => h) (Or.inr ⟨by rfl, rfl⟩) hHeld ?_
              try simp only [List.getElem_toArray, List.getElem_cons_succ, List.getElem_cons_zero, Act.put, List.setIfInBounds_toArray, List.set_cons_zero, List.set_cons_succ]
              refine wpAnyH_take (i := 17) (v := undef) rfl (by kernel_rfl) (by kernel_rfl) (by kernel_rfl) (fun _ _ _ h => h) (Or.inr ⟨by rfl, rfl⟩) hHeld ?_
              try simp only [List.getElem_toArray, List.getElem_cons_succ, List.getElem_cons_zero, Act.put, List.setIfInBounds_toArray, List.set_cons_zero, List.set_cons_succ]
              refine wpAnyH_take (i := 18) (v := undef) rfl (by kernel_rfl) (by kernel_rfl) (by kernel_rfl) (fun _ _ _ h => h) (Or.inr ⟨by rfl, rfl⟩) hHeld ?_
              try simp only [List.getElem_toArray, List.getElem_cons_succ, List.getElem_cons_zero, Act.put, List.setIfInBounds_toArray, List.set_cons_zero, List.set_cons_succ]
              refine wpAnyH_take (i := 19) (v := undef) rfl (by kernel_rfl) (by kernel_rfl) (by kernel_rfl) (fun _ _ _ h => h) (Or.inr ⟨by rfl, rfl⟩) hHeld ?_
              try simp only [List.getElem_toArray, List.getElem_cons_succ, List.getElem_cons_zero, Act.put, List.setIfInBounds_toArray, List.set_cons_zero, List.set_cons_succ]
              refine wpAnyH_take (i := 20) (v := undef) rfl (by kernel_rfl) (by kernel_rfl) (by kernel_rfl) (fun _ _ _ h => h) (Or.inr ⟨by rfl, rfl⟩) hHeld ?_
              try simp only [List.getElem_toArray, List.getElem_cons_succ, List.getElem_cons_zero, Act.put, List.setIfInBounds_toArray, List.set_cons_zero, List.set_cons_succ]
              refine wpAnyH_take (i := 21) (v := undef) rfl (by kernel_rfl) (by kernel_rfl) (by kernel_rfl) (fun _ _ _ h => h) (Or.inr ⟨by rfl, rfl⟩) hHeld ?_
              try simp only [List.getElem_toArray, List.getElem_cons_succ, List.getElem_cons_zero, Act.put, List.setIfInBounds_toArray, List.set_cons_zero, List.set_cons_succ]
              refine wpAnyH_take (i := 22) (v := _) rfl (by kernel_rfl) (by kernel_rfl) (by kernel_rfl) (fun _ _ _ h => h) (Or.inl ⟨by rfl, fun w5 hSw => (by (try dsimp only at hSw); go_simp; try with_reducible rfl)⟩) hHeld ?_
              try simp only [List.getElem_toArray, List.getElem_cons_succ, List.getElem_cons_zero, Act.put, List.setIfInBounds_toArray, List.set_cons_zero, List.set_cons_succ]
              refine wpAnyH_done (by kernel_rfl) ?_ _
              go_wp2_with fail
              go_meet
              case rel => exact ⟨by rw [HO3.out], Lib.hid hb3⟩
            | true =>
              have HS := HS0
              rw [hs] at HS
              by_cases hn : x.same = y.same
              · have HO3 := Lib.hid (othB_s hs hn)
                have hq : (x.same != y.same) = false := by rw [hn]; simp
                clear hs HS0 hn
                go_region_held3 (fun w' => w'.cell? ⟨b1, o1 + i * 12, none⟩ = some (.string x.path) ∧ w'.cell? ⟨b1, o1 + i * 12 + 1, none⟩ = some (.int .i64 x.kind) ∧ w'.cell? ⟨b1, o1 + i * 12 + 2, none⟩ = some (.int .i64 x.same) ∧ w'.cell? ⟨b1, o1 + i * 12 + 3, none⟩ = some (.string x.target) ∧ w'.cell? ⟨b1, o1 + i * 12 + 4, none⟩ = some (.int .i64 x.mt.mode) ∧ w'.cell? ⟨b1, o1 + i * 12 + 5, none⟩ = some (.int .i64 x.mt.uid) ∧ w'.cell? ⟨b1, o1 + i * 12 + 6, none⟩ = some (.int .i64 x.mt.gid) ∧ w'.cell? ⟨b1, o1 + i * 12 + 7, none⟩ = some (.string x.mt.user) ∧ w'.cell? ⟨b1, o1 + i * 12 + 8, none⟩ = some (.string x.mt.group) ∧ w'.cell? ⟨b1, o1 + i * 12 + 9, none⟩ = some (.int .i64 x.mt.second) ∧ w'.cell? ⟨b1, o1 + i * 12 + 10, none⟩ = some (.int .i64 x.mt.nano) ∧ w'.cell? ⟨b1, o1 + i * 12 + 11, none⟩ = some (.slice x.da x.data.length x.dcap) ∧ w'.cell? ⟨b2, o2 + k * 12, none⟩ = some (.string y.path) ∧ w'.cell? ⟨b2, o2 + k * 12 + 1, none⟩ = some (.int .i64 y.kind) ∧ w'.cell? ⟨b2, o2 + k * 12 + 2, none⟩ = some (.int .i64 y.same) ∧ w'.cell? ⟨b2, o2 + k * 12 + 3, none⟩ = some (.string y.target) ∧ w'.cell? ⟨b2, o2 + k * 12 + 4, none⟩ = some (.int .i64 y.mt.mode) ∧ w'.cell? ⟨b2, o2 + k * 12 + 5, none⟩ = some (.int .i64 y.mt.uid) ∧ w'.cell? ⟨b2, o2 + k * 12 + 6, none⟩ = some (.int .i64 y.mt.gid) ∧ w'.cell? ⟨b2, o2 + k * 12 + 7, none⟩ = some (.string y.mt.user) ∧ w'.cell? ⟨b2, o2 + k * 12 + 8, none⟩ = some (.string y.mt.group) ∧ w'.cell? ⟨b2, o2 + k * 12 + 9, none⟩ = some (.int .i64 y.mt.second) ∧ w'.cell? ⟨b2, o2 + k * 12 + 10, none⟩ = some (.int .i64 y.mt.nano) ∧ w'.cell? ⟨b2, o2 + k * 12 + 11, none⟩ = some (.slice y.da y.data.length y.dcap) ∧ Below wc.heap.size wc w') (go_keep)
                  (first | (go_at_call 32; refine (HS.out _ ?_).mono ?_; (simp [*]); rintro e w3 ⟨rfl, r0, r1, r2, r3, r4, r5, r6, r7, r8, r9, r10, r11, r12, r13, r14, r15, r16, r17, r18, r19, r20, r21, r22, r23, hb3⟩))
                go_wp2_with fail
                go_meet
                case rel => exact ⟨by rw [HO3.out], Lib.hid hb3⟩
              · have HO3 := Lib.hid (othB_n hn)
                have hq : (x.same != y.same) = true := by rw [bne_iff_ne]; exact hn
                clear hs HS0 hn
                go_region_held3 (fun w' => w'.cell? ⟨b1, o1 + i * 12, none⟩ = some (.string x.path) ∧ w'.cell? ⟨b1, o1 + i * 12 + 1, none⟩ = some (.int .i64 x.kind) ∧ w'.cell? ⟨b1, o1 + i * 12 + 2, none⟩ = some (.int .i64 x.same) ∧ w'.cell? ⟨b1, o1 + i * 12 + 3, none⟩ = some (.string x.target) ∧ w'.cell? ⟨b1, o1 + i * 12 + 4, none⟩ = some (.int .i64 x.mt.mode) ∧ w'.cell? ⟨b1, o1 + i * 12 + 5, none⟩ = some (.int .i64 x.mt.uid) ∧ w'.cell? ⟨b1, o1 + i * 12 + 6, none⟩ = some (.int .i64 x.mt.gid) ∧ w'.cell? ⟨b1, o1 + i * 12 + 7, none⟩ = some (.string x.mt.user) ∧ w'.cell? ⟨b1, o1 + i * 12 + 8, none⟩ = some (.string x.mt.group) ∧ w'.cell? ⟨b1, o1 + i * 12 + 9, none⟩ = some (.int .i64 x.mt.second) ∧ w'.cell? ⟨b1, o1 + i * 12 + 10, none⟩ = some (.int .i64 x.mt.nano) ∧ w'.cell? ⟨b1, o1 + i * 12 + 11, none⟩ = some (.slice x.da x.data.length x.dcap) ∧ w'.cell? ⟨b2, o2 + k * 12, none⟩ = some (.string y.path) ∧ w'.cell? ⟨b2, o2 + k * 12 + 1, none⟩ = some (.int .i64 y.kind) ∧ w'.cell? ⟨b2, o2 + k * 12 + 2, none⟩ = some (.int .i64 y.same) ∧ w'.cell? ⟨b2, o2 + k * 12 + 3, none⟩ = some (.string y.target) ∧ w'.cell? ⟨b2, o2 + k * 12 + 4, none⟩ = some (.int .i64 y.mt.mode) ∧ w'.cell? ⟨b2, o2 + k * 12 + 5, none⟩ = some (.int .i64 y.mt.uid) ∧ w'.cell? ⟨b2, o2 + k * 12 + 6, none⟩ = some (.int .i64 y.mt.gid) ∧ w'.cell? ⟨b2, o2 + k * 12 + 7, none⟩ = some (.string y.mt.user) ∧ w'.cell? ⟨b2, o2 + k * 12 + 8, none⟩ = some (.string y.mt.group) ∧ w'.cell? ⟨b2, o2 + k * 12 + 9, none⟩ = some (.int .i64 y.mt.second) ∧ w'.cell? ⟨b2, o2 + k * 12 + 10, none⟩ = some (.int .i64 y.mt.nano) ∧ w'.cell? ⟨b2, o2 + k * 12 + 11, none⟩ = some (.slice y.da y.data.length y.dcap) ∧ Below wc.heap.size wc w') (go_keep)
                  (first | (go_at_call 32; refine (HS.out _ ?_).mono ?_; (simp [*]); rintro e w3 ⟨rfl, r0, r1, r2, r3, r4, r5, r6, r7, r8, r9, r10, r11, r12, r13, r14, r15, r16, r17, r18, r19, r20, r21, r22, r23, hb3⟩))
                go_wp2_with fail
                go_meet
                case rel => exact ⟨by rw [HO3.out], Lib.hid hb3⟩
          case rest =>
            obtain ⟨rfl, HB5⟩ := hcut
            clear HS0 hbw HOB
            have HO5 := Lib.hid (HO1.out.below HB5.out)
            have HY5 := Lib.hid (HY1.out.below HB5.out)
            have HYA5 := Lib.hid (HYA1.out.below HB5.out)
            clear h0 h1 h2 h3 h4 h5 h6 h7 h8 h9 h10 h11 g0 g1 g2 g3 g4 g5 g6 g7 g8 g9 g10 g11
            cases ho : othB x y with
            | true =>
              have HNE := Lib.hid (othB_iff ho)
              obtain ⟨g0, g1, g2, g3, g4, g5, g6, g7, g8, g9, g10, g11⟩ := HYA5.out
              have HNC := Lib.hid (Note_any bo 3 y w _ vo o HO5.out (by unfold i64; omega) HY5.out hyd (by omega))
              clear ho
              go_wp2_with (go_at_call 30; refine HNC.out.mono ?_; rintro e w' ⟨rfl, v', n, hn, hO'⟩; have HN' := Lib.hid hn; have HO' := Lib.hid hO'; clear hn hO')
              go_roundw
              case rel => exact ⟨i + 1, k + 1, _, _, by omega, by omega, by go_num, by go_num, Lib.hid (HEQ.out (by trivial) HNE.out n HN'.out), HO'⟩
              case measure => simp [intOf]; omega
            | false =>
              have HNE := Lib.hid (othB_no ho)
              clear ho
              go_wp2
              go_roundw
              case rel => exact ⟨i + 1, k + 1, _, _, by omega, by omega, by go_num, by go_num, Lib.hid (HSM.out (by trivial) HNE.out), HO5⟩
              case measure => simp [intOf]; omega
        · have HNC := Lib.hid (Note_any bo 2 y w wc vo o HO1.out (by unfold i64; omega) HY1.out hyd (by omega))
          clear HLT HEQ HSM HRG
          go_wp2_with (go_at_call 30; refine HNC.out.mono ?_; rintro e w' ⟨rfl, v', n, hn, hO'⟩; have HN' := Lib.hid hn; have HO' := Lib.hid hO'; clear hn hO')
          go_roundw
          case rel => exact ⟨i, k + 1, _, _, by omega, by omega, rfl, by go_num, Lib.hid (HGT.out (by trivial) n HN'.out), HO'⟩
          case measure => simp [intOf]; omega
      · obtain rfl : k = b.length := by omega
        have HNX := Lib.hid (fun n hn => HD.out.left (n := n) hia hn)
        generalize nk a i = x at *
        have HNC := Lib.hid (Note_any bo 1 x w wr vo o HO.out (by unfold i64; omega) HX.out hxd (by omega))
        go_wp2_with (go_at_call 30; refine HNC.out.mono ?_; rintro e w' ⟨rfl, v', n, hn, hO'⟩; have HN' := Lib.hid hn; have HO' := Lib.hid hO'; clear hn hO')
        go_roundw
        case rel => exact ⟨i + 1, _, _, _, by omega, Nat.le_refl _, by go_num, rfl, Lib.hid (HNX.out n HN'.out), HO'⟩
        case measure => simp [intOf]; omega
    · obtain rfl : i = a.length := by omega
      by_cases hkb : k < b.length
      · obtain ⟨b2, o2, rfl, hc2, hk2⟩ := HB.out (by omega)
        obtain ⟨g0, g1, g2, g3, g4, g5, g6, g7, g8, g9, g10, g11⟩ := (hc2.below HWB.out) k hkb
        have HY := Lib.hid ((hk2 k hkb).below HWB.out)
        have hyd := HDB.out k hkb
        have HNX := Lib.hid (fun n hn => HD.out.right (n := n) hkb hn)
        clear hc2 hk2
        generalize nk b k = y at *
        have HNC := Lib.hid (Note_any bo 2 y w wr vo o HO.out (by unfold i64; omega) HY.out hyd (by omega))
        go_wp2_with (go_at_call 30; refine HNC.out.mono ?_; rintro e w' ⟨rfl, v', n, hn, hO'⟩; have HN' := Lib.hid hn; have HO' := Lib.hid hO'; clear hn hO')
        go_roundw
        case rel => exact ⟨a.length, k + 1, _, _, Nat.le_refl _, by omega, rfl, by go_num, Lib.hid (HNX.out n HN'.out), HO'⟩
        case measure => simp [intOf]; omega
      · obtain rfl : k = b.length := by omega
        have c0 := HO.out.cell
        have HDN := Lib.hid HD.out.done
        go_wp2
        go_ret2
        exact ⟨_, o, rfl, HO.out.own.mono (Nat.le_trans HO.out.low (Nat.le_succ _)), HDN.out, HO.out.bel⟩
set_option maxRecDepth 100000 in
set_option maxHeartbeats 1000000 in
theorem DiffL_any (v1 v2 : Value) (a b : List Nod) (w : World) (hM : MaxOk w) (ha : SliceC maxLen 12 (NodC maxLen) w [v1] a) (hb : SliceC maxLen 12 (NodC maxLen) w [v2] b) :
    Calls Tryd.prog 9 #[v1, v2] w (RetCE tChg w (diffOf a b)) := by
  by_cases hEA : treeFault a = 0
  · by_cases hEB : treeFault b = 0
    · rw [diffOf_ok hEA hEB]
      exact DiffL_ok v1 v2 a b w hM ha hb hEA hEB
    · rw [diffOf_b hEA hEB]
      have HM := Lib.hid hM
      have HSB := Lib.hid hb
      have HCA := Lib.hid (TreeCheck_any v1 a w hM ha)
      rw [hEA] at HCA
      have HCB := Lib.hid (fun w hM h => TreeCheck_any v2 b w hM h)
      generalize treeFault b = q at *
      have hq : (q == 0) = false := by rw [beq_eq_false_iff_ne]; exact hEB
      clear hM ha hb hEA hEB
      go_enter Tryd.func9, Tryd.ntmps9
      go_wp2_with fail
      refine HCA.out.mono ?_
      rintro e w1 ⟨rfl, hb⟩
      have HB1 := Lib.hid hb
      clear hb
      go_wp2_with fail
      refine (HCB.out _ (HM.out.below HB1.out) (nods_below HSB.out HB1.out)).mono ?_
      rintro e w2 ⟨rfl, hb⟩
      have HB2 := Lib.hid (HB1.out.trans (hb.mono HB1.out.size))
      clear hb
      go_wp2
      go_ret2
      exact ⟨_, [], rfl, OwnChgs.nil _ _ _, rfl, HB2.out⟩
  · rw [diffOf_a hEA]
    have HCA := Lib.hid (TreeCheck_any v1 a w hM ha)
    generalize treeFault a = q at *
    have hq : (q == 0) = false := by rw [beq_eq_false_iff_ne]; exact hEA
    clear hM ha hb hEA
    go_enter Tryd.func9, Tryd.ntmps9
    go_wp2_with fail
    refine HCA.out.mono ?_
    rintro e w1 ⟨rfl, hb⟩
    have HB1 := Lib.hid hb
    clear hb
    go_wp2
    go_ret2
    exact ⟨_, [], rfl, OwnChgs.nil _ _ _, rfl, HB1.out⟩
end Go.Proofs.YtaffgndickdbiaaDoor
