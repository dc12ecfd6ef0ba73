/-
  order.walk, walked: it calls itself.
-/
import Derived.Test.YtecmcgedeaemgaaDoorWalkSpec
import Derived.Test.YtecmcgedeaemgaaDoorFindN
namespace Go.Creel
set_option linter.unusedVariables false
set_option linter.unusedSimpArgs false
open Go.RowKit
theorem src_texts {P : Program} {t : TypeId} {w : World} {B : Nat} {v : Value} {l : List ByteArray} {tx e' : TypeId} (hk : P.underlying tx = some (.slice e')) (h : OwnSs t w B v l) : Src P 1 tx v l.length (l.map Value.string) w := by
  have hone : ∀ u ∈ l.map Value.string, u.oneCell' = true := by
    intro u hu
    obtain ⟨x, _, rfl⟩ := List.mem_map.1 hu
    rfl
  rcases h.form with ⟨rfl, rfl⟩ | ⟨g, cap, rfl, _, _, _, _⟩
  · exact Src.ofNil w hk 0
  · refine Src.ofSlice w hk ⟨g, 0, none⟩ l.length cap _ (by simp) (fun j u hu => ?_) hone
    have hj : j < l.length := by
      rcases Nat.lt_or_ge j l.length with h | h
      · exact h
      · rw [List.getElem?_eq_none (by simpa using h)] at hu; cases hu
    have e : (⟨g, 0, none⟩ : Addr).add j = ⟨g, j, none⟩ := by unfold Addr.add; split <;> simp_all
    rw [e, h.cell hj, piece_eq hj]
    simpa [hj] using hu
/-- a directory of a tree, or the tree itself -/
def DirOk (l : List Nod) (d : ByteArray) : Prop := d.size = 0 ∨ (treeFind l d < l.length ∧ (nk l (treeFind l d)).kind = 2)
theorem DirOk.size {l : List Nod} {d : ByteArray} (h : DirOk l d) (hE : treeFault l = 0) : d.size ≤ 400 := by
  rcases h with h | ⟨h, _⟩
  · omega
  · have h1 := nodFault_size ((treeFault_all hE).2 _ h)
    rw [treeFind_lt h] at h1
    exact h1
theorem DirOk.names {l : List Nod} {d : ByteArray} (h : DirOk l d) (hE : treeFault l = 0) : orderNames l d = ((kids l d).map fun x => pathBase x.path, 0) := by
  rw [← names_kids]
  rcases h with h | ⟨h, h2⟩
  · exact orderNames_root hE h
  · exact orderNames_dir hE h h2
/-- a child of a directory: where it is, and whether it is one -/
theorem kid_find {l : List Nod} (hE : treeFault l = 0) {d : ByteArray} {c : Nod} (hc : c ∈ kids l d) : treeFind l c.path < l.length ∧ nk l (treeFind l c.path) = c ∧ c.path.size ≤ 400 ∧ (c.kind = 2 → DirOk l c.path) := by
  have hT := treeP_iff.1 hE
  have hcl := (kid_path hT hc).1
  have hf : treeFind l c.path < l.length := by
    obtain ⟨i, hi, e⟩ := List.mem_iff_getElem.1 hcl
    refine Classical.byContradiction fun h => ?_
    have hle := treeFind_le l c.path
    have : ∀ {m : List Nod} {x : Nod}, x ∈ m → treeFind m x.path < m.length := by
      intro m x hx
      induction m with
      | nil => cases hx
      | cons y m ih =>
        unfold treeFind
        by_cases e1 : y.path = x.path
        · rw [if_pos e1]; simp
        · rw [if_neg e1]
          have := ih (by rcases List.mem_cons.1 hx with rfl | h; exact absurd rfl e1; exact h)
          simp; omega
    exact h (this hcl)
  have hn : nk l (treeFind l c.path) = c := hT.uniq (nk_mem hf) hcl (treeFind_lt hf)
  exact ⟨hf, hn, nodFault_size (hT.nod c hcl), fun hk => .inr ⟨hf, by rw [hn]; exact hk⟩⟩
theorem nodFault_posN {x : Nod} (h : nodFault x = 0) : 0 < x.path.size := (pathFault_inv (nodFault_pathOk h)).1
theorem kid_longer {l : List Nod} (hT : TreeP l) {d : ByteArray} {c : Nod} (hc : c ∈ kids l d) : d.size < c.path.size := by
  have h1 := nodFault_posN (hT.nod c (kid_path hT hc).1)
  obtain ⟨_, h0, h2⟩ := kid_path hT hc
  by_cases h : d.size = 0
  · omega
  · have := congrArg ByteArray.size (h2 h)
    simp [ofL_size] at this
    omega
end Go.Creel
namespace Go.Proofs.YtecmcgedeaemgaaDoor
set_option linter.unusedVariables false
set_option linter.unusedSimpArgs false
open Go.Creel Go.RowKit
set_option maxRecDepth 100000 in
set_option maxHeartbeats 4000000 in
theorem Walk_step (v : Value) (l : List Nod) (hE : treeFault l = 0) (dir : ByteArray) (w : World) (hM : MaxOk w) (h : SliceC maxLen 12 (NodC maxLen) w [v] l) (hd : DirOk l dir)
    (IH : ∀ (s : ByteArray), DirOk l s → dir.size < s.size → ∀ w, MaxOk w → SliceC maxLen 12 (NodC maxLen) w [v] l → Calls Tryd.prog 88 #[v, .string s] w (RetSs 9 w (walkL l s))) :
    Calls Tryd.prog 88 #[v, .string dir] w (RetSs 9 w (walkL l dir)) := by
  obtain ⟨i0, hi, hz0, hz1, hz2⟩ := info_parts info_string
  have HI := Lib.hid (And.intro hi (And.intro hz0 (And.intro hz1 hz2)))
  have HM0 := Lib.hid hM
  have H := Lib.hid h
  have HIH := Lib.hid IH
  have hT := treeP_iff.1 hE
  have hds := hd.size hE
  have hfew := hT.few
  have HNM := Lib.hid (OrderNamesL_any v l dir w hM h (by unfold maxLen; omega))
  rw [hd.names hE] at HNM
  have hkl := kids_len l dir
  have HKID := Lib.hid (fun k (hk : k < (kids l dir).length) => kid_find hE (nk_mem hk))
  have HKP := Lib.hid (fun k (hk : k < (kids l dir).length) => kid_path hT (nk_mem hk))
  have HKL := Lib.hid (fun k (hk : k < (kids l dir).length) => kid_longer hT (nk_mem hk))
  have HSUC := Lib.hid (fun k (hk : k < (kids l dir).length) => walkTo_succ (l := l) (d := dir) hk)
  have HTL := Lib.hid (fun k => walkTo_len hT dir k)
  have HWL0 := Lib.hid (fun s => walkL_len l s)
  have HALL := Lib.hid (walkTo_all hT dir)
  have HNV := Lib.hid (nods_cases h)
  generalize hK : kids l dir = K at *
  clear hK hE hT hd hi hz0 hz1 hz2 hM h IH
  go_enter Tryd.func88, Tryd.ntmps88
  go_wp2_with fail
  refine HNM.out.mono ?_
  rintro e w2 ⟨vn, rfl, ho0, hb⟩
  have ho : OwnSs 9 w2 w.heap.size vn (K.map fun x => pathBase x.path) := ho0
  clear ho0
  have HB2 := Lib.hid hb
  have HON := Lib.hid ho
  clear hb
  rcases ho.form with ⟨rfl, e0⟩ | ⟨gn, capn, rfl, _, _, hcapn, hcmn⟩
  · have hK0 : K.length = 0 := by have := congrArg List.length e0; simpa using this
    have HRES := Lib.hid (show walkL l dir = [] by rw [← HALL.out, hK0]; rfl)
    clear ho e0
    go_wp2
    go_loopw [5, 9, 10, 11, 20] (fun v5 _ _ _ i wr => v5 = .slice none 0 0 ∧ i = .int .i64 0 ∧ wr = w2) (fun _ _ _ _ _ _ => 0)
    case atStart => exact ⟨rfl, rfl, rfl⟩
    case round =>
      obtain ⟨rfl, rfl, hw⟩ := hrel
      rw [hw]
      go_wp2
      go_ret
      rw [HRES.out]
      exact ⟨_, rfl, World.ownsRow_nil _ _ _ 1, HB2.out⟩
  · rw [List.length_map] at hcapn ⊢
    unfold maxLen at hcmn
    have HCN := Lib.hid (show ∀ k, k < K.length → w2.cell? ⟨gn, k, none⟩ = some (.string (pathBase (nk K k).path)) from fun k hk => by
      have := ho.cell (j := k) (by rw [List.length_map]; exact hk)
      rw [this, piece_eq (by rw [List.length_map]; exact hk), List.getElem_map, nk_eq hk])
    clear ho
    go_wp2
    go_loopw [5, 9, 10, 11, 20] (fun v5 _ _ _ i wr => ∃ (k : Nat) (vv : Value) (o : List ByteArray), k ≤ K.length ∧ i = .int .i64 k ∧ vv = v5 ∧ Hid (o = walkTo l dir k) ∧ Hid (OwnSs 9 wr w2.heap.size vv o) ∧ Hid (Below w2.heap.size w2 wr)) (fun _ _ _ _ i _ => K.length - (intOf i).toNat)
    case atStart => exact ⟨0, _, [], by omega, rfl, rfl, Lib.hid rfl, Lib.hid (World.ownsRow_nil _ _ _ 1), Lib.hid (Below.refl _ _)⟩
    case round =>
      obtain ⟨k, vv, o, hk, rfl, rfl, HOE, HOW, HB⟩ := hrel
      by_cases hlt : k < K.length
      · have hcn := (HB.out.cell (p := ⟨gn, k, none⟩) (World.block_lt_of_cell? w2 _ (HCN.out k hlt))).trans (HCN.out k hlt)
        obtain ⟨hql, hnq, hs4, hkd⟩ := HKID.out k hlt
        obtain ⟨_, hp0, hp1⟩ := HKP.out k hlt
        have hlong := HKL.out k hlt
        have HNX := Lib.hid (HSUC.out k hlt)
        rw [← HOE.out] at HNX
        have hol : o.length ≤ 40 := by have := HTL.out k; rw [← HOE.out] at this; omega
        generalize nk K k = c at *
        have HKD := Lib.hid hkd
        have HP0 := Lib.hid hp0
        have HP1 := Lib.hid hp1
        have HFND := Lib.hid (fun w (h : SliceC maxLen 12 (NodC maxLen) w [v] l) => FindN_any v l c.path w h)
        rw [show findIE (treeFind l c.path) l.length = (((treeFind l c.path : Nat) : Int), 0) from if_pos hql] at HFND
        have HKQ := Lib.hid (show (nk l (treeFind l c.path)).kind = c.kind by rw [hnq])
        clear hnq hkd hp0 hp1 HOE
        generalize treeFind l c.path = q at *
        generalize c.kind = kd at *
        generalize pathBase c.path = bs at *
        generalize c.path = s at *
        rcases HNV.out with ⟨a, cap, rfl, hl0, _⟩ | ⟨b, off, cap, rfl, hv1, hv2, hv3, _, hv4, _⟩
        · rw [hl0] at hql; simp at hql
        · have HNA := Lib.hid hv4
          unfold maxLen at hv3
          clear hv4
          have hqi : (q : Int) < (l.length : Int) := by omega
          have HBX := Lib.hid (HB.out.alloc HB.out.size (.cells #[.string s] 9))
          have HO1 := Lib.hid (HOW.out.below ((Below.refl wr.heap.size wr).alloc (Nat.le_refl _) (.cells #[.string s] 9)))
          by_cases hd0 : dir.size = 0
          · have he := empty_t hd0
            obtain rfl := HP0.out hd0
            clear hd0
            go_upto_region 9 with (at_builtin; refine wpList_app _ rfl (.tmp 30) (.tmp 32) 56 56 rfl _ _ rfl rfl (n := o.length) (fun ty => app_src _ _ _ _ w2.heap.size 9 i0 (.string ByteArray.empty) 1 16 Tryd.underlying56 HI.out.1 HI.out.2.1 HI.out.2.2.1 HI.out.2.2.2 rfl (by decide) _ _ _ _ _ _ HO1.out (src_one wr _ _ _ Tryd.underlying56 _ rfl) (by unfold maxLen; omega) (by omega) HBX.out.size) ?_; intro v1 w3 ho hg _; have HZ := Lib.hid (And.intro ho hg); clear ho hg)
            have HO3 := Lib.hid (OwnSs.app (m := [s]) HZ.out.1)
            have HB3 := Lib.hid (below_app HBX.out HZ.out.2 HO1.out HBX.out.size)
            have HW3 := Lib.hid (HB2.out.trans (HB3.out.mono HB2.out.size))
            clear HO1 HBX HZ
            go_wp2_with fail
            refine (HFND.out _ (nods_below H.out HW3.out)).mono ?_
            rintro e w4 ⟨rfl, hb⟩
            have HB4 := Lib.hid (HB3.out.trans (hb.mono HB3.out.size))
            have HW4 := Lib.hid (HW3.out.trans (hb.mono HW3.out.size))
            have HO4 := Lib.hid (HO3.out.below hb)
            clear hb
            obtain ⟨_, hk1, _⟩ := (HNA.out.below HW4.out) q hql
            rw [HKQ.out] at hk1
            by_cases hkd : kd = 2
            · have HREC := Lib.hid (HIH.out s (HKD.out hkd) hlong)
              have HNX2 := Lib.hid (HNX.out.trans (by rw [if_pos hkd]))
              have hwl := HWL0.out s
              subst hkd
              go_wp2_with fail
              refine (HREC.out _ (HM0.out.below HW4.out) (nods_below H.out HW4.out)).mono ?_
              rintro e w5 ⟨v5, rfl, ho, hb⟩
              have HB5 := Lib.hid (HB4.out.trans (hb.mono HB4.out.size))
              have HO5 := Lib.hid (HO4.out.below hb)
              have HS5 := Lib.hid ho
              clear ho hb
              go_upto_region 12 with (at_builtin; refine wpList_app _ rfl (.tmp 50) (.tmp 53) 56 56 rfl _ _ rfl rfl (n := (o ++ [s]).length) (fun ty => app_src _ _ _ _ w2.heap.size 9 i0 (.string ByteArray.empty) 1 16 Tryd.underlying56 HI.out.1 HI.out.2.1 HI.out.2.2.1 HI.out.2.2.2 rfl (by decide) _ _ _ _ _ _ HO5.out (src_texts Tryd.underlying56 HS5.out) (by rw [List.length_append]; unfold maxLen; simp; omega) (by rw [List.length_append]; simp; omega) HB5.out.size) ?_; intro v2 w6 ho hg _; have HZ2 := Lib.hid (And.intro ho hg); clear ho hg)
              have HO6 := Lib.hid (OwnSs.app (m := walkL l s) HZ2.out.1)
              have HB6 := Lib.hid (below_app HB5.out HZ2.out.2 HO5.out HB5.out.size)
              go_wp2
              go_roundw
              case rel => exact ⟨k + 1, _, _, by omega, by go_num, rfl, Lib.hid HNX2.out.symm, HO6, HB6⟩
              case measure => simp [intOf]; omega
            · have hkq : (kd == 2) = false := by rw [beq_eq_false_iff_ne]; exact hkd
              have HNX2 := Lib.hid (HNX.out.trans (by rw [if_neg hkd, List.append_nil]))
              clear hkd
              go_wp2
              go_roundw
              case rel => exact ⟨k + 1, _, _, by omega, by go_num, rfl, Lib.hid HNX2.out.symm, HO4, HB4⟩
              case measure => simp [intOf]; omega
          · have he := empty_f hd0
            have hsj : dir ++ { data := #[47] } ++ bs = s := (HP1.out hd0).symm
            have hbs : bs.size ≤ 400 := by have := congrArg ByteArray.size hsj; simp at this; omega
            clear hd0
            go_upto_region 9 with (at_builtin; refine wpList_app _ rfl (.tmp 30) (.tmp 32) 56 56 rfl _ _ rfl rfl (n := o.length) (fun ty => app_src _ _ _ _ w2.heap.size 9 i0 (.string ByteArray.empty) 1 16 Tryd.underlying56 HI.out.1 HI.out.2.1 HI.out.2.2.1 HI.out.2.2.2 rfl (by decide) _ _ _ _ _ _ HO1.out (src_one wr _ _ _ Tryd.underlying56 _ rfl) (by unfold maxLen; omega) (by omega) HBX.out.size) ?_; intro v1 w3 ho hg _; have HZ := Lib.hid (And.intro ho hg); clear ho hg)
            have HO3 := Lib.hid (OwnSs.app (m := [s]) HZ.out.1)
            have HB3 := Lib.hid (below_app HBX.out HZ.out.2 HO1.out HBX.out.size)
            have HW3 := Lib.hid (HB2.out.trans (HB3.out.mono HB2.out.size))
            clear HO1 HBX HZ
            go_wp2_with fail
            refine (HFND.out _ (nods_below H.out HW3.out)).mono ?_
            rintro e w4 ⟨rfl, hb⟩
            have HB4 := Lib.hid (HB3.out.trans (hb.mono HB3.out.size))
            have HW4 := Lib.hid (HW3.out.trans (hb.mono HW3.out.size))
            have HO4 := Lib.hid (HO3.out.below hb)
            clear hb
            obtain ⟨_, hk1, _⟩ := (HNA.out.below HW4.out) q hql
            rw [HKQ.out] at hk1
            by_cases hkd : kd = 2
            · have HREC := Lib.hid (HIH.out s (HKD.out hkd) hlong)
              have HNX2 := Lib.hid (HNX.out.trans (by rw [if_pos hkd]))
              have hwl := HWL0.out s
              subst hkd
              go_wp2_with fail
              refine (HREC.out _ (HM0.out.below HW4.out) (nods_below H.out HW4.out)).mono ?_
              rintro e w5 ⟨v5, rfl, ho, hb⟩
              have HB5 := Lib.hid (HB4.out.trans (hb.mono HB4.out.size))
              have HO5 := Lib.hid (HO4.out.below hb)
              have HS5 := Lib.hid ho
              clear ho hb
              go_upto_region 12 with (at_builtin; refine wpList_app _ rfl (.tmp 50) (.tmp 53) 56 56 rfl _ _ rfl rfl (n := (o ++ [s]).length) (fun ty => app_src _ _ _ _ w2.heap.size 9 i0 (.string ByteArray.empty) 1 16 Tryd.underlying56 HI.out.1 HI.out.2.1 HI.out.2.2.1 HI.out.2.2.2 rfl (by decide) _ _ _ _ _ _ HO5.out (src_texts Tryd.underlying56 HS5.out) (by rw [List.length_append]; unfold maxLen; simp; omega) (by rw [List.length_append]; simp; omega) HB5.out.size) ?_; intro v2 w6 ho hg _; have HZ2 := Lib.hid (And.intro ho hg); clear ho hg)
              have HO6 := Lib.hid (OwnSs.app (m := walkL l s) HZ2.out.1)
              have HB6 := Lib.hid (below_app HB5.out HZ2.out.2 HO5.out HB5.out.size)
              go_wp2
              go_roundw
              case rel => exact ⟨k + 1, _, _, by omega, by go_num, rfl, Lib.hid HNX2.out.symm, HO6, HB6⟩
              case measure => simp [intOf]; omega
            · have hkq : (kd == 2) = false := by rw [beq_eq_false_iff_ne]; exact hkd
              have HNX2 := Lib.hid (HNX.out.trans (by rw [if_neg hkd, List.append_nil]))
              clear hkd
              go_wp2
              go_roundw
              case rel => exact ⟨k + 1, _, _, by omega, by go_num, rfl, Lib.hid HNX2.out.symm, HO4, HB4⟩
              case measure => simp [intOf]; omega
      · obtain rfl : k = K.length := by omega
        have HRES := Lib.hid (HOE.out.trans HALL.out)
        go_wp2
        go_ret
        rw [← HRES.out]
        exact ⟨_, rfl, HOW.out.mono HB2.out.size, HB2.out.trans (HB.out.mono HB2.out.size)⟩
theorem Walk_any (v : Value) (l : List Nod) (hE : treeFault l = 0) : ∀ (n : Nat) (dir : ByteArray), 401 - dir.size ≤ n → DirOk l dir → ∀ w, MaxOk w → SliceC maxLen 12 (NodC maxLen) w [v] l →
    Calls Tryd.prog 88 #[v, .string dir] w (RetSs 9 w (walkL l dir)) := by
  intro n
  induction n with
  | zero => intro dir hn hd; have := hd.size hE; omega
  | succ n ih =>
    intro dir hn hd w hM h
    exact Walk_step v l hE dir w hM h hd (fun s hs hlt w hM h => ih s (by have := hs.size hE; omega) hs w hM h)
end Go.Proofs.YtecmcgedeaemgaaDoor
