/-
  Texts: IsortR.
-/
import Derived.Test.YtaffgndickdbiaaDoorT09
set_option linter.unusedVariables false
set_option linter.unusedSimpArgs false
set_option linter.unusedSectionVars false
namespace Go.Creel
open Go.RowKit
theorem isort_dat {l : List Nod} (h : ∀ i, i < l.length → (nk l i).data.length ≤ 140737488355328) : ∀ i, i < (isort l).length → (nk (isort l) i).data.length ≤ 140737488355328 :=
  list_dat (fun x hx => dat_list h x (isort_mem.1 hx))
theorem part_in {t : TypeId} {w w' : World} {B : Nat} {v u : Value} {o m : List Nod} (hown : OwnNods t w B v o) (hb : Below w.heap.size w w') (hm : ∀ x ∈ m, x ∈ o) (hu : ∀ b, u.ownBlock = some b → w.heap.size ≤ b) : ∀ x, x ∈ m → NodIn w' u x := by
  intro x hx
  have h1 := (hown.2 x (hm x hx)).1
  refine ⟨h1.below hb, fun a hp ha he => ?_⟩
  have h2 := h1.lt a hp ha
  have h3 := hu _ he
  omega
theorem own_slice {t : TypeId} {w : World} {B n : Nat} {v : Value} {l : List Nod} (h : OwnNods t w B v l) (hn : l.length = n) : ∃ p cap, v = .slice p n cap ∧ n ≤ cap ∧ cap ≤ maxLen ∧ (0 < n → ∃ g, p = some ⟨g, 0, none⟩ ∧ B ≤ g) := by
  subst hn
  rcases h.form with ⟨rfl, rfl⟩ | ⟨g, cap, rfl, hgB, hgw, hcap, hcapm⟩
  · exact ⟨none, 0, rfl, Nat.le_refl _, by unfold maxLen; omega, fun h => absurd h (by simp)⟩
  · exact ⟨_, _, rfl, hcap, hcapm, fun _ => ⟨g, rfl, hgB⟩⟩
end Go.Creel
namespace Go.Proofs.YtaffgndickdbiaaDoor
open Go.Creel Go.RowKit
set_option maxRecDepth 100000 in
set_option maxHeartbeats 4000000 in
theorem IsortR_at (b off cap : Nat) (l : List Nod) (w : World) (hpos : 0 < l.length) (hfew : l.length ≤ 8000000000) (hle : l.length ≤ cap) (hm : cap ≤ maxLen) (hc : NodsAt w b off l) (hok : ∀ i, i < l.length → (nk l i).Ok maxLen w) (hdat : ∀ i, i < l.length → (nk l i).data.length ≤ 140737488355328) (hps : ∀ i, i < l.length → (nk l i).path.size ≤ 1048576) :
    Calls Tryd.prog 15 #[.slice (some ⟨b, off, none⟩) l.length cap] w (RetT 60 w (isort l)) := by
  obtain ⟨i0, hi, hz0, hz1, hz2⟩ := info_parts info_node
  have HI := Lib.hid (And.intro hi (And.intro hz0 (And.intro hz1 hz2)))
  have HC := Lib.hid hc
  have HK := Lib.hid hok
  have HD := Lib.hid hdat
  have HPS := Lib.hid (fun (x : Nod) (hx : x ∈ l) => show x.path.size ≤ 1048576 from by
    obtain ⟨i, hi, e⟩ := List.mem_iff_getElem.1 hx
    rw [← e, ← nk_eq hi]; exact hps i hi)
  have hlen := isort_len l
  unfold maxLen at hm
  clear hc hok hdat hps hi hz0 hz1 hz2
  go_enter Tryd.func15, Tryd.ntmps15
  go_wp2
  go_loopw [3, 5, 6, 7, 10] (fun v _ _ _ i wr => ∃ (k : Nat) (vv : Value) (o : List Nod), k ≤ l.length ∧ i = .int .i64 k ∧ vv = v ∧ Hid (o = isort (l.take k)) ∧ Hid (OwnNods 60 wr w.heap.size vv o) ∧ Hid (Below w.heap.size w wr)) (fun _ _ _ _ i _ => l.length - (intOf i).toNat)
  case atStart => exact ⟨0, _, [], by omega, rfl, rfl, Lib.hid rfl, Lib.hid (OwnNods.nil _ _ _), Lib.hid (Below.refl _ _)⟩
  case round =>
    obtain ⟨k, vv, o, hk, rfl, rfl, HE, HOW, HB⟩ := hrel
    by_cases hlt : k < l.length
    · obtain ⟨h0, h1, h2, h3, h4, h5, h6, h7, h8, h9, h10, h11⟩ := (HC.out.below HB.out) k hlt
      have hol : o.length = k := by rw [HE.out, isort_len, List.length_take]; omega
      have HSO := Lib.hid (show o.Pairwise PathLe by rw [HE.out]; exact isort_sorted _)
      have HNX := Lib.hid (show isort (l.take (k + 1)) = insN o (nk l k) by rw [HE.out]; exact isort_take hlt)
      have HPO := Lib.hid (fun j (hj : j < k) => show (nk o j).path.size ≤ 1048576 from by
        have hm : nk o j ∈ isort (l.take k) := by rw [← HE.out]; exact nk_mem (by omega)
        exact HPS.out _ (List.mem_of_mem_take (isort_mem.1 hm)))
      have HPX := Lib.hid (HPS.out _ (nk_mem hlt))
      have HKX := Lib.hid (HK.out k hlt)
      obtain ⟨p, cap', rfl, hcl, hcm, hp⟩ := own_slice HOW.out hol
      have HP := Lib.hid hp
      clear hp
      unfold maxLen at hcm
      generalize nk l k = x at *
      have HBX := Lib.hid ((Below.refl wr.heap.size wr).alloc (Nat.le_refl _) (boxOf x))
      have HXZ := Lib.hid (nodAt_box wr x 60)
      obtain ⟨wo, rfl⟩ : ∃ wo : World, wo = wr := ⟨_, rfl⟩
      go_wp2
      go_loopw [6] (fun v6 wi => ∃ j : Nat, j ≤ k ∧ v6 = .int .i64 j ∧ Hid (∀ q, j ≤ q → q < o.length → 0 < ordN (nk o q) x) ∧ Hid (Below wo.heap.size wo wi) ∧ Hid (NodAt wi wo.heap.size 0 x)) (fun v6 _ => (intOf v6).toNat)
      case atStart => exact ⟨k, Nat.le_refl _, rfl, Lib.hid (fun q h1 h2 => absurd h1 (by omega)), HBX, HXZ⟩
      case round =>
        obtain ⟨j, hj, rfl, HGT, HBI, HZI⟩ := hrel
        obtain ⟨c0, c1, c2, c3, c4, c5, c6, c7, c8, c9, c10, c11⟩ := HZI.out.zero
        obtain ⟨w2, rfl⟩ : ∃ w2 : World, w2 = wr := ⟨_, rfl⟩
        go_upto_region 6 with fail
        go_cut [6, 29] from 16 to 29 (fun c6 u wc => c6 = .int .i64 j ∧ u = .bool (decide (0 < j ∧ 0 < ordN (nk o (j - 1)) x)) ∧ Hid (Below w2.heap.size w2 wc))
        case first =>
          by_cases hj0 : j = 0
          · subst hj0
            go_wp2
            go_quiet (fail)
            go_wp2_with fail
            go_meet
            case rel => exact ⟨rfl, by simp, Lib.hid (below_draws _ _ _)⟩
          · obtain ⟨q, rfl⟩ : ∃ q, j = q + 1 := ⟨j - 1, by omega⟩
            obtain ⟨g, rfl, hgB⟩ := HP.out (by omega)
            have HO2 := Lib.hid (HOW.out.below HBI.out)
            obtain ⟨q0, _⟩ := (show NodAt w2 g (q * 12) (nk o q) from (by have e := HO2.out; rw [← hol] at e; exact e.nodAt (by omega)))
            have hwq : IntKind.i64.wrap (q : Int) = (q : Int) := by rw [IntKind.wrap_i64]; omega
            have hql : (q : Int) < (k : Int) := by omega
            have hPq := HPO.out q (by omega)
            generalize hy : nk o q = y at *
            go_wp2
            go_still_tail 11, (by kernel_rfl)
            go_wp2_with fail
            refine (PathOrder_any _ _ _ hPq HPX.out).mono ?_
            rintro e wc ⟨rfl, hb⟩
            have HBC := Lib.hid ((Below.refl w2.heap.size w2).drew.trans hb)
            clear hb
            go_wp2_with fail
            go_meet
            case rel => exact ⟨by go_num, by rw [Nat.add_sub_cancel, hy]; simp [ordN], HBC⟩
        case rest =>
          obtain ⟨rfl, rfl, HBC⟩ := hcut
          have HBW := Lib.hid (HBI.out.trans (HBC.out.mono HBI.out.size))
          have HZW := Lib.hid (HZI.out.below HBC.out)
          by_cases hcb : 0 < j ∧ 0 < ordN (nk o (j - 1)) x
          · obtain ⟨q, rfl⟩ : ∃ q, j = q + 1 := ⟨j - 1, by omega⟩
            have HG2 := Lib.hid (show ∀ p, q ≤ p → p < o.length → 0 < ordN (nk o p) x from fun p h1 h2 => by
              by_cases e : p = q
              · rw [e]; exact hcb.2
              · exact HGT.out p (by omega) h2)
            rw [decide_eq_true hcb]
            clear hcb
            go_wp2
            go_roundw
            case rel => exact ⟨q, by omega, by go_num, HG2, HBW, HZW⟩
            case measure => simp [intOf]
          · have HIN := Lib.hid (ins_at (n := x) HSO.out (by omega : j ≤ o.length) HGT.out (fun h0 => Int.not_lt.1 fun h => hcb ⟨h0, h⟩))
            rw [decide_eq_false hcb]
            clear hcb
            have HR := Lib.hid (HB.out.trans (HBW.out.mono HB.out.size))
            have HOC := Lib.hid (HOW.out.below HBW.out)
            have hst := fun w => run_takeN w p k cap' j hj hcl
            have hdr := fun w => run_dropN w p k cap' j hj hcl
            have HSC := Lib.hid (by have e := HOC.out; rw [← hol] at e; exact e.slice (by unfold maxLen; omega))
            have HTK := Lib.hid (nods_take HSC.out (i := j) (by omega))
            have HDK := Lib.hid (nods_drop HSC.out (i := j) (by omega))
            rw [hol] at HDK
            have hlt1 : (o.take j).length = j := by rw [List.length_take]; omega
            have hld1 : (o.drop j).length = k - j := by rw [List.length_drop]; omega
            generalize sliced p j k cap' 12 = u at *
            have HA1 := Lib.hid ((Below.refl wc.heap.size wc).alloc (Nat.le_refl _) (.cells #[] 60))
            have HE1 := Lib.hid (show OwnNods 60 (wc.alloc (.cells #[] 60)) wc.heap.size (.slice (some ⟨wc.heap.size, 0, none⟩) 0 0) [] from ⟨World.ownsRow_made wc #[] 0 (Nat.le_refl _) (by unfold maxLen; omega) rfl, fun x hx => absurd hx (by simp)⟩)
            have HT1 := Lib.hid (nods_below HTK.out HA1.out)
            go_upto_region 9 with (at_builtin; refine wpList_app _ rfl (.tmp 32) (.tmp 35) 22 22 rfl _ _ rfl rfl (fun ty => app_src _ 22 22 ty wc.heap.size 60 i0 _ 12 144 Tryd.underlying22 HI.out.1 HI.out.2.1 HI.out.2.2.1 HI.out.2.2.2 rfl (by decide) _ _ ([] : List Nod).length (o.take j).length _ _ HE1.out.1 (src_nods Tryd.underlying22 HT1.out) (by simp only [hlt1, hld1, List.length_nil, List.length_append, List.length_cons]; unfold maxLen; omega) (by simp only [hlt1, hld1, List.length_nil, List.length_append, List.length_cons]; omega) HA1.out.size) ?_; intro v1 w1 ho hg hv; have HZ1 := Lib.hid (And.intro ho (And.intro hg hv.2)); clear ho hg hv)
            have HO1 := Lib.hid (show OwnNods 60 w1 wc.heap.size v1 (o.take j) from HE1.out.app (m := o.take j) (part_in HOC.out HA1.out (fun y hy => List.mem_of_mem_take hy) (fun b h => by simp [Value.ownBlock] at h; omega)) HZ1.out.1 HZ1.out.2.1 HZ1.out.2.2)
            have HB1 := Lib.hid (below_app HA1.out HZ1.out.2.1 HE1.out.1 HA1.out.size)
            have HZW1 := Lib.hid (HZW.out.below HB1.out)
            obtain ⟨m0, m1, m2, m3, m4, m5, m6, m7, m8, m9, m10, m11⟩ := HZW1.out.zero
            have HA2 := Lib.hid (HB1.out.alloc HB1.out.size (boxOf x))
            have HO1b := Lib.hid (HO1.out.below ((Below.refl w1.heap.size w1).alloc (Nat.le_refl _) (boxOf x)))
            have HN2 := Lib.hid (nodIn_arg HKX.out (HR.out.trans (HA2.out.mono HR.out.size)) (HO1.out.mono HR.out.size))
            go_upto_region 10 with (at_builtin; refine wpList_app _ rfl (.tmp 37) (.tmp 39) 22 22 rfl _ _ rfl rfl (fun ty => app_src _ 22 22 ty wc.heap.size 60 i0 _ 12 144 Tryd.underlying22 HI.out.1 HI.out.2.1 HI.out.2.2.1 HI.out.2.2.2 rfl (by decide) _ _ (o.take j).length 1 _ _ HO1b.out.1 (src_nod w1 _ _ _ Tryd.underlying22 x) (by simp only [hlt1, hld1, List.length_nil, List.length_append, List.length_cons]; unfold maxLen; omega) (by simp only [hlt1, hld1, List.length_nil, List.length_append, List.length_cons]; omega) HA2.out.size) ?_; intro v2 w3 ho hg hv; have HZ2 := Lib.hid (And.intro ho (And.intro hg hv.2)); clear ho hg hv)
            have HO2 := Lib.hid (HO1b.out.app (m := [x]) (fun y hy => by rw [List.mem_singleton.1 hy]; exact HN2.out) HZ2.out.1 HZ2.out.2.1 HZ2.out.2.2)
            have HB2 := Lib.hid (below_app HA2.out HZ2.out.2.1 HO1b.out.1 HA2.out.size)
            have HD2 := Lib.hid (nods_below HDK.out HB2.out)
            clear m0 m1 m2 m3 m4 m5 m6 m7 m8 m9 m10 m11
            go_wp2_with (at_builtin; refine wpList_app _ rfl (.tmp 41) (.tmp 44) 22 22 rfl _ _ rfl rfl (fun ty => app_src _ 22 22 ty wc.heap.size 60 i0 _ 12 144 Tryd.underlying22 HI.out.1 HI.out.2.1 HI.out.2.2.1 HI.out.2.2.2 rfl (by decide) _ _ (o.take j ++ [x]).length (o.drop j).length _ _ HO2.out.1 (src_nods Tryd.underlying22 HD2.out) (by simp only [hlt1, hld1, List.length_nil, List.length_append, List.length_cons]; unfold maxLen; omega) (by simp only [hlt1, hld1, List.length_nil, List.length_append, List.length_cons]; omega) HB2.out.size) ?_; intro v4 w4 ho hg hv; have HZ3 := Lib.hid (And.intro ho (And.intro hg hv.2)); clear ho hg hv)
            have HO3 := Lib.hid (HO2.out.app (m := o.drop j) (part_in HOC.out HB2.out (fun y hy => List.mem_of_mem_drop hy) (fun b h => (World.ownsRow.lt HO2.out.1 b h).1)) HZ3.out.1 HZ3.out.2.1 HZ3.out.2.2)
            have HB3 := Lib.hid (HR.out.trans ((below_app HB2.out HZ3.out.2.1 HO2.out.1 HB2.out.size).mono HR.out.size))
            have HO4 := Lib.hid (show OwnNods 60 w4 w.heap.size v4 (insN o x) from by
              rw [HIN.out]
              have e := HO3.out.mono HR.out.size
              rw [List.append_assoc] at e
              exact e)
            go_roundw
            case rel => exact ⟨k + 1, _, _, by omega, by go_num, rfl, Lib.hid HNX.out.symm, HO4, HB3⟩
            case measure => simp [intOf]; omega
    · obtain rfl : k = l.length := by omega
      rw [List.take_length] at HE
      have HDO := Lib.hid (show ∀ i, i < o.length → (nk o i).data.length ≤ 140737488355328 from by rw [HE.out]; exact isort_dat HD.out)
      have hol : o.length = l.length := by rw [HE.out]; exact hlen
      go_wp2_with fail
      refine (CopyR_any _ o _ (HOW.out.slice (by unfold maxLen; omega)) (by omega) HDO.out).mono ?_
      rintro e w5 ⟨v5, c, rfl, ho, hcb, hb⟩
      have HO5 := Lib.hid (ho.mono HB.out.size)
      have HB5 := Lib.hid (HB.out.trans (hb.mono HB.out.size))
      have HC5 := Lib.hid hcb
      clear ho hb hcb
      go_wp2
      go_ret
      rw [← HE.out]
      exact ⟨_, c, rfl, HO5.out, HC5.out, HB5.out⟩
set_option maxRecDepth 100000 in
theorem IsortR_nil (a : Option Addr) (cap : Nat) (w : World) : Calls Tryd.prog 15 #[.slice a 0 cap] w (RetT 60 w []) := by
  go_enter Tryd.func15, Tryd.ntmps15
  go_wp2
  go_loop [3, 5, 6, 7, 10] (fun v _ _ _ i => i = .int .i64 0 ∧ v = .slice none 0 0) (fun _ _ _ _ _ => 0)
  case atStart => exact ⟨rfl, rfl⟩
  case round =>
    obtain ⟨rfl, rfl⟩ := hrel
    go_wp2_with fail
    refine (CopyR_nil none 0 _).mono ?_
    rintro e w5 ⟨v5, c, rfl, ho, hcb, hb⟩
    have HO5 := Lib.hid ho
    have HB5 := Lib.hid hb
    have HC5 := Lib.hid hcb
    clear ho hb hcb
    go_wp2
    go_ret
    exact ⟨_, c, rfl, HO5.out, HC5.out, HB5.out⟩
theorem IsortR_any (v : Value) (l : List Nod) (w : World) (h : SliceC maxLen 12 (NodC maxLen) w [v] l) (hfew : l.length ≤ 8000000000) (hdat : ∀ i, i < l.length → (nk l i).data.length ≤ 140737488355328) (hps : ∀ i, i < l.length → (nk l i).path.size ≤ 1048576) :
    Calls Tryd.prog 15 #[v] w (RetT 60 w (isort l)) := by
  rcases nods_cases h with ⟨a, cap, rfl, rfl, _⟩ | ⟨b, off, cap, rfl, h1, h2, h3, h6, h4, h5⟩
  · exact IsortR_nil a cap w
  · exact IsortR_at b off cap l w h1 hfew h2 h3 h4 h5 hdat hps
end Go.Proofs.YtaffgndickdbiaaDoor
