/-
  Texts of this proof, one behind the other: MemRec, MemHead, HeadC, HeadR, MemB.
-/
import Derived.Test.YtaffgndickdbiaaGreatDoorPackL
import Derived.Test.YtaffgndickdbiaaGreatDoorWriteArchivesLot01
/-
  creelref.MemberRecords, walked.
-/
namespace Go.Creel
set_option linter.unusedVariables false
/-- a record that is said if b -/
def recIf (b : Bool) (k v : ByteArray) : List Rec := if b then [⟨k, v⟩] else []
def MetAt (w : World) (b : Nat) (m : Meta) : Prop := w.cell? ⟨b, 0, none⟩ = some (.int .i64 m.mode) ∧ w.cell? ⟨b, 1, none⟩ = some (.int .i64 m.uid) ∧ w.cell? ⟨b, 2, none⟩ = some (.int .i64 m.gid) ∧ w.cell? ⟨b, 3, none⟩ = some (.string m.user) ∧ w.cell? ⟨b, 4, none⟩ = some (.string m.group) ∧ w.cell? ⟨b, 5, none⟩ = some (.int .i64 m.second) ∧ w.cell? ⟨b, 6, none⟩ = some (.int .i64 m.nano)
theorem recIf_num (k : ByteArray) (n : Int) : recIf (decide (2097152 ≤ n)) k (itoaB n) = recNum k n 2097151 := by
  unfold recIf recNum
  by_cases h : 2097151 < n
  · rw [if_pos (by simpa using (show 2097152 ≤ n by omega)), if_pos h]
  · rw [if_neg (by simpa using (show ¬ 2097152 ≤ n by omega)), if_neg h]
theorem recIf_text (k s : ByteArray) (m : Nat) (M : Int) (hM : M = m) : recIf (decide (M < (s.size : Int))) k s = recText1 k s m := by
  subst hM
  unfold recIf recText1
  by_cases h : m < s.size
  · rw [if_pos (by simpa using h), if_pos h]
  · rw [if_neg (by simpa using h), if_neg h]
theorem recIf_path (s : ByteArray) : recIf ((cutTwo s).2.2 != 0) kPath s = recPath s := by
  unfold recIf recPath
  by_cases h : (cutTwo s).2.2 = 0
  · rw [if_neg (by simpa using h), if_pos h]
  · rw [if_pos (by simpa using h), if_neg h]
theorem metAt_new (w : World) (m : Meta) (t : TypeId) : MetAt (w.alloc (.cells #[.int .i64 m.mode, .int .i64 m.uid, .int .i64 m.gid, .string m.user, .string m.group, .int .i64 m.second, .int .i64 m.nano] t)) w.heap.size m := by
  unfold MetAt
  refine ⟨?_, ?_, ?_, ?_, ?_, ?_, ?_⟩ <;> simp
theorem RecG.met {tR tP : TypeId} {w0 w : World} {b bm : Nat} {cs : Array Value} {v : Value} {l : List Rec} {m : Meta} (h : RecG tR tP w0 w b cs v l) (hm : MetAt w0 bm m) (hne : bm ≠ b) : MetAt w bm m := by
  obtain ⟨h0, h1, h2, h3, h4, h5, h6⟩ := hm
  exact ⟨h.other h0 hne, h.other h1 hne, h.other h2 hne, h.other h3 hne, h.other h4 hne, h.other h5 hne, h.other h6 hne⟩
theorem RecG.ent {tR tP : TypeId} {w0 w : World} {b bx : Nat} {cs : Array Value} {v : Value} {l : List Rec} {x : Ent} (h : RecG tR tP w0 w b cs v l) (hm : EntAt w0 bx 0 x) (hne : bx ≠ b) : EntAt w bx 0 x := by
  obtain ⟨h0, h1, h2, h3, h4, h5, h6, h7, h8, h9, h10⟩ := hm
  exact ⟨h.other h0 hne, h.other h1 hne, h.other h2 hne, h.other h3 hne, h.other h4 hne, h.other h5 hne, h.other h6 hne, h.other h7 hne, h.other h8 hne, h.other h9 hne, h.other h10 hne⟩
end Go.Creel
namespace Go.Proofs.YtaffgndickdbiaaGreatDoor
set_option linter.unusedVariables false
set_option linter.unusedSimpArgs false
open Go.Creel Go.RowKit
abbrev tRecs : TypeId := 63
set_option maxRecDepth 100000 in
set_option maxHeartbeats 2000000 in
theorem Add_any (b : Nat) (is : Bool) (key value : ByteArray) (w0 w : World) (v : Value) (l : List Rec) (s : RecG tRecE tRecs w0 w b #[v] v l) (hl : l.length ≤ 100) :
    Calls Tryz.prog 102 #[.bool is, .string key, .string value, .pointer (some ⟨b, 0, none⟩)] w fun e w' => e = .returned (.tuple #[]) ∧ ∃ v', RecG tRecE tRecs w0 w' b #[v'] v' (l ++ recIf is key value) := by
  cases is with
  | false =>
    have H := Lib.hid s
    clear s
    go_enter Tryz.func102, Tryz.ntmps102
    go_wp2
    go_end0
    exact ⟨rfl, _, by rw [show recIf false key value = [] from rfl, List.append_nil]; exact H.out⟩
  | true =>
    obtain ⟨i0, hi, hz0, hz1, hz2⟩ := info_parts info_record
    have HI := Lib.hid (And.intro hi (And.intro hz0 (And.intro hz1 hz2)))
    have H := Lib.hid s
    have HBA := Lib.hid ((Below.refl w.heap.size w).alloc (Nat.le_refl _) (.cells #[.string key, .string value] 85))
    have H3 := Lib.hid (H.out.below HBA.out)
    have HW0 := Lib.hid H3.out.size
    have c0 : w.cell? ⟨b, 0, none⟩ = some v := H.out.cell 0
    have hlt := s.lt
    clear hi hz0 hz1 hz2 s
    go_enter Tryz.func102, Tryz.ntmps102
    go_wp2_with (at_builtin; refine wpList_app _ rfl (.tmp 8) (.tmp 12) 63 63 rfl _ _ rfl rfl (fun ty => app_src _ 63 63 ty w0.heap.size 85 i0 _ 2 32 Tryz.underlying63 HI.out.1 HI.out.2.1 HI.out.2.2.1 HI.out.2.2.2 rfl (by decide) _ _ l.length 1 _ _ H3.out.own (src_rec w _ _ _ Tryz.underlying63 ⟨key, value⟩) (by unfold maxLen; omega) (by omega) HW0.out) ?_; intro v4 w4 ho2 hg2 hv2; have HZ := Lib.hid (And.intro ho2 (And.intro hg2 hv2.2)); have e1 : w4.cell? ⟨b, 0, none⟩ = some v := H3.out.cell4 hg2 0; have e2 := H3.out.free4 hg2 0; obtain ⟨g4, cp4, rfl⟩ := ownsRow_form2 ho2; clear ho2 hg2 hv2)
    go_end0
    exact ⟨rfl, _, H3.out.say (r := ⟨key, value⟩) 0 HZ.out.1 HZ.out.2.1 rfl⟩
set_option maxRecDepth 100000 in
set_option maxHeartbeats 4000000 in
theorem MemRecs_ok (x : Ent) (w : World) (hx : x.Ok maxLen w) (hE : entFault x = 0) (hT : Pow10 w) :
    Calls Tryz.prog 42 #[x.val] w (RetRecs tRecE w (memRecs x, 0)) := by
  have HR := Lib.hid (entRight hE)
  have HBX := Lib.hid ((Below.refl w.heap.size w).alloc (Nat.le_refl _) (.cells #[.string x.path, .int .i64 x.kind, .string x.target, .int .i64 x.mt.mode, .int .i64 x.mt.uid, .int .i64 x.mt.gid, .string x.mt.user, .string x.mt.group, .int .i64 x.mt.second, .int .i64 x.mt.nano, .slice x.da x.data.length x.dcap] 26))
  have HEB := Lib.hid (entAt_box w x 26)
  have HPR := Lib.hid (fun W => EntryFault_any x W hx.path hx.target hx.mt (by obtain ⟨_, _, _, _, _, h, _⟩ := hx.data; exact h) hx.kind (Nat.le_refl _))
  rw [hE] at HPR
  have HT := Lib.hid (hT.below HBX.out)
  have HTW := Lib.hid hT
  have hgi := HR.out.mt.gid
  have hui := HR.out.mt.uid
  have hus := HR.out.mt.user
  have hgs := HR.out.mt.group
  have hts := HR.out.target
  have hps := HR.out.pathSize
  have hsec := HR.out.mt.second
  have hnan := HR.out.mt.nano
  clear hx hE hT
  go_enter Tryz.func42, Tryz.ntmps42
  go_wp2_with fail
  refine (HPR.out _).mono ?_
  rintro e wa ⟨rfl, hb⟩
  have HBA := Lib.hid (HBX.out.trans (hb.mono HBX.out.size))
  have HEA := Lib.hid (HEB.out.below hb)
  have HTA := Lib.hid (HT.out.below hb)
  have hxa := HEB.out.lt
  have hws : w.heap.size < wa.heap.size := Nat.lt_of_lt_of_le hxa hb.size
  clear hb hxa HEB HT HBX
  obtain ⟨h0, h1, h2, h3, h4, h5, h6, h7, h8, h9, h10⟩ := HEA.out.zero
  go_upto_region 7 with fail
  have HO := Lib.hid ((Below.refl wa.heap.size wa).alloc (Nat.le_refl _) (.cells #[.slice none 0 0] tRecs))
  have HMM := Lib.hid (HO.out.alloc HO.out.size (.cells #[.int .i64 x.mt.mode, .int .i64 x.mt.uid, .int .i64 x.mt.gid, .string x.mt.user, .string x.mt.group, .int .i64 x.mt.second, .int .i64 x.mt.nano] 23))
  have HMT0 := Lib.hid (metAt_new (wa.alloc (.cells #[.slice none 0 0] tRecs)) x.mt 23)
  have HE := Lib.hid (HEA.out.below HMM.out)
  have HTM := Lib.hid (HTA.out.below HMM.out)
  have hso : (wa.alloc (.cells #[.slice none 0 0] tRecs)).heap.size = wa.heap.size + 1 := by simp
  have G0 : Hid (RecG tRecE tRecs ((wa.alloc (.cells #[.slice none 0 0] tRecs)).alloc (.cells #[.int .i64 x.mt.mode, .int .i64 x.mt.uid, .int .i64 x.mt.gid, .string x.mt.user, .string x.mt.group, .int .i64 x.mt.second, .int .i64 x.mt.nano] 23)) ((wa.alloc (.cells #[.slice none 0 0] tRecs)).alloc (.cells #[.int .i64 x.mt.mode, .int .i64 x.mt.uid, .int .i64 x.mt.gid, .string x.mt.user, .string x.mt.group, .int .i64 x.mt.second, .int .i64 x.mt.nano] 23)) wa.heap.size #[.slice none 0 0] (.slice none 0 0) []) := Lib.hid ⟨heap_alloc2_old _ _ _, OwnRecs.nil _ _ _, by simp; omega, grown_by_below (Below.refl _ _)⟩
  have HBM := Lib.hid (HBA.out.trans (HMM.out.mono HBA.out.size))
  rw [hso] at HMT0
  clear HO HMM h0 h1 h2 h3 h4 h5 h6 h7 h8 h9 h10 HEA HTA
  generalize (wa.alloc (.cells #[.slice none 0 0] tRecs)).alloc (.cells #[.int .i64 x.mt.mode, .int .i64 x.mt.uid, .int .i64 x.mt.gid, .string x.mt.user, .string x.mt.group, .int .i64 x.mt.second, .int .i64 x.mt.nano] 23) = wm at *
  try simp only [hso]
  clear hso
  generalize hbo : wa.heap.size = bo at *
  generalize hbm : bo + 1 = bm at *
  have hxo : w.heap.size ≠ bo := by omega
  have hmo : bm ≠ bo := by omega
  have HMT := HMT0
  have G := G0
  clear HMT0 G0
  have HLOW : Hid (w.heap.size ≤ bo) := Lib.hid (by omega)
  obtain ⟨h0, h1, h2, h3, h4, h5, h6, h7, h8, h9, h10⟩ := HE.out.zero
  obtain ⟨m0, m1, m2, m3, m4, m5, m6⟩ := HMT.out
  go_wp2_with fail
  refine (TimeText_any x.mt.second x.mt.nano _ (by unfold i64; omega) (by unfold i64; omega) HTM.out).mono ?_
  rintro e w1 ⟨rfl, hb⟩
  have G1 := Lib.hid (G.out.below hb)
  clear hb G h0 h1 h2 h3 h4 h5 h6 h7 h8 h9 h10 m0 m1 m2 m3 m4 m5 m6
  obtain ⟨h0, h1, h2, h3, h4, h5, h6, h7, h8, h9, h10⟩ := (G1.out.ent HE.out hxo).zero
  obtain ⟨m0, m1, m2, m3, m4, m5, m6⟩ := G1.out.met HMT.out hmo
  go_wp2_with fail
  refine (CutTwo_any x.path _ (by unfold maxLen; omega)).mono ?_
  rintro e w2 ⟨rfl, hb⟩
  have G := Lib.hid (G1.out.below hb)
  clear hb G1 h0 h1 h2 h3 h4 h5 h6 h7 h8 h9 h10 m0 m1 m2 m3 m4 m5 m6
  obtain ⟨w1, rfl⟩ : ∃ W : World, W = w2 := ⟨_, rfl⟩
  obtain ⟨v, hv⟩ : ∃ V : Value, V = .slice none 0 0 := ⟨_, rfl⟩
  rw [← hv] at G
  clear hv
  obtain ⟨h0, h1, h2, h3, h4, h5, h6, h7, h8, h9, h10⟩ := (G.out.ent HE.out hxo).zero
  obtain ⟨m0, m1, m2, m3, m4, m5, m6⟩ := G.out.met HMT.out hmo
  go_upto_region 9 with fail
  have hdr : RecG tRecE tRecs wm w1.drew bo #[v] v ([]) := G.out.below ((Below.refl _ _).drew)
  have HITO := Lib.hid (fun W (hW : RecG tRecE tRecs wm W bo #[v] v ([])) => show Calls Tryz.prog 104 #[.int .i64 x.mt.gid] W (fun e w' => e = .returned (.string (itoaB x.mt.gid)) ∧ w'.cell? ⟨bm, 2, none⟩ = some (.int .i64 x.mt.gid) ∧ RecG tRecE tRecs wm w' bo #[v] v ([])) from
    (Itoa_any x.mt.gid W (by unfold i64; omega) (HTW.out.below (hW.bel HBM.out HLOW.out))).mono fun e w' hh => by
      have g := hW.below hh.2
      exact ⟨hh.1, (g.met HMT.out hmo).2.2.1, g⟩)
  have HADD := Lib.hid (fun W (hW : RecG tRecE tRecs wm W bo #[v] v ([])) => show Calls Tryz.prog 102 #[.bool (decide (2097152 ≤ x.mt.gid)), .string kGid, .string (itoaB x.mt.gid), .pointer (some ⟨bo, 0, none⟩)] W (fun e w' => e = .returned (.tuple #[]) ∧ w'.cell? ⟨bm, 2, none⟩ = some (.int .i64 x.mt.gid) ∧ Hid (∃ v, RecG tRecE tRecs wm w' bo #[v] v (rl1 x))) from
    (Add_any bo _ kGid _ _ W _ _ hW (by simp)).mono fun e w' hh => by
      obtain ⟨he, v', g⟩ := hh
      refine ⟨he, (g.met HMT.out hmo).2.2.1, Lib.hid ⟨v', ?_⟩⟩
      rw [recIf_num] at g
      exact (by rw [List.nil_append] at g; exact g))
  go_upto_region 9 with fail
  go_cut [43] from 36 to 43 (fun u wy => Hid (∃ v, RecG tRecE tRecs wm wy bo #[v] v (rl1 x)))
  case first =>
    go_region_held3 (fun w' => w'.cell? ⟨bm, 2, none⟩ = some (.int .i64 x.mt.gid)) (go_keep)
      (first
        | (go_at_call 104; refine (HITO.out _ ?_).mono ?_; assumption; rintro e w3 ⟨rfl, r0, hg3⟩)
        | (go_at_call 102; refine (HADD.out _ ?_).mono ?_; assumption; rintro e w3 ⟨rfl, r0, hg4⟩))
    go_wp2_with fail
    go_meet
    case rel => exact hg4
  case rest =>
  have HS := hcut
  obtain ⟨v2, g⟩ := HS.out
  clear HITO HADD hdr HS hcut
  obtain ⟨w2, rfl⟩ : ∃ W : World, W = wc := ⟨_, rfl⟩
  have G2 : Hid (RecG tRecE tRecs wm w2 bo #[v2] v2 (rl1 x)) := Lib.hid (by exact g)
  clear g G h0 h1 h2 h3 h4 h5 h6 h7 h8 h9 h10 m0 m1 m2 m3 m4 m5 m6
  obtain ⟨v, rfl⟩ : ∃ V : Value, V = v2 := ⟨_, rfl⟩
  obtain ⟨w1, rfl⟩ : ∃ W : World, W = w2 := ⟨_, rfl⟩
  have G := G2
  clear G2
  obtain ⟨h0, h1, h2, h3, h4, h5, h6, h7, h8, h9, h10⟩ := (G.out.ent HE.out hxo).zero
  obtain ⟨m0, m1, m2, m3, m4, m5, m6⟩ := G.out.met HMT.out hmo
  go_wp2_with fail
  refine (Add_any bo _ kGname x.mt.group _ _ _ _ G.out (Nat.le_trans (rl1_len x) (by omega))).mono ?_
  rintro e w2 ⟨rfl, v2, g⟩
  rw [recIf_text _ _ 31 31 rfl] at g
  have G2 : Hid (RecG tRecE tRecs wm w2 bo #[v2] v2 (rl2 x)) := Lib.hid (by exact g)
  clear g G h0 h1 h2 h3 h4 h5 h6 h7 h8 h9 h10 m0 m1 m2 m3 m4 m5 m6
  obtain ⟨v, rfl⟩ : ∃ V : Value, V = v2 := ⟨_, rfl⟩
  obtain ⟨w1, rfl⟩ : ∃ W : World, W = w2 := ⟨_, rfl⟩
  have G := G2
  clear G2
  obtain ⟨h0, h1, h2, h3, h4, h5, h6, h7, h8, h9, h10⟩ := (G.out.ent HE.out hxo).zero
  obtain ⟨m0, m1, m2, m3, m4, m5, m6⟩ := G.out.met HMT.out hmo
  go_wp2_with fail
  refine (Add_any bo _ kLink x.target _ _ _ _ G.out (Nat.le_trans (rl2_len x) (by omega))).mono ?_
  rintro e w2 ⟨rfl, v2, g⟩
  rw [recIf_text _ _ 100 100 rfl] at g
  have G2 : Hid (RecG tRecE tRecs wm w2 bo #[v2] v2 (rl3 x)) := Lib.hid (by exact g)
  clear g G h0 h1 h2 h3 h4 h5 h6 h7 h8 h9 h10 m0 m1 m2 m3 m4 m5 m6
  obtain ⟨v, rfl⟩ : ∃ V : Value, V = v2 := ⟨_, rfl⟩
  obtain ⟨w1, rfl⟩ : ∃ W : World, W = w2 := ⟨_, rfl⟩
  have G := G2
  clear G2
  obtain ⟨h0, h1, h2, h3, h4, h5, h6, h7, h8, h9, h10⟩ := (G.out.ent HE.out hxo).zero
  obtain ⟨m0, m1, m2, m3, m4, m5, m6⟩ := G.out.met HMT.out hmo
  go_upto_region 12 with fail
  go_cut [75] from 60 to 75 (fun u wy => Hid (∃ v, RecG tRecE tRecs wm wy bo #[v] v (rl4 x)))
  case first =>
    by_cases t1 : 0 < x.mt.nano
    · have HT := Lib.hid (recTime_yes (m := x.mt) (.inl t1))
      have d1 : (x.mt.nano != 0) = true := by rw [bne_iff_ne]; omega
      clear t1
      clear hsec hnan
      go_wp2_with fail
      refine (Add_any bo true kMtime _ _ _ _ _ G.out (Nat.le_trans (rl3_len x) (by omega))).mono ?_
      rintro e w2 ⟨rfl, v2, g⟩
      have HS : Hid (∃ v, RecG tRecE tRecs wm w2 bo #[v] v (rl4 x)) := Lib.hid ⟨v2, by unfold rl4; rw [HT.out.1]; exact g⟩
      clear g
      go_wp2
      go_meet
      exact HS
    · have d1 : (x.mt.nano != 0) = false := by have : x.mt.nano = 0 := by omega
                                               rw [this]; rfl
      by_cases t2 : x.mt.second < 0
      · have HT := Lib.hid (recTime_yes (m := x.mt) (.inr (.inl t2)))
        have d2 : decide (x.mt.second < 0) = true := decide_eq_true t2
        clear t1 t2
        clear hsec hnan
        go_wp2_with fail
        refine (Add_any bo true kMtime _ _ _ _ _ G.out (Nat.le_trans (rl3_len x) (by omega))).mono ?_
        rintro e w2 ⟨rfl, v2, g⟩
        have HS : Hid (∃ v, RecG tRecE tRecs wm w2 bo #[v] v (rl4 x)) := Lib.hid ⟨v2, by unfold rl4; rw [HT.out.1]; exact g⟩
        clear g
        go_wp2
        go_meet
        exact HS
      · have d2 : decide (x.mt.second < 0) = false := decide_eq_false t2
        by_cases t3 : 8589934591 < x.mt.second
        · have HT := Lib.hid (recTime_yes (m := x.mt) (.inr (.inr t3)))
          have d3 : decide (8589934592 ≤ x.mt.second) = true := decide_eq_true (by omega)
          clear t1 t2 t3
          clear hsec hnan
          go_wp2_with fail
          refine (Add_any bo true kMtime _ _ _ _ _ G.out (Nat.le_trans (rl3_len x) (by omega))).mono ?_
          rintro e w2 ⟨rfl, v2, g⟩
          have HS : Hid (∃ v, RecG tRecE tRecs wm w2 bo #[v] v (rl4 x)) := Lib.hid ⟨v2, by unfold rl4; rw [HT.out.1]; exact g⟩
          clear g
          go_wp2
          go_meet
          exact HS
        · have HT := Lib.hid (recTime_no (m := x.mt) (fun h => by rcases h with h | h | h <;> omega))
          have d3 : decide (8589934592 ≤ x.mt.second) = false := decide_eq_false (by omega)
          clear t1 t2 t3
          clear hsec hnan
          go_wp2_with fail
          refine (Add_any bo false kMtime _ _ _ _ _ G.out (Nat.le_trans (rl3_len x) (by omega))).mono ?_
          rintro e w2 ⟨rfl, v2, g⟩
          have HS : Hid (∃ v, RecG tRecE tRecs wm w2 bo #[v] v (rl4 x)) := Lib.hid ⟨v2, by unfold rl4; rw [HT.out.1]; exact g⟩
          clear g
          go_wp2
          go_meet
          exact HS
  case rest =>
  have HS := hcut
  obtain ⟨v2, g⟩ := HS.out
  clear HS hcut
  obtain ⟨w2, rfl⟩ : ∃ W : World, W = wc := ⟨_, rfl⟩
  have G2 : Hid (RecG tRecE tRecs wm w2 bo #[v2] v2 (rl4 x)) := Lib.hid (by exact g)
  clear g G h0 h1 h2 h3 h4 h5 h6 h7 h8 h9 h10 m0 m1 m2 m3 m4 m5 m6
  obtain ⟨v, rfl⟩ : ∃ V : Value, V = v2 := ⟨_, rfl⟩
  obtain ⟨w1, rfl⟩ : ∃ W : World, W = w2 := ⟨_, rfl⟩
  have G := G2
  clear G2
  obtain ⟨h0, h1, h2, h3, h4, h5, h6, h7, h8, h9, h10⟩ := (G.out.ent HE.out hxo).zero
  obtain ⟨m0, m1, m2, m3, m4, m5, m6⟩ := G.out.met HMT.out hmo
  go_wp2_with fail
  refine (Add_any bo _ kPath x.path _ _ _ _ G.out (Nat.le_trans (rl4_len x) (by omega))).mono ?_
  rintro e w2 ⟨rfl, v2, g⟩
  rw [recIf_path] at g
  have G2 : Hid (RecG tRecE tRecs wm w2 bo #[v2] v2 (rl5 x)) := Lib.hid (by exact g)
  clear g G h0 h1 h2 h3 h4 h5 h6 h7 h8 h9 h10 m0 m1 m2 m3 m4 m5 m6
  obtain ⟨v, rfl⟩ : ∃ V : Value, V = v2 := ⟨_, rfl⟩
  obtain ⟨w1, rfl⟩ : ∃ W : World, W = w2 := ⟨_, rfl⟩
  have G := G2
  clear G2
  obtain ⟨h0, h1, h2, h3, h4, h5, h6, h7, h8, h9, h10⟩ := (G.out.ent HE.out hxo).zero
  obtain ⟨m0, m1, m2, m3, m4, m5, m6⟩ := G.out.met HMT.out hmo
  go_upto_region 14 with fail
  have hdr : RecG tRecE tRecs wm w1.drew bo #[v] v (rl5 x) := G.out.below ((Below.refl _ _).drew)
  have HITO := Lib.hid (fun W (hW : RecG tRecE tRecs wm W bo #[v] v (rl5 x)) => show Calls Tryz.prog 104 #[.int .i64 x.mt.uid] W (fun e w' => e = .returned (.string (itoaB x.mt.uid)) ∧ w'.cell? ⟨bm, 1, none⟩ = some (.int .i64 x.mt.uid) ∧ RecG tRecE tRecs wm w' bo #[v] v (rl5 x)) from
    (Itoa_any x.mt.uid W (by unfold i64; omega) (HTW.out.below (hW.bel HBM.out HLOW.out))).mono fun e w' hh => by
      have g := hW.below hh.2
      exact ⟨hh.1, (g.met HMT.out hmo).2.1, g⟩)
  have HADD := Lib.hid (fun W (hW : RecG tRecE tRecs wm W bo #[v] v (rl5 x)) => show Calls Tryz.prog 102 #[.bool (decide (2097152 ≤ x.mt.uid)), .string kUid, .string (itoaB x.mt.uid), .pointer (some ⟨bo, 0, none⟩)] W (fun e w' => e = .returned (.tuple #[]) ∧ w'.cell? ⟨bm, 1, none⟩ = some (.int .i64 x.mt.uid) ∧ Hid (∃ v, RecG tRecE tRecs wm w' bo #[v] v (rl6 x))) from
    (Add_any bo _ kUid _ _ W _ _ hW (Nat.le_trans (rl5_len x) (by omega))).mono fun e w' hh => by
      obtain ⟨he, v', g⟩ := hh
      refine ⟨he, (g.met HMT.out hmo).2.1, Lib.hid ⟨v', ?_⟩⟩
      rw [recIf_num] at g
      exact g)
  go_upto_region 14 with fail
  go_cut [89] from 82 to 89 (fun u wy => Hid (∃ v, RecG tRecE tRecs wm wy bo #[v] v (rl6 x)))
  case first =>
    go_region_held3 (fun w' => w'.cell? ⟨bm, 1, none⟩ = some (.int .i64 x.mt.uid)) (go_keep)
      (first
        | (go_at_call 104; refine (HITO.out _ ?_).mono ?_; assumption; rintro e w3 ⟨rfl, r0, hg3⟩)
        | (go_at_call 102; refine (HADD.out _ ?_).mono ?_; assumption; rintro e w3 ⟨rfl, r0, hg4⟩))
    go_wp2_with fail
    go_meet
    case rel => exact hg4
  case rest =>
  have HS := hcut
  obtain ⟨v2, g⟩ := HS.out
  clear HITO HADD hdr HS hcut
  obtain ⟨w2, rfl⟩ : ∃ W : World, W = wc := ⟨_, rfl⟩
  have G2 : Hid (RecG tRecE tRecs wm w2 bo #[v2] v2 (rl6 x)) := Lib.hid (by exact g)
  clear g G h0 h1 h2 h3 h4 h5 h6 h7 h8 h9 h10 m0 m1 m2 m3 m4 m5 m6
  obtain ⟨v, rfl⟩ : ∃ V : Value, V = v2 := ⟨_, rfl⟩
  obtain ⟨w1, rfl⟩ : ∃ W : World, W = w2 := ⟨_, rfl⟩
  have G := G2
  clear G2
  obtain ⟨h0, h1, h2, h3, h4, h5, h6, h7, h8, h9, h10⟩ := (G.out.ent HE.out hxo).zero
  obtain ⟨m0, m1, m2, m3, m4, m5, m6⟩ := G.out.met HMT.out hmo
  go_wp2_with fail
  refine (Add_any bo _ kUname x.mt.user _ _ _ _ G.out (Nat.le_trans (rl6_len x) (by omega))).mono ?_
  rintro e w2 ⟨rfl, v2, g⟩
  rw [recIf_text _ _ 31 31 rfl] at g
  have G2 : Hid (RecG tRecE tRecs wm w2 bo #[v2] v2 (rl7 x)) := Lib.hid (by exact g)
  clear g G h0 h1 h2 h3 h4 h5 h6 h7 h8 h9 h10 m0 m1 m2 m3 m4 m5 m6
  obtain ⟨v, rfl⟩ : ∃ V : Value, V = v2 := ⟨_, rfl⟩
  obtain ⟨w1, rfl⟩ : ∃ W : World, W = w2 := ⟨_, rfl⟩
  have G := G2
  clear G2
  obtain ⟨h0, h1, h2, h3, h4, h5, h6, h7, h8, h9, h10⟩ := (G.out.ent HE.out hxo).zero
  obtain ⟨m0, m1, m2, m3, m4, m5, m6⟩ := G.out.met HMT.out hmo
  have c0 : w1.cell? ⟨bo, 0, none⟩ = some v := G.out.cell 0
  have HBW := Lib.hid (G.out.bel HBM.out HLOW.out)
  have HOW := Lib.hid (OwnRecs.mono (G.out.own) HBM.out.size)
  go_wp2
  go_ret2
  exact ⟨v, rfl, HOW.out, HBW.out⟩
set_option maxRecDepth 100000 in
set_option maxHeartbeats 1000000 in
theorem MemRecs_any (x : Ent) (w : World) (hx : x.Ok maxLen w) (hT : Pow10 w) :
    Calls Tryz.prog 42 #[x.val] w (RetRecs tRecE w (recordsOf x)) := by
  by_cases hE : entFault x = 0
  · rw [recordsOf_ok hE]
    exact MemRecs_ok x w hx hE hT
  · rw [recordsOf_bad hE]
    have HBX := Lib.hid ((Below.refl w.heap.size w).alloc (Nat.le_refl _) (.cells #[.string x.path, .int .i64 x.kind, .string x.target, .int .i64 x.mt.mode, .int .i64 x.mt.uid, .int .i64 x.mt.gid, .string x.mt.user, .string x.mt.group, .int .i64 x.mt.second, .int .i64 x.mt.nano, .slice x.da x.data.length x.dcap] 26))
    have HPR := Lib.hid (fun W => EntryFault_any x W hx.path hx.target hx.mt (by obtain ⟨_, _, _, _, _, h, _⟩ := hx.data; exact h) hx.kind (Nat.le_refl _))
    generalize entFault x = q at *
    have hq : (q != 0) = true := by rw [bne_iff_ne]; exact hE
    clear hx hE hT
    go_enter Tryz.func42, Tryz.ntmps42
    go_wp2_with fail
    refine (HPR.out _).mono ?_
    rintro e w1 ⟨rfl, hb⟩
    have HB1 := Lib.hid (HBX.out.trans (hb.mono HBX.out.size))
    clear hb
    go_wp2
    go_ret2
    exact ⟨_, rfl, OwnRecs.nil _ _ _, HB1.out⟩
end Go.Proofs.YtaffgndickdbiaaGreatDoor
/-
  creelref.MemberHead, walked.
-/
namespace Go.Creel
set_option linter.unusedVariables false
set_option linter.unusedSimpArgs false
open Go.RowKit
def applyK (h : HeadN) (k : ByteArray) : HeadN := if k = kGid then { h with gid := 0 } else if k = kGname then { h with group := ⟨#[]⟩ } else if k = kLink then { h with lk := ⟨#[64, 108, 111, 110, 103]⟩ } else if k = kMtime then { h with time := 0 } else if k = kPath then { h with nm := ⟨#[64, 108, 111, 110, 103]⟩ } else if k = kUid then { h with uid := 0 } else if k = kUname then { h with user := ⟨#[]⟩ } else h
def applyR (h : HeadN) (r : Rec) : HeadN := applyK h r.key
theorem applyK_kGid (h : HeadN) : applyK h kGid = { h with gid := 0 } := by rfl
theorem applyK_kGname (h : HeadN) : applyK h kGname = { h with group := ⟨#[]⟩ } := by rfl
theorem applyK_kLink (h : HeadN) : applyK h kLink = { h with lk := ⟨#[64, 108, 111, 110, 103]⟩ } := by rfl
theorem applyK_kMtime (h : HeadN) : applyK h kMtime = { h with time := 0 } := by rfl
theorem applyK_kPath (h : HeadN) : applyK h kPath = { h with nm := ⟨#[64, 108, 111, 110, 103]⟩ } := by rfl
theorem applyK_kUid (h : HeadN) : applyK h kUid = { h with uid := 0 } := by rfl
theorem applyK_kUname (h : HeadN) : applyK h kUname = { h with user := ⟨#[]⟩ } := by rfl
noncomputable def hStart (x : Ent) : HeadN := ⟨(cutTwo x.path).2.1, (cutTwo x.path).1, x.target, x.mt.mode, x.mt.uid, x.mt.gid, x.data.length, x.mt.second, kindT x.kind, x.mt.user, x.mt.group⟩
theorem fold_gid (h : HeadN) (n m : Int) : (recNum kGid n m).foldl applyR h = { h with gid := if m < n then 0 else h.gid } := by
  unfold recNum; split <;> rfl
theorem fold_gname (h : HeadN) (s : ByteArray) (m : Nat) : (recText1 kGname s m).foldl applyR h = { h with group := if m < s.size then ⟨#[]⟩ else h.group } := by
  unfold recText1; split <;> rfl
theorem fold_link (h : HeadN) (s : ByteArray) (m : Nat) : (recText1 kLink s m).foldl applyR h = { h with lk := if m < s.size then sLong else h.lk } := by
  unfold recText1; split <;> rfl
theorem fold_time (h : HeadN) (m : Meta) : (recTime m).foldl applyR h = { h with time := if timeOdd m then 0 else h.time } := by
  unfold recTime; split <;> rfl
theorem fold_path (h : HeadN) (s : ByteArray) : (recPath s).foldl applyR h = { h with nm := if (cutTwo s).2.2 = 0 then h.nm else sLong } := by
  unfold recPath; split <;> rfl
theorem fold_uid (h : HeadN) (n m : Int) : (recNum kUid n m).foldl applyR h = { h with uid := if m < n then 0 else h.uid } := by
  unfold recNum; split <;> rfl
theorem fold_uname (h : HeadN) (s : ByteArray) (m : Nat) : (recText1 kUname s m).foldl applyR h = { h with user := if m < s.size then ⟨#[]⟩ else h.user } := by
  unfold recText1; split <;> rfl
theorem fold_all (x : Ent) : (memRecs x).foldl applyR (hStart x) = memHead x := by
  unfold memRecs
  rw [List.foldl_append, List.foldl_append, List.foldl_append, List.foldl_append, List.foldl_append, List.foldl_append, fold_gid, fold_gname, fold_link, fold_time, fold_path, fold_uid, fold_uname]
  rfl
def KeyOne (k : ByteArray) : Prop := k = kGid ∨ k = kGname ∨ k = kLink ∨ k = kMtime ∨ k = kPath ∨ k = kUid ∨ k = kUname
theorem recs_keys (x : Ent) : ∀ r ∈ memRecs x, KeyOne r.key := by
  intro r hr
  unfold memRecs recNum recText1 recTime recPath at hr
  simp only [List.mem_append] at hr
  unfold KeyOne
  rcases hr with (((((hr | hr) | hr) | hr) | hr) | hr) | hr <;> split at hr <;> simp at hr <;> simp [hr]
noncomputable def hAt (l : List Rec) (h : HeadN) (k : Nat) : HeadN := (l.take k).foldl applyR h
theorem hAt_zero (l : List Rec) (h : HeadN) : hAt l h 0 = h := rfl
theorem hAt_all (l : List Rec) (h : HeadN) : hAt l h l.length = l.foldl applyR h := by unfold hAt; rw [List.take_length]
theorem hAt_succ {l : List Rec} {h : HeadN} {k : Nat} (hk : k < l.length) : hAt l h (k + 1) = applyK (hAt l h k) (rk l k).key := by
  unfold hAt
  rw [List.take_add_one, List.getElem?_eq_getElem hk, List.foldl_append, rk_eq hk]; rfl
abbrev hcells (h : HeadN) : Array Value := #[.string h.nm, .string h.px, .string h.lk, .int .i64 h.mode, .int .i64 h.uid, .int .i64 h.gid, .int .i64 h.size, .int .i64 h.time, .int .u8 h.typ.toNat, .string h.user, .string h.group]
/-- a head in a box of the call's own -/
structure HdSt (tH : TypeId) (w0 w : World) (b : Nat) (h : HeadN) : Prop where
  row : w.heap[b]? = some (.cells (hcells h) tH (0, 0))
  low : w0.heap.size ≤ b
  bel : Below w0.heap.size w0 w
section
variable {tH : TypeId} {w0 w w' : World} {b : Nat} {h h' : HeadN}
theorem HdSt.lt (s : HdSt tH w0 w b h) : b < w.heap.size := (Array.getElem?_eq_some_iff.1 s.row).1
theorem HdSt.below (s : HdSt tH w0 w b h) (hb : Below w.heap.size w w') : HdSt tH w0 w' b h := ⟨(hb.block b s.lt).trans s.row, s.low, s.bel.trans (hb.mono s.bel.size)⟩
theorem HdSt.cell (s : HdSt tH w0 w b h) (j : Nat) : w.cell? ⟨b, j, none⟩ = (hcells h)[j]? := cell_of_row w b j _ tH (0, 0) s.row
theorem HdSt.free (s : HdSt tH w0 w b h) (j : Nat) : w.frozen? ⟨b, j, none⟩ = false := frozen_of_row w b j _ tH s.row
theorem HdSt.put (s : HdSt tH w0 w b h) (j : Nat) (u : Value) (e : (hcells h).setIfInBounds j u = hcells h') : HdSt tH w0 (w.setCell ⟨b, j, none⟩ u) b h' :=
  ⟨by rw [← e]; exact heap_setCell_same w b j _ tH _ s.row, s.low, s.bel.setCell (p := ⟨b, j, none⟩) s.low u⟩
end
end Go.Creel
namespace Go.Proofs.YtaffgndickdbiaaGreatDoor
set_option linter.unusedVariables false
set_option linter.unusedSimpArgs false
open Go.Creel Go.RowKit
abbrev tHdd : TypeId := 62
set_option maxRecDepth 100000 in
set_option maxHeartbeats 4000000 in
theorem MemHead_ok (x : Ent) (w : World) (hx : x.Ok maxLen w) (hE : entFault x = 0) (hT : Pow10 w) :
    Calls Tryz.prog 41 #[x.val] w fun e w' => e = .returned (.tuple #[HeadN.val' (memHead x), .int .i64 0]) ∧ Below w.heap.size w w' := by
  have HR := Lib.hid (entRight hE)
  have HBX := Lib.hid ((Below.refl w.heap.size w).alloc (Nat.le_refl _) (.cells #[.string x.path, .int .i64 x.kind, .string x.target, .int .i64 x.mt.mode, .int .i64 x.mt.uid, .int .i64 x.mt.gid, .string x.mt.user, .string x.mt.group, .int .i64 x.mt.second, .int .i64 x.mt.nano, .slice x.da x.data.length x.dcap] 26))
  have HEB := Lib.hid (entAt_box w x 26)
  have HBZ := Lib.hid (HBX.out.alloc HBX.out.size (.cells #[.string ⟨#[]⟩, .string ⟨#[]⟩, .string ⟨#[]⟩, .int .i64 0, .int .i64 0, .int .i64 0, .int .i64 0, .int .i64 0, .int .u8 0, .string ⟨#[]⟩, .string ⟨#[]⟩] 62))
  have HEZ := Lib.hid (HEB.out.below ((Below.refl _ _).alloc (Nat.le_refl _) (.cells #[.string ⟨#[]⟩, .string ⟨#[]⟩, .string ⟨#[]⟩, .int .i64 0, .int .i64 0, .int .i64 0, .int .i64 0, .int .i64 0, .int .u8 0, .string ⟨#[]⟩, .string ⟨#[]⟩] 62)))
  have HRZ : Hid (((w.alloc (.cells #[.string x.path, .int .i64 x.kind, .string x.target, .int .i64 x.mt.mode, .int .i64 x.mt.uid, .int .i64 x.mt.gid, .string x.mt.user, .string x.mt.group, .int .i64 x.mt.second, .int .i64 x.mt.nano, .slice x.da x.data.length x.dcap] 26)).alloc (.cells #[.string ⟨#[]⟩, .string ⟨#[]⟩, .string ⟨#[]⟩, .int .i64 0, .int .i64 0, .int .i64 0, .int .i64 0, .int .i64 0, .int .u8 0, .string ⟨#[]⟩, .string ⟨#[]⟩] 62)).heap[w.heap.size + 1]? = some (.cells #[.string ⟨#[]⟩, .string ⟨#[]⟩, .string ⟨#[]⟩, .int .i64 0, .int .i64 0, .int .i64 0, .int .i64 0, .int .i64 0, .int .u8 0, .string ⟨#[]⟩, .string ⟨#[]⟩] 62 (0, 0))) := Lib.hid (heap_alloc2_new _ _ _)
  have HPR := Lib.hid (MemRecs_ok x _ (hx.below HBZ.out) hE (hT.below HBZ.out))
  have HFA := Lib.hid (fold_all x)
  have HKY := Lib.hid (fun k (hk : k < (memRecs x).length) => recs_keys x (rk (memRecs x) k) (by rw [rk_eq hk]; exact List.getElem_mem hk))
  have hln := rl7_len x
  rw [rl7_eq] at hln
  have HTW := Lib.hid hT
  have hps := HR.out.pathSize
  have hkk := HR.out.kind
  clear hx hE hT
  go_enter Tryz.func41, Tryz.ntmps41
  go_wp2_with fail
  refine HPR.out.mono ?_
  rintro e w1 ⟨v, rfl, ho, hb⟩
  simp only at ho ⊢
  generalize memRecs x = l at *
  obtain ⟨a, cp, rfl, hcp, hf⟩ := ho.form2
  have HO1 := Lib.hid ho
  have HF2 := Lib.hid hf
  have HB1 := Lib.hid (HBZ.out.trans (hb.mono HBZ.out.size))
  have HE1 := Lib.hid (HEZ.out.below hb)
  have HR1 := Lib.hid ((hb.block _ (Array.getElem?_eq_some_iff.1 HRZ.out).1).trans HRZ.out)
  have hlr := (Array.getElem?_eq_some_iff.1 HR1.out).1
  clear hb ho hf HPR HRZ HEZ HBZ HBX HEB
  unfold maxLen at hcp
  have HLR : Hid (w.heap.size ≤ w.heap.size + 1) := Lib.hid (by omega)
  obtain ⟨h0, h1, h2, h3, h4, h5, h6, h7, h8, h9, h10⟩ := HE1.out.zero
  go_upto_region 5 with fail
  have G0 : Hid (HdSt tHdd w1 (w1.alloc (.cells #[.string ⟨#[]⟩, .string ⟨#[]⟩, .string x.target, .int .i64 x.mt.mode, .int .i64 x.mt.uid, .int .i64 x.mt.gid, .int .i64 x.data.length, .int .i64 x.mt.second, .int .u8 0, .string x.mt.user, .string x.mt.group] tHdd)) w1.heap.size (⟨⟨#[]⟩, ⟨#[]⟩, x.target, x.mt.mode, x.mt.uid, x.mt.gid, x.data.length, x.mt.second, 0, x.mt.user, x.mt.group⟩ : HeadN)) := Lib.hid ⟨heap_alloc_new _ _, Nat.le_refl _, (Below.refl _ _).alloc (Nat.le_refl _) _⟩
  have HE2 := Lib.hid (HE1.out.below ((Below.refl w1.heap.size w1).alloc (Nat.le_refl _) (.cells #[.string ⟨#[]⟩, .string ⟨#[]⟩, .string x.target, .int .i64 x.mt.mode, .int .i64 x.mt.uid, .int .i64 x.mt.gid, .int .i64 x.data.length, .int .i64 x.mt.second, .int .u8 0, .string x.mt.user, .string x.mt.group] tHdd)))
  clear h0 h1 h2 h3 h4 h5 h6 h7 h8 h9 h10
  generalize hbh : w1.heap.size = bh at *
  generalize w1.alloc (.cells #[.string ⟨#[]⟩, .string ⟨#[]⟩, .string x.target, .int .i64 x.mt.mode, .int .i64 x.mt.uid, .int .i64 x.mt.gid, .int .i64 x.data.length, .int .i64 x.mt.second, .int .u8 0, .string x.mt.user, .string x.mt.group] tHdd) = w2 at *
  obtain ⟨h0, h1, h2, h3, h4, h5, h6, h7, h8, h9, h10⟩ := HE2.out.zero
  have c8 : w2.cell? ⟨bh, 8, none⟩ = some (.int .u8 0) := G0.out.cell 8
  have f8 := G0.out.free 8
  have hlt2 := G0.out.lt
  have hxl := HE2.out.lt
  go_cut [48] from 42 to 48 (fun u wy => Hid (HdSt tHdd w1 wy bh (⟨⟨#[]⟩, ⟨#[]⟩, x.target, x.mt.mode, x.mt.uid, x.mt.gid, x.data.length, x.mt.second, kindT x.kind, x.mt.user, x.mt.group⟩ : HeadN)))
  case first =>
    have hk4 : x.kind = 1 ∨ x.kind = 2 ∨ x.kind = 3 ∨ x.kind = 4 := by omega
    clear hkk
    rcases hk4 with hk | hk | hk | hk
    · have HK := Lib.hid (show kindT x.kind = 48 by rw [hk]; rfl)
      rw [hk] at h1
      have hw1 : IntKind.i64.wrap ((1 : Int) - 1) = 0 := by rfl
      have hw0 : IntKind.i64.wrap 0 = 0 := by rfl
      clear hk
      have GA := Lib.hid ((G0.out.put 8 (.int .u8 48) (h' := (⟨⟨#[]⟩, ⟨#[]⟩, x.target, x.mt.mode, x.mt.uid, x.mt.gid, x.data.length, x.mt.second, kindT x.kind, x.mt.user, x.mt.group⟩ : HeadN)) (by rw [HK.out]; rfl)).below ((Below.refl _ _).alloc (Nat.le_refl _) (.cells #[.int .u8 48, .int .u8 53, .int .u8 50, .int .u8 49] 5)))
      go_wp2
      go_meet
      exact GA
    · have HK := Lib.hid (show kindT x.kind = 53 by rw [hk]; rfl)
      rw [hk] at h1
      have hw1 : IntKind.i64.wrap ((2 : Int) - 1) = 1 := by rfl
      have hw0 : IntKind.i64.wrap 1 = 1 := by rfl
      clear hk
      have GA := Lib.hid ((G0.out.put 8 (.int .u8 53) (h' := (⟨⟨#[]⟩, ⟨#[]⟩, x.target, x.mt.mode, x.mt.uid, x.mt.gid, x.data.length, x.mt.second, kindT x.kind, x.mt.user, x.mt.group⟩ : HeadN)) (by rw [HK.out]; rfl)).below ((Below.refl _ _).alloc (Nat.le_refl _) (.cells #[.int .u8 48, .int .u8 53, .int .u8 50, .int .u8 49] 5)))
      go_wp2
      go_meet
      exact GA
    · have HK := Lib.hid (show kindT x.kind = 50 by rw [hk]; rfl)
      rw [hk] at h1
      have hw1 : IntKind.i64.wrap ((3 : Int) - 1) = 2 := by rfl
      have hw0 : IntKind.i64.wrap 2 = 2 := by rfl
      clear hk
      have GA := Lib.hid ((G0.out.put 8 (.int .u8 50) (h' := (⟨⟨#[]⟩, ⟨#[]⟩, x.target, x.mt.mode, x.mt.uid, x.mt.gid, x.data.length, x.mt.second, kindT x.kind, x.mt.user, x.mt.group⟩ : HeadN)) (by rw [HK.out]; rfl)).below ((Below.refl _ _).alloc (Nat.le_refl _) (.cells #[.int .u8 48, .int .u8 53, .int .u8 50, .int .u8 49] 5)))
      go_wp2
      go_meet
      exact GA
    · have HK := Lib.hid (show kindT x.kind = 49 by rw [hk]; rfl)
      rw [hk] at h1
      have hw1 : IntKind.i64.wrap ((4 : Int) - 1) = 3 := by rfl
      have hw0 : IntKind.i64.wrap 3 = 3 := by rfl
      clear hk
      have GA := Lib.hid ((G0.out.put 8 (.int .u8 49) (h' := (⟨⟨#[]⟩, ⟨#[]⟩, x.target, x.mt.mode, x.mt.uid, x.mt.gid, x.data.length, x.mt.second, kindT x.kind, x.mt.user, x.mt.group⟩ : HeadN)) (by rw [HK.out]; rfl)).below ((Below.refl _ _).alloc (Nat.le_refl _) (.cells #[.int .u8 48, .int .u8 53, .int .u8 50, .int .u8 49] 5)))
      go_wp2
      go_meet
      exact GA
  case rest =>
  have G1 := hcut
  clear hcut G0 HE2 c8 f8 hlt2 hxl h0 h1 h2 h3 h4 h5 h6 h7 h8 h9 h10
  obtain ⟨w3, rfl⟩ : ∃ W : World, W = wc := ⟨_, rfl⟩
  have HE3 := Lib.hid (HE1.out.below (by rw [hbh]; exact G1.out.bel.mono (by omega)))
  obtain ⟨h0, h1, h2, h3, h4, h5, h6, h7, h8, h9, h10⟩ := HE3.out.zero
  go_wp2_with fail
  refine (CutTwo_any x.path _ (by unfold maxLen; omega)).mono ?_
  rintro e w4 ⟨rfl, hb⟩
  have G2 := Lib.hid (G1.out.below hb)
  clear hb G1 HE3 h0 h1 h2 h3 h4 h5 h6 h7 h8 h9 h10
  have c0 : ∃ c, w4.cell? ⟨bh, 0, none⟩ = some c := ⟨_, G2.out.cell 0⟩
  have c1 : ∃ c, w4.cell? ⟨bh, 1, none⟩ = some c := ⟨_, G2.out.cell 1⟩
  obtain ⟨d0, c0⟩ := c0
  obtain ⟨d1, c1⟩ := c1
  have f0 := G2.out.free 0
  have f1 := G2.out.free 1
  go_upto_region 8 with fail
  have G : Hid (HdSt tHdd w1 ((w4.setCell ⟨bh, 1, none⟩ (.string (cutTwo x.path).1)).setCell ⟨bh, 0, none⟩ (.string (cutTwo x.path).2.1)) bh (hAt l (hStart x) 0)) := Lib.hid ((G2.out.put 1 (.string (cutTwo x.path).1) (h' := { (⟨⟨#[]⟩, ⟨#[]⟩, x.target, x.mt.mode, x.mt.uid, x.mt.gid, x.data.length, x.mt.second, kindT x.kind, x.mt.user, x.mt.group⟩ : HeadN) with px := (cutTwo x.path).1 }) rfl).put 0 (.string (cutTwo x.path).2.1) rfl)
  clear G2 c0 c1 f0 f1
  generalize (w4.setCell ⟨bh, 1, none⟩ (.string (cutTwo x.path).1)).setCell ⟨bh, 0, none⟩ (.string (cutTwo x.path).2.1) = w5 at *
  have HOW := Lib.hid (fun W (g : HdSt tHdd w1 W bh (hAt l (hStart x) 0) ∨ True) (hb : Below w1.heap.size w1 W) => HO1.out.below hb)
  go_loopw [8, 60] (fun _ i wr => ∃ k : Nat, k ≤ l.length ∧ i = .int .i64 k ∧ Hid (HdSt tHdd w1 wr bh (hAt l (hStart x) k))) (fun _ i _ => l.length - (intOf i).toNat)
  case atStart => exact ⟨0, by omega, rfl, G⟩
  case round =>
    obtain ⟨k, hk, rfl, GK⟩ := hrel
    by_cases hlt : k < l.length
    · have HS := Lib.hid (hAt_succ (h := hStart x) hlt)
      have hkey := HKY.out k hlt
      have HOR := Lib.hid (HO1.out.below (by rw [hbh]; exact GK.out.bel.mono (by omega)))
      obtain ⟨g, rfl, hlc, hgl⟩ := HF2.out (by omega)
      obtain ⟨r0, r1⟩ := HOR.out.recAt hlt
      have hrb := (World.block_lt_of_cell? wr _ r0)
      have hgb : g ≠ bh := by omega
      generalize hAt l (hStart x) k = hh at *
      generalize rk l k = r at *
      obtain ⟨key, value⟩ := r
      have hbl := GK.out.lt
      simp only at hkey HS r0 r1
      rcases hkey with rfl | rfl | rfl | rfl | rfl | rfl | rfl
      · have c : ∃ c, wr.cell? ⟨bh, 5, none⟩ = some c := ⟨_, GK.out.cell 5⟩
        obtain ⟨d, c⟩ := c
        have f := GK.out.free 5
        have GN := Lib.hid ((GK.out.put 5 (.int .i64 0) (h' := { hh with gid := 0 }) rfl).below ((Below.refl _ _).alloc (Nat.le_refl _) (.cells #[.string kGid, .string value] 85)))
        go_wp2
        go_roundw
        case rel => exact ⟨k + 1, by omega, by go_num, Lib.hid (by rw [HS.out]; exact GN.out)⟩
        case measure => simp [intOf]; omega
      · have c : ∃ c, wr.cell? ⟨bh, 10, none⟩ = some c := ⟨_, GK.out.cell 10⟩
        obtain ⟨d, c⟩ := c
        have f := GK.out.free 10
        have GN := Lib.hid ((GK.out.put 10 (.string ⟨#[]⟩) (h' := { hh with group := ⟨#[]⟩ }) rfl).below ((Below.refl _ _).alloc (Nat.le_refl _) (.cells #[.string kGname, .string value] 85)))
        go_wp2
        go_roundw
        case rel => exact ⟨k + 1, by omega, by go_num, Lib.hid (by rw [HS.out]; exact GN.out)⟩
        case measure => simp [intOf]; omega
      · have c : ∃ c, wr.cell? ⟨bh, 2, none⟩ = some c := ⟨_, GK.out.cell 2⟩
        obtain ⟨d, c⟩ := c
        have f := GK.out.free 2
        have GN := Lib.hid ((GK.out.put 2 (.string ⟨#[64, 108, 111, 110, 103]⟩) (h' := { hh with lk := ⟨#[64, 108, 111, 110, 103]⟩ }) rfl).below ((Below.refl _ _).alloc (Nat.le_refl _) (.cells #[.string kLink, .string value] 85)))
        go_wp2
        go_roundw
        case rel => exact ⟨k + 1, by omega, by go_num, Lib.hid (by rw [HS.out]; exact GN.out)⟩
        case measure => simp [intOf]; omega
      · have c : ∃ c, wr.cell? ⟨bh, 7, none⟩ = some c := ⟨_, GK.out.cell 7⟩
        obtain ⟨d, c⟩ := c
        have f := GK.out.free 7
        have GN := Lib.hid ((GK.out.put 7 (.int .i64 0) (h' := { hh with time := 0 }) rfl).below ((Below.refl _ _).alloc (Nat.le_refl _) (.cells #[.string kMtime, .string value] 85)))
        go_wp2
        go_roundw
        case rel => exact ⟨k + 1, by omega, by go_num, Lib.hid (by rw [HS.out]; exact GN.out)⟩
        case measure => simp [intOf]; omega
      · have c : ∃ c, wr.cell? ⟨bh, 0, none⟩ = some c := ⟨_, GK.out.cell 0⟩
        obtain ⟨d, c⟩ := c
        have f := GK.out.free 0
        have GN := Lib.hid ((GK.out.put 0 (.string ⟨#[64, 108, 111, 110, 103]⟩) (h' := { hh with nm := ⟨#[64, 108, 111, 110, 103]⟩ }) rfl).below ((Below.refl _ _).alloc (Nat.le_refl _) (.cells #[.string kPath, .string value] 85)))
        go_wp2
        go_roundw
        case rel => exact ⟨k + 1, by omega, by go_num, Lib.hid (by rw [HS.out]; exact GN.out)⟩
        case measure => simp [intOf]; omega
      · have c : ∃ c, wr.cell? ⟨bh, 4, none⟩ = some c := ⟨_, GK.out.cell 4⟩
        obtain ⟨d, c⟩ := c
        have f := GK.out.free 4
        have GN := Lib.hid ((GK.out.put 4 (.int .i64 0) (h' := { hh with uid := 0 }) rfl).below ((Below.refl _ _).alloc (Nat.le_refl _) (.cells #[.string kUid, .string value] 85)))
        go_wp2
        go_roundw
        case rel => exact ⟨k + 1, by omega, by go_num, Lib.hid (by rw [HS.out]; exact GN.out)⟩
        case measure => simp [intOf]; omega
      · have c : ∃ c, wr.cell? ⟨bh, 9, none⟩ = some c := ⟨_, GK.out.cell 9⟩
        obtain ⟨d, c⟩ := c
        have f := GK.out.free 9
        have GN := Lib.hid ((GK.out.put 9 (.string ⟨#[]⟩) (h' := { hh with user := ⟨#[]⟩ }) rfl).below ((Below.refl _ _).alloc (Nat.le_refl _) (.cells #[.string kUname, .string value] 85)))
        go_wp2
        go_roundw
        case rel => exact ⟨k + 1, by omega, by go_num, Lib.hid (by rw [HS.out]; exact GN.out)⟩
        case measure => simp [intOf]; omega
    · obtain rfl : k = l.length := by omega
      have HZ := Lib.hid (hAt_all l (hStart x))
      rw [HFA.out] at HZ
      rw [HZ.out] at GK
      have HBW := Lib.hid (HB1.out.trans (GK.out.bel.mono HB1.out.size))
      have HR5 := Lib.hid ((GK.out.bel.block _ (Array.getElem?_eq_some_iff.1 HR1.out).1).trans HR1.out)
      have hne : bh ≠ w.heap.size + 1 := by omega
      have hne2 : w.heap.size + 1 ≠ bh := by omega
      clear HR1 hlr
      generalize hmh : memHead x = mh at *
      generalize w.heap.size + 1 = br at *
      have c0 : wr.cell? ⟨bh, 0, none⟩ = some (.string mh.nm) := GK.out.cell 0
      have c1 : wr.cell? ⟨bh, 1, none⟩ = some (.string mh.px) := GK.out.cell 1
      have c2 : wr.cell? ⟨bh, 2, none⟩ = some (.string mh.lk) := GK.out.cell 2
      have c3 : wr.cell? ⟨bh, 3, none⟩ = some (.int .i64 mh.mode) := GK.out.cell 3
      have c4 : wr.cell? ⟨bh, 4, none⟩ = some (.int .i64 mh.uid) := GK.out.cell 4
      have c5 : wr.cell? ⟨bh, 5, none⟩ = some (.int .i64 mh.gid) := GK.out.cell 5
      have c6 : wr.cell? ⟨bh, 6, none⟩ = some (.int .i64 mh.size) := GK.out.cell 6
      have c7 : wr.cell? ⟨bh, 7, none⟩ = some (.int .i64 mh.time) := GK.out.cell 7
      have c8 : wr.cell? ⟨bh, 8, none⟩ = some (.int .u8 mh.typ.toNat) := GK.out.cell 8
      have c9 : wr.cell? ⟨bh, 9, none⟩ = some (.string mh.user) := GK.out.cell 9
      have c10 : wr.cell? ⟨bh, 10, none⟩ = some (.string mh.group) := GK.out.cell 10
      have r0 : wr.cell? ⟨br, 0, none⟩ = some (.string ⟨#[]⟩) := by rw [cell_of_row wr br 0 _ _ (0, 0) HR5.out]; rfl
      have f0 := frozen_of_row wr br 0 _ _ HR5.out
      have r1 : wr.cell? ⟨br, 1, none⟩ = some (.string ⟨#[]⟩) := by rw [cell_of_row wr br 1 _ _ (0, 0) HR5.out]; rfl
      have f1 := frozen_of_row wr br 1 _ _ HR5.out
      have r2 : wr.cell? ⟨br, 2, none⟩ = some (.string ⟨#[]⟩) := by rw [cell_of_row wr br 2 _ _ (0, 0) HR5.out]; rfl
      have f2 := frozen_of_row wr br 2 _ _ HR5.out
      have r3 : wr.cell? ⟨br, 3, none⟩ = some (.int .i64 0) := by rw [cell_of_row wr br 3 _ _ (0, 0) HR5.out]; rfl
      have f3 := frozen_of_row wr br 3 _ _ HR5.out
      have r4 : wr.cell? ⟨br, 4, none⟩ = some (.int .i64 0) := by rw [cell_of_row wr br 4 _ _ (0, 0) HR5.out]; rfl
      have f4 := frozen_of_row wr br 4 _ _ HR5.out
      have r5 : wr.cell? ⟨br, 5, none⟩ = some (.int .i64 0) := by rw [cell_of_row wr br 5 _ _ (0, 0) HR5.out]; rfl
      have f5 := frozen_of_row wr br 5 _ _ HR5.out
      have r6 : wr.cell? ⟨br, 6, none⟩ = some (.int .i64 0) := by rw [cell_of_row wr br 6 _ _ (0, 0) HR5.out]; rfl
      have f6 := frozen_of_row wr br 6 _ _ HR5.out
      have r7 : wr.cell? ⟨br, 7, none⟩ = some (.int .i64 0) := by rw [cell_of_row wr br 7 _ _ (0, 0) HR5.out]; rfl
      have f7 := frozen_of_row wr br 7 _ _ HR5.out
      have r8 : wr.cell? ⟨br, 8, none⟩ = some (.int .u8 0) := by rw [cell_of_row wr br 8 _ _ (0, 0) HR5.out]; rfl
      have f8 := frozen_of_row wr br 8 _ _ HR5.out
      have r9 : wr.cell? ⟨br, 9, none⟩ = some (.string ⟨#[]⟩) := by rw [cell_of_row wr br 9 _ _ (0, 0) HR5.out]; rfl
      have f9 := frozen_of_row wr br 9 _ _ HR5.out
      have r10 : wr.cell? ⟨br, 10, none⟩ = some (.string ⟨#[]⟩) := by rw [cell_of_row wr br 10 _ _ (0, 0) HR5.out]; rfl
      have f10 := frozen_of_row wr br 10 _ _ HR5.out
      go_wp2
      (try simp only [Exit.inBlock, Exit.then])
      refine bodyPost_ret (v := .tuple #[HeadN.val' mh, .int .i64 0]) (by rw [results_cell_tmp rfl]; go_simp) rfl ?_
      exact ⟨by rw [hmh], (((((((((((HBW.out.setCell (p := ⟨br, 0, none⟩) HLR.out _).setCell (p := ⟨br, 1, none⟩) HLR.out _).setCell (p := ⟨br, 2, none⟩) HLR.out _).setCell (p := ⟨br, 3, none⟩) HLR.out _).setCell (p := ⟨br, 4, none⟩) HLR.out _).setCell (p := ⟨br, 5, none⟩) HLR.out _).setCell (p := ⟨br, 6, none⟩) HLR.out _).setCell (p := ⟨br, 7, none⟩) HLR.out _).setCell (p := ⟨br, 8, none⟩) HLR.out _).setCell (p := ⟨br, 9, none⟩) HLR.out _).setCell (p := ⟨br, 10, none⟩) HLR.out _)⟩
set_option maxRecDepth 100000 in
set_option maxHeartbeats 1000000 in
theorem MemHead_any (x : Ent) (w : World) (hx : x.Ok maxLen w) (hT : Pow10 w) :
    Calls Tryz.prog 41 #[x.val] w fun e w' => e = .returned (.tuple #[HeadN.val' (mHeadOf x).1, .int .i64 (mHeadOf x).2]) ∧ Below w.heap.size w w' := by
  by_cases hE : entFault x = 0
  · rw [mHeadOf_ok hE]
    exact MemHead_ok x w hx hE hT
  · rw [mHeadOf_bad hE]
    have HBX := Lib.hid ((Below.refl w.heap.size w).alloc (Nat.le_refl _) (.cells #[.string x.path, .int .i64 x.kind, .string x.target, .int .i64 x.mt.mode, .int .i64 x.mt.uid, .int .i64 x.mt.gid, .string x.mt.user, .string x.mt.group, .int .i64 x.mt.second, .int .i64 x.mt.nano, .slice x.da x.data.length x.dcap] 26))
    have HBZ := Lib.hid (HBX.out.alloc HBX.out.size (.cells #[.string ⟨#[]⟩, .string ⟨#[]⟩, .string ⟨#[]⟩, .int .i64 0, .int .i64 0, .int .i64 0, .int .i64 0, .int .i64 0, .int .u8 0, .string ⟨#[]⟩, .string ⟨#[]⟩] 62))
    have HRZ : Hid (((w.alloc (.cells #[.string x.path, .int .i64 x.kind, .string x.target, .int .i64 x.mt.mode, .int .i64 x.mt.uid, .int .i64 x.mt.gid, .string x.mt.user, .string x.mt.group, .int .i64 x.mt.second, .int .i64 x.mt.nano, .slice x.da x.data.length x.dcap] 26)).alloc (.cells #[.string ⟨#[]⟩, .string ⟨#[]⟩, .string ⟨#[]⟩, .int .i64 0, .int .i64 0, .int .i64 0, .int .i64 0, .int .i64 0, .int .u8 0, .string ⟨#[]⟩, .string ⟨#[]⟩] 62)).heap[w.heap.size + 1]? = some (.cells #[.string ⟨#[]⟩, .string ⟨#[]⟩, .string ⟨#[]⟩, .int .i64 0, .int .i64 0, .int .i64 0, .int .i64 0, .int .i64 0, .int .u8 0, .string ⟨#[]⟩, .string ⟨#[]⟩] 62 (0, 0))) := Lib.hid (heap_alloc2_new _ _ _)
    have HPR := Lib.hid (MemRecs_any x _ (hx.below HBZ.out) (hT.below HBZ.out))
    rw [recordsOf_bad hE] at HPR
    generalize entFault x = q at *
    have hq : (q != 0) = true := by rw [bne_iff_ne]; exact hE
    clear hx hE hT
    go_enter Tryz.func41, Tryz.ntmps41
    go_wp2_with fail
    refine HPR.out.mono ?_
    rintro e w1 ⟨v, rfl, ho, hb⟩
    have HB1 := Lib.hid (HBZ.out.trans (hb.mono HBZ.out.size))
    have HR1 := Lib.hid ((hb.block _ (Array.getElem?_eq_some_iff.1 HRZ.out).1).trans HRZ.out)
    clear hb ho
    have HLR : Hid (w.heap.size ≤ w.heap.size + 1) := Lib.hid (by omega)
    generalize w.heap.size + 1 = br at *
    have r0 : w1.cell? ⟨br, 0, none⟩ = some (.string ⟨#[]⟩) := by rw [cell_of_row w1 br 0 _ _ (0, 0) HR1.out]; rfl
    have f0 := frozen_of_row w1 br 0 _ _ HR1.out
    have r1 : w1.cell? ⟨br, 1, none⟩ = some (.string ⟨#[]⟩) := by rw [cell_of_row w1 br 1 _ _ (0, 0) HR1.out]; rfl
    have f1 := frozen_of_row w1 br 1 _ _ HR1.out
    have r2 : w1.cell? ⟨br, 2, none⟩ = some (.string ⟨#[]⟩) := by rw [cell_of_row w1 br 2 _ _ (0, 0) HR1.out]; rfl
    have f2 := frozen_of_row w1 br 2 _ _ HR1.out
    have r3 : w1.cell? ⟨br, 3, none⟩ = some (.int .i64 0) := by rw [cell_of_row w1 br 3 _ _ (0, 0) HR1.out]; rfl
    have f3 := frozen_of_row w1 br 3 _ _ HR1.out
    have r4 : w1.cell? ⟨br, 4, none⟩ = some (.int .i64 0) := by rw [cell_of_row w1 br 4 _ _ (0, 0) HR1.out]; rfl
    have f4 := frozen_of_row w1 br 4 _ _ HR1.out
    have r5 : w1.cell? ⟨br, 5, none⟩ = some (.int .i64 0) := by rw [cell_of_row w1 br 5 _ _ (0, 0) HR1.out]; rfl
    have f5 := frozen_of_row w1 br 5 _ _ HR1.out
    have r6 : w1.cell? ⟨br, 6, none⟩ = some (.int .i64 0) := by rw [cell_of_row w1 br 6 _ _ (0, 0) HR1.out]; rfl
    have f6 := frozen_of_row w1 br 6 _ _ HR1.out
    have r7 : w1.cell? ⟨br, 7, none⟩ = some (.int .i64 0) := by rw [cell_of_row w1 br 7 _ _ (0, 0) HR1.out]; rfl
    have f7 := frozen_of_row w1 br 7 _ _ HR1.out
    have r8 : w1.cell? ⟨br, 8, none⟩ = some (.int .u8 0) := by rw [cell_of_row w1 br 8 _ _ (0, 0) HR1.out]; rfl
    have f8 := frozen_of_row w1 br 8 _ _ HR1.out
    have r9 : w1.cell? ⟨br, 9, none⟩ = some (.string ⟨#[]⟩) := by rw [cell_of_row w1 br 9 _ _ (0, 0) HR1.out]; rfl
    have f9 := frozen_of_row w1 br 9 _ _ HR1.out
    have r10 : w1.cell? ⟨br, 10, none⟩ = some (.string ⟨#[]⟩) := by rw [cell_of_row w1 br 10 _ _ (0, 0) HR1.out]; rfl
    have f10 := frozen_of_row w1 br 10 _ _ HR1.out
    go_wp2
    (try simp only [Exit.inBlock, Exit.then])
    refine bodyPost_ret (v := .tuple #[.agg #[.string ⟨#[]⟩, .string ⟨#[]⟩, .string ⟨#[]⟩, .int .i64 0, .int .i64 0, .int .i64 0, .int .i64 0, .int .i64 0, .int .u8 0, .string ⟨#[]⟩, .string ⟨#[]⟩], .int .i64 q]) (by rw [results_cell_tmp rfl]; go_simp) rfl ?_
    exact ⟨rfl, (((((((((((HB1.out.setCell (p := ⟨br, 0, none⟩) HLR.out _).setCell (p := ⟨br, 1, none⟩) HLR.out _).setCell (p := ⟨br, 2, none⟩) HLR.out _).setCell (p := ⟨br, 3, none⟩) HLR.out _).setCell (p := ⟨br, 4, none⟩) HLR.out _).setCell (p := ⟨br, 5, none⟩) HLR.out _).setCell (p := ⟨br, 6, none⟩) HLR.out _).setCell (p := ⟨br, 7, none⟩) HLR.out _).setCell (p := ⟨br, 8, none⟩) HLR.out _).setCell (p := ⟨br, 9, none⟩) HLR.out _).setCell (p := ⟨br, 10, none⟩) HLR.out _)⟩
end Go.Proofs.YtaffgndickdbiaaGreatDoor
/-
  creelref.HeadText's two closures.
-/
namespace Go.Creel
set_option linter.unusedVariables false
set_option linter.unusedSimpArgs false
open Go.RowKit
/-- the reference's two boxes: what is wrong, the bytes so far -/
def RefB (bw bs : Nat) (p : Pen) (w : World) : Prop := w.cell? ⟨bw, 0, none⟩ = some (.int .i64 p.2) ∧ w.cell? ⟨bs, 0, none⟩ = some (.string p.1) ∧ w.frozen? ⟨bw, 0, none⟩ = false ∧ w.frozen? ⟨bs, 0, none⟩ = false
theorem RefB.putS {bw bs : Nat} {p : Pen} {w : World} (h : RefB bw bs p w) (hne : bw ≠ bs) (s : ByteArray) : RefB bw bs (s, p.2) (w.setCell ⟨bs, 0, none⟩ (.string s)) := by
  obtain ⟨h1, h2, h3, h4⟩ := h
  exact ⟨(World.cell?_setCell_other _ _ _ _ (fun e => hne (congrArg Addr.block e).symm)).trans h1, World.cell?_setCell_same _ _ _ h2, by simpa using h3, by simpa using h4⟩
theorem RefB.putE {bw bs : Nat} {p : Pen} {w : World} (h : RefB bw bs p w) (hne : bw ≠ bs) (e : Int) : RefB bw bs (p.1, e) (w.setCell ⟨bw, 0, none⟩ (.int .i64 e)) := by
  obtain ⟨h1, h2, h3, h4⟩ := h
  exact ⟨World.cell?_setCell_same _ _ _ h1, (World.cell?_setCell_other _ _ _ _ (fun e => hne (congrArg Addr.block e))).trans h2, by simpa using h3, by simpa using h4⟩
theorem RefB.drewN {bw bs : Nat} {p : Pen} {w : World} (h : RefB bw bs p w) (n : Nat) : RefB bw bs p (w.drewN n) := h
theorem RefB.lt {bw bs : Nat} {p : Pen} {w : World} (h : RefB bw bs p w) : bw < w.heap.size ∧ bs < w.heap.size := ⟨World.block_lt_of_cell? w _ h.1, World.block_lt_of_cell? w _ h.2.1⟩
theorem RefB.below {bw bs : Nat} {p : Pen} {w w' : World} (h : RefB bw bs p w) (hb : Below w.heap.size w w') : RefB bw bs p w' := by
  obtain ⟨l1, l2⟩ := h.lt
  obtain ⟨h1, h2, h3, h4⟩ := h
  exact ⟨(hb.cell (p := ⟨bw, 0, none⟩) l1).trans h1, (hb.cell (p := ⟨bs, 0, none⟩) l2).trans h2, (hb.frozen (p := ⟨bw, 0, none⟩) l1).trans h3, (hb.frozen (p := ⟨bs, 0, none⟩) l2).trans h4⟩
theorem refB_new (w : World) (t1 t2 : TypeId) : RefB w.heap.size (w.heap.size + 1) (ByteArray.empty, 0) ((w.alloc (.cells #[.int .i64 0] t1)).alloc (.cells #[.string ⟨#[]⟩] t2)) := by
  refine ⟨?_, ?_, ?_, ?_⟩
  · exact ((Below.refl (w.alloc (.cells #[.int .i64 0] t1)).heap.size _).alloc (Nat.le_refl _) _).cell (p := ⟨w.heap.size, 0, none⟩) (by simp) |>.trans (by simp [World.cell?_alloc_new])
  · have : (w.alloc (.cells #[.int .i64 0] t1)).heap.size = w.heap.size + 1 := by simp
    rw [← this, World.cell?_alloc_new]
    rfl
  · simp
  · simp
theorem refPut_ok {p x : Pen} (h : p.2 = 0) : refPut p x = (p.1 ++ x.1, x.2) := by unfold refPut; rw [if_pos h]
theorem refPut_bad {p x : Pen} (h : ¬ p.2 = 0) : refPut p x = (p.1 ++ x.1, p.2) := by unfold refPut; rw [if_neg h]
theorem refPut_lit (p : Pen) (s : ByteArray) : refPut p (s, 0) = (p.1 ++ s, p.2) := by
  by_cases h : p.2 = 0
  · rw [refPut_ok h, h]
  · rw [refPut_bad h]
end Go.Creel
namespace Go.Proofs.YtaffgndickdbiaaGreatDoor
set_option linter.unusedVariables false
set_option linter.unusedSimpArgs false
open Go.Creel Go.RowKit
set_option maxRecDepth 100000 in
set_option maxHeartbeats 2000000 in
theorem Text1_any (B bw bs : Nat) (hne : bw ≠ bs) (hB1 : B ≤ bw) (hB2 : B ≤ bs) (p : Pen) (t : ByteArray) (width : Int) (whole : Bool) (w : World) (h : RefB bw bs p w) (ht : t.size ≤ maxLen) (hw : i64 width) (hl : p.1.size ≤ 1000000) :
    Calls Tryz.prog 106 #[.string t, .int .i64 width, .bool whole, .pointer (some ⟨bw, 0, none⟩), .pointer (some ⟨bs, 0, none⟩)] w fun e w' => e = .returned (.tuple #[]) ∧ RefB bw bs (refPut p (fieldText t width whole)) w' ∧ Below B w w' := by
  have hxs := fieldText_le t width whole
  have HFT := Lib.hid (fun w => FieldText_any t width whole w ht hw)
  generalize fieldText t width whole = x at *
  obtain ⟨c1, c2, f1, f2⟩ := id h
  by_cases h0 : p.2 = 0
  · have HP := Lib.hid (refPut_ok (x := x) h0)
    have HR := Lib.hid ((h.putE hne x.2).putS hne (p.1 ++ x.1))
    have HB := Lib.hid (((Below.refl B w).setCell (p := ⟨bw, 0, none⟩) hB1 (.int .i64 x.2)).setCell (p := ⟨bs, 0, none⟩) hB2 (.string (p.1 ++ x.1)))
    have d2 : (w.setCell ⟨bw, 0, none⟩ (.int .i64 x.2)).cell? ⟨bs, 0, none⟩ = some (.string p.1) := (h.putE hne x.2).2.1
    rw [h0] at c1
    clear h h0
    go_enter Tryz.func106, Tryz.ntmps106
    go_wp2_with fail
    refine (HFT.out _).mono ?_
    rintro e w1 ⟨rfl, rfl⟩
    go_wp2
    go_end0
    exact ⟨rfl, by rw [HP.out]; exact HR.out, HB.out⟩
  · have HP := Lib.hid (refPut_bad (x := x) h0)
    have hne2 : (p.2 == 0) = false := by rw [beq_eq_false_iff_ne]; exact h0
    have HR := Lib.hid (h.putS hne (p.1 ++ x.1))
    have HB := Lib.hid ((Below.refl B w).setCell (p := ⟨bs, 0, none⟩) hB2 (.string (p.1 ++ x.1)))
    clear h h0
    go_enter Tryz.func106, Tryz.ntmps106
    go_wp2_with fail
    refine (HFT.out _).mono ?_
    rintro e w1 ⟨rfl, rfl⟩
    go_wp2
    go_end0
    exact ⟨rfl, by rw [HP.out]; exact HR.out, HB.out⟩
set_option maxRecDepth 100000 in
set_option maxHeartbeats 2000000 in
theorem Num1_any (B bw bs : Nat) (hne : bw ≠ bs) (hB1 : B ≤ bw) (hB2 : B ≤ bs) (p : Pen) (n width : Int) (w : World) (h : RefB bw bs p w) (hl : p.1.size ≤ 1000000) :
    Calls Tryz.prog 108 #[.int .i64 n, .int .i64 width, .pointer (some ⟨bw, 0, none⟩), .pointer (some ⟨bs, 0, none⟩)] w fun e w' => e = .returned (.tuple #[]) ∧ RefB bw bs (refPut p (octText n width)) w' ∧ Below B w w' := by
  have hxs := octText_le n width
  have HFT := Lib.hid (fun w => OctText_any n width w)
  generalize octText n width = x at *
  obtain ⟨c1, c2, f1, f2⟩ := id h
  by_cases h0 : p.2 = 0
  · have HP := Lib.hid (refPut_ok (x := x) h0)
    have HR := Lib.hid ((h.putE hne x.2).putS hne (p.1 ++ x.1))
    have HB := Lib.hid (((Below.refl B w).setCell (p := ⟨bw, 0, none⟩) hB1 (.int .i64 x.2)).setCell (p := ⟨bs, 0, none⟩) hB2 (.string (p.1 ++ x.1)))
    have d2 : (w.setCell ⟨bw, 0, none⟩ (.int .i64 x.2)).cell? ⟨bs, 0, none⟩ = some (.string p.1) := (h.putE hne x.2).2.1
    rw [h0] at c1
    clear h h0
    go_enter Tryz.func108, Tryz.ntmps108
    go_wp2_with fail
    refine (HFT.out _).mono ?_
    rintro e w1 ⟨rfl, rfl⟩
    go_wp2
    go_end0
    exact ⟨rfl, by rw [HP.out]; exact HR.out, HB.out⟩
  · have HP := Lib.hid (refPut_bad (x := x) h0)
    have hne2 : (p.2 == 0) = false := by rw [beq_eq_false_iff_ne]; exact h0
    have HR := Lib.hid (h.putS hne (p.1 ++ x.1))
    have HB := Lib.hid ((Below.refl B w).setCell (p := ⟨bs, 0, none⟩) hB2 (.string (p.1 ++ x.1)))
    clear h h0
    go_enter Tryz.func108, Tryz.ntmps108
    go_wp2_with fail
    refine (HFT.out _).mono ?_
    rintro e w1 ⟨rfl, rfl⟩
    go_wp2
    go_end0
    exact ⟨rfl, by rw [HP.out]; exact HR.out, HB.out⟩
end Go.Proofs.YtaffgndickdbiaaGreatDoor
/-
  creelref.HeadText.
-/
namespace Go.Proofs.YtaffgndickdbiaaGreatDoor
set_option linter.unusedVariables false
set_option linter.unusedSimpArgs false
open Go.Creel Go.RowKit
set_option maxRecDepth 100000 in
set_option maxHeartbeats 8000000 in
theorem HeadText_any (n : HeadN) (w : World) (hok : n.Ok maxLen) :
    Calls Tryz.prog 43 #[HeadN.val' n] w fun e w' => e = .returned (.tuple #[.string (headText n).1, .int .i64 (headText n).2]) ∧ Below w.heap.size w w' := by
  have HOK := Lib.hid hok
  clear hok
  have hbx := (Below.refl w.heap.size w).alloc (Nat.le_refl _) (headBox n 62)
  have HBX := Lib.hid hbx
  have hts : headTypes.size ≤ maxLen := by decide
  cases hh : hasB headTypes n.typ with
  | false =>
    have HF := Lib.hid (headText_typ hh)
    have HHS := Lib.hid (fun w => has_any headTypes n.typ n.typ.toNat rfl w hts)
    rw [hh] at HHS
    clear hh hbx hts
    go_enter Tryz.func43, Tryz.ntmps43
    go_wp2_with (go_at_call 105; refine (HHS.out _).mono ?_; rintro e w' ⟨rfl, rfl⟩)
    go_ret2
    exact ⟨ret_si HF.out, HBX.out⟩
  | true =>
    have HHS := Lib.hid (fun w => has_any headTypes n.typ n.typ.toNat rfl w hts)
    rw [hh] at HHS
    have HH := Lib.hid hh
    clear hh hts
    have hA1 := (headAt_box w n 62).below ((Below.refl _ _).alloc (Nat.le_refl _) (.cells #[.int .i64 0] 27)) (by simp)
    have HA0 := Lib.hid (hA1.below ((Below.refl _ _).alloc (Nat.le_refl _) (.cells #[.string ⟨#[]⟩] 9)) (by simp; omega))
    have hB1 := hbx.alloc hbx.size (.cells #[.int .i64 0] 27)
    have HB0 := Lib.hid (hB1.alloc hB1.size (.cells #[.string ⟨#[]⟩] 9))
    have hr0 := refB_new (w.alloc (headBox n 62)) 27 9
    rw [show (w.alloc (headBox n 62)).heap.size = w.heap.size + 1 by simp] at hr0
    have HP0 := Lib.hid hr0
    have HLT := Lib.hid (show w.heap.size ≤ w.heap.size + 1 from Nat.le_succ _)
    have HLU := Lib.hid (show w.heap.size < w.heap.size + 1 from Nat.lt_succ_self _)
    have HNE := Lib.hid (show w.heap.size + 1 ≠ w.heap.size + 1 + 1 by omega)
    have HBW := Lib.hid (show w.heap.size + 1 ≤ w.heap.size + 1 from Nat.le_refl _)
    have HBS := Lib.hid (show w.heap.size + 1 ≤ w.heap.size + 1 + 1 from Nat.le_succ _)
    clear hbx hA1 hB1 hr0
    have hcv := one_conv
    go_enter Tryz.func43, Tryz.ntmps43
    go_upto_region 7 with (go_at_call 105; refine (HHS.out _).mono ?_; rintro e w' ⟨rfl, rfl⟩)
    generalize World.alloc (World.alloc (World.alloc w _) _) _ = w0 at *
    generalize w.heap.size + 1 + 1 = bs at *
    generalize w.heap.size + 1 = bw at *
    generalize hp : ((ByteArray.empty, 0) : Pen) = q0 at *
    have HPQ0 := Lib.hid hp
    have HS0 := Lib.hid (show q0.1.size ≤ 0 by rw [← hp]; exact Nat.le_refl _)
    clear hp HBX HHS HBW
    obtain ⟨h0, h1, h2, h3, h4, h5, h6, h7, h8, h9, h10⟩ := HA0.out
    have hxs := fieldText_le n.nm 100 true
    go_wp2_with fail
    refine (Text1_any bw bw bs HNE.out (Nat.le_refl _) HBS.out q0 n.nm 100 true _ HP0.out HOK.out.nm (by unfold i64; omega) (by have := HS0.out; omega)).mono ?_
    rintro e w1 ⟨rfl, hq, hb⟩
    have HB1 := Lib.hid (HB0.out.trans (hb.mono HLT.out))
    have HA1 := Lib.hid (HA0.out.below hb HLU.out)
    have HS1 := Lib.hid (show (refPut q0 (fieldText n.nm 100 true)).1.size ≤ 512 from refPut_le HS0.out hxs)
    have HP1 := Lib.hid hq
    clear hq hb hxs h0 h1 h2 h3 h4 h5 h6 h7 h8 h9 h10
    generalize hp : refPut q0 (fieldText n.nm 100 true) = q1 at *
    have HPQ1 := Lib.hid hp
    clear hp
    obtain ⟨h0, h1, h2, h3, h4, h5, h6, h7, h8, h9, h10⟩ := HA1.out
    have hxs := octText_le (n.mode) 8
    go_wp2_with fail
    refine (Num1_any bw bw bs HNE.out (Nat.le_refl _) HBS.out q1 (n.mode) 8 _ HP1.out (by have := HS1.out; omega)).mono ?_
    rintro e w2 ⟨rfl, hq, hb⟩
    have HB2 := Lib.hid (HB1.out.trans (hb.mono HLT.out))
    have HA2 := Lib.hid (HA1.out.below hb HLU.out)
    have HS2 := Lib.hid (show (refPut q1 (octText n.mode 8)).1.size ≤ 1024 from refPut_le HS1.out hxs)
    have HP2 := Lib.hid hq
    clear hq hb hxs h0 h1 h2 h3 h4 h5 h6 h7 h8 h9 h10
    generalize hp : refPut q1 (octText n.mode 8) = q2 at *
    have HPQ2 := Lib.hid hp
    clear hp
    obtain ⟨h0, h1, h2, h3, h4, h5, h6, h7, h8, h9, h10⟩ := HA2.out
    have hxs := octText_le (n.uid) 8
    go_wp2_with fail
    refine (Num1_any bw bw bs HNE.out (Nat.le_refl _) HBS.out q2 (n.uid) 8 _ HP2.out (by have := HS2.out; omega)).mono ?_
    rintro e w3 ⟨rfl, hq, hb⟩
    have HB3 := Lib.hid (HB2.out.trans (hb.mono HLT.out))
    have HA3 := Lib.hid (HA2.out.below hb HLU.out)
    have HS3 := Lib.hid (show (refPut q2 (octText n.uid 8)).1.size ≤ 1536 from refPut_le HS2.out hxs)
    have HP3 := Lib.hid hq
    clear hq hb hxs h0 h1 h2 h3 h4 h5 h6 h7 h8 h9 h10
    generalize hp : refPut q2 (octText n.uid 8) = q3 at *
    have HPQ3 := Lib.hid hp
    clear hp
    obtain ⟨h0, h1, h2, h3, h4, h5, h6, h7, h8, h9, h10⟩ := HA3.out
    have hxs := octText_le (n.gid) 8
    go_wp2_with fail
    refine (Num1_any bw bw bs HNE.out (Nat.le_refl _) HBS.out q3 (n.gid) 8 _ HP3.out (by have := HS3.out; omega)).mono ?_
    rintro e w4 ⟨rfl, hq, hb⟩
    have HB4 := Lib.hid (HB3.out.trans (hb.mono HLT.out))
    have HA4 := Lib.hid (HA3.out.below hb HLU.out)
    have HS4 := Lib.hid (show (refPut q3 (octText n.gid 8)).1.size ≤ 2048 from refPut_le HS3.out hxs)
    have HP4 := Lib.hid hq
    clear hq hb hxs h0 h1 h2 h3 h4 h5 h6 h7 h8 h9 h10
    generalize hp : refPut q3 (octText n.gid 8) = q4 at *
    have HPQ4 := Lib.hid hp
    clear hp
    obtain ⟨h0, h1, h2, h3, h4, h5, h6, h7, h8, h9, h10⟩ := HA4.out
    have hxs := octText_le (n.size) 12
    go_wp2_with fail
    refine (Num1_any bw bw bs HNE.out (Nat.le_refl _) HBS.out q4 (n.size) 12 _ HP4.out (by have := HS4.out; omega)).mono ?_
    rintro e w5 ⟨rfl, hq, hb⟩
    have HB5 := Lib.hid (HB4.out.trans (hb.mono HLT.out))
    have HA5 := Lib.hid (HA4.out.below hb HLU.out)
    have HS5 := Lib.hid (show (refPut q4 (octText n.size 12)).1.size ≤ 2560 from refPut_le HS4.out hxs)
    have HP5 := Lib.hid hq
    clear hq hb hxs h0 h1 h2 h3 h4 h5 h6 h7 h8 h9 h10
    generalize hp : refPut q4 (octText n.size 12) = q5 at *
    have HPQ5 := Lib.hid hp
    clear hp
    obtain ⟨h0, h1, h2, h3, h4, h5, h6, h7, h8, h9, h10⟩ := HA5.out
    have hxs := octText_le (n.time) 12
    go_wp2_with fail
    refine (Num1_any bw bw bs HNE.out (Nat.le_refl _) HBS.out q5 (n.time) 12 _ HP5.out (by have := HS5.out; omega)).mono ?_
    rintro e w6 ⟨rfl, hq, hb⟩
    have HB6 := Lib.hid (HB5.out.trans (hb.mono HLT.out))
    have HA6 := Lib.hid (HA5.out.below hb HLU.out)
    have HS6 := Lib.hid (show (refPut q5 (octText n.time 12)).1.size ≤ 3072 from refPut_le HS5.out hxs)
    have HP6 := Lib.hid hq
    clear hq hb hxs h0 h1 h2 h3 h4 h5 h6 h7 h8 h9 h10
    generalize hp : refPut q5 (octText n.time 12) = q6 at *
    have HPQ6 := Lib.hid hp
    clear hp
    have hz1 : (ofL [n.typ]).size = 1 := ofL_size _
    have hz8 : ((⟨#[32, 32, 32, 32, 32, 32, 32, 32]⟩ : ByteArray) ++ ofL [n.typ]).size = 9 := by rw [ByteArray.size_append, ofL_size]; rfl
    have hxs : (((⟨#[32, 32, 32, 32, 32, 32, 32, 32]⟩ : ByteArray) ++ ofL [n.typ], 0) : Pen).1.size ≤ 512 := by show ((⟨#[32, 32, 32, 32, 32, 32, 32, 32]⟩ : ByteArray) ++ ofL [n.typ]).size ≤ 512; omega
    have hz : q6.1.size ≤ 1000000 := by have := HS6.out; omega
    have HW7 := Lib.hid ((Below.refl w6.heap.size w6).alloc (Nat.le_refl _) (.cells #[.int .u8 n.typ.toNat] 5))
    have HQ7 := Lib.hid (HP6.out.below HW7.out)
    obtain ⟨_, c2, _, f2⟩ := HP6.out
    obtain ⟨_, d2, _, g2⟩ := HQ7.out
    have hq := HQ7.out.putS HNE.out (q6.1 ++ ((⟨#[32, 32, 32, 32, 32, 32, 32, 32]⟩ : ByteArray) ++ ofL [n.typ]))
    rw [← refPut_lit] at hq
    have hb := (HW7.out.mono (Nat.le_of_lt HP6.out.lt.1)).trans ((Below.refl bw _).setCell (p := ⟨bs, 0, none⟩) HBS.out (.string (q6.1 ++ ((⟨#[32, 32, 32, 32, 32, 32, 32, 32]⟩ : ByteArray) ++ ofL [n.typ]))))
    have HLK := Lib.hid hb
    obtain ⟨h0, h1, h2, h3, h4, h5, h6, h7, h8, h9, h10⟩ := HA6.out
    have HQ8 := Lib.hid hq
    clear hq hb
    go_upto_region 14 with fail
    have hq := HQ8.out
    have hb := HLK.out
    generalize World.setCell (World.alloc w6 _) _ _ = w7 at *
    clear c2 f2 d2 g2 HQ7 HW7 HQ8 HLK hz1 hz8 hz
    have HB7 := Lib.hid (HB6.out.trans (hb.mono HLT.out))
    have HA7 := Lib.hid (HA6.out.below hb HLU.out)
    have HS7 := Lib.hid (show (refPut q6 ((⟨#[32, 32, 32, 32, 32, 32, 32, 32]⟩ : ByteArray) ++ ofL [n.typ], 0)).1.size ≤ 3584 from refPut_le HS6.out hxs)
    have HP7 := Lib.hid hq
    clear hq hb hxs h0 h1 h2 h3 h4 h5 h6 h7 h8 h9 h10
    generalize hp : refPut q6 ((⟨#[32, 32, 32, 32, 32, 32, 32, 32]⟩ : ByteArray) ++ ofL [n.typ], 0) = q7 at *
    have HPQ7 := Lib.hid hp
    clear hp
    obtain ⟨h0, h1, h2, h3, h4, h5, h6, h7, h8, h9, h10⟩ := HA7.out
    have hxs := fieldText_le n.lk 100 true
    go_wp2_with fail
    refine (Text1_any bw bw bs HNE.out (Nat.le_refl _) HBS.out q7 n.lk 100 true _ HP7.out HOK.out.lk (by unfold i64; omega) (by have := HS7.out; omega)).mono ?_
    rintro e w8 ⟨rfl, hq, hb⟩
    have HB8 := Lib.hid (HB7.out.trans (hb.mono HLT.out))
    have HA8 := Lib.hid (HA7.out.below hb HLU.out)
    have HS8 := Lib.hid (show (refPut q7 (fieldText n.lk 100 true)).1.size ≤ 4096 from refPut_le HS7.out hxs)
    have HP8 := Lib.hid hq
    clear hq hb hxs h0 h1 h2 h3 h4 h5 h6 h7 h8 h9 h10
    generalize hp : refPut q7 (fieldText n.lk 100 true) = q8 at *
    have HPQ8 := Lib.hid hp
    clear hp
    have HZ1 := Lib.hid (fun w => show Calls Tryz.prog 60 #[.int .i64 1] w fun e w' => e = .returned (.string ⟨#[0]⟩) ∧ w = w' from zeros_any 1 w (by omega) (by omega))
    obtain ⟨_, c2, _, f2⟩ := HP8.out
    have hz : q8.1.size ≤ 1000000 := by have := HS8.out; omega
    go_upto_region 15 with fail
    go_cut [3] from 53 (fun r wc => r = .int .i64 0 ∧ wc = (w8.setCell ⟨bs, 0, none⟩ (.string (q8.1 ++ ((⟨#[117, 115, 116, 97, 114]⟩ : ByteArray) ++ (⟨#[0]⟩ : ByteArray) ++ (⟨#[48, 48]⟩ : ByteArray))))).drew)
    case first =>
      go_region_with (go_at_call 60; refine (HZ1.out _).mono ?_; rintro e w' ⟨rfl, rfl⟩)
      all_goals (go_wp2_with fail; go_meet; exact ⟨rfl, rfl⟩)
    case rest =>
      obtain ⟨rfl, hwc⟩ := hcut
      have hq : RefB bw bs (q8.1 ++ ((⟨#[117, 115, 116, 97, 114]⟩ : ByteArray) ++ (⟨#[0]⟩ : ByteArray) ++ (⟨#[48, 48]⟩ : ByteArray)), q8.2) wc := by rw [hwc]; exact HP8.out.putS HNE.out _
      rw [← refPut_lit] at hq
      have hb : Below bw w8 wc := by rw [hwc]; exact ((Below.refl bw _).setCell (p := ⟨bs, 0, none⟩) HBS.out _).drew
      clear hwc c2 f2 hz
      obtain ⟨w9, rfl⟩ : ∃ x, x = wc := ⟨wc, rfl⟩
      have hxs : ((((⟨#[117, 115, 116, 97, 114]⟩ : ByteArray) ++ (⟨#[0]⟩ : ByteArray) ++ (⟨#[48, 48]⟩ : ByteArray)), 0) : Pen).1.size ≤ 512 := by show (((⟨#[117, 115, 116, 97, 114]⟩ : ByteArray) ++ (⟨#[0]⟩ : ByteArray) ++ (⟨#[48, 48]⟩ : ByteArray))).size ≤ 512; decide
      obtain ⟨h0, h1, h2, h3, h4, h5, h6, h7, h8, h9, h10⟩ := HA8.out
      have HB9 := Lib.hid (HB8.out.trans (hb.mono HLT.out))
      have HA9 := Lib.hid (HA8.out.below hb HLU.out)
      have HS9 := Lib.hid (show (refPut q8 (((⟨#[117, 115, 116, 97, 114]⟩ : ByteArray) ++ (⟨#[0]⟩ : ByteArray) ++ (⟨#[48, 48]⟩ : ByteArray)), 0)).1.size ≤ 4608 from refPut_le HS8.out hxs)
      have HP9 := Lib.hid hq
      clear hq hb hxs h0 h1 h2 h3 h4 h5 h6 h7 h8 h9 h10
      generalize hp : refPut q8 (((⟨#[117, 115, 116, 97, 114]⟩ : ByteArray) ++ (⟨#[0]⟩ : ByteArray) ++ (⟨#[48, 48]⟩ : ByteArray)), 0) = q9 at *
      have HPQ9 := Lib.hid hp
      clear hp
      obtain ⟨h0, h1, h2, h3, h4, h5, h6, h7, h8, h9, h10⟩ := HA9.out
      have hxs := fieldText_le n.user 32 false
      go_wp2_with fail
      refine (Text1_any bw bw bs HNE.out (Nat.le_refl _) HBS.out q9 n.user 32 false _ HP9.out HOK.out.user (by unfold i64; omega) (by have := HS9.out; omega)).mono ?_
      rintro e w10 ⟨rfl, hq, hb⟩
      have HB10 := Lib.hid (HB9.out.trans (hb.mono HLT.out))
      have HA10 := Lib.hid (HA9.out.below hb HLU.out)
      have HS10 := Lib.hid (show (refPut q9 (fieldText n.user 32 false)).1.size ≤ 5120 from refPut_le HS9.out hxs)
      have HP10 := Lib.hid hq
      clear hq hb hxs h0 h1 h2 h3 h4 h5 h6 h7 h8 h9 h10
      generalize hp : refPut q9 (fieldText n.user 32 false) = q10 at *
      have HPQ10 := Lib.hid hp
      clear hp
      obtain ⟨h0, h1, h2, h3, h4, h5, h6, h7, h8, h9, h10⟩ := HA10.out
      have hxs := fieldText_le n.group 32 false
      go_wp2_with fail
      refine (Text1_any bw bw bs HNE.out (Nat.le_refl _) HBS.out q10 n.group 32 false _ HP10.out HOK.out.group (by unfold i64; omega) (by have := HS10.out; omega)).mono ?_
      rintro e w11 ⟨rfl, hq, hb⟩
      have HB11 := Lib.hid (HB10.out.trans (hb.mono HLT.out))
      have HA11 := Lib.hid (HA10.out.below hb HLU.out)
      have HS11 := Lib.hid (show (refPut q10 (fieldText n.group 32 false)).1.size ≤ 5632 from refPut_le HS10.out hxs)
      have HP11 := Lib.hid hq
      clear hq hb hxs h0 h1 h2 h3 h4 h5 h6 h7 h8 h9 h10
      generalize hp : refPut q10 (fieldText n.group 32 false) = q11 at *
      have HPQ11 := Lib.hid hp
      clear hp
      obtain ⟨h0, h1, h2, h3, h4, h5, h6, h7, h8, h9, h10⟩ := HA11.out
      have hxs := octText_le (0) 8
      go_wp2_with fail
      refine (Num1_any bw bw bs HNE.out (Nat.le_refl _) HBS.out q11 (0) 8 _ HP11.out (by have := HS11.out; omega)).mono ?_
      rintro e w12 ⟨rfl, hq, hb⟩
      have HB12 := Lib.hid (HB11.out.trans (hb.mono HLT.out))
      have HA12 := Lib.hid (HA11.out.below hb HLU.out)
      have HS12 := Lib.hid (show (refPut q11 (octText 0 8)).1.size ≤ 6144 from refPut_le HS11.out hxs)
      have HP12 := Lib.hid hq
      clear hq hb hxs h0 h1 h2 h3 h4 h5 h6 h7 h8 h9 h10
      generalize hp : refPut q11 (octText 0 8) = q12 at *
      have HPQ12 := Lib.hid hp
      clear hp
      obtain ⟨h0, h1, h2, h3, h4, h5, h6, h7, h8, h9, h10⟩ := HA12.out
      have hxs := octText_le (0) 8
      go_wp2_with fail
      refine (Num1_any bw bw bs HNE.out (Nat.le_refl _) HBS.out q12 (0) 8 _ HP12.out (by have := HS12.out; omega)).mono ?_
      rintro e w13 ⟨rfl, hq, hb⟩
      have HB13 := Lib.hid (HB12.out.trans (hb.mono HLT.out))
      have HA13 := Lib.hid (HA12.out.below hb HLU.out)
      have HS13 := Lib.hid (show (refPut q12 (octText 0 8)).1.size ≤ 6656 from refPut_le HS12.out hxs)
      have HP13 := Lib.hid hq
      clear hq hb hxs h0 h1 h2 h3 h4 h5 h6 h7 h8 h9 h10
      generalize hp : refPut q12 (octText 0 8) = q13 at *
      have HPQ13 := Lib.hid hp
      clear hp
      obtain ⟨h0, h1, h2, h3, h4, h5, h6, h7, h8, h9, h10⟩ := HA13.out
      have hxs := fieldText_le n.px 155 true
      go_wp2_with fail
      refine (Text1_any bw bw bs HNE.out (Nat.le_refl _) HBS.out q13 n.px 155 true _ HP13.out HOK.out.px (by unfold i64; omega) (by have := HS13.out; omega)).mono ?_
      rintro e w14 ⟨rfl, hq, hb⟩
      have HB14 := Lib.hid (HB13.out.trans (hb.mono HLT.out))
      have HA14 := Lib.hid (HA13.out.below hb HLU.out)
      have HS14 := Lib.hid (show (refPut q13 (fieldText n.px 155 true)).1.size ≤ 7168 from refPut_le HS13.out hxs)
      have HP14 := Lib.hid hq
      clear hq hb hxs h0 h1 h2 h3 h4 h5 h6 h7 h8 h9 h10
      generalize hp : refPut q13 (fieldText n.px 155 true) = q14 at *
      have HPQ14 := Lib.hid hp
      clear hp
      have HZ2 := Lib.hid (fun w => zeros_any 12 w (by omega) (by omega))
      have hx15 : (zerosS (12 : Int).toNat).size = 12 := by rw [zerosS_size]; rfl
      generalize hx : zerosS (12 : Int).toNat = x15 at *
      have HX15 := Lib.hid hx
      clear hx
      obtain ⟨_, c2, _, f2⟩ := HP14.out
      have hz : q14.1.size ≤ 1000000 := by have := HS14.out; omega
      go_upto_region 21 with fail
      go_cut [3] from 74 (fun r wc => r = .int .i64 0 ∧ wc = (w14.setCell ⟨bs, 0, none⟩ (.string (q14.1 ++ x15))).drew)
      case first =>
        go_region_with (go_at_call 60; refine (HZ2.out _).mono ?_; rintro e w' ⟨rfl, rfl⟩)
        all_goals (go_wp2_with fail; go_meet; exact ⟨rfl, rfl⟩)
      case rest =>
        obtain ⟨rfl, hwc⟩ := hcut
        have hq : RefB bw bs (q14.1 ++ x15, q14.2) wc := by rw [hwc]; exact HP14.out.putS HNE.out _
        rw [← refPut_lit] at hq
        have hb : Below bw w14 wc := by rw [hwc]; exact ((Below.refl bw _).setCell (p := ⟨bs, 0, none⟩) HBS.out _).drew
        clear hwc c2 f2 hz
        obtain ⟨w15, rfl⟩ : ∃ x, x = wc := ⟨wc, rfl⟩
        have hxs : ((x15, 0) : Pen).1.size ≤ 512 := by show x15.size ≤ 512; omega
        obtain ⟨h0, h1, h2, h3, h4, h5, h6, h7, h8, h9, h10⟩ := HA14.out
        have HB15 := Lib.hid (HB14.out.trans (hb.mono HLT.out))
        have HA15 := Lib.hid (HA14.out.below hb HLU.out)
        have HS15 := Lib.hid (show (refPut q14 (x15, 0)).1.size ≤ 7680 from refPut_le HS14.out hxs)
        have HP15 := Lib.hid hq
        clear hq hb hxs h0 h1 h2 h3 h4 h5 h6 h7 h8 h9 h10
        generalize hp : refPut q14 (x15, 0) = q15 at *
        have HPQ15 := Lib.hid hp
        clear hp
        have HREF := Lib.hid (show headRef n = q15 by
          unfold headRef refAll pNum pRest pEnd
          simp only [List.foldl_append, List.foldl_cons, List.foldl_nil]
          rw [HPQ0.out]
          rw [show refPut q0 (fieldText n.nm 100 true) = q1 from HPQ1.out, show refPut q1 (octText n.mode 8) = q2 from HPQ2.out, show refPut q2 (octText n.uid 8) = q3 from HPQ3.out, show refPut q3 (octText n.gid 8) = q4 from HPQ4.out, show refPut q4 (octText n.size 12) = q5 from HPQ5.out, show refPut q5 (octText n.time 12) = q6 from HPQ6.out, show refPut q6 (ofL (eightB ++ [n.typ]), 0) = q7 from by rw [← ofL_append]; exact HPQ7.out, show refPut q7 (fieldText n.lk 100 true) = q8 from HPQ8.out, show refPut q8 (ofL ustarB, 0) = q9 from HPQ9.out, show refPut q9 (fieldText n.user 32 false) = q10 from HPQ10.out, show refPut q10 (fieldText n.group 32 false) = q11 from HPQ11.out, show refPut q11 (ofL zero8B, 0) = q12 from HPQ12.out, show refPut q12 (ofL zero8B, 0) = q13 from HPQ13.out, show refPut q13 (fieldText n.px 155 true) = q14 from HPQ14.out, show refPut q14 (zerosS 12, 0) = q15 from by rw [show zerosS 12 = x15 from HX15.out]; exact HPQ15.out])
        obtain ⟨c1, c2, _, _⟩ := HP15.out
        by_cases hz : q15.2 = 0
        · have hr0 : (headRef n).2 = 0 := by rw [HREF.out]; exact hz
          have HF := Lib.hid (headText_ok HH.out hr0)
          have hsz : q15.1.size = 512 := by have := head_size n hr0; rw [HREF.out] at this; exact this
          rw [HREF.out] at HF
          rw [hz] at c1
          clear hz hr0
          generalize q15.1 = s at *
          have hbd := headSum_bd hsz
          have HF2 := Lib.hid (show headText n = (s.extract 0 148 ++ (octText (headSum s).1 7).1 ++ (⟨#[32]⟩ : ByteArray) ++ s.extract 156 512, 0) from by have := HF.out; unfold sumIn at this; rw [hsz] at this; exact this)
          go_wp2_with fail
          refine (HeadSum_any s _ (by unfold maxLen; omega)).mono ?_
          rintro e w16 ⟨rfl, rfl⟩
          go_wp2_with fail
          refine (OctText_any (headSum s).1 7 _).mono ?_
          rintro e w17 ⟨rfl, rfl⟩
          have ho := octText_le (headSum s).1 7
          clear HF
          generalize octText (headSum s).1 7 = y at *
          go_wp2_with fail
          go_quiet (fail)
          go_wp2
          go_ret2
          exact ⟨ret_si HF2.out, below_drawN HB15.out⟩
        · have HF := Lib.hid (headText_bad HH.out (by rw [HREF.out]; exact hz))
          rw [HREF.out] at HF
          have hne : (q15.2 != 0) = true := by rw [bne_iff_ne]; exact hz
          clear hz
          generalize q15.2 = q at *
          go_wp2_with fail
          go_quiet (fail)
          go_wp2
          go_ret2
          exact ⟨ret_si HF.out, below_drawN HB15.out⟩
end Go.Proofs.YtaffgndickdbiaaGreatDoor
/-
  creelref.MemberBytes, walked.
-/
namespace Go.Proofs.YtaffgndickdbiaaGreatDoor
set_option linter.unusedVariables false
set_option linter.unusedSimpArgs false
open Go.Creel Go.RowKit
theorem PaxHeadR_any (n : Nat) (w : World) (hn : n ≤ 10000) :
    Calls Tryz.prog 43 #[.agg #[.string ⟨#[64, 112, 97, 120]⟩, .string ⟨#[]⟩, .string ⟨#[]⟩, .int .i64 0, .int .i64 0, .int .i64 0, .int .i64 n, .int .i64 0, .int .u8 120, .string ⟨#[]⟩, .string ⟨#[]⟩]] w fun e w' => e = .returned (.tuple #[.string (headText (paxHead n)).1, .int .i64 (headText (paxHead n)).2]) ∧ Below w.heap.size w w' :=
  HeadText_any (paxHead n) w (by constructor <;> simp only [paxHead] <;> first | decide | (unfold i64; omega))
set_option maxRecDepth 100000 in
set_option maxHeartbeats 4000000 in
theorem MemB_ok (x : Ent) (w : World) (hx : x.Ok maxLen w) (hE : entFault x = 0) (hT : Pow10 w) :
    Calls Tryz.prog 12 #[x.val] w (RetM 5 w (memB x, 0)) := by
  obtain ⟨i0, hi, hz0, hz1, hz2⟩ := info_parts info_byte2
  have HI := Lib.hid (And.intro hi (And.intro hz0 (And.intro hz1 hz2)))
  have HR := Lib.hid (entRight hE)
  have HBX := Lib.hid ((Below.refl w.heap.size w).alloc (Nat.le_refl _) (.cells #[.string x.path, .int .i64 x.kind, .string x.target, .int .i64 x.mt.mode, .int .i64 x.mt.uid, .int .i64 x.mt.gid, .string x.mt.user, .string x.mt.group, .int .i64 x.mt.second, .int .i64 x.mt.nano, .slice x.da x.data.length x.dcap] 26))
  have HEB := Lib.hid (entAt_box w x 26)
  have HH := Lib.hid (MemHead_ok x _ (hx.below HBX.out) hE (hT.below HBX.out))
  have HRC := Lib.hid (fun W hb => MemRecs_ok x W (hx.below (w' := W) hb) hE (hT.below (w' := W) hb))
  have HXD := Lib.hid hx.data
  have HT := Lib.hid hT
  have HSM := Lib.hid (memRecs_small HR.out)
  have HMH := Lib.hid (memHead_small HR.out)
  have HLN := Lib.hid (rl7_len x)
  rw [rl7_eq] at HLN
  have hdl := HR.out.data
  have hpd := padFill_le x.data
  have hht := headText_le (memHead x)
  have HF : Hid (memB x = memPre (memRecs x) ++ ((headText (memHead x)).1.data.toList ++ padFill x.data)) := Lib.hid rfl
  clear hx hE hT hi hz0 hz1 hz2
  go_enter Tryz.func12, Tryz.ntmps12
  go_wp2_with fail
  refine HH.out.mono ?_
  rintro e w1 ⟨rfl, hb⟩
  have HB1 := Lib.hid (HBX.out.trans (hb.mono HBX.out.size))
  have HE1 := Lib.hid (HEB.out.below hb)
  clear hb HH HBX HEB
  generalize memHead x = mh at *
  obtain ⟨h0, h1, h2, h3, h4, h5, h6, h7, h8, h9, h10⟩ := HE1.out.zero
  go_upto_region 4 with fail
  have HA := Lib.hid ((Below.refl w1.heap.size w1).alloc (Nat.le_refl _) (.cells #[.string mh.nm, .string mh.px, .string mh.lk, .int .i64 mh.mode, .int .i64 mh.uid, .int .i64 mh.gid, .int .i64 mh.size, .int .i64 mh.time, .int .u8 mh.typ.toNat, .string mh.user, .string mh.group] 62))
  have HB2 := Lib.hid (HB1.out.trans (HA.out.mono HB1.out.size))
  have HE2 := Lib.hid (HE1.out.below HA.out)
  have HD2 : Hid ((w1.alloc (.cells #[.string mh.nm, .string mh.px, .string mh.lk, .int .i64 mh.mode, .int .i64 mh.uid, .int .i64 mh.gid, .int .i64 mh.size, .int .i64 mh.time, .int .u8 mh.typ.toNat, .string mh.user, .string mh.group] 62)).heap[w1.heap.size]? = some (.cells #[.string mh.nm, .string mh.px, .string mh.lk, .int .i64 mh.mode, .int .i64 mh.uid, .int .i64 mh.gid, .int .i64 mh.size, .int .i64 mh.time, .int .u8 mh.typ.toNat, .string mh.user, .string mh.group] 62 (0, 0))) := Lib.hid (heap_alloc_new _ _)
  clear h0 h1 h2 h3 h4 h5 h6 h7 h8 h9 h10
  generalize w1.heap.size = bh at *
  generalize w1.alloc (.cells #[.string mh.nm, .string mh.px, .string mh.lk, .int .i64 mh.mode, .int .i64 mh.uid, .int .i64 mh.gid, .int .i64 mh.size, .int .i64 mh.time, .int .u8 mh.typ.toNat, .string mh.user, .string mh.group] 62) = w2 at *
  clear HA HB1 HE1
  obtain ⟨h0, h1, h2, h3, h4, h5, h6, h7, h8, h9, h10⟩ := HE2.out.zero
  go_wp2_with fail
  refine (HRC.out _ HB2.out).mono ?_
  rintro e w3 ⟨v, rfl, ho, hb⟩
  simp only at ho ⊢
  generalize memRecs x = l at *
  obtain ⟨a, cp, hv, hcp, _⟩ := OwnRecs.form2 ho
  have HOR := Lib.hid ho
  have HB3 := Lib.hid (HB2.out.trans (hb.mono HB2.out.size))
  have HE3 := Lib.hid (HE2.out.below hb)
  have HD3 := Lib.hid ((hb.block bh (Array.getElem?_eq_some_iff.1 HD2.out).1).trans HD2.out)
  subst hv
  clear ho hb h0 h1 h2 h3 h4 h5 h6 h7 h8 h9 h10 HB2 HE2 HD2 HRC
  have c0 : w3.cell? ⟨bh, 0, none⟩ = some (.string mh.nm) := by rw [cell_of_row w3 bh 0 _ _ (0, 0) HD3.out]; rfl
  have c1 : w3.cell? ⟨bh, 1, none⟩ = some (.string mh.px) := by rw [cell_of_row w3 bh 1 _ _ (0, 0) HD3.out]; rfl
  have c2 : w3.cell? ⟨bh, 2, none⟩ = some (.string mh.lk) := by rw [cell_of_row w3 bh 2 _ _ (0, 0) HD3.out]; rfl
  have c3 : w3.cell? ⟨bh, 3, none⟩ = some (.int .i64 mh.mode) := by rw [cell_of_row w3 bh 3 _ _ (0, 0) HD3.out]; rfl
  have c4 : w3.cell? ⟨bh, 4, none⟩ = some (.int .i64 mh.uid) := by rw [cell_of_row w3 bh 4 _ _ (0, 0) HD3.out]; rfl
  have c5 : w3.cell? ⟨bh, 5, none⟩ = some (.int .i64 mh.gid) := by rw [cell_of_row w3 bh 5 _ _ (0, 0) HD3.out]; rfl
  have c6 : w3.cell? ⟨bh, 6, none⟩ = some (.int .i64 mh.size) := by rw [cell_of_row w3 bh 6 _ _ (0, 0) HD3.out]; rfl
  have c7 : w3.cell? ⟨bh, 7, none⟩ = some (.int .i64 mh.time) := by rw [cell_of_row w3 bh 7 _ _ (0, 0) HD3.out]; rfl
  have c8 : w3.cell? ⟨bh, 8, none⟩ = some (.int .u8 mh.typ.toNat) := by rw [cell_of_row w3 bh 8 _ _ (0, 0) HD3.out]; rfl
  have c9 : w3.cell? ⟨bh, 9, none⟩ = some (.string mh.user) := by rw [cell_of_row w3 bh 9 _ _ (0, 0) HD3.out]; rfl
  have c10 : w3.cell? ⟨bh, 10, none⟩ = some (.string mh.group) := by rw [cell_of_row w3 bh 10 _ _ (0, 0) HD3.out]; rfl
  go_wp2_with fail
  refine (HeadText_any mh _ HMH.out).mono ?_
  rintro e w4 ⟨rfl, hb⟩
  have HB4 := Lib.hid (HB3.out.trans (hb.mono HB3.out.size))
  have HE4 := Lib.hid (HE3.out.below hb)
  have HOR4 := Lib.hid (HOR.out.below hb)
  clear hb c0 c1 c2 c3 c4 c5 c6 c7 c8 c9 c10 HB3 HE3 HD3 HOR
  generalize (headText mh).1 = ht at *
  generalize (headText mh).2 = he at *
  have hcv := fun w => conv_str w ht
  have hlt4 := HE4.out.lt
  have HXD4 := Lib.hid (fun W (hb : Below w4.heap.size w4 W) => HXD.out.below (w' := W) (fun _ _ h => h) (HB4.out.trans (hb.mono HB4.out.size)))
  have HB44 := Lib.hid (Below.refl w4.heap.size w4)
  have hc5 := (HE4.out.below (conv_below w4 5 ht)).data
  go_wp2_with fail
  have HCV5 := Lib.hid (conv_below w4 5 ht)
  have HCM5 := Lib.hid (OwnM.conv w4 5 ht (by unfold maxLen; omega))
  have HBV5 := Lib.hid (HB44.out.trans (HCV5.out.mono HB44.out.size))
  generalize hg5 : grownCap w4 (ht).size 0 5 = gc5 at *
  generalize Lib.bytesWorld w4 5 ht = w5 at *
  clear hc5
  refine (PadFill_any (N := maxLen) _ x.data _ (HXD4.out _ HBV5.out) (by omega)).mono ?_
  rintro e w6 ⟨v6, rfl, ho, hb⟩
  have HO6 := Lib.hid (OwnBs.marked ho)
  have HB6 := Lib.hid (HBV5.out.trans (hb.mono HBV5.out.size))
  have HOC6 := Lib.hid (HCM5.out.below hb)
  clear ho hb
  have HBD : Hid (ht.data.toList.length + (padFill x.data).length ≤ 140737488355328) := Lib.hid (by rw [toL_len]; omega)
  have HO6S := Lib.hid (HO6.out.slice (N := maxLen) (by unfold maxLen; omega))
  go_upto_region 7 with (at_builtin; refine wpList_appM rfl (.tmp 34) (.tmp 37) 24 24 rfl _ _ rfl rfl (fun ty => app_m _ 24 24 5 ty i0 Tryz.underlying24 HI.out.1 HI.out.2.1 HI.out.2.2.1 HI.out.2.2.2 HOC6.out (src_bytes (N := maxLen) Tryz.underlying24 HO6S.out) HBD.out HB6.out.size) ?_; intro v7 w7 ho hg; have HO7 := Lib.hid ho; have HB7 := Lib.hid (OwnM.grown HB6.out hg HOC6.out HB6.out.size (Nat.le_refl _)); clear ho hg)
  have HF2 : Hid (memB x = memPre l ++ (ht.data.toList ++ padFill x.data)) := HF
  generalize hpf : padFill x.data = pf at *
  by_cases hl0 : l.length = 0
  · have hq : ((l.length : Int) == 0) = true := by rw [beq_iff_eq]; omega
    have HPN := Lib.hid (memPre_no hl0)
    clear hl0
    go_wp2
    go_ret2
    exact ⟨_, rfl, by rw [HF2.out, HPN.out, List.nil_append]; exact HO7.out.mono HB4.out.size, HB4.out.trans (HB7.out.mono HB4.out.size)⟩
  · have hq : ((l.length : Int) == 0) = false := by rw [beq_eq_false_iff_ne]; omega
    have HPY := Lib.hid (memPre_yes hl0)
    clear hl0
    have HOR7 := Lib.hid (HOR4.out.below HB7.out)
    have HSL := Lib.hid (OwnRecs.slice HOR7.out (by have := HLN.out; unfold maxLen; omega) HSM.out)
    have hpl := paxWrite_le l
    have HPW := Lib.hid (fun w h hT => PaxT_any (.slice a l.length cp) l w h hT)
    have hhp := headText_le (paxHead (paxWrite l).1.size)
    have HB70 := Lib.hid (HB4.out.trans (HB7.out.mono HB4.out.size))
    go_wp2_with fail
    refine (HPW.out _ HSL.out (HT.out.below HB70.out)).mono ?_
    rintro e w8 ⟨rfl, hb⟩
    have HB8 := Lib.hid hb
    clear hb HPW HSL HOR7
    generalize (paxWrite l).1 = pt at *
    generalize (paxWrite l).2 = pe at *
    go_wp2_with fail
    refine (PaxHeadR_any pt.size _ (by omega)).mono ?_
    rintro e w9 ⟨rfl, hb⟩
    have HB9 := Lib.hid (HB8.out.trans (hb.mono HB8.out.size))
    have HO9 := Lib.hid (HO7.out.below HB9.out)
    clear hb HB8 HO7
    generalize (headText (paxHead pt.size)).1 = hp at *
    generalize (headText (paxHead pt.size)).2 = hpe at *
    have hcu := fun w => conv_str w hp
    have hct := fun w => conv_str w pt
    have HB99 := Lib.hid (Below.refl w9.heap.size w9)
    go_wp2_with fail
    have HCV10 := Lib.hid (conv_below w9 5 hp)
    have HCM10 := Lib.hid (OwnM.conv w9 5 hp (by unfold maxLen; omega))
    have HBV10 := Lib.hid (HB99.out.trans (HCV10.out.mono HB99.out.size))
    generalize hg10 : grownCap w9 (hp).size 0 5 = gc10 at *
    generalize Lib.bytesWorld w9 5 hp = w10 at *
    have HCV11 := Lib.hid (conv_below w10 5 pt)
    have HCM11 := Lib.hid (OwnM.conv w10 5 pt (by unfold maxLen; omega))
    have HBV11 := Lib.hid (HBV10.out.trans (HCV11.out.mono HBV10.out.size))
    generalize hg11 : grownCap w10 (pt).size 0 5 = gc11 at *
    generalize Lib.bytesWorld w10 5 pt = w11 at *
    refine (PadFill_any (N := maxLen) _ pt.data.toList _ (HCM11.out.slice (by rw [toL_len]; unfold maxLen; omega)) (by rw [toL_len]; omega)).mono ?_
    rintro e w12 ⟨v12, rfl, ho, hb⟩
    have hpfp := padFill_le pt.data.toList
    rw [toL_len] at hpfp
    have HO12 := Lib.hid ((OwnBs.marked ho).slice (N := maxLen) (by unfold maxLen; omega))
    have HB12 := Lib.hid (HBV11.out.trans (hb.mono HBV11.out.size))
    have HOC12 := Lib.hid ((HCM10.out.below HCV11.out).below hb)
    clear ho hb
    have HBE : Hid (hp.data.toList.length + (padFill pt.data.toList).length ≤ 140737488355328) := Lib.hid (by rw [toL_len]; omega)
    have HBG : Hid ((hp.data.toList ++ padFill pt.data.toList).length + (ht.data.toList ++ pf).length ≤ 140737488355328) := Lib.hid (by rw [List.length_append, List.length_append, toL_len, toL_len]; omega)
    have HLG : Hid ((ht.data.toList ++ pf).length ≤ maxLen) := Lib.hid (by rw [List.length_append, toL_len]; unfold maxLen; omega)
    go_wp2_with (first
      | (at_builtin; refine wpList_appM rfl (.tmp 56) (.tmp 59) 24 24 rfl _ _ rfl rfl (fun ty => app_m _ 24 24 5 ty i0 Tryz.underlying24 HI.out.1 HI.out.2.1 HI.out.2.2.1 HI.out.2.2.2 HOC12.out (src_bytes (N := maxLen) Tryz.underlying24 HO12.out) HBE.out HB12.out.size) ?_; intro v13 w13 ho hg; have HO13 := Lib.hid ho; have HB13 := Lib.hid (OwnM.grown HB12.out hg HOC12.out HB12.out.size (Nat.le_refl _)); have HS13 := Lib.hid ((HO9.out.below HB13.out).slice HLG.out); clear ho hg)
      | (at_builtin; refine wpList_appM rfl (.tmp 60) (.tmp 61) 24 24 rfl _ _ rfl rfl (fun ty => app_m _ 24 24 5 ty i0 Tryz.underlying24 HI.out.1 HI.out.2.1 HI.out.2.2.1 HI.out.2.2.2 HO13.out (src_bytes (N := maxLen) Tryz.underlying24 HS13.out) HBG.out HB13.out.size) ?_; intro v14 w14 ho hg; have HO14 := Lib.hid ho; have HB14 := Lib.hid (OwnM.grown HB13.out hg HO13.out HB13.out.size (Nat.le_refl _)); clear ho hg))
    go_ret2
    have HZ := Lib.hid (HB70.out.trans (HB9.out.mono HB70.out.size))
    exact ⟨_, rfl, by rw [HF2.out, HPY.out]; exact HO14.out.mono HZ.out.size, HZ.out.trans (HB14.out.mono HZ.out.size)⟩
set_option maxRecDepth 100000 in
set_option maxHeartbeats 1000000 in
theorem MemB_any (x : Ent) (w : World) (hx : x.Ok maxLen w) (hT : Pow10 w) :
    Calls Tryz.prog 12 #[x.val] w (RetM 5 w (memBytes x)) := by
  by_cases hE : entFault x = 0
  · rw [memBytes_ok hE]
    exact MemB_ok x w hx hE hT
  · rw [memBytes_bad hE]
    have HBX := Lib.hid ((Below.refl w.heap.size w).alloc (Nat.le_refl _) (.cells #[.string x.path, .int .i64 x.kind, .string x.target, .int .i64 x.mt.mode, .int .i64 x.mt.uid, .int .i64 x.mt.gid, .string x.mt.user, .string x.mt.group, .int .i64 x.mt.second, .int .i64 x.mt.nano, .slice x.da x.data.length x.dcap] 26))
    have HPR := Lib.hid (MemHead_any x _ (hx.below HBX.out) (hT.below HBX.out))
    rw [mHeadOf_bad hE] at HPR
    generalize entFault x = q at *
    generalize headZ = hz at *
    have hq : (q != 0) = true := by rw [bne_iff_ne]; exact hE
    clear hx hE hT
    go_enter Tryz.func12, Tryz.ntmps12
    go_wp2_with fail
    refine HPR.out.mono ?_
    rintro e w1 ⟨rfl, hb⟩
    have HB1 := Lib.hid (HBX.out.trans (hb.mono HBX.out.size))
    clear hb
    go_upto_region 2 with fail
    have HB2 := Lib.hid (HB1.out.alloc HB1.out.size (.cells #[.string hz.nm, .string hz.px, .string hz.lk, .int .i64 hz.mode, .int .i64 hz.uid, .int .i64 hz.gid, .int .i64 hz.size, .int .i64 hz.time, .int .u8 hz.typ.toNat, .string hz.user, .string hz.group] 62))
    go_wp2
    go_ret2
    exact ⟨_, rfl, OwnM.nil _ _ _, HB2.out⟩
end Go.Proofs.YtaffgndickdbiaaGreatDoor
