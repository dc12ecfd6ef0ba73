/-
  member.packed: its methods say, number and text.
-/
import Derived.Test.YtaffgndickdbiaaGreatDoorRecSt
import Derived.Test.YtaffgndickdbiaaGreatDoorMemSpec
import Derived.Test.YtaffgndickdbiaaGreatDoorOctalMost
namespace Go.Creel
/-- the cells of a packed member -/
abbrev pcells (h : HeadN) (v : Value) : Array Value := #[.string h.nm, .string h.px, .string h.lk, .int .i64 h.mode, .int .i64 h.uid, .int .i64 h.gid, .int .i64 h.size, .int .i64 h.time, .int .u8 h.typ.toNat, .string h.user, .string h.group, v]
end Go.Creel
namespace Go.Proofs.YtaffgndickdbiaaGreatDoor
set_option linter.unusedVariables false
set_option linter.unusedSimpArgs false
open Go.Creel Go.RowKit
abbrev tRecE : TypeId := 85
abbrev tPk : TypeId := 65
set_option maxRecDepth 100000 in
set_option maxHeartbeats 2000000 in
theorem Say_any (b : Nat) (key value : ByteArray) (w0 w : World) (h : HeadN) (v : Value) (l : List Rec) (s : RecSt tRecE tPk w0 w b (pcells h v) v l) (hl : l.length ≤ 100) :
    Calls Tryz.prog 89 #[.pointer (some ⟨b, 0, none⟩), .string key, .string value] w fun e w' => e = .returned (.tuple #[]) ∧ ∃ v', RecSt tRecE tPk w0 w' b (pcells h v') v' (l ++ [⟨key, value⟩]) := by
  obtain ⟨i0, hi, hz0, hz1, hz2⟩ := info_parts info_record
  have HI := Lib.hid (And.intro hi (And.intro hz0 (And.intro hz1 hz2)))
  have H := Lib.hid s
  have HBA := Lib.hid ((Below.refl w.heap.size w).alloc (Nat.le_refl _) (.cells #[.string key, .string value] 85))
  have H3 := Lib.hid (H.out.below HBA.out)
  have c11 : w.cell? ⟨b, 11, none⟩ = some v := H.out.cell 11
  have hlt := s.lt
  clear hi hz0 hz1 hz2 s
  go_enter Tryz.func89, Tryz.ntmps89
  go_wp2_with (at_builtin; refine wpList_app _ rfl (.tmp 10) (.tmp 14) 63 63 rfl _ _ rfl rfl (fun ty => app_src _ 63 63 ty (b + 1) 85 i0 _ 2 32 Tryz.underlying63 HI.out.1 HI.out.2.1 HI.out.2.2.1 HI.out.2.2.2 rfl (by decide) _ _ l.length 1 _ _ H3.out.own (src_rec w _ _ _ Tryz.underlying63 ⟨key, value⟩) (by unfold maxLen; omega) (by omega) H3.out.lt) ?_; intro v4 w4 ho2 hg2 hv2; have HZ := Lib.hid (And.intro ho2 (And.intro hg2 hv2.2)); have e1 : w4.cell? ⟨b, 11, none⟩ = some v := H3.out.cell4 hg2 11; have e2 := H3.out.free4 hg2 11; obtain ⟨g4, cp4, rfl⟩ := ownsRow_form2 ho2; clear ho2 hg2 hv2)
  go_end0
  exact ⟨rfl, _, H3.out.say (r := ⟨key, value⟩) 11 HZ.out.1 HZ.out.2.1 rfl⟩
set_option maxRecDepth 100000 in
set_option maxHeartbeats 1000000 in
theorem Number_any (b : Nat) (key : ByteArray) (n : Int) (w0 w : World) (h : HeadN) (v : Value) (l : List Rec) (s : RecSt tRecE tPk w0 w b (pcells h v) v l) (hl : l.length ≤ 99) (hn : 0 ≤ n ∧ n ≤ 1125899906842624) (hT : Pow10 w) :
    Calls Tryz.prog 85 #[.pointer (some ⟨b, 0, none⟩), .string key, .int .i64 n, .int .i64 8] w fun e w' => e = .returned (.int .i64 (hidNum n 2097151)) ∧ ∃ v', RecSt tRecE tPk w0 w' b (pcells h v') v' (l ++ recNum key n 2097151) := by
  have H := Lib.hid s
  have HT := Lib.hid hT
  have HMO := Lib.hid (Most_any 8 w)
  rw [show octMost 8 = (2097151, 0) by rfl] at HMO
  simp only at HMO
  have h0 : ¬ n < 0 := by omega
  clear s hT
  by_cases hb : 2097151 < n
  · have HF := Lib.hid (recNum_yes (k := key) hb)
    go_enter Tryz.func85, Tryz.ntmps85
    go_wp2_with fail
    refine HMO.out.mono ?_
    rintro e w' ⟨rfl, rfl⟩
    go_wp2_with fail
    refine (Itoa_any n _ (by unfold i64; omega) HT.out).mono ?_
    rintro e w2 ⟨rfl, hb2⟩
    have H2 := Lib.hid (H.out.below hb2)
    clear hb2
    go_wp2_with fail
    refine (Say_any b key _ w0 _ h v l H2.out (by omega)).mono ?_
    rintro e w3 ⟨rfl, v3, s3⟩
    have H3 := Lib.hid s3
    clear s3
    go_wp2
    go_ret
    rw [HF.out.1, HF.out.2]
    exact ⟨rfl, _, H3.out⟩
  · have HF := Lib.hid (recNum_no (k := key) hb)
    go_enter Tryz.func85, Tryz.ntmps85
    go_wp2_with fail
    refine HMO.out.mono ?_
    rintro e w' ⟨rfl, rfl⟩
    go_wp2
    go_ret
    rw [HF.out.1, HF.out.2, List.append_nil]
    exact ⟨rfl, _, H.out⟩
set_option maxRecDepth 100000 in
set_option maxHeartbeats 1000000 in
theorem Text_any (b : Nat) (key t i : ByteArray) (m : Nat) (M : Int) (w0 w : World) (h : HeadN) (v : Value) (l : List Rec) (s : RecSt tRecE tPk w0 w b (pcells h v) v l) (hl : l.length ≤ 99) (hM : M = m) (hm : m ≤ 1000) (ht : t.size ≤ 1000) :
    Calls Tryz.prog 86 #[.pointer (some ⟨b, 0, none⟩), .string key, .string t, .int .i64 M, .string i] w fun e w' => e = .returned (.string (hidText t m i)) ∧ ∃ v', RecSt tRecE tPk w0 w' b (pcells h v') v' (l ++ recText1 key t m) := by
  have H := Lib.hid s
  clear s
  by_cases hb : m < t.size
  · have HF := Lib.hid (recText1_yes (k := key) (i := i) hb)
    have hd : M < (t.size : Int) := by omega
    clear hb
    go_enter Tryz.func86, Tryz.ntmps86
    go_wp2_with fail
    refine (Say_any b key _ w0 _ h v l H.out (by omega)).mono ?_
    rintro e w3 ⟨rfl, v3, s3⟩
    have H3 := Lib.hid s3
    clear s3
    go_wp2
    go_ret
    rw [HF.out.1, HF.out.2]
    exact ⟨rfl, _, H3.out⟩
  · have HF := Lib.hid (recText1_no (k := key) (i := i) hb)
    have hd : ¬ M < (t.size : Int) := by omega
    clear hb
    go_enter Tryz.func86, Tryz.ntmps86
    go_wp2
    go_ret
    rw [HF.out.1, HF.out.2, List.append_nil]
    exact ⟨rfl, _, H.out⟩
end Go.Proofs.YtaffgndickdbiaaGreatDoor
