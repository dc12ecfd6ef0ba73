/-
  Texts: RecT, Bui, PaxW, PadFill, MemBSpec.
-/
import Derived.Test.YtaffgndickdbiaaGreatDoorU10
import Derived.Lib.Builder
import Derived.Lib.AppendStr
import Derived.Lib.UnsafeStr
import Derived.Lib.ItoaLen
set_option linter.unusedVariables false
set_option linter.unusedSimpArgs false
set_option linter.unusedSectionVars false
namespace Go.Proofs.YtaffgndickdbiaaGreatDoor
open Go.Creel Go.RowKit
theorem recSum (I : ByteArray) (r : Rec) : ((((I ++ ByteArray.mk #[32]) ++ r.key) ++ ⟨#[61]⟩) ++ r.value) ++ ⟨#[10]⟩ = I ++ recTail r := by
  unfold recTail
  simp only [ByteArray.append_assoc]
set_option maxRecDepth 100000 in
set_option maxHeartbeats 2000000 in
theorem RecT_any (r : Rec) (w : World) (hk : r.key.size ≤ maxLen) (hv : r.value.size ≤ maxLen) (hT : Pow10 w) :
    Calls Tryz.prog 112 #[.agg r.cells] w fun e w' => e = .returned (.tuple #[.string (recWrite r).1, .int .i64 (recWrite r).2]) ∧ Below w.heap.size w w' := by
  have HC := Lib.hid (fun W => RecR_any r W hk hv)
  have HT := Lib.hid hT
  clear hT
  have hs := recFault_small (r := r)
  by_cases h0 : recFault r = 0
  · obtain ⟨_, hk1, hv1, _, _⟩ := recFault_ok h0
    have HF := Lib.hid (recWrite_ok h0)
    have hts := recTail_size r
    have HSM := Lib.hid (fun I => recSum I r)
    rw [h0] at HC
    clear h0 hs hk hv
    obtain ⟨key, value⟩ := r
    have HTX := Lib.hid (show recText ⟨key, value⟩ = ofL (Lib.decDigits (recN (recTail ⟨key, value⟩).size)) ++ recTail ⟨key, value⟩ from rfl)
    show Calls Tryz.prog 112 #[.agg #[.string key, .string value]] w _
    simp only [Rec.cells] at HC hts hk1 hv1 HSM
    go_enter Tryz.func112, Tryz.ntmps112
    go_wp2_with fail
    refine (HC.out _).mono ?_
    rintro e w1 ⟨rfl, hb⟩
    have HA0 := Lib.hid ((Below.refl w.heap.size w).alloc (Nat.le_refl _) (Obj.cells #[.string key, .string value] 85))
    obtain ⟨c0, c1⟩ : (w.alloc (Obj.cells #[.string key, .string value] 85)).cell? ⟨w.heap.size, 0, none⟩ = some (.string key) ∧ (w.alloc (Obj.cells #[.string key, .string value] 85)).cell? ⟨w.heap.size, 1, none⟩ = some (.string value) := by constructor <;> simp
    have hsz0 : w.heap.size < (w.alloc (Obj.cells #[.string key, .string value] 85)).heap.size := by simp
    generalize w.alloc (Obj.cells #[.string key, .string value] 85) = W0 at *
    have HZ0 := Lib.hid (And.intro hsz0 (And.intro c0 c1))
    have HB := Lib.hid hb
    clear hb c0 c1 hsz0
    go_wp2
    generalize recTail ⟨key, value⟩ = t at *
    have HFI := Lib.hid (recN_fits (L := t.size) (by omega))
    have HFS := Lib.hid (fun n => recN_first (L := t.size) (n := n) (by omega))
    have HBD := Lib.hid (recN_bd t.size)
    go_loopw [5, 6] (fun v _ wr => ∃ n : Nat, v = .int .i64 n ∧ n ≤ recN t.size ∧ Hid (Below W0.heap.size W0 wr)) (fun v _ _ => 1000 - (intOf v).toNat)
    case atStart => exact ⟨1, rfl, by have := HBD.out; omega, HB⟩
    case round =>
      obtain ⟨n, rfl, hn2, HBR⟩ := hrel
      have hbd := HBD.out
      have hts2 : t.size = key.size + value.size + 3 := hts
      have HI := Lib.hid (fun W (hB : Below W0.heap.size W0 W) => show Calls Tryz.prog 104 #[.int .i64 n] W (fun e w' => e = .returned (.string (ofL (Lib.decDigits n))) ∧ w'.cell? ⟨w.heap.size, 0, none⟩ = some (.string key) ∧ w'.cell? ⟨w.heap.size, 1, none⟩ = some (.string value) ∧ Below W0.heap.size W0 w') from
        (ItoaN_any n W (by omega) (HT.out.below (HA0.out.trans (hB.mono HA0.out.size)))).mono (by
          rintro e w' ⟨rfl, hb⟩
          have hb' := hB.trans (hb.mono hB.size)
          have hc := (bcell hb').1
          exact ⟨rfl, by rw [hc _ _ HZ0.out.1]; exact HZ0.out.2.1, by rw [hc _ _ HZ0.out.1]; exact HZ0.out.2.2, hb'⟩))
      have hsz := ofL_size (Lib.decDigits n)
      have hdl : (Lib.decDigits n).length ≤ 3 := by have := dlen_cases (n := n) (by omega); omega
      have hsm := HSM.out (ofL (Lib.decDigits n))
      have hcr := (bcell HBR.out).1
      have c0 : wr.cell? ⟨w.heap.size, 0, none⟩ = some (.string key) := by rw [hcr _ _ HZ0.out.1]; exact HZ0.out.2.1
      have c1 : wr.cell? ⟨w.heap.size, 1, none⟩ = some (.string value) := by rw [hcr _ _ HZ0.out.1]; exact HZ0.out.2.2
      have hdr := HBR.out.drew
      clear hcr hbd
      go_upto_region 6 with fail
      go_cut [6] from 12 to 29 (fun x wx => x = .string (ofL (Lib.decDigits n) ++ t) ∧ Hid (Below W0.heap.size W0 wx))
      case first =>
        generalize ofL (Lib.decDigits n) = x at *
        generalize (Lib.decDigits n).length = d at *
        have q1 : ¬ 9223372036854775807 < d + 1 := by omega
        have q2 : ¬ 9223372036854775807 < d + 1 + key.size := by omega
        have q3 : ¬ 9223372036854775807 < d + 1 + key.size + 1 := by omega
        have q4 : ¬ 9223372036854775807 < d + 1 + key.size + 1 + value.size := by omega
        have q5 : ¬ 9223372036854775807 < d + 1 + key.size + 1 + value.size + 1 := by omega
        go_region_held3 (fun w' => w'.cell? ⟨w.heap.size, 0, none⟩ = some (.string key) ∧ w'.cell? ⟨w.heap.size, 1, none⟩ = some (.string value) ∧ Below W0.heap.size W0 w') (go_keep)
          (first | (go_at_call 104; refine (HI.out _ ?_).mono ?_; (simp [*]); rintro e w3 ⟨rfl, hc0, hc1, hb3⟩))
        go_wp2_with fail
        go_meet
        exact ⟨rfl, Lib.hid hb3⟩
      case rest =>
        obtain ⟨rfl, HBC⟩ := hcut
        have hxs : (ofL (Lib.decDigits n) ++ t).size = (Lib.decDigits n).length + (key.size + value.size + 3) := by rw [ByteArray.size_append, hsz, hts]
        clear c0 c1 hdr HI
        by_cases hd : n = t.size + (Lib.decDigits n).length
        · have hn : n = recN t.size := by
            rcases Nat.lt_or_ge n (recN t.size) with h | h
            · exact absurd hd (HFS.out n h)
            · omega
          have HR := Lib.hid (show recWrite ⟨key, value⟩ = (ofL (Lib.decDigits n) ++ t, 0) by rw [HF.out, HTX.out, hn])
          generalize ofL (Lib.decDigits n) ++ t = x at *
          generalize (Lib.decDigits n).length = d at *
          clear hn HFI HFS HTX HF hsm HSM hsz
          have hxn : x.size = n := by omega
          go_wp2
          go_ret2
          exact ⟨ret_si HR.out, HA0.out.trans (HBC.out.mono HA0.out.size)⟩
        · have hn : n < recN t.size := by
            have hne : n ≠ recN t.size := by intro e; exact hd (by rw [e]; exact HFI.out)
            omega
          generalize ofL (Lib.decDigits n) ++ t = x at *
          generalize (Lib.decDigits n).length = d at *
          have hd2 : ¬ x.size = n := by omega
          clear HFI HFS HTX HF hsm HSM hsz
          have hbd := HBD.out
          go_wp2
          go_roundw
          · exact ⟨n + 1, by simp, by omega, HBC⟩
          · simp only [intOf]; omega
  · have HF := Lib.hid (recWrite_bad h0)
    clear hk hv
    generalize recFault r = f at *
    obtain ⟨key, value⟩ := r
    show Calls Tryz.prog 112 #[.agg #[.string key, .string value]] w _
    simp only [Rec.cells] at HC
    go_enter Tryz.func112, Tryz.ntmps112
    go_wp2_with fail
    refine (HC.out _).mono ?_
    rintro e w1 ⟨rfl, hb⟩
    have HB := Lib.hid (((Below.refl _ _).alloc (Nat.le_refl _) _).trans (hb.mono (by simp)))
    clear hb
    go_wp2
    go_ret2
    exact ⟨ret_si HF.out, HB.out⟩
end Go.Proofs.YtaffgndickdbiaaGreatDoor
namespace Go.Creel
open Go.RowKit
def BuiIs (T e : TypeId) (B b : Nat) (q : Value) (bs : List UInt8) (w : World) : Prop :=
  B ≤ b ∧ ∃ v, w.heap[b]? = some (.cells #[q, v] T (0, 0)) ∧ OwnBs e w B v bs ∧ v.ownBlock ≠ some b
variable {T e : TypeId} {B b : Nat} {q : Value} {bs : List UInt8} {w : World}
theorem BuiIs.lt (h : BuiIs T e B b q bs w) : b < w.heap.size := by
  obtain ⟨_, v, hb, _⟩ := h
  exact (Array.getElem?_eq_some_iff.1 hb).1
theorem ownBs_below2 {w w' : World} {v : Value} (h : OwnBs e w B v bs) (hb : Below w.heap.size w w') : OwnBs e w' B v bs := by
  refine ⟨h.1, ?_⟩
  rcases h.2 with h0 | ⟨g, cap, cur, hv, hbg, hg, r⟩
  · exact .inl h0
  · refine .inr ⟨g, cap, cur, hv, hbg, ?_, r⟩
    rw [hb.block g (Array.getElem?_eq_some_iff.1 hg).1]
    exact hg
theorem BuiIs.below {w' : World} (h : BuiIs T e B b q bs w) (hw : Below w.heap.size w w') : BuiIs T e B b q bs w' := by
  have hlt := h.lt
  obtain ⟨hB, v, hb, ho, hne⟩ := h
  exact ⟨hB, v, (hw.block b hlt).trans hb, ownBs_below2 ho hw, hne⟩
theorem BuiIs.used (h : BuiIs T e B b q bs w) (q' : Value) : BuiIs T e B b q' bs (w.setCell ⟨b, 0, none⟩ q') := by
  obtain ⟨hB, v, hb, ho, hne⟩ := h
  refine ⟨hB, v, ?_, ?_, hne⟩
  · simp [World.setCell, Array.getElem?_modify, hb]
  · refine World.ownsRow.kept (row := some b) ho ⟨rfl, rfl, rfl, by simp [World.setCell], fun k _ hk => Below.heap_setCell _ _ _ _ (fun e => hk (by simp [e]))⟩ (Or.inr hne)
theorem BuiIs.buf {v v' : Value} {bs' : List UInt8} (hB : B ≤ b) (hb : w.heap[b]? = some (.cells #[q, v] T (0, 0))) (ho : OwnBs e w B v' bs') (hTe : T ≠ e) : BuiIs T e B b q bs' (w.setCell ⟨b, 1, none⟩ v') := by
  have hne := Lib.ownBlock_ne ho hb hTe
  refine ⟨hB, v', ?_, ?_, hne⟩
  · simp [World.setCell, Array.getElem?_modify, hb]
  · refine World.ownsRow.kept (row := some b) ho ⟨rfl, rfl, rfl, by simp [World.setCell], fun k _ hk => Below.heap_setCell _ _ _ _ (fun e => hk (by simp [e]))⟩ (Or.inr hne)
theorem BuiIs.new (T e : TypeId) (w : World) : BuiIs T e w.heap.size w.heap.size (.pointer none) [] (w.alloc (.cells #[.pointer none, .slice none 0 0] T)) :=
  ⟨Nat.le_refl _, .slice none 0 0, heap_alloc_new w _, World.ownsRow_nil _ _ _ _, by simp [Value.ownBlock]⟩
theorem strCells_bytes2 (s : ByteArray) : Lib.strCells s = s.data.toList.map byteV := rfl
end Go.Creel
namespace Go.Proofs.YtaffgndickdbiaaGreatDoor
open Go.Creel Go.RowKit
theorem info_bui : (Tryz.prog.info? 124).map (·.size) = some 2 := by kernel_rfl
theorem lies_bui : liesAt Tryz.prog Tryz.prog.depth 124 (2 / Tryz.prog.cellsOf 124) 0 124 1 = true := by kernel_rfl
theorem info_bby : (Tryz.prog.info? 5).map (fun i => (i.zero, i.size, i.bytes)) = some (some (.int .u8 0), 1, 1) := by kernel_rfl
set_option maxHeartbeats 1000000 in
set_option maxRecDepth 100000 in
theorem BuiUsed (b : Nat) (w : World) (h0 : w.cell? ⟨b, 0, none⟩ = some (.pointer (some ⟨b, 0, none⟩))) :
    Calls Tryz.prog 150 #[.pointer (some ⟨b, 0, none⟩)] w fun e w' => e = .returned (.tuple #[]) ∧ w' = w := by
  obtain ⟨j, hj, _⟩ := Option.map_eq_some_iff.1 info_bui
  go_enter Tryz.func150, Tryz.ntmps150
  go_wp2
  rw [Lib.run_neq_ptr_same w _ Tryz.underlying122 hj]
  go_wp2
  go_end0
  exact ⟨rfl, rfl⟩
set_option maxHeartbeats 1000000 in
set_option maxRecDepth 100000 in
theorem BuiFresh (b : Nat) (w : World) (h0 : w.cell? ⟨b, 0, none⟩ = some (.pointer none)) (hsh : w.shape? b = some (124, 2)) (hfz : w.frozen? ⟨b, 0, none⟩ = false) :
    Calls Tryz.prog 150 #[.pointer (some ⟨b, 0, none⟩)] w fun e w' => e = .returned (.tuple #[]) ∧ w' = w.setCell ⟨b, 0, none⟩ (.pointer (some ⟨b, 0, none⟩)) := by
  obtain ⟨j, hj, hjs⟩ := Option.map_eq_some_iff.1 info_bui
  go_enter Tryz.func150, Tryz.ntmps150
  go_wp2
  rw [Lib.run_to_unsafe w ⟨b, 0, none⟩ Tryz.underlying122 Tryz.underlying215 hj (by rw [hjs]; decide) hsh (Nat.zero_lt_succ 1)]
  simp only [Result.andThen]
  rw [Oper.upon_value]
  go_wp2
  rw [run_callFunc_extern Tryz.func201 (by kernel_rfl) (by kernel_rfl) (by kernel_rfl) (e := Extern.AbiNoEscape.same) (by kernel_rfl)]
  rw [Lib.run_noEscape]
  simp only [Result.andThen]
  rw [Oper.upon_value]
  go_wp2
  rw [Lib.run_from_unsafe w ⟨b, 0, none⟩ Tryz.underlying215 Tryz.underlying122 hj hsh lies_bui]
  simp only [Result.andThen]
  rw [Oper.upon_value]
  go_wp2
  go_end0
  exact ⟨rfl, rfl⟩
abbrev BuiAt (B b : Nat) (q : Value) (bs : List UInt8) (w : World) : Prop := BuiIs 124 5 B b q bs w
def BuiBe (B b : Nat) (bs : List UInt8) (w : World) : Prop := BuiAt B b (.pointer none) bs w ∨ BuiAt B b (.pointer (some ⟨b, 0, none⟩)) bs w
theorem BuiCopy_any (B b : Nat) (bs : List UInt8) (w : World) (h : BuiBe B b bs w) :
    Calls Tryz.prog 150 #[.pointer (some ⟨b, 0, none⟩)] w fun e w' => e = .returned (.tuple #[]) ∧ BuiAt B b (.pointer (some ⟨b, 0, none⟩)) bs w' ∧ Below B w w' := by
  rcases h with h | h
  · have h' := h
    obtain ⟨hB, v, hb, ho, hne⟩ := h'
    refine (BuiFresh b w (by rw [Lib.cell_of_heap hb]; rfl) (by simp [World.shape?, hb]) (Lib.frozen_of_heap hb 0)).mono ?_
    rintro e w' ⟨rfl, rfl⟩
    exact ⟨rfl, h.used _, (Below.refl B w).setCell (p := ⟨b, 0, none⟩) hB _⟩
  · have h' := h
    obtain ⟨hB, v, hb, ho, hne⟩ := h'
    refine (BuiUsed b w (by rw [Lib.cell_of_heap hb]; rfl)).mono ?_
    rintro e w' ⟨rfl, rfl⟩
    exact ⟨rfl, h, Below.refl B _⟩
set_option maxHeartbeats 2000000 in
set_option maxRecDepth 100000 in
theorem BuiWrite_any (B b : Nat) (bs : List UInt8) (s : ByteArray) (w : World) (h : BuiBe B b bs w) (hlen : bs.length + s.size ≤ 140737488355328) (hBw : B ≤ w.heap.size) :
    Calls Tryz.prog 93 #[.pointer (some ⟨b, 0, none⟩), .string s] w fun e w' => e = .returned (.tuple #[.int .i64 s.size, .nilIface]) ∧ BuiAt B b (.pointer (some ⟨b, 0, none⟩)) (bs ++ s.data.toList) w' ∧ Below B w w' := by
  obtain ⟨i0, hi, hz0, hz1, hz2⟩ := info_parts info_bby
  go_enter Tryz.func93, Tryz.ntmps93
  go_wp2_with fail
  refine (BuiCopy_any B b bs _ h).mono ?_
  rintro e w1 ⟨rfl, h1, hb1⟩
  obtain ⟨hB, v, hbk, hown, hne⟩ := h1
  have c0 : w1.cell? ⟨b, 0, none⟩ = some (.pointer (some ⟨b, 0, none⟩)) := by rw [Lib.cell_of_heap hbk]; rfl
  have c1 : w1.cell? ⟨b, 1, none⟩ = some v := by rw [Lib.cell_of_heap hbk]; rfl
  go_wp2_with (at_builtin; refine Lib.wpList_append_own_string _ rfl _ _ 24 9 rfl B 5 i0 Tryz.underlying24 Tryz.underlying9 hi hz0 hz1 hz2 _ _ _ rfl hown s rfl ?c3 ?c4 ?c5 ?_)
  case c3 => unfold maxLen; omega
  case c4 => exact hlen
  case c5 => have := hb1.size; omega
  intro v' w2 hown' hgrow _
  have hlt : b < w1.heap.size := (Array.getElem?_eq_some_iff.1 hbk).1
  have hb2 : w2.heap[b]? = some (.cells #[.pointer (some ⟨b, 0, none⟩), v] 124 (0, 0)) := by
    rw [hgrow.block b hlt (fun e => hne e.symm)]
    exact hbk
  have d0 : w2.cell? ⟨b, 0, none⟩ = some (.pointer (some ⟨b, 0, none⟩)) := by rw [Lib.cell_of_heap hb2]; rfl
  have d1 : w2.cell? ⟨b, 1, none⟩ = some v := by rw [Lib.cell_of_heap hb2]; rfl
  have f1 : w2.frozen? ⟨b, 1, none⟩ = false := Lib.frozen_of_heap hb2 1
  have ho2 : OwnBs 5 w2 B v' (bs ++ s.data.toList) := by
    have := hown'
    rw [strCells_bytes2] at this
    unfold OwnBs
    rw [List.length_append, List.map_append]
    simpa using this
  obtain ⟨ao, n', cap, rfl⟩ : ∃ ao n' cap, v' = .slice ao n' cap := by
    rcases hown'.2 with ⟨hv, _⟩ | ⟨g, cap, cur, hv, _⟩
    · exact ⟨_, _, _, hv⟩
    · exact ⟨_, _, _, hv⟩
  go_wp2
  go_ret2
  refine ⟨rfl, ?_, ?_⟩
  · exact BuiIs.buf hB hb2 ho2 (by decide)
  · exact (hb1.grown hgrow (by have := hb1.size; omega) (fun k hk => (World.ownsRow.lt hown k hk).1)).setCell (p := ⟨b, 1, none⟩) hB _
def BuiB (B b : Nat) (p : ByteArray) (w : World) : Prop := BuiBe B b p.data.toList w
theorem BuiB.below {B b : Nat} {p : ByteArray} {w w' : World} (h : BuiB B b p w) (hb : Below w.heap.size w w') : BuiB B b p w' := h.elim (fun h => .inl (h.below hb)) (fun h => .inr (h.below hb))
theorem BuiB.lt {B b : Nat} {p : ByteArray} {w : World} (h : BuiB B b p w) : b < w.heap.size := h.elim (fun h => h.lt) (fun h => h.lt)
theorem BuiB.new (w : World) : BuiB w.heap.size w.heap.size ByteArray.empty (w.alloc (.cells #[.pointer none, .slice none 0 0] 124)) := .inl (BuiIs.new _ _ w)
end Go.Proofs.YtaffgndickdbiaaGreatDoor
namespace Go.Creel
theorem paxBytes_part {l : List Rec} (h : paxFault l = 0) (k : Nat) : (paxBytes (l.take k)).length ≤ 6792 ∧ (ofL (paxBytes (l.drop k))).size ≤ 6792 := by
  have ha := pax_all h
  have hl := (paxFault_all h).1
  have h1 := paxBytes_le (l := l.take k) (fun r hr => ha r (List.mem_of_mem_take hr))
  have h2 := paxBytes_le (l := l.drop k) (fun r hr => ha r (List.mem_of_mem_drop hr))
  rw [List.length_take] at h1
  rw [List.length_drop] at h2
  rw [ofL_size]
  omega
end Go.Creel
namespace Go.Proofs.YtaffgndickdbiaaGreatDoor
open Go.Creel Go.RowKit
theorem bui_shelf {B b : Nat} {bs : List UInt8} {w : World} (h : BuiBe B b bs w) : Lib.IsBuilder 124 5 B b (Lib.byteCells bs) w := by
  have key : ∀ q, BuiAt B b q bs w → Lib.BuilderAt 124 5 B b q (Lib.byteCells bs) w := by
    rintro q ⟨hB, v, hb, ho, hne⟩
    refine ⟨hB, v, hb, ?_, hne⟩
    rw [show (Lib.byteCells bs).length = bs.length by simp [Lib.byteCells]]
    exact ho
  exact h.elim (fun h => .inl (key _ h)) (fun h => .inr (key _ h))
theorem BuiStr_any (B b : Nat) (bs : List UInt8) (w : World) (h : BuiBe B b bs w) (hBw : B ≤ w.heap.size) :
    Calls Tryz.prog 94 #[.pointer (some ⟨b, 0, none⟩)] w fun e w' => e = .returned (.string (ofL bs)) ∧ Below B w w' :=
  Tryz.Builder_String_any B b bs w (bui_shelf h) hBw
theorem BuiBe.below {B b : Nat} {bs : List UInt8} {w w' : World} (h : BuiBe B b bs w) (hb : Below w.heap.size w w') : BuiBe B b bs w' := h.elim (fun h => .inl (h.below hb)) (fun h => .inr (h.below hb))
set_option maxRecDepth 100000 in
set_option maxHeartbeats 2000000 in
theorem PaxW_any (v : Value) (l : List Rec) (w : World) (h : SliceC maxLen 2 (RecC maxLen) w [v] l) (hT : Pow10 w) :
    Calls Tryz.prog 38 #[v] w fun e w' => e = .returned (.tuple #[.string (paxWrite l).1, .int .i64 (paxWrite l).2]) ∧ Below w.heap.size w w' := by
  have HC := Lib.hid (PaxL_any v l w h)
  by_cases h0 : paxFault l = 0
  · have HF := Lib.hid (paxWrite_ok h0)
    have HT := Lib.hid hT
    rw [h0] at HC
    have HPT := Lib.hid (paxBytes_part h0)
    have HALL := Lib.hid (fun k (hk : k < l.length) => stepP_zero ((paxFault_all h0).2 k hk))
    have h12 := (paxFault_all h0).1
    clear h0 hT
    rcases recs_cases h with ⟨a, cap, rfl, rfl⟩ | ⟨b, off, cap, rfl, hpos, hle, hm, _, hc⟩
    · go_enter Tryz.func38, Tryz.ntmps38
      go_wp2_with fail
      refine HC.out.mono ?_
      rintro e w1 ⟨rfl, hb⟩
      have HB := Lib.hid hb
      clear hb
      have HN := Lib.hid (show BuiBe w1.heap.size w1.heap.size [] (w1.alloc (.cells #[.pointer none, .slice none 0 0] 124)) from .inl (BuiIs.new _ _ w1))
      have HS := Lib.hid (BuiStr_any w1.heap.size w1.heap.size [] _ HN.out (by simp))
      go_wp2
      go_loop [7, 8, 9, 17] (fun _ _ _ i => i = .int .i64 0) (fun _ _ _ _ => 0)
      case atStart => rfl
      case round =>
        obtain rfl := hrel
        go_wp2_with fail
        refine HS.out.mono ?_
        rintro e w3 ⟨rfl, hb⟩
        have HB3 := Lib.hid (HB.out.trans (((Below.refl _ _).alloc (Nat.le_refl _) _).trans hb |>.mono HB.out.size))
        clear hb
        go_wp2
        go_ret2
        exact ⟨ret_si HF.out, HB3.out⟩
    · unfold maxLen at hm
      have hbl : b < w.heap.size := World.block_lt_of_cell? w _ (hc 0 hpos).1.1
      have Hc := Lib.hid hc
      clear hc h
      go_enter Tryz.func38, Tryz.ntmps38
      go_wp2_with fail
      refine HC.out.mono ?_
      rintro e w1 ⟨rfl, hb⟩
      have HB := Lib.hid hb
      clear hb
      have HN := Lib.hid (show BuiBe w1.heap.size w1.heap.size [] (w1.alloc (.cells #[.pointer none, .slice none 0 0] 124)) from .inl (BuiIs.new _ _ w1))
      have HB0 := Lib.hid ((Below.refl w1.heap.size w1).alloc (Nat.le_refl _) (.cells #[.pointer none, .slice none 0 0] 124))
      go_wp2
      go_loopw [7, 8, 9, 17] (fun _ _ _ i wr => ∃ k : Nat, k ≤ l.length ∧ i = .int .i64 k ∧ Hid (BuiBe w1.heap.size w1.heap.size (paxBytes (l.take k)) wr) ∧ Hid (Below w1.heap.size w1 wr)) (fun _ _ _ i _ => l.length - (intOf i).toNat)
      case atStart => exact ⟨0, by omega, rfl, HN, HB0⟩
      case round =>
        obtain ⟨k, hk, rfl, HBU, HBR⟩ := hrel
        have HBW := Lib.hid (HB.out.trans (HBR.out.mono HB.out.size))
        by_cases hlt : k < l.length
        · obtain ⟨⟨hc0, hc1⟩, hks, hvs⟩ := Hc.out k hlt
          rw [← HBW.out.cell (p := ⟨b, off + k * 2, none⟩) hbl] at hc0
          rw [← HBW.out.cell (p := ⟨b, off + k * 2 + 1, none⟩) hbl] at hc1
          have HL := Lib.hid (fun W hW => RecW_any (rk l k) W hks hvs hW)
          rw [recWrite_ok (HALL.out k hlt)] at HL
          have HSZ := Lib.hid (recText_size (HALL.out k hlt))
          have HNX := Lib.hid (paxBytes_take hlt)
          have HPK := Lib.hid (HPT.out k).1
          generalize recText (rk l k) = t at *
          generalize hr : rk l k = r at *
          have HR := Lib.hid hr
          clear hr
          obtain ⟨key, value⟩ := r
          simp only [Rec.cells] at HL
          simp only at hc0 hc1
          clear hks hvs
          have HBX := Lib.hid (fun o => (Below.refl wr.heap.size wr).alloc (Nat.le_refl _) o)
          go_wp2_with fail
          refine (HL.out _ (HT.out.below (HBW.out.trans ((HBX.out _).mono HBW.out.size)))).mono ?_
          rintro e w2 ⟨rfl, hb⟩
          have HB2 := Lib.hid ((HBX.out _).trans (hb.mono (by simp)))
          clear hb hc0 hc1 HL
          have HBU2 := Lib.hid (HBU.out.below HB2.out)
          have hbr2 := Nat.le_trans HBR.out.size HB2.out.size
          go_wp2_with fail
          refine (BuiWrite_any w1.heap.size w1.heap.size (paxBytes (l.take k)) t w2 HBU2.out ?_ hbr2).mono ?_
          · have := HPK.out; have := HSZ.out; omega
          rintro e w3 ⟨rfl, hbu, hb3⟩
          have HBU3 := Lib.hid (show BuiBe w1.heap.size w1.heap.size (paxBytes (l.take (k + 1))) w3 by rw [HNX.out]; exact .inr hbu)
          have HB3 := Lib.hid (HBR.out.trans ((HB2.out.mono HBR.out.size).trans hb3))
          clear hbu hb3
          go_wp2
          go_roundw
          · exact ⟨k + 1, by omega, by simp, HBU3, HB3⟩
          · simp only [intOf]; omega
        · obtain rfl : k = l.length := by omega
          have HS := Lib.hid (BuiStr_any w1.heap.size w1.heap.size _ _ HBU.out HBR.out.size)
          rw [List.take_length] at HS
          go_wp2_with fail
          refine HS.out.mono ?_
          rintro e w3 ⟨rfl, hb⟩
          have HB3 := Lib.hid (HB.out.trans ((HBR.out.trans hb).mono HB.out.size))
          clear hb
          go_wp2
          go_ret2
          exact ⟨ret_si HF.out, HB3.out⟩
  · have HF := Lib.hid (paxWrite_bad h0)
    generalize paxFault l = f at *
    clear h hT
    go_enter Tryz.func38, Tryz.ntmps38
    go_wp2_with fail
    refine HC.out.mono ?_
    rintro e w1 ⟨rfl, hb⟩
    have HB := Lib.hid hb
    clear hb
    go_wp2
    go_ret2
    exact ⟨ret_si HF.out, HB.out⟩
set_option maxRecDepth 100000 in
set_option maxHeartbeats 2000000 in
theorem PaxT_any (v : Value) (l : List Rec) (w : World) (h : SliceC maxLen 2 (RecC maxLen) w [v] l) (hT : Pow10 w) :
    Calls Tryz.prog 45 #[v] w fun e w' => e = .returned (.tuple #[.string (paxWrite l).1, .int .i64 (paxWrite l).2]) ∧ Below w.heap.size w w' := by
  have HC := Lib.hid (PaxR_any v l w h)
  by_cases h0 : paxFault l = 0
  · have HF := Lib.hid (paxWrite_ok h0)
    have HT := Lib.hid hT
    rw [h0] at HC
    have HPT := Lib.hid (paxBytes_part h0)
    have HALL := Lib.hid (fun k (hk : k < l.length) => stepP_zero ((paxFault_all h0).2 k hk))
    have h12 := (paxFault_all h0).1
    clear h0 hT
    rcases recs_cases h with ⟨a, cap, rfl, rfl⟩ | ⟨b, off, cap, rfl, hpos, hle, hm, _, hc⟩
    · go_enter Tryz.func45, Tryz.ntmps45
      go_wp2_with fail
      refine HC.out.mono ?_
      rintro e w1 ⟨rfl, hb⟩
      have HB := Lib.hid hb
      clear hb
      go_wp2
      go_loop [5, 6, 7, 8] (fun v5 v6 _ _ => v5 = .string ⟨#[]⟩ ∧ v6 = .int .i64 (-1)) (fun _ _ _ _ => 0)
      case atStart => exact ⟨rfl, rfl⟩
      case round =>
        obtain ⟨rfl, rfl⟩ := hrel
        go_wp2
        go_ret2
        exact ⟨ret_si HF.out, HB.out⟩
    · unfold maxLen at hm
      have hbl : b < w.heap.size := World.block_lt_of_cell? w _ (hc 0 hpos).1.1
      have Hc := Lib.hid hc
      clear hc h
      go_enter Tryz.func45, Tryz.ntmps45
      go_wp2_with fail
      refine HC.out.mono ?_
      rintro e w1 ⟨rfl, hb⟩
      have HB := Lib.hid hb
      clear hb
      go_wp2
      go_loopw [5, 6, 7, 8] (fun v5 v6 _ _ wr => ∃ (k : Nat) (out : ByteArray), k ≤ l.length ∧ v6 = .int .i64 ((k : Int) - 1) ∧ v5 = .string out ∧ Hid (out = ofL (paxBytes (l.drop k))) ∧ Hid (Below w.heap.size w wr)) (fun _ v6 _ _ _ => ((intOf v6) + 1).toNat)
      case atStart => exact ⟨l.length, ⟨#[]⟩, by omega, rfl, rfl, Lib.hid (by rw [List.drop_length]; rfl), HB⟩
      case round =>
        obtain ⟨k, out, hk, rfl, rfl, HO, HBR⟩ := hrel
        by_cases h0 : 0 < k
        · obtain ⟨j, rfl⟩ : ∃ j, k = j + 1 := ⟨k - 1, by omega⟩
          have hlt : j < l.length := by omega
          rw [show ((j + 1 : Nat) : Int) - 1 = j by omega]
          obtain ⟨⟨hc0, hc1⟩, hks, hvs⟩ := Hc.out j hlt
          rw [← HBR.out.cell (p := ⟨b, off + j * 2, none⟩) hbl] at hc0
          rw [← HBR.out.cell (p := ⟨b, off + j * 2 + 1, none⟩) hbl] at hc1
          have HL := Lib.hid (fun W hW => RecT_any (rk l j) W hks hvs hW)
          rw [recWrite_ok (HALL.out j hlt)] at HL
          have HSZ := Lib.hid (recText_size (HALL.out j hlt))
          have HNX := Lib.hid (paxBytes_drop hlt)
          have hos : out.size ≤ 6792 := by rw [HO.out]; exact (HPT.out (j + 1)).2
          have hts := HSZ.out
          generalize recText (rk l j) = t at *
          generalize hr : rk l j = r at *
          have HR := Lib.hid hr
          clear hr
          obtain ⟨key, value⟩ := r
          simp only [Rec.cells] at HL
          simp only at hc0 hc1
          clear hks hvs
          go_wp2_with fail
          refine (HL.out _ (HT.out.below HBR.out)).mono ?_
          rintro e w2 ⟨rfl, hb⟩
          have HB2 := Lib.hid (HBR.out.trans (hb.mono HBR.out.size))
          clear hb hc0 hc1 HL
          go_wp2
          go_roundw
          · exact ⟨j, t ++ out, by omega, rfl, rfl, Lib.hid (by rw [HO.out, HNX.out]), HB2⟩
          · simp only [intOf]; omega
        · obtain rfl : k = 0 := by omega
          rw [List.drop_zero] at HO
          have HQ := Lib.hid (show paxWrite l = (out, 0) by rw [HF.out, HO.out])
          go_wp2
          go_ret2
          exact ⟨ret_si HQ.out, HBR.out⟩
  · have HF := Lib.hid (paxWrite_bad h0)
    generalize paxFault l = f at *
    clear h hT
    go_enter Tryz.func45, Tryz.ntmps45
    go_wp2_with fail
    refine HC.out.mono ?_
    rintro e w1 ⟨rfl, hb⟩
    have HB := Lib.hid hb
    clear hb
    go_wp2
    go_ret2
    exact ⟨ret_si HF.out, HB.out⟩
end Go.Proofs.YtaffgndickdbiaaGreatDoor
namespace Go.Creel
open Go.RowKit
def padLack (n : Nat) : Nat := (512 - n % 512) % 512
def padFill (l : List UInt8) : List UInt8 := l ++ List.replicate (padLack l.length) 0
def RetBs (t : TypeId) (w : World) (l : List UInt8) (e : Ending) (w' : World) : Prop := ∃ v, e = .returned v ∧ OwnBs t w' w.heap.size v l ∧ Below w.heap.size w w'
def vlen : Value → Nat | .slice _ n _ => n | _ => 0
theorem padLack_zero {n m : Nat} (h : (n + m) % 512 = 0) (hm : m ≤ padLack n) : m = padLack n := by unfold padLack at *; omega
theorem padLack_lt {n m : Nat} (h : (n + m) % 512 ≠ 0) (hm : m ≤ padLack n) : m < padLack n := by unfold padLack at *; omega
theorem padLack_lt512 (n : Nat) : padLack n < 512 := by unfold padLack; omega
theorem rep_snoc (l : List UInt8) (m : Nat) : l ++ List.replicate m 0 ++ [0] = l ++ List.replicate (m + 1) 0 := by rw [List.append_assoc, List.replicate_succ']
end Go.Creel
namespace Go.Proofs.YtaffgndickdbiaaGreatDoor
open Go.Creel Go.RowKit
theorem info_byte2 : (Tryz.prog.info? 5).map (fun i => (i.zero, i.size, i.bytes)) = some (some (.int .u8 0), 1, 1) := by kernel_rfl
set_option maxRecDepth 100000 in
set_option maxHeartbeats 400000 in
theorem Fill_any {N : Nat} (v : Value) (l : List UInt8) (w : World) (h : SliceC N 1 ByteC w [v] l) (hl : l.length ≤ 140737488354000) :
    Calls Tryz.prog 40 #[v] w (RetBs 5 w (padFill l)) := by
  obtain ⟨i0, hi, hz0, hz1, hz2⟩ := info_parts info_byte2
  have H := Lib.hid h
  have hlk := padLack_lt512 l.length
  have HI := Lib.hid (And.intro hi (And.intro hz0 (And.intro hz1 hz2)))
  obtain ⟨a, cap, hv⟩ : ∃ a cap, v = .slice a l.length cap := by
    obtain ⟨a, cap, hv, _⟩ := h
    exact ⟨a, cap, by simpa using hv⟩
  subst hv
  have HL := Lib.hid (show (-((l.length : Int) % 512)) % 512 = (padLack l.length : Int) by unfold padLack; omega)
  clear h hi hz0 hz1 hz2
  go_enter Tryz.func40, Tryz.ntmps40
  go_wp2_with (first
    | (at_builtin; refine wpList_app _ rfl (.const (.slice none 0 0)) (.tmp 9) 24 24 rfl _ _ rfl rfl (fun ty => app_bytes (l := []) (B := w.heap.size) _ _ _ _ _ i0 Tryz.underlying24 Tryz.underlying24 HI.out.1 HI.out.2.1 HI.out.2.2.1 HI.out.2.2.2 (OwnBs.nil _ _ _) H.out (by simp; omega) (Nat.le_refl _) ty) ?_; intro v1 w1 ho hg _; have HO := Lib.hid (OwnBs.app (l := []) ho); have HB := Lib.hid (below_app (Below.refl w.heap.size w) hg (World.ownsRow_nil w w.heap.size 5 1) (Nat.le_refl _)); clear ho hg)
    | (at_builtin; refine wpList_app _ rfl (.tmp 10) (.tmp 11) 24 3 rfl _ (.int .i64 (padLack l.length)) rfl (congrArg (Value.int .i64) HL.out) (fun ty => app_bytes_zeros (B := w.heap.size) _ _ _ _ i0 Tryz.underlying24 Tryz.underlying3 HI.out.1 HI.out.2.1 HI.out.2.2.1 HI.out.2.2.2 (padLack l.length) HO.out (by simp; omega) HB.out.size ty) ?_; intro v2 w2 ho hg _; have HO2 := Lib.hid (OwnBs.appz ho); have HB2 := Lib.hid (below_app HB.out hg HO.out HB.out.size); clear ho hg))
  go_ret
  refine ⟨_, rfl, ?_, HB2.out⟩
  have e := HO2.out
  simp only [List.nil_append] at e
  exact e
set_option maxRecDepth 100000 in
set_option maxHeartbeats 800000 in
theorem PadFill_any {N : Nat} (v : Value) (l : List UInt8) (w : World) (h : SliceC N 1 ByteC w [v] l) (hl : l.length ≤ 140737488354000) :
    Calls Tryz.prog 44 #[v] w (RetBs 5 w (padFill l)) := by
  obtain ⟨i0, hi, hz0, hz1, hz2⟩ := info_parts info_byte2
  have HI := Lib.hid (And.intro hi (And.intro hz0 (And.intro hz1 hz2)))
  have hlk := padLack_lt512 l.length
  have h0 : OwnBs 5 (w.alloc (.cells #[] 5)) w.heap.size (.slice (some ⟨w.heap.size, 0, none⟩) 0 0) [] := World.ownsRow_made w #[] 0 (Nat.le_refl _) (by simp) rfl
  have H0 := Lib.hid h0
  have hb0 := (Below.refl w.heap.size w).alloc (Nat.le_refl _) (.cells #[] 5)
  have H := Lib.hid (h.below (w' := w.alloc (.cells #[] 5)) (fun _ _ h => h) hb0)
  have HB0 := Lib.hid hb0
  have hsz0 : w.heap.size ≤ (w.alloc (.cells #[] 5)).heap.size := hb0.size
  have HS0 := Lib.hid hsz0
  clear h h0 hb0 hsz0 hi hz0 hz1 hz2
  go_enter Tryz.func44, Tryz.ntmps44
  go_wp2_with (at_builtin; refine wpList_app _ rfl (.tmp 4) (.tmp 5) 24 24 rfl _ _ rfl rfl (fun ty => app_bytes (l := []) (B := w.heap.size) _ _ _ _ _ i0 Tryz.underlying24 Tryz.underlying24 HI.out.1 HI.out.2.1 HI.out.2.2.1 HI.out.2.2.2 H0.out H.out (by simp; omega) HS0.out ty) ?_; intro v1 w1 ho hg _; have HO := Lib.hid (OwnBs.app (l := []) ho); have HB := Lib.hid (below_app HB0.out hg H0.out HS0.out); clear ho hg)
  go_loopw [3] (fun v wr => ∃ m : Nat, m ≤ padLack l.length ∧ OwnBs 5 wr w.heap.size v (l ++ List.replicate m 0) ∧ Below w.heap.size w wr) (fun v _ => 512 - (vlen v + 511) % 512)
  case atStart => exact ⟨0, by omega, by have := HO.out; simpa using this, HB.out⟩
  case round =>
    obtain ⟨m, hm, ho, hb⟩ := hrel
    have HO := Lib.hid ho
    have HBR := Lib.hid hb
    have hlen : (l ++ List.replicate m (0 : UInt8)).length = l.length + m := by simp
    obtain ⟨a, cap, hv⟩ : ∃ a cap, u3 = .slice a (l.length + m) cap := by
      rcases ho.form with ⟨e1, e2⟩ | ⟨g, cap, e1, _⟩
      · have := congrArg List.length e2
        rw [hlen] at this
        simp at this
        exact ⟨none, 0, by rw [e1]; simp [this]⟩
      · exact ⟨_, _, by rw [e1, hlen]⟩
    subst hv
    have HL := Lib.hid hlen
    have hbsz := hb.size
    clear ho hb hlen
    by_cases he : (l.length + m) % 512 = 0
    · have HM := Lib.hid (padLack_zero he hm)
      have hq : ((((l.length + m : Nat) : Int) % 512) != 0) = false := by rw [bne_eq_false_iff_eq]; omega
      clear he
      go_wp2
      go_ret
      refine ⟨_, rfl, ?_, HBR.out⟩
      have e : padFill l = l ++ List.replicate m 0 := by rw [HM.out]; rfl
      rw [e]
      exact HO.out
    · have HM := Lib.hid (padLack_lt he hm)
      have hq : ((((l.length + m : Nat) : Int) % 512) != 0) = true := by rw [bne_iff_ne]; omega
      have HE := Lib.hid he
      have hb1 := (Below.refl wr.heap.size wr).alloc (Nat.le_refl _) (.cells #[.int .u8 0] 5)
      have HO1 := Lib.hid (World.ownsRow.alloc HO.out (.cells #[.int .u8 0] 5))
      have HSZ := Lib.hid (show w.heap.size ≤ (wr.alloc (.cells #[.int .u8 0] 5)).heap.size from Nat.le_trans hbsz hb1.size)
      have HB1 := Lib.hid (HBR.out.alloc hbsz (.cells #[.int .u8 0] 5))
      clear he hb1
      go_wp2_with (at_builtin; refine wpList_app _ rfl (.tmp 11) (.tmp 12) 24 24 rfl _ _ rfl rfl (n := (l ++ List.replicate m (0 : UInt8)).length) (fun ty => app_src _ _ _ _ w.heap.size 5 i0 (.int .u8 0) 1 1 Tryz.underlying24 HI.out.1 HI.out.2.1 HI.out.2.2.1 HI.out.2.2.2 rfl (by decide) _ _ _ _ _ _ HO1.out (src_one wr _ _ _ Tryz.underlying24 _ rfl) (by rw [HL.out]; unfold maxLen; omega) (by rw [HL.out]; omega) HSZ.out) ?_; intro v1 w1 ho hg _)
      have HO2 := Lib.hid (OwnBs.app (m := [0]) ho)
      have HB2 := Lib.hid (below_app HB1.out hg HO1.out HSZ.out)
      clear ho hg
      go_wp2
      go_roundw
      case rel => exact ⟨m + 1, by have := HM.out; omega, by rw [← rep_snoc]; exact HO2.out, HB2.out⟩
      case measure =>
        have h1 : vlen v1 = l.length + m + 1 := by
          rcases HO2.out.form with ⟨_, e2⟩ | ⟨g, c, e1, _⟩
          · simp at e2
          · rw [e1]; simp [vlen]; omega
        have h2 := HM.out
        have h3 := HE.out
        show 512 - (vlen v1 + 511) % 512 < 512 - (l.length + m + 511) % 512
        rw [h1]; omega
end Go.Proofs.YtaffgndickdbiaaGreatDoor
namespace Go.Creel
open Go.RowKit
def paxHead (n : Nat) : HeadN := ⟨⟨#[64, 112, 97, 120]⟩, ⟨#[]⟩, ⟨#[]⟩, 0, 0, 0, n, 0, 120, ⟨#[]⟩, ⟨#[]⟩⟩
def memPre (l : List Rec) : List UInt8 := if l.length = 0 then [] else (headText (paxHead (paxWrite l).1.size)).1.data.toList ++ padFill (paxWrite l).1.data.toList
def memOwn (h : HeadN) (d : List UInt8) : List UInt8 := (headText h).1.data.toList ++ padFill d
noncomputable def memB (x : Ent) : List UInt8 := memPre (memRecs x) ++ memOwn (memHead x) x.data
noncomputable def memBytes (x : Ent) : List UInt8 × Int := if entFault x = 0 then (memB x, 0) else ([], entFault x)
theorem memBytes_ok {x : Ent} (h : entFault x = 0) : memBytes x = (memB x, 0) := if_pos h
theorem memBytes_bad {x : Ent} (h : ¬ entFault x = 0) : memBytes x = ([], entFault x) := if_neg h
theorem memPre_no {l : List Rec} (h : l.length = 0) : memPre l = [] := if_pos h
theorem memPre_yes {l : List Rec} (h : ¬ l.length = 0) : memPre l = (headText (paxHead (paxWrite l).1.size)).1.data.toList ++ padFill (paxWrite l).1.data.toList := if_neg h
theorem headText_le (n : HeadN) : (headText n).1.size ≤ 2000 := by
  unfold headText
  split
  · simp
  · split
    · simp
    · rename_i h
      have h0 : (headRef n).2 = 0 := by simpa using h
      have h1 := head_size n h0
      have h2 := octText_le (headSum (headRef n).1).1 7
      simp only [sumIn, ByteArray.size_append, ByteArray.size_extract, ofL_size, List.length_cons, List.length_nil]
      omega
theorem paxWrite_le (l : List Rec) : (paxWrite l).1.size ≤ 6792 := by
  by_cases h : paxFault l = 0
  · rw [paxWrite_ok h]
    have := (paxBytes_part h l.length).1
    rw [List.take_length] at this
    simp only [ofL_size]; exact this
  · rw [paxWrite_bad h]; simp
theorem padFill_le (l : List UInt8) : (padFill l).length ≤ l.length + 512 := by
  unfold padFill
  have := padLack_lt512 l.length
  simp; omega
theorem toL_len (s : ByteArray) : s.data.toList.length = s.size := by simp
theorem memPre_le (l : List Rec) : (memPre l).length ≤ 20000 := by
  unfold memPre
  split
  · simp
  · have h1 := headText_le (paxHead (paxWrite l).1.size)
    have h2 := paxWrite_le l
    have h3 := padFill_le (paxWrite l).1.data.toList
    rw [toL_len] at h3
    rw [List.length_append, toL_len]; omega
theorem memOwn_le (h : HeadN) (d : List UInt8) : (memOwn h d).length ≤ 2600 + d.length := by
  unfold memOwn
  have h1 := headText_le h
  have h3 := padFill_le d
  rw [List.length_append, toL_len]; omega
theorem cutTwo_le (s : ByteArray) : (cutTwo s).1.size ≤ s.size ∧ (cutTwo s).2.1.size ≤ s.size := by
  unfold cutTwo
  split
  · simp
  · unfold cutRest
    split
    · simp
    · split
      · simp only [ByteArray.size_extract]; omega
      · simp
theorem timeText_le (m : Meta) : (timeText m.second m.nano).1.size ≤ 100 := by
  unfold timeText
  split
  · simp
  · rename_i h
    have hf : timeFault m.second m.nano = 0 := by simpa using h
    obtain ⟨h1, h2, h3, h4⟩ := timeFault_ok hf
    have hs : (timeSign m.second).size ≤ 1 := by unfold timeSign; split <;> simp [ofL_size]
    have ht := Lib.itoa_length_le (timeS m.second m.nano) (by unfold timeS; split <;> (try split) <;> omega) (by unfold timeS; split <;> (try split) <;> omega)
    have hh : (timeHead m.second m.nano).size ≤ 30 := by
      unfold timeHead
      rw [ByteArray.size_append, ofL_size]; omega
    split
    · simp only; omega
    · have hd : (Lib.trimRightB (digs9 (timeN m.second m.nano).toNat 9) 48).length ≤ 9 := by
        unfold Lib.trimRightB
        rw [List.length_reverse]
        refine Nat.le_trans (List.IsSuffix.length_le (List.dropWhile_suffix _)) ?_
        rw [List.length_reverse, digs9_len]
        exact Nat.le_refl _
      simp only [ByteArray.size_append, ofL_size, List.length_cons, List.length_nil]
      omega
theorem memRecs_small {x : Ent} (hR : EntRight x) : ∀ r ∈ memRecs x, r.key.size ≤ maxLen ∧ r.value.size ≤ maxLen := by
  have hi : ∀ n : Int, 0 ≤ n ∧ n ≤ 1125899906842624 → (itoaB n).size ≤ 21 := fun n hn => by
    unfold itoaB; rw [ofL_size]; exact Lib.itoa_length_le n (by omega) (by omega)
  have h1 := hi _ hR.mt.gid
  have h2 := hi _ hR.mt.uid
  have h3 := hR.mt.user
  have h4 := hR.mt.group
  have h5 := hR.target
  have h6 := hR.pathSize
  have h7 := timeText_le x.mt
  have hk : kGid.size ≤ 10 ∧ kGname.size ≤ 10 ∧ kLink.size ≤ 10 ∧ kMtime.size ≤ 10 ∧ kPath.size ≤ 10 ∧ kUid.size ≤ 10 ∧ kUname.size ≤ 10 := by decide
  intro r hr
  unfold memRecs recNum recText1 recTime recPath at hr
  simp only [List.mem_append] at hr
  unfold maxLen
  rcases hr with (((((hr | hr) | hr) | hr) | hr) | hr) | hr <;> split at hr <;> simp only [List.mem_singleton, List.not_mem_nil] at hr <;> (try (subst hr; simp only; omega))
theorem memHead_small {x : Ent} (hR : EntRight x) : (memHead x).Ok maxLen := by
  have h1 := hR.mt.uid
  have h2 := hR.mt.gid
  have h3 := hR.mt.user
  have h4 := hR.mt.group
  have h5 := hR.target
  have h6 := hR.pathSize
  have h7 := hR.mt.mode
  have h8 := hR.data
  have h9 := hR.mt.second
  obtain ⟨c1, c2⟩ := cutTwo_le x.path
  have hl : sLong.size = 5 := by rfl
  have e0 : ByteArray.empty.size = 0 := rfl
  unfold memHead hidPath hidText hidNum hidTime
  unfold maxLen
  constructor <;> simp only <;> (try split) <;> first | omega | (unfold i64; omega)
end Go.Creel
