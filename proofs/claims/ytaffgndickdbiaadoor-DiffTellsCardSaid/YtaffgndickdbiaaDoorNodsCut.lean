/-
  Parts of a tree's slice: as slices, as sources; what is known of their nodes.
-/
import Derived.Test.YtaffgndickdbiaaDoorPutSpec
import Derived.Test.YtaffgndickdbiaaDoorCopyL
namespace Go.Creel
set_option linter.unusedVariables false
set_option linter.unusedSimpArgs false
open Go.RowKit
theorem nods_take {w : World} {a : Option Addr} {n cap i : Nat} {l : List Nod} (h : SliceC maxLen 12 (NodC maxLen) w [.slice a n cap] l) (hi : i ≤ l.length) : SliceC maxLen 12 (NodC maxLen) w [.slice a i cap] (l.take i) := by
  obtain ⟨a', cap', hv, h1, h2, h3, h4, h5⟩ := h
  simp only [List.cons.injEq, Value.slice.injEq, and_true] at hv
  obtain ⟨rfl, rfl, rfl⟩ := hv
  have hl : (l.take i).length = i := by rw [List.length_take]; omega
  refine ⟨a, cap, by rw [hl], by omega, h2, by omega, h4, fun hp => ?_⟩
  obtain ⟨b, off, e, hc⟩ := h5 (by omega)
  refine ⟨b, off, e, fun k hk => ?_⟩
  obtain ⟨c, hcl, hcc, hE⟩ := hc k (by omega)
  exact ⟨c, hcl, hcc, by rw [List.getElem_take]; exact hE⟩
theorem nods_drop {w : World} {a : Option Addr} {n cap i : Nat} {l : List Nod} (h : SliceC maxLen 12 (NodC maxLen) w [.slice a n cap] l) (hi : i ≤ l.length) : SliceC maxLen 12 (NodC maxLen) w [sliced a i n cap 12] (l.drop i) := by
  obtain ⟨a', cap', hv, h1, h2, h3, h4, h5⟩ := h
  simp only [List.cons.injEq, Value.slice.injEq, and_true] at hv
  obtain ⟨rfl, rfl, rfl⟩ := hv
  have hl : (l.drop i).length = l.length - i := List.length_drop
  unfold sliced
  refine ⟨if cap = i then a else a.map (·.add (i * 12)), cap - i, by rw [hl], by omega, by omega, by omega, fun h => ?_, fun hp => ?_⟩
  · split at h
    · have := h4 h; omega
    · cases ha : a with
      | none => have := h4 ha; omega
      | some x => rw [ha] at h; cases h
  · obtain ⟨b, off, e, hc⟩ := h5 (by omega)
    refine ⟨b, off + i * 12, ?_, fun k hk => ?_⟩
    · rw [if_neg (by omega), e]
      simp only [Option.map_some, Addr.add]
      by_cases h0 : i * 12 = 0 <;> simp [h0]
    · obtain ⟨c, hcl, hcc, hE⟩ := hc (i + k) (by omega)
      refine ⟨c, hcl, fun j hj => ?_, by rw [List.getElem_drop]; exact hE⟩
      rw [← hcc j hj]
      congr 2
      omega
theorem src_nods {P : Program} {w : World} {v : Value} {l : List Nod} {tx e' : TypeId} (hk : P.underlying tx = some (.slice e')) (h : SliceC maxLen 12 (NodC maxLen) w [v] l) : Src P 12 tx v l.length (l.flatMap Nod.cells) w := by
  have hone : ∀ u ∈ l.flatMap Nod.cells, u.oneCell' = true := by
    intro u hu
    obtain ⟨x, _, hx⟩ := List.mem_flatMap.1 hu
    simp [Nod.cells] at hx
    rcases hx with rfl | rfl | rfl | rfl | rfl | rfl | rfl | rfl | rfl | rfl | rfl | rfl <;> rfl
  obtain ⟨a, cap, hv, h1, h2, h3, h4, h5⟩ := h
  simp only [List.cons.injEq, and_true] at hv
  subst hv
  cases a with
  | none =>
    have h0 : l.length = 0 := by have := h4 rfl; omega
    obtain rfl := List.eq_nil_of_length_eq_zero h0
    exact Src.ofNil w hk cap
  | some a =>
    refine Src.ofSlice w hk a l.length cap _ (flat_len l) (fun j u hu => ?_) hone
    have hj : j < l.length * 12 := by
      rcases Nat.lt_or_ge j (l.length * 12) with h | h
      · exact h
      · rw [List.getElem?_eq_none (by rw [flat_len]; exact h)] at hu; cases hu
    obtain ⟨b, off, e, hc⟩ := h5 (by omega)
    cases e
    have hjd : j = j / 12 * 12 + j % 12 := by omega
    have hj12 : j % 12 < 12 := Nat.mod_lt _ (by omega)
    have hji : j / 12 < l.length := by omega
    obtain ⟨c, hcl, hcc, hE⟩ := hc (j / 12) hji
    rw [hjd, flat_at l (j / 12) (j % 12) hji hj12, nk_eq hji, ← hE.1, ← hcc _ hj12] at hu
    rw [← hu]
    have e2 : ∀ q, (⟨b, off, none⟩ : Addr).add q = ⟨b, off + q, none⟩ := fun q => by unfold Addr.add; by_cases h0 : q = 0 <;> simp [h0]
    rw [e2]
    congr 2
    omega
theorem addr_zero (a : Option Addr) : a.map (·.add 0) = a := by cases a <;> simp [Addr.add]
theorem nods_val {w : World} {v : Value} {l : List Nod} (h : SliceC maxLen 12 (NodC maxLen) w [v] l) : ∃ a cap, v = .slice a l.length cap ∧ l.length ≤ cap ∧ cap ≤ maxLen := by
  obtain ⟨a, cap, hv, h1, h2, _⟩ := h
  exact ⟨a, cap, by simpa using hv, h1, h2⟩
theorem box_slice {w : World} {x : Nod} {t : TypeId} (hx : x.Ok maxLen w) : SliceC maxLen 12 (NodC maxLen) (w.alloc (.cells #[.string x.path, .int .i64 x.kind, .int .i64 x.same, .string x.target, .int .i64 x.mt.mode, .int .i64 x.mt.uid, .int .i64 x.mt.gid, .string x.mt.user, .string x.mt.group, .int .i64 x.mt.second, .int .i64 x.mt.nano, .slice x.da x.data.length x.dcap] t)) [.slice (some ⟨w.heap.size, 0, none⟩) 1 1] [x] := by
  refine ⟨some ⟨w.heap.size, 0, none⟩, 1, rfl, Nat.le_refl _, by unfold maxLen; omega, by unfold maxLen; simp, (fun h => by cases h), fun _ => ⟨w.heap.size, 0, rfl, fun i hi => ?_⟩⟩
  obtain rfl : i = 0 := by simp at hi; omega
  refine ⟨x.cells, rfl, fun j hj => ?_, rfl, hx.below ((Below.refl _ _).alloc (Nat.le_refl _) _)⟩
  have hz : 0 + 0 * 12 + j = j := by omega
  rw [hz, World.cell?_alloc_new]
  simp [Nod.cells]
/-- nodes whose bytes are new may lie in an older row -/
theorem fresh_in {t : TypeId} {w w0 : World} {B : Nat} {v : Value} {c m : List Nod} (hown : OwnNods t w B v c) (hm : ∀ x ∈ m, x.Ok maxLen w) (hf : ∀ x ∈ m, ∀ a, x.da = some a → w0.heap.size ≤ a.block) (hv : ∀ b, v.ownBlock = some b → b < w0.heap.size) : ∀ x, x ∈ m → NodIn w v x := by
  intro x hx
  refine ⟨hm x hx, fun a hp ha he => ?_⟩
  have h1 := hf x hx a ha
  have h2 := hv _ he
  omega
theorem OwnNods.blk {t : TypeId} {w : World} {B : Nat} {v : Value} {l : List Nod} (h : OwnNods t w B v l) : ∀ b, v.ownBlock = some b → b < w.heap.size := by
  intro b hb
  rcases h.form with ⟨rfl, _⟩ | ⟨g, cap, rfl, _, hg, _⟩
  · simp [Value.ownBlock] at hb
  · simp [Value.ownBlock] at hb; omega
theorem OwnNods.oks {t : TypeId} {w : World} {B : Nat} {v : Value} {l : List Nod} (h : OwnNods t w B v l) : ∀ x ∈ l, x.Ok maxLen w := fun x hx => (h.2 x hx).1
theorem list_dat {l : List Nod} (h : ∀ x ∈ l, x.data.length ≤ 140737488355328) : ∀ i, i < l.length → (nk l i).data.length ≤ 140737488355328 := fun i hi => by rw [nk_eq hi]; exact h _ (List.getElem_mem hi)
theorem dat_list {l : List Nod} (h : ∀ i, i < l.length → (nk l i).data.length ≤ 140737488355328) : ∀ x ∈ l, x.data.length ≤ 140737488355328 := fun x hx => by
  obtain ⟨i, hi, rfl⟩ := List.mem_iff_getElem.1 hx
  rw [← nk_eq hi]; exact h i hi
end Go.Creel
namespace Go.Proofs.YtaffgndickdbiaaDoor
set_option linter.unusedVariables false
set_option linter.unusedSimpArgs false
open Go.Creel Go.RowKit
theorem run_takeN (w : World) (a : Option Addr) (n cap i : Nat) (h : i ≤ n) (hc : n ≤ cap) : (Instr.slice 22 (.slice a n cap) none (some (.int .i64 i)) none).run Tryd.prog w = .ok (.slice a i cap) w := by
  rw [run_slice_h w 22 a n cap (by kernel_rfl) .i64 i (by omega) (by omega)]
  have hs : (sizeOf (Tryd.prog.elem 22)).run Tryd.prog w = .ok 12 w := by kernel_rfl
  rw [hs]
  simp only [Result.andThen, sliced, Int.toNat_natCast, Nat.zero_mul, addr_zero, ite_self, Nat.sub_zero]
theorem run_dropN (w : World) (a : Option Addr) (n cap i : Nat) (h : i ≤ n) (hc : n ≤ cap) : (Instr.slice 22 (.slice a n cap) (some (.int .i64 i)) none none).run Tryd.prog w = .ok (sliced a i n cap 12) w := by
  rw [run_slice_l w 22 a n cap (by kernel_rfl) .i64 i (by omega) (by omega)]
  have hs : (sizeOf (Tryd.prog.elem 22)).run Tryd.prog w = .ok 12 w := by kernel_rfl
  rw [hs]
  simp only [Result.andThen, Int.toNat_natCast]
end Go.Proofs.YtaffgndickdbiaaDoor
