/-
  Texts: MemHead, HeadC.
-/
import Derived.Test.YtaffgndickdbiaaGreatDoorU14
set_option linter.unusedVariables false
set_option linter.unusedSimpArgs false
set_option linter.unusedSectionVars false
namespace Go.Creel
open Go.RowKit
def applyK (h : HeadN) (k : ByteArray) : HeadN := if k = kGid then { h with gid := 0 } else if k = kGname then { h with group := ⟨#[]⟩ } else if k = kLink then { h with lk := ⟨#[64, 108, 111, 110, 103]⟩ } else if k = kMtime then { h with time := 0 } else if k = kPath then { h with nm := ⟨#[64, 108, 111, 110, 103]⟩ } else if k = kUid then { h with uid := 0 } else if k = kUname then { h with user := ⟨#[]⟩ } else h
def applyR (h : HeadN) (r : Rec) : HeadN := applyK h r.key
noncomputable def hStart (x : Ent) : HeadN := ⟨(cutTwo x.path).2.1, (cutTwo x.path).1, x.target, x.mt.mode, x.mt.uid, x.mt.gid, x.data.length, x.mt.second, kindT x.kind, x.mt.user, x.mt.group⟩
theorem fold_gid (h : HeadN) (n m : Int) : (recNum kGid n m).foldl applyR h = { h with gid := if m < n then 0 else h.gid } := by
  unfold recNum; split <;> rfl
theorem fold_gname (h : HeadN) (s : ByteArray) (m : Nat) : (recText1 kGname s m).foldl applyR h = { h with group := if m < s.size then ⟨#[]⟩ else h.group } := by
  unfold recText1; split <;> rfl
theorem fold_link (h : HeadN) (s : ByteArray) (m : Nat) : (recText1 kLink s m).foldl applyR h = { h with lk := if m < s.size then sLong else h.lk } := by
  unfold recText1; split <;> rfl
theorem fold_time (h : HeadN) (m : Meta) : (recTime m).foldl applyR h = { h with time := if timeOdd m then 0 else h.time } := by
  unfold recTime; split <;> rfl
theorem fold_path (h : HeadN) (s : ByteArray) : (recPath s).foldl applyR h = { h with nm := if (cutTwo s).2.2 = 0 then h.nm else sLong } := by
  unfold recPath; split <;> rfl
theorem fold_uid (h : HeadN) (n m : Int) : (recNum kUid n m).foldl applyR h = { h with uid := if m < n then 0 else h.uid } := by
  unfold recNum; split <;> rfl
theorem fold_uname (h : HeadN) (s : ByteArray) (m : Nat) : (recText1 kUname s m).foldl applyR h = { h with user := if m < s.size then ⟨#[]⟩ else h.user } := by
  unfold recText1; split <;> rfl
theorem fold_all (x : Ent) : (memRecs x).foldl applyR (hStart x) = memHead x := by
  unfold memRecs
  rw [List.foldl_append, List.foldl_append, List.foldl_append, List.foldl_append, List.foldl_append, List.foldl_append, fold_gid, fold_gname, fold_link, fold_time, fold_path, fold_uid, fold_uname]
  rfl
def KeyOne (k : ByteArray) : Prop := k = kGid ∨ k = kGname ∨ k = kLink ∨ k = kMtime ∨ k = kPath ∨ k = kUid ∨ k = kUname
theorem recs_keys (x : Ent) : ∀ r ∈ memRecs x, KeyOne r.key := by
  intro r hr
  unfold memRecs recNum recText1 recTime recPath at hr
  simp only [List.mem_append] at hr
  unfold KeyOne
  rcases hr with (((((hr | hr) | hr) | hr) | hr) | hr) | hr <;> split at hr <;> simp at hr <;> simp [hr]
noncomputable def hAt (l : List Rec) (h : HeadN) (k : Nat) : HeadN := (l.take k).foldl applyR h
theorem hAt_all (l : List Rec) (h : HeadN) : hAt l h l.length = l.foldl applyR h := by unfold hAt; rw [List.take_length]
theorem hAt_succ {l : List Rec} {h : HeadN} {k : Nat} (hk : k < l.length) : hAt l h (k + 1) = applyK (hAt l h k) (rk l k).key := by
  unfold hAt
  rw [List.take_add_one, List.getElem?_eq_getElem hk, List.foldl_append, rk_eq hk]; rfl
abbrev hcells (h : HeadN) : Array Value := #[.string h.nm, .string h.px, .string h.lk, .int .i64 h.mode, .int .i64 h.uid, .int .i64 h.gid, .int .i64 h.size, .int .i64 h.time, .int .u8 h.typ.toNat, .string h.user, .string h.group]
structure HdSt (tH : TypeId) (w0 w : World) (b : Nat) (h : HeadN) : Prop where
  row : w.heap[b]? = some (.cells (hcells h) tH (0, 0))
  low : w0.heap.size ≤ b
  bel : Below w0.heap.size w0 w
section
variable {tH : TypeId} {w0 w w' : World} {b : Nat} {h h' : HeadN}
theorem HdSt.lt (s : HdSt tH w0 w b h) : b < w.heap.size := (Array.getElem?_eq_some_iff.1 s.row).1
theorem HdSt.below (s : HdSt tH w0 w b h) (hb : Below w.heap.size w w') : HdSt tH w0 w' b h := ⟨(hb.block b s.lt).trans s.row, s.low, s.bel.trans (hb.mono s.bel.size)⟩
theorem HdSt.cell (s : HdSt tH w0 w b h) (j : Nat) : w.cell? ⟨b, j, none⟩ = (hcells h)[j]? := cell_of_row w b j _ tH (0, 0) s.row
theorem HdSt.free (s : HdSt tH w0 w b h) (j : Nat) : w.frozen? ⟨b, j, none⟩ = false := frozen_of_row w b j _ tH s.row
theorem HdSt.put (s : HdSt tH w0 w b h) (j : Nat) (u : Value) (e : (hcells h).setIfInBounds j u = hcells h') : HdSt tH w0 (w.setCell ⟨b, j, none⟩ u) b h' :=
  ⟨by rw [← e]; exact heap_setCell_same w b j _ tH _ s.row, s.low, s.bel.setCell (p := ⟨b, j, none⟩) s.low u⟩
end
end Go.Creel
namespace Go.Proofs.YtaffgndickdbiaaGreatDoor
open Go.Creel Go.RowKit
abbrev tHdd : TypeId := 62
set_option maxRecDepth 100000 in
set_option maxHeartbeats 4000000 in
theorem MemHead_ok (x : Ent) (w : World) (hx : x.Ok maxLen w) (hE : entFault x = 0) (hT : Pow10 w) :
    Calls Tryz.prog 41 #[x.val] w fun e w' => e = .returned (.tuple #[HeadN.val' (memHead x), .int .i64 0]) ∧ Below w.heap.size w w' := by
  have HR := Lib.hid (entRight hE)
  have HBX := Lib.hid ((Below.refl w.heap.size w).alloc (Nat.le_refl _) (.cells #[.string x.path, .int .i64 x.kind, .string x.target, .int .i64 x.mt.mode, .int .i64 x.mt.uid, .int .i64 x.mt.gid, .string x.mt.user, .string x.mt.group, .int .i64 x.mt.second, .int .i64 x.mt.nano, .slice x.da x.data.length x.dcap] 26))
  have HEB := Lib.hid (entAt_box w x 26)
  have HBZ := Lib.hid (HBX.out.alloc HBX.out.size (.cells #[.string ⟨#[]⟩, .string ⟨#[]⟩, .string ⟨#[]⟩, .int .i64 0, .int .i64 0, .int .i64 0, .int .i64 0, .int .i64 0, .int .u8 0, .string ⟨#[]⟩, .string ⟨#[]⟩] 62))
  have HEZ := Lib.hid (HEB.out.below ((Below.refl _ _).alloc (Nat.le_refl _) (.cells #[.string ⟨#[]⟩, .string ⟨#[]⟩, .string ⟨#[]⟩, .int .i64 0, .int .i64 0, .int .i64 0, .int .i64 0, .int .i64 0, .int .u8 0, .string ⟨#[]⟩, .string ⟨#[]⟩] 62)))
  have HRZ : Hid (((w.alloc (.cells #[.string x.path, .int .i64 x.kind, .string x.target, .int .i64 x.mt.mode, .int .i64 x.mt.uid, .int .i64 x.mt.gid, .string x.mt.user, .string x.mt.group, .int .i64 x.mt.second, .int .i64 x.mt.nano, .slice x.da x.data.length x.dcap] 26)).alloc (.cells #[.string ⟨#[]⟩, .string ⟨#[]⟩, .string ⟨#[]⟩, .int .i64 0, .int .i64 0, .int .i64 0, .int .i64 0, .int .i64 0, .int .u8 0, .string ⟨#[]⟩, .string ⟨#[]⟩] 62)).heap[w.heap.size + 1]? = some (.cells #[.string ⟨#[]⟩, .string ⟨#[]⟩, .string ⟨#[]⟩, .int .i64 0, .int .i64 0, .int .i64 0, .int .i64 0, .int .i64 0, .int .u8 0, .string ⟨#[]⟩, .string ⟨#[]⟩] 62 (0, 0))) := Lib.hid (heap_alloc2_new _ _ _)
  have HPR := Lib.hid (MemRecs_ok x _ (hx.below HBZ.out) hE (hT.below HBZ.out))
  have HFA := Lib.hid (fold_all x)
  have HKY := Lib.hid (fun k (hk : k < (memRecs x).length) => recs_keys x (rk (memRecs x) k) (by rw [rk_eq hk]; exact List.getElem_mem hk))
  have hln := rl7_len x
  rw [rl7_eq] at hln
  have HTW := Lib.hid hT
  have hps := HR.out.pathSize
  have hkk := HR.out.kind
  clear hx hE hT
  go_enter Tryz.func41, Tryz.ntmps41
  go_wp2_with fail
  refine HPR.out.mono ?_
  rintro e w1 ⟨v, rfl, ho, hb⟩
  simp only at ho ⊢
  generalize memRecs x = l at *
  obtain ⟨a, cp, rfl, hcp, hf⟩ := ho.form2
  have HO1 := Lib.hid ho
  have HF2 := Lib.hid hf
  have HB1 := Lib.hid (HBZ.out.trans (hb.mono HBZ.out.size))
  have HE1 := Lib.hid (HEZ.out.below hb)
  have HR1 := Lib.hid ((hb.block _ (Array.getElem?_eq_some_iff.1 HRZ.out).1).trans HRZ.out)
  have hlr := (Array.getElem?_eq_some_iff.1 HR1.out).1
  clear hb ho hf HPR HRZ HEZ HBZ HBX HEB
  unfold maxLen at hcp
  have HLR : Hid (w.heap.size ≤ w.heap.size + 1) := Lib.hid (by omega)
  obtain ⟨h0, h1, h2, h3, h4, h5, h6, h7, h8, h9, h10⟩ := HE1.out.zero
  go_upto_region 5 with fail
  have G0 : Hid (HdSt tHdd w1 (w1.alloc (.cells #[.string ⟨#[]⟩, .string ⟨#[]⟩, .string x.target, .int .i64 x.mt.mode, .int .i64 x.mt.uid, .int .i64 x.mt.gid, .int .i64 x.data.length, .int .i64 x.mt.second, .int .u8 0, .string x.mt.user, .string x.mt.group] tHdd)) w1.heap.size (⟨⟨#[]⟩, ⟨#[]⟩, x.target, x.mt.mode, x.mt.uid, x.mt.gid, x.data.length, x.mt.second, 0, x.mt.user, x.mt.group⟩ : HeadN)) := Lib.hid ⟨heap_alloc_new _ _, Nat.le_refl _, (Below.refl _ _).alloc (Nat.le_refl _) _⟩
  have HE2 := Lib.hid (HE1.out.below ((Below.refl w1.heap.size w1).alloc (Nat.le_refl _) (.cells #[.string ⟨#[]⟩, .string ⟨#[]⟩, .string x.target, .int .i64 x.mt.mode, .int .i64 x.mt.uid, .int .i64 x.mt.gid, .int .i64 x.data.length, .int .i64 x.mt.second, .int .u8 0, .string x.mt.user, .string x.mt.group] tHdd)))
  clear h0 h1 h2 h3 h4 h5 h6 h7 h8 h9 h10
  generalize hbh : w1.heap.size = bh at *
  generalize w1.alloc (.cells #[.string ⟨#[]⟩, .string ⟨#[]⟩, .string x.target, .int .i64 x.mt.mode, .int .i64 x.mt.uid, .int .i64 x.mt.gid, .int .i64 x.data.length, .int .i64 x.mt.second, .int .u8 0, .string x.mt.user, .string x.mt.group] tHdd) = w2 at *
  obtain ⟨h0, h1, h2, h3, h4, h5, h6, h7, h8, h9, h10⟩ := HE2.out.zero
  have c8 : w2.cell? ⟨bh, 8, none⟩ = some (.int .u8 0) := G0.out.cell 8
  have f8 := G0.out.free 8
  have hlt2 := G0.out.lt
  have hxl := HE2.out.lt
  go_cut [48] from 42 to 48 (fun u wy => Hid (HdSt tHdd w1 wy bh (⟨⟨#[]⟩, ⟨#[]⟩, x.target, x.mt.mode, x.mt.uid, x.mt.gid, x.data.length, x.mt.second, kindT x.kind, x.mt.user, x.mt.group⟩ : HeadN)))
  case first =>
    have hk4 : x.kind = 1 ∨ x.kind = 2 ∨ x.kind = 3 ∨ x.kind = 4 := by omega
    clear hkk
    rcases hk4 with hk | hk | hk | hk
    · have HK := Lib.hid (show kindT x.kind = 48 by rw [hk]; rfl)
      rw [hk] at h1
      have hw1 : IntKind.i64.wrap ((1 : Int) - 1) = 0 := by rfl
      have hw0 : IntKind.i64.wrap 0 = 0 := by rfl
      clear hk
      have GA := Lib.hid ((G0.out.put 8 (.int .u8 48) (h' := (⟨⟨#[]⟩, ⟨#[]⟩, x.target, x.mt.mode, x.mt.uid, x.mt.gid, x.data.length, x.mt.second, kindT x.kind, x.mt.user, x.mt.group⟩ : HeadN)) (by rw [HK.out]; rfl)).below ((Below.refl _ _).alloc (Nat.le_refl _) (.cells #[.int .u8 48, .int .u8 53, .int .u8 50, .int .u8 49] 5)))
      go_wp2
      go_meet
      exact GA
    · have HK := Lib.hid (show kindT x.kind = 53 by rw [hk]; rfl)
      rw [hk] at h1
      have hw1 : IntKind.i64.wrap ((2 : Int) - 1) = 1 := by rfl
      have hw0 : IntKind.i64.wrap 1 = 1 := by rfl
      clear hk
      have GA := Lib.hid ((G0.out.put 8 (.int .u8 53) (h' := (⟨⟨#[]⟩, ⟨#[]⟩, x.target, x.mt.mode, x.mt.uid, x.mt.gid, x.data.length, x.mt.second, kindT x.kind, x.mt.user, x.mt.group⟩ : HeadN)) (by rw [HK.out]; rfl)).below ((Below.refl _ _).alloc (Nat.le_refl _) (.cells #[.int .u8 48, .int .u8 53, .int .u8 50, .int .u8 49] 5)))
      go_wp2
      go_meet
      exact GA
    · have HK := Lib.hid (show kindT x.kind = 50 by rw [hk]; rfl)
      rw [hk] at h1
      have hw1 : IntKind.i64.wrap ((3 : Int) - 1) = 2 := by rfl
      have hw0 : IntKind.i64.wrap 2 = 2 := by rfl
      clear hk
      have GA := Lib.hid ((G0.out.put 8 (.int .u8 50) (h' := (⟨⟨#[]⟩, ⟨#[]⟩, x.target, x.mt.mode, x.mt.uid, x.mt.gid, x.data.length, x.mt.second, kindT x.kind, x.mt.user, x.mt.group⟩ : HeadN)) (by rw [HK.out]; rfl)).below ((Below.refl _ _).alloc (Nat.le_refl _) (.cells #[.int .u8 48, .int .u8 53, .int .u8 50, .int .u8 49] 5)))
      go_wp2
      go_meet
      exact GA
    · have HK := Lib.hid (show kindT x.kind = 49 by rw [hk]; rfl)
      rw [hk] at h1
      have hw1 : IntKind.i64.wrap ((4 : Int) - 1) = 3 := by rfl
      have hw0 : IntKind.i64.wrap 3 = 3 := by rfl
      clear hk
      have GA := Lib.hid ((G0.out.put 8 (.int .u8 49) (h' := (⟨⟨#[]⟩, ⟨#[]⟩, x.target, x.mt.mode, x.mt.uid, x.mt.gid, x.data.length, x.mt.second, kindT x.kind, x.mt.user, x.mt.group⟩ : HeadN)) (by rw [HK.out]; rfl)).below ((Below.refl _ _).alloc (Nat.le_refl _) (.cells #[.int .u8 48, .int .u8 53, .int .u8 50, .int .u8 49] 5)))
      go_wp2
      go_meet
      exact GA
  case rest =>
  have G1 := hcut
  clear hcut G0 HE2 c8 f8 hlt2 hxl h0 h1 h2 h3 h4 h5 h6 h7 h8 h9 h10
  obtain ⟨w3, rfl⟩ : ∃ W : World, W = wc := ⟨_, rfl⟩
  have HE3 := Lib.hid (HE1.out.below (by rw [hbh]; exact G1.out.bel.mono (by omega)))
  obtain ⟨h0, h1, h2, h3, h4, h5, h6, h7, h8, h9, h10⟩ := HE3.out.zero
  go_wp2_with fail
  refine (CutTwo_any x.path _ (by unfold maxLen; omega)).mono ?_
  rintro e w4 ⟨rfl, hb⟩
  have G2 := Lib.hid (G1.out.below hb)
  clear hb G1 HE3 h0 h1 h2 h3 h4 h5 h6 h7 h8 h9 h10
  have c0 : ∃ c, w4.cell? ⟨bh, 0, none⟩ = some c := ⟨_, G2.out.cell 0⟩
  have c1 : ∃ c, w4.cell? ⟨bh, 1, none⟩ = some c := ⟨_, G2.out.cell 1⟩
  obtain ⟨d0, c0⟩ := c0
  obtain ⟨d1, c1⟩ := c1
  have f0 := G2.out.free 0
  have f1 := G2.out.free 1
  go_upto_region 8 with fail
  have G : Hid (HdSt tHdd w1 ((w4.setCell ⟨bh, 1, none⟩ (.string (cutTwo x.path).1)).setCell ⟨bh, 0, none⟩ (.string (cutTwo x.path).2.1)) bh (hAt l (hStart x) 0)) := Lib.hid ((G2.out.put 1 (.string (cutTwo x.path).1) (h' := { (⟨⟨#[]⟩, ⟨#[]⟩, x.target, x.mt.mode, x.mt.uid, x.mt.gid, x.data.length, x.mt.second, kindT x.kind, x.mt.user, x.mt.group⟩ : HeadN) with px := (cutTwo x.path).1 }) rfl).put 0 (.string (cutTwo x.path).2.1) rfl)
  clear G2 c0 c1 f0 f1
  generalize (w4.setCell ⟨bh, 1, none⟩ (.string (cutTwo x.path).1)).setCell ⟨bh, 0, none⟩ (.string (cutTwo x.path).2.1) = w5 at *
  have HOW := Lib.hid (fun W (g : HdSt tHdd w1 W bh (hAt l (hStart x) 0) ∨ True) (hb : Below w1.heap.size w1 W) => HO1.out.below hb)
  go_loopw [8, 60] (fun _ i wr => ∃ k : Nat, k ≤ l.length ∧ i = .int .i64 k ∧ Hid (HdSt tHdd w1 wr bh (hAt l (hStart x) k))) (fun _ i _ => l.length - (intOf i).toNat)
  case atStart => exact ⟨0, by omega, rfl, G⟩
  case round =>
    obtain ⟨k, hk, rfl, GK⟩ := hrel
    by_cases hlt : k < l.length
    · have HS := Lib.hid (hAt_succ (h := hStart x) hlt)
      have hkey := HKY.out k hlt
      have HOR := Lib.hid (HO1.out.below (by rw [hbh]; exact GK.out.bel.mono (by omega)))
      obtain ⟨g, rfl, hlc, hgl⟩ := HF2.out (by omega)
      obtain ⟨r0, r1⟩ := HOR.out.recAt hlt
      have hrb := (World.block_lt_of_cell? wr _ r0)
      have hgb : g ≠ bh := by omega
      generalize hAt l (hStart x) k = hh at *
      generalize rk l k = r at *
      obtain ⟨key, value⟩ := r
      have hbl := GK.out.lt
      simp only at hkey HS r0 r1
      rcases hkey with rfl | rfl | rfl | rfl | rfl | rfl | rfl
      · have c : ∃ c, wr.cell? ⟨bh, 5, none⟩ = some c := ⟨_, GK.out.cell 5⟩
        obtain ⟨d, c⟩ := c
        have f := GK.out.free 5
        have GN := Lib.hid ((GK.out.put 5 (.int .i64 0) (h' := { hh with gid := 0 }) rfl).below ((Below.refl _ _).alloc (Nat.le_refl _) (.cells #[.string kGid, .string value] 85)))
        go_wp2
        go_roundw
        case rel => exact ⟨k + 1, by omega, by go_num, Lib.hid (by rw [HS.out]; exact GN.out)⟩
        case measure => simp [intOf]; omega
      · have c : ∃ c, wr.cell? ⟨bh, 10, none⟩ = some c := ⟨_, GK.out.cell 10⟩
        obtain ⟨d, c⟩ := c
        have f := GK.out.free 10
        have GN := Lib.hid ((GK.out.put 10 (.string ⟨#[]⟩) (h' := { hh with group := ⟨#[]⟩ }) rfl).below ((Below.refl _ _).alloc (Nat.le_refl _) (.cells #[.string kGname, .string value] 85)))
        go_wp2
        go_roundw
        case rel => exact ⟨k + 1, by omega, by go_num, Lib.hid (by rw [HS.out]; exact GN.out)⟩
        case measure => simp [intOf]; omega
      · have c : ∃ c, wr.cell? ⟨bh, 2, none⟩ = some c := ⟨_, GK.out.cell 2⟩
        obtain ⟨d, c⟩ := c
        have f := GK.out.free 2
        have GN := Lib.hid ((GK.out.put 2 (.string ⟨#[64, 108, 111, 110, 103]⟩) (h' := { hh with lk := ⟨#[64, 108, 111, 110, 103]⟩ }) rfl).below ((Below.refl _ _).alloc (Nat.le_refl _) (.cells #[.string kLink, .string value] 85)))
        go_wp2
        go_roundw
        case rel => exact ⟨k + 1, by omega, by go_num, Lib.hid (by rw [HS.out]; exact GN.out)⟩
        case measure => simp [intOf]; omega
      · have c : ∃ c, wr.cell? ⟨bh, 7, none⟩ = some c := ⟨_, GK.out.cell 7⟩
        obtain ⟨d, c⟩ := c
        have f := GK.out.free 7
        have GN := Lib.hid ((GK.out.put 7 (.int .i64 0) (h' := { hh with time := 0 }) rfl).below ((Below.refl _ _).alloc (Nat.le_refl _) (.cells #[.string kMtime, .string value] 85)))
        go_wp2
        go_roundw
        case rel => exact ⟨k + 1, by omega, by go_num, Lib.hid (by rw [HS.out]; exact GN.out)⟩
        case measure => simp [intOf]; omega
      · have c : ∃ c, wr.cell? ⟨bh, 0, none⟩ = some c := ⟨_, GK.out.cell 0⟩
        obtain ⟨d, c⟩ := c
        have f := GK.out.free 0
        have GN := Lib.hid ((GK.out.put 0 (.string ⟨#[64, 108, 111, 110, 103]⟩) (h' := { hh with nm := ⟨#[64, 108, 111, 110, 103]⟩ }) rfl).below ((Below.refl _ _).alloc (Nat.le_refl _) (.cells #[.string kPath, .string value] 85)))
        go_wp2
        go_roundw
        case rel => exact ⟨k + 1, by omega, by go_num, Lib.hid (by rw [HS.out]; exact GN.out)⟩
        case measure => simp [intOf]; omega
      · have c : ∃ c, wr.cell? ⟨bh, 4, none⟩ = some c := ⟨_, GK.out.cell 4⟩
        obtain ⟨d, c⟩ := c
        have f := GK.out.free 4
        have GN := Lib.hid ((GK.out.put 4 (.int .i64 0) (h' := { hh with uid := 0 }) rfl).below ((Below.refl _ _).alloc (Nat.le_refl _) (.cells #[.string kUid, .string value] 85)))
        go_wp2
        go_roundw
        case rel => exact ⟨k + 1, by omega, by go_num, Lib.hid (by rw [HS.out]; exact GN.out)⟩
        case measure => simp [intOf]; omega
      · have c : ∃ c, wr.cell? ⟨bh, 9, none⟩ = some c := ⟨_, GK.out.cell 9⟩
        obtain ⟨d, c⟩ := c
        have f := GK.out.free 9
        have GN := Lib.hid ((GK.out.put 9 (.string ⟨#[]⟩) (h' := { hh with user := ⟨#[]⟩ }) rfl).below ((Below.refl _ _).alloc (Nat.le_refl _) (.cells #[.string kUname, .string value] 85)))
        go_wp2
        go_roundw
        case rel => exact ⟨k + 1, by omega, by go_num, Lib.hid (by rw [HS.out]; exact GN.out)⟩
        case measure => simp [intOf]; omega
    · obtain rfl : k = l.length := by omega
      have HZ := Lib.hid (hAt_all l (hStart x))
      rw [HFA.out] at HZ
      rw [HZ.out] at GK
      have HBW := Lib.hid (HB1.out.trans (GK.out.bel.mono HB1.out.size))
      have HR5 := Lib.hid ((GK.out.bel.block _ (Array.getElem?_eq_some_iff.1 HR1.out).1).trans HR1.out)
      have hne : bh ≠ w.heap.size + 1 := by omega
      have hne2 : w.heap.size + 1 ≠ bh := by omega
      clear HR1 hlr
      generalize hmh : memHead x = mh at *
      generalize w.heap.size + 1 = br at *
      have c0 : wr.cell? ⟨bh, 0, none⟩ = some (.string mh.nm) := GK.out.cell 0
      have c1 : wr.cell? ⟨bh, 1, none⟩ = some (.string mh.px) := GK.out.cell 1
      have c2 : wr.cell? ⟨bh, 2, none⟩ = some (.string mh.lk) := GK.out.cell 2
      have c3 : wr.cell? ⟨bh, 3, none⟩ = some (.int .i64 mh.mode) := GK.out.cell 3
      have c4 : wr.cell? ⟨bh, 4, none⟩ = some (.int .i64 mh.uid) := GK.out.cell 4
      have c5 : wr.cell? ⟨bh, 5, none⟩ = some (.int .i64 mh.gid) := GK.out.cell 5
      have c6 : wr.cell? ⟨bh, 6, none⟩ = some (.int .i64 mh.size) := GK.out.cell 6
      have c7 : wr.cell? ⟨bh, 7, none⟩ = some (.int .i64 mh.time) := GK.out.cell 7
      have c8 : wr.cell? ⟨bh, 8, none⟩ = some (.int .u8 mh.typ.toNat) := GK.out.cell 8
      have c9 : wr.cell? ⟨bh, 9, none⟩ = some (.string mh.user) := GK.out.cell 9
      have c10 : wr.cell? ⟨bh, 10, none⟩ = some (.string mh.group) := GK.out.cell 10
      have r0 : wr.cell? ⟨br, 0, none⟩ = some (.string ⟨#[]⟩) := cellAt HR5.out rfl
      have f0 := frozen_of_row wr br 0 _ _ HR5.out
      have r1 : wr.cell? ⟨br, 1, none⟩ = some (.string ⟨#[]⟩) := cellAt HR5.out rfl
      have f1 := frozen_of_row wr br 1 _ _ HR5.out
      have r2 : wr.cell? ⟨br, 2, none⟩ = some (.string ⟨#[]⟩) := cellAt HR5.out rfl
      have f2 := frozen_of_row wr br 2 _ _ HR5.out
      have r3 : wr.cell? ⟨br, 3, none⟩ = some (.int .i64 0) := cellAt HR5.out rfl
      have f3 := frozen_of_row wr br 3 _ _ HR5.out
      have r4 : wr.cell? ⟨br, 4, none⟩ = some (.int .i64 0) := cellAt HR5.out rfl
      have f4 := frozen_of_row wr br 4 _ _ HR5.out
      have r5 : wr.cell? ⟨br, 5, none⟩ = some (.int .i64 0) := cellAt HR5.out rfl
      have f5 := frozen_of_row wr br 5 _ _ HR5.out
      have r6 : wr.cell? ⟨br, 6, none⟩ = some (.int .i64 0) := cellAt HR5.out rfl
      have f6 := frozen_of_row wr br 6 _ _ HR5.out
      have r7 : wr.cell? ⟨br, 7, none⟩ = some (.int .i64 0) := cellAt HR5.out rfl
      have f7 := frozen_of_row wr br 7 _ _ HR5.out
      have r8 : wr.cell? ⟨br, 8, none⟩ = some (.int .u8 0) := cellAt HR5.out rfl
      have f8 := frozen_of_row wr br 8 _ _ HR5.out
      have r9 : wr.cell? ⟨br, 9, none⟩ = some (.string ⟨#[]⟩) := cellAt HR5.out rfl
      have f9 := frozen_of_row wr br 9 _ _ HR5.out
      have r10 : wr.cell? ⟨br, 10, none⟩ = some (.string ⟨#[]⟩) := cellAt HR5.out rfl
      have f10 := frozen_of_row wr br 10 _ _ HR5.out
      go_wp2
      (try simp only [Exit.inBlock, Exit.then])
      refine bodyPost_ret (v := .tuple #[HeadN.val' mh, .int .i64 0]) (by rw [results_cell_tmp rfl]; go_simp) rfl ?_
      exact ⟨by rw [hmh], (((((((((((HBW.out.setCell (p := ⟨br, 0, none⟩) HLR.out _).setCell (p := ⟨br, 1, none⟩) HLR.out _).setCell (p := ⟨br, 2, none⟩) HLR.out _).setCell (p := ⟨br, 3, none⟩) HLR.out _).setCell (p := ⟨br, 4, none⟩) HLR.out _).setCell (p := ⟨br, 5, none⟩) HLR.out _).setCell (p := ⟨br, 6, none⟩) HLR.out _).setCell (p := ⟨br, 7, none⟩) HLR.out _).setCell (p := ⟨br, 8, none⟩) HLR.out _).setCell (p := ⟨br, 9, none⟩) HLR.out _).setCell (p := ⟨br, 10, none⟩) HLR.out _)⟩
set_option maxRecDepth 100000 in
set_option maxHeartbeats 1000000 in
theorem MemHead_any (x : Ent) (w : World) (hx : x.Ok maxLen w) (hT : Pow10 w) :
    Calls Tryz.prog 41 #[x.val] w fun e w' => e = .returned (.tuple #[HeadN.val' (mHeadOf x).1, .int .i64 (mHeadOf x).2]) ∧ Below w.heap.size w w' := by
  by_cases hE : entFault x = 0
  · rw [mHeadOf_ok hE]
    exact MemHead_ok x w hx hE hT
  · rw [mHeadOf_bad hE]
    have HBX := Lib.hid ((Below.refl w.heap.size w).alloc (Nat.le_refl _) (.cells #[.string x.path, .int .i64 x.kind, .string x.target, .int .i64 x.mt.mode, .int .i64 x.mt.uid, .int .i64 x.mt.gid, .string x.mt.user, .string x.mt.group, .int .i64 x.mt.second, .int .i64 x.mt.nano, .slice x.da x.data.length x.dcap] 26))
    have HBZ := Lib.hid (HBX.out.alloc HBX.out.size (.cells #[.string ⟨#[]⟩, .string ⟨#[]⟩, .string ⟨#[]⟩, .int .i64 0, .int .i64 0, .int .i64 0, .int .i64 0, .int .i64 0, .int .u8 0, .string ⟨#[]⟩, .string ⟨#[]⟩] 62))
    have HRZ : Hid (((w.alloc (.cells #[.string x.path, .int .i64 x.kind, .string x.target, .int .i64 x.mt.mode, .int .i64 x.mt.uid, .int .i64 x.mt.gid, .string x.mt.user, .string x.mt.group, .int .i64 x.mt.second, .int .i64 x.mt.nano, .slice x.da x.data.length x.dcap] 26)).alloc (.cells #[.string ⟨#[]⟩, .string ⟨#[]⟩, .string ⟨#[]⟩, .int .i64 0, .int .i64 0, .int .i64 0, .int .i64 0, .int .i64 0, .int .u8 0, .string ⟨#[]⟩, .string ⟨#[]⟩] 62)).heap[w.heap.size + 1]? = some (.cells #[.string ⟨#[]⟩, .string ⟨#[]⟩, .string ⟨#[]⟩, .int .i64 0, .int .i64 0, .int .i64 0, .int .i64 0, .int .i64 0, .int .u8 0, .string ⟨#[]⟩, .string ⟨#[]⟩] 62 (0, 0))) := Lib.hid (heap_alloc2_new _ _ _)
    have HPR := Lib.hid (MemRecs_any x _ (hx.below HBZ.out) (hT.below HBZ.out))
    rw [recordsOf_bad hE] at HPR
    generalize entFault x = q at *
    have hq : (q != 0) = true := by rw [bne_iff_ne]; exact hE
    clear hx hE hT
    go_enter Tryz.func41, Tryz.ntmps41
    go_wp2_with fail
    refine HPR.out.mono ?_
    rintro e w1 ⟨v, rfl, ho, hb⟩
    have HB1 := Lib.hid (HBZ.out.trans (hb.mono HBZ.out.size))
    have HR1 := Lib.hid ((hb.block _ (Array.getElem?_eq_some_iff.1 HRZ.out).1).trans HRZ.out)
    clear hb ho
    have HLR : Hid (w.heap.size ≤ w.heap.size + 1) := Lib.hid (by omega)
    generalize w.heap.size + 1 = br at *
    have r0 : w1.cell? ⟨br, 0, none⟩ = some (.string ⟨#[]⟩) := cellAt HR1.out rfl
    have f0 := frozen_of_row w1 br 0 _ _ HR1.out
    have r1 : w1.cell? ⟨br, 1, none⟩ = some (.string ⟨#[]⟩) := cellAt HR1.out rfl
    have f1 := frozen_of_row w1 br 1 _ _ HR1.out
    have r2 : w1.cell? ⟨br, 2, none⟩ = some (.string ⟨#[]⟩) := cellAt HR1.out rfl
    have f2 := frozen_of_row w1 br 2 _ _ HR1.out
    have r3 : w1.cell? ⟨br, 3, none⟩ = some (.int .i64 0) := cellAt HR1.out rfl
    have f3 := frozen_of_row w1 br 3 _ _ HR1.out
    have r4 : w1.cell? ⟨br, 4, none⟩ = some (.int .i64 0) := cellAt HR1.out rfl
    have f4 := frozen_of_row w1 br 4 _ _ HR1.out
    have r5 : w1.cell? ⟨br, 5, none⟩ = some (.int .i64 0) := cellAt HR1.out rfl
    have f5 := frozen_of_row w1 br 5 _ _ HR1.out
    have r6 : w1.cell? ⟨br, 6, none⟩ = some (.int .i64 0) := cellAt HR1.out rfl
    have f6 := frozen_of_row w1 br 6 _ _ HR1.out
    have r7 : w1.cell? ⟨br, 7, none⟩ = some (.int .i64 0) := cellAt HR1.out rfl
    have f7 := frozen_of_row w1 br 7 _ _ HR1.out
    have r8 : w1.cell? ⟨br, 8, none⟩ = some (.int .u8 0) := cellAt HR1.out rfl
    have f8 := frozen_of_row w1 br 8 _ _ HR1.out
    have r9 : w1.cell? ⟨br, 9, none⟩ = some (.string ⟨#[]⟩) := cellAt HR1.out rfl
    have f9 := frozen_of_row w1 br 9 _ _ HR1.out
    have r10 : w1.cell? ⟨br, 10, none⟩ = some (.string ⟨#[]⟩) := cellAt HR1.out rfl
    have f10 := frozen_of_row w1 br 10 _ _ HR1.out
    go_wp2
    (try simp only [Exit.inBlock, Exit.then])
    refine bodyPost_ret (v := .tuple #[.agg #[.string ⟨#[]⟩, .string ⟨#[]⟩, .string ⟨#[]⟩, .int .i64 0, .int .i64 0, .int .i64 0, .int .i64 0, .int .i64 0, .int .u8 0, .string ⟨#[]⟩, .string ⟨#[]⟩], .int .i64 q]) (by rw [results_cell_tmp rfl]; go_simp) rfl ?_
    exact ⟨rfl, (((((((((((HB1.out.setCell (p := ⟨br, 0, none⟩) HLR.out _).setCell (p := ⟨br, 1, none⟩) HLR.out _).setCell (p := ⟨br, 2, none⟩) HLR.out _).setCell (p := ⟨br, 3, none⟩) HLR.out _).setCell (p := ⟨br, 4, none⟩) HLR.out _).setCell (p := ⟨br, 5, none⟩) HLR.out _).setCell (p := ⟨br, 6, none⟩) HLR.out _).setCell (p := ⟨br, 7, none⟩) HLR.out _).setCell (p := ⟨br, 8, none⟩) HLR.out _).setCell (p := ⟨br, 9, none⟩) HLR.out _).setCell (p := ⟨br, 10, none⟩) HLR.out _)⟩
end Go.Proofs.YtaffgndickdbiaaGreatDoor
namespace Go.Creel
open Go.RowKit
def RefB (bw bs : Nat) (p : Pen) (w : World) : Prop := w.cell? ⟨bw, 0, none⟩ = some (.int .i64 p.2) ∧ w.cell? ⟨bs, 0, none⟩ = some (.string p.1) ∧ w.frozen? ⟨bw, 0, none⟩ = false ∧ w.frozen? ⟨bs, 0, none⟩ = false
theorem RefB.putS {bw bs : Nat} {p : Pen} {w : World} (h : RefB bw bs p w) (hne : bw ≠ bs) (s : ByteArray) : RefB bw bs (s, p.2) (w.setCell ⟨bs, 0, none⟩ (.string s)) := by
  obtain ⟨h1, h2, h3, h4⟩ := h
  exact ⟨(World.cell?_setCell_other _ _ _ _ (fun e => hne (congrArg Addr.block e).symm)).trans h1, World.cell?_setCell_same _ _ _ h2, by simpa using h3, by simpa using h4⟩
theorem RefB.putE {bw bs : Nat} {p : Pen} {w : World} (h : RefB bw bs p w) (hne : bw ≠ bs) (e : Int) : RefB bw bs (p.1, e) (w.setCell ⟨bw, 0, none⟩ (.int .i64 e)) := by
  obtain ⟨h1, h2, h3, h4⟩ := h
  exact ⟨World.cell?_setCell_same _ _ _ h1, (World.cell?_setCell_other _ _ _ _ (fun e => hne (congrArg Addr.block e))).trans h2, by simpa using h3, by simpa using h4⟩
theorem RefB.drewN {bw bs : Nat} {p : Pen} {w : World} (h : RefB bw bs p w) (n : Nat) : RefB bw bs p (w.drewN n) := h
theorem RefB.lt {bw bs : Nat} {p : Pen} {w : World} (h : RefB bw bs p w) : bw < w.heap.size ∧ bs < w.heap.size := ⟨World.block_lt_of_cell? w _ h.1, World.block_lt_of_cell? w _ h.2.1⟩
theorem RefB.below {bw bs : Nat} {p : Pen} {w w' : World} (h : RefB bw bs p w) (hb : Below w.heap.size w w') : RefB bw bs p w' := by
  obtain ⟨l1, l2⟩ := h.lt
  obtain ⟨h1, h2, h3, h4⟩ := h
  exact ⟨(hb.cell (p := ⟨bw, 0, none⟩) l1).trans h1, (hb.cell (p := ⟨bs, 0, none⟩) l2).trans h2, (hb.frozen (p := ⟨bw, 0, none⟩) l1).trans h3, (hb.frozen (p := ⟨bs, 0, none⟩) l2).trans h4⟩
theorem refB_new (w : World) (t1 t2 : TypeId) : RefB w.heap.size (w.heap.size + 1) (ByteArray.empty, 0) ((w.alloc (.cells #[.int .i64 0] t1)).alloc (.cells #[.string ⟨#[]⟩] t2)) := by
  refine ⟨?_, ?_, ?_, ?_⟩
  · exact ((Below.refl (w.alloc (.cells #[.int .i64 0] t1)).heap.size _).alloc (Nat.le_refl _) _).cell (p := ⟨w.heap.size, 0, none⟩) (by simp) |>.trans (by simp [World.cell?_alloc_new])
  · have : (w.alloc (.cells #[.int .i64 0] t1)).heap.size = w.heap.size + 1 := by simp
    rw [← this, World.cell?_alloc_new]
    rfl
  · simp
  · simp
theorem refPut_ok {p x : Pen} (h : p.2 = 0) : refPut p x = (p.1 ++ x.1, x.2) := by unfold refPut; rw [if_pos h]
theorem refPut_bad {p x : Pen} (h : ¬ p.2 = 0) : refPut p x = (p.1 ++ x.1, p.2) := by unfold refPut; rw [if_neg h]
theorem refPut_lit (p : Pen) (s : ByteArray) : refPut p (s, 0) = (p.1 ++ s, p.2) := by
  by_cases h : p.2 = 0
  · rw [refPut_ok h, h]
  · rw [refPut_bad h]
end Go.Creel
namespace Go.Proofs.YtaffgndickdbiaaGreatDoor
open Go.Creel Go.RowKit
set_option maxRecDepth 100000 in
set_option maxHeartbeats 2000000 in
theorem Text1_any (B bw bs : Nat) (hne : bw ≠ bs) (hB1 : B ≤ bw) (hB2 : B ≤ bs) (p : Pen) (t : ByteArray) (width : Int) (whole : Bool) (w : World) (h : RefB bw bs p w) (ht : t.size ≤ maxLen) (hw : i64 width) (hl : p.1.size ≤ 1000000) :
    Calls Tryz.prog 106 #[.string t, .int .i64 width, .bool whole, .pointer (some ⟨bw, 0, none⟩), .pointer (some ⟨bs, 0, none⟩)] w fun e w' => e = .returned (.tuple #[]) ∧ RefB bw bs (refPut p (fieldText t width whole)) w' ∧ Below B w w' := by
  have hxs := fieldText_le t width whole
  have HFT := Lib.hid (fun w => FieldText_any t width whole w ht hw)
  generalize fieldText t width whole = x at *
  obtain ⟨c1, c2, f1, f2⟩ := id h
  by_cases h0 : p.2 = 0
  · have HP := Lib.hid (refPut_ok (x := x) h0)
    have HR := Lib.hid ((h.putE hne x.2).putS hne (p.1 ++ x.1))
    have HB := Lib.hid (((Below.refl B w).setCell (p := ⟨bw, 0, none⟩) hB1 (.int .i64 x.2)).setCell (p := ⟨bs, 0, none⟩) hB2 (.string (p.1 ++ x.1)))
    have d2 : (w.setCell ⟨bw, 0, none⟩ (.int .i64 x.2)).cell? ⟨bs, 0, none⟩ = some (.string p.1) := (h.putE hne x.2).2.1
    rw [h0] at c1
    clear h h0
    go_enter Tryz.func106, Tryz.ntmps106
    go_wp2_with fail
    refine (HFT.out _).mono ?_
    rintro e w1 ⟨rfl, rfl⟩
    go_wp2
    go_end0
    exact ⟨rfl, by rw [HP.out]; exact HR.out, HB.out⟩
  · have HP := Lib.hid (refPut_bad (x := x) h0)
    have hne2 : (p.2 == 0) = false := by rw [beq_eq_false_iff_ne]; exact h0
    have HR := Lib.hid (h.putS hne (p.1 ++ x.1))
    have HB := Lib.hid ((Below.refl B w).setCell (p := ⟨bs, 0, none⟩) hB2 (.string (p.1 ++ x.1)))
    clear h h0
    go_enter Tryz.func106, Tryz.ntmps106
    go_wp2_with fail
    refine (HFT.out _).mono ?_
    rintro e w1 ⟨rfl, rfl⟩
    go_wp2
    go_end0
    exact ⟨rfl, by rw [HP.out]; exact HR.out, HB.out⟩
set_option maxRecDepth 100000 in
set_option maxHeartbeats 2000000 in
theorem Num1_any (B bw bs : Nat) (hne : bw ≠ bs) (hB1 : B ≤ bw) (hB2 : B ≤ bs) (p : Pen) (n width : Int) (w : World) (h : RefB bw bs p w) (hl : p.1.size ≤ 1000000) :
    Calls Tryz.prog 108 #[.int .i64 n, .int .i64 width, .pointer (some ⟨bw, 0, none⟩), .pointer (some ⟨bs, 0, none⟩)] w fun e w' => e = .returned (.tuple #[]) ∧ RefB bw bs (refPut p (octText n width)) w' ∧ Below B w w' := by
  have hxs := octText_le n width
  have HFT := Lib.hid (fun w => OctText_any n width w)
  generalize octText n width = x at *
  obtain ⟨c1, c2, f1, f2⟩ := id h
  by_cases h0 : p.2 = 0
  · have HP := Lib.hid (refPut_ok (x := x) h0)
    have HR := Lib.hid ((h.putE hne x.2).putS hne (p.1 ++ x.1))
    have HB := Lib.hid (((Below.refl B w).setCell (p := ⟨bw, 0, none⟩) hB1 (.int .i64 x.2)).setCell (p := ⟨bs, 0, none⟩) hB2 (.string (p.1 ++ x.1)))
    have d2 : (w.setCell ⟨bw, 0, none⟩ (.int .i64 x.2)).cell? ⟨bs, 0, none⟩ = some (.string p.1) := (h.putE hne x.2).2.1
    rw [h0] at c1
    clear h h0
    go_enter Tryz.func108, Tryz.ntmps108
    go_wp2_with fail
    refine (HFT.out _).mono ?_
    rintro e w1 ⟨rfl, rfl⟩
    go_wp2
    go_end0
    exact ⟨rfl, by rw [HP.out]; exact HR.out, HB.out⟩
  · have HP := Lib.hid (refPut_bad (x := x) h0)
    have hne2 : (p.2 == 0) = false := by rw [beq_eq_false_iff_ne]; exact h0
    have HR := Lib.hid (h.putS hne (p.1 ++ x.1))
    have HB := Lib.hid ((Below.refl B w).setCell (p := ⟨bs, 0, none⟩) hB2 (.string (p.1 ++ x.1)))
    clear h h0
    go_enter Tryz.func108, Tryz.ntmps108
    go_wp2_with fail
    refine (HFT.out _).mono ?_
    rintro e w1 ⟨rfl, rfl⟩
    go_wp2
    go_end0
    exact ⟨rfl, by rw [HP.out]; exact HR.out, HB.out⟩
end Go.Proofs.YtaffgndickdbiaaGreatDoor
