/-
  Texts: MemOSpec, EntSt, EntsSpec, BytesCut, ArcRSpec.
-/
import Derived.Test.YtaffgndickdbiaaGreatDoorR26
import Derived.Test.YtaffgndickdbiaaGreatDoorR25
set_option linter.unusedVariables false
set_option linter.unusedSimpArgs false
set_option linter.unusedSectionVars false
namespace Go.Creel
open Go.RowKit
def textF (o : Option ByteArray) (s : ByteArray) : ByteArray := o.getD s
noncomputable def numF (o : Option ByteArray) (n : Int) : Int := match o with
  | some v => atoiV v
  | none => n
noncomputable def timeF (o : Option ByteArray) (t : Int) : Int × Int := match o with
  | some v => ((timeAns v.data.toList (rawP v.data.toList)).1, (timeAns v.data.toList (rawP v.data.toList)).2.1)
  | none => (t, 0)
noncomputable def entSay (h : HeadN) (da : Option Addr) (dcap : Nat) (d : List UInt8) (f : ByteArray → Option ByteArray) : Ent :=
  ⟨textF (f kPath) (cutOne h.px h.nm).1, kindOfT h.typ, textF (f kLink) h.lk, ⟨h.mode, numF (f kUid) h.uid, numF (f kGid) h.gid, textF (f kUname) h.user, textF (f kGname) h.group, (timeF (f kMtime) h.time).1, (timeF (f kMtime) h.time).2⟩, da, dcap, d⟩
def sayR (l : List Rec) (key : ByteArray) : Option ByteArray := if (recFind l key).2 = true then some (recFind l key).1 else none
theorem text_say (l : List Rec) (key s : ByteArray) : textOf l key s = textF (sayR l key) s := by
  unfold textOf textF sayR
  split <;> rfl
theorem num_say (l : List Rec) (key : ByteArray) (n : Int) : numOf l key n = numF (sayR l key) n := by
  unfold numOf numF sayR
  split <;> rfl
theorem time_say (l : List Rec) (t : Int) : timeR l t = timeF (sayR l kMtime) t := by
  unfold timeR timeF sayR
  split <;> rfl
theorem unpack_say (h : HeadN) (l : List Rec) (da : Option Addr) (dcap : Nat) (d : List UInt8) : unpackOf h l da dcap d = entSay h da dcap d (sayR l) := by
  unfold unpackOf entSay
  simp only [text_say, num_say, time_say]
def putsR (l : List Rec) : List (ByteArray × Value) := l.foldl (fun m r => assocPut r.key (.string r.value) m) []
theorem puts_take {l : List Rec} {k : Nat} (h : k < l.length) : putsR (l.take (k + 1)) = assocPut (rk l k).key (.string (rk l k).value) (putsR (l.take k)) := by
  rw [rk_take h]
  simp [putsR, List.foldl_append]
theorem puts_go : ∀ (l : List Rec) (m : List (ByteArray × Value)), (m.map (·.1)).Nodup → ((l.foldl (fun m r => assocPut r.key (.string r.value) m) m).map (·.1)).Nodup ∧
    ∀ p ∈ l.foldl (fun m r => assocPut r.key (.string r.value) m) m, p ∈ m ∨ ∃ r ∈ l, p = (r.key, .string r.value)
  | [], m, h => ⟨h, fun p hp => .inl hp⟩
  | r :: t, m, h => by
    obtain ⟨h1, h2⟩ := puts_go t (assocPut r.key (.string r.value) m) (keys_put _ _ m h).1
    refine ⟨h1, fun p hp => ?_⟩
    rcases h2 p hp with e | ⟨q, hq, e⟩
    · have hput : ∀ (m : List (ByteArray × Value)), p ∈ assocPut r.key (.string r.value) m → p ∈ m ∨ p = (r.key, .string r.value) := by
        intro m
        induction m with
        | nil => intro h; simp [assocPut] at h; exact .inr h
        | cons a s ih =>
          intro h
          unfold assocPut at h
          split at h
          · rcases List.mem_cons.1 h with h | h
            · exact .inr h
            · exact .inl (List.mem_cons.2 (.inr h))
          · rcases List.mem_cons.1 h with h | h
            · exact .inl (List.mem_cons.2 (.inl h))
            · rcases ih h with h | h
              · exact .inl (List.mem_cons.2 (.inr h))
              · exact .inr h
      rcases hput m e with e | e
      · exact .inl e
      · exact .inr ⟨r, by simp, e⟩
    · exact .inr ⟨q, by simp [hq], e⟩
theorem puts_keys (l : List Rec) : ((putsR l).map (·.1)).Nodup := (puts_go l [] List.nodup_nil).1
theorem puts_mem {l : List Rec} {p : ByteArray × Value} (h : p ∈ putsR l) : ∃ r ∈ l, p = (r.key, .string r.value) := by
  rcases (puts_go l [] List.nodup_nil).2 p h with e | e
  · simp at e
  · exact e
theorem recFind_none {key : ByteArray} : ∀ {l : List Rec}, (∀ r ∈ l, r.key ≠ key) → (recFind l key).2 = false
  | [], _ => rfl
  | r :: t, h => by
    unfold recFind
    rw [if_neg (h r (by simp))]
    exact recFind_none (fun x hx => h x (by simp [hx]))
theorem assoc_puts_go (key : ByteArray) : ∀ (l : List Rec) (m : List (ByteArray × Value)), (l.map (·.key)).Nodup →
    assoc key (l.foldl (fun m r => assocPut r.key (.string r.value) m) m) = if (recFind l key).2 = true then some (.string (recFind l key).1) else assoc key m
  | [], m, _ => by simp [recFind]
  | r :: t, m, h => by
    simp only [List.map_cons, List.nodup_cons] at h
    rw [List.foldl_cons, assoc_puts_go key t _ h.2, assoc_put]
    by_cases hk : r.key = key
    · have hn := recFind_none (l := t) (key := key) (fun x hx he => h.1 (List.mem_map.2 ⟨x, hx, by rw [he, hk]⟩))
      rw [hn]
      simp [recFind, hk]
    · have h1 : recFind (r :: t) key = recFind t key := by
        conv => lhs; unfold recFind
        rw [if_neg hk]
      have h2 : ¬ key = r.key := fun e => hk e.symm
      rw [h1]
      simp only [if_neg h2]
theorem assoc_puts {l : List Rec} (h : (l.map (·.key)).Nodup) (key : ByteArray) : assoc key (putsR l) = (sayR l key).map (fun v => .string v) := by
  unfold putsR
  rw [assoc_puts_go key l [] h]
  unfold sayR
  split <;> simp [assoc]
def strV : Value → ByteArray
  | .string s => s
  | _ => ByteArray.empty
open Classical in
noncomputable def doneF (m left : List (ByteArray × Value)) (key : ByteArray) : Option ByteArray := if key ∈ left.map (fun q : ByteArray × Value => q.1) then none else (assoc key m).map strV
theorem assoc_mem {m : List (ByteArray × Value)} : ∀ {p : ByteArray × Value}, p ∈ m → (m.map (·.1)).Nodup → assoc p.1 m = some p.2 := by
  induction m with
  | nil => intro p h; simp at h
  | cons a t ih =>
    intro p h hn
    simp only [List.map_cons, List.nodup_cons] at hn
    unfold assoc
    rcases List.mem_cons.1 h with rfl | h
    · rw [if_pos rfl]
    · rw [if_neg (fun e => hn.1 (by rw [← e]; exact List.mem_map.2 ⟨p, h, rfl⟩))]
      exact ih h hn.2
theorem assoc_out {m : List (ByteArray × Value)} {key : ByteArray} (h : key ∉ m.map (·.1)) : assoc key m = none := by
  induction m with
  | nil => rfl
  | cons a t ih =>
    simp only [List.map_cons, List.mem_cons, not_or] at h
    unfold assoc
    rw [if_neg h.1]
    exact ih h.2
theorem done_start (m : List (ByteArray × Value)) (key : ByteArray) : doneF m m key = none := by
  unfold doneF
  split
  · rfl
  · rename_i h
    rw [assoc_out h]; rfl
theorem done_end {l : List Rec} (h : (l.map (·.key)).Nodup) (key : ByteArray) : doneF (putsR l) [] key = sayR l key := by
  unfold doneF
  rw [if_neg (by simp), assoc_puts h]
  cases sayR l key <;> rfl
theorem done_step {m left : List (ByteArray × Value)} {p : ByteArray × Value} (hp : p ∈ left) (hm : ∀ q ∈ left, q ∈ m) (hn : (m.map (·.1)).Nodup) (key : ByteArray) :
    doneF m (left.filter (fun q => !decide (q.1 = p.1))) key = if key = p.1 then some (strV p.2) else doneF m left key := by
  unfold doneF
  by_cases hk : key = p.1
  · subst hk
    rw [if_neg (by simp), if_pos rfl, assoc_mem (hm p hp) hn]
    rfl
  · rw [if_neg hk]
    have : (key ∈ (left.filter (fun q => !decide (q.1 = p.1))).map (fun q : ByteArray × Value => q.1)) ↔ key ∈ left.map (fun q : ByteArray × Value => q.1) := by
      simp only [List.mem_map, List.mem_filter]
      constructor
      · rintro ⟨q, ⟨h1, _⟩, h2⟩; exact ⟨q, h1, h2⟩
      · rintro ⟨q, h1, h2⟩; exact ⟨q, ⟨h1, by simp; rw [h2]; exact hk⟩, h2⟩
    by_cases hin : key ∈ left.map (fun q : ByteArray × Value => q.1)
    · rw [if_pos (this.2 hin), if_pos hin]
    · rw [if_neg (fun h => hin (this.1 h)), if_neg hin]
noncomputable def entPut (x : Ent) (k v : ByteArray) : Ent :=
  if k = kGid then { x with mt := { x.mt with gid := atoiV v } }
  else if k = kGname then { x with mt := { x.mt with group := v } }
  else if k = kLink then { x with target := v }
  else if k = kMtime then { x with mt := { x.mt with second := (timeAns v.data.toList (rawP v.data.toList)).1, nano := (timeAns v.data.toList (rawP v.data.toList)).2.1 } }
  else if k = kPath then { x with path := v }
  else if k = kUid then { x with mt := { x.mt with uid := atoiV v } }
  else if k = kUname then { x with mt := { x.mt with user := v } }
  else x
theorem say_put (h : HeadN) (da : Option Addr) (dcap : Nat) (d : List UInt8) (f : ByteArray → Option ByteArray) (k v : ByteArray) :
    entSay h da dcap d (fun key => if key = k then some v else f key) = entPut (entSay h da dcap d f) k v := by
  by_cases h1 : k = kGid
  · subst h1; rfl
  · by_cases h2 : k = kGname
    · subst h2; rfl
    · by_cases h3 : k = kLink
      · subst h3; rfl
      · by_cases h4 : k = kMtime
        · subst h4; rfl
        · by_cases h5 : k = kPath
          · subst h5; rfl
          · by_cases h6 : k = kUid
            · subst h6; rfl
            · by_cases h7 : k = kUname
              · subst h7; rfl
              · unfold entPut
                rw [if_neg h1, if_neg h2, if_neg h3, if_neg h4, if_neg h5, if_neg h6, if_neg h7]
                unfold entSay
                simp only [if_neg (Ne.symm h1), if_neg (Ne.symm h2), if_neg (Ne.symm h3), if_neg (Ne.symm h4), if_neg (Ne.symm h5), if_neg (Ne.symm h6), if_neg (Ne.symm h7)]
theorem say_ext {h : HeadN} {da : Option Addr} {dcap : Nat} {d : List UInt8} {f g : ByteArray → Option ByteArray} (e : ∀ k, f k = g k) : entSay h da dcap d f = entSay h da dcap d g := by
  rw [show f = g from funext e]
theorem say_step {h : HeadN} {da : Option Addr} {dcap : Nat} {d : List UInt8} {m left : List (ByteArray × Value)} {p : ByteArray × Value} (hp : p ∈ left) (hm : ∀ q ∈ left, q ∈ m) (hn : (m.map (·.1)).Nodup) :
    entSay h da dcap d (doneF m (left.filter (fun q => !decide (q.1 = p.1)))) = entPut (entSay h da dcap d (doneF m left)) p.1 (strV p.2) := by
  rw [← say_put]
  exact say_ext (done_step hp hm hn)
open Go.RowKit
theorem IterOn.keep {κ : Type} [DecidableEq κ] {mk : κ → Value} {w w' : World} {r bm : Nat} {l left : List (κ × Value)} {row : Option Nat} (h : IterOn mk w r bm l left) (hg : w.grownBy w' row) (h1 : row ≠ some bm) (h2 : row ≠ some r) : IterOn mk w' r bm l left := by
  obtain ⟨a1, a2, a3, es, clock, seen, h4, h5, h6, h7, h8, h9⟩ := h
  exact ⟨a1, a2, a3, es, clock, seen, (hg.block _ (Array.getElem?_eq_some_iff.1 h4).1 (fun e => h1 e.symm)).trans h4, h5, h6, h7, (hg.block _ (Array.getElem?_eq_some_iff.1 h8).1 (fun e => h2 e.symm)).trans h8, h9⟩
theorem MapB.keep {κ : Type} [DecidableEq κ] {mk : κ → Value} {w w' : World} {b : Nat} {l : List (κ × Value)} {row : Option Nat} (h : MapB mk w b l) (hg : w.grownBy w' row) (h1 : row ≠ some b) : MapB mk w' b l := by
  obtain ⟨es, clock, h4, h5⟩ := h
  exact ⟨es, clock, (hg.block _ (Array.getElem?_eq_some_iff.1 h4).1 (fun e => h1 e.symm)).trans h4, h5⟩
theorem grownBelow {w w' : World} (row : Option Nat) (h : Below w.heap.size w w') : w.grownBy w' row := ⟨h.os, h.tape, h.output, h.size, fun i hi _ => h.block i hi⟩
theorem below_grown {B : Nat} {w0 w w' : World} {row : Option Nat} (h : Below B w0 w) (hg : w.grownBy w' row) (hB : B ≤ w.heap.size) (hr : ∀ k, row = some k → B ≤ k) : Below B w0 w' :=
  ⟨hg.os.trans h.os, hg.tape.trans h.tape, hg.output.trans h.output, Nat.le_trans h.size hg.size, fun k hk => (hg.block k (by omega) (fun e => by have := hr k e.symm; omega)).trans (h.block k hk)⟩
def sgnK (k : Nat) : Int := if k = 0 then 63 else if k = 1 then 48 else if k = 2 then 53 else if k = 3 then 50 else 49
def kindK (c : UInt8) : Nat → Int
  | 0 => 0
  | k + 1 => if sgnK k = (c.toNat : Int) then k else kindK c k
theorem kindK_all (c : UInt8) : kindK c 5 = kindOfT c := by
  have hn : ∀ k : UInt8, ((k.toNat : Int) = (c.toNat : Int)) ↔ c = k := fun k => ⟨fun e => (UInt8.toNat_inj.1 (by exact_mod_cast e)).symm, fun e => by rw [e]⟩
  have h0 : sgnK 0 = ((63 : UInt8).toNat : Int) := rfl
  have h1 : sgnK 1 = ((48 : UInt8).toNat : Int) := rfl
  have h2 : sgnK 2 = ((53 : UInt8).toNat : Int) := rfl
  have h3 : sgnK 3 = ((50 : UInt8).toNat : Int) := rfl
  have h4 : sgnK 4 = ((49 : UInt8).toNat : Int) := rfl
  unfold kindOfT
  simp only [kindK, h0, h1, h2, h3, h4, hn]
  by_cases e0 : c = 48
  · subst e0; decide
  · by_cases e1 : c = 53
    · subst e1; decide
    · by_cases e2 : c = 50
      · subst e2; decide
      · by_cases e3 : c = 49
        · subst e3; decide
        · simp [e0, e1, e2, e3]
theorem firstOf_drop {b : List UInt8} {h : HeadN} {d r : List UInt8} (hb : blockOf b = (h, d, r, 0)) : 512 + (padFill d).length + r.length = b.length ∧ r = b.drop (512 + (padFill d).length) := by
  have h1 := blockOf_ok (b := b) (by rw [hb])
  rw [hb] at h1
  exact h1
open Go.RowKit
def metGet (l : List Ent) (k : Nat) (s : ByteArray) : Ent := if entFind (l.take k) s < k then ek l (entFind (l.take k) s) else entZ
theorem metGet_yes {l : List Ent} {k : Nat} {s : ByteArray} (h : entFind (l.take k) s < k) : metGet l k s = ek l (entFind (l.take k) s) := if_pos h
theorem metGet_no {l : List Ent} {k : Nat} {s : ByteArray} (h : ¬ entFind (l.take k) s < k) : metGet l k s = entZ := if_neg h
def OrdOkE (l : List Ent) (i : Nat) : Prop := 0 < i → ordP (pathParts (ek l (i - 1)).path) (pathParts (ek l i).path) = -1
def UpOkE (l : List Ent) (i : Nat) : Prop := (pathUp (ek l i).path).size ≠ 0 → (metGet l i (pathUp (ek l i).path)).kind = 2
def LinkOkE (l : List Ent) (i : Nat) : Prop := (ek l i).kind = 4 → (metGet l i (ek l i).target).kind = 1 ∧ (metGet l i (ek l i).target).mt = (ek l i).mt
open Classical in
noncomputable def stepE (l : List Ent) (i : Nat) : Int :=
  if ¬ entFault (ek l i) = 0 then entFault (ek l i) else if ¬ OrdOkE l i then 6 else if ¬ UpOkE l i then 10 else if ¬ LinkOkE l i then 11 else 0
open Classical in
noncomputable def entsFault (l : List Ent) : Int :=
  if 40 < l.length then 1 else if h : ∃ k, k < l.length ∧ stepE l k ≠ 0 ∧ ∀ j, j < k → stepE l j = 0 then stepE l (Classical.choose h) else 0
theorem entsFault_many {l : List Ent} (h : 40 < l.length) : entsFault l = 1 := by unfold entsFault; rw [if_pos h]
theorem entsFault_at {l : List Ent} {k : Nat} {e : Int} (hl : l.length ≤ 40) (hk : k < l.length) (hz : ∀ j, j < k → stepE l j = 0) (he : stepE l k = e) (hne : e ≠ 0) : entsFault l = e := by
  have hex : ∃ k, k < l.length ∧ stepE l k ≠ 0 ∧ ∀ j, j < k → stepE l j = 0 := ⟨k, hk, by rw [he]; exact hne, hz⟩
  unfold entsFault
  rw [if_neg (by omega), dif_pos hex]
  obtain ⟨h1, h2, h3⟩ := Classical.choose_spec hex
  have : Classical.choose hex = k := by
    rcases Nat.lt_trichotomy (Classical.choose hex) k with h | h | h
    · exact absurd (hz _ h) h2
    · exact h
    · exact absurd (h3 _ h) (by rw [he]; exact hne)
  rw [this, he]
theorem entsFault_ok {l : List Ent} (hl : l.length ≤ 40) (hz : ∀ j, j < l.length → stepE l j = 0) : entsFault l = 0 := by
  unfold entsFault
  rw [if_neg (by omega), dif_neg (by rintro ⟨k, h1, h2, _⟩; exact h2 (hz k h1))]
theorem stepE_ent {l : List Ent} {i : Nat} (h : ¬ entFault (ek l i) = 0) : stepE l i = entFault (ek l i) := by unfold stepE; rw [if_pos h]
theorem stepE_ord {l : List Ent} {i : Nat} (h : entFault (ek l i) = 0) (h1 : ¬ OrdOkE l i) : stepE l i = 6 := by unfold stepE; rw [if_neg (by simpa using h), if_pos h1]
theorem stepE_up {l : List Ent} {i : Nat} (h : entFault (ek l i) = 0) (h1 : OrdOkE l i) (h2 : ¬ UpOkE l i) : stepE l i = 10 := by unfold stepE; rw [if_neg (by simpa using h), if_neg (by simpa using h1), if_pos h2]
theorem stepE_link {l : List Ent} {i : Nat} (h : entFault (ek l i) = 0) (h1 : OrdOkE l i) (h2 : UpOkE l i) (h3 : ¬ LinkOkE l i) : stepE l i = 11 := by unfold stepE; rw [if_neg (by simpa using h), if_neg (by simpa using h1), if_neg (by simpa using h2), if_pos h3]
theorem stepE_ok {l : List Ent} {i : Nat} (h : entFault (ek l i) = 0) (h1 : OrdOkE l i) (h2 : UpOkE l i) (h3 : LinkOkE l i) : stepE l i = 0 := by unfold stepE; rw [if_neg (by simpa using h), if_neg (by simpa using h1), if_neg (by simpa using h2), if_neg (by simpa using h3)]
theorem stepE_zero {l : List Ent} {i : Nat} (h : stepE l i = 0) : entFault (ek l i) = 0 ∧ OrdOkE l i := by
  have h0 : entFault (ek l i) = 0 := Classical.byContradiction fun e => e ((stepE_ent e).symm.trans h)
  refine ⟨h0, Classical.byContradiction fun e => ?_⟩
  rw [stepE_ord h0 e] at h
  cases h
theorem entFault_path {x : Ent} (h : entFault x = 0) : x.path.size ≤ 400 := by
  unfold entFault entFaultN at h
  have hp : pathFault x.path = 0 := Classical.byContradiction fun e => by rw [if_pos e] at h; exact e h
  refine Classical.byContradiction fun e => ?_
  have := pathFault_size (s := x.path) (.inr (by omega))
  rw [hp] at this
  cases this
theorem ordP_range (X Y : List ByteArray) : ordP X Y = -1 ∨ ordP X Y = 0 ∨ ordP X Y = 1 := by
  induction X generalizing Y with
  | nil => cases Y <;> simp [ordP]
  | cons x X ih =>
    cases Y with
    | nil => simp [ordP]
    | cons y Y =>
      unfold ordP
      split
      · exact ih Y
      · rcases cmpS_cases x y with ⟨_, h⟩ | ⟨_, _, h⟩ | ⟨_, _, h⟩ <;> simp [h]
open Classical in
noncomputable def ordBadE (l : List Ent) (k : Nat) : Bool := decide (¬ OrdOkE l k)
theorem ordBadE_t {l : List Ent} {k : Nat} (h : ¬ OrdOkE l k) : ordBadE l k = true := by unfold ordBadE; simp [h]
theorem ordBadE_f {l : List Ent} {k : Nat} (h : OrdOkE l k) : ordBadE l k = false := by unfold ordBadE; simp [h]
open Classical in
noncomputable def upOkE (l : List Ent) (k : Nat) : Bool := decide (UpOkE l k)
theorem upOkE_t {l : List Ent} {k : Nat} (h : UpOkE l k) : upOkE l k = true := by unfold upOkE; simp [h]
theorem upOkE_f {l : List Ent} {k : Nat} (h : ¬ UpOkE l k) : upOkE l k = false := by unfold upOkE; simp [h]
open Classical in
noncomputable def linkOkE (l : List Ent) (k : Nat) : Bool := decide (LinkOkE l k)
theorem linkOkE_t {l : List Ent} {k : Nat} (h : LinkOkE l k) : linkOkE l k = true := by unfold linkOkE; simp [h]
theorem linkOkE_f {l : List Ent} {k : Nat} (h : ¬ LinkOkE l k) : linkOkE l k = false := by unfold linkOkE; simp [h]
theorem ordE_zero (l : List Ent) : ordBadE l 0 = false := ordBadE_f (fun h => absurd h (by omega))
theorem ordE_dec (l : List Ent) (q : Nat) : decide (0 ≤ ordP (pathParts (ek l q).path) (pathParts (ek l (q + 1)).path)) = ordBadE l (q + 1) := by
  by_cases h : ordP (pathParts (ek l q).path) (pathParts (ek l (q + 1)).path) = -1
  · rw [ordBadE_f (fun _ => by simpa using h), h]; rfl
  · rw [ordBadE_t (fun e => h (by simpa using e (by omega)))]
    rcases ordP_range (pathParts (ek l q).path) (pathParts (ek l (q + 1)).path) with e | e | e
    · exact absurd e h
    · rw [e]; rfl
    · rw [e]; rfl
theorem zsE_next {l : List Ent} {k : Nat} (hz : ∀ j, j < k → stepE l j = 0) (h : stepE l k = 0) : ∀ j, j < k + 1 → stepE l j = 0 := fun j hj => by
  by_cases e : j = k
  · rw [e]; exact h
  · exact hz j (by omega)
theorem meta_sameE {x y : Meta} (h0 : x.mode = y.mode) (h1 : x.uid = y.uid) (h2 : x.gid = y.gid) (h3 : x.user.toList = y.user.toList) (h4 : x.group.toList = y.group.toList) (h5 : x.second = y.second) (h6 : x.nano = y.nano) : x = y := by
  obtain ⟨a, b, c, d, e, f, g⟩ := x
  obtain ⟨a', b', c', d', e', f', g'⟩ := y
  simp only at *
  rw [h0, h1, h2, toList_inj h3, toList_inj h4, h5, h6]
theorem meta_casesE {x y : Meta} (h : x ≠ y) : (¬ x.mode = y.mode) ∨ (x.mode = y.mode ∧ ¬ x.uid = y.uid) ∨ (x.mode = y.mode ∧ x.uid = y.uid ∧ ¬ x.gid = y.gid) ∨ (x.mode = y.mode ∧ x.uid = y.uid ∧ x.gid = y.gid ∧ ¬ x.user.toList = y.user.toList) ∨
    (x.mode = y.mode ∧ x.uid = y.uid ∧ x.gid = y.gid ∧ x.user.toList = y.user.toList ∧ ¬ x.group.toList = y.group.toList) ∨ (x.mode = y.mode ∧ x.uid = y.uid ∧ x.gid = y.gid ∧ x.user.toList = y.user.toList ∧ x.group.toList = y.group.toList ∧ ¬ x.second = y.second) ∨
    (x.mode = y.mode ∧ x.uid = y.uid ∧ x.gid = y.gid ∧ x.user.toList = y.user.toList ∧ x.group.toList = y.group.toList ∧ x.second = y.second ∧ ¬ x.nano = y.nano) := by
  by_cases h0 : x.mode = y.mode
  · by_cases h1 : x.uid = y.uid
    · by_cases h2 : x.gid = y.gid
      · by_cases h3 : x.user.toList = y.user.toList
        · by_cases h4 : x.group.toList = y.group.toList
          · by_cases h5 : x.second = y.second
            · by_cases h6 : x.nano = y.nano
              · exact absurd (meta_sameE h0 h1 h2 h3 h4 h5 h6) h
              · simp [h0, h1, h2, h3, h4, h5, h6]
            · simp [h0, h1, h2, h3, h4, h5]
          · simp [h0, h1, h2, h3, h4]
        · simp [h0, h1, h2, h3]
      · simp [h0, h1, h2]
    · simp [h0, h1]
  · simp [h0]
open Go.RowKit
theorem addr_zeroB (a : Option Addr) : a.map (·.add 0) = a := by cases a <;> simp [Addr.add]
theorem bytes_take {N : Nat} {w : World} {a : Option Addr} {n cap i : Nat} {l : List UInt8} (h : SliceC N 1 ByteC w [.slice a n cap] l) (hi : i ≤ l.length) : SliceC N 1 ByteC w [.slice a i cap] (l.take i) := by
  obtain ⟨a', cap', hv, h1, h2, h3, h4, h5⟩ := h
  simp only [List.cons.injEq, Value.slice.injEq, and_true] at hv
  obtain ⟨rfl, rfl, rfl⟩ := hv
  have hl : (l.take i).length = i := by rw [List.length_take]; omega
  refine ⟨a, cap, by rw [hl], by omega, h2, by omega, h4, fun hp => ?_⟩
  obtain ⟨b, off, e, hc⟩ := h5 (by omega)
  refine ⟨b, off, e, fun k hk => ?_⟩
  obtain ⟨c, hcl, hcc, hE⟩ := hc k (by omega)
  exact ⟨c, hcl, hcc, by rw [List.getElem_take]; exact hE⟩
theorem bytes_drop {N : Nat} {w : World} {a : Option Addr} {n cap i : Nat} {l : List UInt8} (h : SliceC N 1 ByteC w [.slice a n cap] l) (hi : i ≤ l.length) : SliceC N 1 ByteC w [sliced a i n cap 1] (l.drop i) := by
  obtain ⟨a', cap', hv, h1, h2, h3, h4, h5⟩ := h
  simp only [List.cons.injEq, Value.slice.injEq, and_true] at hv
  obtain ⟨rfl, rfl, rfl⟩ := hv
  have hl : (l.drop i).length = l.length - i := List.length_drop
  unfold sliced
  refine ⟨if cap = i then a else a.map (·.add (i * 1)), cap - i, by rw [hl], by omega, by omega, by omega, fun h => ?_, fun hp => ?_⟩
  · split at h
    · have := h4 h; omega
    · cases ha : a with
      | none => have := h4 ha; omega
      | some x => rw [ha] at h; cases h
  · obtain ⟨b, off, e, hc⟩ := h5 (by omega)
    refine ⟨b, off + i * 1, ?_, fun k hk => ?_⟩
    · rw [if_neg (by omega), e]
      simp only [Option.map_some, Addr.add]
      by_cases h0 : i = 0 <;> simp [h0]
    · obtain ⟨c, hcl, hcc, hE⟩ := hc (i + k) (by omega)
      refine ⟨c, hcl, fun j hj => ?_, by rw [List.getElem_drop]; exact hE⟩
      rw [← hcc j hj]
      congr 2
      omega
theorem bytes_form {N : Nat} {w : World} {v : Value} {l : List UInt8} (h : SliceC N 1 ByteC w [v] l) : ∃ a cap, v = .slice a l.length cap ∧ l.length ≤ cap := by
  obtain ⟨a, cap, hv, h1, _⟩ := h
  exact ⟨a, cap, by simpa using hv, h1⟩
end Go.Creel
namespace Go.Proofs.YtaffgndickdbiaaGreatDoor
open Go.Creel Go.RowKit
theorem run_takeB (w : World) (a : Option Addr) (n cap i : Nat) (h : i ≤ n) (hc : n ≤ cap) : (Instr.slice 24 (.slice a n cap) none (some (.int .i64 i)) none).run Tryz.prog w = .ok (.slice a i cap) w := by
  rw [run_slice_h w 24 a n cap (by kernel_rfl) .i64 i (by omega) (by omega)]
  have hs : (sizeOf (Tryz.prog.elem 24)).run Tryz.prog w = .ok 1 w := by kernel_rfl
  rw [hs]
  simp only [Result.andThen, sliced, Int.toNat_natCast, Nat.zero_mul, addr_zeroB, ite_self, Nat.sub_zero]
theorem run_dropB (w : World) (a : Option Addr) (n cap i : Nat) (h : i ≤ n) (hc : n ≤ cap) : (Instr.slice 24 (.slice a n cap) (some (.int .i64 i)) none none).run Tryz.prog w = .ok (sliced a i n cap 1) w := by
  rw [run_slice_l w 24 a n cap (by kernel_rfl) .i64 i (by omega) (by omega)]
  have hs : (sizeOf (Tryz.prog.elem 24)).run Tryz.prog w = .ok 1 w := by kernel_rfl
  rw [hs]
  simp only [Result.andThen, Int.toNat_natCast]
end Go.Proofs.YtaffgndickdbiaaGreatDoor
namespace Go.Creel
open Go.RowKit
theorem bytes_mid {N : Nat} {w : World} {a : Option Addr} {n cap i j : Nat} {l : List UInt8} (h : SliceC N 1 ByteC w [.slice a n cap] l) (hi : i ≤ j) (hj : j ≤ l.length) : SliceC N 1 ByteC w [sliced a i j cap 1] ((l.drop i).take (j - i)) :=
  bytes_take (bytes_drop h (Nat.le_trans hi hj)) (by rw [List.length_drop]; omega)
abbrev zeroN (n : Nat) : List UInt8 := List.replicate n 0
theorem ek_map (l : List Ent) (k : Nat) : ek (l.map Ent.bare) k = (ek l k).bare := by
  unfold ek
  rw [List.getD_eq_getElem?_getD, List.getElem?_map, List.getD_eq_getElem?_getD]
  cases l[k]? <;> rfl
theorem entFind_map (s : ByteArray) : ∀ l : List Ent, entFind (l.map Ent.bare) s = entFind l s
  | [] => rfl
  | x :: t => by
    simp only [List.map_cons, entFind, entFind_map s t]
    rfl
theorem metGet_map (l : List Ent) (k : Nat) (s : ByteArray) : metGet (l.map Ent.bare) k s = (metGet l k s).bare := by
  unfold metGet
  rw [← List.map_take, entFind_map, ek_map]
  split <;> rfl
open Classical in
theorem stepE_map (l : List Ent) (i : Nat) : stepE (l.map Ent.bare) i = stepE l i := by
  have h0 : entFault (ek (l.map Ent.bare) i) = entFault (ek l i) := by rw [ek_map]; rfl
  have h1 : OrdOkE (l.map Ent.bare) i ↔ OrdOkE l i := by unfold OrdOkE; rw [ek_map, ek_map]; exact Iff.rfl
  have h2 : UpOkE (l.map Ent.bare) i ↔ UpOkE l i := by unfold UpOkE; rw [ek_map, metGet_map]; exact Iff.rfl
  have h3 : LinkOkE (l.map Ent.bare) i ↔ LinkOkE l i := by unfold LinkOkE; rw [ek_map, metGet_map]; exact Iff.rfl
  unfold stepE
  rw [h0]
  exact ite_congr rfl (fun _ => rfl) (fun _ => ite_congr (propext (not_congr h1)) (fun _ => rfl) (fun _ => ite_congr (propext (not_congr h2)) (fun _ => rfl) (fun _ => ite_congr (propext (not_congr h3)) (fun _ => rfl) (fun _ => rfl))))
theorem entsFault_map (l : List Ent) : entsFault (l.map Ent.bare) = entsFault l := by
  have h : stepE (l.map Ent.bare) = stepE l := funext (stepE_map l)
  unfold entsFault
  rw [List.length_map, h]
theorem entsFault_bare {l m : List Ent} (h : l.map Ent.bare = m.map Ent.bare) : entsFault l = entsFault m := by
  rw [← entsFault_map l, ← entsFault_map m, h]
theorem entFind_bare {l m : List Ent} (h : l.map Ent.bare = m.map Ent.bare) (s : ByteArray) : entFind l s = entFind m s := by
  rw [← entFind_map s l, ← entFind_map s m, h]
theorem memEnd_rng {b : List UInt8} {n : Nat} {h : HeadN} {l : List Rec} {d : List UInt8} (he : (memEnd b n h l d).2.2 = 0) : (memEnd b n h l d).2.1 = (n : Int) := by
  unfold memEnd at he ⊢
  split at he
  · rename_i h1; rw [if_pos h1]
  · cases he
theorem memOf_rng {b : List UInt8} (he : (memOf b).2.2 = 0) : ∃ n : Nat, (memOf b).2.1 = (n : Int) ∧ 512 ≤ n ∧ n ≤ b.length := by
  obtain ⟨⟨h1, d1, r1, e1⟩, hk⟩ : ∃ q, blockOf b = q := ⟨_, rfl⟩
  by_cases h0 : e1 = 0
  · subst h0
    have hf := firstOf_drop hk
    by_cases ht : h1.typ = 120
    · obtain ⟨⟨l, e2⟩, hp⟩ : ∃ q, paxOf (ofL d1) = q := ⟨_, rfl⟩
      by_cases he2 : e2 = 0
      · subst he2
        obtain ⟨⟨h2, d2, r2, e3⟩, hk2⟩ : ∃ q, blockOf r1 = q := ⟨_, rfl⟩
        by_cases he3 : e3 = 0
        · subst he3
          have hf2 := firstOf_drop hk2
          rw [memOf_pax hk ht hp hk2] at he ⊢
          exact ⟨_, memEnd_rng he, by omega, by omega⟩
        · rw [memOf_bad3 hk ht hp hk2 he3] at he; exact absurd he he3
      · rw [memOf_bad2 hk ht hp he2] at he; exact absurd he he2
    · rw [memOf_plain hk ht] at he ⊢
      exact ⟨_, memEnd_rng he, by omega, by omega⟩
  · rw [memOf_bad1 hk h0] at he; exact absurd he h0
open Classical in
noncomputable def someGo (b : List UInt8) : Nat → Nat → List Ent → List Ent × Nat × Int
  | 0, k, acc => (acc, k, 7)
  | f + 1, k, acc =>
    if (b.drop k).length < 512 then (acc, k, 7)
    else if (b.drop k).take 512 = zeroN 512 then (acc, k, 0)
    else if ¬ (memOf (b.drop k)).2.2 = 0 then (acc, k, (memOf (b.drop k)).2.2)
    else someGo b f (k + (memOf (b.drop k)).2.1.toNat) (acc ++ [(memOf (b.drop k)).1])
noncomputable def someOf (b : List UInt8) : List Ent × Nat × Int := someGo b (b.length + 1) 0 []
section
variable {b : List UInt8} {f k : Nat} {acc : List Ent}
theorem someGo_short (h : (b.drop k).length < 512) : someGo b (f + 1) k acc = (acc, k, 7) := by
  unfold someGo; rw [if_pos h]
theorem someGo_zero (h : ¬ (b.drop k).length < 512) (h2 : (b.drop k).take 512 = zeroN 512) : someGo b (f + 1) k acc = (acc, k, 0) := by
  unfold someGo; rw [if_neg h, if_pos h2]
theorem someGo_bad (h : ¬ (b.drop k).length < 512) (h2 : ¬ (b.drop k).take 512 = zeroN 512) {x : Ent} {n e : Int} (h3 : memOf (b.drop k) = (x, n, e)) (he : ¬ e = 0) : someGo b (f + 1) k acc = (acc, k, e) := by
  unfold someGo; rw [if_neg h, if_neg h2, h3]; simp only; rw [if_pos he]
theorem someGo_step (h : ¬ (b.drop k).length < 512) (h2 : ¬ (b.drop k).take 512 = zeroN 512) {x : Ent} {n : Nat} (h3 : memOf (b.drop k) = (x, (n : Int), 0)) : someGo b (f + 1) k acc = someGo b f (k + n) (acc ++ [x]) := by
  conv => lhs; unfold someGo
  rw [if_neg h, if_neg h2, h3]; simp only; rw [if_neg (by simp), Int.toNat_natCast]
end
theorem someGo_at (b : List UInt8) : ∀ (f k : Nat) (acc : List Ent), k ≤ b.length → (someGo b f k acc).2.1 ≤ b.length
  | 0, k, acc, h => h
  | f + 1, k, acc, h => by
    unfold someGo
    split
    · exact h
    · split
      · exact h
      · split
        · exact h
        · rename_i h3
          obtain ⟨n, hn, _, hle⟩ := memOf_rng (Classical.not_not.1 h3)
          rw [hn, Int.toNat_natCast]
          rw [List.length_drop] at hle
          exact someGo_at b f _ _ (by omega)
theorem someOf_at (b : List UInt8) : (someOf b).2.1 ≤ b.length := someGo_at b _ 0 [] (Nat.zero_le _)
open Classical in
noncomputable def arcIn (b : List UInt8) : List Ent × Int :=
  if ¬ (someOf b).2.2 = 0 then ([], (someOf b).2.2)
  else if ¬ b.drop (someOf b).2.1 = zeroN 1024 then ([], 3)
  else if ¬ entsFault (someOf b).1 = 0 then ([], entsFault (someOf b).1)
  else ((someOf b).1, 0)
section
variable {b : List UInt8} {l : List Ent} {k : Nat} {e : Int}
theorem arcIn_bad (h : someOf b = (l, k, e)) (he : ¬ e = 0) : arcIn b = ([], e) := by unfold arcIn; rw [h]; simp only; rw [if_pos he]
theorem arcIn_form (h : someOf b = (l, k, 0)) (h2 : ¬ b.drop k = zeroN 1024) : arcIn b = ([], 3) := by unfold arcIn; rw [h]; simp only; rw [if_neg (by simp), if_pos h2]
theorem arcIn_fault (h : someOf b = (l, k, 0)) (h2 : b.drop k = zeroN 1024) (h3 : ¬ entsFault l = 0) : arcIn b = ([], entsFault l) := by unfold arcIn; rw [h]; simp only; rw [if_neg (by simp), if_neg (by simpa using h2), if_pos h3]
theorem arcIn_ok (h : someOf b = (l, k, 0)) (h2 : b.drop k = zeroN 1024) (h3 : entsFault l = 0) : arcIn b = (l, 0) := by unfold arcIn; rw [h]; simp only; rw [if_neg (by simp), if_neg (by simpa using h2), if_neg (by simpa using h3)]
end
noncomputable def findIn (b : List UInt8) (s : ByteArray) : Ent × Int :=
  if ¬ (arcIn b).2 = 0 then (entNone, (arcIn b).2)
  else if entFind (arcIn b).1 s < (arcIn b).1.length then (ek (arcIn b).1 (entFind (arcIn b).1 s), 0) else (entNone, 5)
def RetSome (t : TypeId) (w : World) (p : List Ent × Nat × Int) (e : Ending) (w' : World) : Prop := ∃ v l', e = .returned (.tuple #[v, .int .i64 (p.2.1 : Int), .int .i64 p.2.2]) ∧ OwnEnts t w' w.heap.size v l' ∧ l'.map Ent.bare = p.1.map Ent.bare ∧ l'.length ≤ 2048 ∧ (∀ x ∈ l', ∀ p, x.da = some p → w.heap.size ≤ p.block) ∧ Below w.heap.size w w'
def RetArc (t : TypeId) (w : World) (p : List Ent × Int) (e : Ending) (w' : World) : Prop := ∃ v l', e = .returned (.tuple #[v, .int .i64 p.2]) ∧ OwnEnts t w' w.heap.size v l' ∧ l'.map Ent.bare = p.1.map Ent.bare ∧ (∀ x ∈ l', ∀ p, x.da = some p → w.heap.size ≤ p.block) ∧ Below w.heap.size w w'
def RetFind (w : World) (p : Ent × Int) (e : Ending) (w' : World) : Prop := ∃ x : Ent, e = .returned (.tuple #[x.val, .int .i64 p.2]) ∧ x.bare = p.1.bare ∧ x.Ok maxLen w' ∧ Below w.heap.size w w'
end Go.Creel
