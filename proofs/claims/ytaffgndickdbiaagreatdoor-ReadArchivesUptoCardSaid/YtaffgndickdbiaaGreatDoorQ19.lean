/-
  Texts: Ents, PackL.
-/
import Derived.Test.YtaffgndickdbiaaGreatDoorQ18
import Derived.Sort.Walk0
set_option linter.unusedVariables false
set_option linter.unusedSimpArgs false
set_option linter.unusedSectionVars false
namespace Go.Creel
open Go.RowKit
def entZ : Ent := ⟨.empty,0,.empty,⟨0,0,0,.empty,.empty,0,0⟩,none,0,[]⟩
def ek (l : List Ent) (k : Nat) : Ent := l.getD k entZ
theorem ek_eq {l : List Ent} {k : Nat} (h : k < l.length) : ek l k = l[k] := by simp [ek,List.getD_eq_getElem?_getD,List.getElem?_eq_getElem h]
theorem ek_take {l : List Ent} {i j : Nat} (h : j < i) : ek (l.take i) j = ek l j := by
 simp [ek,List.getD_eq_getElem?_getD,h]
def EntAt (w : World) (b o : Nat) (x : Ent) : Prop := w.cell? ⟨b,o,none⟩ = some (.string x.path) ∧ w.cell? ⟨b,o + 1,none⟩ = some (.int .i64 x.kind) ∧ w.cell? ⟨b,o + 2,none⟩ = some (.string x.target) ∧ w.cell? ⟨b,o + 3,none⟩ = some (.int .i64 x.mt.mode) ∧ w.cell? ⟨b,o + 4,none⟩ = some (.int .i64 x.mt.uid) ∧ w.cell? ⟨b,o + 5,none⟩ = some (.int .i64 x.mt.gid) ∧ w.cell? ⟨b,o + 6,none⟩ = some (.string x.mt.user) ∧ w.cell? ⟨b,o + 7,none⟩ = some (.string x.mt.group) ∧ w.cell? ⟨b,o + 8,none⟩ = some (.int .i64 x.mt.second) ∧ w.cell? ⟨b,o + 9,none⟩ = some (.int .i64 x.mt.nano) ∧ w.cell? ⟨b,o + 10,none⟩ = some (.slice x.da x.data.length x.dcap)
def EntsAt (w : World) (b off : Nat) (l : List Ent) : Prop := ∀ i,i < l.length → EntAt w b (off + i * 11) (ek l i)
theorem EntAt.lt {w : World} {b o : Nat} {x : Ent} (h : EntAt w b o x) : b < w.heap.size := World.block_lt_of_cell? w _ h.1
theorem EntAt.below {w w' : World} {b o : Nat} {x : Ent} (h : EntAt w b o x) (hb : Below w.heap.size w w') : EntAt w' b o x := by
 have hlt:=h.lt
 obtain ⟨h0,h1,h2,h3,h4,h5,h6,h7,h8,h9,h10⟩:=h
 exact ⟨(hb.cell (p:=⟨b,o,none⟩) hlt).trans h0,(hb.cell (p:=⟨b,o+1,none⟩) hlt).trans h1,(hb.cell (p:=⟨b,o+2,none⟩) hlt).trans h2,(hb.cell (p:=⟨b,o+3,none⟩) hlt).trans h3,(hb.cell (p:=⟨b,o+4,none⟩) hlt).trans h4,(hb.cell (p:=⟨b,o+5,none⟩) hlt).trans h5,(hb.cell (p:=⟨b,o+6,none⟩) hlt).trans h6,(hb.cell (p:=⟨b,o+7,none⟩) hlt).trans h7,(hb.cell (p:=⟨b,o+8,none⟩) hlt).trans h8,(hb.cell (p:=⟨b,o+9,none⟩) hlt).trans h9,(hb.cell (p:=⟨b,o+10,none⟩) hlt).trans h10⟩
theorem EntAt.zero {w : World} {b : Nat} {x : Ent} (h : EntAt w b 0 x) : w.cell? ⟨b,0,none⟩ = some (.string x.path) ∧ w.cell? ⟨b,1,none⟩ = some (.int .i64 x.kind) ∧ w.cell? ⟨b,2,none⟩ = some (.string x.target) ∧ w.cell? ⟨b,3,none⟩ = some (.int .i64 x.mt.mode) ∧ w.cell? ⟨b,4,none⟩ = some (.int .i64 x.mt.uid) ∧ w.cell? ⟨b,5,none⟩ = some (.int .i64 x.mt.gid) ∧ w.cell? ⟨b,6,none⟩ = some (.string x.mt.user) ∧ w.cell? ⟨b,7,none⟩ = some (.string x.mt.group) ∧ w.cell? ⟨b,8,none⟩ = some (.int .i64 x.mt.second) ∧ w.cell? ⟨b,9,none⟩ = some (.int .i64 x.mt.nano) ∧ w.cell? ⟨b,10,none⟩ = some (.slice x.da x.data.length x.dcap) := h
theorem EntsAt.below {w w' : World} {b off : Nat} {l : List Ent} (h : EntsAt w b off l) (hb : Below w.heap.size w w') : EntsAt w' b off l := fun i hi => (h i hi).below hb
theorem EntsAt.take {w : World} {b off : Nat} {l : List Ent} (h : EntsAt w b off l) (i : Nat) : EntsAt w b off (l.take i) := by
 intro j hj
 have hj':j<i/\j<l.length:=by simp at hj;omega
 rw [ek_take hj'.1]
 exact h j hj'.2
theorem Ent.Ok.below {N : Nat} {w w' : World} {x : Ent} (h : x.Ok N w) (hb : Below w.heap.size w w') : x.Ok N w' := ⟨h.path,h.kind,h.target,h.mt,h.data.below (fun _ _ h => h) hb⟩
theorem entAt_box (w : World) (x : Ent) (t : TypeId) : EntAt (w.alloc (.cells #[.string x.path,.int .i64 x.kind,.string x.target,.int .i64 x.mt.mode,.int .i64 x.mt.uid,.int .i64 x.mt.gid,.string x.mt.user,.string x.mt.group,.int .i64 x.mt.second,.int .i64 x.mt.nano,.slice x.da x.data.length x.dcap] t)) w.heap.size 0 x := by
 refine ⟨?_,?_,?_,?_,?_,?_,?_,?_,?_,?_,?_⟩<;>simp [World.cell?_alloc_new]
theorem ents_cases {N : Nat} {w : World} {v : Value} {l : List Ent} (h : SliceC N 11 (EntC N) w [v] l) : (∃ a cap,v = .slice a 0 cap ∧ l = [] ∧ cap ≤ maxLen ∧ (a = none → cap = 0)) ∨
 ∃ b off cap,v = .slice (some ⟨b,off,none⟩) l.length cap/\0<l.length/\l.length<=cap/\cap<=maxLen/\l.length<=N/\EntsAt w b off l/\∀ i,i<l.length->(ek l i).Ok N w:=by
 obtain ⟨a,cap,hv,h1,h2,h3,h5,h4⟩:=h
 simp only [List.cons.injEq,and_true] at hv
 by_cases hl:0<l.length
 ·obtain ⟨b,off,rfl,hc⟩:=h4 hl
  refine .inr ⟨b,off,cap,hv,hl,h1,h2,h3,fun i hi=>?_,fun i hi=>?_⟩
  ·obtain ⟨c,_,hcc,hE,hn⟩:=hc i hi
   rw [ek_eq hi]
   subst hE
   refine ⟨?_,?_,?_,?_,?_,?_,?_,?_,?_,?_,?_⟩
   ·exact hcc 0 (by omega)
   ·exact hcc 1 (by omega)
   ·exact hcc 2 (by omega)
   ·exact hcc 3 (by omega)
   ·exact hcc 4 (by omega)
   ·exact hcc 5 (by omega)
   ·exact hcc 6 (by omega)
   ·exact hcc 7 (by omega)
   ·exact hcc 8 (by omega)
   ·exact hcc 9 (by omega)
   ·exact hcc 10 (by omega)
  ·obtain ⟨c,_,hcc,hE,hn⟩:=hc i hi
   rw [ek_eq hi]
   exact hn
 ·have:l=[]:=by
   cases l with
   | nil=>rfl
   | cons x r=>simp at hl
  subst this
  exact .inl ⟨a,cap,by simpa using hv,rfl,h2,h5⟩
def entFind : List Ent → ByteArray → Nat
 | [],_=>0
 | x::t,s=>if x.path=s then 0 else entFind t s+1
theorem entFind_le : ∀ (l : List Ent) (s : ByteArray),entFind l s ≤ l.length
 | [],_=>Nat.le_refl _
 | x::t,s=>by
   have:=entFind_le t s
   unfold entFind
   split<;>simp<;>omega
theorem entFind_at : ∀ {l : List Ent} {s : ByteArray} {k : Nat},k < l.length → (∀ j,j < k → (ek l j).path ≠ s) → (ek l k).path = s → entFind l s = k
 | [],_,_,h,_,_=>absurd h (by simp)
 | x::t,s,0,_,_,he=>by unfold entFind;exact if_pos he
 | x::t,s,k+1,h,hn,he=>by
   unfold entFind
   rw [if_neg (show x.path≠s from hn 0 (by omega)),entFind_at (k:=k) (by simpa using h) (fun j hj=>hn (j+1) (by omega)) he]
theorem entFind_no : ∀ {l : List Ent} {s : ByteArray},(∀ j,j < l.length → (ek l j).path ≠ s) → entFind l s = l.length
 | [],_,_=>rfl
 | x::t,s,hn=>by
   unfold entFind
   rw [if_neg (show x.path≠s from hn 0 (by simp)),entFind_no (fun j hj=>hn (j+1) (by simpa using hj))]
   rfl
theorem entFind_lt : ∀ {l : List Ent} {s : ByteArray},entFind l s < l.length → (ek l (entFind l s)).path = s
 | [],_,h=>absurd h (by simp)
 | x::t,s,h=>by
   unfold entFind at h ⊢
   by_cases e:x.path=s
   ·rw [if_pos e];exact e
   ·rw [if_neg e] at h ⊢
    have h':entFind t s<t.length:=by simp at h;omega
    exact entFind_lt h'
theorem entFind_ne : ∀ {l : List Ent} {s : ByteArray} {j : Nat},j < entFind l s → (ek l j).path ≠ s
 | [],_,_,h=>absurd h (by simp [entFind])
 | x::t,s,j,h=>by
   unfold entFind at h
   by_cases e:x.path=s
   ·rw [if_pos e] at h;omega
   ·rw [if_neg e] at h
    cases j with
    | zero=>exact e
    | succ j=>exact entFind_ne (l:=t) (by omega)
theorem entFind_take {l : List Ent} {s : ByteArray} {k : Nat} (hk : k < l.length) (h : entFind (l.take k) s < k) : entFind (l.take (k + 1)) s = entFind (l.take k) s := by
 have h1:=entFind_lt (l:=l.take k) (s:=s) (by rw [List.length_take];omega)
 rw [ek_take h] at h1
 refine entFind_at (by rw [List.length_take];omega) (fun j hj=>?_) (by rw [ek_take (by omega)];exact h1)
 have:=entFind_ne (l:=l.take k) (s:=s) hj
 rw [ek_take (by omega)] at this ⊢
 exact this
theorem entFind_not {l : List Ent} {s : ByteArray} {k : Nat} (hk : k ≤ l.length) (h : ¬ entFind (l.take k) s < k) : ∀ j,j < k → (ek l j).path ≠ s := by
 intro j hj
 have:=entFind_ne (l:=l.take k) (s:=s) (j:=j) (by omega)
 rwa [ek_take hj] at this
theorem entFind_none {l : List Ent} {s : ByteArray} {k : Nat} (hk : k ≤ l.length) (h : ∀ j,j < k → (ek l j).path ≠ s) : entFind (l.take k) s = k := by
 have hl:(l.take k).length=k:=by rw [List.length_take];omega
 have:=entFind_no (l:=l.take k) (s:=s) (fun j hj=>by rw [hl] at hj;rw [ek_take hj];exact h j hj)
 rw [this,hl]
theorem cmpS_zero {x y : ByteArray} : cmpS x y = 0 ↔ x = y := by
 rcases cmpS_cases x y with ⟨h1,h3⟩|⟨h1,h2,h3⟩|⟨h1,h2,h3⟩
 ·rw [h3]
  refine ⟨fun e=>(by cases e),fun e=>?_⟩
  subst e
  rw [Go.Proofs.bytesLess_eq] at h1
  exact absurd (of_decide_eq_true h1) (List.lt_irrefl _)
 ·exact ⟨fun _=>toList_inj (by simpa using h2),fun _=>h3⟩
 ·rw [h3]
  refine ⟨fun e=>(by cases e),fun e=>?_⟩
  subst e
  simp at h2
theorem cmpS_neg {x y : ByteArray} : cmpS x y = -1 ↔ x.toList < y.toList := by
 rcases cmpS_cases x y with ⟨h1,h3⟩|⟨h1,h2,h3⟩|⟨h1,h2,h3⟩
 ·rw [Go.Proofs.bytesLess_eq] at h1
  exact ⟨fun _=>of_decide_eq_true h1,fun _=>h3⟩
 ·rw [h3]
  rw [Go.Proofs.bytesLess_eq] at h1
  exact ⟨fun e=>(by cases e),fun e=>absurd e (of_decide_eq_false h1)⟩
 ·rw [h3]
  rw [Go.Proofs.bytesLess_eq] at h1
  exact ⟨fun e=>(by cases e),fun e=>absurd e (of_decide_eq_false h1)⟩
theorem cmpS_tr {x y z : ByteArray} (h1 : cmpS x y = -1) (h2 : cmpS y z = -1) : cmpS x z = -1 := cmpS_neg.2 (List.lt_trans (cmpS_neg.1 h1) (cmpS_neg.1 h2))
theorem cmpS_self (x : ByteArray) : cmpS x x = 0 := cmpS_zero.2 rfl
theorem ordP_self : ∀ X : List ByteArray,ordP X X = 0
 | []=>rfl
 | x::X=>by unfold ordP;rw [if_pos (cmpS_self x)];exact ordP_self X
theorem ordP_cons {x y : ByteArray} {X Y : List ByteArray} : ordP (x :: X) (y :: Y) = if cmpS x y = 0 then ordP X Y else cmpS x y := rfl
theorem ordP_tr : ∀ {X Y Z : List ByteArray},ordP X Y = -1 → ordP Y Z = -1 → ordP X Z = -1
 | [],[],_,h1,_=>by cases h1
 | [],_::_,[],_,h2=>by cases h2
 | [],_::_,_::_,_,_=>rfl
 | _::_,[],_,h1,_=>by cases h1
 | _::_,_::_,[],_,h2=>by cases h2
 | x::X,y::Y,z::Z,h1,h2=>by
   rw [ordP_cons] at h1 h2 ⊢
   by_cases e1:cmpS x y=0
   ·rw [if_pos e1] at h1
    obtain rfl:=cmpS_zero.1 e1
    by_cases e2:cmpS x z=0
    ·rw [if_pos e2] at h2 ⊢
     exact ordP_tr h1 h2
    ·rw [if_neg e2] at h2 ⊢
     exact h2
   ·rw [if_neg e1] at h1
    by_cases e2:cmpS y z=0
    ·obtain rfl:=cmpS_zero.1 e2
     rw [if_neg e1]
     exact h1
    ·rw [if_neg e2] at h2
     have:=cmpS_tr h1 h2
     rw [if_neg (by rw [this];decide)]
     exact this
theorem chain_ne {p : Nat → ByteArray} {k : Nat} (h : ∀ i,0 < i → i ≤ k → ordP (pathParts (p (i - 1))) (pathParts (p i)) = -1) : ∀ j,j < k → p j ≠ p k := by
 have key:∀ d j,j+d+1<=k->ordP (pathParts (p j)) (pathParts (p (j+d+1))) = -1:=by
  intro d
  induction d with
  | zero=>intro j hj;have:=h (j+1) (by omega) hj;simpa using this
  | succ d ih =>
    intro j hj
    have h1:=ih j (by omega)
    have h2:=h (j+d+2) (by omega) (by omega)
    exact ordP_tr h1 (by simpa [Nat.add_assoc] using h2)
 intro j hj e
 have:=key (k-j-1) j (by omega)
 rw [show j+(k-j-1)+1=k by omega,e,ordP_self] at this
 cases this
end Go.Creel
namespace Go.Proofs.YtaffgndickdbiaaGreatDoor
open Go.Creel Go.RowKit Go.ChangeShapes
set_option maxRecDepth 100000 in
theorem EntryAt_at (b off cap : Nat) (l : List Ent) (s : ByteArray) (w : World) (hle : l.length ≤ cap) (hm : cap ≤ maxLen) (hc : EntsAt w b off l) :
 Calls Tryz.prog 63 #[.slice (some ⟨b,off,none⟩) l.length cap,.string s] w fun e w'=>e = .returned (.int .i64 (entFind l s))/\w=w':=by
 unfold maxLen at hm
 have HC:=Lib.hid hc
 clear hc
 go_enter Tryz.func63,Tryz.ntmps63
 go_wp2
 go_loop [5] (fun i=>∃ k:Nat,k<=l.length/\i = .int .i64 k/\Hid (∀ j,j<k->(ek l j).path≠s)) (fun i=>l.length-(intOf i).toNat)
 case atStart=>exact ⟨0,by omega,rfl,Lib.hid fun j hj=>absurd hj (by omega)⟩
 case round =>
  obtain ⟨k,hk,rfl,HD⟩:=hrel
  by_cases hlt:k<l.length
  ·obtain ⟨h0,_⟩:=HC.out k hlt
   by_cases he:(ek l k).path=s
   ·have hb:=seq_t he
    have HF:=Lib.hid (entFind_at hlt HD.out he)
    clear he
    go_wp2
    go_ret
    exact ⟨ret_i (by rw [HF.out]),rfl⟩
   ·have hb:=seq_f he
    have HE:=Lib.hid he
    clear he
    go_wp2
    go_round
    case rel=>exact ⟨k+1,by omega,by go_num,Lib.hid fun j hj=>by
     by_cases e:j=k
     ·rw [e];exact HE.out
     ·exact HD.out j (by omega)⟩
    case measure=>simp [intOf];omega
  ·obtain rfl:k=l.length:=by omega
   have HF:=Lib.hid (entFind_no HD.out)
   go_wp2
   go_ret
   exact ⟨ret_i (by rw [HF.out]),rfl⟩
end Go.Proofs.YtaffgndickdbiaaGreatDoor
namespace Go.Creel
noncomputable def hd0 (x : Ent) : HeadN := ⟨ByteArray.empty,ByteArray.empty,ByteArray.empty,x.mt.mode,0,0,x.data.length,0,kindT x.kind,ByteArray.empty,ByteArray.empty⟩
noncomputable def hd1 (x : Ent) : HeadN := { hd0 x with gid := hidNum x.mt.gid 2097151 }
noncomputable def hd2 (x : Ent) : HeadN := { hd1 x with group := hidText x.mt.group 31 ⟨#[]⟩ }
noncomputable def hd3 (x : Ent) : HeadN := { hd2 x with lk := hidText x.target 100 sLong }
noncomputable def hd4 (x : Ent) : HeadN := { hd3 x with time := hidTime x.mt }
noncomputable def hd5 (x : Ent) : HeadN := { hd4 x with px := (cutTwo x.path).1,nm := (cutTwo x.path).2.1 }
noncomputable def hd6 (x : Ent) : HeadN := { hd4 x with px := (cutTwo x.path).1,nm := hidPath x.path }
noncomputable def hd7 (x : Ent) : HeadN := { hd6 x with uid := hidNum x.mt.uid 2097151 }
noncomputable def hd8 (x : Ent) : HeadN := { hd7 x with user := hidText x.mt.user 31 ⟨#[]⟩ }
noncomputable def rl1 (x : Ent) : List Rec := recNum kGid x.mt.gid 2097151
noncomputable def rl2 (x : Ent) : List Rec := rl1 x ++ recText1 kGname x.mt.group 31
noncomputable def rl3 (x : Ent) : List Rec := rl2 x ++ recText1 kLink x.target 100
noncomputable def rl4 (x : Ent) : List Rec := rl3 x ++ recTime x.mt
noncomputable def rl5 (x : Ent) : List Rec := rl4 x ++ recPath x.path
noncomputable def rl6 (x : Ent) : List Rec := rl5 x ++ recNum kUid x.mt.uid 2097151
noncomputable def rl7 (x : Ent) : List Rec := rl6 x ++ recText1 kUname x.mt.user 31
theorem rl7_eq (x : Ent) : rl7 x = memRecs x := rfl
theorem rl1_len (x : Ent) : (rl1 x).length ≤ 1 := recNum_len _ _ _
theorem rl2_len (x : Ent) : (rl2 x).length ≤ 2 := more_len (rl1_len x) (recText1_len _ _ _)
theorem rl3_len (x : Ent) : (rl3 x).length ≤ 3 := more_len (rl2_len x) (recText1_len _ _ _)
theorem rl4_len (x : Ent) : (rl4 x).length ≤ 4 := more_len (rl3_len x) (recTime_len _)
theorem rl5_len (x : Ent) : (rl5 x).length ≤ 5 := more_len (rl4_len x) (recPath_len _)
theorem rl6_len (x : Ent) : (rl6 x).length ≤ 6 := more_len (rl5_len x) (recNum_len _ _ _)
theorem rl7_len (x : Ent) : (rl7 x).length ≤ 7 := more_len (rl6_len x) (recText1_len _ _ _)
theorem timeOdd_bool (m : Meta) : decide (timeOdd m) = (decide (0 < m.nano) || (decide (m.second < 0) || decide (8589934591 < m.second))) := by
 by_cases h1:0<m.nano<;>by_cases h2:m.second<0<;>by_cases h3:8589934591<m.second<;>simp [timeOdd,h1,h2,h3]
theorem recTime_yes {m : Meta} (h : timeOdd m) : recTime m = [⟨kMtime,(timeText m.second m.nano).1⟩] ∧ hidTime m = 0 := ⟨if_pos h,if_pos h⟩
theorem recTime_no {m : Meta} (h : ¬ timeOdd m) : recTime m = [] ∧ hidTime m = m.second := ⟨if_neg h,if_neg h⟩
theorem recPath_yes {s : ByteArray} (h : ¬ (cutTwo s).2.2 = 0) : recPath s = [⟨kPath,s⟩] ∧ hidPath s = sLong := ⟨if_neg h,if_neg h⟩
theorem recPath_no {s : ByteArray} (h : (cutTwo s).2.2 = 0) : recPath s = [] ∧ hidPath s = (cutTwo s).2.1 := ⟨if_pos h,if_pos h⟩
end Go.Creel
namespace Go.Proofs.YtaffgndickdbiaaGreatDoor
open Go.Creel Go.RowKit
set_option maxRecDepth 100000 in
set_option maxHeartbeats 4000000 in
theorem Pack_any (x : Ent) (w : World) (HR : Hid (EntRight x)) (hT : Pow10 w) :
 Calls Tryz.prog 37 #[x.val] w fun e w'=>∃ b v,e = .returned (.pointer (some ⟨b,0,none⟩))/\RecSt tRecE tPk w w' b (pcells (memHead x) v) v (memRecs x):=by
 have HBX:=Lib.hid ((Below.refl w.heap.size w).alloc (Nat.le_refl _) (.cells #[.string x.path,.int .i64 x.kind,.string x.target,.int .i64 x.mt.mode,.int .i64 x.mt.uid,.int .i64 x.mt.gid,.string x.mt.user,.string x.mt.group,.int .i64 x.mt.second,.int .i64 x.mt.nano,.slice x.da x.data.length x.dcap] 26))
 have HEB:=Lib.hid (entAt_box w x 26)
 have HP:=Lib.hid (hT.below HBX.out)
 have HWS:Hid (w.heap.size<=(w.alloc (.cells #[.string x.path,.int .i64 x.kind,.string x.target,.int .i64 x.mt.mode,.int .i64 x.mt.uid,.int .i64 x.mt.gid,.string x.mt.user,.string x.mt.group,.int .i64 x.mt.second,.int .i64 x.mt.nano,.slice x.da x.data.length x.dcap] 26)).heap.size):=Lib.hid HBX.out.size
 have hgi:=HR.out.mt.gid
 have hui:=HR.out.mt.uid
 have hus:=HR.out.mt.user
 have hgs:=HR.out.mt.group
 have hts:=HR.out.target
 have hps:=HR.out.pathSize
 have hkk:=HR.out.kind
 have hsec:=HR.out.mt.second
 have hnan:=HR.out.mt.nano
 have HMO:=Lib.hid (fun w=>Most_any 12 w)
 rw [show octMost 12=(8589934591,0) by rfl] at HMO
 simp only at HMO
 clear hT
 go_enter Tryz.func37,Tryz.ntmps37
 go_upto_region 1 with fail
 have hbw:w.heap.size<(w.alloc (.cells #[.string x.path,.int .i64 x.kind,.string x.target,.int .i64 x.mt.mode,.int .i64 x.mt.uid,.int .i64 x.mt.gid,.string x.mt.user,.string x.mt.group,.int .i64 x.mt.second,.int .i64 x.mt.nano,.slice x.da x.data.length x.dcap] 26)).heap.size:=by simp
 generalize w.alloc (.cells #[.string x.path,.int .i64 x.kind,.string x.target,.int .i64 x.mt.mode,.int .i64 x.mt.uid,.int .i64 x.mt.gid,.string x.mt.user,.string x.mt.group,.int .i64 x.mt.second,.int .i64 x.mt.nano,.slice x.da x.data.length x.dcap] 26)=wx at *
 obtain ⟨h0,h1,h2,h3,h4,h5,h6,h7,h8,h9,h10⟩:=HEB.out.zero
 go_cut [3] from 12 to 23 (fun u wr=>u = .pointer (some ⟨wx.heap.size,0,none⟩)/\Hid (RecSt tRecE tPk wx wr wx.heap.size (pcells (hd0 x) (.slice none 0 0)) (.slice none 0 0) []))
 case first =>
  have hk4:x.kind=1\/x.kind=2\/x.kind=3\/x.kind=4:=by omega
  clear hkk
  rcases hk4 with hk|hk|hk|hk
  ·have HK:=Lib.hid (show kindT x.kind=48 by rw [hk];rfl)
   rw [hk] at h1
   clear hk
   go_region
   go_wp2
   go_meet
   refine ⟨rfl,Lib.hid ⟨?_,OwnRecs.nil _ _ _,Nat.le_refl _,((Below.refl _ _).alloc (Nat.le_refl _) _).drew⟩⟩
   show (wx.heap.push _)[wx.heap.size]?=some (.cells #[.string ⟨#[]⟩,.string ⟨#[]⟩,.string ⟨#[]⟩,.int .i64 x.mt.mode,.int .i64 0,.int .i64 0,.int .i64 x.data.length,.int .i64 0,.int .u8 (kindT x.kind).toNat,.string ⟨#[]⟩,.string ⟨#[]⟩,.slice none 0 0] tPk (0,0))
   rw [HK.out]
   exact heap_alloc_new _ _
  ·have HK:=Lib.hid (show kindT x.kind=53 by rw [hk];rfl)
   rw [hk] at h1
   clear hk
   go_region
   go_wp2
   go_meet
   refine ⟨rfl,Lib.hid ⟨?_,OwnRecs.nil _ _ _,Nat.le_refl _,((Below.refl _ _).alloc (Nat.le_refl _) _).drew⟩⟩
   show (wx.heap.push _)[wx.heap.size]?=some (.cells #[.string ⟨#[]⟩,.string ⟨#[]⟩,.string ⟨#[]⟩,.int .i64 x.mt.mode,.int .i64 0,.int .i64 0,.int .i64 x.data.length,.int .i64 0,.int .u8 (kindT x.kind).toNat,.string ⟨#[]⟩,.string ⟨#[]⟩,.slice none 0 0] tPk (0,0))
   rw [HK.out]
   exact heap_alloc_new _ _
  ·have HK:=Lib.hid (show kindT x.kind=50 by rw [hk];rfl)
   rw [hk] at h1
   clear hk
   go_region
   go_wp2
   go_meet
   refine ⟨rfl,Lib.hid ⟨?_,OwnRecs.nil _ _ _,Nat.le_refl _,((Below.refl _ _).alloc (Nat.le_refl _) _).drew⟩⟩
   show (wx.heap.push _)[wx.heap.size]?=some (.cells #[.string ⟨#[]⟩,.string ⟨#[]⟩,.string ⟨#[]⟩,.int .i64 x.mt.mode,.int .i64 0,.int .i64 0,.int .i64 x.data.length,.int .i64 0,.int .u8 (kindT x.kind).toNat,.string ⟨#[]⟩,.string ⟨#[]⟩,.slice none 0 0] tPk (0,0))
   rw [HK.out]
   exact heap_alloc_new _ _
  ·have HK:=Lib.hid (show kindT x.kind=49 by rw [hk];rfl)
   rw [hk] at h1
   clear hk
   go_region
   go_wp2
   go_meet
   refine ⟨rfl,Lib.hid ⟨?_,OwnRecs.nil _ _ _,Nat.le_refl _,((Below.refl _ _).alloc (Nat.le_refl _) _).drew⟩⟩
   show (wx.heap.push _)[wx.heap.size]?=some (.cells #[.string ⟨#[]⟩,.string ⟨#[]⟩,.string ⟨#[]⟩,.int .i64 x.mt.mode,.int .i64 0,.int .i64 0,.int .i64 x.data.length,.int .i64 0,.int .u8 (kindT x.kind).toNat,.string ⟨#[]⟩,.string ⟨#[]⟩,.slice none 0 0] tPk (0,0))
   rw [HK.out]
   exact heap_alloc_new _ _
 case rest =>
 obtain ⟨rfl,S⟩:=hcut
 obtain ⟨w1,rfl⟩:∃ W:World,W=wc:=⟨_,rfl⟩
 clear h0 h1 h2 h3 h4 h5 h6 h7 h8 h9 h10
 obtain ⟨h0,h1,h2,h3,h4,h5,h6,h7,h8,h9,h10⟩:=(HEB.out.below S.out.bel).zero
 go_wp2_with fail
 refine (Number_any _ kGid _ _ _ _ _ _ S.out (by simp) hgi (HP.out.below S.out.bel)).mono ?_
 rintro e w2 ⟨rfl,v2,s⟩
 rw [List.nil_append] at s
 have S2:Hid (RecSt tRecE tPk wx w2 wx.heap.size (pcells (hd0 x) v2) v2 (rl1 x)):=Lib.hid s
 clear s S h0 h1 h2 h3 h4 h5 h6 h7 h8 h9 h10
 have f:=S2.out.free 5
 obtain ⟨c,hc⟩:∃ c,w2.cell? ⟨wx.heap.size,5,none⟩=some c:=⟨_,S2.out.cell 5⟩
 go_upto_region 4 with fail
 have S:Hid (RecSt tRecE tPk wx (w2.setCell ⟨wx.heap.size,5,none⟩ (.int .i64 (hidNum x.mt.gid 2097151))) wx.heap.size (pcells (hd1 x) v2) v2 (rl1 x)):=Lib.hid (S2.out.put 5 (.int .i64 (hidNum x.mt.gid 2097151)) rfl)
 clear S2 f hc
 generalize w2.setCell ⟨wx.heap.size,5,none⟩ (.int .i64 (hidNum x.mt.gid 2097151))=w1 at *
 obtain ⟨v,rfl⟩:∃ V:Value,V=v2:=⟨_,rfl⟩
 obtain ⟨h0,h1,h2,h3,h4,h5,h6,h7,h8,h9,h10⟩:=(HEB.out.below S.out.bel).zero
 go_wp2_with fail
 refine (Text_any _ kGname x.mt.group _ 31 _ _ _ _ _ _ S.out (Nat.le_trans (rl1_len x) (by omega)) rfl (by omega) (by omega)).mono ?_
 rintro e w2 ⟨rfl,v2,s⟩
 have S2:Hid (RecSt tRecE tPk wx w2 wx.heap.size (pcells (hd1 x) v2) v2 (rl2 x)):=Lib.hid s
 clear s S h0 h1 h2 h3 h4 h5 h6 h7 h8 h9 h10
 have f:=S2.out.free 10
 obtain ⟨c,hc⟩:∃ c,w2.cell? ⟨wx.heap.size,10,none⟩=some c:=⟨_,S2.out.cell 10⟩
 go_upto_region 5 with fail
 have S:Hid (RecSt tRecE tPk wx (w2.setCell ⟨wx.heap.size,10,none⟩ (.string (hidText x.mt.group 31 ⟨#[]⟩))) wx.heap.size (pcells (hd2 x) v2) v2 (rl2 x)):=Lib.hid (S2.out.put 10 (.string (hidText x.mt.group 31 ⟨#[]⟩)) rfl)
 clear S2 f hc
 generalize w2.setCell ⟨wx.heap.size,10,none⟩ (.string (hidText x.mt.group 31 ⟨#[]⟩))=w1 at *
 obtain ⟨v,rfl⟩:∃ V:Value,V=v2:=⟨_,rfl⟩
 obtain ⟨h0,h1,h2,h3,h4,h5,h6,h7,h8,h9,h10⟩:=(HEB.out.below S.out.bel).zero
 go_wp2_with fail
 refine (Text_any _ kLink x.target _ 100 _ _ _ _ _ _ S.out (Nat.le_trans (rl2_len x) (by omega)) rfl (by omega) (by omega)).mono ?_
 rintro e w2 ⟨rfl,v2,s⟩
 have S2:Hid (RecSt tRecE tPk wx w2 wx.heap.size (pcells (hd2 x) v2) v2 (rl3 x)):=Lib.hid s
 clear s S h0 h1 h2 h3 h4 h5 h6 h7 h8 h9 h10
 have f:=S2.out.free 2
 obtain ⟨c,hc⟩:∃ c,w2.cell? ⟨wx.heap.size,2,none⟩=some c:=⟨_,S2.out.cell 2⟩
 go_upto_region 6 with fail
 have S:Hid (RecSt tRecE tPk wx (w2.setCell ⟨wx.heap.size,2,none⟩ (.string (hidText x.target 100 ⟨#[64,108,111,110,103]⟩))) wx.heap.size (pcells (hd3 x) v2) v2 (rl3 x)):=Lib.hid (S2.out.put 2 (.string (hidText x.target 100 ⟨#[64,108,111,110,103]⟩)) rfl)
 clear S2 f hc
 generalize w2.setCell ⟨wx.heap.size,2,none⟩ (.string (hidText x.target 100 ⟨#[64,108,111,110,103]⟩))=w1 at *
 obtain ⟨v,rfl⟩:∃ V:Value,V=v2:=⟨_,rfl⟩
 obtain ⟨h0,h1,h2,h3,h4,h5,h6,h7,h8,h9,h10⟩:=(HEB.out.below S.out.bel).zero
 go_wp2_with fail
 refine (HMO.out _).mono ?_
 rintro e w' ⟨rfl,rfl⟩
 go_upto_region 7 with fail
 go_cut [70] from 54 to 70 (fun u wy=>∃ q,u = .bool q/\Hid (q=decide (timeOdd x.mt))/\wy=w1)
 case first =>
  have HTO:=Lib.hid (timeOdd_bool x.mt)
  by_cases t1:0<x.mt.nano
  ·have d1:decide (0<x.mt.nano)=true:=decide_eq_true t1
   clear t1 hsec hnan
   go_wp2
   go_meet
   exact ⟨true,rfl,Lib.hid (by rw [HTO.out,d1];rfl),rfl⟩
  ·have d1:decide (0<x.mt.nano)=false:=decide_eq_false t1
   by_cases t2:x.mt.second<0
   ·have d2:decide (x.mt.second<0)=true:=decide_eq_true t2
    clear t1 t2 hsec hnan
    go_wp2
    go_meet
    exact ⟨true,rfl,Lib.hid (by rw [HTO.out,d1,d2];rfl),rfl⟩
   ·have d2:decide (x.mt.second<0)=false:=decide_eq_false t2
    by_cases t3:8589934591<x.mt.second
    ·have d3:decide (8589934591<x.mt.second)=true:=decide_eq_true t3
     clear t1 t2 t3 hsec hnan
     go_wp2
     go_meet
     exact ⟨true,rfl,Lib.hid (by rw [HTO.out,d1,d2,d3];rfl),rfl⟩
    ·have d3:decide (8589934591<x.mt.second)=false:=decide_eq_false t3
     clear t1 t2 t3 hsec hnan
     go_wp2
     go_meet
     exact ⟨false,rfl,Lib.hid (by rw [HTO.out,d1,d2,d3];rfl),rfl⟩
 case rest =>
 obtain ⟨q,rfl,HQ,rfl⟩:=hcut
 obtain ⟨w1,rfl⟩:∃ W:World,W=wc:=⟨_,rfl⟩
 go_step
 go_cut [7,8,70] from 71 to 89 (fun _ _ u wy=>u = .bool q/\Hid (∃ v,RecSt tRecE tPk wx wy wx.heap.size (pcells (hd4 x) v) v (rl4 x)))
 case first =>
  cases q with
  | true =>
    have HT:=Lib.hid (recTime_yes (of_decide_eq_true HQ.out.symm))
    have HTT:=Lib.hid (fun w h=>StampText_any x.mt.second x.mt.nano w (by unfold i64;omega) (by unfold i64;omega) h)
    go_wp2_with fail
    refine (HTT.out _ (HP.out.below S.out.bel)).mono ?_
    rintro e w2 ⟨rfl,hb⟩
    have S2:=Lib.hid (S.out.below hb)
    clear hb
    go_wp2_with fail
    refine (Say_any _ kMtime _ _ _ _ _ _ S2.out (Nat.le_trans (rl3_len x) (by omega))).mono ?_
    rintro e w3 ⟨rfl,v3,s⟩
    have S3:Hid (∃ v,RecSt tRecE tPk wx w3 wx.heap.size (pcells (hd4 x) v) v (rl4 x)):=Lib.hid ⟨v3,by
     have e1:rl4 x=rl3 x++[⟨kMtime,(timeText x.mt.second x.mt.nano).1⟩]:=by unfold rl4;rw [HT.out.1]
     have e2:hd4 x=hd3 x:=by unfold hd4;rw [HT.out.2];rfl
     rw [e1,e2];exact s⟩
    clear s
    go_wp2
    go_meet
    exact ⟨rfl,S3.out⟩
  | false =>
    have HT:=Lib.hid (recTime_no (of_decide_eq_false HQ.out.symm))
    have f:=S.out.free 7
    obtain ⟨c,hc⟩:∃ c,w1.cell? ⟨wx.heap.size,7,none⟩=some c:=⟨_,S.out.cell 7⟩
    have S3:Hid (∃ v,RecSt tRecE tPk wx (w1.setCell ⟨wx.heap.size,7,none⟩ (.int .i64 x.mt.second)) wx.heap.size (pcells (hd4 x) v) v (rl4 x)):=Lib.hid ⟨_,by
     have e1:rl4 x=rl3 x:=by unfold rl4;rw [HT.out.1,List.append_nil]
     have e2:hd4 x={ hd3 x with time:=x.mt.second }:=by unfold hd4;rw [HT.out.2]
     rw [e1,e2];exact S.out.put 7 _ rfl⟩
    go_wp2
    go_meet
    exact ⟨rfl,S3⟩
 case rest =>
 obtain ⟨rfl,HS⟩:=hcut
 obtain ⟨v,s⟩:=HS.out
 clear S HS h0 h1 h2 h3 h4 h5 h6 h7 h8 h9 h10
 obtain ⟨w1,rfl⟩:∃ W:World,W=wc:=⟨_,rfl⟩
 have S:=Lib.hid s
 clear s
 obtain ⟨h0,h1,h2,h3,h4,h5,h6,h7,h8,h9,h10⟩:=(HEB.out.below S.out.bel).zero
 go_wp2_with fail
 refine (Two_any x.path _ (by unfold maxLen;omega)).mono ?_
 rintro e w2 ⟨rfl,hb⟩
 have S2:=Lib.hid (S.out.below hb)
 clear hb S h0 h1 h2 h3 h4 h5 h6 h7 h8 h9 h10
 have f0:=S2.out.free 0
 have f1:=S2.out.free 1
 obtain ⟨c0,hc0⟩:∃ c,w2.cell? ⟨wx.heap.size,0,none⟩=some c:=⟨_,S2.out.cell 0⟩
 obtain ⟨c1,hc1⟩:∃ c,w2.cell? ⟨wx.heap.size,1,none⟩=some c:=⟨_,S2.out.cell 1⟩
 have f2:=(S2.out.put 1 (.string (cutTwo x.path).1) rfl).free 0
 go_upto_region 13 with fail
 have S:Hid (RecSt tRecE tPk wx ((w2.setCell ⟨wx.heap.size,1,none⟩ (.string (cutTwo x.path).1)).setCell ⟨wx.heap.size,0,none⟩ (.string (cutTwo x.path).2.1)) wx.heap.size (pcells (hd5 x) v) v (rl4 x)):=Lib.hid ((S2.out.put 1 (.string (cutTwo x.path).1) rfl).put 0 (.string (cutTwo x.path).2.1) rfl)
 clear S2 f0 f1 f2 hc0 hc1
 generalize (w2.setCell ⟨wx.heap.size,1,none⟩ (.string (cutTwo x.path).1)).setCell ⟨wx.heap.size,0,none⟩ (.string (cutTwo x.path).2.1)=w1 at *
 obtain ⟨h0,h1,h2,h3,h4,h5,h6,h7,h8,h9,h10⟩:=(HEB.out.below S.out.bel).zero
 go_cut [106] from 105 to 106 (fun u wy=>∃ q,u = .bool q/\Hid (q=decide (¬ (cutTwo x.path).2.2=0))/\wy=w1)
 case first =>
  by_cases hz:(cutTwo x.path).2.2=0
  ·have hd:((cutTwo x.path).2.2 != 0)=false:=by rw [hz];rfl
   have HZ:=Lib.hid hz
   clear hz
   go_wp2
   go_meet
   exact ⟨false,rfl,Lib.hid (by rw [HZ.out];rfl),rfl⟩
  ·have hd:((cutTwo x.path).2.2 != 0)=true:=by rw [bne_iff_ne];exact hz
   have HZ:=Lib.hid hz
   clear hz
   go_wp2
   go_meet
   exact ⟨true,rfl,Lib.hid (by rw [decide_eq_true HZ.out]),rfl⟩
 case rest =>
 obtain ⟨q,rfl,HQ,rfl⟩:=hcut
 obtain ⟨w1,rfl⟩:∃ W:World,W=wc:=⟨_,rfl⟩
 go_step
 go_cut [106] from 107 to 113 (fun u wy=>u = .bool q/\Hid (∃ v,RecSt tRecE tPk wx wy wx.heap.size (pcells (hd6 x) v) v (rl5 x)))
 case first =>
  cases q with
  | true =>
    have HT:=Lib.hid (recPath_yes (of_decide_eq_true HQ.out.symm))
    have f:=S.out.free 0
    obtain ⟨c,hc⟩:∃ c,w1.cell? ⟨wx.heap.size,0,none⟩=some c:=⟨_,S.out.cell 0⟩
    go_upto_region 15 with fail
    have S2:Hid (RecSt tRecE tPk wx (w1.setCell ⟨wx.heap.size,0,none⟩ (.string ⟨#[64,108,111,110,103]⟩)) wx.heap.size (pcells { hd5 x with nm:=⟨#[64,108,111,110,103]⟩ } v) v (rl4 x)):=Lib.hid (S.out.put 0 _ rfl)
    clear S f hc h0 h1 h2 h3 h4 h5 h6 h7 h8 h9 h10
    generalize w1.setCell ⟨wx.heap.size,0,none⟩ (.string ⟨#[64,108,111,110,103]⟩)=w2 at *
    obtain ⟨h0,h1,h2,h3,h4,h5,h6,h7,h8,h9,h10⟩:=(HEB.out.below S2.out.bel).zero
    go_wp2_with fail
    refine (Say_any _ kPath _ _ _ _ _ _ S2.out (Nat.le_trans (rl4_len x) (by omega))).mono ?_
    rintro e w3 ⟨rfl,v3,s⟩
    have S3:Hid (∃ v,RecSt tRecE tPk wx w3 wx.heap.size (pcells (hd6 x) v) v (rl5 x)):=Lib.hid ⟨v3,by
     have e1:rl5 x=rl4 x++[⟨kPath,x.path⟩]:=by unfold rl5;rw [HT.out.1]
     have e2:hd6 x={ hd5 x with nm:=⟨#[64,108,111,110,103]⟩ }:=by unfold hd6;rw [HT.out.2];rfl
     rw [e1,e2];exact s⟩
    clear s
    go_wp2
    go_meet
    exact ⟨rfl,S3.out⟩
  | false =>
    have HT:=Lib.hid (recPath_no (s:=x.path) (by simpa using of_decide_eq_false HQ.out.symm))
    have S3:Hid (∃ v,RecSt tRecE tPk wx w1 wx.heap.size (pcells (hd6 x) v) v (rl5 x)):=Lib.hid ⟨_,by
     have e1:rl5 x=rl4 x:=by unfold rl5;rw [HT.out.1,List.append_nil]
     have e2:hd6 x=hd5 x:=by unfold hd6;rw [HT.out.2];rfl
     rw [e1,e2];exact S.out⟩
    go_wp2
    go_meet
    exact ⟨rfl,S3⟩
 case rest =>
 obtain ⟨rfl,HS⟩:=hcut
 obtain ⟨v,s⟩:=HS.out
 clear S HS h0 h1 h2 h3 h4 h5 h6 h7 h8 h9 h10
 obtain ⟨w1,rfl⟩:∃ W:World,W=wc:=⟨_,rfl⟩
 have S:=Lib.hid s
 clear s
 obtain ⟨h0,h1,h2,h3,h4,h5,h6,h7,h8,h9,h10⟩:=(HEB.out.below S.out.bel).zero
 go_wp2_with fail
 refine (Number_any _ kUid _ _ _ _ _ _ S.out (Nat.le_trans (rl5_len x) (by omega)) hui (HP.out.below S.out.bel)).mono ?_
 rintro e w2 ⟨rfl,v2,s⟩
 have S2:Hid (RecSt tRecE tPk wx w2 wx.heap.size (pcells (hd6 x) v2) v2 (rl6 x)):=Lib.hid s
 clear s S h0 h1 h2 h3 h4 h5 h6 h7 h8 h9 h10
 have f:=S2.out.free 4
 obtain ⟨c,hc⟩:∃ c,w2.cell? ⟨wx.heap.size,4,none⟩=some c:=⟨_,S2.out.cell 4⟩
 go_upto_region 17 with fail
 have S:Hid (RecSt tRecE tPk wx (w2.setCell ⟨wx.heap.size,4,none⟩ (.int .i64 (hidNum x.mt.uid 2097151))) wx.heap.size (pcells (hd7 x) v2) v2 (rl6 x)):=Lib.hid (S2.out.put 4 (.int .i64 (hidNum x.mt.uid 2097151)) rfl)
 clear S2 f hc
 generalize w2.setCell ⟨wx.heap.size,4,none⟩ (.int .i64 (hidNum x.mt.uid 2097151))=w1 at *
 obtain ⟨v,rfl⟩:∃ V:Value,V=v2:=⟨_,rfl⟩
 obtain ⟨h0,h1,h2,h3,h4,h5,h6,h7,h8,h9,h10⟩:=(HEB.out.below S.out.bel).zero
 go_wp2_with fail
 refine (Text_any _ kUname x.mt.user _ 31 _ _ _ _ _ _ S.out (Nat.le_trans (rl6_len x) (by omega)) rfl (by omega) (by omega)).mono ?_
 rintro e w2 ⟨rfl,v2,s⟩
 have S2:Hid (RecSt tRecE tPk wx w2 wx.heap.size (pcells (hd7 x) v2) v2 (rl7 x)):=Lib.hid s
 clear s S h0 h1 h2 h3 h4 h5 h6 h7 h8 h9 h10
 have f:=S2.out.free 9
 obtain ⟨c,hc⟩:∃ c,w2.cell? ⟨wx.heap.size,9,none⟩=some c:=⟨_,S2.out.cell 9⟩
 go_upto_region 18 with fail
 have S:Hid (RecSt tRecE tPk wx (w2.setCell ⟨wx.heap.size,9,none⟩ (.string (hidText x.mt.user 31 ⟨#[]⟩))) wx.heap.size (pcells (hd8 x) v2) v2 (rl7 x)):=Lib.hid (S2.out.put 9 (.string (hidText x.mt.user 31 ⟨#[]⟩)) rfl)
 clear S2 f hc
 generalize w2.setCell ⟨wx.heap.size,9,none⟩ (.string (hidText x.mt.user 31 ⟨#[]⟩))=w1 at *
 obtain ⟨v,rfl⟩:∃ V:Value,V=v2:=⟨_,rfl⟩
 obtain ⟨h0,h1,h2,h3,h4,h5,h6,h7,h8,h9,h10⟩:=(HEB.out.below S.out.bel).zero
 go_wp2
 go_ret
 exact ⟨_,_,rfl,S.out.since HBX.out⟩
end Go.Proofs.YtaffgndickdbiaaGreatDoor
