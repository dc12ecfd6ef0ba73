/- A part of the proof. -/
import Derived.Test.YtaffgndickdbiaaGreatDoorV37
import Derived.Shaped
set_option linter.unusedVariables false
set_option linter.unusedSimpArgs false
set_option maxRecDepth 100000
set_option maxHeartbeats 4000000
namespace Go.Creel
open Go.RowKit
def D3x (l : List Ent) (k : Nat) (m : List (ByteArray × Value)) : Prop := ∀ s,A2v s m = if A4c (l.take k) s < k then some (A8m l k s).val else none
theorem D3x.start (l : List Ent) : D3x l 0 [] := fun s => rfl
theorem D3x.put {l : List Ent} {k : Nat} {m : List (ByteArray × Value)} (h : D3x l k m) (hk : k < l.length) (hz : ∀ j,j < k + 1 → A3t l j = 0) : D3x l (k + 1) (A6f (ek l k).path (ek l k).val m) := by
 have hne:=E3n (p:=fun j=>(ek l j).path) (k:=k) (fun i h0 h1=>(A5v (hz i (by omega))).2 h0);intro s;rw [B4h];by_cases e:s=(ek l k).path
 ·rw [if_pos e];have hf:A4c (l.take (k+1)) s=k:=by
   refine B7e (by rw [List.length_take];omega) (fun j hj=>?_) (by rw [A6z (by omega)];exact e.symm);rw [A6z (by omega),e];exact hne j hj
  rw [if_pos (by omega),B3e (by omega),hf]
 ·rw [if_neg e,h s];by_cases hf:A4c (l.take k) s<k
  ·rw [if_pos hf,B3e hf];have h1:=C0o hk hf;rw [if_pos (by omega),B3e (by omega),h1]
  ·rw [if_neg hf];have hn:=C1w (by omega) hf;have:A4c (l.take (k+1)) s=k+1:=C1o (by omega) (fun j hj=>by
    by_cases ej:j=k
    ·rw [ej];exact fun h=>e h.symm
    ·exact hn j (by omega))
   rw [if_neg (by omega)]
open Classical in
noncomputable def A5x (x y : Nod) : Bool := decide (x.mt = y.mt ∧ x.data = y.data)
theorem E0d {x y : Nod} (h1 : x.mt = y.mt) (h2 : x.data = y.data) : A5x x y = true := by unfold A5x; simp [h1,h2]
theorem F4d {x y : Nod} (h1 : x.mt ≠ y.mt) : A5x x y = false := by unfold A5x; simp [h1]
theorem F5d {x y : Nod} (h1 : x.data ≠ y.data) : A5x x y = false := by unfold A5x; simp [h1]
theorem D2t {x y : Nod} : A5x x y = true ↔ x.mt = y.mt ∧ x.data = y.data := by unfold A5x; simp
theorem D7s {x y : Meta} (h0 : x.mode = y.mode) (h1 : x.uid = y.uid) (h2 : x.gid = y.gid) (h3 : x.user.toList = y.user.toList) (h4 : x.group.toList = y.group.toList) (h5 : x.second = y.second) (h6 : x.nano = y.nano) : x = y := by
 obtain ⟨a,b,c,d,e,f,g⟩:=x;obtain ⟨a',b',c',d',e',f',g'⟩:=y;simp only at *;rw [h0,h1,h2,toList_inj h3,toList_inj h4,h5,h6]
theorem E4s {x y : Meta} (h : x ≠ y) : (¬ x.mode = y.mode) ∨ (x.mode = y.mode ∧ ¬ x.uid = y.uid) ∨ (x.mode = y.mode ∧ x.uid = y.uid ∧ ¬ x.gid = y.gid) ∨ (x.mode = y.mode ∧ x.uid = y.uid ∧ x.gid = y.gid ∧ ¬ x.user.toList = y.user.toList) ∨
 (x.mode=y.mode/\x.uid=y.uid/\x.gid=y.gid/\x.user.toList=y.user.toList/\¬ x.group.toList=y.group.toList)\/(x.mode=y.mode/\x.uid=y.uid/\x.gid=y.gid/\x.user.toList=y.user.toList/\x.group.toList=y.group.toList/\¬ x.second=y.second) ∨
 (x.mode=y.mode/\x.uid=y.uid/\x.gid=y.gid/\x.user.toList=y.user.toList/\x.group.toList=y.group.toList/\x.second=y.second/\¬ x.nano=y.nano):=by
 by_cases h0:x.mode=y.mode
 ·by_cases h1:x.uid=y.uid
  ·by_cases h2:x.gid=y.gid
   ·by_cases h3:x.user.toList=y.user.toList
    ·by_cases h4:x.group.toList=y.group.toList
     ·by_cases h5:x.second=y.second
      ·by_cases h6:x.nano=y.nano
       ·exact absurd (D7s h0 h1 h2 h3 h4 h5 h6) h
       ·simp [h0,h1,h2,h3,h4,h5,h6]
      ·simp [h0,h1,h2,h3,h4,h5]
     ·simp [h0,h1,h2,h3,h4]
    ·simp [h0,h1,h2,h3]
   ·simp [h0,h1,h2]
  ·simp [h0,h1]
 ·simp [h0]
open Classical in
noncomputable def A9k (l : List Nod) (i : Nat) : Int :=
 if ¬ A6c (nk l i)=0 then A6c (nk l i)
 else if 0<i/\¬ B7b (A8a (nk l (i-1)).path) (A8a (nk l i).path) = -1 then 6
 else if (A2f (nk l i).path).size≠0/\¬ (A1a (l.take i) (A2f (nk l i).path)<i/\(nk l (A1a (l.take i) (A2f (nk l i).path))).kind=2) then 10
 else if (nk l i).same≠0/\∃ k,k<i/\(nk l k).same=(nk l i).same/\A5x (nk l k) (nk l i)=false then 11
 else 0
open Classical in
noncomputable def A0a (l : List Nod) : Int :=
 if 40<l.length then 1 else if h:∃ k,k<l.length/\A9k l k≠0/\∀ j,j<k->A9k l j=0 then A9k l (Classical.choose h) else 0
theorem A7t {l : List Nod} (h : 40 < l.length) : A0a l = 1 := by unfold A0a; rw [if_pos h]
theorem A4v {l : List Nod} {k : Nat} {e : Int} (hl : l.length ≤ 40) (hk : k < l.length) (hz : ∀ j,j < k → A9k l j = 0) (he : A9k l k = e) (hne : e ≠ 0) : A0a l = e := by
 have hex:∃ k,k<l.length/\A9k l k≠0/\∀ j,j<k->A9k l j=0:=⟨k,hk,by rw [he];exact hne,hz⟩;unfold A0a;rw [if_neg (by omega),dif_pos hex];obtain ⟨h1,h2,h3⟩:=Classical.choose_spec hex;have:Classical.choose hex=k:=by
  rcases Nat.lt_trichotomy (Classical.choose hex) k with h|h|h
  ·exact absurd (hz _ h) h2
  ·exact h
  ·exact absurd (h3 _ h) (by rw [he];exact hne)
 rw [this,he]
theorem A3v {l : List Nod} (hl : l.length ≤ 40) (hz : ∀ j,j < l.length → A9k l j = 0) : A0a l = 0 := by
 unfold A0a;rw [if_neg (by omega),dif_neg (by rintro ⟨k,h1,h2,_⟩;exact h2 (hz k h1))]
theorem C3r {l : List Nod} {i : Nat} (h : ¬ A6c (nk l i) = 0) : A9k l i = A6c (nk l i) := by unfold A9k; rw [if_pos h]
theorem C2r {l : List Nod} {i : Nat} (h : A6c (nk l i) = 0) (h1 : 0 < i) (h2 : ¬ B7b (A8a (nk l (i - 1)).path) (A8a (nk l i).path) = -1) : A9k l i = 6 := by
 unfold A9k;rw [if_neg (by simpa using h),if_pos ⟨h1,h2⟩]
def C1p (l : List Nod) (i : Nat) : Prop := 0 < i → B7b (A8a (nk l (i - 1)).path) (A8a (nk l i).path) = -1
theorem E4i {l : List Nod} {i : Nat} (h : A6c (nk l i) = 0) (h1 : C1p l i) (h2 : (A2f (nk l i).path).size ≠ 0) (h3 : ¬ (A1a (l.take i) (A2f (nk l i).path) < i ∧ (nk l (A1a (l.take i) (A2f (nk l i).path))).kind = 2)) : A9k l i = 10 := by
 unfold A9k;rw [if_neg (by simpa using h),if_neg (fun e=>e.2 (h1 e.1)),if_pos ⟨h2,h3⟩]
def E2y (l : List Nod) (i : Nat) : Prop := (A2f (nk l i).path).size ≠ 0 → A1a (l.take i) (A2f (nk l i).path) < i ∧ (nk l (A1a (l.take i) (A2f (nk l i).path))).kind = 2
theorem C2h {l : List Nod} {i k : Nat} (h : A6c (nk l i) = 0) (h1 : C1p l i) (h2 : E2y l i) (h3 : (nk l i).same ≠ 0) (hk : k < i) (h4 : (nk l k).same = (nk l i).same) (h5 : A5x (nk l k) (nk l i) = false) : A9k l i = 11 := by
 unfold A9k;rw [if_neg (by simpa using h),if_neg (fun e=>e.2 (h1 e.1)),if_neg (fun e=>e.2 (h2 e.1)),if_pos ⟨h3,k,hk,h4,h5⟩]
theorem B7c {l : List Nod} {i : Nat} (h : A6c (nk l i) = 0) (h1 : C1p l i) (h2 : E2y l i) (h3 : (nk l i).same = 0 ∨ ∀ k,k < i → (nk l k).same = (nk l i).same → A5x (nk l k) (nk l i) = true) : A9k l i = 0 := by
 unfold A9k;rw [if_neg (by simpa using h),if_neg (fun e=>e.2 (h1 e.1)),if_neg (fun e=>e.2 (h2 e.1)),if_neg];rintro ⟨h4,k,hk,h5,h6⟩;rcases h3 with h3|h3
 ·exact h4 h3
 ·rw [h3 k hk h5] at h6;cases h6
theorem B1e {l : List Nod} {i : Nat} (h : A9k l i = 0) : A6c (nk l i) = 0 ∧ ((nk l i).same ≠ 0 → ∀ k,k < i → (nk l k).same = (nk l i).same → A5x (nk l k) (nk l i) = true) := by
 have h0:A6c (nk l i)=0:=Classical.byContradiction fun e=>e ((C3r e).symm.trans h)
 refine ⟨h0,fun hs k hk he=>?_⟩;cases hl:A5x (nk l k) (nk l i) with
 | true=>rfl
 | false =>
   exfalso;unfold A9k at h;rw [if_neg (by simpa using h0)] at h;split at h
   ·cases h
   ·split at h
    ·cases h
    ·rw [if_pos ⟨hs,k,hk,he,hl⟩] at h;cases h
noncomputable def A8x (l : List Nod) (i : Nat) (s : Int) : Option Nat := (List.range i).find? fun j => decide ((nk l j).same = s)
theorem B6e (l : List Nod) (i : Nat) (s : Int) : A8x l (i + 1) s = (A8x l i s).or (if (nk l i).same = s then some i else none) := by
 unfold A8x;rw [List.range_succ,List.find?_append];by_cases h:(nk l i).same=s
 ·simp [h]
 ·simp [h]
theorem B2m {l : List Nod} {i j : Nat} {s : Int} (h : A8x l i s = some j) : j < i ∧ (nk l j).same = s := by
 unfold A8x at h;have h1:=List.find?_some h;have h2:=List.mem_of_find?_eq_some h;simp at h1 h2;exact ⟨h2,h1⟩
theorem C3j {l : List Nod} {i : Nat} {s : Int} (h : A8x l i s = none) : ∀ k,k < i → (nk l k).same ≠ s := by
 unfold A8x at h;intro k hk e;have:=List.find?_eq_none.1 h k (List.mem_range.2 hk);simp [e] at this
theorem E4k {l : List Nod} {i j : Nat} (hz : ∀ q,q < i → A9k l q = 0) (hs : (nk l i).same ≠ 0) (h : A8x l i (nk l i).same = some j) (hl : A5x (nk l j) (nk l i) = true) : ∀ k,k < i → (nk l k).same = (nk l i).same → A5x (nk l k) (nk l i) = true := by
 intro k hk he;obtain ⟨hj,hjs⟩:=B2m h;rcases Nat.lt_trichotomy k j with hkj|rfl|hkj
 ·exfalso;unfold A8x at h;have:=(List.find?_range_eq_some.1 h).2.2 k hkj;simp [he] at this
 ·exact hl
 ·have:=(B1e (hz k hk)).2 (by rw [he];exact hs) j hkj (by rw [hjs,he]);obtain ⟨a,b⟩:=D2t.1 this;obtain ⟨c,d⟩:=D2t.1 hl;exact E0d (a.symm.trans c) (b.symm.trans d)
theorem B3o {x : Nod} (h : A6c x = 0) : x.path.size ≤ 400 := by
 unfold A6c A0k at h;have hp:A8b x.path=0:=Classical.byContradiction fun e=>by rw [if_pos e] at h;exact e h
 refine Classical.byContradiction fun e=>?_
 have:=A0o (s:=x.path) (.inr (by omega));rw [hp] at this;cases this
theorem B9z (X Y : List ByteArray) : B7b X Y = -1 ∨ B7b X Y = 0 ∨ B7b X Y = 1 := by
 induction X generalizing Y with
 | nil=>cases Y<;>simp [B7b]
 | cons x X ih =>
   cases Y with
   | nil=>simp [B7b]
   | cons y Y =>
     unfold B7b;split
     ·exact ih Y
     ·rcases A9s x y with ⟨_,h⟩|⟨_,_,h⟩|⟨_,_,h⟩<;>simp [h]
end Go.Creel
namespace Go.Proofs.YtaffgndickdbiaaGreatDoor
open Go.Creel Go.RowKit
theorem D5u (x : Ent) (w : World) (hM : A1n w) (h : x.Ok maxLen w) : Calls Tryz.prog 36 #[x.val] w fun e w' => e = .returned (.int .i64 (A1b x)) ∧ Below w.heap.size w w' :=
 B1q x w hM h.path h.target h.mt (by obtain ⟨_,_,_,_,_,h,_⟩:=h.data;exact h) h.kind lr
theorem E1k {l : List Ent} {k mb : Nat} {m : List (ByteArray × Value)} {w : World} (hm : A0i (fun s : ByteArray => Value.string s) w mb m) (h : D3x l k m) (s : ByteArray) :
 (Instr.lookup 140 (.map (some mb)) (.string s) false).run Tryz.prog w=.ok (.agg #[.string (A8m l k s).path,.int .i64 (A8m l k s).kind,.string (A8m l k s).target,.int .i64 (A8m l k s).mt.mode,.int .i64 (A8m l k s).mt.uid,.int .i64 (A8m l k s).mt.gid,.string (A8m l k s).mt.user,.string (A8m l k s).mt.group,.int .i64 (A8m l k s).mt.second,.int .i64 (A8m l k s).mt.nano,.slice (A8m l k s).da (A8m l k s).data.length (A8m l k s).dcap]) w:=by
 by_cases hf:A4c (l.take k) s<k
 ·exact hm.look_some B2b (t:=140) (k:=9) (e:=26) Tryz.underlying140 Tryz.underlying9 (by rw [h s,if_pos hf]) false
 ·rw [C4d hf];exact hm.look_none B2b (t:=140) (k:=9) (e:=26) Tryz.underlying140 Tryz.underlying9 (by rw [h s,if_neg hf]) (Tryz.zeroValue26 _) false
theorem D4y (b off cap : Nat) (l : List Ent) (w : World) (hM : A1n w) (hpos : 0 < l.length) (hle : l.length ≤ cap) (hm : cap ≤ maxLen) (hc : B9q w b off l) (ho : ∀ i,i < l.length → (ek l i).Ok maxLen w) :
 Calls Tryz.prog 46 #[.slice (some ⟨b,off,none⟩) l.length cap] w fun e w'=>e=.returned (.int .i64 (A0b l))/\Below w.heap.size w w':=by
 have hm':=hm;unfold maxLen at hm;have HC:=Hi hc;have HO:=Hi ho;have HM:=Hi hM;have HCAP:=Hi hm';clear hc ho hm' hM;by_cases hmany:40<l.length
 ·have HF:=Hi (B2a hmany);go_enter Tryz.func46,Tryz.ntmps46;go_wp2;go_ret;exact ⟨A4e HF.out,Below.refl _ _⟩
 have hfew:l.length<=40:=by omega
 clear hmany;have HMS:=Hi (A0i.made (fun s:ByteArray=>Value.string s) w);have HMB:=Hi ((Below.refl w.heap.size w).alloc lr (.map #[] 0));have hmm := @run_makeMap Tryz.prog;go_enter Tryz.func46,Tryz.ntmps46;go_wp2;clear hmm;generalize hmb:w.heap.size=mb at HMS;have HMBE:=Hi hmb;go_loopw [4,5,6,7,8,15] (fun _ _ _ _ _ i wr=>∃ (k:Nat) (m:List (ByteArray×Value)),k<=l.length/\i=.int .i64 k/\Hid (∀ j,j<k->A3t l j=0)/\Hid (Below w.heap.size w wr)/\Hid (A0i (fun s:ByteArray=>Value.string s) wr mb m)/\Hid (D3x l k m)) (fun _ _ _ _ _ i _=>l.length-(intOf i).toNat)
 case atStart=>exact ⟨0,[],by omega,rfl,Hi fun j hj=>absurd hj (by omega),HMB,HMS,Hi (D3x.start l)⟩
 case round =>
  obtain ⟨k,m,hk,rfl,HZ,HB,HMI,HFI⟩:=hrel;by_cases hlt:k<l.length
  ·obtain ⟨h0,h1,h2,h3,h4,h5,h6,h7,h8,h9,h10⟩:=(HC.out.below HB.out) k hlt;have HX:=Hi ((HO.out k hlt).below HB.out);have HAT:=Hi (fun e=>B8t (e:=e) hfew hlt HZ.out);have HMLT:=Hi HMI.out.lt;by_cases hA:A1b (ek l k)=0
   ·have HA:=Hi hA;clear hA;go_wp2_with fail
    have HBX:=Hi (A1s wr (ek l k) 26);refine (D5u _ _ (HM.out.below (HB.out.alloc HB.out.size _)) (HX.out.below ((Below.refl _ _).alloc lr _))).mono ?_;rintro e w1 ⟨rfl,hb⟩;have HB1:=Hi ((HB.out.alloc HB.out.size _).trans (hb.mono (by simp;exact Nat.le_succ_of_le HB.out.size)));have HBX1:=Hi (HBX.out.below hb);have HM1:=Hi (HMI.out.below (((Below.refl _ _).alloc lr _).trans (hb.mono (by simp))) HMLT.out);have HMLT1:=Hi HM1.out.lt;rw [HA.out];clear hb h0 h1 h2 h3 h4 h5 h6 h7 h8 h9 h10;generalize wr.heap.size=bx at *;obtain ⟨g0,g1,g2,g3,g4,g5,g6,g7,g8,g9,g10⟩:=HBX1.out.zero;have HPZ:=Hi (fun (j:Nat) (hj:j<=k)=>show (ek l j).path.size<=1048576 from Nat.le_trans (C5e (by
     rcases Nat.lt_or_ge j k with h|h
     ·exact (A5v (HZ.out j h)).1
     ·rw [show j=k by omega];exact HA.out)) (by decide))
    go_upto_region 10 with fail
    go_cut [15,38] from 15 to 74 (fun c u wc=>c=.int .i64 k/\u=.bool (B9s l k)/\Hid (Below w1.heap.size w1 wc))
    case first =>
     by_cases hk0:k=0
     ·subst hk0;go_wp2;go_quiet (fail)
      go_wp2_with fail
      go_meet
      case rel=>exact ⟨rfl,congrArg Value.bool (D6r l).symm,Hi (A6a _ _ _)⟩
     ·obtain ⟨q,rfl⟩:∃ q,k=q+1:=⟨k-1,by omega⟩;obtain ⟨p0,_⟩:=(HC.out.below HB1.out) q (by omega);have hwq:IntKind.i64.wrap (q:Int)=(q:Int):=by rw [IntKind.wrap_i64];omega
      have hql:(q:Int)<(l.length:Int):=by omega
      go_wp2
      go_still_tail 11,(by kernel_rfl)
      go_wp2_with fail
      refine (C5b _ _ _ ((HM.out.below HB1.out).below (Below.refl _ _).drew) (HPZ.out q (by omega)) (HPZ.out (q+1) (by omega))).mono ?_;rintro e wc ⟨rfl,hb⟩;have HBC:=Hi ((Below.refl w1.heap.size w1).drew.trans hb);clear hb;go_wp2_with fail
      go_meet
      case rel=>exact ⟨rfl,congrArg Value.bool (E4j _ _),HBC⟩
    case rest =>
     obtain ⟨rfl,rfl,HBC⟩:=hcut;have HB2:=Hi (HB1.out.trans (HBC.out.mono HB1.out.size));have HBX2:=Hi (HBX1.out.below HBC.out);have HM2:=Hi (HM1.out.below HBC.out HMLT1.out);have HMLT2:=Hi HM2.out.lt;clear g0 g1 g2 g3 g4 g5 g6 g7 g8 g9 g10;obtain ⟨g0,g1,g2,g3,g4,g5,g6,g7,g8,g9,g10⟩:=HBX2.out.zero;by_cases hO:B6i l k
     ·have HOK:=Hi hO;rw [C1d hO];clear hO;have HUPC:=Hi (fun w:World=>F0w (ek l k).path w (Nat.le_trans (HPZ.out k lr) (by decide)));have hlook:=E1k HM2.out HFI.out (A2f (ek l k).path);have HUP:=Hi (show C1b l k↔((A2f (ek l k).path).size≠0->(A8m l k (A2f (ek l k).path)).kind=2) from Iff.rfl);generalize hfu:A8m l k (A2f (ek l k).path)=fu at hlook HUP;clear hfu;generalize A2f (ek l k).path=up at *;have hfld:∀ w:World,(Instr.field 26 (.agg #[.string fu.path,.int .i64 fu.kind,.string fu.target,.int .i64 fu.mt.mode,.int .i64 fu.mt.uid,.int .i64 fu.mt.gid,.string fu.mt.user,.string fu.mt.group,.int .i64 fu.mt.second,.int .i64 fu.mt.nano,.slice fu.da fu.data.length fu.dcap]) 1).run Tryz.prog w=.ok (.int .i64 fu.kind) w:=fun _=>rfl
      go_upto_region 13 with (go_at_call 114;refine (HUPC.out _).mono ?_;rintro e w' ⟨rfl,rfl⟩)
      go_cut [15,50] from 15 to 74 (fun c u wc2=>c=.int .i64 k/\u=.bool (!E5p l k)/\wc2=wc)
      case first =>
       by_cases h0:up.size=0
       ·have HU:=Hi (C4g (HUP.out.2 fun e=>absurd h0 e));have he:=A8h h0;clear h0;go_wp2_with fail
        go_meet
        case rel=>exact ⟨rfl,by rw [HU.out];rfl,rfl⟩
       ·have he:=A9e h0;by_cases hkd:fu.kind=2
        ·have HU:=Hi (C4g (HUP.out.2 fun e=>hkd));have hd2:(fu.kind != 2)=false:=by rw [hkd];rfl
         clear hkd h0;go_wp2_with fail
         go_meet
         case rel=>exact ⟨rfl,by rw [HU.out];rfl,rfl⟩
        ·have HU:=Hi (C1q (fun e=>hkd (HUP.out.1 e h0)));have hd2:(fu.kind != 2)=true:=by rw [bne_iff_ne];exact hkd
         clear hkd h0;go_wp2_with fail
         go_meet
         case rel=>exact ⟨rfl,by rw [HU.out];rfl,rfl⟩
      case rest =>
       obtain ⟨rfl,rfl,hwz⟩:=hcut;subst hwz;clear HUP hlook;by_cases hU:C1b l k
       ·rw [C4g hU];have HUO:=Hi hU;clear hU;have hlook:=E1k HM2.out HFI.out (ek l k).target;have HLK:=Hi (show A4y l k↔((ek l k).kind=4->(A8m l k (ek l k).target).kind=1/\(A8m l k (ek l k).target).mt=(ek l k).mt) from Iff.rfl);generalize A8m l k (ek l k).target=fe at hlook HLK;have hbz:=HBX2.out.lt;have HB5:=Hi (HB2.out.alloc HB2.out.size (.cells #[.string fe.path,.int .i64 fe.kind,.string fe.target,.int .i64 fe.mt.mode,.int .i64 fe.mt.uid,.int .i64 fe.mt.gid,.string fe.mt.user,.string fe.mt.group,.int .i64 fe.mt.second,.int .i64 fe.mt.nano,.slice fe.da fe.data.length fe.dcap] 26));have HBX5:=Hi (HBX2.out.below ((Below.refl _ _).alloc lr (.cells #[.string fe.path,.int .i64 fe.kind,.string fe.target,.int .i64 fe.mt.mode,.int .i64 fe.mt.uid,.int .i64 fe.mt.gid,.string fe.mt.user,.string fe.mt.group,.int .i64 fe.mt.second,.int .i64 fe.mt.nano,.slice fe.da fe.data.length fe.dcap] 26)));have HM5:=Hi (HM2.out.below ((Below.refl _ _).alloc lr (.cells #[.string fe.path,.int .i64 fe.kind,.string fe.target,.int .i64 fe.mt.mode,.int .i64 fe.mt.uid,.int .i64 fe.mt.gid,.string fe.mt.user,.string fe.mt.group,.int .i64 fe.mt.second,.int .i64 fe.mt.nano,.slice fe.da fe.data.length fe.dcap] 26)) HMLT2.out);have HFX:=Hi (A1s wc fe 26);go_upto_region 16 with fail
        go_cut [15,69] from 15 to 74 (fun c u wd=>c=.int .i64 k/\u=.bool (!C8i l k)/\wd=wc.alloc (.cells #[.string fe.path,.int .i64 fe.kind,.string fe.target,.int .i64 fe.mt.mode,.int .i64 fe.mt.uid,.int .i64 fe.mt.gid,.string fe.mt.user,.string fe.mt.group,.int .i64 fe.mt.second,.int .i64 fe.mt.nano,.slice fe.da fe.data.length fe.dcap] 26))
        case first =>
         by_cases hk4:(ek l k).kind=4
         ·have hd4:((ek l k).kind==4)=true:=by rw [hk4];rfl
          by_cases hkd:fe.kind=1
          ·have hd2:(fe.kind != 1)=false:=by rw [hkd];rfl
           by_cases hmt:fe.mt=(ek l k).mt
           ·have HU:=Hi (B6k (HLK.out.2 fun _=>⟨hkd,hmt⟩));have e0:=congrArg Meta.mode hmt;have e1:=congrArg Meta.uid hmt;have e2:=congrArg Meta.gid hmt;have e3:fe.mt.user.toList=(ek l k).mt.user.toList:=by rw [hmt]
            have e4:fe.mt.group.toList=(ek l k).mt.group.toList:=by rw [hmt]
            have e5:=congrArg Meta.second hmt;have e6:=congrArg Meta.nano hmt;clear hmt hk4 hkd;go_wp2_with fail
            go_meet
            case rel=>exact ⟨rfl,by rw [HU.out];rfl,by rw [e0,e1,e2,e5,e6]⟩
           ·have HU:=Hi (B4g (fun e=>hmt (HLK.out.1 e hk4).2));clear hk4 hkd;rcases C3u hmt with e0|⟨e0,e1⟩|⟨e0,e1,e2⟩|⟨e0,e1,e2,e3⟩|⟨e0,e1,e2,e3,e4⟩|⟨e0,e1,e2,e3,e4,e5⟩|⟨e0,e1,e2,e3,e4,e5,e6⟩
            all_goals clear hmt
            all_goals go_wp2_with fail
            all_goals go_meet
            all_goals exact ⟨rfl,by rw [HU.out];rfl,by first|rfl|rw [e0,e1,e2,e5]|rw [e0,e1,e2]|rw [e0,e1]|rw [e0]⟩
          ·have HU:=Hi (B4g (fun e=>hkd (HLK.out.1 e hk4).1));have hd2:(fe.kind != 1)=true:=by rw [bne_iff_ne];exact hkd
           clear hk4 hkd;go_wp2_with fail
           go_meet
           case rel=>exact ⟨rfl,by rw [HU.out];rfl,rfl⟩
         ·have HU:=Hi (B6k (HLK.out.2 fun e=>absurd e hk4));have hd4:((ek l k).kind==4)=false:=by rw [beq_eq_false_iff_ne];exact hk4
          clear hk4;go_wp2_with fail
          go_meet
          case rel=>exact ⟨rfl,by rw [HU.out];rfl,rfl⟩
        case rest =>
         obtain ⟨rfl,rfl,hwx⟩:=hcut;subst hwx;by_cases hL:A4y l k
         ·rw [B6k hL];have HS:=Hi (E5i HA.out HOK.out HUO.out hL);have HFN:=Hi (HFI.out.put hlt (D1f HZ.out HS.out));have HWB:=Hi (show mb>=w.heap.size by rw [HMBE.out];exact Nat.le_refl _);obtain ⟨wp,hput,hmp,hgr⟩:=A0i.put HM5.out B2b (t:=140) (k:=9) (e:=26) Tryz.underlying140 Tryz.underlying9 (ek l k).path (ek l k).val;have HMP:=Hi hmp;have HB6:=Hi (HB5.out.grown hgr HB5.out.size (fun q hq=>by cases hq;exact HWB.out));clear hL hmp hgr hlook;go_wp2;go_roundw
          case rel=>exact ⟨k+1,_,by omega,by go_num,Hi (D1f HZ.out HS.out),HB6,HMP,HFN⟩
          case measure=>simp [intOf];omega
         ·rw [B4g hL];have HF:=Hi (HAT.out 11 (C3h HA.out HOK.out HUO.out hL) (by decide));clear hL;go_wp2;go_ret;exact ⟨A4e HF.out,HB5.out⟩
       ·have HF:=Hi (HAT.out 10 (D9f HA.out HOK.out hU) (by decide));rw [C1q hU];clear hU;go_wp2;go_ret;exact ⟨A4e HF.out,HB2.out⟩
     ·have HF:=Hi (HAT.out 6 (C4r HA.out hO) (by decide));rw [C7t hO];clear hO;go_wp2;go_ret;exact ⟨A4e HF.out,HB2.out⟩
   ·have HF:=Hi (HAT.out _ (C5r hA) hA);go_wp2_with fail
    refine (D5u _ _ (HM.out.below (HB.out.alloc HB.out.size _)) (HX.out.below ((Below.refl _ _).alloc lr _))).mono ?_;rintro e w1 ⟨rfl,hb⟩;have HB1:=Hi ((HB.out.alloc HB.out.size _).trans (hb.mono (by simp;exact Nat.le_succ_of_le HB.out.size)));clear hb h0 h1 h2 h3 h4 h5 h6 h7 h8 h9 h10;generalize A1b (ek l k)=q at *;go_wp2;go_ret;exact ⟨A4e HF.out,HB1.out⟩
  ·obtain rfl:k=l.length:=by omega
   have HF:=Hi (B7t hfew HZ.out);go_wp2;go_ret;exact ⟨A4e HF.out,HB.out⟩
theorem D3m (a : Option Addr) (cap : Nat) (w : World) :
 Calls Tryz.prog 46 #[.slice a 0 cap] w fun e w'=>e=.returned (.int .i64 0)/\Below w.heap.size w w':=by
 have HMB:=Hi ((Below.refl w.heap.size w).alloc lr (.map #[] 0));have hmm := @run_makeMap Tryz.prog;go_enter Tryz.func46,Tryz.ntmps46;go_wp2;clear hmm
 go_loop [4,5,6,7,8,15] (fun _ _ _ _ _ i=>i=.int .i64 0) (fun _ _ _ _ _ _=>0)
 case atStart=>rfl
 case round =>
  obtain rfl:=hrel;go_wp2;go_ret;exact ⟨rfl,HMB.out⟩
theorem A7s : A0b [] = 0 := B7t (by simp) (fun j hj => absurd hj (by simp))
theorem B8d (v : Value) (l : List Ent) (w : World) (hM : A1n w) (h : A4a maxLen 11 (F5m maxLen) w [v] l) :
 Calls Tryz.prog 46 #[v] w fun e w'=>e=.returned (.int .i64 (A0b l))/\Below w.heap.size w w':=by
 rcases B1w h with ⟨a,cap,rfl,rfl,_⟩|⟨b,off,cap,rfl,h1,h2,h3,_,h4,h5⟩
 ·rw [A7s];exact D3m a cap w
 ·exact D4y b off cap l w hM h1 h2 h3 h4 h5
theorem B7d (v : Value) (l : List Ent) (w : World) (h : A4a maxLen 11 (F5m maxLen) w [v] l) :
 Calls Tryz.prog 48 #[v] w fun e w'=>e=.returned (.int .i64 (A0b l))/\Below w.heap.size w w':=by
 rcases B1w h with ⟨a,cap,rfl,rfl,_⟩|⟨b,off,cap,rfl,h1,h2,h3,_,h4,h5⟩
 ·rw [A7s];exact (D2m a cap w).mono fun e w' ⟨h1,h2⟩=>⟨h1,by rw [<-h2];exact Below.refl _ _⟩
 ·exact D3y b off cap l w h1 h2 h3 h4 h5
theorem F9o (w : World) (h : w.ShapedOpen Tryz.prog) : A1n w := by
 have hc:∃ m,w.cell? ⟨2,0,none⟩=some (.int .i64 m) :=
  Go.Proofs.cell_of_shapedOpen_int (zero:=#[.int .i64 0]) (t:=3) h (of_decide_eq_true (by kernel_rfl)) (by kernel_rfl) rfl (by kernel_rfl) (by kernel_rfl) Tryz.underlying3
 refine ⟨?_,hc⟩;obtain ⟨m,hm⟩:=hc;rcases Nat.lt_or_ge 2 w.heap.size with h0|h0
 ·exact h0
 ·unfold World.cell? at hm;rw [Array.getElem?_eq_none (by simpa using h0)] at hm;simp at hm
theorem F3m (v : Value) (b : List UInt8) (w : World) (h : A4a maxLen 1 A1e w [v] b) (hbl : b.length ≤ 1048576) (hM : A1n w) (hE : A6p w) (hT : A7m w) :
 Calls Tryz.prog 22 #[v] w (F2w 26 w (B3j b)):=by
 obtain ⟨a,cap,hv,hcp⟩:=A0f h;subst hv;have HM:=Hi hM;have HSM:=Hi (F9h (.slice a b.length cap) b w h hbl hM hE hT);have hat:=D6o b;obtain ⟨⟨l,k,e0⟩,hso⟩:∃ q,A6v b=q:=⟨_,rfl⟩;rw [hso] at HSM hat;simp only at hat;have HQ1:=Hi (fun he=>D0w hso he);have HQ2:=Hi (fun (he:e0=0) h2=>D1e (by rw [hso,he]) h2);have HQ3:=Hi (fun (he:e0=0) h2 h3=>C3x (by rw [hso,he]) h2 h3);have HQ4:=Hi (fun (he:e0=0) h2 h3=>E7n (by rw [hso,he]) h2 h3);obtain ⟨ak,ck,hsk,hcpk⟩:=A0f (A0p (i:=k) h hat);have hsl2:∀ W:World,(Instr.slice 24 (.slice a b.length cap) (some (.int .i64 (k:Int))) none none).run Tryz.prog W=.ok (.slice ak (b.drop k).length ck) W:=fun W=>by rw [<-hsk];exact B5a W a b.length cap k hat hcp
 have HD:=Hi (A0p (i:=k) h hat);rw [hsk] at HD;have hdl:(b.drop k).length<=1048576:=by rw [List.length_drop];omega
 clear h hM hE hT hsk hso;go_enter Tryz.func22,Tryz.ntmps22;go_wp2_with fail
 refine HSM.out.mono ?_;rintro e w1 ⟨v1,l1,rfl,ho1,hbr,hll,hpl,hb1⟩;have HB1:=Hi hb1;have HO1:=Hi ho1;have HBR:=Hi hbr;have HPL:=Hi hpl;have HEF:=Hi (B2y hbr);clear ho1 hbr hpl hb1 HSM;simp only at HBR HEF;by_cases he:e0=0
 ·subst he;have HEN:=Hi (F5u (.slice ak (b.drop k).length ck) (b.drop k) w1 (A3b HD.out HB1.out) hdl);generalize hbk:b.drop k=bk at *;by_cases hz:bk=C6b 1024
  ·have HE1:Hid (Calls Tryz.prog 59 #[.slice ak bk.length ck] w1 fun e w'=>e=.returned (.bool true)/\Below w1.heap.size w1 w'):=Hi (by have:=HEN.out;rw [decide_eq_true hz] at this;exact this);have HZN:=Hi hz;clear HEN hz;go_wp2_with fail
   refine HE1.out.mono ?_;rintro e w3 ⟨rfl,hb3⟩;have HB3:=Hi (HB1.out.trans (hb3.mono HB1.out.size));have HO3:=Hi (HO1.out.below hb3);clear hb3 HE1;have HCK:=Hi (B8d v1 l1 w3 (HM.out.below HB3.out) (HO3.out.slice (by unfold maxLen;omega)));rw [HEF.out] at HCK;by_cases hf:A0b l=0
   ·have HF:=Hi (HQ4.out (by first|rfl|trivial) HZN.out hf);rw [hf] at HCK;clear HQ1 HQ2 HQ3 HQ4 HZN hf;go_wp2_with fail
    refine HCK.out.mono ?_;rintro e w4 ⟨rfl,hb4⟩;have HB4:=Hi (HB3.out.trans (hb4.mono HB3.out.size));have HO4:=Hi (HO3.out.below hb4);clear hb4;go_wp2;go_ret2;rw [HF.out];exact ⟨_,l1,rfl,HO4.out,HBR.out,HPL.out,HB4.out⟩
   ·have HF:=Hi (HQ3.out (by first|rfl|trivial) HZN.out hf);have hq2:(A0b l != 0)=true:=by rw [bne_iff_ne];exact hf
    clear HQ1 HQ2 HQ3 HQ4 HZN hf;go_wp2_with fail
    refine HCK.out.mono ?_;rintro e w4 ⟨rfl,hb4⟩;have HB4:=Hi (HB3.out.trans (hb4.mono HB3.out.size));clear hb4;go_wp2;go_ret2;rw [HF.out];exact ⟨_,[],rfl,A9g.nil _ _ _,rfl,(fun x hx=>absurd hx (by simp)),HB4.out⟩
  ·have HE1:Hid (Calls Tryz.prog 59 #[.slice ak bk.length ck] w1 fun e w'=>e=.returned (.bool false)/\Below w1.heap.size w1 w'):=Hi (by have:=HEN.out;rw [decide_eq_false hz] at this;exact this);have HF:=Hi (HQ2.out rfl hz);clear HEN HQ1 HQ2 HQ3 HQ4 hz;go_wp2_with fail
   refine HE1.out.mono ?_;rintro e w3 ⟨rfl,hb3⟩;have HB3:=Hi (HB1.out.trans (hb3.mono HB1.out.size));clear hb3 HE1;go_wp2;go_ret2;rw [HF.out];exact ⟨_,[],rfl,A9g.nil _ _ _,rfl,(fun x hx=>absurd hx (by simp)),HB3.out⟩
 ·have hq:(e0 != 0)=true:=by rw [bne_iff_ne];exact he
  have HF:=Hi (HQ1.out he);clear HQ1 HQ2 HQ3 HQ4 he;go_wp2;go_ret2;rw [HF.out];exact ⟨_,[],rfl,A9g.nil _ _ _,rfl,(fun x hx=>absurd hx (by simp)),HB1.out⟩
theorem F2m (v : Value) (b : List UInt8) (w : World) (h : A4a maxLen 1 A1e w [v] b) (hbl : b.length ≤ 1048576) (hM : A1n w) (hE : A6p w) (hT : A7m w) :
 Calls Tryz.prog 23 #[v] w (F2w 26 w (B3j b)):=by
 obtain ⟨a,cap,hv,hcp⟩:=A0f h;subst hv;have HM:=Hi hM;have HSM:=Hi (F8h (.slice a b.length cap) b w h hbl hM hE hT);have hat:=D6o b;obtain ⟨⟨l,k,e0⟩,hso⟩:∃ q,A6v b=q:=⟨_,rfl⟩;rw [hso] at HSM hat;simp only at hat;have HQ1:=Hi (fun he=>D0w hso he);have HQ2:=Hi (fun (he:e0=0) h2=>D1e (by rw [hso,he]) h2);have HQ3:=Hi (fun (he:e0=0) h2 h3=>C3x (by rw [hso,he]) h2 h3);have HQ4:=Hi (fun (he:e0=0) h2 h3=>E7n (by rw [hso,he]) h2 h3);obtain ⟨ak,ck,hsk,hcpk⟩:=A0f (A0p (i:=k) h hat);have hsl2:∀ W:World,(Instr.slice 24 (.slice a b.length cap) (some (.int .i64 (k:Int))) none none).run Tryz.prog W=.ok (.slice ak (b.drop k).length ck) W:=fun W=>by rw [<-hsk];exact B5a W a b.length cap k hat hcp
 have HD:=Hi (A0p (i:=k) h hat);rw [hsk] at HD;have hdl:(b.drop k).length<=1048576:=by rw [List.length_drop];omega
 clear h hM hE hT hsk hso;go_enter Tryz.func23,Tryz.ntmps23;go_wp2_with fail
 refine HSM.out.mono ?_;rintro e w1 ⟨v1,l1,rfl,ho1,hbr,hll,hpl,hb1⟩;have HB1:=Hi hb1;have HO1:=Hi ho1;have HBR:=Hi hbr;have HPL:=Hi hpl;have HEF:=Hi (B2y hbr);clear ho1 hbr hpl hb1 HSM;simp only at HBR HEF;by_cases he:e0=0
 ·subst he;have hbd:∀ n,Below w1.heap.size w1 (w1.drewN n):=fun n=>⟨rfl,rfl,rfl,Nat.le_refl _,fun _ _=>rfl⟩
  have hcv:=fun n=>conv (w1.drewN n) (A3b HD.out (HB1.out.trans ((hbd n).mono HB1.out.size)))
  have HBD:=Hi hbd;have HZR:=Hi (fun n=>B2f 1024 (w1.drewN n) (by decide) (by decide));have hzs:A2j (1024:Int).toNat=ofL (C6b 1024):=rfl;rw [hzs] at HZR;generalize hbk:b.drop k=bk at *;clear hbd hzs hbk;by_cases hz:bk=C6b 1024
  ·have hcmp:=ne_t hz;have HZN:=Hi hz;clear hz;go_upto_region 4 with fail
   go_quiet ((go_at_call 60;exact A2n (HZR.out _)))
   have HB3:=Hi (HB1.out.trans ((HBD.out nq).mono HB1.out.size));have HO3:=Hi (HO1.out.below (HBD.out nq));clear HZR hcv hcmp HBD;generalize w1.drewN nq=w3 at *;have HCK:=Hi (B7d v1 l1 w3 (HO3.out.slice (by unfold maxLen;omega)));rw [HEF.out] at HCK;by_cases hf:A0b l=0
   ·have HF:=Hi (HQ4.out (by first|rfl|trivial) HZN.out hf);rw [hf] at HCK;clear HQ1 HQ2 HQ3 HQ4 HZN hf;go_wp2_with fail
    refine HCK.out.mono ?_;rintro e w4 ⟨rfl,hb4⟩;have HB4:=Hi (HB3.out.trans (hb4.mono HB3.out.size));have HO4:=Hi (HO3.out.below hb4);clear hb4;go_wp2;go_ret2;rw [HF.out];exact ⟨_,l1,rfl,HO4.out,HBR.out,HPL.out,HB4.out⟩
   ·have HF:=Hi (HQ3.out (by first|rfl|trivial) HZN.out hf);have hq2:(A0b l != 0)=true:=by rw [bne_iff_ne];exact hf
    clear HQ1 HQ2 HQ3 HQ4 HZN hf;go_wp2_with fail
    refine HCK.out.mono ?_;rintro e w4 ⟨rfl,hb4⟩;have HB4:=Hi (HB3.out.trans (hb4.mono HB3.out.size));clear hb4;go_wp2;go_ret2;rw [HF.out];exact ⟨_,[],rfl,A9g.nil _ _ _,rfl,(fun x hx=>absurd hx (by simp)),HB4.out⟩
  ·have hcmp:=ne_f hz;have HF:=Hi (HQ2.out rfl hz);clear HQ1 HQ2 HQ3 HQ4 hz;go_upto_region 4 with fail
   go_quiet ((go_at_call 60;exact A2n (HZR.out _)))
   go_wp2;go_ret2;rw [HF.out];exact ⟨_,[],rfl,A9g.nil _ _ _,rfl,(fun x hx=>absurd hx (by simp)),HB1.out.trans ((HBD.out _).mono HB1.out.size)⟩
 ·have hq:(e0 != 0)=true:=by rw [bne_iff_ne];exact he
  have HF:=Hi (HQ1.out he);clear HQ1 HQ2 HQ3 HQ4 he;go_wp2;go_ret2;rw [HF.out];exact ⟨_,[],rfl,A9g.nil _ _ _,rfl,(fun x hx=>absurd hx (by simp)),HB1.out⟩
theorem conv2 (w : World) {N : Nat} {v : Value} {l : List UInt8} (h : A4a N 1 A1e w [v] l) (o1 o2 : Obj) : (convert 24 9 v).run Tryz.prog ((w.alloc o1).alloc o2) = .ok (.string (ofL l)) ((w.alloc o1).alloc o2) :=
 conv _ (h.below (fun _ _ h=>h) (((Below.refl _ _).alloc lr _).alloc (by simp) _))
theorem D4z {N : Nat} (x y : Nod) (w : World) (hx : A4a N 1 A1e w [.slice x.da x.data.length x.dcap] x.data) (hy : A4a N 1 A1e w [.slice y.da y.data.length y.dcap] y.data) :
 Calls Tryz.prog 135 #[x.val,y.val] w fun e w'=>e=.returned (.bool (A5x x y))/\Below w.heap.size w w':=by
 have HB:=Hi fun o1 o2:Obj=>((Below.refl w.heap.size w).alloc lr o1).alloc (by simp) o2
 have cx:=conv2 w hx;have cy:=conv2 w hy;clear hx hy;by_cases hm:x.mt=y.mt
 ·obtain ⟨p,k,s,t,m,da,dc,d⟩:=x;obtain ⟨p',k',s',t',m',da',dc',d'⟩:=y;obtain rfl:m=m':=hm;by_cases hd:d=d'
  ·have HF:=Hi (E0d (x:=⟨p,k,s,t,m,da,dc,d⟩) (y:=⟨p',k',s',t',m,da',dc',d'⟩) rfl hd);have he:((ofL d).toList==(ofL d').toList)=true:=by rw [hd];simp
   clear hd;go_enter Tryz.func135,Tryz.ntmps135;go_wp2
   all_goals first
    | (exfalso;simp_all;done)
    | (go_ret;exact ⟨C9y HF.out,HB.out _ _⟩)
  ·have HF:=Hi (F5d (x:=⟨p,k,s,t,m,da,dc,d⟩) (y:=⟨p',k',s',t',m,da',dc',d'⟩) hd);have he:((ofL d).toList==(ofL d').toList)=false:=A5w (fun e=>hd (F4c e));clear hd;go_enter Tryz.func135,Tryz.ntmps135;go_wp2
   all_goals first
    | (exfalso;simp_all;done)
    | (go_ret;exact ⟨C9y HF.out,HB.out _ _⟩)
 ·have HF:=Hi (F4d hm);have HM:=Hi hm;clear hm;go_enter Tryz.func135,Tryz.ntmps135;go_wp2
  all_goals first
   | (exfalso;exact HM.out (D7s (by assumption) (by assumption) (by assumption) (by assumption) (by assumption) (by assumption) (by assumption)))
   | (go_ret;exact ⟨C9y HF.out,HB.out _ _⟩)
end Go.Proofs.YtaffgndickdbiaaGreatDoor
