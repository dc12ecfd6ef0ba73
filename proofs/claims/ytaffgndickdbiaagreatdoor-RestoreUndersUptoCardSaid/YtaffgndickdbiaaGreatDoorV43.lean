/- A part of the proof. -/
import Derived.Test.YtaffgndickdbiaaGreatDoorV42
set_option linter.unusedVariables false
set_option linter.unusedSimpArgs false
set_option maxRecDepth 100000
set_option maxHeartbeats 8000000
namespace Go.Creel
open Go.RowKit
theorem E8s (l : List Ent) (i : Nat) : A3j (l.map Ent.bare) i = A3j l i := by
 unfold A3j;rw [<-List.map_take,B4y];exact C9a _ _
theorem D1t (l : List Ent) (i q : Nat) : A1m (l.map Ent.bare) i q = A1m l i q := by
 unfold A1m;simp only [B4y];rfl
theorem F9e (l : List Ent) (q i : Nat) : B3b (l.map Ent.bare) q i = (B3b l q i).bare := by
 unfold B3b;rw [E8s,D1t,B4y,B4y];by_cases h:(ek l i).kind=4
 ·rw [if_pos (show (ek l i).bare.kind=4 from h),if_pos h];rfl
 ·rw [if_neg (show ¬ (ek l i).bare.kind=4 from h),if_neg h];rfl
theorem D5f (l : List Ent) : A4n (l.map Ent.bare) = (A4n l).map Nod.bare := by
 unfold A4n A9u;rw [List.length_map,List.map_map];exact List.map_congr_left fun i _=>F9e l l.length i
theorem D6t (l : List Ent) : grown (l.map Ent.bare) = ((grown l).1.map Nod.bare,(grown l).2) := by
 by_cases h:A0b l=0
 ·rw [B1d (by rw [A9x];exact h),B1d h,D5f]
 ·rw [B7g (by rw [A9x];exact h),B7g h,A9x];rfl
theorem D7c {l m : List Ent} (h : l.map Ent.bare = m.map Ent.bare) : (grown l).1.map Nod.bare = (grown m).1.map Nod.bare ∧ (grown l).2 = (grown m).2 := by
 have h1:=D6t l;have h2:=D6t m;rw [h,h2] at h1;exact ⟨(congrArg Prod.fst h1).symm,(congrArg Prod.snd h1).symm⟩
theorem E7d (l : List Ent) : (grown l).1.length ≤ 40 := by
 by_cases h:A0b l=0
 ·rw [B1d h];show (A4n l).length<=_
  unfold A4n;rw [A1k];exact (A7j h).1
 ·rw [B7g h];simp
theorem D0e (b : List UInt8) : (B3j b).1.length ≤ 40 := by
 unfold B3j;split
 ·simp
 ·split
  ·simp
  ·split
   ·simp
   ·rename_i h
    rcases Nat.lt_or_ge 40 (A6v b).1.length with h2|h2
    ·exact absurd (B2a h2) (by intro e;exact h (by rw [e];decide))
    ·exact h2
noncomputable def A4j (b : List UInt8) : List Nod × Int := if ¬ (B3j b).2 = 0 then ([],(B3j b).2) else grown (B3j b).1
theorem B9h {b : List UInt8} {l : List Ent} {e : Int} (h : B3j b = (l,e)) (he : ¬ e = 0) : A4j b = ([],e) := by unfold A4j; rw [h]; simp only; rw [if_pos he]
theorem B4n {b : List UInt8} {l : List Ent} {e : Int} (h : B3j b = (l,e)) (he : e = 0) : A4j b = grown l := by unfold A4j; rw [h]; simp only; rw [if_neg (by simpa using he)]
theorem C8m (b : List UInt8) : (A4j b).1.length ≤ 40 := by
 unfold A4j;split
 ·simp
 ·exact E7d _
theorem A2b {l : List Nod} (h : A0a l = 0) : l.length ≤ 40 ∧ ∀ k,k < l.length → A6c (nk l k) = 0 := by
 have hl:l.length<=40:=by
  rcases Nat.lt_or_ge 40 l.length with e|e
  ·rw [A7t e] at h;cases h
  ·exact e
 refine ⟨hl,?_⟩;have key:∀ k,k<=l.length->∀ j,j<k->A9k l j=0:=by
  intro k;induction k with
  | zero=>intro _ j hj;omega
  | succ k ih =>
    intro hk j hj;by_cases e:j=k
    ·subst e;refine Classical.byContradiction fun hne=>?_
     exact hne ((A4v hl (by omega) (ih (by omega)) rfl hne).symm.trans h)
    ·exact ih (by omega) j (by omega)
 intro k hk;exact (B1e (key _ lr k hk)).1
open Classical in
theorem C0h {l : List Nod} {k : Nat} (h : k < l.length) : l.take (k + 1) = l.take k ++ [nk l k] := by rw [List.take_succ_eq_append_getElem h,A5m h]
theorem B5f : ∀ {l : List Nod} {s : ByteArray},A1a l s < l.length → (nk l (A1a l s)).path = s
 | [],_,h=>absurd h (by simp)
 | x::t,s,h=>by
   unfold A1a at h ⊢;by_cases e:x.path=s
   ·rw [if_pos e];exact e
   ·rw [if_neg e] at h ⊢;have h':A1a t s<t.length:=by simp at h;omega
    exact B5f h'
theorem A2x {x : Nod} (h : A6c x = 0) : x.path.size ≤ 400 := by
 unfold A6c A0k at h;have hp:A8b x.path=0:=Classical.byContradiction fun e=>by rw [if_pos e] at h;exact e h
 refine Classical.byContradiction fun e=>?_
 have:=A0o (s:=x.path) (.inr (by omega));rw [hp] at this;cases this
theorem D2s {x : Nod} (h : A6c x = 0) : x.data.length ≤ 2000 := by
 unfold A6c A0k at h;split at h
 ·rename_i h1;exact absurd h h1
 ·split at h
  ·rename_i h1;exact absurd h h1
  ·split at h
   ·split at h
    ·cases h
    ·split at h
     ·cases h
     ·omega
   ·split at h
    ·split at h
     ·cases h
     ·rename_i h1;omega
    ·cases h
theorem B4c {l : List Nod} (h : A0a l = 0) : ∀ i,i < l.length → (nk l i).data.length ≤ 140737488355328 := fun i hi => Nat.le_trans (D2s ((A2b h).2 i hi)) (by omega)
theorem E1u {l : List Nod} (p : Nod → Bool) (h : ∀ i,i < l.length → (nk l i).data.length ≤ 140737488355328) : ∀ i,i < (l.filter p).length → (nk (l.filter p) i).data.length ≤ 140737488355328 := by
 intro i hi;rw [A5m hi];have hm:=(List.mem_filter.1 (List.getElem_mem hi)).1;obtain ⟨j,hj,e⟩:=List.mem_iff_getElem.1 hm;rw [<-e,<-A5m hj];exact h j hj
theorem D1j {p : Nod → Bool} {l : List Nod} {k : Nat} (hk : k < l.length) (h : p (nk l k) = true) : (l.take (k + 1)).filter p = (l.take k).filter p ++ [nk l k] := by
 rw [C0h hk,List.filter_append,List.filter_cons_of_pos h];rfl
theorem D0j {p : Nod → Bool} {l : List Nod} {k : Nat} (hk : k < l.length) (h : p (nk l k) = false) : (l.take (k + 1)).filter p = (l.take k).filter p := by
 rw [C0h hk,List.filter_append,List.filter_cons_of_neg (by simp [h])];simp
def B3c (s d : ByteArray) : Bool := if d.size = 0 then !decide (s.size = 0) else Lib.hasPrefix s.data.toList (d.data.toList ++ [47])
theorem E5r {s d : ByteArray} (h : d.size ≠ 0) : B3c s d = (decide (d.size < s.size) && ((s.extract 0 d.size).toList == d.toList) && decide (byt s d.size = 47)) := by
 unfold B3c;rw [if_neg h,Bool.eq_iff_iff];unfold Lib.hasPrefix;rw [List.isPrefixOf_iff_prefix];simp only [Bool.and_eq_true,decide_eq_true_eq,beq_iff_eq];have hsz:s.size=s.data.toList.length:=Lib.size_eq s;have hdz:d.size=d.data.toList.length:=Lib.size_eq d;constructor
 ·rintro ⟨t,ht⟩;have hlt:d.size<s.size:=by
   have:=congrArg List.length ht;rw [List.length_append,List.length_append] at this;simp at this;omega
  refine ⟨⟨hlt,?_⟩,?_⟩
  ·have e:s.data.toList.take d.data.toList.length=d.data.toList:=by
    rw [<-ht,List.append_assoc];exact List.take_left
   rw [Lib.toList_data,Lib.toList_data,Lib.extract_data,List.drop_zero,Nat.sub_zero,hdz,e]
  ·have e:s.data.toList[d.size]?=some 47:=by
    rw [<-ht,List.append_assoc,hdz,List.getElem?_append_right lr];simp
   exact (C8a s d.size hlt 47).1 ((List.getElem_eq_iff _).2 e)
 ·rintro ⟨⟨hlt,h1⟩,h2⟩;rw [Lib.toList_data,Lib.toList_data,Lib.extract_data] at h1;simp at h1;refine ⟨s.data.toList.drop (d.size+1),?_⟩;have e:=(C8a s d.size hlt 47).2 h2;rw [List.append_assoc,List.singleton_append,<-e,<-List.drop_eq_getElem_cons,<-h1,List.take_append_drop]
theorem E8p {l : List Nod} (h : A0a l = 0) : ∀ k,k < l.length → A9k l k = 0 := by
 have hl:=(A2b h).1;have key:∀ k,k<=l.length->∀ j,j<k->A9k l j=0:=by
  intro k;induction k with
  | zero=>intro _ j hj;omega
  | succ k ih =>
    intro hk j hj;by_cases e:j=k
    ·subst e;refine Classical.byContradiction fun hne=>?_
     exact hne ((A4v hl (by omega) (ih (by omega)) rfl hne).symm.trans h)
    ·exact ih (by omega) j (by omega)
 exact key _ lr
theorem D8f {l : List Nod} {i : Nat} (h : A9k l i = 0) : C1p l i ∧ E2y l i := by
 have h0:=(B1e h).1;have h1:C1p l i:=fun hi=>Classical.byContradiction fun e=>by
  have:=C2r h0 hi e;rw [h] at this;cases this
 refine ⟨h1,fun hu=>Classical.byContradiction fun e=>?_⟩;have:=E4i h0 h1 hu e;rw [h] at this;cases this
abbrev B6m (x y : Nod) : Prop := B7b (A8a x.path) (A8a y.path) = -1
abbrev LikeOk (x y : Nod) : Prop := y.same ≠ 0 → x.same = y.same → A5x x y = true
structure TreeP (l : List Nod) : Prop where
 few:l.length<=40
 nod:∀ x∈l,A6c x=0
 ord:l.Pairwise B6m
 ups:∀ a x b,l=a++x::b->(A2f x.path).size≠0->∃ y∈a,y.path=A2f x.path/\y.kind=2
 like:l.Pairwise LikeOk
theorem F6v {l : List Nod} {k : Nat} (h : k < l.length) : nk l k ∈ l := by rw [A5m h]; exact List.getElem_mem _
theorem nk_mid (a : List Nod) (x : Nod) (b : List Nod) : nk (a ++ x :: b) a.length = x := by
 rw [A5m (by simp)];simp
theorem D8q {x y z : Nod} (h1 : B6m x y) (h2 : B6m y z) : B6m x z := D3h h1 h2
theorem F5b {x y : Nod} (h : B6m x y) : x.path ≠ y.path := by
 intro e;unfold B6m at h;rw [e,C5t] at h;cases h
theorem TreeP.of {l : List Nod} (h : A0a l = 0) : TreeP l := by
 have hs:=E8p h;obtain ⟨h40,hn⟩:=A2b h;refine ⟨h40,fun x hx=>?_,?_,?_,?_⟩
 ·obtain ⟨i,hi,e⟩:=List.mem_iff_getElem.1 hx;rw [<-e,<-A5m hi];exact hn i hi
 ·rw [List.pairwise_iff_getElem];have key:∀ d i,i+d+1<l.length->B6m (nk l i) (nk l (i+d+1)):=by
   intro d;induction d with
   | zero=>intro i hi;have:=(D8f (hs (i+1) hi)).1 (by omega);simpa using this
   | succ d ih =>
     intro i hi;have h1:=ih i (by omega);have h2:=(D8f (hs (i+d+2) (by omega))).1 (by omega);exact D8q h1 (by simpa [Nat.add_assoc] using h2)
  intro i j hi hj hij;have:=key (j-i-1) i (by omega);rw [show i+(j-i-1)+1=j by omega,A5m hi,A5m hj] at this;exact this
 ·intro a x b e hu;have hlen:a.length<l.length:=by rw [e];simp
  have hup:=(D8f (hs a.length hlen)).2;unfold E2y at hup;rw [e,nk_mid,List.take_left] at hup;obtain ⟨h1,h2⟩:=hup hu;have hp:=B5f h1;refine ⟨nk a (A1a a (A2f x.path)),F6v h1,hp,?_⟩;rw [A5m h1];rw [A5m (by simp;omega),List.getElem_append_left h1] at h2;exact h2
 ·rw [List.pairwise_iff_getElem];intro i j hi hj hij h1 h2;have:=(B1e (hs j hj)).2;rw [A5m hj] at this;have:=this h1 i hij (by rw [A5m hi];exact h2);rw [A5m hi] at this;exact this
theorem TreeP.fault {l : List Nod} (h : TreeP l) : A0a l = 0 := by
 refine A3v h.few (fun j hj=>B7c ?_ ?_ ?_ ?_)
 ·exact h.nod _ (F6v hj)
 ·intro h0;have:=List.pairwise_iff_getElem.1 h.ord (j-1) j (by omega) hj (by omega);rw [A5m hj,A5m (by omega)];exact this
 ·intro hu;have e:l=l.take j++nk l j::l.drop (j+1):=by
   rw [A5m hj]
   conv=>lhs;rw [<-List.take_append_drop j l]
   rw [List.drop_eq_getElem_cons hj]
  obtain ⟨y,hy,hp,hk⟩:=h.ups _ _ _ e hu;have hlen:(l.take j).length=j:=by rw [List.length_take];omega
  obtain ⟨i,hi,ei⟩:=List.mem_iff_getElem.1 hy;have hij:i<j:=by omega
  have hil:i<l.length:=by omega
  have eyi:l[i]=y:=by rw [<-ei,List.getElem_take]
  have hfind:A1a (l.take j) (A2f (nk l j).path)=i:=by
   refine B1n (by omega) (fun q hq e=>?_) ?_
   ·have:=List.pairwise_iff_getElem.1 h.ord q i (by omega) hil hq;refine F5b this ?_;rw [eyi,hp,<-e,A5m (by omega),List.getElem_take]
   ·rw [A5m hi,ei];exact hp
  rw [hfind];refine ⟨hij,?_⟩;rw [A5m hil,eyi];exact hk
 ·refine (Classical.em ((nk l j).same=0)).imp id (fun hne k hk hs=>?_);have:=List.pairwise_iff_getElem.1 h.like k j (by omega) hj hk;rw [A5m hj] at hne hs ⊢;rw [A5m (by omega)] at hs ⊢;exact this hne hs
theorem D7n {l : List Nod} : A0a l = 0 ↔ TreeP l := ⟨TreeP.of,TreeP.fault⟩
theorem TreeP.filter {l : List Nod} (h : TreeP l) {p : Nod → Bool} (hp : ∀ x y,x ∈ l → y ∈ l → p x = true → y.path = A2f x.path → (A2f x.path).size ≠ 0 → p y = true) : TreeP (l.filter p) := by
 refine ⟨Nat.le_trans (List.length_filter_le _ _) h.few,fun x hx=>h.nod x (List.mem_filter.1 hx).1,h.ord.filter _,?_,h.like.filter _⟩;intro a x b e hu;obtain ⟨l1,l2,e0,e1,e2⟩:=List.filter_eq_append_iff.1 e;obtain ⟨m1,m2,e3,e4,e5,e6⟩:=List.filter_eq_cons_iff.1 e2;obtain ⟨y,hy,hyp,hyk⟩:=h.ups (l1++m1) x m2 (by rw [e0,e3,List.append_assoc]) hu;have hyl:y∈l:=by rw [e0,e3];rcases List.mem_append.1 hy with h1|h1<;>simp [h1]
 have hxl:x∈l:=by rw [e0,e3];simp
 have hpy:=hp x y hxl hyl e5 hyp hu;refine ⟨y,?_,hyp,hyk⟩;rw [<-e1];rcases List.mem_append.1 hy with h1|h1
 ·exact List.mem_filter.2 ⟨h1,hpy⟩
 ·exact absurd hpy (e4 y h1)
end Go.Creel
namespace Go.Proofs.YtaffgndickdbiaaGreatDoor
open Go.Creel Go.RowKit
theorem F0u (b off cap : Nat) (l : List Ent) (w : World) (hpos : 0 < l.length) (hle : l.length ≤ cap) (hm : cap ≤ maxLen) (hc : B9q w b off l) (hok : ∀ i,i < l.length → (ek l i).Ok maxLen w) (h : A4a maxLen 11 (F5m maxLen) w [.slice (some ⟨b,off,none⟩) l.length cap] l) :
 Calls Tryz.prog 65 #[.slice (some ⟨b,off,none⟩) l.length cap] w (B4j 99 w (grown l)):=by
 obtain ⟨i0,hi,hz0,hz1,hz2⟩:=info_parts A9r;have HI:=Hi (And.intro hi (And.intro hz0 (And.intro hz1 hz2)));have H:=Hi h;have HC:=Hi hc;have HK:=Hi hok;have hml:cap<=maxLen:=hm;have HEQ:=Hi (fun (s:ByteArray) (W:World) (hb:Below w.heap.size w W)=>D8e b off cap l s W hle hml (hc.below hb));unfold maxLen at hm;clear h hc hok hi hz0 hz1 hz2 hml;by_cases hE:A0b l=0
 ·have HF:=Hi (B1d hE);have hfew:=(A7j hE).1;have HZ:=Hi hE;have HD:=Hi (D7t hE);have HGO:=Hi (fun (q:Nat) (hq:q<=l.length)=>refG_ok (w:=w) hE HK.out hq);clear hE;go_enter Tryz.func65,Tryz.ntmps65;go_wp2_with fail
  refine (B7d _ l _ H.out).mono ?_;rintro e w1 ⟨rfl,hb⟩;rw [HZ.out];have HB1:=Hi hb;clear hb;go_wp2;go_loopw [5,6,7,8,10,11,19] (fun v _ _ _ _ _ i wr=>∃ k:Nat,k<=l.length/\i=.int .i64 k/\Hid (A2a 99 wr w.heap.size v (E8i l k))/\Hid (Below w.heap.size w wr)) (fun _ _ _ _ _ _ i _=>l.length-(intOf i).toNat)
  case atStart=>exact ⟨0,by omega,rfl,Hi (A2a.nil _ _ _),HB1⟩
  case round =>
   obtain ⟨k,hk,rfl,HO,HB⟩:=hrel;by_cases hlt:k<l.length
   ·obtain ⟨h0,h1,h2,h3,h4,h5,h6,h7,h8,h9,h10⟩:=(HC.out.below HB.out) k hlt;have HX:=Hi (HK.out k hlt);have HLI:=Hi (fun h=>F6n HZ.out hlt h);have HSU:=Hi (F7a l k);have HNF:=Hi (fun (h:¬ (ek l k).kind=4)=>A1w (q:=l.length) h);have HNO:=Hi (D4i (w:=w) HZ.out HK.out (q:=l.length) hlt);have HCO:=Hi (HGO.out k hk);have hkk:=HX.out.kind;generalize hx:ek l k=x at *;have HEX:=Hi hx;clear hx;have HRS:Hid (RefSt 99 w ((wr.alloc (.cells #[.string x.path,.int .i64 x.kind,.string x.target,.int .i64 x.mt.mode,.int .i64 x.mt.uid,.int .i64 x.mt.gid,.string x.mt.user,.string x.mt.group,.int .i64 x.mt.second,.int .i64 x.mt.nano,.slice x.da x.data.length x.dcap] 26)).alloc (.cells #[.string x.path,.int .i64 x.kind,.int .i64 0,.string x.target,.int .i64 x.mt.mode,.int .i64 x.mt.uid,.int .i64 x.mt.gid,.string x.mt.user,.string x.mt.group,.int .i64 x.mt.second,.int .i64 x.mt.nano,.slice x.da x.data.length x.dcap] 99)) k wr.heap.size u5 x (x.nod 0) (E8i l k)):=Hi (RefSt.made (te:=26) HX.out HO.out (D6g l k) HCO.out HB.out);go_upto_region 9 with fail
    generalize World.alloc (World.alloc wr _) _=w2 at *;generalize wr.heap.size=b1 at *;clear h0 h1 h2 h3 h4 h5 h6 h7 h8 h9 h10;go_wp2;go_loopw [10,37] (fun _ i W=>∃ j:Nat,j<=l.length/\i=.int .i64 j/\Hid (RefSt 99 w W k b1 u5 x (x.nod (B0x l k j)) (E8i l k))) (fun _ i _=>l.length-(intOf i).toNat)
    case atStart=>exact ⟨0,by omega,rfl,HRS⟩
    case round =>
     obtain ⟨j,hj,rfl,HR⟩:=hrel;by_cases hjl:j<l.length
     ·obtain ⟨h0,h1,h2,h3,h4,h5,h6,h7,h8,h9,h10⟩:=(HC.out.below HR.out.below) j hjl;have HTY:=Hi (fun (h:C9g l k j=true)=>E3q h);have HTN:=Hi (fun (h:C9g l k j=false)=>F0a h);have HTD:Hid (C9g l k j=(decide ((ek l j).kind=4)&&((ek l j).target.toList==x.path.toList)&&decide (x.kind=1))):=Hi (by unfold C9g;rw [HEX.out]);have HYB:=Hi (HR.out.onto ((Below.refl wr.heap.size wr).alloc lr (.cells #[.string (ek l j).path,.int .i64 (ek l j).kind,.string (ek l j).target,.int .i64 (ek l j).mt.mode,.int .i64 (ek l j).mt.uid,.int .i64 (ek l j).mt.gid,.string (ek l j).mt.user,.string (ek l j).mt.group,.int .i64 (ek l j).mt.second,.int .i64 (ek l j).mt.nano,.slice (ek l j).da (ek l j).data.length (ek l j).dcap] 26)));have HYA:=Hi (A1s wr (ek l j) 26);generalize ek l j=y at *;go_upto_region 12 with fail
      generalize World.alloc wr _=W2 at *;generalize wr.heap.size=by_ at *;obtain ⟨y0,y1,y2,y3,y4,y5,y6,y7,y8,y9,y10⟩:=HYA.out.zero;obtain ⟨e0,e1,e2,e3,e4,e5,e6,e7,e8,e9,e10⟩:=HYB.out.ent.zero;clear h0 h1 h2 h3 h4 h5 h6 h7 h8 h9 h10 y3 y4 y5 y6 y7 y8 y9 y10 e2 e3 e4 e5 e6 e7 e8 e9 e10;go_cut [55] from 41 to 55 (fun c wx=>∃ cb,c=.bool cb/\Hid (C9g l k j=cb)/\wx=W2)
      case first =>
       by_cases hy4:y.kind=4
       ·have hq1:(y.kind==4)=true:=by rw [beq_iff_eq];exact hy4
        by_cases hyt:y.target=x.path
        ·have hq2:=B3n hyt;by_cases hx1:x.kind=1
         ·have hq3:(x.kind==1)=true:=by rw [beq_iff_eq];exact hx1
          have HQ:=Hi (show C9g l k j=true by rw [HTD.out,decide_eq_true hy4,hq2,decide_eq_true hx1];rfl);clear hy4 hyt hx1;go_wp2;go_meet;exact ⟨_,rfl,HQ,rfl⟩
         ·have hq3:(x.kind==1)=false:=by rw [beq_eq_false_iff_ne];exact hx1
          have HQ:=Hi (show C9g l k j=false by rw [HTD.out,decide_eq_false hx1];simp);clear hy4 hyt hx1;go_wp2;go_meet;exact ⟨_,rfl,HQ,rfl⟩
        ·have hq2:=A5w hyt;have HQ:=Hi (show C9g l k j=false by rw [HTD.out,hq2];simp);clear hy4 hyt;go_wp2;go_meet;exact ⟨_,rfl,HQ,rfl⟩
       ·have hq1:(y.kind==4)=false:=by rw [beq_eq_false_iff_ne];exact hy4
        have HQ:=Hi (show C9g l k j=false by rw [HTD.out,decide_eq_false hy4];simp);clear hy4;go_wp2;go_meet;exact ⟨_,rfl,HQ,rfl⟩
      case rest =>
       obtain ⟨cb,rfl,HCB,rfl⟩:=hcut;cases cb with
       | true =>
         have HPT:=Hi (HYB.out.put (j:=2) (by omega) (x.nod ((k:Int)+1)) (.int .i64 ((k:Int)+1)) rfl (Ent.nod_ok HX.out (by unfold i64;omega)));obtain ⟨d0,d1,d2,d3,d4,d5,d6,d7,d8,d9,d10,d11⟩:=HYB.out.cells;have f2:=HYB.out.free 2;simp only [Nat.zero_add] at d2;clear d0 d1 d3 d4 d5 d6 d7 d8 d9 d10 d11;have HS:=Hi (HTY.out HCB.out);go_wp2;go_roundw
         case rel=>exact ⟨j+1,by omega,by go_num,Hi (by rw [HS.out];exact HPT.out)⟩
         case measure=>simp [intOf];omega
       | false =>
         have HS:=Hi (HTN.out HCB.out);go_wp2;go_roundw
         case rel=>exact ⟨j+1,by omega,by go_num,Hi (by rw [HS.out];exact HYB.out)⟩
         case measure=>simp [intOf];omega
     ·obtain rfl:j=l.length:=by omega
      obtain ⟨e0,e1,e2,e3,e4,e5,e6,e7,e8,e9,e10⟩:=HR.out.ent.zero;go_upto_if 62 with fail
      generalize hkb:(x.kind==4)=kb at *;have HKB:=Hi hkb;clear hkb;go_cut [11] from 63 to 77 (fun _ wx=>Hid (RefSt 99 w wx k b1 u5 x (B3b l l.length k) (E8i l k)))
      case first =>
       cases kb with
       | true =>
         have hk4:x.kind=4:=by have:=HKB.out;rwa [beq_iff_eq] at this
         obtain ⟨hq,hgn⟩:=HLI.out hk4;have HGN:=Hi hgn;have HCE:=Hi (HEQ.out x.target wr HR.out.below);have HKQ:=Hi (HK.out _ hq);clear hk4 hgn;generalize A4c l x.target=q at *;obtain ⟨d0,d1,d2,d3,d4,d5,d6,d7,d8,d9,d10,d11⟩:=HR.out.cells;have f1:=HR.out.free 1;simp only [Nat.zero_add] at d1;clear d0 d2 d3 d4 d5 d6 d7 d8 d9 d10 d11;go_upto_region 17 with (go_at_call 63;refine HCE.out.mono ?_;rintro e w' ⟨rfl,rfl⟩)
         have hz0:=HR.out.zok;have H17:=Hi (HR.out.put (j:=1) (by omega) ⟨x.path,1,B0x l k l.length,x.target,x.mt,x.da,x.dcap,x.data⟩ (.int .i64 1) rfl ⟨hz0.path,(show i64 (1:Int) by unfold i64;omega),hz0.same,hz0.target,hz0.mt,hz0.data⟩);go_cut [] from 67 to 67 (fun wx=>Hid (RefSt 99 w wx k b1 u5 x ⟨x.path,1,B0x l k l.length,x.target,x.mt,x.da,x.dcap,x.data⟩ (E8i l k)))
         case first =>
          clear hz0;go_wp2;go_meet;exact H17
         case rest =>
          clear H17 d1 f1 e0 e1 e2 e3 e4 e5 e6 e7 e8 e9 e10;have HR1:=hcut;clear hcut;obtain ⟨d0,d1,d2,d3,d4,d5,d6,d7,d8,d9,d10,d11⟩:=HR1.out.cells;have f3:=HR1.out.free 3;simp only [Nat.zero_add] at d3;clear d0 d1 d2 d4 d5 d6 d7 d8 d9 d10 d11;have H18:=Hi (HR1.out.put (j:=3) (by omega) ⟨x.path,1,B0x l k l.length,ByteArray.empty,x.mt,x.da,x.dcap,x.data⟩ (.string ByteArray.empty) rfl ⟨hz0.path,(show i64 (1:Int) by unfold i64;omega),hz0.same,by simp [maxLen],hz0.mt,hz0.data⟩);go_upto_region 18 with fail
          go_cut [] from 68 to 68 (fun wx=>Hid (RefSt 99 w wx k b1 u5 x ⟨x.path,1,B0x l k l.length,ByteArray.empty,x.mt,x.da,x.dcap,x.data⟩ (E8i l k)))
          case first =>
           clear hz0;go_wp2;go_meet;exact H18
          case rest =>
           clear H18 d3 f3;have HR2:=hcut;clear hcut;obtain ⟨d0,d1,d2,d3,d4,d5,d6,d7,d8,d9,d10,d11⟩:=HR2.out.cells;have f2:=HR2.out.free 2;simp only [Nat.zero_add] at d2;clear d0 d1 d3 d4 d5 d6 d7 d8 d9 d10 d11;have H19:=Hi (HR2.out.put (j:=2) (by omega) ⟨x.path,1,(q:Int)+1,ByteArray.empty,x.mt,x.da,x.dcap,x.data⟩ (.int .i64 ((q:Int)+1)) rfl ⟨hz0.path,(show i64 (1:Int) by unfold i64;omega),(show i64 ((q:Int)+1) by unfold i64;omega),by simp [maxLen],hz0.mt,hz0.data⟩);go_upto_region 19 with fail
           go_cut [] from 69 to 71 (fun wx=>Hid (RefSt 99 w wx k b1 u5 x ⟨x.path,1,(q:Int)+1,ByteArray.empty,x.mt,x.da,x.dcap,x.data⟩ (E8i l k)))
           case first =>
            clear hz0;go_wp2;go_meet;exact H19
           case rest =>
            clear H19 d2 f2;have HR3:=hcut;clear hcut;obtain ⟨d0,d1,d2,d3,d4,d5,d6,d7,d8,d9,d10,d11⟩:=HR3.out.cells;have f11:=HR3.out.free 11;simp only [Nat.zero_add] at d11;clear d0 d1 d2 d3 d4 d5 d6 d7 d8 d9 d10;obtain ⟨g0,g1,g2,g3,g4,g5,g6,g7,g8,g9,g10⟩:=(HC.out.below HR3.out.below) q hq;clear g0 g1 g2 g3 g4 g5 g6 g7 g8 g9;have H20:=Hi (HR3.out.put (j:=11) (by omega) ⟨x.path,1,(q:Int)+1,ByteArray.empty,x.mt,(ek l q).da,(ek l q).dcap,(ek l q).data⟩ (.slice (ek l q).da (ek l q).data.length (ek l q).dcap) rfl ⟨hz0.path,(show i64 (1:Int) by unfold i64;omega),(show i64 ((q:Int)+1) by unfold i64;omega),by simp [maxLen],hz0.mt,HKQ.out.data⟩);rw [<-HGN.out] at H20;clear hz0;go_wp2;go_meet;exact H20
       | false =>
         have hk4:¬ x.kind=4:=by have:=HKB.out;rwa [beq_eq_false_iff_ne] at this
         have HQ:=Hi (HNF.out hk4);clear hk4;go_wp2;go_meet;exact Hi (by rw [HQ.out];exact HR.out)
      case rest =>
       have HRZ:=hcut;clear hcut e0 e1 e2 e3 e4 e5 e6 e7 e8 e9 e10 HR HLI HNF;generalize B3b l l.length k=z at *;have HBA:=Hi ((Below.refl wc.heap.size wc).alloc lr (C0u 99 z));have HR7:=Hi (HRZ.out.onto HBA.out);have HI7:=Hi (B2o HRZ.out.zok HR7.out.below HR7.out.own lr);have HMS7:=Hi HR7.out.below.size;have HO7:=Hi HR7.out.own;have HB7:=Hi HR7.out.below;have hcl:=D6g l k;obtain ⟨d0,d1,d2,d3,d4,d5,d6,d7,d8,d9,d10,d11⟩:=HRZ.out.cells;simp only [Nat.zero_add] at d0 d1 d2 d3 d4 d5 d6 d7 d8 d9 d10 d11;generalize E8i l k=c at *;go_wp2_with (at_builtin;refine A9b _ rfl (.tmp 78) (.tmp 80) 51 51 rfl _ _ rfl rfl (fun ty=>A8g _ 51 51 ty w.heap.size 99 i0 _ 12 144 Tryz.underlying51 HI.out.1 HI.out.2.1 HI.out.2.2.1 HI.out.2.2.2 rfl (by decide) _ _ c.length 1 _ _ HO7.out.1 (B0v wc rfl _ _ _ Tryz.underlying51 z) (by unfold maxLen;omega) (by omega) HMS7.out) ?_;intro v2 w8 ho2 hg2 hv2;have HZZ:=Hi (And.intro ho2 (And.intro hg2 hv2));clear ho2 hg2 hv2)
       have HO8:=Hi (HO7.out.app (m:=[z]) (fun y hy=>by rw [List.mem_singleton.1 hy];exact HI7.out) HZZ.out.1 HZZ.out.2.1 HZZ.out.2.2.2);have HB8:=Hi (A7b HB7.out HZZ.out.2.1 HO7.out.1 HB7.out.size);go_wp2;go_roundw
       case rel=>exact ⟨k+1,by omega,by go_num,Hi (by rw [HSU.out];exact HO8.out),HB8⟩
       case measure=>simp [intOf];omega
   ·obtain rfl:k=l.length:=by omega
    go_wp2_with fail
    refine (B9m _ (A4n l) _ (HO.out.slice (by rw [D6g];unfold maxLen;omega)) (by unfold A4n;rw [A1k];omega) HD.out).mono ?_;rintro e w5 ⟨v5,c,rfl,ho,hcb,hb⟩;have HO5:=Hi (ho.mono HB.out.size);have HB5:=Hi (HB.out.trans (hb.mono HB.out.size));have HC5:=Hi hcb;clear ho hb hcb;go_wp2;go_ret2;rw [HF.out];exact ⟨_,c,rfl,HO5.out,HC5.out,HB5.out⟩
 ·have HF:=Hi (B7g hE);have HE:=Hi hE;clear hE;go_enter Tryz.func65,Tryz.ntmps65;go_wp2_with fail
  refine (B7d _ l _ H.out).mono ?_;rintro e w1 ⟨rfl,hb⟩;have HB1:=Hi hb;have hne:=HE.out;clear hb;generalize A0b l=q at *;go_wp2;go_ret2;rw [HF.out];exact ⟨_,[],rfl,A2a.nil _ _ _,rfl,HB1.out⟩
theorem F1k (a : Option Addr) (cap : Nat) (w : World) (h : A4a maxLen 11 (F5m maxLen) w [.slice a 0 cap] []) :
 Calls Tryz.prog 65 #[.slice a 0 cap] w (B4j 99 w (grown [])):=by
 have HF:=Hi (show grown []=([],0) from B1d A7s);have H:=Hi h;clear h;go_enter Tryz.func65,Tryz.ntmps65;go_wp2_with fail
 refine (B7d _ [] _ H.out).mono ?_;rintro e w1 ⟨rfl,hb⟩;rw [A7s];have HMB:=Hi hb;clear hb;go_wp2
 go_loop [5,6,7,8,10,11,19] (fun v _ _ _ _ _ i=>v=.slice none 0 0/\i=.int .i64 0) (fun _ _ _ _ _ _ _=>0)
 case atStart=>exact ⟨rfl,rfl⟩
 case round =>
  obtain ⟨rfl,rfl⟩:=hrel;go_wp2_with fail
  refine (D7y none 0 _).mono ?_;rintro e w5 ⟨v5,c,rfl,ho,hcb,hb⟩;have HO5:=Hi (ho.mono HMB.out.size);have HB5:=Hi (HMB.out.trans (hb.mono HMB.out.size));have HC5:=Hi hcb;clear ho hb hcb;go_wp2;go_ret2;rw [HF.out];exact ⟨_,c,rfl,HO5.out,HC5.out,HB5.out⟩
theorem F2k (v : Value) (l : List Ent) (w : World) (h : A4a maxLen 11 (F5m maxLen) w [v] l) :
 Calls Tryz.prog 65 #[v] w (B4j 99 w (grown l)):=by
 rcases B1w h with ⟨a,cap,rfl,rfl,_⟩|⟨b,off,cap,rfl,h1,h2,h3,_,h4,h5⟩
 ·exact F1k a cap w h
 ·exact F0u b off cap l w h1 h2 h3 h4 h5 h
theorem F0s (v : Value) (b : List UInt8) (w : World) (h : A4a maxLen 1 A1e w [v] b) (hbl : b.length ≤ 1048576) (hM : A1n w) (hE : A6p w) (hT : A7m w) :
 Calls Tryz.prog 29 #[v] w (B4j 99 w (A4j b)):=by
 have HAR:=Hi (F3m v b w h hbl hM hE hT);have HM:=Hi hM;have hlen:=D0e b;obtain ⟨⟨l,e0⟩,hk⟩:∃ q,B3j b=q:=⟨_,rfl⟩;have HQ1:=Hi (fun he=>B9h hk he);have HQ2:=Hi (fun he=>B4n hk he);rw [hk] at HAR hlen;simp only at hlen;clear h hM hE hT hk;go_enter Tryz.func29,Tryz.ntmps29;go_wp2_with fail
 refine HAR.out.mono ?_;rintro e w1 ⟨v1,l1,rfl,ho,hbr,_,hb⟩;have HB1:=Hi hb;have HO1:=Hi ho;have HG:=Hi (D7c hbr);have HLN:=Hi (show l1.length<=maxLen by rw [C0f hbr];unfold maxLen;simp only;omega);clear ho hbr hb HAR;by_cases he:e0=0
 ·have HF:=Hi (HQ2.out he);subst he;have HGR:=Hi (F4k v1 l1 w1 (HM.out.below HB1.out) (HO1.out.slice HLN.out));simp only at HG;generalize grown l1=p1 at *;generalize grown l=p at *;obtain ⟨t1,f1⟩:=p1;obtain ⟨t0,f0⟩:=p;obtain ⟨hg1,hg2⟩:=HG.out;simp only at hg1 hg2;subst hg2;have HG1:=Hi hg1;clear HQ1 HQ2 HG hg1;go_wp2_with fail
  refine HGR.out.mono ?_;rintro e w2 ⟨v2,c,rfl,ho,hc,hb⟩;have HB2:=Hi (HB1.out.trans (hb.mono HB1.out.size));have HO2:=Hi (ho.mono HB1.out.size);have HC:=Hi hc;clear ho hc hb;go_wp2;go_ret2;rw [HF.out];exact ⟨_,c,rfl,HO2.out,HC.out.trans HG1.out,HB2.out⟩
 ·have hq:(e0 != 0)=true:=by rw [bne_iff_ne];exact he
  have HF:=Hi (HQ1.out he);clear HQ1 HQ2 he;go_wp2;go_ret2;rw [HF.out];exact ⟨_,[],rfl,A2a.nil _ _ _,rfl,HB1.out⟩
theorem F1s (v : Value) (b : List UInt8) (w : World) (h : A4a maxLen 1 A1e w [v] b) (hbl : b.length ≤ 1048576) (hM : A1n w) (hE : A6p w) (hT : A7m w) :
 Calls Tryz.prog 30 #[v] w (B4j 99 w (A4j b)):=by
 have HAR:=Hi (F2m v b w h hbl hM hE hT);have hlen:=D0e b;obtain ⟨⟨l,e0⟩,hk⟩:∃ q,B3j b=q:=⟨_,rfl⟩;have HQ1:=Hi (fun he=>B9h hk he);have HQ2:=Hi (fun he=>B4n hk he);rw [hk] at HAR hlen;simp only at hlen;clear h hM hE hT hk;go_enter Tryz.func30,Tryz.ntmps30;go_wp2_with fail
 refine HAR.out.mono ?_;rintro e w1 ⟨v1,l1,rfl,ho,hbr,_,hb⟩;have HB1:=Hi hb;have HO1:=Hi ho;have HG:=Hi (D7c hbr);have HLN:=Hi (show l1.length<=maxLen by rw [C0f hbr];unfold maxLen;simp only;omega);clear ho hbr hb HAR;by_cases he:e0=0
 ·have HF:=Hi (HQ2.out he);subst he;have HGR:=Hi (F2k v1 l1 w1 (HO1.out.slice HLN.out));simp only at HG;generalize grown l1=p1 at *;generalize grown l=p at *;obtain ⟨t1,f1⟩:=p1;obtain ⟨t0,f0⟩:=p;obtain ⟨hg1,hg2⟩:=HG.out;simp only at hg1 hg2;subst hg2;have HG1:=Hi hg1;clear HQ1 HQ2 HG hg1;go_wp2_with fail
  refine HGR.out.mono ?_;rintro e w2 ⟨v2,c,rfl,ho,hc,hb⟩;have HB2:=Hi (HB1.out.trans (hb.mono HB1.out.size));have HO2:=Hi (ho.mono HB1.out.size);have HC:=Hi hc;clear ho hc hb;go_wp2;go_ret2;rw [HF.out];exact ⟨_,c,rfl,HO2.out,HC.out.trans HG1.out,HB2.out⟩
 ·have hq:(e0 != 0)=true:=by rw [bne_iff_ne];exact he
  have HF:=Hi (HQ1.out he);clear HQ1 HQ2 he;go_wp2;go_ret2;rw [HF.out];exact ⟨_,[],rfl,A2a.nil _ _ _,rfl,HB1.out⟩
theorem C1g (v : Value) (l : List Nod) (s : ByteArray) (w : World) (h : A4a maxLen 12 (B6b maxLen) w [v] l) :
 Calls Tryz.prog 68 #[v,.string s] w fun e w'=>e=.returned (.tuple #[.int .i64 (A0u (A1a l s) l.length).1,.int .i64 (A0u (A1a l s) l.length).2])/\Below w.heap.size w w':=by
 rcases A1g h with ⟨a,cap,rfl,rfl,_⟩|⟨b,off,cap,rfl,h1,h2,h3,h6,h4,h5⟩
 ·exact F3u a cap s w
 ·exact F5k b off cap l s w h2 h3 h4
theorem B5d (v : Value) (l : List Nod) (s : ByteArray) (w : World) (h : A4a maxLen 12 (B6b maxLen) w [v] l) :
 Calls Tryz.prog 71 #[v,.string s] w fun e w'=>e=.returned (.int .i64 (A1a l s))/\w=w':=by
 rcases A1g h with ⟨a,cap,rfl,rfl,_⟩|⟨b,off,cap,rfl,h1,h2,h3,h6,h4,h5⟩
 ·exact C3o a cap s w
 ·exact C6x b off cap l s w h2 h3 h4
theorem In_any (s d : ByteArray) (w : World) (hd : d.size ≤ 4000000000) :
 Calls Tryz.prog 69 #[.string s,.string d] w fun e w'=>e=.returned (.bool (B3c s d))/\w=w':=by
 by_cases h0:d.size=0
 ·have HF:=Hi (show B3c s d = !decide (s.size=0) by unfold B3c;rw [if_pos h0]);have he:=A8h h0;by_cases h1:s.size=0
  ·have he1:=A8h h1;have H1:=Hi h1;have HP:Hid (Lib.hasPrefix s.data.toList (d++⟨#[47]⟩).data.toList=false):=Hi (by
    have e1:s.data.toList=[]:=List.eq_nil_of_length_eq_zero (by rw [<-Lib.size_eq s];exact h1);have e2:d.data.toList=[]:=List.eq_nil_of_length_eq_zero (by rw [<-Lib.size_eq d];exact h0);unfold Lib.hasPrefix;rw [e1];simp [e2])
   clear h0 h1;go_enter Tryz.func69,Tryz.ntmps69;go_wp2_with (go_at_call 133;refine (Tryz.strings_HasPrefix _ _ _).mono ?_;rintro e w' ⟨rfl,rfl⟩;rw [HP.out])
   go_ret;exact ⟨by rw [HF.out];simp [H1.out],rfl⟩
  ·have he1:=A9e h1;have H1:=Hi h1;clear h0 h1;go_enter Tryz.func69,Tryz.ntmps69;go_wp2;go_ret;exact ⟨by rw [HF.out];simp [H1.out],rfl⟩
 ·have he:=A9e h0;have HF:=Hi (show B3c s d=Lib.hasPrefix s.data.toList (d++⟨#[47]⟩).data.toList by
   unfold B3c;rw [if_neg h0];simp)
  clear h0;go_enter Tryz.func69,Tryz.ntmps69;go_wp2_with (go_at_call 133;refine (Tryz.strings_HasPrefix _ _ _).mono ?_;rintro e w' ⟨rfl,rfl⟩)
  go_ret;exact ⟨by rw [HF.out];simp,rfl⟩
theorem E5w (s d : ByteArray) (w : World) (hs : s.size ≤ 4000000000) (hd : d.size ≤ 4000000000) :
 Calls Tryz.prog 72 #[.string s,.string d] w fun e w'=>e=.returned (.bool (B3c s d))/\Below w.heap.size w w':=by
 by_cases h0:d.size=0
 ·have HF:=Hi (show B3c s d = !decide (s.size=0) by unfold B3c;rw [if_pos h0]);have he:=A8h h0;have H0:=Hi h0;clear h0;by_cases h1:s.size=0
  ·have he1:=A8h h1;have H1:=Hi h1;clear h1;go_enter Tryz.func72,Tryz.ntmps72;go_wp2;go_ret;exact ⟨by rw [HF.out];simp [H1.out,he1],Below.refl _ _⟩
  ·have he1:=A9e h1;have H1:=Hi h1;clear h1;go_enter Tryz.func72,Tryz.ntmps72;go_wp2;go_ret;exact ⟨by rw [HF.out];simp [H1.out,he1],Below.refl _ _⟩
 ·have HF:=Hi (E5r (s:=s) h0);have he:=A9e h0;clear h0;by_cases hlt:d.size<s.size
  ·have hb0:(((s[d.size].toNat:Nat):Int)==47)=decide (byt s d.size=47):=by
    rw [<-A4f s d.size hlt,Bool.eq_iff_iff,beq_iff_eq,decide_eq_true_eq];omega
   have HL:=Hi hlt;by_cases hq:(s.extract 0 d.size).toList=d.toList
   ·have HQ:=Hi hq;clear hq;generalize decide (byt s d.size=47)=z at *;have HZ:=Hi hb0;clear hb0;go_enter Tryz.func72,Tryz.ntmps72;go_wp2
    ·go_ret;exact ⟨by rw [HF.out];simp [HL.out,HQ.out,HZ.out],Below.refl _ _⟩
   ·have HQ:=Hi hq;clear hq hb0;go_enter Tryz.func72,Tryz.ntmps72;go_wp2
    ·go_ret;exact ⟨by rw [HF.out];simp [HQ.out],Below.refl _ _⟩
  ·go_enter Tryz.func72,Tryz.ntmps72;go_wp2;go_ret;exact ⟨by rw [HF.out];simp [hlt],Below.refl _ _⟩
end Go.Proofs.YtaffgndickdbiaaGreatDoor
