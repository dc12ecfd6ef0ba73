/- A part of the proof. -/
import Derived.Test.YtaffgndickdbiaaGreatDoorV06
import Derived.Lib.LastIndexByte
set_option linter.unusedVariables false
set_option linter.unusedSimpArgs false
set_option maxRecDepth 100000
set_option maxHeartbeats 40000000
namespace Go.Creel
open Go.RowKit
def B7h : List (List UInt8) → List UInt8
 | []=>[]
 | [h]=>h
 | h::t=>h++47::B7h t
theorem E1t {h : List UInt8} {t : List (List UInt8)} (ht : t ≠ []) : B7h (h :: t) = h ++ 47 :: B7h t := by
 cases t with
 | nil=>exact absurd rfl ht
 | cons a b=>rfl
theorem C4a : ∀ l,B7h (A9c 47 l) = l
 | []=>rfl
 | x::l=>by
   have ih:=C4a l;by_cases h:x=47
   ·have:A9c 47 (x::l)=[]::A9c 47 l:=by
     conv=>lhs;unfold A9c
     rw [if_pos h]
    rw [this,E1t (A1x _ _),ih,h];rfl
   ·rw [A8r h];cases hp:A9c 47 l with
    | nil=>exact absurd hp (A1x _ _)
    | cons a t =>
      rw [hp] at ih;cases t with
      | nil=>simp only [B7h] at ih ⊢;rw [ih]
      | cons b t=>simp only [B7h,List.cons_append] at ih ⊢;rw [ih]
theorem D4c : ∀ (L : List (List UInt8)) (x : List UInt8),B7h (L ++ [x]) = if L = [] then x else B7h L ++ 47 :: x
 | [],x=>rfl
 | [a],x=>by simp [B7h]
 | a::b::t,x=>by
   have ih:=D4c (b::t) x;rw [if_neg (by simp)] at ih ⊢;show a++47::B7h ((b::t)++[x])=(a++47::B7h (b::t))++47::x
   rw [ih];simp
theorem B8z {c : UInt8} : ∀ {l : List UInt8},(∀ x ∈ l,x ≠ c) → A9c c l = [l]
 | [],_=>rfl
 | a::l,h=>by
   rw [A8r (h a (by simp)),B8z (fun x hx=>h x (by simp [hx]))]
theorem D6b {c : UInt8} {b : List UInt8} (hb : ∀ x ∈ b,x ≠ c) : ∀ a : List UInt8,A9c c (a ++ c :: b) = A9c c a ++ [b]
 | []=>by simp [A9c,B8z hb]
 | x::a=>by
   have ih:=D6b hb a;by_cases h:x=c
   ·simp only [List.cons_append,A9c,h,if_true];rw [ih]
   ·rw [List.cons_append,A8r h,A8r h,ih];cases hp:A9c c a with
    | nil=>exact absurd hp (A1x _ _)
    | cons h t=>rfl
def A2f (s : ByteArray) : ByteArray := ofL (B7h (A9c 47 s.data.toList).dropLast)
def B9n (s : ByteArray) : ByteArray := ofL ((A9c 47 s.data.toList).getLastD [])
def A8a (s : ByteArray) : List ByteArray := if s.size = 0 then [] else A6i 47 s
theorem E8e (s : ByteArray) (j : Nat) (h : j < s.size) : (s.data[j]!).toNat = byt s j := by
 rw [getElem!_pos s.data j (by simpa using h)];unfold byt;rw [List.getD_eq_getElem?_getD,List.getElem?_eq_getElem (by simpa using h)];simp
theorem E9s (s : ByteArray) : (Lib.lastIndexByte s 47 = -1 ∧ A2f s = ByteArray.empty ∧ B9n s = s) ∨
 ∃ i:Nat,Lib.lastIndexByte s 47=i/\i<s.size/\A2f s=s.extract 0 i/\B9n s=s.extract (i+1) s.size:=by
 have hsz:s.size=s.data.toList.length:=Lib.size_eq s;rcases Lib.lastIndexByte_spec s 47 with ⟨h1,h2⟩|⟨i,h1,h2,h3,h4⟩
 ·left;have hf:∀ x∈s.data.toList,x≠47:=by
   intro x hx e;obtain ⟨k,hk,rfl⟩:=List.getElem_of_mem hx;have hk':k<s.size:=by omega
   have:=h2 k hk';rw [E8e s k hk',(C8a s k hk' 47).1 e] at this;exact this rfl
  have hp:=B8z hf;refine ⟨h1,?_,?_⟩
  ·unfold A2f;rw [hp];rfl
  ·unfold B9n;rw [hp];exact C2n s
 ·right;have hi:byt s i=47:=by rw [<-E8e s i h1];omega
  have hsplit:s.data.toList=s.data.toList.take i++47::s.data.toList.drop (i+1):=by
   have e:=(C8a s i h1 47).2 hi;rw [<-e,<-List.drop_eq_getElem_cons,List.take_append_drop]
  have hf:∀ x∈s.data.toList.drop (i+1),x≠47:=by
   intro x hx e;obtain ⟨k,hk,rfl⟩:=List.getElem_of_mem hx;rw [List.getElem_drop] at e;have hk':i+1+k<s.size:=by simp at hk;omega
   have:=h4 (i+1+k) (by omega) hk';rw [E8e s _ hk',(C8a s _ hk' 47).1 e] at this;exact this rfl
  have hp:A9c 47 s.data.toList=A9c 47 (s.data.toList.take i)++[s.data.toList.drop (i+1)]:=by
   conv=>lhs;rw [hsplit]
   exact D6b hf _
  refine ⟨i,h2,h1,?_,?_⟩
  ·unfold A2f;rw [hp,List.dropLast_concat,C4a];apply A0h;rw [A0d,Lib.extract_data];simp
  ·unfold B9n;rw [hp];apply A0h;rw [A0d,Lib.extract_data];have hd:(s.data.toList.drop (i+1)).length<=s.size-(i+1):=by rw [List.length_drop];omega
   rw [List.take_of_length_le hd];simp
def B5w (x y : ByteArray) : Int := if Op.bytesLess x.toList y.toList = true then -1 else if (x.toList == y.toList) = true then 0 else 1
theorem A9s (x y : ByteArray) : (Op.bytesLess x.toList y.toList = true ∧ B5w x y = -1) ∨ (Op.bytesLess x.toList y.toList = false ∧ (x.toList == y.toList) = true ∧ B5w x y = 0) ∨ (Op.bytesLess x.toList y.toList = false ∧ (x.toList == y.toList) = false ∧ B5w x y = 1) := by
 unfold B5w;cases h:Op.bytesLess x.toList y.toList with
 | true=>exact .inl ⟨rfl,by simp⟩
 | false =>
   right;cases h2:(x.toList==y.toList) with
   | true=>exact .inl ⟨rfl,rfl,by simp⟩
   | false=>exact .inr ⟨rfl,rfl,by simp⟩
def B7b : List ByteArray → List ByteArray → Int
 | [],[]=>0
 | [],_::_ => -1
 | _::_,[]=>1
 | x::xs,y::ys=>if B5w x y=0 then B7b xs ys else B5w x y
theorem B8s {X Y : List ByteArray} : ∀ {k : Nat},k ≤ X.length → k ≤ Y.length → (∀ j,j < k → B5w (A9i X j) (A9i Y j) = 0) → B7b X Y = B7b (X.drop k) (Y.drop k)
 | 0,_,_,_=>by simp
 | k+1,hx,hy,h=>by
   rw [B8s (k:=k) (by omega) (by omega) (fun j hj=>h j (by omega))];rw [List.drop_eq_getElem_cons (show k<X.length by omega),List.drop_eq_getElem_cons (show k<Y.length by omega)];have:=h k (by omega);rw [A0x (show k<X.length by omega),A0x (show k<Y.length by omega)] at this;simp only [B7b,this,if_true]
theorem F1c {X Y : List ByteArray} {k : Nat} (hx : k < X.length) (hy : k < Y.length) (h : ∀ j,j < k → B5w (A9i X j) (A9i Y j) = 0) (hne : B5w (A9i X k) (A9i Y k) ≠ 0) : B7b X Y = B5w (A9i X k) (A9i Y k) := by
 rw [B8s (Nat.le_of_lt hx) (Nat.le_of_lt hy) h,List.drop_eq_getElem_cons hx,List.drop_eq_getElem_cons hy];rw [A0x hx,A0x hy] at hne ⊢;simp only [B7b,hne,if_false]
theorem D4r {X Y : List ByteArray} (hy : X.length < Y.length) (h : ∀ j,j < X.length → B5w (A9i X j) (A9i Y j) = 0) : B7b X Y = -1 := by
 rw [B8s lr (Nat.le_of_lt hy) h,List.drop_eq_getElem_cons hy,List.drop_length];rfl
theorem D5r {X Y : List ByteArray} (hy : X.length = Y.length) (h : ∀ j,j < X.length → B5w (A9i X j) (A9i Y j) = 0) : B7b X Y = 0 := by
 rw [B8s lr (Nat.le_of_eq hy) h,List.drop_length,hy,List.drop_length];rfl
theorem D7b {X Y : List ByteArray} (hy : Y.length < X.length) (h : ∀ j,j < Y.length → B5w (A9i X j) (A9i Y j) = 0) : B7b X Y = 1 := by
 rw [B8s (Nat.le_of_lt hy) lr h,List.drop_eq_getElem_cons hy,List.drop_length];rfl
theorem B2n {t : TypeId} {w : World} {B : Nat} {v : Value} {l : List ByteArray} (h : B7q t w B v l) : ∃ p cap,v = .slice p l.length cap ∧ (0 < l.length → ∃ g,p = some ⟨g,0,none⟩) := by
 rcases h.form with ⟨rfl,rfl⟩|⟨g,cap,rfl,hgB,hgw,hcap,hcapm⟩
 ·exact ⟨none,0,rfl,fun h=>absurd h (by simp)⟩
 ·exact ⟨_,_,rfl,fun _=>⟨g,rfl⟩⟩
theorem B4v {s : ByteArray} (hs : s.size ≤ 1048576) : (A8a s).length ≤ 8000000000 := by
 unfold A8a;split
 ·simp
 ·have:=A5s 47 s.data.toList;unfold A6i;rw [List.length_map];have e:=Lib.size_eq s;omega
def E0i (P : List ByteArray) (k : Nat) : ByteArray := ofL (B7h ((P.take k).map fun p => p.data.toList))
theorem D8m (P : List ByteArray) : E0i P 0 = ⟨#[]⟩ := by unfold E0i; simp [B7h]; rfl
theorem F7m {P : List ByteArray} (h : 0 < P.length) : E0i P 1 = ⟨#[]⟩ ++ A9i P 0 := by
 unfold E0i;rw [A0x h];cases P with
 | nil=>simp at h
 | cons a t => 
   show ofL (B7h [a.data.toList])=_
   simp only [B7h];apply A0h;rw [A0d];simp
theorem E6y {P : List ByteArray} {k : Nat} (h : k < P.length) (h0 : 0 < k) : E0i P (k + 1) = E0i P k ++ ofL [47] ++ A9i P k := by
 unfold E0i;rw [A0x h,List.take_succ_eq_append_getElem h,List.map_append,List.map_cons,List.map_nil,D4c,if_neg (by
  intro e;have:=congrArg List.length e;rw [List.length_map,List.length_take,List.length_nil] at this;omega)]
 apply A0h;rw [A0d];simp [ofL]
theorem E4p (s : ByteArray) : E0i (A6i 47 s) ((A6i 47 s).length - 1) = A2f s := by
 unfold E0i A6i A2f;rw [List.length_map,<-List.map_take,List.map_map,<-List.dropLast_eq_take];congr 2
 conv=>rhs;rw [<-List.map_id (A9c 47 s.data.toList).dropLast]
 apply List.map_congr_left;intro x _;simp [A0d]
theorem E1v (s : ByteArray) : A9i (A6i 47 s) ((A6i 47 s).length - 1) = B9n s := by
 have h:(A9c 47 s.data.toList)≠[]:=A1x _ _;unfold B9n A6i;have hl:0<(A9c 47 s.data.toList).length:=List.length_pos_iff.2 h;rw [A0x (by rw [List.length_map];omega),List.getElem_map,List.getLastD_eq_getLast?,List.getLast?_eq_getElem?,List.getElem?_eq_getElem (by omega)];simp
theorem D3c : ∀ (L : List (List UInt8)) (k : Nat),(B7h (L.take k)).length ≤ (B7h L).length
 | [],k=>by simp
 | [a],0=>by simp [B7h]
 | [a],k+1=>by simp
 | a::b::t,0=>by simp [B7h]
 | a::b::t,1=>by simp [B7h]
 | a::b::t,k+2=>by
   have ih:=D3c (b::t) (k+1);simp only [List.take_succ_cons] at ih ⊢;simp only [B7h,List.length_append,List.length_cons];omega
theorem E5y (s : ByteArray) (k : Nat) : (E0i (A6i 47 s) k).size ≤ s.size := by
 unfold E0i A6i;rw [<-List.map_take,List.map_map,A7a];have h:(List.map ((fun p:ByteArray=>p.data.toList) ∘ ofL) ((A9c 47 s.data.toList).take k))=(A9c 47 s.data.toList).take k:=by
  conv=>rhs;rw [<-List.map_id ((A9c 47 s.data.toList).take k)]
  apply List.map_congr_left;intro x _;simp [A0d]
 rw [h];refine Nat.le_trans (D3c _ _) ?_;rw [C4a,Lib.size_eq s];exact Nat.le_refl _
theorem E3r (s : ByteArray) (k : Nat) : (A9i (A6i 47 s) k).size ≤ s.size := by
 refine E2j (fun p hp=>?_) k;unfold A6i at hp;obtain ⟨q,hq,rfl⟩:=List.mem_map.1 hp;rw [A7a,Lib.size_eq s];exact B6s 47 s.data.toList q hq
end Go.Creel
namespace Go.Proofs.YtaffgndickdbiaaGreatDoor
open Go.Creel Go.RowKit
theorem B1q {N : Nat} (x : Ent) (w : World) (hM : A1n w) (hp : x.path.size ≤ N) (ht : x.target.size ≤ N) (hm : x.mt.Ok N) (hd : x.data.length ≤ maxLen) (hk : i64 x.kind) (hN : N ≤ maxLen) :
 Calls Tryz.prog 36 #[x.val] w fun e w'=>e=.returned (.int .i64 (A1b x))/\Below w.heap.size w w':=by
 obtain ⟨path,kind,target,⟨mode,uid,gid,user,group,second,nano⟩,da,dcap,data⟩:=x;unfold maxLen at hd;have HPZ:=Hi (Nat.le_trans hp hN);have HTZ:=Hi (Nat.le_trans ht hN);have htz:=Nat.le_trans ht hN;unfold maxLen at htz;have HMO:=Hi hm;have HM:=Hi hM;have hk2:=hk;unfold i64 at hk2;have hix:=B5g target 0;have HF:Hid (∀ c,A7h (A8b path) (A9d ⟨mode,uid,gid,user,group,second,nano⟩) kind data.length target.size (A8b target) (A8k target 0)=c->A1b ⟨path,kind,target,⟨mode,uid,gid,user,group,second,nano⟩,da,dcap,data⟩=c):=Hi fun c h=>h
 generalize hR:A1b _=R at *;clear hp ht hm hM hk hR;have hix0:Hid (A8k target 0=true\/A8k target 0=false):=Hi (by cases A8k target 0<;>simp);show Calls Tryz.prog 36 #[.agg #[.string path,.int .i64 kind,.string target,.int .i64 mode,.int .i64 uid,.int .i64 gid,.string user,.string group,.int .i64 second,.int .i64 nano,.slice da data.length dcap]] w _
 go_enter Tryz.func36,Tryz.ntmps36;go_wp2_with fail
 refine (B5q path _ (HM.out.below ((Below.refl _ _).alloc lr _)) HPZ.out).mono ?_;rintro e w1 ⟨rfl,hb⟩;have HB1:=Hi (((Below.refl _ _).alloc lr _).trans (hb.mono (by simp)));obtain ⟨hc1,_⟩:=C0b hb;have HB:=Hi hb;clear hb;by_cases hp0:A8b path=0
 ·rw [hp0];have HP0:=Hi hp0;clear hp0;go_wp2_with fail
  refine (C9f ⟨mode,uid,gid,user,group,second,nano⟩ _ HMO.out hN).mono ?_;rintro e w2 ⟨rfl,hb⟩;have HB2:=Hi (HB1.out.trans (hb.mono HB1.out.size));have hb2:=HB.out.trans (hb.mono HB.out.size);obtain ⟨hc2,_⟩:=C0b hb2;have HBB2:=Hi hb2;clear hb hb2 hc1;by_cases hm0:A9d ⟨mode,uid,gid,user,group,second,nano⟩=0
  ·rw [hm0];have HM0:=Hi hm0;clear hm0;have HTC:=Hi (B5q target w2 (HM.out.below HB2.out) HTZ.out);rw [HP0.out,HM0.out] at HF;by_cases ht0:target.size=0
   ·have he:=A8h ht0;rcases hix0.out with hh|hh
    all_goals
     rw [hh] at hix HF;generalize A8b target=q at *;go_wp2_with (first|(go_at_call 84;refine (A6b _ _ _).mono ?_;rintro e w' ⟨rfl,rfl⟩)|(go_at_call 82;refine HTC.out.mono ?_;rintro e w3 ⟨rfl,hb3⟩;replace hb3:=Hi hb3))
     all_goals
      first
       | (exfalso;(try simp only [<-List.length_eq_zero_iff,beq_iff_eq,beq_eq_false_iff_ne,bne_iff_ne,bne_eq_false_iff_eq,ne_eq,Bool.not_eq_true',Bool.not_eq_false',decide_eq_true_eq,decide_eq_false_iff_not] at *);omega)
       | (go_ret;exact ⟨A4e (HF.out _ (by (try simp only [<-List.length_eq_zero_iff,beq_iff_eq,beq_eq_false_iff_ne,bne_iff_ne,bne_eq_false_iff_eq,ne_eq,Bool.not_eq_true',Bool.not_eq_false',decide_eq_true_eq,decide_eq_false_iff_not] at *);unfold A7h;repeat (first|rw [if_pos (by omega)]|rw [if_neg (by omega)]|rw [if_pos rfl]|rw [if_neg (by decide)]))),HB2.out⟩)
       | (go_ret;exact ⟨A4e (HF.out _ (by (try simp only [<-List.length_eq_zero_iff,beq_iff_eq,beq_eq_false_iff_ne,bne_iff_ne,bne_eq_false_iff_eq,ne_eq,Bool.not_eq_true',Bool.not_eq_false',decide_eq_true_eq,decide_eq_false_iff_not] at *);unfold A7h;repeat (first|rw [if_pos (by omega)]|rw [if_neg (by omega)]|rw [if_pos rfl]|rw [if_neg (by decide)]))),HB2.out.trans (hb3.out.mono HB2.out.size)⟩)
   ·have he:=A9e ht0;rcases hix0.out with hh|hh
    all_goals
     rw [hh] at hix HF;generalize A8b target=q at *;go_wp2_with (first|(go_at_call 84;refine (A6b _ _ _).mono ?_;rintro e w' ⟨rfl,rfl⟩)|(go_at_call 82;refine HTC.out.mono ?_;rintro e w3 ⟨rfl,hb3⟩;replace hb3:=Hi hb3))
     all_goals
      first
       | (exfalso;(try simp only [<-List.length_eq_zero_iff,beq_iff_eq,beq_eq_false_iff_ne,bne_iff_ne,bne_eq_false_iff_eq,ne_eq,Bool.not_eq_true',Bool.not_eq_false',decide_eq_true_eq,decide_eq_false_iff_not] at *);omega)
       | (go_ret;exact ⟨A4e (HF.out _ (by (try simp only [<-List.length_eq_zero_iff,beq_iff_eq,beq_eq_false_iff_ne,bne_iff_ne,bne_eq_false_iff_eq,ne_eq,Bool.not_eq_true',Bool.not_eq_false',decide_eq_true_eq,decide_eq_false_iff_not] at *);unfold A7h;repeat (first|rw [if_pos (by omega)]|rw [if_neg (by omega)]|rw [if_pos rfl]|rw [if_neg (by decide)]))),HB2.out⟩)
       | (go_ret;exact ⟨A4e (HF.out _ (by (try simp only [<-List.length_eq_zero_iff,beq_iff_eq,beq_eq_false_iff_ne,bne_iff_ne,bne_eq_false_iff_eq,ne_eq,Bool.not_eq_true',Bool.not_eq_false',decide_eq_true_eq,decide_eq_false_iff_not] at *);unfold A7h;repeat (first|rw [if_pos (by omega)]|rw [if_neg (by omega)]|rw [if_pos rfl]|rw [if_neg (by decide)]))),HB2.out.trans (hb3.out.mono HB2.out.size)⟩)
  ·have HRR:=Hi (HF.out _ (show _=A9d ⟨mode,uid,gid,user,group,second,nano⟩ by unfold A7h;rw [if_neg (by rw [HP0.out];simp),if_pos hm0]));have hne:=hm0;generalize A9d ⟨mode,uid,gid,user,group,second,nano⟩=m at *;go_wp2;go_ret;exact ⟨A4e HRR.out,HB2.out⟩
 ·have HRR:=Hi (HF.out _ (show _=A8b path by unfold A7h;rw [if_pos hp0]));have hne:=hp0;generalize A8b path=p at *;go_wp2;go_ret;exact ⟨A4e HRR.out,HB1.out⟩
theorem B6j {N : Nat} (x : Ent) (w : World) (hp : x.path.size ≤ N) (ht : x.target.size ≤ N) (hm : x.mt.Ok N) (hd : x.data.length ≤ maxLen) (hk : i64 x.kind) (hN : N ≤ maxLen) :
 Calls Tryz.prog 101 #[x.val] w fun e w'=>e=.returned (.int .i64 (A1b x))/\Below w.heap.size w w':=by
 obtain ⟨path,kind,target,⟨mode,uid,gid,user,group,second,nano⟩,da,dcap,data⟩:=x;unfold maxLen at hd;have HPZ:=Hi (Nat.le_trans hp hN);have HTZ:=Hi (Nat.le_trans ht hN);have htz:=Nat.le_trans ht hN;unfold maxLen at htz;have HMO:=Hi hm;have hk2:=hk;unfold i64 at hk2;have HF:Hid (∀ c,A7h (A8b path) (A9d ⟨mode,uid,gid,user,group,second,nano⟩) kind data.length target.size (A8b target) (A8k target 0)=c->A1b ⟨path,kind,target,⟨mode,uid,gid,user,group,second,nano⟩,da,dcap,data⟩=c):=Hi fun c h=>h
 generalize hR:A1b _=R at *;clear hp ht hm hk hR;have hix0:Hid (A8k target 0=true\/A8k target 0=false):=Hi (by cases A8k target 0<;>simp);show Calls Tryz.prog 101 #[.agg #[.string path,.int .i64 kind,.string target,.int .i64 mode,.int .i64 uid,.int .i64 gid,.string user,.string group,.int .i64 second,.int .i64 nano,.slice da data.length dcap]] w _
 go_enter Tryz.func101,Tryz.ntmps101;go_wp2_with fail
 refine (B4q path _ HPZ.out).mono ?_;rintro e w1 ⟨rfl,hb⟩;have HB1:=Hi (((Below.refl _ _).alloc lr _).trans (hb.mono (by simp)));obtain ⟨hc1,_⟩:=C0b hb;have HB:=Hi hb;clear hb;by_cases hp0:A8b path=0
 ·rw [hp0];have HP0:=Hi hp0;clear hp0;go_wp2_with fail
  refine (C8f ⟨mode,uid,gid,user,group,second,nano⟩ _ HMO.out hN).mono ?_;rintro e w2 ⟨rfl,hb⟩;have HB2:=Hi (HB1.out.trans (hb.mono HB1.out.size));have hb2:=HB.out.trans (hb.mono HB.out.size);obtain ⟨hc2,_⟩:=C0b hb2;have HBB2:=Hi hb2;clear hb hb2 hc1;by_cases hm0:A9d ⟨mode,uid,gid,user,group,second,nano⟩=0
  ·rw [hm0];have HM0:=Hi hm0;clear hm0;have HTC:=Hi (B4q target w2 HTZ.out);rw [HP0.out,HM0.out] at HF;by_cases ht0:target.size=0
   ·have he:=A8h ht0;rcases hix0.out with hh|hh
    all_goals
     rw [hh] at HF;have HH:=Hi hh;clear hh;generalize A8b target=q at *;go_wp2_with (first|(go_at_call 105;refine (A9m target 0 0 rfl _ HTZ.out).mono ?_;rintro e w' ⟨rfl,rfl⟩;rw [HH.out])|(go_at_call 154;refine HTC.out.mono ?_;rintro e w3 ⟨rfl,hb3⟩;replace hb3:=Hi hb3))
     all_goals
      first
       | (exfalso;(try simp only [<-List.length_eq_zero_iff,beq_iff_eq,beq_eq_false_iff_ne,bne_iff_ne,bne_eq_false_iff_eq,ne_eq] at *);omega)
       | (go_ret;exact ⟨A4e (HF.out _ (by (try simp only [<-List.length_eq_zero_iff,beq_iff_eq,beq_eq_false_iff_ne,bne_iff_ne,bne_eq_false_iff_eq,ne_eq] at *);unfold A7h;repeat (first|rw [if_pos (by omega)]|rw [if_neg (by omega)]|rw [if_pos rfl]|rw [if_neg (by decide)]))),HB2.out⟩)
       | (go_ret;exact ⟨A4e (HF.out _ (by (try simp only [<-List.length_eq_zero_iff,beq_iff_eq,beq_eq_false_iff_ne,bne_iff_ne,bne_eq_false_iff_eq,ne_eq] at *);unfold A7h;repeat (first|rw [if_pos (by omega)]|rw [if_neg (by omega)]|rw [if_pos rfl]|rw [if_neg (by decide)]))),HB2.out.trans (hb3.out.mono HB2.out.size)⟩)
   ·have he:=A9e ht0;rcases hix0.out with hh|hh
    all_goals
     rw [hh] at HF;have HH:=Hi hh;clear hh;generalize A8b target=q at *;go_wp2_with (first|(go_at_call 105;refine (A9m target 0 0 rfl _ HTZ.out).mono ?_;rintro e w' ⟨rfl,rfl⟩;rw [HH.out])|(go_at_call 154;refine HTC.out.mono ?_;rintro e w3 ⟨rfl,hb3⟩;replace hb3:=Hi hb3))
     all_goals
      first
       | (exfalso;(try simp only [<-List.length_eq_zero_iff,beq_iff_eq,beq_eq_false_iff_ne,bne_iff_ne,bne_eq_false_iff_eq,ne_eq] at *);omega)
       | (go_ret;exact ⟨A4e (HF.out _ (by (try simp only [<-List.length_eq_zero_iff,beq_iff_eq,beq_eq_false_iff_ne,bne_iff_ne,bne_eq_false_iff_eq,ne_eq] at *);unfold A7h;repeat (first|rw [if_pos (by omega)]|rw [if_neg (by omega)]|rw [if_pos rfl]|rw [if_neg (by decide)]))),HB2.out⟩)
       | (go_ret;exact ⟨A4e (HF.out _ (by (try simp only [<-List.length_eq_zero_iff,beq_iff_eq,beq_eq_false_iff_ne,bne_iff_ne,bne_eq_false_iff_eq,ne_eq] at *);unfold A7h;repeat (first|rw [if_pos (by omega)]|rw [if_neg (by omega)]|rw [if_pos rfl]|rw [if_neg (by decide)]))),HB2.out.trans (hb3.out.mono HB2.out.size)⟩)
  ·have HRR:=Hi (HF.out _ (show _=A9d ⟨mode,uid,gid,user,group,second,nano⟩ by unfold A7h;rw [if_neg (by rw [HP0.out];simp),if_pos hm0]));have hne:=hm0;generalize A9d ⟨mode,uid,gid,user,group,second,nano⟩=m at *;go_wp2;go_ret;exact ⟨A4e HRR.out,HB2.out⟩
 ·have HRR:=Hi (HF.out _ (show _=A8b path by unfold A7h;rw [if_pos hp0]));have hne:=hp0;generalize A8b path=p at *;go_wp2;go_ret;exact ⟨A4e HRR.out,HB1.out⟩
theorem F0w (s : ByteArray) (w : World) (hs : s.size ≤ 4000000000) :
 Calls Tryz.prog 114 #[.string s] w fun e w'=>e=.returned (.string (A2f s))/\w=w':=by
 have HL:=Hi (fun (w:World)=>Tryz.strings_LastIndexByte s 47 (by omega) w);rcases E9s s with ⟨h1,h2,h3⟩|⟨i,h1,h2,h3,h4⟩
 ·have HF:=Hi h2;have hd:decide (Lib.lastIndexByte s 47<0)=true:=by rw [h1];rfl
  clear h1 h2 h3;go_enter Tryz.func114,Tryz.ntmps114;go_wp2_with (go_at_call 162;refine (HL.out _).mono ?_;rintro e w' ⟨rfl,rfl⟩)
  go_ret;exact ⟨E1b HF.out,rfl⟩
 ·have HF:=Hi h3;have HH:=Hi h1;clear h1 h3 h4;go_enter Tryz.func114,Tryz.ntmps114;go_wp2_with (go_at_call 162;refine (HL.out _).mono ?_;rintro e w' ⟨rfl,rfl⟩;rw [HH.out])
  go_ret;exact ⟨E1b HF.out,rfl⟩
theorem D9w (s : ByteArray) (w : World) (hM : A1n w) (hs : s.size ≤ 4000000000) :
 Calls Tryz.prog 161 #[.string s] w (F9r 9 w (A8a s)):=by
 by_cases h0:s.size=0
 ·have HF:=Hi (show A8a s=[] by unfold A8a;rw [if_pos h0]);have he:=A8h h0;clear h0;go_enter Tryz.func161,Tryz.ntmps161;go_wp2;go_ret;rw [HF.out];exact ⟨_,rfl,World.ownsRow_nil w _ _ 1,Below.refl _ _⟩
 ·have HF:=Hi (show A8a s=A6i 47 s by unfold A8a;rw [if_neg h0]);have he:=A9e h0;have HM:=Hi hM;clear h0 hM;go_enter Tryz.func161,Tryz.ntmps161;go_wp2_with fail
  refine (B8y s _ HM.out hs).mono ?_;rintro e w' ⟨v,rfl,ho,hb⟩;have HO:=Hi ho;have HB:=Hi hb;clear ho hb;go_wp2;go_ret;rw [HF.out];exact ⟨_,rfl,HO.out,HB.out⟩
theorem C7f (s : ByteArray) (w : World) (hs : s.size ≤ 4000000000) :
 Calls Tryz.prog 163 #[.string s] w (F9r 9 w (A8a s)):=by
 by_cases h0:s.size=0
 ·have HF:=Hi (show A8a s=[] by unfold A8a;rw [if_pos h0]);have he:=A8h h0;clear h0;go_enter Tryz.func163,Tryz.ntmps163;go_wp2;go_ret;rw [HF.out];exact ⟨_,rfl,World.ownsRow_nil w _ _ 1,Below.refl _ _⟩
 ·have HF:=Hi (show A8a s=A6i 47 s by unfold A8a;rw [if_neg h0]);have he:=A9e h0;clear h0;go_enter Tryz.func163,Tryz.ntmps163;go_wp2_with fail
  refine (C1t s 47 _ rfl _ hs).mono ?_;rintro e w' ⟨v,rfl,ho,hb⟩;have HO:=Hi ho;have HB:=Hi hb;clear ho hb;go_wp2;go_ret;rw [HF.out];exact ⟨_,rfl,HO.out,HB.out⟩
theorem F3e (x : ByteArray) (w : World) : Calls Tryz.prog 228 #[.string x] w fun e w' => e = .returned (.bool false) ∧ w = w' := by
 have he:(x.toList==x.toList)=true:=by simp
 go_enter Tryz.func228,Tryz.ntmps228;go_wp2;go_ret;exact ⟨by simp,rfl⟩
theorem E2n (x y : ByteArray) (w : World) : Calls Tryz.prog 207 #[.string x,.string y] w fun e w' => e = .returned (.int .i64 (B5w x y)) ∧ w = w' := by
 rcases A9s x y with ⟨h1,h3⟩|⟨h1,h2,h3⟩|⟨h1,h2,h3⟩
 all_goals
  have HF:=Hi h3;clear h3;go_enter Tryz.func207,Tryz.ntmps207;go_wp2_with (go_at_call 228;refine (F3e _ _).mono ?_;rintro e w' ⟨rfl,rfl⟩)
  go_ret;exact ⟨A4e HF.out,rfl⟩
theorem D6v (w : World) (B C : Nat) (v u : Value) (X Y : List ByteArray) (hX : X.length ≤ 8000000000) (hY : Y.length ≤ 8000000000) (hv : B7q 9 w B v X) (hu : B7q 9 w C u Y) :
 Calls Tryz.prog 160 #[v,u] w fun e w'=>e=.returned (.int .i64 (B7b X Y))/\Below w.heap.size w w':=by
 obtain ⟨p,cap,rfl,hp⟩:=B2n hv;obtain ⟨q,caq,rfl,hq⟩:=B2n hu;have HV:=Hi hv;have HU:=Hi hu;have HP:=Hi hp;have HQ:=Hi hq;clear hv hu hp hq;go_enter Tryz.func160,Tryz.ntmps160;go_wp2;go_loopw [5,11] (fun _ i wr=>∃ k:Nat,k<=X.length/\k<=Y.length/\i=.int .i64 k/\Hid (∀ j,j<k->B5w (A9i X j) (A9i Y j)=0)/\Below w.heap.size w wr) (fun _ i _=>X.length-(intOf i).toNat)
 case atStart=>exact ⟨0,by omega,by omega,rfl,Hi fun j hj=>absurd hj (by omega),Below.refl _ _⟩
 case round =>
  obtain ⟨k,hk,hk2,rfl,HD,hb⟩:=hrel;by_cases hlt:k<X.length
  ·obtain ⟨g,rfl⟩:=HP.out (by omega);have hc:=(HV.out.below hb).cell hlt;by_cases hlt2:k<Y.length
   ·obtain ⟨g2,rfl⟩:=HQ.out (by omega);have hc2:=(HU.out.below hb).cell hlt2;have HBB:=Hi hb;clear hb;by_cases h0:B5w (A9i X k) (A9i Y k)=0
    ·have H0:=Hi h0;go_wp2_with (go_at_call 207;refine (E2n _ _ _).mono ?_;rintro e w' ⟨rfl,rfl⟩;rw [H0.out])
     go_roundw
     case rel =>
      refine ⟨k+1,by omega,by omega,by go_num,Hi fun j hj=>?_,HBB.out⟩;by_cases e:j=k
      ·rw [e];exact H0.out
      ·exact HD.out j (by omega)
     case measure=>simp [intOf];omega
    ·have HF:=Hi (F1c hlt hlt2 HD.out h0);have HC:=Hi (E2n (A9i X k) (A9i Y k));clear hc2;have hc2:=(HU.out.below HBB.out).cell hlt2;generalize B5w (A9i X k) (A9i Y k)=c at *;generalize A9i X k=x at *;generalize A9i Y k=y at *;go_wp2_with (go_at_call 207;refine (HC.out _).mono ?_;rintro e w' ⟨rfl,rfl⟩)
     go_ret;exact ⟨A4e HF.out,HBB.out⟩
   ·obtain rfl:k=Y.length:=by omega
    have HF:=Hi (D7b hlt HD.out);have HBB:=Hi hb;clear hb;go_wp2;go_ret;exact ⟨A4e HF.out,HBB.out⟩
  ·obtain rfl:k=X.length:=by omega
   have HBB:=Hi hb;clear hb;by_cases hlt2:X.length<Y.length
   ·have HF:=Hi (D4r hlt2 HD.out);go_wp2;go_ret;exact ⟨A4e HF.out,HBB.out⟩
   ·have HF:=Hi (D5r (by omega) HD.out);go_wp2;go_ret;exact ⟨A4e HF.out,HBB.out⟩
theorem B3q (a b : ByteArray) (w : World) (ha : a.size ≤ 1048576) (hb : b.size ≤ 1048576) :
 Calls Tryz.prog 115 #[.string a,.string b] w fun e w'=>e=.returned (.int .i64 (B7b (A8a a) (A8a b)))/\Below w.heap.size w w':=by
 have hX:(A8a a).length<=8000000000:=B4v ha;have hY:(A8a b).length<=8000000000:=B4v hb;generalize hXX:A8a a=X at *;generalize hYY:A8a b=Y at *;have HXX:=Hi hXX;have HYY:=Hi hYY;clear hXX hYY;go_enter Tryz.func115,Tryz.ntmps115;go_wp2_with fail
 refine (C7f _ _ (by omega)).mono ?_;rintro e w1 ⟨v1,rfl,ho,hb1⟩;rw [HXX.out] at ho;have HB1:=Hi hb1;have HO1:=Hi ho;clear hb1 ho;go_wp2_with fail
 refine (C7f _ _ (by omega)).mono ?_;rintro e w2 ⟨v2,rfl,ho,hb2⟩;rw [HYY.out] at ho;have HB2:=Hi (HB1.out.trans (hb2.mono HB1.out.size));have HV:=Hi (HO1.out.below hb2);have HU:=Hi ho;clear hb2 ho;obtain ⟨p,cap,rfl,hp⟩:=B2n HV.out;obtain ⟨q,caq,rfl,hq⟩:=B2n HU.out;go_wp2;have HP:=Hi hp;have HQ:=Hi hq;clear hp hq;go_loopw [7] (fun i wr=>∃ k:Nat,k<=X.length/\k<=Y.length/\i=.int .i64 k/\Hid (∀ j,j<k->B5w (A9i X j) (A9i Y j)=0)/\Below w2.heap.size w2 wr) (fun i _=>X.length-(intOf i).toNat)
 case atStart=>exact ⟨0,by omega,by omega,rfl,Hi fun j hj=>absurd hj (by omega),Below.refl _ _⟩
 case round =>
  obtain ⟨k,hk,hk2,rfl,HD,hbb⟩:=hrel;by_cases hlt:k<X.length
  ·by_cases hlt2:k<Y.length
   ·obtain ⟨g,rfl⟩:=HP.out (by omega);obtain ⟨g2,rfl⟩:=HQ.out (by omega);have hc:=(HV.out.below hbb).cell hlt;have hc2:=(HU.out.below hbb).cell hlt2;have HBB:=Hi hbb;clear hbb;have HAT:=Hi (F1c hlt hlt2 HD.out);generalize hx:A9i X k=x at *;generalize hy:A9i Y k=y at *;have HX:=Hi hx;have HY:=Hi hy;clear hx hy;rcases A9s x y with ⟨h1,h3⟩|⟨h1,h2,h3⟩|⟨h1,h2,h3⟩
    ·have HF:=Hi ((HAT.out (by rw [h3];decide)).trans h3);clear h3;go_wp2;go_quiet (fail)
     go_wp2;go_ret;exact ⟨A4e HF.out,HB2.out.trans ((HBB.out.trans (A6a _ _ _)).mono HB2.out.size)⟩
    ·have H0:=Hi h3;clear h3;go_wp2;go_quiet (fail)
     go_wp2;go_quiet (fail)
     go_wp2;go_roundw
     case rel =>
      refine ⟨k+1,by omega,by omega,by go_num,Hi fun j hj=>?_,HBB.out.trans (A6a _ _ _)⟩;by_cases e:j=k
      ·rw [e,HX.out,HY.out];exact H0.out
      ·exact HD.out j (by omega)
     case measure=>simp [intOf];omega
    ·have HF:=Hi ((HAT.out (by rw [h3];decide)).trans h3);clear h3;go_wp2;go_quiet (fail)
     go_wp2;go_quiet (fail)
     go_wp2;go_ret;exact ⟨A4e HF.out,HB2.out.trans (((HBB.out.trans (A6a _ _ _)).trans (A6a _ _ _)).mono HB2.out.size)⟩
   ·obtain rfl:k=Y.length:=by omega
    have HF:=Hi (D7b hlt HD.out);have HBB:=Hi hbb;clear hbb;go_wp2;go_ret;exact ⟨A4e HF.out,HB2.out.trans (HBB.out.mono HB2.out.size)⟩
  ·obtain rfl:k=X.length:=by omega
   have HBB:=Hi hbb;clear hbb;by_cases hlt2:X.length<Y.length
   ·have HF:=Hi (D4r hlt2 HD.out);go_wp2;go_ret;exact ⟨A4e HF.out,HB2.out.trans (HBB.out.mono HB2.out.size)⟩
   ·have HF:=Hi (D5r (by omega) HD.out);go_wp2;go_ret;exact ⟨A4e HF.out,HB2.out.trans (HBB.out.mono HB2.out.size)⟩
theorem C6f (s : ByteArray) (w : World) (hs : s.size ≤ 4000000000) :
 Calls Tryz.prog 116 #[.string s] w fun e w'=>e=.returned (.tuple #[.string (A2f s),.string (B9n s)])/\Below w.heap.size w w':=by
 go_enter Tryz.func116,Tryz.ntmps116;go_wp2_with fail
 refine (C1t s 47 _ rfl _ hs).mono ?_;rintro e w1 ⟨v,rfl,ho,hb⟩;have hlen:(A6i 47 s).length<=s.size+1:=by
  have:=A5s 47 s.data.toList;unfold A6i;rw [List.length_map,Lib.size_eq s];exact this
 have hne:0<(A6i 47 s).length:=by
  unfold A6i;rw [List.length_map];exact List.length_pos_iff.2 (A1x _ _)
 have HSU:=Hi (E5y s);have HSP:=Hi (E3r s);have HU:=Hi (E4p s);have HP:=Hi (E1v s);generalize A6i 47 s=P at *;have hform:=ho.form;rcases hform with ⟨_,e0⟩|⟨g,cap,hv,hgB,hgw,hcap,hcapm⟩
 ·rw [e0] at hne;simp at hne
 ·subst hv;have HO:=Hi ho;have HB:=Hi hb;clear ho hb hgB hgw;go_wp2;go_loopw [5,6] (fun u i wr=>∃ k:Nat,k<=P.length-1/\i=.int .i64 k/\u=.string (E0i P k)/\Below w1.heap.size w1 wr) (fun _ i _=>P.length-(intOf i).toNat)
  case atStart=>exact ⟨0,by omega,rfl,by rw [D8m],Below.refl _ _⟩
  case round =>
   obtain ⟨k,hk,rfl,rfl,hb⟩:=hrel;have HC:=Hi (HO.out.below hb);have HBB:=Hi hb;clear hb;by_cases hlt:k<P.length-1
   ·have hc:=HC.out.cell (j:=k) (by omega);have hz1:=HSU.out k;have hz2:=HSP.out k;by_cases h0:0<k
    ·have HS:=Hi (E6y (P:=P) (k:=k) (by omega) h0);generalize E0i P k=u at *;generalize A9i P k=p at *;go_wp2;go_roundw
     case rel=>exact ⟨k+1,by omega,by go_num,by rw [HS.out];rfl,HBB.out⟩
     case measure=>simp [intOf];omega
    ·obtain rfl:k=0:=by omega
     have HS:=Hi (F7m (P:=P) (by omega));rw [<-D8m P] at HS;generalize E0i P 0=u at *;generalize A9i P 0=p at *;go_wp2;go_roundw
     case rel=>exact ⟨0+1,by omega,by go_num,by rw [HS.out],HBB.out⟩
     case measure=>simp [intOf];omega
   ·obtain rfl:k=P.length-1:=by omega
    have hc:=HC.out.cell (j:=P.length-1) (by omega);have hpi:((P.length:Int)-1).toNat=P.length-1:=by omega
    rw [HP.out] at hc;rw [HU.out];go_wp2;go_quiet (fail)
    go_wp2;go_ret2;exact ⟨rfl,HB.out.trans ((HBB.out.trans (A6a _ _ _)).mono HB.out.size)⟩
end Go.Proofs.YtaffgndickdbiaaGreatDoor
