/- A part of the proof. -/
import Derived.Test.YtaffgndickdbiaaGreatDoorV05
import Derived.Test.YtaffgndickdbiaaGreatDoorV04
set_option linter.unusedVariables false
set_option linter.unusedSimpArgs false
set_option linter.unusedSectionVars false
set_option maxRecDepth 100000
set_option maxHeartbeats 2000000
namespace Go.Creel
def B3h (p : ByteArray) : Bool := decide (p.size = 0) || decide (p = ofL [46]) || decide (p = ofL [46,46])
def A8b (s : ByteArray) : Int :=
 if s.size<1\/400<s.size then 1
 else if A8k s 0=true then 3
 else if (A6i 47 s).any B3h=true then 9 else 0
theorem A0o {s : ByteArray} (h : s.size < 1 ∨ 400 < s.size) : A8b s = 1 := by unfold A8b; rw [if_pos h]
theorem B3x {s : ByteArray} (h : ¬ (s.size < 1 ∨ 400 < s.size)) (h2 : A8k s 0 = true) : A8b s = 3 := by unfold A8b; rw [if_neg h,if_pos h2]
theorem B2x {s : ByteArray} (h : ¬ (s.size < 1 ∨ 400 < s.size)) (h2 : A8k s 0 = false) {k : Nat} (hk : k < (A6i 47 s).length) (hb : B3h (A9i (A6i 47 s) k) = true) : A8b s = 9 := by
 unfold A8b;rw [if_neg h,if_neg (by rw [h2];simp),if_pos];rw [List.any_eq_true];exact ⟨_,List.getElem_mem hk,by rw [<-A0x hk];exact hb⟩
theorem C1n {s : ByteArray} (h : ¬ (s.size < 1 ∨ 400 < s.size)) (h2 : A8k s 0 = false) (hb : ∀ k,k < (A6i 47 s).length → B3h (A9i (A6i 47 s) k) = false) : A8b s = 0 := by
 unfold A8b;rw [if_neg h,if_neg (by rw [h2];simp),if_neg];rw [Bool.not_eq_true,List.any_eq_false];intro x hx;obtain ⟨k,hk,rfl⟩:=List.getElem_of_mem hx;have:=hb k hk;rw [A0x hk] at this;rw [this];simp
theorem C2x {p : ByteArray} (h : B3h p = true) : p.toList.isEmpty = true ∨ (p.toList.isEmpty = false ∧ (p.toList == (ofL [46]).toList) = true) ∨ (p.toList.isEmpty = false ∧ (p.toList == (ofL [46]).toList) = false ∧ (p.toList == (ofL [46,46]).toList) = true) := by
 unfold B3h at h;by_cases h0:p.size=0
 ·exact .inl (A8h h0)
 ·right;by_cases h1:p=ofL [46]
  ·exact .inl ⟨A9e h0,B3n h1⟩
  ·right;refine ⟨A9e h0,A5w h1,B3n ?_⟩;simpa [h0,h1] using h
theorem D9d {p : ByteArray} (h : B3h p = false) : p.toList.isEmpty = false ∧ (p.toList == (ofL [46]).toList) = false ∧ (p.toList == (ofL [46,46]).toList) = false := by
 unfold B3h at h;simp only [Bool.or_eq_false_iff,decide_eq_false_iff_not] at h;exact ⟨A9e h.1.1,A5w h.1.2,A5w h.2⟩
theorem B0e (l : List UInt8) : (ofL l).toList = l := by rw [Lib.toList_data,A0d]
def A7h (p m kind : Int) (dl ts : Nat) (q : Int) (h : Bool) : Int :=
 if ¬ p=0 then p else if ¬ m=0 then m else if kind<1\/4<kind then 2
 else if (¬ kind=1/\0<dl)\/(¬ ts=0/\kind<3)\/(ts=0/\3<=kind) then 3
 else if 2000<dl\/400<ts then 1 else if kind=4 then q else if h=true then 3 else 0
def A1b (e : Ent) : Int := A7h (A8b e.path) (A9d e.mt) e.kind e.data.length e.target.size (A8b e.target) (A8k e.target 0)
abbrev Ent.val (e : Ent) : Value := .agg #[.string e.path,.int .i64 e.kind,.string e.target,.int .i64 e.mt.mode,.int .i64 e.mt.uid,.int .i64 e.mt.gid,.string e.mt.user,.string e.mt.group,.int .i64 e.mt.second,.int .i64 e.mt.nano,.slice e.da e.data.length e.dcap]
open Go.RowKit
structure MetaRight (m : Meta) : Prop where
 mode:0<=m.mode/\m.mode<=4095
 uid:0<=m.uid/\m.uid<=1125899906842624
 gid:0<=m.gid/\m.gid<=1125899906842624
 user:m.user.size<=60
 group:m.group.size<=60
 user0:A8k m.user 0=false
 group0:A8k m.group 0=false
 second : -1099511627776<=m.second/\m.second<=1099511627776
 nano:0<=m.nano/\m.nano<=999999999
theorem F1d {m : Meta} (h : A9d m = 0) : MetaRight m := by
 unfold A9d at h;split at h
 ·cases h
 ·rename_i h1
  split at h
  ·cases h
  ·rename_i h2
   split at h
   ·cases h
   ·rename_i h3
    unfold A3d at h;split at h
    ·cases h
    ·rename_i h4
     have hu:A8k m.user 0=false:=by cases e:A8k m.user 0;rfl;exact absurd (.inl e) h3
     have hg:A8k m.group 0=false:=by cases e:A8k m.group 0;rfl;exact absurd (.inr e) h3
     exact ⟨by omega,by omega,by omega,by omega,by omega,hu,hg,by omega,by omega⟩
structure EntRight (x : Ent) : Prop where
 path:A8b x.path=0
 pathSize:x.path.size<=400
 mt:MetaRight x.mt
 kind:1<=x.kind/\x.kind<=4
 data:x.data.length<=2000
 target:x.target.size<=400
 noData:x.kind≠1->x.data.length=0
 noTarget:x.kind<3->x.target.size=0
 hasTarget:3<=x.kind->x.target.size≠0
 link:x.kind=4->A8b x.target=0
 sym:x.kind≠4->A8k x.target 0=false
theorem C4e {x : Ent} (h : A1b x = 0) : EntRight x := by
 unfold A1b A7h at h;split at h
 ·rename_i h1;exact absurd h h1
 ·rename_i h1
  have hp:A8b x.path=0:=Classical.not_not.1 h1;have hps:x.path.size<=400:=by
   refine Classical.byContradiction fun e=>?_
   have:=A0o (s:=x.path) (.inr (by omega));rw [hp] at this;cases this
  split at h
  ·rename_i h2;exact absurd h h2
  ·rename_i h2
   split at h
   ·cases h
   ·rename_i h3
    split at h
    ·cases h
    ·rename_i h4
     split at h
     ·cases h
     ·rename_i h5
      have hk:x.kind=4->A8b x.target=0:=fun e=>by rw [if_pos e] at h;exact h
      have hs:x.kind≠4->A8k x.target 0=false:=fun e=>by
       rw [if_neg e] at h;cases e2:A8k x.target 0 with
       | false=>rfl
       | true=>rw [e2] at h;cases h
      exact ⟨hp,hps,F1d (Classical.not_not.1 h2),by omega,by omega,by omega,fun e=>by omega,fun e=>by omega,fun e=>by omega,hk,hs⟩
structure HeadN where
 nm:ByteArray
 px:ByteArray
 lk:ByteArray
 mode:Int
 uid:Int
 gid:Int
 size:Int
 time:Int
 typ:UInt8
 user:ByteArray
 group:ByteArray
def HeadN.cells (n : HeadN) : List Value := [.string n.nm,.string n.px,.string n.lk,.int .i64 n.mode,.int .i64 n.uid,.int .i64 n.gid,.int .i64 n.size,.int .i64 n.time,.int .u8 n.typ.toNat,.string n.user,.string n.group]
structure HeadN.Ok (N : Nat) (n : HeadN) : Prop where
 nm:n.nm.size<=N
 px:n.px.size<=N
 lk:n.lk.size<=N
 mode:i64 n.mode
 uid:i64 n.uid
 gid:i64 n.gid
 size:i64 n.size
 time:i64 n.time
 user:n.user.size<=N
 group:n.group.size<=N
def D7e (w : World) (b : Nat) (n : HeadN) : Prop := w.cell? ⟨b,0,none⟩ = some (.string n.nm) ∧ w.cell? ⟨b,1,none⟩ = some (.string n.px) ∧ w.cell? ⟨b,2,none⟩ = some (.string n.lk) ∧ w.cell? ⟨b,3,none⟩ = some (.int .i64 n.mode) ∧ w.cell? ⟨b,4,none⟩ = some (.int .i64 n.uid) ∧ w.cell? ⟨b,5,none⟩ = some (.int .i64 n.gid) ∧ w.cell? ⟨b,6,none⟩ = some (.int .i64 n.size) ∧ w.cell? ⟨b,7,none⟩ = some (.int .i64 n.time) ∧ w.cell? ⟨b,8,none⟩ = some (.int .u8 n.typ.toNat) ∧ w.cell? ⟨b,9,none⟩ = some (.string n.user) ∧ w.cell? ⟨b,10,none⟩ = some (.string n.group)
abbrev B4t (n : HeadN) (t : TypeId) : Obj := .cells #[.string n.nm,.string n.px,.string n.lk,.int .i64 n.mode,.int .i64 n.uid,.int .i64 n.gid,.int .i64 n.size,.int .i64 n.time,.int .u8 n.typ.toNat,.string n.user,.string n.group] t
theorem D6c (w : World) (n : HeadN) (t : TypeId) : D7e (w.alloc (B4t n t)) w.heap.size n := by
 refine ⟨?_,?_,?_,?_,?_,?_,?_,?_,?_,?_,?_⟩<;>simp [World.cell?_alloc_new]
theorem D7e.lt {w : World} {b : Nat} {n : HeadN} (h : D7e w b n) : b < w.heap.size := World.block_lt_of_cell? w _ h.1
theorem D7e.below {w w' : World} {b B : Nat} {n : HeadN} (h : D7e w b n) (hb : Below B w w') (hlt : b < B) : D7e w' b n := by
 obtain ⟨h0,h1,h2,h3,h4,h5,h6,h7,h8,h9,h10⟩:=h;exact ⟨(hb.cell (p:=⟨b,0,none⟩) hlt).trans h0,(hb.cell (p:=⟨b,1,none⟩) hlt).trans h1,(hb.cell (p:=⟨b,2,none⟩) hlt).trans h2,(hb.cell (p:=⟨b,3,none⟩) hlt).trans h3,(hb.cell (p:=⟨b,4,none⟩) hlt).trans h4,(hb.cell (p:=⟨b,5,none⟩) hlt).trans h5,(hb.cell (p:=⟨b,6,none⟩) hlt).trans h6,(hb.cell (p:=⟨b,7,none⟩) hlt).trans h7,(hb.cell (p:=⟨b,8,none⟩) hlt).trans h8,(hb.cell (p:=⟨b,9,none⟩) hlt).trans h9,(hb.cell (p:=⟨b,10,none⟩) hlt).trans h10⟩
theorem B7p {B : Nat} {a w : World} {n : Nat} (h : Below B a w) : Below B a (w.drewN n) := h.trans ⟨rfl,rfl,rfl,Nat.le_refl _,fun _ _ => rfl⟩
def rk (l : List Rec) (k : Nat) : Rec := l.getD k ⟨ByteArray.empty,ByteArray.empty⟩
theorem B1k {N : Nat} {w : World} {v : Value} {l : List Rec} (h : A4a N 2 (F4i N) w [v] l) : (∃ a cap,v = .slice a 0 cap ∧ l = []) ∨
 ∃ b off cap,v=.slice (some ⟨b,off,none⟩) l.length cap/\0<l.length/\l.length<=cap/\cap<=maxLen/\l.length<=N ∧
  ∀ i,i<l.length->(w.cell? ⟨b,off+i*2,none⟩=some (.string (rk l i).key)/\w.cell? ⟨b,off+i*2+1,none⟩=some (.string (rk l i).value))/\(rk l i).key.size<=N/\(rk l i).value.size<=N:=by
 obtain ⟨a,cap,hv,h1,h2,h3,_,h4⟩:=h;simp only [List.cons.injEq,and_true] at hv;by_cases hl:0<l.length
 ·obtain ⟨b,off,rfl,hc⟩:=h4 hl;refine .inr ⟨b,off,cap,hv,hl,h1,h2,h3,fun i hi=>?_⟩;obtain ⟨c,_,hcc,hE,hn⟩:=hc i hi;have e0:=hcc 0 (by omega);have e1:=hcc 1 (by omega);rw [hE] at e0 e1;have hr:rk l i=l[i]:=by simp [rk,List.getD_eq_getElem?_getD,List.getElem?_eq_getElem hi]
  rw [hr];exact ⟨⟨by simpa using e0,by simpa using e1⟩,hn⟩
 ·have:l=[]:=by
   cases l with
   | nil=>rfl
   | cons x r=>simp at hl
  subst this;exact .inl ⟨a,cap,by simpa using hv,rfl⟩
def Rec.cl (r : Rec) : List Value := [.string r.key,.string r.value]
theorem Rec.cl_len (r : Rec) : r.cl.length = 2 := rfl
theorem D8i : ∀ (l : List Rec) (k j : Nat),k < l.length → j < 2 → (l.flatMap Rec.cl)[k * 2 + j]? = (rk l k).cl[j]?
 | [],_,_,h,_=>absurd h (by simp)
 | x::r,0,j,_,hj=>by
   rw [List.flatMap_cons,Nat.zero_mul,Nat.zero_add,List.getElem?_append_left (by rw [Rec.cl_len];omega)];rfl
 | x::r,k+1,j,hk,hj=>by
   rw [List.flatMap_cons,List.getElem?_append_right (by rw [Rec.cl_len];omega),Rec.cl_len];have e:(k+1)*2+j-2=k*2+j:=by omega
   rw [e,D8i r k j (by simpa using hk) hj];rfl
def A1d (t : TypeId) (w : World) (B : Nat) (v : Value) (l : List Rec) : Prop := w.ownsRow B t 2 v l.length (l.flatMap Rec.cl)
variable {t : TypeId} {w w' : World} {B : Nat} {v v' : Value} {l m : List Rec}
theorem A1d.nil (t : TypeId) (w : World) (B : Nat) : A1d t w B (.slice none 0 0) [] := World.ownsRow_nil w B t 2
theorem A1d.below (h : A1d t w B v l) (hb : Below w.heap.size w w') : A1d t w' B v l := by
 refine ⟨h.1,?_⟩;rcases h.2 with h0|⟨g,cap,cur,hv,hbg,hg,r⟩
 ·exact .inl h0
 ·refine .inr ⟨g,cap,cur,hv,hbg,?_,r⟩;rw [hb.block g (ltO hg)];exact hg
theorem A1d.form (h : A1d t w B v l) : (v = .slice none 0 0 ∧ l = []) ∨ ∃ g cap,v = .slice (some ⟨g,0,none⟩) l.length cap ∧ B ≤ g ∧ g < w.heap.size ∧ l.length ≤ cap ∧ cap ≤ maxLen := by
 rcases h.2 with ⟨rfl,h0⟩|⟨g,cap,cur,rfl,hbg,hg,hnc,hcm,hcs,htake⟩
 ·exact .inl ⟨rfl,List.eq_nil_of_length_eq_zero h0⟩
 ·exact .inr ⟨g,cap,rfl,hbg,(ltO hg),hnc,hcm⟩
theorem A1d.recAt {g cap : Nat} (h : A1d t w B (.slice (some ⟨g,0,none⟩) l.length cap) l) {k : Nat} (hk : k < l.length) :
 w.cell? ⟨g,k*2,none⟩=some (.string (rk l k).key)/\w.cell? ⟨g,k*2+1,none⟩=some (.string (rk l k).value):=by
 have c:=fun j hj=>(World.ownsRow.cellAt h (k*2+j) (by omega)).trans (D8i l k j hk hj)
 exact ⟨c 0 (by omega),c 1 (by omega)⟩
theorem F5a {l : List Rec} {k : Nat} (hk : k < l.length) : rk l k = l[k] := by simp [rk,List.getD_eq_getElem?_getD,List.getElem?_eq_getElem hk]
theorem A1d.slice (h : A1d t w B v l) (hl : l.length ≤ maxLen) (hz : ∀ r ∈ l,r.key.size ≤ maxLen ∧ r.value.size ≤ maxLen) : A4a maxLen 2 (F4i maxLen) w [v] l := by
 rcases h.2 with ⟨rfl,h0⟩|⟨g,cap,cur,rfl,hbg,hg,hnc,hcm,hcs,htake⟩
 ·obtain rfl:=List.eq_nil_of_length_eq_zero h0;exact ⟨none,0,rfl,by simp,by simp,by simp,fun _=>rfl,fun h=>absurd h (by simp)⟩
 ·refine ⟨some ⟨g,0,none⟩,cap,rfl,hnc,hcm,hl,(fun h=>by cases h),fun _=>⟨g,0,rfl,fun i hi=>⟨(l[i]).cl,rfl,fun j hj=>?_,rfl,hz _ (List.getElem_mem hi)⟩⟩⟩;rw [Nat.zero_add,World.ownsRow.cellAt h _ (by omega),D8i l i j hi hj,F5a hi]
def D1k (t : TypeId) (w : World) (p : List Rec × Int) (e : Ending) (w' : World) : Prop := ∃ v,e = .returned (.tuple #[v,.int .i64 p.2]) ∧ A1d t w' w.heap.size v p.1 ∧ Below w.heap.size w w'
theorem D0g {P : Program} (w : World) (tx e' e : TypeId) (hk : P.underlying tx = some (.slice e')) (x : Rec) : Src P 2 tx (.slice (some ⟨w.heap.size,0,none⟩) 1 1) 1 ([x].flatMap Rec.cl) (w.alloc (.cells #[.string x.key,.string x.value] e)) := by
 refine Src.ofSlice _ hk ⟨w.heap.size,0,none⟩ 1 1 _ rfl (fun j u hu=>?_) (fun u hu=>?_)
 ·have hj:j<2:=by
   rcases Nat.lt_or_ge j 2 with h|h
   ·exact h
   ·rw [List.getElem?_eq_none (by simpa [Rec.cl] using h)] at hu;cases hu
  have e:(⟨w.heap.size,0,none⟩:Addr).add j=⟨w.heap.size,j,none⟩:=by unfold Addr.add;split<;>simp_all
  rw [e,World.cell?_alloc_new];simpa [Rec.cl] using hu
 ·simp [Rec.cl] at hu;rcases hu with rfl|rfl<;>rfl
theorem A1d.app {t : TypeId} {w' : World} {B : Nat} {v' : Value} {l m : List Rec} (ho : w'.ownsRow B t 2 v' (l.length + m.length) (l.flatMap Rec.cl ++ m.flatMap Rec.cl)) : A1d t w' B v' (l ++ m) := by
 unfold A1d;rw [List.length_append,List.flatMap_append];exact ho
theorem A1d.form2 {t : TypeId} {w : World} {B : Nat} {v : Value} {l : List Rec} (h : A1d t w B v l) : ∃ a cap,v = .slice a l.length cap ∧ cap ≤ maxLen ∧ (0 < l.length → ∃ g,a = some ⟨g,0,none⟩ ∧ l.length ≤ cap ∧ g < w.heap.size) := by
 rcases h.form with ⟨rfl,rfl⟩|⟨g,cap,rfl,_,h1,h2,h3⟩
 ·exact ⟨none,0,rfl,by simp,fun h=>absurd h (by simp)⟩
 ·exact ⟨_,cap,rfl,h3,fun _=>⟨g,rfl,h2,h1⟩⟩
abbrev B8k : ByteArray := ⟨#[103,105,100]⟩
abbrev A3h : ByteArray := ⟨#[103,110,97,109,101]⟩
abbrev B0d : ByteArray := ⟨#[108,105,110,107,112,97,116,104]⟩
abbrev A0m : ByteArray := ⟨#[109,116,105,109,101]⟩
abbrev B1c : ByteArray := ⟨#[112,97,116,104]⟩
abbrev B7k : ByteArray := ⟨#[117,105,100]⟩
abbrev A2h : ByteArray := ⟨#[117,110,97,109,101]⟩
abbrev E4a : ByteArray := ⟨#[64,108,111,110,103]⟩
def D0i (n : Int) : ByteArray := ofL (Lib.itoa n)
def B6a (k : ByteArray) (n m : Int) : List Rec := if m < n then [⟨k,D0i n⟩] else []
def A5j (k s : ByteArray) (m : Nat) : List Rec := if m < s.size then [⟨k,s⟩] else []
def B1i (n m : Int) : Int := if m < n then 0 else n
def A1q (s : ByteArray) (m : Nat) (i : ByteArray) : ByteArray := if m < s.size then i else s
def B8i (m : Meta) : Prop := 0 < m.nano ∨ m.second < 0 ∨ 8589934591 < m.second
instance (m : Meta) : Decidable (B8i m) := by unfold B8i; infer_instance
def B0j (m : Meta) : List Rec := if B8i m then [⟨A0m,(A3c m.second m.nano).1⟩] else []
def C0v (m : Meta) : Int := if B8i m then 0 else m.second
noncomputable def B8b (s : ByteArray) : List Rec := if (A4d s).2.2 = 0 then [] else [⟨B1c,s⟩]
noncomputable def C1v (s : ByteArray) : ByteArray := if (A4d s).2.2 = 0 then (A4d s).2.1 else E4a
noncomputable def A8o (x : Ent) : List Rec :=
 B6a B8k x.mt.gid 2097151++A5j A3h x.mt.group 31++A5j B0d x.target 100++B0j x.mt++B8b x.path++B6a B7k x.mt.uid 2097151++A5j A2h x.mt.user 31
def B1j (k : Int) : UInt8 := if k = 1 then 48 else if k = 2 then 53 else if k = 3 then 50 else 49
noncomputable def A7u (x : Ent) : HeadN :=
 ⟨C1v x.path,(A4d x.path).1,A1q x.target 100 E4a,x.mt.mode,B1i x.mt.uid 2097151,B1i x.mt.gid 2097151,x.data.length,C0v x.mt,B1j x.kind,A1q x.mt.user 31 ByteArray.empty,A1q x.mt.group 31 ByteArray.empty⟩
noncomputable def C2s (x : Ent) : List Rec × Int := if A1b x = 0 then (A8o x,0) else ([],A1b x)
def headZ : HeadN := ⟨ByteArray.empty,ByteArray.empty,ByteArray.empty,0,0,0,0,0,0,ByteArray.empty,ByteArray.empty⟩
noncomputable def D7h (x : Ent) : HeadN × Int := if A1b x = 0 then (A7u x,0) else (headZ,A1b x)
theorem D4p {x : Ent} (h : A1b x = 0) : C2s x = (A8o x,0) := if_pos h
theorem C5c {x : Ent} (h : ¬ A1b x = 0) : C2s x = ([],A1b x) := if_neg h
theorem E6s {x : Ent} (h : A1b x = 0) : D7h x = (A7u x,0) := if_pos h
theorem C6u {x : Ent} (h : ¬ A1b x = 0) : D7h x = (headZ,A1b x) := if_neg h
theorem D0b (k : ByteArray) (n m : Int) : (B6a k n m).length ≤ 1 := by unfold B6a; split <;> simp
theorem B1s (k s : ByteArray) (m : Nat) : (A5j k s m).length ≤ 1 := by unfold A5j; split <;> simp
theorem E4b (m : Meta) : (B0j m).length ≤ 1 := by unfold B0j; split <;> simp
theorem E7b (s : ByteArray) : (B8b s).length ≤ 1 := by unfold B8b; split <;> simp
theorem B6v {a b : List Rec} {n : Nat} (h : a.length ≤ n) (hb : b.length ≤ 1) : (a ++ b).length ≤ n + 1 := by rw [List.length_append]; omega
theorem E0r {k : ByteArray} {n m : Int} (h : m < n) : B6a k n m = [⟨k,D0i n⟩] ∧ B1i n m = 0 := ⟨if_pos h,if_pos h⟩
theorem F0b {k : ByteArray} {n m : Int} (h : ¬ m < n) : B6a k n m = [] ∧ B1i n m = n := ⟨if_neg h,if_neg h⟩
theorem D5p {k s i : ByteArray} {m : Nat} (h : m < s.size) : A5j k s m = [⟨k,s⟩] ∧ A1q s m i = i := ⟨if_pos h,if_pos h⟩
theorem E5b {k s i : ByteArray} {m : Nat} (h : ¬ m < s.size) : A5j k s m = [] ∧ A1q s m i = s := ⟨if_neg h,if_neg h⟩
theorem E3b (c : UInt8) (n : Nat) : Lib.repeatL [c] n = List.replicate n c := by
 induction n with
 | zero=>rfl
 | succ n ih=>simp [Lib.repeatL,List.replicate_succ,ih]
def A2j (n : Nat) : ByteArray := ofL (List.replicate n 0)
theorem A8n (n : Nat) : (A2j n).size = n := by simp [A2j,A7a]
theorem D5z (n : Nat) : A2j n ++ ofL [0] = A2j (n + 1) := by
 unfold A2j;rw [A5k,List.replicate_succ']
def A9a (s : ByteArray) (width : Int) (whole : Bool) : ByteArray × Int :=
 if width<1\/512<width then (ByteArray.empty,4)
 else if width<s.size\/(whole=false/\width=s.size) then (ByteArray.empty,1)
 else if A8k s 0=true then (ByteArray.empty,3)
 else (s++A2j (width.toNat-s.size),0)
end Go.Creel
namespace Go.Proofs.YtaffgndickdbiaaGreatDoor
open Go.Creel Go.RowKit
theorem B5q (s : ByteArray) (w : World) (hM : A1n w) (hs : s.size ≤ maxLen) :
 Calls Tryz.prog 82 #[.string s] w fun e w'=>e=.returned (.int .i64 (A8b s))/\Below w.heap.size w w':=by
 unfold maxLen at hs;by_cases h:s.size<1\/400<s.size
 ·have HF:=Hi (A0o h);rcases h with h|h
  ·go_enter Tryz.func82,Tryz.ntmps82;go_wp2;go_ret;exact ⟨A4e HF.out,Below.refl _ _⟩
  ·go_enter Tryz.func82,Tryz.ntmps82;go_wp2;go_ret;exact ⟨A4e HF.out,Below.refl _ _⟩
 ·have h1:1<=s.size:=by omega
  have h2:s.size<=400:=by omega
  have hix:=B5g s 0;cases hh:A8k s 0 with
  | true =>
    have HF:=Hi (B3x h hh);rw [hh] at hix;clear h hh;go_enter Tryz.func82,Tryz.ntmps82;go_wp2_with (go_at_call 84;refine (A6b _ _ _).mono ?_;rintro e w' ⟨rfl,rfl⟩)
    go_ret;exact ⟨A4e HF.out,Below.refl _ _⟩
  | false =>
    rw [hh] at hix;have HNO:=Hi (fun k=>B2x h hh (k:=k));have HYES:=Hi (C1n h hh);have HM:=Hi hM;clear h hh hM;go_enter Tryz.func82,Tryz.ntmps82;go_wp2_with (first|(go_at_call 84;refine (A6b _ _ _).mono ?_;rintro e w' ⟨rfl,rfl⟩)|(go_at_call 145;fail))
    refine (B8y s _ HM.out (by omega)).mono ?_;rintro e w1 ⟨v,rfl,ho,hb⟩;have hlen:(A6i 47 s).length<=s.size+1:=by
     have:=A5s 47 s.data.toList;unfold A6i;rw [List.length_map,Lib.size_eq s];exact this
    have hne:0<(A6i 47 s).length:=by
     unfold A6i;rw [List.length_map];exact List.length_pos_iff.2 (A1x _ _)
    generalize A6i 47 s=P at *;have hform:=ho.form;rcases hform with ⟨_,e0⟩|⟨g,cap,hv,hgB,hgw,hcap,hcapm⟩
    ·rw [e0] at hne;simp at hne
    ·subst hv;have HO:=Hi ho;have HB:=Hi hb;clear ho hb hne hgB hgw;go_wp2
     go_loop [4,19] (fun _ i=>∃ k:Nat,k<=P.length/\i=.int .i64 k/\Hid (∀ j,j<k->B3h (A9i P j)=false)) (fun _ i=>P.length-(intOf i).toNat)
     case atStart=>exact ⟨0,by omega,rfl,fun j hj=>absurd hj (by omega)⟩
     case round =>
      obtain ⟨k,hk,rfl,HD⟩:=hrel;by_cases hlt:k<P.length
      ·have hc:=HO.out.cell hlt;cases hbp:B3h (A9i P k) with
       | true =>
         have HF:=Hi (HNO.out k hlt hbp);have hcase:=C2x hbp;clear hbp;generalize A9i P k=p at *;rw [B0e,B0e] at hcase;rcases hcase with e1|⟨e1,e2⟩|⟨e1,e2,e3⟩
         all_goals
          go_wp2;go_ret;exact ⟨A4e HF.out,HB.out⟩
       | false =>
         obtain ⟨e1,e2,e3⟩:=D9d hbp;rw [B0e] at e2 e3;have HBP:=Hi hbp;clear hbp;generalize hp:A9i P k=p at *;have HP:=Hi hp;clear hp;go_wp2
         go_round
         case rel =>
          refine ⟨k+1,by omega,by go_num,fun j hj=>?_⟩;by_cases e:j=k
          ·rw [e,HP.out];exact HBP.out
          ·exact HD.out j (by omega)
         case measure=>simp [intOf];omega
      ·obtain rfl:k=P.length:=by omega
       have HF:=Hi (HYES.out HD.out);go_wp2;go_ret;exact ⟨A4e HF.out,HB.out⟩
theorem B4q (s : ByteArray) (w : World) (hs : s.size ≤ maxLen) :
 Calls Tryz.prog 154 #[.string s] w fun e w'=>e=.returned (.int .i64 (A8b s))/\Below w.heap.size w w':=by
 unfold maxLen at hs;by_cases h:s.size<1\/400<s.size
 ·have HF:=Hi (A0o h);by_cases h0:s.size=0
  ·have he:=A8h h0;clear h h0;go_enter Tryz.func154,Tryz.ntmps154;go_wp2;go_ret;exact ⟨A4e HF.out,Below.refl _ _⟩
  ·have he:=A9e h0;have h1:400<s.size:=by omega
   clear h h0;go_enter Tryz.func154,Tryz.ntmps154;go_wp2;go_ret;exact ⟨A4e HF.out,Below.refl _ _⟩
 ·have h1:s.size<=400:=by omega
  have he:=A9e (show ¬ s.size=0 by omega);cases hh:A8k s 0 with
  | true =>
    have HF:=Hi (B3x h hh);have HH:=Hi hh;clear h hh;go_enter Tryz.func154,Tryz.ntmps154;go_wp2_with (go_at_call 105;refine (A9m s 0 0 rfl _ (by unfold maxLen;omega)).mono ?_;rintro e w' ⟨rfl,rfl⟩;rw [HH.out])
    go_ret;exact ⟨A4e HF.out,Below.refl _ _⟩
  | false =>
    have HNO:=Hi (fun k=>B2x h hh (k:=k));have HYES:=Hi (C1n h hh);have HH:=Hi hh;clear h hh;go_enter Tryz.func154,Tryz.ntmps154;go_wp2_with (first|(go_at_call 105;refine (A9m s 0 0 rfl _ (by unfold maxLen;omega)).mono ?_;rintro e w' ⟨rfl,rfl⟩;rw [HH.out])|(go_at_call 164;fail))
    refine (C1t s 47 _ rfl _ (by omega)).mono ?_;rintro e w1 ⟨v,rfl,ho,hb⟩;have hlen:(A6i 47 s).length<=s.size+1:=by
     have:=A5s 47 s.data.toList;unfold A6i;rw [List.length_map,Lib.size_eq s];exact this
    have hne:0<(A6i 47 s).length:=by
     unfold A6i;rw [List.length_map];exact List.length_pos_iff.2 (A1x _ _)
    generalize A6i 47 s=P at *;have hform:=ho.form;rcases hform with ⟨_,e0⟩|⟨g,cap,hv,hgB,hgw,hcap,hcapm⟩
    ·rw [e0] at hne;simp at hne
    ·subst hv;have HO:=Hi ho;have HB:=Hi hb;clear ho hb hne hgB hgw;go_wp2
     go_loop [4,17] (fun _ i=>∃ k:Nat,k<=P.length/\i=.int .i64 k/\Hid (∀ j,j<k->B3h (A9i P j)=false)) (fun _ i=>P.length-(intOf i).toNat)
     case atStart=>exact ⟨0,by omega,rfl,fun j hj=>absurd hj (by omega)⟩
     case round =>
      obtain ⟨k,hk,rfl,HD⟩:=hrel;by_cases hlt:k<P.length
      ·have hc:=HO.out.cell hlt;cases hbp:B3h (A9i P k) with
       | true =>
         have HF:=Hi (HNO.out k hlt hbp);have hcase:=C2x hbp;clear hbp;generalize A9i P k=p at *;rw [B0e,B0e] at hcase;rcases hcase with e1|⟨e1,e2⟩|⟨e1,e2,e3⟩
         all_goals
          go_wp2;go_ret;exact ⟨A4e HF.out,HB.out⟩
       | false =>
         obtain ⟨e1,e2,e3⟩:=D9d hbp;rw [B0e] at e2 e3;have HBP:=Hi hbp;clear hbp;generalize hp:A9i P k=p at *;have HP:=Hi hp;clear hp;go_wp2
         go_round
         case rel =>
          refine ⟨k+1,by omega,by go_num,fun j hj=>?_⟩;by_cases e:j=k
          ·rw [e,HP.out];exact HBP.out
          ·exact HD.out j (by omega)
         case measure=>simp [intOf];omega
      ·obtain rfl:k=P.length:=by omega
       have HF:=Hi (HYES.out HD.out);go_wp2;go_ret;exact ⟨A4e HF.out,HB.out⟩
abbrev HeadN.val' (n : HeadN) : Value := .agg #[.string n.nm,.string n.px,.string n.lk,.int .i64 n.mode,.int .i64 n.uid,.int .i64 n.gid,.int .i64 n.size,.int .i64 n.time,.int .u8 n.typ.toNat,.string n.user,.string n.group]
theorem B7o : (Tryz.prog.info? 85).map (fun i => (i.zero,i.size,i.bytes)) = some (some (.agg #[.string ⟨#[]⟩,.string ⟨#[]⟩]),2,32) := by kernel_rfl
theorem B0q (c : Int) (w : World) (h0 : 0 ≤ c) (h1 : c ≤ 1000000) :
 Calls Tryz.prog 98 #[.string ⟨#[0]⟩,.int .i64 c] w fun e w'=>e=.returned (.string (A2j c.toNat))/\Below w.heap.size w w':=by
 obtain ⟨n,rfl⟩:=Int.eq_ofNat_of_zero_le h0;have:=Tryz.strings_Repeat ⟨#[0]⟩ n w (by omega) (by show 1*n<=_;omega);refine this.mono ?_;rintro e w' ⟨rfl,hb⟩;refine ⟨?_,hb⟩;show Ending.returned (.string ⟨(Lib.repeatL [0] n).toArray⟩)=_
 rw [E3b];rfl
theorem B2f (c : Int) (w : World) (h0 : 0 ≤ c) (h1 : c ≤ 1000000) :
 Calls Tryz.prog 60 #[.int .i64 c] w fun e w'=>e=.returned (.string (A2j c.toNat))/\w=w':=by
 obtain ⟨n,rfl⟩:=Int.eq_ofNat_of_zero_le h0;rw [Int.toNat_natCast];have hn:n<=1000000:=by omega
 clear h0 h1;go_enter Tryz.func60,Tryz.ntmps60;go_wp2
 go_loop [3,4] (fun s i=>∃ k:Nat,k<=n/\i=.int .i64 k/\s=.string (A2j k)) (fun _ i=>n-(intOf i).toNat)
 case atStart=>exact ⟨0,by omega,rfl,rfl⟩
 case round =>
  obtain ⟨k,hk,rfl,rfl⟩:=hrel;by_cases hlt:k<n
  ·have HS:=Hi (D5z k);have hz:(A2j k).size<=1000000:=by rw [A8n];omega
   generalize A2j k=s at *;go_wp2
   go_round
   case rel=>exact ⟨k+1,by omega,by go_num,congrArg Value.string HS.out⟩
   case measure=>simp [intOf];omega
  ·obtain rfl:k=n:=by omega
   go_wp2;go_ret;exact ⟨rfl,rfl⟩
theorem A2u (s : ByteArray) (width : Int) (whole : Bool) (w : World) (hs : s.size ≤ maxLen) (hw : i64 width) :
 Calls Tryz.prog 96 #[.string s,.int .i64 width,.bool whole] w fun e w'=>e=.returned (.tuple #[.string (A9a s width whole).1,.int .i64 (A9a s width whole).2])/\Below w.heap.size w w':=by
 unfold maxLen at hs;unfold i64 at hw;by_cases h1:width<1\/512<width
 ·have HF:=Hi (show A9a s width whole=(ByteArray.empty,4) by unfold A9a;rw [if_pos h1]);have HN:=Hi h1;rcases h1 with h1|h1
  ·have hd:decide (width<1)=true:=by simpa using h1
   go_enter Tryz.func96,Tryz.ntmps96;go_wp2;go_ret2;exact ⟨A1c HF.out,Below.refl _ _⟩
  ·go_enter Tryz.func96,Tryz.ntmps96;go_wp2;go_ret2;exact ⟨A1c HF.out,Below.refl _ _⟩
 ·have a1:1<=width:=by omega
  have a2:width<=512:=by omega
  by_cases h2:width<s.size\/(whole=false/\width=s.size)
  ·have HF:=Hi (show A9a s width whole=(ByteArray.empty,1) by unfold A9a;rw [if_neg h1,if_pos h2]);clear h1;cases whole with
   | true =>
     have h3:width<s.size:=by simpa using h2
     clear h2;go_enter Tryz.func96,Tryz.ntmps96;go_wp2;go_ret2;exact ⟨A1c HF.out,Below.refl _ _⟩
   | false =>
     have h3:width-1<s.size:=by rcases h2 with h|⟨_,h⟩<;>omega
     clear h2;go_enter Tryz.func96,Tryz.ntmps96;go_wp2;go_ret2;exact ⟨A1c HF.out,Below.refl _ _⟩
  ·have hix:=B5g s 0;cases hh:A8k s 0 with
   | true =>
     have HF:=Hi (show A9a s width whole=(ByteArray.empty,3) by unfold A9a;rw [if_neg h1,if_neg h2,if_pos hh]);rw [hh] at hix;clear h1 hh;cases whole with
     | true =>
       have h3:(s.size:Int)<=width:=by have:=h2;simp at this;omega
       clear h2;go_enter Tryz.func96,Tryz.ntmps96;go_wp2_with (go_at_call 84;refine (A6b _ _ _).mono ?_;rintro e w' ⟨rfl,rfl⟩)
       go_ret2;exact ⟨A1c HF.out,Below.refl _ _⟩
     | false =>
       have h3:(s.size:Int)<=width-1:=by have:=h2;simp at this;omega
       clear h2;go_enter Tryz.func96,Tryz.ntmps96;go_wp2_with (go_at_call 84;refine (A6b _ _ _).mono ?_;rintro e w' ⟨rfl,rfl⟩)
       go_ret2;exact ⟨A1c HF.out,Below.refl _ _⟩
   | false =>
     have HF:=Hi (show A9a s width whole=(s++A2j (width.toNat-s.size),0) by unfold A9a;rw [if_neg h1,if_neg h2,if_neg (by rw [hh];simp)]);rw [hh] at hix;have hz:(A2j (width.toNat-s.size)).size<=512:=by rw [A8n];omega
     clear h1 hh;cases whole with
     | true =>
       have h3:(s.size:Int)<=width:=by have:=h2;simp at this;omega
       clear h2;go_enter Tryz.func96,Tryz.ntmps96;go_wp2_with (first|(go_at_call 84;refine (A6b _ _ _).mono ?_;rintro e w' ⟨rfl,rfl⟩)|(go_at_call 98;refine (B0q _ _ (by omega) (by omega)).mono ?_;rintro e w' ⟨rfl,hb⟩;have HB:=Hi hb;clear hb))
       go_ret2;exact ⟨A1c HF.out,HB.out⟩
     | false =>
       have h3:(s.size:Int)<=width-1:=by have:=h2;simp at this;omega
       clear h2;go_enter Tryz.func96,Tryz.ntmps96;go_wp2_with (first|(go_at_call 84;refine (A6b _ _ _).mono ?_;rintro e w' ⟨rfl,rfl⟩)|(go_at_call 98;refine (B0q _ _ (by omega) (by omega)).mono ?_;rintro e w' ⟨rfl,hb⟩;have HB:=Hi hb;clear hb))
       go_ret2;exact ⟨A1c HF.out,HB.out⟩
theorem D8k (s : ByteArray) (width : Int) (whole : Bool) (w : World) (hs : s.size ≤ maxLen) (hw : i64 width) :
 Calls Tryz.prog 107 #[.string s,.int .i64 width,.bool whole] w fun e w'=>e=.returned (.tuple #[.string (A9a s width whole).1,.int .i64 (A9a s width whole).2])/\w=w':=by
 have hs':=hs;unfold maxLen at hs;unfold i64 at hw;by_cases h1:width<1\/512<width
 ·have HF:=Hi (show A9a s width whole=(ByteArray.empty,4) by unfold A9a;rw [if_pos h1]);rcases h1 with h1|h1
  ·have hd:decide (width<1)=true:=by simpa using h1
   go_enter Tryz.func107,Tryz.ntmps107;go_wp2;go_ret2;exact ⟨A1c HF.out,rfl⟩
  ·go_enter Tryz.func107,Tryz.ntmps107;go_wp2;go_ret2;exact ⟨A1c HF.out,rfl⟩
 ·have a1:1<=width:=by omega
  have a2:width<=512:=by omega
  by_cases h2:width<s.size\/(whole=false/\width=s.size)
  ·have HF:=Hi (show A9a s width whole=(ByteArray.empty,1) by unfold A9a;rw [if_neg h1,if_pos h2]);clear h1;by_cases h3:width<s.size
   ·clear h2;go_enter Tryz.func107,Tryz.ntmps107;go_wp2;go_ret2;exact ⟨A1c HF.out,rfl⟩
   ·obtain ⟨rfl,h4⟩:whole=false/\width=s.size:=by rcases h2 with h|h;exact absurd h h3;exact h
    have h5:((s.size:Int)==width)=true:=by rw [beq_iff_eq,h4]
    clear h2 h4;go_enter Tryz.func107,Tryz.ntmps107;go_wp2;go_ret2;exact ⟨A1c HF.out,rfl⟩
  ·have h3:(s.size:Int)<=width:=by omega
   have h4:whole=true\/((s.size:Int)==width)=false:=by
    cases whole with
    | true=>exact .inl rfl
    | false=>right;rw [beq_eq_false_iff_ne];intro e;exact h2 (.inr ⟨rfl,e.symm⟩)
   have hz:(A2j (width.toNat-s.size)).size<=512:=by rw [A8n];omega
   cases hh:A8k s 0 with
   | true =>
     have HF:=Hi (show A9a s width whole=(ByteArray.empty,3) by unfold A9a;rw [if_neg h1,if_neg h2,if_pos hh]);clear h1 h2;rcases h4 with rfl|h4
     all_goals
      go_enter Tryz.func107,Tryz.ntmps107;go_wp2_with (go_at_call 105;refine (A9m _ 0 0 rfl _ hs').mono ?_;rintro e w' ⟨rfl,rfl⟩)
      all_goals (go_ret2;exact ⟨A1c HF.out,rfl⟩)
   | false =>
     have HF:=Hi (show A9a s width whole=(s++A2j (width.toNat-s.size),0) by unfold A9a;rw [if_neg h1,if_neg h2,if_neg (by rw [hh];simp)]);clear h1 h2;rcases h4 with rfl|h4
     all_goals
      go_enter Tryz.func107,Tryz.ntmps107;go_wp2_with (first|(go_at_call 105;refine (A9m _ 0 0 rfl _ hs').mono ?_;rintro e w' ⟨rfl,rfl⟩)|(go_at_call 60;refine (B2f _ _ (by omega) (by omega)).mono ?_;rintro e w' ⟨rfl,rfl⟩))
      all_goals (go_ret2;exact ⟨A1c HF.out,rfl⟩)
theorem D3q (m : Nat) (w : World) (h : m ≤ 20) :
 Calls Tryz.prog 206 #[.int .i64 m] w fun e w'=>e=.returned (.int .i64 ((8 ^ m:Nat):Int))/\w=w':=by
 go_enter Tryz.func206,Tryz.ntmps206;go_wp2
 go_loop [3,4] (fun n i=>∃ k:Nat,k<=m/\i=.int .i64 k/\n=.int .i64 ((8 ^ k:Nat):Int)) (fun _ i=>m-(intOf i).toNat)
 case atStart=>exact ⟨0,by omega,rfl,rfl⟩
 case round =>
  obtain ⟨k,hk,rfl,rfl⟩:=hrel;by_cases hlt:k<m
  ·have h1:8 ^ k<=8 ^ 19:=Nat.pow_le_pow_right (by decide) (by omega);have HS:=Hi (show 8 ^ (k+1)=8 ^ k*8 from Nat.pow_succ _ _);generalize 8 ^ k=p at *;have h2:p<=144115188075855872:=by simpa using h1
   clear h1;go_wp2
   go_round
   case rel=>exact ⟨k+1,by omega,by go_num,by rw [HS.out];go_num⟩
   case measure=>simp [intOf];omega
  ·have hk':k=m:=by omega
   subst hk';go_wp2;go_ret;exact ⟨rfl,rfl⟩
end Go.Proofs.YtaffgndickdbiaaGreatDoor
