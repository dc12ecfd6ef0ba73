/- A part of the proof. -/
import Derived.WalkKit
import Derived.ProofKit
import Derived.ChangeOld
import Derived.Lib.Hide
import Derived.WalkLawsBesides
import Derived.WalkSpells
import Derived.ShutString
import Derived.OpenShut
import Derived.Deep.Slices
import Derived.Deep.Fields
import Derived.Lib.Strings
import Derived.Deep.QuietTactic
import Derived.BigQuiet
import Derived.Test.YtaffgndickdbiaaGreatDoorRows
set_option linter.unusedVariables false
set_option linter.unusedSimpArgs false
set_option linter.unusedSectionVars false
set_option maxRecDepth 100000
set_option maxHeartbeats 2000000
namespace Go.Creel
theorem Hi {p:Prop} (h:p):Go.RowKit.Hid p:=h
theorem lr {n:Nat}:n<=n:=Nat.le_refl n
theorem ltO {α:Type _} {xs:Array α} {i:Nat} {x:α} (h:xs[i]?=some x):i<xs.size:=(Array.getElem?_eq_some_iff.1 h).1
end Go.Creel
namespace Go.Creel
open Go.ChangeShapes Go.WideShapes Go.ChangeAt Go.RowKit Go.Deep
open Go.ChangeMaps (open_string)
section
variable {H : Type} {enc : TypeId × Value → H} {P : Program}
theorem C9b (hl : laidOutB P = true) {W W' : World} (hb : Below W.heap.size W W') :
 ∀ {ts:List TypeId} {vs:List Value} {ds:List (DataW H)} {ps:List MemPlace},(ts.all fun t=>P.readableRec t&&decide (t<P.types.size))=true →
  DataW.TrodAll enc P W 0 (fun _=>true) true ts vs ds ps->(∀ x∈ps,x.block<W.heap.size)->DataW.TrodAll enc P W' 0 (fun b=>decide (b<W.heap.size)) true ts vs ds ps
 | [],vs,ds,ps,_,h,_=>by
   obtain ⟨rfl,rfl,rfl⟩:=trodAll_nil h;exact trodAll_mk0
 | t::ts,vs,ds,ps,hr,h,hlt=>by
   obtain ⟨v,vs',d,ds',p,q,rfl,rfl,rfl,h0,h1⟩:=trodAll_cons h;simp only [List.all_cons,Bool.and_eq_true,decide_eq_true_eq] at hr;exact trodAll_cons_mk (Below.trod hl hr.1.1 hr.1.2 h0 hb (fun x hx=>hlt x (by simp [hx]))) (C9b hl hb (by simpa using hr.2) h1 (fun x hx=>hlt x (by simp [hx])))
theorem D0a {W : World} : ∀ {ts : List TypeId} {vs : List Value} {ds : List (DataW H)} {ps : List MemPlace},
 DataW.TrodAll enc P W 0 (fun _=>true) true ts vs ds ps->∀ x∈ps,x.block<W.heap.size
 | [],vs,ds,ps,h=>by
   obtain ⟨rfl,rfl,rfl⟩:=trodAll_nil h;simp
 | t::ts,vs,ds,ps,h=>by
   obtain ⟨v,vs',d,ds',p,q,rfl,rfl,rfl,⟨m,h0⟩,h1⟩:=trodAll_cons h;intro x hx;rcases List.mem_append.1 hx with hx|hx
   ·exact DataW.trod_lt m _ _ _ h0 x hx
   ·exact D0a h1 x hx
theorem F1p {fn : Func} {s : ChangeSpec} {tb : TypeId} {W W' : World} {args : Array Value} {ds gs : List (DataW H)} {before : List MemPlace} (hl : laidOutB P = true)
 (hr:(fn.params.toList.all fun t=>P.readableRec t&&decide (t<P.types.size))=true) (hres:fn.resultTypes=#[tb]) (htb:P.underlying tb=some .bool) (hv:s.vars=[])
 (hs:s.fn H (ds++gs)={ results:=[.lit (.bool true)],args:=ds })
 (hW:DataW.Whole enc P fn.params.toList s.vars false W args.toList ds gs before) (bel:Below W.heap.size W W'):s.post enc P fn false true false false W args (.bool true) W':=by
 have hW':=hW;obtain ⟨p,q,hA,hV,rfl,hfz,hnd⟩:=hW;rw [hv] at hV;obtain ⟨rfl,rfl⟩:=trodVars_none hV;refine ⟨ds,[],_,[],p,[],hW',?_,?_,?_,bel.frame _,fun h=>by cases h⟩
 ·rw [hs,hres];exact trodAll_mk1 (shut_bool htb _)
 ·rw [hs];exact C9b hl bel hr hA (D0a hA)
 ·rw [hs,hv];rfl
end
structure Bd (H : Type) (S : DataW H → Prop) (N : Nat) : Prop where
 str:∀ l,S (.lit (.string l))->l.length<=maxLen->l.length<=N
 slc:∀ el sp,S (.slice el sp)->el.length+sp.length<=maxLen->el.length<=N/\∀ d∈el,S d
 agg:∀ ps,S (.agg ps)->∀ d∈ps,S d
theorem Bd.any (H : Type) : Bd H (fun _ => True) maxLen := ⟨fun _ _ h => h,fun _ _ _ h => ⟨by omega,fun _ _ => trivial⟩,fun _ _ _ _ => trivial⟩
def C3k {H : Type} (enc : TypeId × Value → H) (P : Program) (W : World) (S : DataW H → Prop) (t : TypeId) {α : Type} (E : World → List Value → α → Prop) : Prop :=
 ∀ (fuel:Nat) (cs:List Value) (x:DataW H×List MemPlace),DataW.trod enc P W 0 (fun _=>true) true fuel t cs=some x->S x.1->∃ a,E W cs a
def IntC (_ : World) (cs : List Value) (n : Int) : Prop := cs = [.int .i64 n] ∧ -9223372036854775808 ≤ n ∧ n ≤ 9223372036854775807
def A1e (_ : World) (cs : List Value) (n : UInt8) : Prop := cs = [.int .u8 n.toNat]
def StrC (N : Nat) (_ : World) (cs : List Value) (s : ByteArray) : Prop := cs = [.string s] ∧ s.size ≤ N
def w_cells (w : World) (a : Addr) (i n : Nat) (c : List Value) : Prop := c.length = n ∧ ∀ j,j < n → w.cell? ((a.add (i * n)).add j) = c[j]?
def A4a {α : Type} (N n : Nat) (E : World → List Value → α → Prop) (w : World) (cs : List Value) (l : List α) : Prop :=
 ∃ (a:Option Addr) (cap:Nat),cs=[.slice a l.length cap]/\l.length<=cap/\cap<=maxLen/\l.length<=N/\(a=none->cap=0) ∧
  (0<l.length->∃ b off,a=some ⟨b,off,none⟩/\∀ i (h:i<l.length),∃ c,c.length=n/\(∀ j,j<n->w.cell? ⟨b,off+i*n+j,none⟩=c[j]?)/\E w c l[i])
section
variable {H : Type} {enc : TypeId × Value → H} {P : Program} {W : World} {S : DataW H → Prop} {N : Nat}
theorem F3c {t : TypeId} (ht : P.underlying t = some (.int .i64)) : C3k enc P W S t IntC := by
 intro fuel cs x h _;obtain ⟨n,rfl,_,hw⟩:=DataW.trod_int ht h;exact ⟨n,rfl,bounds_i64 hw⟩
theorem E8r {t : TypeId} (ht : P.underlying t = some (.int .u8)) : C3k enc P W S t A1e := by
 intro fuel cs x h _;obtain ⟨n,rfl,_,hw⟩:=DataW.trod_int ht h;have:=bounds_u8 hw;refine ⟨UInt8.ofNat n.toNat,?_⟩;have h1:(UInt8.ofNat n.toNat).toNat=n.toNat:=by simp;omega
 show [Value.int .u8 n]=[.int .u8 ((UInt8.ofNat n.toNat).toNat:Int)]
 rw [h1,Int.toNat_of_nonneg this.1]
theorem F2c (hS : Bd H S N) {t : TypeId} (ht : P.underlying t = some .string) : C3k enc P W S t (StrC N) := by
 intro fuel cs x h hx;obtain ⟨s,rfl,rfl,hs⟩:=DataW.trod_string ht h;have:=hS.str _ hx (by simpa using hs);exact ⟨s,rfl,by simpa using this⟩
theorem list_of {α : Type} {n : Nat} {p : Nat → α → Prop} (h : ∀ i,i < n → ∃ a,p i a) : ∃ l : List α,l.length = n ∧ ∀ i (hi : i < l.length),p i l[i] := by
 induction n with
 | zero=>exact ⟨[],rfl,fun i hi=>absurd hi (by simp)⟩
 | succ n ih =>
   obtain ⟨l,hl,hp⟩:=ih (fun i hi=>h i (by omega));obtain ⟨a,ha⟩:=h n (by omega);refine ⟨l++[a],by simp [hl],fun i hi=>?_⟩;by_cases e:i<l.length
   ·rw [List.getElem_append_left e];exact hp i e
   ·have:i=n:=by simp at hi;omega
    subst this;rw [List.getElem_append_right (by omega)];simpa [hl] using ha
theorem C8t {α : Type} {E : World → List Value → α → Prop} {n : Nat} (hS : Bd H S N) {t e : TypeId} (ht : P.underlying t = some (.slice e)) (hn : P.cellsOf e = n) (hpos : 0 < n) (hE : C3k enc P W S e E) : C3k enc P W S t (A4a N n E) := by
 intro fuel cs x h hx;rcases open_slice ht h with ⟨rfl,rfl⟩|⟨a,len,cap,m,n',D,Pl,rfl,_,hl,hm,hmm,rfl,hi⟩
 ·exact ⟨[],none,0,rfl,by simp,by simp,by simp,fun _=>rfl,fun h=>absurd h (by simp)⟩
 ·simp only [if_true] at hmm;subst hmm;have hb:=hS.slc _ _ hx (by simp;omega);have hel:∀ i,i<len->∃ x:α,∃ c,w_cells W a i n c/\E W c x:=by
   intro i hlt;obtain ⟨c,hc,ht'⟩:=hi i (by omega);rw [hn] at hc;obtain ⟨_,hcl,hat⟩:=World.cells?_some hc;obtain ⟨y,hy⟩:=hE _ _ _ ht' (hb.2 _ (List.mem_map.2 ⟨i,List.mem_range.2 hlt,rfl⟩));exact ⟨y,c,⟨hcl,hat⟩,hy⟩
  obtain ⟨l,hll,hlp⟩:=list_of hel;refine ⟨l,some a,m,by rw [hll],by omega,hm,by have:=hb.1;simp at this;omega,(fun h=>by cases h),fun hpos'=>?_⟩;obtain ⟨b,off,spot⟩:=a;obtain ⟨c,⟨hcl,hat⟩,_⟩:=hlp 0 hpos';have hc0:=hat 0 (by omega);have hspot:spot=none:=by
   rw [List.getElem?_eq_getElem (by omega)] at hc0;simpa [Addr.add] using World.cell?_spot hc0
  subst hspot;refine ⟨b,off,rfl,fun i hi=>?_⟩;obtain ⟨c,⟨hcl,hat⟩,he⟩:=hlp i hi;refine ⟨c,hcl,fun j hj=>?_,he⟩;rw [<-hat j hj];congr 1;simp only [Addr.add];by_cases h1:i*n=0<;>by_cases h2:j=0<;>simp [h1,h2]
theorem A0j {t : TypeId} {fs : Array Field} {α : Type} {E : World → List Value → α → Prop} {fuel : Nat} {cs : List Value} {x : DataW H × List MemPlace} (hS : Bd H S N) (ht : P.underlying t = some (.struct fs))
 (h:DataW.trod enc P W 0 (fun _=>true) true fuel t cs=some x) (hx:S x.1) (i o n:Nat) {f:Field} (hf:fs[i]?=some f) (ho:f.offset=o) (hn:P.cellsOf f.type=n) (hE:C3k enc P W S f.type E):∃ a,E W ((cs.drop o).take n) a:=by
 subst ho;obtain ⟨xs,m,_,rfl,hl,hlen,hg⟩:=DataW.trod_struct ht h;have hlt:i<fs.size:=(ltO hf);have h1:=hg i f hf;rw [hn,List.getElem?_eq_getElem (by omega)] at h1;exact hE _ _ _ h1 (hS.agg _ hx _ (List.mem_map.2 ⟨_,List.getElem_mem _,rfl⟩))
theorem D7r {t : TypeId} {fs : Array Field} {fuel : Nat} {cs : List Value} {x : DataW H × List MemPlace} (ht : P.underlying t = some (.struct fs))
 (h:DataW.trod enc P W 0 (fun _=>true) true fuel t cs=some x):cs.length=P.cellsOf t:=by
 obtain ⟨xs,m,_,rfl,hl,hlen,hg⟩:=DataW.trod_struct ht h;exact hl
end
section
variable {H : Type} {enc : TypeId × Value → H} {P : Program} {W : World} {S : DataW H → Prop} {N : Nat}
theorem B4x {α : Type} {n : Nat} {E : World → List Value → α → Prop} {t e : TypeId} {v : Value} {d : DataW H} {p : List MemPlace} {base : Nat} (ht : P.underlying t = some (.slice e)) (hE : C3k enc P W S t (A4a N n E))
 (hv:Value.okWide P W .any base t v) (h:DataW.Trod enc P W 0 (fun _=>true) true t v d p) (hs:S d):∃ l,A4a N n E W [v] l:=by
 obtain ⟨a,len,cap,rfl⟩:=okWide_slice ht hv;obtain ⟨fuel,hf⟩:=h;exact hE fuel _ _ (by simpa [Value.cells] using hf) hs
end
theorem A4a.below {α : Type} {N n : Nat} {E : World → List Value → α → Prop} {w w' : World} {cs : List Value} {l : List α} (h : A4a N n E w cs l) (hE : ∀ c a,E w c a → E w' c a) (hb : Below w.heap.size w w') : A4a N n E w' cs l := by
 obtain ⟨a,cap,h0,h1,h2,h3,h4,h5⟩:=h;refine ⟨a,cap,h0,h1,h2,h3,h4,fun hp=>?_⟩;obtain ⟨b,off,e,hc⟩:=h5 hp;refine ⟨b,off,e,fun i hi=>?_⟩;obtain ⟨c,hl,hcc,he⟩:=hc i hi;refine ⟨c,hl,fun j hj=>?_,hE _ _ he⟩;have hs:=hcc j hj;rw [List.getElem?_eq_getElem (by omega)] at hs;rw [hb.cell (World.block_lt_of_cell? w _ hs),hcc j hj]
def byt (s : ByteArray) (k : Nat) : Nat := (s.data.toList.getD k 0).toNat
theorem E5n (s : ByteArray) (k : Nat) : byt s k < 256 := UInt8.toNat_lt _
theorem A4f (s : ByteArray) (k : Nat) (h : k < s.size) : s[k].toNat = byt s k := by
 unfold byt;rw [List.getD_eq_getElem?_getD,List.getElem?_eq_getElem (by simpa using h)];rfl
theorem A2n {P : Program} {f : FuncId} {args : Array Value} {w : World} {n : Nat} {v : Value}
 (h:Calls P f args (w.drewN n) fun e w'=>e=.returned v/\w.drewN n=w'):Calls P f args (w.drewN n) fun e w''=>e=.returned v/\∃ m,w''=w.drewN m :=
 h.mono fun _ _ ⟨he,hm⟩=>⟨he,n,hm.symm⟩
theorem A6a (B : Nat) (w : World) (n : Nat) : Below B w (w.drewN n) := ⟨rfl,rfl,rfl,Nat.le_refl _,fun _ _ => rfl⟩
theorem C0b {W w1 : World} (hb : Below W.heap.size W w1) : (∀ b o,b < W.heap.size → w1.cell? ⟨b,o,none⟩ = W.cell? ⟨b,o,none⟩) ∧ (∀ b o,b < W.heap.size → w1.frozen? ⟨b,o,none⟩ = W.frozen? ⟨b,o,none⟩) :=
 ⟨fun b o h=>hb.cell (p:=⟨b,o,none⟩) h,fun b o h=>hb.frozen (p:=⟨b,o,none⟩) h⟩
theorem B3n {a b : ByteArray} (h : a = b) : (a.toList == b.toList) = true := by subst h; simp
theorem toList_inj {a b : ByteArray} (h : a.toList = b.toList) : a = b := by
 rw [Lib.toList_data,Lib.toList_data] at h;exact ByteArray.ext (Array.toList_inj.1 h)
theorem A5w {a b : ByteArray} (h : a ≠ b) : (a.toList == b.toList) = false := by
 rw [beq_eq_false_iff_ne];exact fun e=>h (toList_inj e)
theorem A8h {a : ByteArray} (h : a.size = 0) : a.toList.isEmpty = true := by
 rw [Lib.toList_data,List.isEmpty_iff_length_eq_zero];simpa using h
theorem A9e {a : ByteArray} (h : a.size ≠ 0) : a.toList.isEmpty = false := by
 rw [Lib.toList_data,<-Bool.not_eq_true,List.isEmpty_iff_length_eq_zero];simpa using h
theorem F0q {a : ByteArray} (h : a.size = 0) : a = ByteArray.empty := by
 simpa using h
def bl (l : List UInt8) (k : Nat) : Nat := (l.getD k 0).toNat
theorem bl_lt (l : List UInt8) (k : Nat) : bl l k < 256 := UInt8.toNat_lt _
def ofL (l : List UInt8) : ByteArray := ⟨l.toArray⟩
def slen : Value → Nat | .string s => s.size | _ => 0
theorem A7a (l : List UInt8) : (ofL l).size = l.length := by simp [ofL,ByteArray.size]
theorem A0d (l : List UInt8) : (ofL l).data.toList = l := by simp [ofL]
theorem C2n (s : ByteArray) : ofL s.data.toList = s := by
 apply ByteArray.ext;simp [ofL]
theorem A5k (a b : List UInt8) : ofL a ++ ofL b = ofL (a ++ b) := by
 apply ByteArray.ext;simp [ofL]
theorem C1a (l : List UInt8) (a b : Nat) : (ofL l).extract a b = ofL ((l.drop a).take (b - a)) := by
 apply ByteArray.ext;apply Array.toList_inj.1;rw [Lib.extract_data];simp [ofL]
theorem A0h {a b : ByteArray} (h : a.data.toList = b.data.toList) : a = b := ByteArray.ext (Array.toList_inj.1 h)
def A0n (c : UInt8) : Value := .int .u8 c.toNat
def D4k (t : TypeId) (w : World) (B g cap : Nat) (l : List UInt8) : Prop := w.ownsRow B t 1 (.slice (some ⟨g,0,none⟩) l.length cap) l.length (l.map A0n)
theorem D4k.cell {t : TypeId} {w : World} {B g cap : Nat} {l : List UInt8} (h : D4k t w B g cap l) {j : Nat} (hj : j < l.length) : w.cell? ⟨g,j,none⟩ = some (.int .u8 (bl l j)) := by
 rw [World.ownsRow.cellAt h j (by omega)];simp [bl,A0n,List.getD_eq_getElem?_getD,List.getElem?_eq_getElem hj]
theorem D4k.free {t : TypeId} {w : World} {B g cap : Nat} {l : List UInt8} (h : D4k t w B g cap l) (j : Nat) : w.frozen? ⟨g,j,none⟩ = false := World.ownsRow.frozenAt h j
theorem D4k.lt {t : TypeId} {w : World} {B g cap : Nat} {l : List UInt8} (h : D4k t w B g cap l) : B ≤ g ∧ g < w.heap.size := World.ownsRow.lt h g rfl
theorem D4k.store {t : TypeId} {w : World} {B g cap : Nat} {l : List UInt8} (h : D4k t w B g cap l) (j : Nat) (c : UInt8) {n : Int} (hn : n = c.toNat) : D4k t (w.setCell ⟨g,j,none⟩ (.int .u8 n)) B g cap (l.set j c) := by
 subst hn;have:=(World.ownsRow.stored h j (A0n c)).1;unfold D4k;rw [List.length_set,List.map_set];exact this
theorem F7b {t : TypeId} (w : World) (n : Nat) (hn : n ≤ maxLen) : D4k t (w.alloc (.cells (madeCells #[.int .u8 0] n) t)) w.heap.size w.heap.size n (List.replicate n 0) := by
 have:=World.ownsRow_lit (base:=w.heap.size) (e:=t) (size:=1) w (madeCells #[.int .u8 0] n) n lr hn (by simp [madeCells]);rw [toList_madeCells_one] at this;unfold D4k;simpa [A0n] using this
theorem D4k.string {P : Program} {t : TypeId} {w : World} {B g cap : Nat} {l : List UInt8} (h : D4k t w B g cap l) (src e dst : TypeId) (hs : P.underlying src = some (.slice e)) (he : P.underlying e = some (.int .u8)) (hd : P.underlying dst = some .string) :
 (convert src dst (.slice (some ⟨g,0,none⟩) l.length cap)).run P w=.ok (.string (ofL l)) w:=by
 have hx:strOfNums (l.map fun c=>(c.toNat:Int))=ofL l:=by
  apply A0h;rw [strOfNums_data,A0d,List.map_map]
  conv=>rhs;rw [<-List.map_id l]
  apply List.map_congr_left;intro c _;simp
 rw [<-hx];refine run_convert_bytes_arg w src e hs he g 0 l.length cap _ (by simp) (fun i hi=>?_) dst hd;rw [Nat.zero_add,h.cell hi];simp [bl,List.getD_eq_getElem?_getD,List.getElem?_eq_getElem hi]
theorem C8y {P : Program} (w : World) (t e : TypeId) (i : TypeInfo) (ht : P.underlying t = some (.slice e)) (hi : P.info? e = some i) (hz : i.zero = some (.int .u8 0)) (h1 : i.size = 1) (hb : i.bytes = 1) (n : Nat) (hn : n ≤ 281474976710656) :
 (Instr.makeSlice t (.int .i64 (n:Int)) (.int .i64 (n:Int))).run P w=.ok (.slice (some ⟨w.heap.size,0,none⟩) n n) (w.alloc (.cells (madeCells #[.int .u8 0] n) e)):=by
 have hr:=run_make (P:=P) w t e i (.int .u8 0) ht hi hz .i64 .i64 n n (by omega) (Int.le_refl _) (by rw [hb];omega) (by omega);simp only [Int.toNat_natCast,h1,Nat.mul_one,Value.cells] at hr;exact hr
theorem B1h {N : Nat} {w : World} {v : Value} {l : List UInt8} (h : A4a N 1 A1e w [v] l) : (∃ a cap,v = .slice a 0 cap ∧ l = []) ∨
 ∃ b off cap,v=.slice (some ⟨b,off,none⟩) l.length cap/\0<l.length/\l.length<=cap/\cap<=maxLen/\l.length<=N/\∀ i,i<l.length->w.cell? ⟨b,off+i,none⟩=some (.int .u8 (bl l i)):=by
 obtain ⟨a,cap,hv,h1,h2,h3,_,h4⟩:=h;simp only [List.cons.injEq,and_true] at hv;by_cases hl:0<l.length
 ·obtain ⟨b,off,rfl,hc⟩:=h4 hl;refine .inr ⟨b,off,cap,hv,hl,h1,h2,h3,fun i hi=>?_⟩;obtain ⟨c,_,hcc,hE⟩:=hc i hi;have:=hcc 0 (by omega);rw [hE] at this;simpa [bl,List.getD_eq_getElem?_getD,List.getElem?_eq_getElem hi] using this
 ·have:l=[]:=by
   cases l with
   | nil=>rfl
   | cons x r=>simp at hl
  subst this;exact .inl ⟨a,cap,by simpa using hv,rfl⟩
theorem A1p {a b : Int} {p : Int × Int} (h : p = (a,b)) : Ending.returned (.tuple #[.int .i64 a,.int .i64 b]) = .returned (.tuple #[.int .i64 p.1,.int .i64 p.2]) := by rw [h]
theorem A1c {a : ByteArray} {b : Int} {p : ByteArray × Int} (h : p = (a,b)) : Ending.returned (.tuple #[.string a,.int .i64 b]) = .returned (.tuple #[.string p.1,.int .i64 p.2]) := by rw [h]
theorem B0g {a b : ByteArray} {c : Int} {p : ByteArray × ByteArray × Int} (h : p = (a,b,c)) : Ending.returned (.tuple #[.string a,.string b,.int .i64 c]) = .returned (.tuple #[.string p.1,.string p.2.1,.int .i64 p.2.2]) := by rw [h]
theorem A5d {a b c : Int} {p : Int × Int × Int} (h : p = (a,b,c)) : Ending.returned (.tuple #[.int .i64 a,.int .i64 b,.int .i64 c]) = .returned (.tuple #[.int .i64 p.1,.int .i64 p.2.1,.int .i64 p.2.2]) := by rw [h]
theorem A4e {a b : Int} (h : b = a) : Ending.returned (.int .i64 a) = .returned (.int .i64 b) := by rw [h]
theorem C9y {a b : Bool} (h : b = a) : Ending.returned (.bool a) = .returned (.bool b) := by rw [h]
theorem E1b {a b : ByteArray} (h : b = a) : Ending.returned (.string a) = .returned (.string b) := by rw [h]
theorem F3v {a : ByteArray} {b : Bool} {p : ByteArray × Bool} (h : p = (a,b)) : Ending.returned (.tuple #[.string a,.bool b]) = .returned (.tuple #[.string p.1,.bool p.2]) := by rw [h]
theorem cellAt {W : World} {b k : Nat} {cs : Array Value} {t : TypeId} {fr : Nat × Nat} {v : Value} (h : W.heap[b]? = some (.cells cs t fr)) (hv : cs[k]? = some v) : W.cell? ⟨b,k,none⟩ = some v :=
 (cell_of_row W b k cs t fr h).trans hv
theorem A7g {W : World} {b : Nat} {t : TypeId} {v0 v1 v2 v3 v4 v5 v6 v7 v8 v9 v10 : Value} (h : W.heap[b]? = some (.cells #[v0,v1,v2,v3,v4,v5,v6,v7,v8,v9,v10] t (0,0))) :
 W.cell? ⟨b,0,none⟩=some v0/\W.cell? ⟨b,1,none⟩=some v1/\W.cell? ⟨b,2,none⟩=some v2/\W.cell? ⟨b,3,none⟩=some v3/\W.cell? ⟨b,4,none⟩=some v4/\W.cell? ⟨b,5,none⟩=some v5/\W.cell? ⟨b,6,none⟩=some v6/\W.cell? ⟨b,7,none⟩=some v7/\W.cell? ⟨b,8,none⟩=some v8/\W.cell? ⟨b,9,none⟩=some v9/\W.cell? ⟨b,10,none⟩=some v10 :=
 ⟨cellAt h rfl,cellAt h rfl,cellAt h rfl,cellAt h rfl,cellAt h rfl,cellAt h rfl,cellAt h rfl,cellAt h rfl,cellAt h rfl,cellAt h rfl,cellAt h rfl⟩
theorem A4r {W : World} {b : Nat} {t : TypeId} {cs : Array Value} (h : W.heap[b]? = some (.cells cs t (0,0))) :
 W.frozen? ⟨b,0,none⟩=false/\W.frozen? ⟨b,1,none⟩=false/\W.frozen? ⟨b,2,none⟩=false/\W.frozen? ⟨b,3,none⟩=false/\W.frozen? ⟨b,4,none⟩=false/\W.frozen? ⟨b,5,none⟩=false/\W.frozen? ⟨b,6,none⟩=false/\W.frozen? ⟨b,7,none⟩=false/\W.frozen? ⟨b,8,none⟩=false/\W.frozen? ⟨b,9,none⟩=false/\W.frozen? ⟨b,10,none⟩=false :=
 ⟨frozen_of_row W b 0 _ _ h,frozen_of_row W b 1 _ _ h,frozen_of_row W b 2 _ _ h,frozen_of_row W b 3 _ _ h,frozen_of_row W b 4 _ _ h,frozen_of_row W b 5 _ _ h,frozen_of_row W b 6 _ _ h,frozen_of_row W b 7 _ _ h,frozen_of_row W b 8 _ _ h,frozen_of_row W b 9 _ _ h,frozen_of_row W b 10 _ _ h⟩
structure Rec where
 key:ByteArray
 value:ByteArray
def F4i (N : Nat) (_ : World) (cs : List Value) (r : Rec) : Prop := cs = [.string r.key,.string r.value] ∧ r.key.size ≤ N ∧ r.value.size ≤ N
structure Meta where
 mode:Int
 uid:Int
 gid:Int
 user:ByteArray
 group:ByteArray
 second:Int
 nano:Int
def Meta.cells (m : Meta) : List Value := [.int .i64 m.mode,.int .i64 m.uid,.int .i64 m.gid,.string m.user,.string m.group,.int .i64 m.second,.int .i64 m.nano]
def i64 (n : Int) : Prop := -9223372036854775808 ≤ n ∧ n ≤ 9223372036854775807
structure Meta.Ok (N : Nat) (m : Meta) : Prop where
 mode:i64 m.mode
 uid:i64 m.uid
 gid:i64 m.gid
 user:m.user.size<=N
 group:m.group.size<=N
 second:i64 m.second
 nano:i64 m.nano
def MetaC (N : Nat) (_ : World) (cs : List Value) (m : Meta) : Prop := cs = m.cells ∧ m.Ok N
def A8k (s : ByteArray) (c : UInt8) : Bool := s.data.toList.any (· == c)
theorem C8a (s : ByteArray) (k : Nat) (h : k < s.size) (c : UInt8) : (s.data.toList[k]'(by simpa using h) = c) ↔ byt s k = c.toNat := by
 unfold byt;rw [List.getD_eq_getElem?_getD,List.getElem?_eq_getElem (by simpa using h)];constructor
 ·intro e;simp [e]
 ·intro e;exact UInt8.toNat_inj.1 e
theorem B6g {s : ByteArray} {c : UInt8} {k : Nat} (h : k < s.size) (e : byt s k = c.toNat) : A8k s c = true := by
 unfold A8k;rw [List.any_eq_true];exact ⟨_,List.getElem_mem (by simpa using h),by rw [beq_iff_eq];exact (C8a s k h c).2 e⟩
theorem B8v {s : ByteArray} {c : UInt8} (h : ∀ k,k < s.size → byt s k ≠ c.toNat) : A8k s c = false := by
 unfold A8k;rw [List.any_eq_false];intro x hx;obtain ⟨k,hk,rfl⟩:=List.getElem_of_mem hx;have hk':k<s.size:=by simpa using hk
 rw [beq_iff_eq];exact fun e=>h k hk' ((C8a s k hk' c).1 e)
theorem hasB_no {s : ByteArray} {c : UInt8} (h : A8k s c = false) (k : Nat) (hk : k < s.size) : byt s k ≠ c.toNat := by
 intro e;rw [B6g hk e] at h;cases h
theorem B5g (s : ByteArray) (c : UInt8) : decide (0 ≤ firstIdx s c) = A8k s c := firstIdx_nonneg s c
theorem C5p {s : ByteArray} {c : UInt8} (h : A8k s c = false) : firstIdx s c = -1 := by
 apply firstIdx_none;unfold A8k at h;rw [List.any_eq_false] at h;intro b hb e;exact h b hb (by simp [e])
theorem D5c {s : ByteArray} {c : UInt8} (h : A8k s c = true) : 0 ≤ firstIdx s c := by
 rw [<-B5g] at h;simpa using h
theorem E8k {s : ByteArray} {c : UInt8} : firstIdx s c < 0 ∨ ∃ i : Nat,firstIdx s c = i ∧ i < s.size ∧ byt s i = c.toNat ∧ ∀ j,j < i → byt s j ≠ c.toNat := by
 unfold firstIdx;have key:∀ i,i<s.size->((s[i]! == c)=true↔byt s i=c.toNat):=by
  intro i hi;rw [beq_iff_eq,getElem!_pos s i hi,<-A4f s i hi];exact UInt8.toNat_inj.symm
 cases hf:(List.range s.size).find? fun i=>s[i]! == c with
 | none=>left;simp
 | some i =>
   right;have h1:=List.find?_some hf;have h2:=List.mem_range.1 (List.mem_of_find?_eq_some hf);refine ⟨i,rfl,h2,(key i h2).1 h1,fun j hj=>?_⟩;have h3:=(List.find?_range_eq_some.1 hf).2.2 j hj;intro e;have:=(key j (by omega)).2 e;simp [this] at h3
def A3d (s n : Int) : Int := if s < -1099511627776 ∨ 1099511627776 < s ∨ n < 0 ∨ 999999999 < n then 4 else 0
def A9d (m : Meta) : Int :=
 if m.mode<0\/4095<m.mode\/m.uid<0\/1125899906842624<m.uid\/m.gid<0\/1125899906842624<m.gid then 4
 else if 60<m.user.size\/60<m.group.size then 1
 else if A8k m.user 0=true\/A8k m.group 0=true then 3
 else A3d m.second m.nano
theorem E6d (a b : ByteArray) (c : UInt8) : A8k (a ++ b) c = (A8k a c || A8k b c) := by
 unfold A8k;have:(a++b).data.toList=a.data.toList++b.data.toList:=by simp
 rw [this,List.any_append]
abbrev Meta.val (m : Meta) : Value := .agg #[.int .i64 m.mode,.int .i64 m.uid,.int .i64 m.gid,.string m.user,.string m.group,.int .i64 m.second,.int .i64 m.nano]
theorem B0t {m : Meta} (h : m.mode < 0 ∨ 4095 < m.mode ∨ m.uid < 0 ∨ 1125899906842624 < m.uid ∨ m.gid < 0 ∨ 1125899906842624 < m.gid) : A9d m = 4 := by unfold A9d; rw [if_pos h]
theorem B6x {m : Meta} (h : ¬ (m.mode < 0 ∨ 4095 < m.mode ∨ m.uid < 0 ∨ 1125899906842624 < m.uid ∨ m.gid < 0 ∨ 1125899906842624 < m.gid)) (h2 : 60 < m.user.size ∨ 60 < m.group.size) : A9d m = 1 := by
 unfold A9d;rw [if_neg h,if_pos h2]
theorem B7x {m : Meta} (h : ¬ (m.mode < 0 ∨ 4095 < m.mode ∨ m.uid < 0 ∨ 1125899906842624 < m.uid ∨ m.gid < 0 ∨ 1125899906842624 < m.gid)) (h2 : ¬ (60 < m.user.size ∨ 60 < m.group.size)) (h3 : A8k m.user 0 = true ∨ A8k m.group 0 = true) : A9d m = 3 := by
 unfold A9d;rw [if_neg h,if_neg h2,if_pos h3]
theorem B5x {m : Meta} (h : ¬ (m.mode < 0 ∨ 4095 < m.mode ∨ m.uid < 0 ∨ 1125899906842624 < m.uid ∨ m.gid < 0 ∨ 1125899906842624 < m.gid)) (h2 : ¬ (60 < m.user.size ∨ 60 < m.group.size)) (h3 : ¬ (A8k m.user 0 = true ∨ A8k m.group 0 = true)) : A9d m = A3d m.second m.nano := by
 unfold A9d;rw [if_neg h,if_neg h2,if_neg h3]
end Go.Creel
namespace Go.Proofs.YtaffgndickdbiaaGreatDoor
open Go.Creel Go.ChangeShapes
section
variable {H : Type} {enc : TypeId × Value → H} {W : World} {S : DataW H → Prop} {N : Nat}
theorem C2d (hS : Bd H S N) : C3k enc Tryz.prog W S 9 (StrC N) := F2c hS Tryz.underlying9
theorem B2g : C3k enc Tryz.prog W S 3 IntC := F3c Tryz.underlying3
theorem C9t (hS : Bd H S N) : C3k enc Tryz.prog W S 24 (A4a N 1 A1e) := C8t hS Tryz.underlying24 (by kernel_rfl) (by decide) (E8r Tryz.underlying5)
theorem E0s (hS : Bd H S N) : C3k enc Tryz.prog W S 23 (MetaC N) := by
 intro fuel cs x h hx;have hu:=Tryz.underlying23;have hl:=(D7r hu h).trans (show Tryz.prog.cellsOf 23=7 by kernel_rfl);obtain ⟨a0,h0⟩:=A0j hS hu h hx 0 0 1 rfl rfl (by kernel_rfl) B2g;obtain ⟨a1,h1⟩:=A0j hS hu h hx 1 1 1 rfl rfl (by kernel_rfl) B2g;obtain ⟨a2,h2⟩:=A0j hS hu h hx 2 2 1 rfl rfl (by kernel_rfl) B2g;obtain ⟨a3,h3⟩:=A0j hS hu h hx 3 3 1 rfl rfl (by kernel_rfl) (C2d hS);obtain ⟨a4,h4⟩:=A0j hS hu h hx 4 4 1 rfl rfl (by kernel_rfl) (C2d hS);obtain ⟨a5,h5⟩:=A0j hS hu h hx 5 5 1 rfl rfl (by kernel_rfl) B2g;obtain ⟨a6,h6⟩:=A0j hS hu h hx 6 6 1 rfl rfl (by kernel_rfl) B2g;obtain ⟨c0,c1,c2,c3,c4,c5,c6,rfl⟩:∃ c0 c1 c2 c3 c4 c5 c6,cs=[c0,c1,c2,c3,c4,c5,c6]:=by
  match cs,hl with
  | [c0,c1,c2,c3,c4,c5,c6],_=>exact ⟨c0,c1,c2,c3,c4,c5,c6,rfl⟩
 simp [StrC,IntC] at h0 h1 h2 h3 h4 h5 h6;exact ⟨⟨a0,a1,a2,a3,a4,a5,a6⟩,by rw [h0.1,h1.1,h2.1,h3.1,h4.1,h5.1,h6.1];rfl,h0.2,h1.2,h2.2,h3.2,h4.2,h5.2,h6.2⟩
end
open Go.RowKit
theorem B6w (s : ByteArray) (n : Int) (w : World) : (callFunc 199 #[.string s,.int .u8 n]).run Tryz.prog w = .ok (.value (.int .i64 (firstIdx s n.toNat.toUInt8))) w := by
 rw [run_callFunc_extern (P:=Tryz.prog) Tryz.func199 (by kernel_rfl) (by kernel_rfl) (by kernel_rfl) (e:=Extern.BytealgIndexByte.indexByte) (by kernel_rfl),run_indexByte_string];rfl
theorem A6b (s : ByteArray) (n : Int) (w : World) :
 Calls Tryz.prog 84 #[.string s,.int .u8 n] w fun e w'=>e=.returned (.int .i64 (firstIdx s n.toNat.toUInt8))/\w=w':=by
 have hcall:=B6w s n w;go_enter Tryz.func84,Tryz.ntmps84;go_wp2;go_ret;exact ⟨rfl,rfl⟩
theorem A9m (s : ByteArray) (c : UInt8) (n : Int) (hn : n = c.toNat) (w : World) (hs : s.size ≤ maxLen) :
 Calls Tryz.prog 105 #[.string s,.int .u8 n] w fun e w'=>e=.returned (.bool (A8k s c))/\w=w':=by
 unfold maxLen at hs;have HN:=Hi hn;clear hn;go_enter Tryz.func105,Tryz.ntmps105;go_wp2
 go_loop [5] (fun i=>∃ k:Nat,k<=s.size/\i=.int .i64 k/\Hid (∀ j,j<k->byt s j≠c.toNat)) (fun i=>s.size-(intOf i).toNat)
 case atStart=>exact ⟨0,by omega,rfl,fun j hj=>absurd hj (by omega)⟩
 case round =>
  obtain ⟨k,hk,rfl,HD⟩:=hrel;by_cases hlt:k<s.size
  ·have HB:=Hi (A4f s k hlt);have hb':s[k].toNat<256:=UInt8.toNat_lt _;by_cases he:byt s k=c.toNat
   ·have HF:=Hi (B6g hlt he);have hq:(((s[k].toNat:Nat):Int)==n)=true:=by rw [HN.out,HB.out,he];simp
    clear he;go_wp2;go_ret;exact ⟨C9y HF.out,rfl⟩
   ·have hq:(((s[k].toNat:Nat):Int)==n)=false:=by rw [HN.out,HB.out,beq_eq_false_iff_ne];omega
    have HE:=Hi he;clear he;go_wp2
    go_round
    case rel =>
     refine ⟨k+1,by omega,by go_num,fun j hj=>?_⟩;by_cases e:j=k
     ·rw [e];exact HE.out
     ·exact HD.out j (by omega)
    case measure=>simp [intOf];omega
  ·obtain rfl:k=s.size:=by omega
   have HF:=Hi (B8v HD.out);go_wp2;go_ret;exact ⟨C9y HF.out,rfl⟩
theorem C4f (s n : Int) (w : World) :
 Calls Tryz.prog 156 #[.int .i64 s,.int .i64 n] w fun e w'=>e=.returned (.int .i64 (A3d s n))/\w=w':=by
 have hF:(A3d s n=4/\(s < -1099511627776\/1099511627776<s\/n<0\/999999999<n))\/(A3d s n=0/\¬ (s < -1099511627776\/1099511627776<s\/n<0\/999999999<n)):=by
  unfold A3d;split<;>simp_all
 have HF:=Hi hF;clear hF;go_enter Tryz.func156,Tryz.ntmps156;go_wp2
 all_goals (go_ret;exact ⟨A4e (by have:=HF.out;omega),rfl⟩)
theorem B7y (s n : Int) (w : World) :
 Calls Tryz.prog 146 #[.int .i64 s,.int .i64 n] w fun e w'=>e=.returned (.int .i64 (A3d s n))/\w=w':=by
 have hF:(A3d s n=4/\(s < -1099511627776\/1099511627776<s\/n<0\/999999999<n))\/(A3d s n=0/\¬ (s < -1099511627776\/1099511627776<s\/n<0\/999999999<n)):=by
  unfold A3d;split<;>simp_all
 have HF:=Hi hF;clear hF;go_enter Tryz.func146,Tryz.ntmps146;go_wp2
 all_goals (go_ret;exact ⟨A4e (by have:=HF.out;omega),rfl⟩)
theorem C9f {N : Nat} (m : Meta) (w : World) (hm : m.Ok N) (hN : N ≤ maxLen) :
 Calls Tryz.prog 83 #[m.val] w fun e w'=>e=.returned (.int .i64 (A9d m))/\Below w.heap.size w w':=by
 obtain ⟨mode,uid,gid,user,group,second,nano⟩:=m;have hu:user.size<=maxLen:=Nat.le_trans hm.user hN;have hg:group.size<=maxLen:=Nat.le_trans hm.group hN;unfold maxLen at hu hg;clear hm;show Calls Tryz.prog 83 #[.agg #[.int .i64 mode,.int .i64 uid,.int .i64 gid,.string user,.string group,.int .i64 second,.int .i64 nano]] w _
 by_cases hR:mode<0\/4095<mode\/uid<0\/1125899906842624<uid\/gid<0\/1125899906842624<gid
 ·have HF:=Hi (B0t (m:=⟨mode,uid,gid,user,group,second,nano⟩) hR);rcases (show mode<0\/(0<=mode/\4095<mode)\/(0<=mode/\mode<=4095/\uid<0)\/(0<=mode/\mode<=4095/\0<=uid/\1125899906842624<uid)\/(0<=mode/\mode<=4095/\0<=uid/\uid<=1125899906842624/\gid<0)\/(0<=mode/\mode<=4095/\0<=uid/\uid<=1125899906842624/\0<=gid/\1125899906842624<gid) by omega) with h1|⟨h1,h2⟩|⟨h1,h2,h3⟩|⟨h1,h2,h3,h4⟩|⟨h1,h2,h3,h4,h5⟩|⟨h1,h2,h3,h4,h5,h6⟩
  all_goals
   clear hR;go_enter Tryz.func83,Tryz.ntmps83;go_wp2;go_ret;exact ⟨A4e HF.out,(Below.refl _ _).alloc lr _⟩
 ·have hr1:0<=mode:=by omega
  have hr2:mode<=4095:=by omega
  have hr3:0<=uid:=by omega
  have hr4:uid<=1125899906842624:=by omega
  have hr5:0<=gid:=by omega
  have hr6:gid<=1125899906842624:=by omega
  by_cases hZ:60<user.size\/60<group.size
  ·have HF:=Hi (B6x (m:=⟨mode,uid,gid,user,group,second,nano⟩) hR hZ);rcases (show 60<user.size\/(user.size<=60/\60<group.size) by omega) with h1|⟨h1,h2⟩
   all_goals
    clear hR hZ;go_enter Tryz.func83,Tryz.ntmps83;go_wp2;go_ret;exact ⟨A4e HF.out,(Below.refl _ _).alloc lr _⟩
  ·have hz1:user.size<=60:=by omega
   have hz2:group.size<=60:=by omega
   have hix:=B5g (user++group) 0;rw [E6d] at hix;by_cases hB:A8k user 0=true\/A8k group 0=true
   ·have HF:=Hi (B7x (m:=⟨mode,uid,gid,user,group,second,nano⟩) hR hZ hB);have hi2:decide (0<=firstIdx (user++group) 0)=true:=by rw [hix];simpa using hB
    clear hR hZ hB hix;go_enter Tryz.func83,Tryz.ntmps83;go_wp2_with (go_at_call 84;refine (A6b _ _ _).mono ?_;rintro e w' ⟨rfl,rfl⟩)
    go_ret;exact ⟨A4e HF.out,(Below.refl _ _).alloc lr _⟩
   ·have HF:=Hi (B5x (m:=⟨mode,uid,gid,user,group,second,nano⟩) hR hZ hB);have hi2:decide (0<=firstIdx (user++group) 0)=false:=by
     rw [hix];simp only [not_or,Bool.not_eq_true] at hB;rw [hB.1,hB.2];rfl
    clear hR hZ hB hix;go_enter Tryz.func83,Tryz.ntmps83;go_wp2_with (first|(go_at_call 84;refine (A6b _ _ _).mono ?_;rintro e w' ⟨rfl,rfl⟩)|(go_at_call 146;refine (B7y _ _ _).mono ?_;rintro e w' ⟨rfl,rfl⟩))
    go_ret;exact ⟨A4e HF.out,(Below.refl _ _).alloc lr _⟩
theorem C8f {N : Nat} (m : Meta) (w : World) (hm : m.Ok N) (hN : N ≤ maxLen) :
 Calls Tryz.prog 155 #[m.val] w fun e w'=>e=.returned (.int .i64 (A9d m))/\Below w.heap.size w w':=by
 obtain ⟨mode,uid,gid,user,group,second,nano⟩:=m;have hu':user.size<=maxLen:=Nat.le_trans hm.user hN;have hg':group.size<=maxLen:=Nat.le_trans hm.group hN;have hu:=hu';have hg:=hg';unfold maxLen at hu hg;clear hm;show Calls Tryz.prog 155 #[.agg #[.int .i64 mode,.int .i64 uid,.int .i64 gid,.string user,.string group,.int .i64 second,.int .i64 nano]] w _
 by_cases hR:mode<0\/4095<mode\/uid<0\/1125899906842624<uid\/gid<0\/1125899906842624<gid
 ·have HF:=Hi (B0t (m:=⟨mode,uid,gid,user,group,second,nano⟩) hR);rcases (show mode<0\/(0<=mode/\4095<mode)\/(0<=mode/\mode<=4095/\uid<0)\/(0<=mode/\mode<=4095/\0<=uid/\1125899906842624<uid)\/(0<=mode/\mode<=4095/\0<=uid/\uid<=1125899906842624/\gid<0)\/(0<=mode/\mode<=4095/\0<=uid/\uid<=1125899906842624/\0<=gid/\1125899906842624<gid) by omega) with h1|⟨h1,h2⟩|⟨h1,h2,h3⟩|⟨h1,h2,h3,h4⟩|⟨h1,h2,h3,h4,h5⟩|⟨h1,h2,h3,h4,h5,h6⟩
  all_goals
   clear hR;go_enter Tryz.func155,Tryz.ntmps155;go_wp2;go_ret;exact ⟨A4e HF.out,(Below.refl _ _).alloc lr _⟩
 ·have hr1:0<=mode:=by omega
  have hr2:mode<=4095:=by omega
  have hr3:0<=uid:=by omega
  have hr4:uid<=1125899906842624:=by omega
  have hr5:0<=gid:=by omega
  have hr6:gid<=1125899906842624:=by omega
  by_cases hZ:60<user.size\/60<group.size
  ·have HF:=Hi (B6x (m:=⟨mode,uid,gid,user,group,second,nano⟩) hR hZ);rcases (show 60<user.size\/(user.size<=60/\60<group.size) by omega) with h1|⟨h1,h2⟩
   all_goals
    clear hR hZ;go_enter Tryz.func155,Tryz.ntmps155;go_wp2;go_ret;exact ⟨A4e HF.out,(Below.refl _ _).alloc lr _⟩
  ·have hz1:user.size<=60:=by omega
   have hz2:group.size<=60:=by omega
   by_cases hB:A8k user 0=true\/A8k group 0=true
   ·have HF:=Hi (B7x (m:=⟨mode,uid,gid,user,group,second,nano⟩) hR hZ hB);cases hU:A8k user 0 with
    | true =>
      clear hR hZ hB;go_enter Tryz.func155,Tryz.ntmps155;go_wp2_with (go_at_call 105;refine (A9m _ 0 0 rfl _ hu').mono ?_;rintro e w' ⟨rfl,rfl⟩)
      go_ret;exact ⟨A4e HF.out,(Below.refl _ _).alloc lr _⟩
    | false =>
      have hG:A8k group 0=true:=by simpa [hU] using hB
      clear hR hZ hB;go_enter Tryz.func155,Tryz.ntmps155;go_wp2_with fail
      refine (A9m _ 0 0 rfl _ hu').mono ?_;rintro e w' ⟨rfl,rfl⟩;go_wp2_with fail
      refine (A9m _ 0 0 rfl _ hg').mono ?_;rintro e w' ⟨rfl,rfl⟩;go_wp2;go_ret;exact ⟨A4e HF.out,(Below.refl _ _).alloc lr _⟩
   ·have HF:=Hi (B5x (m:=⟨mode,uid,gid,user,group,second,nano⟩) hR hZ hB);have hU:A8k user 0=false:=by simp only [not_or,Bool.not_eq_true] at hB;exact hB.1
    have hG:A8k group 0=false:=by simp only [not_or,Bool.not_eq_true] at hB;exact hB.2
    clear hR hZ hB;go_enter Tryz.func155,Tryz.ntmps155;go_wp2_with fail
    refine (A9m _ 0 0 rfl _ hu').mono ?_;rintro e w' ⟨rfl,rfl⟩;go_wp2_with fail
    refine (A9m _ 0 0 rfl _ hg').mono ?_;rintro e w' ⟨rfl,rfl⟩;go_wp2_with fail
    refine (C4f _ _ _).mono ?_;rintro e w' ⟨rfl,rfl⟩;go_wp2;go_ret;exact ⟨A4e HF.out,(Below.refl _ _).alloc lr _⟩
end Go.Proofs.YtaffgndickdbiaaGreatDoor
