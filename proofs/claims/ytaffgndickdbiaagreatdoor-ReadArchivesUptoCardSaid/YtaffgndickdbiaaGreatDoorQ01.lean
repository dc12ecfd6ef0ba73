/-
  Texts: Base, Data, Text, MetaCheck, StampSpec.
-/
import Derived.WalkKit
import Derived.ProofKit
import Derived.ChangeOld
import Derived.Lib.Hide
import Derived.WalkLawsBesides
import Derived.WalkSpells
import Derived.ShutString
import Derived.OpenShut
import Derived.Deep.Slices
import Derived.Deep.Fields
import Derived.Lib.Strings
import Derived.Deep.QuietTactic
import Derived.BigQuiet
import Derived.Test.YtaffgndickdbiaaGreatDoorRows
import Derived.Lib.ItoaNum
import Derived.Lib.TrimByte
set_option linter.unusedVariables false
set_option linter.unusedSimpArgs false
set_option linter.unusedSectionVars false
namespace Go.Creel
open Go.ChangeShapes Go.WideShapes Go.ChangeAt Go.RowKit Go.Deep
open Go.ChangeMaps (open_string)
section
variable {H : Type} {enc : TypeId × Value → H} {P : Program}
theorem trodAll_below (hl : laidOutB P = true) {W W' : World} (hb : Below W.heap.size W W') :
 ∀ {ts:List TypeId} {vs:List Value} {ds:List (DataW H)} {ps:List MemPlace},(ts.all fun t=>P.readableRec t&&decide (t<P.types.size))=true →
  DataW.TrodAll enc P W 0 (fun _=>true) true ts vs ds ps->(∀ x∈ps,x.block<W.heap.size)->DataW.TrodAll enc P W' 0 (fun b=>decide (b<W.heap.size)) true ts vs ds ps
 | [],vs,ds,ps,_,h,_=>by
   obtain ⟨rfl,rfl,rfl⟩:=trodAll_nil h
   exact trodAll_mk0
 | t::ts,vs,ds,ps,hr,h,hlt=>by
   obtain ⟨v,vs',d,ds',p,q,rfl,rfl,rfl,h0,h1⟩:=trodAll_cons h
   simp only [List.all_cons,Bool.and_eq_true,decide_eq_true_eq] at hr
   exact trodAll_cons_mk (Below.trod hl hr.1.1 hr.1.2 h0 hb (fun x hx=>hlt x (by simp [hx]))) (trodAll_below hl hb (by simpa using hr.2) h1 (fun x hx=>hlt x (by simp [hx])))
theorem trodAll_lt {W : World} : ∀ {ts : List TypeId} {vs : List Value} {ds : List (DataW H)} {ps : List MemPlace},
 DataW.TrodAll enc P W 0 (fun _=>true) true ts vs ds ps->∀ x∈ps,x.block<W.heap.size
 | [],vs,ds,ps,h=>by
   obtain ⟨rfl,rfl,rfl⟩:=trodAll_nil h
   simp
 | t::ts,vs,ds,ps,h=>by
   obtain ⟨v,vs',d,ds',p,q,rfl,rfl,rfl,⟨m,h0⟩,h1⟩:=trodAll_cons h
   intro x hx
   rcases List.mem_append.1 hx with hx|hx
   ·exact DataW.trod_lt m _ _ _ h0 x hx
   ·exact trodAll_lt h1 x hx
theorem law_post {fn : Func} {s : ChangeSpec} {tb : TypeId} {W W' : World} {args : Array Value} {ds gs : List (DataW H)} {before : List MemPlace} (hl : laidOutB P = true)
 (hr:(fn.params.toList.all fun t=>P.readableRec t&&decide (t<P.types.size))=true) (hres:fn.resultTypes = #[tb]) (htb:P.underlying tb=some .bool) (hv:s.vars=[])
 (hs:s.fn H (ds++gs)={ results:=[.lit (.bool true)],args:=ds })
 (hW:DataW.Whole enc P fn.params.toList s.vars false W args.toList ds gs before) (bel:Below W.heap.size W W'):s.post enc P fn false true false false W args (.bool true) W':=by
 have hW':=hW
 obtain ⟨p,q,hA,hV,rfl,hfz,hnd⟩:=hW
 rw [hv] at hV
 obtain ⟨rfl,rfl⟩:=trodVars_none hV
 refine ⟨ds,[],_,[],p,[],hW',?_,?_,?_,bel.frame _,fun h=>by cases h⟩
 ·rw [hs,hres]
  exact trodAll_mk1 (shut_bool htb _)
 ·rw [hs]
  exact trodAll_below hl bel hr hA (trodAll_lt hA)
 ·rw [hs,hv]
  rfl
end
structure Bd (H : Type) (S : DataW H → Prop) (N : Nat) : Prop where
 str:∀ l,S (.lit (.string l))->l.length<=maxLen->l.length<=N
 slc:∀ el sp,S (.slice el sp)->el.length+sp.length<=maxLen->el.length<=N/\∀ d∈el,S d
 agg:∀ ps,S (.agg ps)->∀ d∈ps,S d
theorem Bd.any (H : Type) : Bd H (fun _ => True) maxLen := ⟨fun _ _ h => h,fun _ _ _ h => ⟨by omega,fun _ _ => trivial⟩,fun _ _ _ _ => trivial⟩
def Opens {H : Type} (enc : TypeId × Value → H) (P : Program) (W : World) (S : DataW H → Prop) (t : TypeId) {α : Type} (E : World → List Value → α → Prop) : Prop :=
 ∀ (fuel:Nat) (cs:List Value) (x:DataW H×List MemPlace),DataW.trod enc P W 0 (fun _=>true) true fuel t cs=some x->S x.1->∃ a,E W cs a
def ByteC (_ : World) (cs : List Value) (n : UInt8) : Prop := cs = [.int .u8 n.toNat]
def w_cells (w : World) (a : Addr) (i n : Nat) (c : List Value) : Prop := c.length = n ∧ ∀ j,j < n → w.cell? ((a.add (i * n)).add j) = c[j]?
def SliceC {α : Type} (N n : Nat) (E : World → List Value → α → Prop) (w : World) (cs : List Value) (l : List α) : Prop :=
 ∃ (a:Option Addr) (cap:Nat),cs=[.slice a l.length cap]/\l.length<=cap/\cap<=maxLen/\l.length<=N/\(a=none->cap=0) ∧
  (0<l.length->∃ b off,a=some ⟨b,off,none⟩/\∀ i (h:i<l.length),∃ c,c.length=n/\(∀ j,j<n->w.cell? ⟨b,off+i*n+j,none⟩=c[j]?)/\E w c l[i])
section
variable {H : Type} {enc : TypeId × Value → H} {P : Program} {W : World} {S : DataW H → Prop} {N : Nat}
theorem opens_byte {t : TypeId} (ht : P.underlying t = some (.int .u8)) : Opens enc P W S t ByteC := by
 intro fuel cs x h _
 obtain ⟨n,rfl,_,hw⟩:=DataW.trod_int ht h
 have:=bounds_u8 hw
 refine ⟨UInt8.ofNat n.toNat,?_⟩
 have h1:(UInt8.ofNat n.toNat).toNat=n.toNat:=by simp;omega
 show [Value.int .u8 n]=[.int .u8 ((UInt8.ofNat n.toNat).toNat:Int)]
 rw [h1,Int.toNat_of_nonneg this.1]
theorem list_of {α : Type} {n : Nat} {p : Nat → α → Prop} (h : ∀ i,i < n → ∃ a,p i a) : ∃ l : List α,l.length = n ∧ ∀ i (hi : i < l.length),p i l[i] := by
 induction n with
 | zero=>exact ⟨[],rfl,fun i hi=>absurd hi (by simp)⟩
 | succ n ih =>
   obtain ⟨l,hl,hp⟩:=ih (fun i hi=>h i (by omega))
   obtain ⟨a,ha⟩:=h n (by omega)
   refine ⟨l++[a],by simp [hl],fun i hi=>?_⟩
   by_cases e:i<l.length
   ·rw [List.getElem_append_left e];exact hp i e
   ·have:i=n:=by simp at hi;omega
    subst this
    rw [List.getElem_append_right (by omega)]
    simpa [hl] using ha
theorem opens_slice {α : Type} {E : World → List Value → α → Prop} {n : Nat} (hS : Bd H S N) {t e : TypeId} (ht : P.underlying t = some (.slice e)) (hn : P.cellsOf e = n) (hpos : 0 < n) (hE : Opens enc P W S e E) : Opens enc P W S t (SliceC N n E) := by
 intro fuel cs x h hx
 rcases open_slice ht h with ⟨rfl,rfl⟩|⟨a,len,cap,m,n',D,Pl,rfl,_,hl,hm,hmm,rfl,hi⟩
 ·exact ⟨[],none,0,rfl,by simp,by simp,by simp,fun _=>rfl,fun h=>absurd h (by simp)⟩
 ·simp only [if_true] at hmm
  subst hmm
  have hb:=hS.slc _ _ hx (by simp;omega)
  have hel:∀ i,i<len->∃ x:α,∃ c,w_cells W a i n c/\E W c x:=by
   intro i hlt
   obtain ⟨c,hc,ht'⟩:=hi i (by omega)
   rw [hn] at hc
   obtain ⟨_,hcl,hat⟩:=World.cells?_some hc
   obtain ⟨y,hy⟩:=hE _ _ _ ht' (hb.2 _ (List.mem_map.2 ⟨i,List.mem_range.2 hlt,rfl⟩))
   exact ⟨y,c,⟨hcl,hat⟩,hy⟩
  obtain ⟨l,hll,hlp⟩:=list_of hel
  refine ⟨l,some a,m,by rw [hll],by omega,hm,by have:=hb.1;simp at this;omega,(fun h=>by cases h),fun hpos'=>?_⟩
  obtain ⟨b,off,spot⟩:=a
  obtain ⟨c,⟨hcl,hat⟩,_⟩:=hlp 0 hpos'
  have hc0:=hat 0 (by omega)
  have hspot:spot=none:=by
   rw [List.getElem?_eq_getElem (by omega)] at hc0
   simpa [Addr.add] using World.cell?_spot hc0
  subst hspot
  refine ⟨b,off,rfl,fun i hi=>?_⟩
  obtain ⟨c,⟨hcl,hat⟩,he⟩:=hlp i hi
  refine ⟨c,hcl,fun j hj=>?_,he⟩
  rw [<-hat j hj]
  congr 1
  simp only [Addr.add]
  by_cases h1:i*n=0<;>by_cases h2:j=0<;>simp [h1,h2]
end
section
variable {H : Type} {enc : TypeId × Value → H} {P : Program} {W : World} {S : DataW H → Prop} {N : Nat}
theorem open_slice_val {α : Type} {n : Nat} {E : World → List Value → α → Prop} {t e : TypeId} {v : Value} {d : DataW H} {p : List MemPlace} {base : Nat} (ht : P.underlying t = some (.slice e)) (hE : Opens enc P W S t (SliceC N n E))
 (hv:Value.okWide P W .any base t v) (h:DataW.Trod enc P W 0 (fun _=>true) true t v d p) (hs:S d):∃ l,SliceC N n E W [v] l:=by
 obtain ⟨a,len,cap,rfl⟩:=okWide_slice ht hv
 obtain ⟨fuel,hf⟩:=h
 exact hE fuel _ _ (by simpa [Value.cells] using hf) hs
end
theorem SliceC.below {α : Type} {N n : Nat} {E : World → List Value → α → Prop} {w w' : World} {cs : List Value} {l : List α} (h : SliceC N n E w cs l) (hE : ∀ c a,E w c a → E w' c a) (hb : Below w.heap.size w w') : SliceC N n E w' cs l := by
 obtain ⟨a,cap,h0,h1,h2,h3,h4,h5⟩:=h
 refine ⟨a,cap,h0,h1,h2,h3,h4,fun hp=>?_⟩
 obtain ⟨b,off,e,hc⟩:=h5 hp
 refine ⟨b,off,e,fun i hi=>?_⟩
 obtain ⟨c,hl,hcc,he⟩:=hc i hi
 refine ⟨c,hl,fun j hj=>?_,hE _ _ he⟩
 have hs:=hcc j hj
 rw [List.getElem?_eq_getElem (by omega)] at hs
 rw [hb.cell (World.block_lt_of_cell? w _ hs),hcc j hj]
def byt (s : ByteArray) (k : Nat) : Nat := (s.data.toList.getD k 0).toNat
theorem byt_lt (s : ByteArray) (k : Nat) : byt s k < 256 := UInt8.toNat_lt _
theorem byt_get (s : ByteArray) (k : Nat) (h : k < s.size) : s[k].toNat = byt s k := by
 unfold byt
 rw [List.getD_eq_getElem?_getD,List.getElem?_eq_getElem (by simpa using h)]
 rfl
theorem quiet_same {P : Program} {f : FuncId} {args : Array Value} {w : World} {n : Nat} {v : Value}
 (h:Calls P f args (w.drewN n) fun e w'=>e = .returned v/\w.drewN n=w'):Calls P f args (w.drewN n) fun e w''=>e = .returned v/\∃ m,w''=w.drewN m :=
 h.mono fun _ _ ⟨he,hm⟩=>⟨he,n,hm.symm⟩
theorem below_draws (B : Nat) (w : World) (n : Nat) : Below B w (w.drewN n) := ⟨rfl,rfl,rfl,Nat.le_refl _,fun _ _ => rfl⟩
theorem bcell {W w1 : World} (hb : Below W.heap.size W w1) : (∀ b o,b < W.heap.size → w1.cell? ⟨b,o,none⟩ = W.cell? ⟨b,o,none⟩) ∧ (∀ b o,b < W.heap.size → w1.frozen? ⟨b,o,none⟩ = W.frozen? ⟨b,o,none⟩) :=
 ⟨fun b o h=>hb.cell (p:=⟨b,o,none⟩) h,fun b o h=>hb.frozen (p:=⟨b,o,none⟩) h⟩
theorem seq_t {a b : ByteArray} (h : a = b) : (a.toList == b.toList) = true := by subst h; simp
theorem toList_inj {a b : ByteArray} (h : a.toList = b.toList) : a = b := by
 rw [Lib.toList_data,Lib.toList_data] at h
 exact ByteArray.ext (Array.toList_inj.1 h)
theorem seq_f {a b : ByteArray} (h : a ≠ b) : (a.toList == b.toList) = false := by
 rw [beq_eq_false_iff_ne]
 exact fun e=>h (toList_inj e)
theorem empty_t {a : ByteArray} (h : a.size = 0) : a.toList.isEmpty = true := by
 rw [Lib.toList_data,List.isEmpty_iff_length_eq_zero];simpa using h
theorem empty_f {a : ByteArray} (h : a.size ≠ 0) : a.toList.isEmpty = false := by
 rw [Lib.toList_data,<-Bool.not_eq_true,List.isEmpty_iff_length_eq_zero];simpa using h
theorem eq_empty {a : ByteArray} (h : a.size = 0) : a = ByteArray.empty := by
 simpa using h
def bl (l : List UInt8) (k : Nat) : Nat := (l.getD k 0).toNat
theorem bl_lt (l : List UInt8) (k : Nat) : bl l k < 256 := UInt8.toNat_lt _
def ofL (l : List UInt8) : ByteArray := ⟨l.toArray⟩
def slen : Value → Nat | .string s => s.size | _ => 0
theorem ofL_size (l : List UInt8) : (ofL l).size = l.length := by simp [ofL,ByteArray.size]
theorem ofL_data (l : List UInt8) : (ofL l).data.toList = l := by simp [ofL]
theorem ofL_of (s : ByteArray) : ofL s.data.toList = s := by
 apply ByteArray.ext;simp [ofL]
theorem ofL_append (a b : List UInt8) : ofL a ++ ofL b = ofL (a ++ b) := by
 apply ByteArray.ext;simp [ofL]
theorem ofL_extract (l : List UInt8) (a b : Nat) : (ofL l).extract a b = ofL ((l.drop a).take (b - a)) := by
 apply ByteArray.ext
 apply Array.toList_inj.1
 rw [Lib.extract_data];simp [ofL]
theorem ext_bytes {a b : ByteArray} (h : a.data.toList = b.data.toList) : a = b := ByteArray.ext (Array.toList_inj.1 h)
def byteV (c : UInt8) : Value := .int .u8 c.toNat
def OwnB (t : TypeId) (w : World) (B g cap : Nat) (l : List UInt8) : Prop := w.ownsRow B t 1 (.slice (some ⟨g,0,none⟩) l.length cap) l.length (l.map byteV)
theorem OwnB.cell {t : TypeId} {w : World} {B g cap : Nat} {l : List UInt8} (h : OwnB t w B g cap l) {j : Nat} (hj : j < l.length) : w.cell? ⟨g,j,none⟩ = some (.int .u8 (bl l j)) := by
 rw [World.ownsRow.cellAt h j (by omega)]
 simp [bl,byteV,List.getD_eq_getElem?_getD,List.getElem?_eq_getElem hj]
theorem OwnB.free {t : TypeId} {w : World} {B g cap : Nat} {l : List UInt8} (h : OwnB t w B g cap l) (j : Nat) : w.frozen? ⟨g,j,none⟩ = false := World.ownsRow.frozenAt h j
theorem OwnB.lt {t : TypeId} {w : World} {B g cap : Nat} {l : List UInt8} (h : OwnB t w B g cap l) : B ≤ g ∧ g < w.heap.size := World.ownsRow.lt h g rfl
theorem OwnB.store {t : TypeId} {w : World} {B g cap : Nat} {l : List UInt8} (h : OwnB t w B g cap l) (j : Nat) (c : UInt8) {n : Int} (hn : n = c.toNat) : OwnB t (w.setCell ⟨g,j,none⟩ (.int .u8 n)) B g cap (l.set j c) := by
 subst hn
 have:=(World.ownsRow.stored h j (byteV c)).1
 unfold OwnB
 rw [List.length_set,List.map_set]
 exact this
theorem ownB_made {t : TypeId} (w : World) (n : Nat) (hn : n ≤ maxLen) : OwnB t (w.alloc (.cells (madeCells #[.int .u8 0] n) t)) w.heap.size w.heap.size n (List.replicate n 0) := by
 have:=World.ownsRow_lit (base:=w.heap.size) (e:=t) (size:=1) w (madeCells #[.int .u8 0] n) n (Nat.le_refl _) hn (by simp [madeCells])
 rw [toList_madeCells_one] at this
 unfold OwnB
 simpa [byteV] using this
theorem OwnB.string {P : Program} {t : TypeId} {w : World} {B g cap : Nat} {l : List UInt8} (h : OwnB t w B g cap l) (src e dst : TypeId) (hs : P.underlying src = some (.slice e)) (he : P.underlying e = some (.int .u8)) (hd : P.underlying dst = some .string) :
 (convert src dst (.slice (some ⟨g,0,none⟩) l.length cap)).run P w = .ok (.string (ofL l)) w:=by
 have hx:strOfNums (l.map fun c=>(c.toNat:Int))=ofL l:=by
  apply ext_bytes
  rw [strOfNums_data,ofL_data,List.map_map]
  conv=>rhs;rw [<-List.map_id l]
  apply List.map_congr_left
  intro c _
  simp
 rw [<-hx]
 refine run_convert_bytes_arg w src e hs he g 0 l.length cap _ (by simp) (fun i hi=>?_) dst hd
 rw [Nat.zero_add,h.cell hi]
 simp [bl,List.getD_eq_getElem?_getD,List.getElem?_eq_getElem hi]
theorem run_make_bytes {P : Program} (w : World) (t e : TypeId) (i : TypeInfo) (ht : P.underlying t = some (.slice e)) (hi : P.info? e = some i) (hz : i.zero = some (.int .u8 0)) (h1 : i.size = 1) (hb : i.bytes = 1) (n : Nat) (hn : n ≤ 281474976710656) :
 (Instr.makeSlice t (.int .i64 (n:Int)) (.int .i64 (n:Int))).run P w = .ok (.slice (some ⟨w.heap.size,0,none⟩) n n) (w.alloc (.cells (madeCells #[.int .u8 0] n) e)):=by
 have hr:=run_make (P:=P) w t e i (.int .u8 0) ht hi hz .i64 .i64 n n (by omega) (Int.le_refl _) (by rw [hb];omega) (by omega)
 simp only [Int.toNat_natCast,h1,Nat.mul_one,Value.cells] at hr
 exact hr
theorem bytes_cases {N : Nat} {w : World} {v : Value} {l : List UInt8} (h : SliceC N 1 ByteC w [v] l) : (∃ a cap,v = .slice a 0 cap ∧ l = []) ∨
 ∃ b off cap,v = .slice (some ⟨b,off,none⟩) l.length cap/\0<l.length/\l.length<=cap/\cap<=maxLen/\l.length<=N/\∀ i,i<l.length->w.cell? ⟨b,off+i,none⟩=some (.int .u8 (bl l i)):=by
 obtain ⟨a,cap,hv,h1,h2,h3,_,h4⟩:=h
 simp only [List.cons.injEq,and_true] at hv
 by_cases hl:0<l.length
 ·obtain ⟨b,off,rfl,hc⟩:=h4 hl
  refine .inr ⟨b,off,cap,hv,hl,h1,h2,h3,fun i hi=>?_⟩
  obtain ⟨c,_,hcc,hE⟩:=hc i hi
  have:=hcc 0 (by omega)
  rw [hE] at this
  simpa [bl,List.getD_eq_getElem?_getD,List.getElem?_eq_getElem hi] using this
 ·have:l=[]:=by
   cases l with
   | nil=>rfl
   | cons x r=>simp at hl
  subst this
  exact .inl ⟨a,cap,by simpa using hv,rfl⟩
theorem ret_ii {a b : Int} {p : Int × Int} (h : p = (a,b)) : Ending.returned (.tuple #[.int .i64 a,.int .i64 b]) = .returned (.tuple #[.int .i64 p.1,.int .i64 p.2]) := by rw [h]
theorem ret_si {a : ByteArray} {b : Int} {p : ByteArray × Int} (h : p = (a,b)) : Ending.returned (.tuple #[.string a,.int .i64 b]) = .returned (.tuple #[.string p.1,.int .i64 p.2]) := by rw [h]
theorem ret_ssi {a b : ByteArray} {c : Int} {p : ByteArray × ByteArray × Int} (h : p = (a,b,c)) : Ending.returned (.tuple #[.string a,.string b,.int .i64 c]) = .returned (.tuple #[.string p.1,.string p.2.1,.int .i64 p.2.2]) := by rw [h]
theorem ret_iii {a b c : Int} {p : Int × Int × Int} (h : p = (a,b,c)) : Ending.returned (.tuple #[.int .i64 a,.int .i64 b,.int .i64 c]) = .returned (.tuple #[.int .i64 p.1,.int .i64 p.2.1,.int .i64 p.2.2]) := by rw [h]
theorem ret_i {a b : Int} (h : b = a) : Ending.returned (.int .i64 a) = .returned (.int .i64 b) := by rw [h]
theorem ret_b {a b : Bool} (h : b = a) : Ending.returned (.bool a) = .returned (.bool b) := by rw [h]
theorem ret_s {a b : ByteArray} (h : b = a) : Ending.returned (.string a) = .returned (.string b) := by rw [h]
theorem ret_sb {a : ByteArray} {b : Bool} {p : ByteArray × Bool} (h : p = (a,b)) : Ending.returned (.tuple #[.string a,.bool b]) = .returned (.tuple #[.string p.1,.bool p.2]) := by rw [h]
theorem cellAt {W : World} {b k : Nat} {cs : Array Value} {t : TypeId} {fr : Nat × Nat} {v : Value} (h : W.heap[b]? = some (.cells cs t fr)) (hv : cs[k]? = some v) : W.cell? ⟨b,k,none⟩ = some v :=
 (cell_of_row W b k cs t fr h).trans hv
theorem cells11 {W : World} {b : Nat} {t : TypeId} {v0 v1 v2 v3 v4 v5 v6 v7 v8 v9 v10 : Value} (h : W.heap[b]? = some (.cells #[v0,v1,v2,v3,v4,v5,v6,v7,v8,v9,v10] t (0,0))) :
 W.cell? ⟨b,0,none⟩=some v0/\W.cell? ⟨b,1,none⟩=some v1/\W.cell? ⟨b,2,none⟩=some v2/\W.cell? ⟨b,3,none⟩=some v3/\W.cell? ⟨b,4,none⟩=some v4/\W.cell? ⟨b,5,none⟩=some v5/\W.cell? ⟨b,6,none⟩=some v6/\W.cell? ⟨b,7,none⟩=some v7/\W.cell? ⟨b,8,none⟩=some v8/\W.cell? ⟨b,9,none⟩=some v9/\W.cell? ⟨b,10,none⟩=some v10 :=
 ⟨cellAt h rfl,cellAt h rfl,cellAt h rfl,cellAt h rfl,cellAt h rfl,cellAt h rfl,cellAt h rfl,cellAt h rfl,cellAt h rfl,cellAt h rfl,cellAt h rfl⟩
theorem froz11 {W : World} {b : Nat} {t : TypeId} {cs : Array Value} (h : W.heap[b]? = some (.cells cs t (0,0))) :
 W.frozen? ⟨b,0,none⟩=false/\W.frozen? ⟨b,1,none⟩=false/\W.frozen? ⟨b,2,none⟩=false/\W.frozen? ⟨b,3,none⟩=false/\W.frozen? ⟨b,4,none⟩=false/\W.frozen? ⟨b,5,none⟩=false/\W.frozen? ⟨b,6,none⟩=false/\W.frozen? ⟨b,7,none⟩=false/\W.frozen? ⟨b,8,none⟩=false/\W.frozen? ⟨b,9,none⟩=false/\W.frozen? ⟨b,10,none⟩=false :=
 ⟨frozen_of_row W b 0 _ _ h,frozen_of_row W b 1 _ _ h,frozen_of_row W b 2 _ _ h,frozen_of_row W b 3 _ _ h,frozen_of_row W b 4 _ _ h,frozen_of_row W b 5 _ _ h,frozen_of_row W b 6 _ _ h,frozen_of_row W b 7 _ _ h,frozen_of_row W b 8 _ _ h,frozen_of_row W b 9 _ _ h,frozen_of_row W b 10 _ _ h⟩
structure Rec where
 key:ByteArray
 value:ByteArray
def RecC (N : Nat) (_ : World) (cs : List Value) (r : Rec) : Prop := cs = [.string r.key,.string r.value] ∧ r.key.size ≤ N ∧ r.value.size ≤ N
structure Meta where
 mode:Int
 uid:Int
 gid:Int
 user:ByteArray
 group:ByteArray
 second:Int
 nano:Int
def Meta.cells (m : Meta) : List Value := [.int .i64 m.mode,.int .i64 m.uid,.int .i64 m.gid,.string m.user,.string m.group,.int .i64 m.second,.int .i64 m.nano]
def i64 (n : Int) : Prop := -9223372036854775808 ≤ n ∧ n ≤ 9223372036854775807
structure Meta.Ok (N : Nat) (m : Meta) : Prop where
 mode:i64 m.mode
 uid:i64 m.uid
 gid:i64 m.gid
 user:m.user.size<=N
 group:m.group.size<=N
 second:i64 m.second
 nano:i64 m.nano
end Go.Creel
namespace Go.Proofs.YtaffgndickdbiaaGreatDoor
open Go.Creel Go.ChangeShapes
section
variable {H : Type} {enc : TypeId × Value → H} {W : World} {S : DataW H → Prop} {N : Nat}
theorem opens_Bytes (hS : Bd H S N) : Opens enc Tryz.prog W S 24 (SliceC N 1 ByteC) := opens_slice hS Tryz.underlying24 (by kernel_rfl) (by decide) (opens_byte Tryz.underlying5)
end
end Go.Proofs.YtaffgndickdbiaaGreatDoor
namespace Go.Creel
def hasB (s : ByteArray) (c : UInt8) : Bool := s.data.toList.any (· == c)
theorem get_byt (s : ByteArray) (k : Nat) (h : k < s.size) (c : UInt8) : (s.data.toList[k]'(by simpa using h) = c) ↔ byt s k = c.toNat := by
 unfold byt
 rw [List.getD_eq_getElem?_getD,List.getElem?_eq_getElem (by simpa using h)]
 constructor
 ·intro e;simp [e]
 ·intro e;exact UInt8.toNat_inj.1 e
theorem hasB_true {s : ByteArray} {c : UInt8} {k : Nat} (h : k < s.size) (e : byt s k = c.toNat) : hasB s c = true := by
 unfold hasB
 rw [List.any_eq_true]
 exact ⟨_,List.getElem_mem (by simpa using h),by rw [beq_iff_eq];exact (get_byt s k h c).2 e⟩
theorem hasB_false {s : ByteArray} {c : UInt8} (h : ∀ k,k < s.size → byt s k ≠ c.toNat) : hasB s c = false := by
 unfold hasB
 rw [List.any_eq_false]
 intro x hx
 obtain ⟨k,hk,rfl⟩:=List.getElem_of_mem hx
 have hk':k<s.size:=by simpa using hk
 rw [beq_iff_eq]
 exact fun e=>h k hk' ((get_byt s k hk' c).1 e)
theorem hasB_no {s : ByteArray} {c : UInt8} (h : hasB s c = false) (k : Nat) (hk : k < s.size) : byt s k ≠ c.toNat := by
 intro e
 rw [hasB_true hk e] at h
 cases h
theorem idx_has (s : ByteArray) (c : UInt8) : decide (0 ≤ firstIdx s c) = hasB s c := firstIdx_nonneg s c
theorem idx_none {s : ByteArray} {c : UInt8} (h : hasB s c = false) : firstIdx s c = -1 := by
 apply firstIdx_none
 unfold hasB at h
 rw [List.any_eq_false] at h
 intro b hb e
 exact h b hb (by simp [e])
theorem idx_ge {s : ByteArray} {c : UInt8} (h : hasB s c = true) : 0 ≤ firstIdx s c := by
 rw [<-idx_has] at h
 simpa using h
theorem idx_lt {s : ByteArray} {c : UInt8} : firstIdx s c < 0 ∨ ∃ i : Nat,firstIdx s c = i ∧ i < s.size ∧ byt s i = c.toNat ∧ ∀ j,j < i → byt s j ≠ c.toNat := by
 unfold firstIdx
 have key:∀ i,i<s.size->((s[i]! == c)=true↔byt s i=c.toNat):=by
  intro i hi
  rw [beq_iff_eq,getElem!_pos s i hi,<-byt_get s i hi]
  exact UInt8.toNat_inj.symm
 cases hf:(List.range s.size).find? fun i=>s[i]! == c with
 | none=>left;simp
 | some i =>
   right
   have h1:=List.find?_some hf
   have h2:=List.mem_range.1 (List.mem_of_find?_eq_some hf)
   refine ⟨i,rfl,h2,(key i h2).1 h1,fun j hj=>?_⟩
   have h3:=(List.find?_range_eq_some.1 hf).2.2 j hj
   intro e
   have:=(key j (by omega)).2 e
   simp [this] at h3
end Go.Creel
namespace Go.Proofs.YtaffgndickdbiaaGreatDoor
open Go.Creel Go.RowKit
theorem call_indexByteString (s : ByteArray) (n : Int) (w : World) : (callFunc 199 #[.string s,.int .u8 n]).run Tryz.prog w = .ok (.value (.int .i64 (firstIdx s n.toNat.toUInt8))) w := by
 rw [run_callFunc_extern (P:=Tryz.prog) Tryz.func199 (by kernel_rfl) (by kernel_rfl) (by kernel_rfl) (e:=Extern.BytealgIndexByte.indexByte) (by kernel_rfl),run_indexByte_string]
 rfl
set_option maxRecDepth 100000 in
theorem IndexByte_any (s : ByteArray) (n : Int) (w : World) :
 Calls Tryz.prog 84 #[.string s,.int .u8 n] w fun e w'=>e = .returned (.int .i64 (firstIdx s n.toNat.toUInt8))/\w=w':=by
 have hcall:=call_indexByteString s n w
 go_enter Tryz.func84,Tryz.ntmps84
 go_wp2
 go_ret
 exact ⟨rfl,rfl⟩
set_option maxRecDepth 100000 in
set_option maxHeartbeats 400000 in
theorem has_any (s : ByteArray) (c : UInt8) (n : Int) (hn : n = c.toNat) (w : World) (hs : s.size ≤ maxLen) :
 Calls Tryz.prog 105 #[.string s,.int .u8 n] w fun e w'=>e = .returned (.bool (hasB s c))/\w=w':=by
 unfold maxLen at hs
 have HN:=Lib.hid hn
 clear hn
 go_enter Tryz.func105,Tryz.ntmps105
 go_wp2
 go_loop [5] (fun i=>∃ k:Nat,k<=s.size/\i = .int .i64 k/\Hid (∀ j,j<k->byt s j≠c.toNat)) (fun i=>s.size-(intOf i).toNat)
 case atStart=>exact ⟨0,by omega,rfl,fun j hj=>absurd hj (by omega)⟩
 case round =>
  obtain ⟨k,hk,rfl,HD⟩:=hrel
  by_cases hlt:k<s.size
  ·have HB:=Lib.hid (byt_get s k hlt)
   have hb':s[k].toNat<256:=UInt8.toNat_lt _
   by_cases he:byt s k=c.toNat
   ·have HF:=Lib.hid (hasB_true hlt he)
    have hq:(((s[k].toNat:Nat):Int)==n)=true:=by rw [HN.out,HB.out,he];simp
    clear he
    go_wp2
    go_ret
    exact ⟨ret_b HF.out,rfl⟩
   ·have hq:(((s[k].toNat:Nat):Int)==n)=false:=by rw [HN.out,HB.out,beq_eq_false_iff_ne];omega
    have HE:=Lib.hid he
    clear he
    go_wp2
    go_round
    case rel =>
     refine ⟨k+1,by omega,by go_num,fun j hj=>?_⟩
     by_cases e:j=k
     ·rw [e];exact HE.out
     ·exact HD.out j (by omega)
    case measure=>simp [intOf];omega
  ·obtain rfl:k=s.size:=by omega
   have HF:=Lib.hid (hasB_false HD.out)
   go_wp2
   go_ret
   exact ⟨ret_b HF.out,rfl⟩
end Go.Proofs.YtaffgndickdbiaaGreatDoor
namespace Go.Creel
def timeFault (s n : Int) : Int := if s < -1099511627776 ∨ 1099511627776 < s ∨ n < 0 ∨ 999999999 < n then 4 else 0
def metaFault (m : Meta) : Int :=
 if m.mode<0\/4095<m.mode\/m.uid<0\/1125899906842624<m.uid\/m.gid<0\/1125899906842624<m.gid then 4
 else if 60<m.user.size\/60<m.group.size then 1
 else if hasB m.user 0=true\/hasB m.group 0=true then 3
 else timeFault m.second m.nano
theorem hasB_append (a b : ByteArray) (c : UInt8) : hasB (a ++ b) c = (hasB a c || hasB b c) := by
 unfold hasB
 have:(a++b).data.toList=a.data.toList++b.data.toList:=by simp
 rw [this,List.any_append]
abbrev Meta.val (m : Meta) : Value := .agg #[.int .i64 m.mode,.int .i64 m.uid,.int .i64 m.gid,.string m.user,.string m.group,.int .i64 m.second,.int .i64 m.nano]
theorem metaFault_range {m : Meta} (h : m.mode < 0 ∨ 4095 < m.mode ∨ m.uid < 0 ∨ 1125899906842624 < m.uid ∨ m.gid < 0 ∨ 1125899906842624 < m.gid) : metaFault m = 4 := by unfold metaFault; rw [if_pos h]
theorem metaFault_size {m : Meta} (h : ¬ (m.mode < 0 ∨ 4095 < m.mode ∨ m.uid < 0 ∨ 1125899906842624 < m.uid ∨ m.gid < 0 ∨ 1125899906842624 < m.gid)) (h2 : 60 < m.user.size ∨ 60 < m.group.size) : metaFault m = 1 := by
 unfold metaFault;rw [if_neg h,if_pos h2]
theorem metaFault_form {m : Meta} (h : ¬ (m.mode < 0 ∨ 4095 < m.mode ∨ m.uid < 0 ∨ 1125899906842624 < m.uid ∨ m.gid < 0 ∨ 1125899906842624 < m.gid)) (h2 : ¬ (60 < m.user.size ∨ 60 < m.group.size)) (h3 : hasB m.user 0 = true ∨ hasB m.group 0 = true) : metaFault m = 3 := by
 unfold metaFault;rw [if_neg h,if_neg h2,if_pos h3]
theorem metaFault_time {m : Meta} (h : ¬ (m.mode < 0 ∨ 4095 < m.mode ∨ m.uid < 0 ∨ 1125899906842624 < m.uid ∨ m.gid < 0 ∨ 1125899906842624 < m.gid)) (h2 : ¬ (60 < m.user.size ∨ 60 < m.group.size)) (h3 : ¬ (hasB m.user 0 = true ∨ hasB m.group 0 = true)) : metaFault m = timeFault m.second m.nano := by
 unfold metaFault;rw [if_neg h,if_neg h2,if_neg h3]
end Go.Creel
namespace Go.Proofs.YtaffgndickdbiaaGreatDoor
open Go.Creel Go.RowKit
set_option maxRecDepth 100000 in
theorem TimeFault_any (s n : Int) (w : World) :
 Calls Tryz.prog 156 #[.int .i64 s,.int .i64 n] w fun e w'=>e = .returned (.int .i64 (timeFault s n))/\w=w':=by
 have hF:(timeFault s n=4/\(s < -1099511627776\/1099511627776<s\/n<0\/999999999<n))\/(timeFault s n=0/\¬ (s < -1099511627776\/1099511627776<s\/n<0\/999999999<n)):=by
  unfold timeFault;split<;>simp_all
 have HF:=Lib.hid hF
 clear hF
 go_enter Tryz.func156,Tryz.ntmps156
 go_wp2
 all_goals (go_ret;exact ⟨ret_i (by have:=HF.out;omega),rfl⟩)
set_option maxRecDepth 100000 in
theorem StampCheck_any (s n : Int) (w : World) :
 Calls Tryz.prog 146 #[.int .i64 s,.int .i64 n] w fun e w'=>e = .returned (.int .i64 (timeFault s n))/\w=w':=by
 have hF:(timeFault s n=4/\(s < -1099511627776\/1099511627776<s\/n<0\/999999999<n))\/(timeFault s n=0/\¬ (s < -1099511627776\/1099511627776<s\/n<0\/999999999<n)):=by
  unfold timeFault;split<;>simp_all
 have HF:=Lib.hid hF
 clear hF
 go_enter Tryz.func146,Tryz.ntmps146
 go_wp2
 all_goals (go_ret;exact ⟨ret_i (by have:=HF.out;omega),rfl⟩)
set_option maxRecDepth 100000 in
set_option maxHeartbeats 2000000 in
theorem MetaCheck_any {N : Nat} (m : Meta) (w : World) (hm : m.Ok N) (hN : N ≤ maxLen) :
 Calls Tryz.prog 83 #[m.val] w fun e w'=>e = .returned (.int .i64 (metaFault m))/\Below w.heap.size w w':=by
 obtain ⟨mode,uid,gid,user,group,second,nano⟩:=m
 have hu:user.size<=maxLen:=Nat.le_trans hm.user hN
 have hg:group.size<=maxLen:=Nat.le_trans hm.group hN
 unfold maxLen at hu hg
 clear hm
 show Calls Tryz.prog 83 #[.agg #[.int .i64 mode,.int .i64 uid,.int .i64 gid,.string user,.string group,.int .i64 second,.int .i64 nano]] w _
 by_cases hR:mode<0\/4095<mode\/uid<0\/1125899906842624<uid\/gid<0\/1125899906842624<gid
 ·have HF:=Lib.hid (metaFault_range (m:=⟨mode,uid,gid,user,group,second,nano⟩) hR)
  rcases (show mode<0\/(0<=mode/\4095<mode)\/(0<=mode/\mode<=4095/\uid<0)\/(0<=mode/\mode<=4095/\0<=uid/\1125899906842624<uid)\/(0<=mode/\mode<=4095/\0<=uid/\uid<=1125899906842624/\gid<0)\/(0<=mode/\mode<=4095/\0<=uid/\uid<=1125899906842624/\0<=gid/\1125899906842624<gid) by omega) with h1|⟨h1,h2⟩|⟨h1,h2,h3⟩|⟨h1,h2,h3,h4⟩|⟨h1,h2,h3,h4,h5⟩|⟨h1,h2,h3,h4,h5,h6⟩
  all_goals
   clear hR
   go_enter Tryz.func83,Tryz.ntmps83
   go_wp2
   go_ret
   exact ⟨ret_i HF.out,(Below.refl _ _).alloc (Nat.le_refl _) _⟩
 ·have hr1:0<=mode:=by omega
  have hr2:mode<=4095:=by omega
  have hr3:0<=uid:=by omega
  have hr4:uid<=1125899906842624:=by omega
  have hr5:0<=gid:=by omega
  have hr6:gid<=1125899906842624:=by omega
  by_cases hZ:60<user.size\/60<group.size
  ·have HF:=Lib.hid (metaFault_size (m:=⟨mode,uid,gid,user,group,second,nano⟩) hR hZ)
   rcases (show 60<user.size\/(user.size<=60/\60<group.size) by omega) with h1|⟨h1,h2⟩
   all_goals
    clear hR hZ
    go_enter Tryz.func83,Tryz.ntmps83
    go_wp2
    go_ret
    exact ⟨ret_i HF.out,(Below.refl _ _).alloc (Nat.le_refl _) _⟩
  ·have hz1:user.size<=60:=by omega
   have hz2:group.size<=60:=by omega
   have hix:=idx_has (user++group) 0
   rw [hasB_append] at hix
   by_cases hB:hasB user 0=true\/hasB group 0=true
   ·have HF:=Lib.hid (metaFault_form (m:=⟨mode,uid,gid,user,group,second,nano⟩) hR hZ hB)
    have hi2:decide (0<=firstIdx (user++group) 0)=true:=by rw [hix];simpa using hB
    clear hR hZ hB hix
    go_enter Tryz.func83,Tryz.ntmps83
    go_wp2_with (go_at_call 84;refine (IndexByte_any _ _ _).mono ?_;rintro e w' ⟨rfl,rfl⟩)
    go_ret
    exact ⟨ret_i HF.out,(Below.refl _ _).alloc (Nat.le_refl _) _⟩
   ·have HF:=Lib.hid (metaFault_time (m:=⟨mode,uid,gid,user,group,second,nano⟩) hR hZ hB)
    have hi2:decide (0<=firstIdx (user++group) 0)=false:=by
     rw [hix]
     simp only [not_or,Bool.not_eq_true] at hB
     rw [hB.1,hB.2];rfl
    clear hR hZ hB hix
    go_enter Tryz.func83,Tryz.ntmps83
    go_wp2_with (first|(go_at_call 84;refine (IndexByte_any _ _ _).mono ?_;rintro e w' ⟨rfl,rfl⟩)|(go_at_call 146;refine (StampCheck_any _ _ _).mono ?_;rintro e w' ⟨rfl,rfl⟩))
    go_ret
    exact ⟨ret_i HF.out,(Below.refl _ _).alloc (Nat.le_refl _) _⟩
set_option maxRecDepth 100000 in
set_option maxHeartbeats 2000000 in
theorem MetaFault_any {N : Nat} (m : Meta) (w : World) (hm : m.Ok N) (hN : N ≤ maxLen) :
 Calls Tryz.prog 155 #[m.val] w fun e w'=>e = .returned (.int .i64 (metaFault m))/\Below w.heap.size w w':=by
 obtain ⟨mode,uid,gid,user,group,second,nano⟩:=m
 have hu':user.size<=maxLen:=Nat.le_trans hm.user hN
 have hg':group.size<=maxLen:=Nat.le_trans hm.group hN
 have hu:=hu'
 have hg:=hg'
 unfold maxLen at hu hg
 clear hm
 show Calls Tryz.prog 155 #[.agg #[.int .i64 mode,.int .i64 uid,.int .i64 gid,.string user,.string group,.int .i64 second,.int .i64 nano]] w _
 by_cases hR:mode<0\/4095<mode\/uid<0\/1125899906842624<uid\/gid<0\/1125899906842624<gid
 ·have HF:=Lib.hid (metaFault_range (m:=⟨mode,uid,gid,user,group,second,nano⟩) hR)
  rcases (show mode<0\/(0<=mode/\4095<mode)\/(0<=mode/\mode<=4095/\uid<0)\/(0<=mode/\mode<=4095/\0<=uid/\1125899906842624<uid)\/(0<=mode/\mode<=4095/\0<=uid/\uid<=1125899906842624/\gid<0)\/(0<=mode/\mode<=4095/\0<=uid/\uid<=1125899906842624/\0<=gid/\1125899906842624<gid) by omega) with h1|⟨h1,h2⟩|⟨h1,h2,h3⟩|⟨h1,h2,h3,h4⟩|⟨h1,h2,h3,h4,h5⟩|⟨h1,h2,h3,h4,h5,h6⟩
  all_goals
   clear hR
   go_enter Tryz.func155,Tryz.ntmps155
   go_wp2
   go_ret
   exact ⟨ret_i HF.out,(Below.refl _ _).alloc (Nat.le_refl _) _⟩
 ·have hr1:0<=mode:=by omega
  have hr2:mode<=4095:=by omega
  have hr3:0<=uid:=by omega
  have hr4:uid<=1125899906842624:=by omega
  have hr5:0<=gid:=by omega
  have hr6:gid<=1125899906842624:=by omega
  by_cases hZ:60<user.size\/60<group.size
  ·have HF:=Lib.hid (metaFault_size (m:=⟨mode,uid,gid,user,group,second,nano⟩) hR hZ)
   rcases (show 60<user.size\/(user.size<=60/\60<group.size) by omega) with h1|⟨h1,h2⟩
   all_goals
    clear hR hZ
    go_enter Tryz.func155,Tryz.ntmps155
    go_wp2
    go_ret
    exact ⟨ret_i HF.out,(Below.refl _ _).alloc (Nat.le_refl _) _⟩
  ·have hz1:user.size<=60:=by omega
   have hz2:group.size<=60:=by omega
   by_cases hB:hasB user 0=true\/hasB group 0=true
   ·have HF:=Lib.hid (metaFault_form (m:=⟨mode,uid,gid,user,group,second,nano⟩) hR hZ hB)
    cases hU:hasB user 0 with
    | true =>
      clear hR hZ hB
      go_enter Tryz.func155,Tryz.ntmps155
      go_wp2_with (go_at_call 105;refine (has_any _ 0 0 rfl _ hu').mono ?_;rintro e w' ⟨rfl,rfl⟩)
      go_ret
      exact ⟨ret_i HF.out,(Below.refl _ _).alloc (Nat.le_refl _) _⟩
    | false =>
      have hG:hasB group 0=true:=by simpa [hU] using hB
      clear hR hZ hB
      go_enter Tryz.func155,Tryz.ntmps155
      go_wp2_with fail
      refine (has_any _ 0 0 rfl _ hu').mono ?_
      rintro e w' ⟨rfl,rfl⟩
      go_wp2_with fail
      refine (has_any _ 0 0 rfl _ hg').mono ?_
      rintro e w' ⟨rfl,rfl⟩
      go_wp2
      go_ret
      exact ⟨ret_i HF.out,(Below.refl _ _).alloc (Nat.le_refl _) _⟩
   ·have HF:=Lib.hid (metaFault_time (m:=⟨mode,uid,gid,user,group,second,nano⟩) hR hZ hB)
    have hU:hasB user 0=false:=by simp only [not_or,Bool.not_eq_true] at hB;exact hB.1
    have hG:hasB group 0=false:=by simp only [not_or,Bool.not_eq_true] at hB;exact hB.2
    clear hR hZ hB
    go_enter Tryz.func155,Tryz.ntmps155
    go_wp2_with fail
    refine (has_any _ 0 0 rfl _ hu').mono ?_
    rintro e w' ⟨rfl,rfl⟩
    go_wp2_with fail
    refine (has_any _ 0 0 rfl _ hg').mono ?_
    rintro e w' ⟨rfl,rfl⟩
    go_wp2_with fail
    refine (TimeFault_any _ _ _).mono ?_
    rintro e w' ⟨rfl,rfl⟩
    go_wp2
    go_ret
    exact ⟨ret_i HF.out,(Below.refl _ _).alloc (Nat.le_refl _) _⟩
end Go.Proofs.YtaffgndickdbiaaGreatDoor
namespace Go.Creel
open Go.RowKit
def dig9 (N i : Nat) : UInt8 := UInt8.ofNat (48 + N / 10 ^ (8 - i) % 10)
def digs9 (N k : Nat) : List UInt8 := (List.range k).map (dig9 N)
theorem digs9_len (N k : Nat) : (digs9 N k).length = k := by simp [digs9]
theorem digs9_succ (N k : Nat) : digs9 N (k + 1) = digs9 N k ++ [dig9 N k] := by simp [digs9,List.range_succ]
theorem digs9_at (N : Nat) {k j : Nat} (h : j < k) : (digs9 N k)[j]? = some (dig9 N j) := by simp [digs9,h]
theorem nDigits_le : ∀ (k u : Nat),u < 10 ^ (k + 1) → Lib.nDigits u ≤ k + 1
 | 0,u,h=>by rw [Lib.nDigits_small (by simpa using h)];omega
 | k+1,u,h=>by
   by_cases h1:u<10
   ·rw [Lib.nDigits_small h1];omega
   ·rw [Lib.nDigits_big h1]
    have:=nDigits_le k (u / 10) (by rw [Nat.pow_succ] at h;omega)
    omega
theorem dig_is (x : Nat) (h : x < 10) : (UInt8.ofNat (48 + x)).toNat = 48 + x := by simp; omega
theorem dig9_toNat (N i : Nat) : (dig9 N i).toNat = 48 + N / 10 ^ (8 - i) % 10 := dig_is _ (Nat.mod_lt _ (by decide))
theorem pad9 {N : Nat} (h : N < 10 ^ 9) : List.replicate (9 - (Lib.decDigits N).length) 48 ++ Lib.decDigits N = digs9 N 9 := by
 have hd:=nDigits_le 8 N h
 have hl:=Lib.lt_pow_nDigits N
 rw [Lib.decDigits_length]
 apply List.ext_getElem
 ·simp [digs9_len,Lib.decDigits_length];omega
 ·intro i h1 h2
  have hi:i<9:=by rw [digs9_len] at h2;exact h2
  have eR:(digs9 N 9)[i]'h2=dig9 N i:=by simp [digs9]
  refine Eq.trans ?_ eR.symm
  by_cases hlt:i<9-Lib.nDigits N
  ·rw [List.getElem_append_left (by simpa using hlt),List.getElem_replicate]
   have:N / 10 ^ (8-i)=0:=Nat.div_eq_of_lt (Nat.lt_of_lt_of_le hl (Nat.pow_le_pow_right (by decide) (by omega)))
   unfold dig9
   rw [this]
   rfl
  ·rw [List.getElem_append_right (by simpa using Nat.le_of_not_lt hlt)]
   simp only [List.length_replicate]
   have e:Lib.decDigits N=(List.range (Lib.nDigits N)).map fun t=>Lib.dg N (Lib.nDigits N-1-t):=Lib.decDigits_eq N
   simp only [e,List.getElem_map,List.getElem_range]
   have:Lib.nDigits N-1-(i-(9-Lib.nDigits N))=8-i:=by omega
   rw [this]
   rfl
theorem trim9 {N k : Nat} (hk : k ≤ 9) (h0 : N % 10 ^ (9 - k) = 0) (h1 : k = 0 ∨ N % 10 ^ (10 - k) ≠ 0) : Lib.trimRightB (digs9 N 9) 48 = digs9 N k := by
 have e:digs9 N k=(digs9 N 9).take k:=by
  apply List.ext_getElem?
  intro i
  rw [List.getElem?_take]
  by_cases hi:i<k
  ·rw [if_pos hi,digs9_at N hi,digs9_at N (by omega)]
  ·rw [if_neg hi,List.getElem?_eq_none (by rw [digs9_len];omega)]
 rw [e]
 apply Lib.trimRightB_take
 ·rw [digs9_len];exact hk
 ·intro j b hj hb
  by_cases hj9:j<9
  ·rw [digs9_at N hj9] at hb
   cases hb
   have hdv:10 ^ (9-k) ∣ N:=Nat.dvd_of_mod_eq_zero h0
   obtain ⟨q,rfl⟩:=hdv
   have e1:9-k=(8-j)+((j-k)+1):=by omega
   have:10 ^ (9-k)*q / 10 ^ (8-j) % 10=0:=by
    rw [e1,Nat.pow_add,Nat.mul_assoc,Nat.mul_div_cancel_left _ (Nat.pos_of_ne_zero (by simp)),Nat.pow_succ,Nat.mul_comm (10 ^ (j-k)) 10,Nat.mul_assoc,Nat.mul_mod_right]
   unfold dig9
   rw [this]
   rfl
  ·rw [List.getElem?_eq_none (by rw [digs9_len];omega)] at hb
   cases hb
 ·intro b hpos hb
  rw [digs9_at N (by omega)] at hb
  cases hb
  intro e2
  have e3:=dig9_toNat N (k-1)
  rw [e2] at e3
  have e4:8-(k-1)=9-k:=by omega
  rw [e4] at e3
  have e5:N / 10 ^ (9-k) % 10=0:=by
   have:(48:UInt8).toNat=48:=rfl
   omega
  rcases h1 with h1|h1
  ·omega
  ·apply h1
   have e6:10-k=(9-k)+1:=by omega
   rw [e6,Nat.pow_succ,Nat.mod_mul,h0,e5]
   rfl
theorem unit_digit (N k : Nat) (hk : k < 9) : N % 10 ^ (9 - k) / 10 ^ (8 - k) = N / 10 ^ (8 - k) % 10 := by
 have:9-k=(8-k)+1:=by omega
 rw [this,Nat.pow_succ,Nat.mod_mul_right_div_self]
theorem unit_rest (N k : Nat) (hk : k < 9) : N % 10 ^ (9 - k) % 10 ^ (8 - k) = N % 10 ^ (9 - (k + 1)) := by
 have h1:9-k=(8-k)+1:=by omega
 have h2:9-(k+1)=8-k:=by omega
 rw [h2]
 exact Nat.mod_mod_of_dvd N (by rw [h1,Nat.pow_succ];exact Nat.dvd_mul_right _ _)
def timeS (s n : Int) : Int := if s < 0 then (if 0 < n then -s - 1 else -s) else s
def timeN (s n : Int) : Int := if s < 0 ∧ 0 < n then 1000000000 - n else n
def timeSign (s : Int) : ByteArray := if s < 0 then ofL [45] else ByteArray.empty
def timeHead (s n : Int) : ByteArray := timeSign s ++ ofL (Lib.itoa (timeS s n))
def timeText (s n : Int) : ByteArray × Int :=
 if ¬ timeFault s n=0 then (ByteArray.empty,timeFault s n)
 else if timeN s n=0 then (timeHead s n,0) else (timeHead s n++ofL [46]++ofL (Lib.trimRightB (digs9 (timeN s n).toNat 9) 48),0)
theorem timeFault_ok {s n : Int} (h : timeFault s n = 0) : -1099511627776 ≤ s ∧ s ≤ 1099511627776 ∧ 0 ≤ n ∧ n ≤ 999999999 := by
 unfold timeFault at h
 split at h
 ·cases h
 ·omega
theorem itoa_len13 {n : Int} (h0 : 0 ≤ n) (h1 : n ≤ 1099511627776) : (Lib.itoa n).length ≤ 13 := by
 unfold Lib.itoa
 rw [if_neg (by omega),Lib.decDigits_length]
 exact nDigits_le 12 _ (by have:(10:Nat) ^ 13=10000000000000:=by decide
                           omega)
end Go.Creel
