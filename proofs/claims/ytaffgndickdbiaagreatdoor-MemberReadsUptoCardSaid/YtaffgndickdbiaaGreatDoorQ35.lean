/-
  Texts: ErrLaid, SameEnts, MaxOk, Laid, Bulk.
-/
import Derived.LaidLaws
import Derived.Test.YtaffgndickdbiaaGreatDoorQ22
import Derived.Shaped
import Derived.Test.YtaffgndickdbiaaGreatDoorRows
import Derived.Deep.DeepHandedRow
set_option linter.unusedVariables false
set_option linter.unusedSimpArgs false
set_option linter.unusedSectionVars false
namespace Go.Creel
open Go.RowKit
theorem errAt_laid {P : Program} {W : World} {name tn : String} {dd : DataW Unit} {g : Nat} {t : TypeId} {ms : Array (String × TypeId)}
 (hg:P.globalNamed name=some g) (hty:(P.globals[g]?).map (·.type)=some t) (ht:P.underlying t=some (.interface ms)) :
 ∀ (laid:List (String×DataW Unit)) (ps:List MemPlace) (i:Nat),DataW.LaidVars P W laid ps->laid[i]?=some (name,.iface tn dd)->ErrAt W g
 | [],_,i,_,hi=>by simp at hi
 | (n',d)::r,ps,0,h,hi=>by
   obtain ⟨g',t',cs,fuel,p,q,hg',ht',hvar,hd,_,_⟩:=h
   simp only [List.getElem?_cons_zero,Option.some.injEq,Prod.mk.injEq] at hi
   obtain ⟨rfl,rfl⟩:=hi
   obtain rfl:=Option.some.inj (hg.symm.trans hg')
   obtain rfl:=Option.some.inj (hty.symm.trans ht')
   obtain ⟨_,u,v,hcs,_,_⟩:=iface_of_trod ht hd
   have h0:=World.var?_cell hg hvar 0
   have h1:cs[0]?=some (.iface u v):=by rw [<-Array.getElem?_toList,hcs];rfl
   exact ⟨_,h0.trans h1,.inr ⟨_,_,rfl⟩⟩
 | (n',d)::r,ps,i+1,h,hi=>by
   obtain ⟨g',t',cs,fuel,p,q,hg',ht',hvar,hd,hr,_⟩:=h
   exact errAt_laid hg hty ht r q i hr (by simpa using hi)
theorem bytes_wide {w : World} {v : Value} {l : List UInt8} (h : SliceC 1048576 1 ByteC w [v] l) : SliceC maxLen 1 ByteC w [v] l ∧ l.length ≤ 1048576 := by
 obtain ⟨a,cap,hv,h1,h2,h3,h4,h5⟩:=h
 exact ⟨⟨a,cap,hv,h1,h2,Nat.le_trans h3 (by unfold maxLen;decide),h4,h5⟩,h3⟩
theorem bareE_parts {x y : Ent} (h : x.bare = y.bare) : x.path = y.path ∧ x.kind = y.kind ∧ x.target = y.target ∧ x.mt = y.mt ∧ x.data = y.data := by
 unfold Ent.bare at h
 simp only [Ent.mk.injEq,and_true,true_and] at h
 exact h
theorem bareE_nk {l m : List Ent} (h : l.map Ent.bare = m.map Ent.bare) {k : Nat} (hk : k < l.length) : (ek l k).bare = (ek m k).bare := by
 have hl:l.length=m.length:=by simpa using congrArg List.length h
 have h2:(l.map Ent.bare)[k]?=(m.map Ent.bare)[k]?:=by rw [h]
 rw [List.getElem?_map,List.getElem?_map,List.getElem?_eq_getElem hk,List.getElem?_eq_getElem (by omega)] at h2
 rw [ek_eq hk,ek_eq (by omega)]
 simpa using h2
theorem bareE_len {l m : List Ent} (h : l.map Ent.bare = m.map Ent.bare) : l.length = m.length := by simpa using congrArg List.length h
end Go.Creel
namespace Go.Proofs.YtaffgndickdbiaaGreatDoor
open Go.Creel Go.RowKit
abbrev boxE (x : Ent) : Obj := .cells #[.string x.path,.int .i64 x.kind,.string x.target,.int .i64 x.mt.mode,.int .i64 x.mt.uid,.int .i64 x.mt.gid,.string x.mt.user,.string x.mt.group,.int .i64 x.mt.second,.int .i64 x.mt.nano,.slice x.da x.data.length x.dcap] 26
set_option maxRecDepth 100000 in
set_option maxHeartbeats 1000000 in
theorem SameEnt_eq (x y : Ent) (w : World) (hxy : x.bare = y.bare) (hx : x.Ok maxLen w) (hy : y.Ok maxLen w) :
 Calls Tryz.prog 21 #[x.val,y.val] w fun e w'=>e = .returned (.bool true)/\Below w.heap.size w w':=by
 obtain ⟨p,k,t,m,da,dc,d⟩:=x
 obtain ⟨p',k',t',m',da',dc',d'⟩:=y
 obtain ⟨h1,h2,h3,h4,h5⟩:=bareE_parts hxy
 simp only at h1 h2 h3 h4 h5
 subst h1 h2 h3 h4 h5
 have HB:=Lib.hid fun o1 o2:Obj=>((Below.refl w.heap.size w).alloc (Nat.le_refl _) o1).alloc (by simp) o2
 have HS:=Lib.hid (fun o1 o2:Obj=>sameBytes_eq (N:=maxLen) (M:=maxLen) (.slice da d.length dc) (.slice da' d.length dc') d ((w.alloc o1).alloc o2) (hx.data.below (fun _ _ h=>h) (HB.out o1 o2)) (hy.data.below (fun _ _ h=>h) (HB.out o1 o2)))
 obtain ⟨mo,ui,gi,us,gr,se,na⟩:=m
 have q1:(p.toList==p.toList)=true:=by simp
 have q2:(k==k)=true:=by simp
 have q4:(t.toList==t.toList)=true:=by simp
 have q5:(mo==mo)=true:=by simp
 have q6:(ui==ui)=true:=by simp
 have q7:(gi==gi)=true:=by simp
 have q8:(us.toList==us.toList)=true:=by simp
 have q9:(gr.toList==gr.toList)=true:=by simp
 have q10:(se==se)=true:=by simp
 have q11:(na==na)=true:=by simp
 clear hx hy hxy
 go_enter Tryz.func21,Tryz.ntmps21
 go_wp2_with fail
 refine (HS.out _ _).mono ?_
 rintro e w1 ⟨rfl,rfl⟩
 go_wp2
 go_ret
 exact ⟨rfl,HB.out _ _⟩
set_option maxRecDepth 100000 in
set_option maxHeartbeats 1000000 in
theorem EqualEnts_at (b off cap b2 off2 cap2 : Nat) (l m : List Ent) (w : World) (hpos : 0 < l.length) (hlm : l.map Ent.bare = m.map Ent.bare) (hle : l.length ≤ cap) (hm : cap ≤ maxLen) (hle2 : m.length ≤ cap2) (hm2 : cap2 ≤ maxLen) (hc : EntsAt w b off l) (hc2 : EntsAt w b2 off2 m)
 (hk:∀ i,i<l.length->(ek l i).Ok maxLen w) (hk2:∀ i,i<m.length->(ek m i).Ok maxLen w) :
 Calls Tryz.prog 61 #[.slice (some ⟨b,off,none⟩) l.length cap,.slice (some ⟨b2,off2,none⟩) m.length cap2,.func (.func 21) #[] #[]] w fun e w'=>e = .returned (.bool true)/\Below w.heap.size w w':=by
 have hl:=bareE_len hlm
 unfold maxLen at hm hm2
 have HC:=Lib.hid hc
 have HC2:=Lib.hid (fun i (hi:i<l.length)=>hc2 i (by omega))
 have HK:=Lib.hid hk
 have HK2:=Lib.hid (fun i (hi:i<l.length)=>hk2 i (by omega))
 have HLM:=Lib.hid (fun k (hk:k<l.length)=>bareE_nk hlm hk)
 clear hc hc2 hk hk2 hlm
 rw [<-hl] at hle2 ⊢
 clear hl
 generalize hn:l.length=n at *
 go_enter Tryz.func61,Tryz.ntmps61
 go_wp2
 go_loopw [7,8,9,17] (fun _ _ _ i wr=>∃ k:Nat,k<=n/\i = .int .i64 k/\Hid (Below w.heap.size w wr)) (fun _ _ _ i _=>n-(intOf i).toNat)
 case atStart=>exact ⟨0,by omega,rfl,Lib.hid (Below.refl _ _)⟩
 case round =>
  obtain ⟨k,hk,rfl,HB⟩:=hrel
  by_cases hlt:k<n
  ·obtain ⟨h0,h1,h2,h3,h4,h5,h6,h7,h8,h9,h10⟩:=(HC.out.below HB.out) k (by omega)
   obtain ⟨g0,g1,g2,g3,g4,g5,g6,g7,g8,g9,g10⟩:=((HC2.out k hlt).below HB.out).below ((Below.refl wr.heap.size wr).alloc (Nat.le_refl _) (boxE (ek l k)))
   have HS:=Lib.hid (fun (w3:World) (hb:Below wr.heap.size wr w3)=>SameEnt_eq (ek l k) (ek m k) w3 (HLM.out k hlt) (((HK.out k hlt).below HB.out).below hb) (((HK2.out k hlt).below HB.out).below hb))
   generalize ek l k=x at *
   generalize ek m k=y at *
   go_wp2_with (go_at_call 21;have hbb:=((Below.refl wr.heap.size wr).alloc (Nat.le_refl _) (boxE x)).alloc (by simp) (boxE y);refine (HS.out _ hbb).mono ?_;rintro e w' ⟨rfl,hb2⟩;have HB2:=Lib.hid (HB.out.trans ((hbb.trans (hb2.mono hbb.size)).mono HB.out.size));clear hb2 hbb)
   go_roundw
   case rel=>exact ⟨k+1,by omega,by go_num,HB2⟩
   case measure=>simp [intOf];omega
  ·obtain rfl:k=n:=by omega
   go_wp2
   go_ret
   exact ⟨rfl,HB.out⟩
set_option maxRecDepth 100000 in
theorem EqualEnts_nil (a a2 : Option Addr) (cap cap2 : Nat) (f : Value) (w : World) :
 Calls Tryz.prog 61 #[.slice a 0 cap,.slice a2 0 cap2,f] w fun e w'=>e = .returned (.bool true)/\w=w':=by
 go_enter Tryz.func61,Tryz.ntmps61
 go_wp2
 go_loop [7,8,9,17] (fun _ _ _ i=>i = .int .i64 0) (fun _ _ _ i=>0)
 case atStart=>rfl
 case round =>
  obtain rfl:=hrel
  go_wp2
  go_ret
  exact ⟨rfl,rfl⟩
set_option maxRecDepth 100000 in
theorem SameEnts_eq (v u : Value) (l m : List Ent) (w : World) (hlm : l.map Ent.bare = m.map Ent.bare) (hv : SliceC maxLen 11 (EntC maxLen) w [v] l) (hu : SliceC maxLen 11 (EntC maxLen) w [u] m) :
 Calls Tryz.prog 24 #[v,u] w fun e w'=>e = .returned (.bool true)/\Below w.heap.size w w':=by
 have hl:=bareE_len hlm
 have HQ:Hid (Calls Tryz.prog 61 #[v,u,.func (.func 21) #[] #[]] w fun e w'=>e = .returned (.bool true)/\Below w.heap.size w w'):=Lib.hid (by
  rcases ents_cases hv with ⟨a,cap,rfl,rfl,_⟩|⟨b,off,cap,rfl,h1,h2,h3,h6,h4,h5⟩
  ·rcases ents_cases hu with ⟨a2,cap2,rfl,rfl,_⟩|⟨b,off,cap,rfl,h1,h2,h3,h6,h4,h5⟩
   ·refine (EqualEnts_nil a a2 cap cap2 _ w).mono ?_
    rintro e w' ⟨rfl,rfl⟩
    exact ⟨rfl,Below.refl _ _⟩
   ·simp at hl;omega
  ·rcases ents_cases hu with ⟨a2,cap2,rfl,rfl,_⟩|⟨b2,off2,cap2,rfl,g1,g2,g3,g6,g4,g5⟩
   ·simp at hl;simp [hl] at h1
   ·exact EqualEnts_at b off cap b2 off2 cap2 l m w h1 hlm h2 h3 g2 g3 h4 g4 h5 g5)
 clear hv hu hlm
 go_enter Tryz.func24,Tryz.ntmps24
 go_wp2_with fail
 refine HQ.out.mono ?_
 rintro e w1 ⟨rfl,hb⟩
 have HB:=Lib.hid hb
 clear hb
 go_wp2
 go_ret
 exact ⟨rfl,HB.out⟩
open Go.Creel Go.RowKit
theorem maxOk_of (w : World) (h : w.ShapedOpen Tryz.prog) : MaxOk w := by
 have hc:∃ m,w.cell? ⟨2,0,none⟩=some (.int .i64 m) :=
  Go.Proofs.cell_of_shapedOpen_int (zero := #[.int .i64 0]) (t:=3) h (of_decide_eq_true (by kernel_rfl)) (by kernel_rfl) rfl (by kernel_rfl) (by kernel_rfl) Tryz.underlying3
 refine ⟨?_,hc⟩
 obtain ⟨m,hm⟩:=hc
 rcases Nat.lt_or_ge 2 w.heap.size with h0|h0
 ·exact h0
 ·unfold World.cell? at hm
  rw [Array.getElem?_eq_none (by simpa using h0)] at hm
  simp at hm
end Go.Proofs.YtaffgndickdbiaaGreatDoor
namespace Go.Creel
def dcells : Nat → DataW Unit → List Value
 | 0,_=>[]
 | _+1,.lit (.int k n)=>[.int k n]
 | m+1,.agg ps=>ps.flatMap (dcells m)
 | _+1,_=>[]
def layAll (w : World) (l : List (Nat × DataW Unit)) : World :=
 { w with heap:=l.foldl (fun h x=>h.modify x.1 fun
   | .cells _ t fr => .cells (dcells 4 x.2).toArray t fr
   | o=>o) w.heap }
def layErr (w : World) (x : Nat × TypeId × TypeId × List UInt8) : World :=
 { w with heap:=(w.heap.push (.cells #[.string ⟨x.2.2.2.toArray⟩] x.2.2.1 (0,0))).modify x.1 fun
   | .cells _ t fr => .cells #[.iface x.2.1 (.pointer (some ⟨w.heap.size,0,none⟩))] t fr
   | o=>o }
end Go.Creel
namespace Go.Proofs.YtaffgndickdbiaaGreatDoor
open Go.Creel
def bulkS (H : Type) (d : DataW H) : Prop := Rows.uptoBulk d ≤ 1048576
theorem bulk_one {H : Type} (d : DataW H) : 1 ≤ Rows.uptoBulk d := by
 cases d with
 | lit l=>cases l<;>simp [Rows.uptoBulk]
 | nil=>simp [Rows.uptoBulk]
 | ptr d=>simp [Rows.uptoBulk]
 | slice elems spare=>simp [Rows.uptoBulk]
 | agg parts=>simp [Rows.uptoBulk]
 | iface t d=>simp [Rows.uptoBulk]
 | map entries=>simp [Rows.uptoBulk]
 | held h=>simp [Rows.uptoBulk]
theorem bulk_part {H : Type} {d : DataW H} {l : List (DataW H)} (h : d ∈ l) : Rows.uptoBulk d ≤ Rows.uptoBulkAll l := by
 induction l with
 | nil=>cases h
 | cons x r ih =>
   simp only [Rows.uptoBulkAll]
   cases List.mem_cons.1 h with
   | inl e=>subst e;omega
   | inr e=>have:=ih e;omega
theorem bulk_length {H : Type} (l : List (DataW H)) : l.length ≤ Rows.uptoBulkAll l := by
 induction l with
 | nil=>simp [Rows.uptoBulkAll]
 | cons x r ih=>have:=bulk_one x;simp only [Rows.uptoBulkAll,List.length_cons];omega
theorem bulk_bd (H : Type) : Bd H (bulkS H) 1048576 where
 str l h _:=by
  simp only [bulkS,Rows.uptoBulk] at h
  omega
 slc el sp h _:=by
  simp only [bulkS,Rows.uptoBulk] at h
  have:=bulk_length el
  exact ⟨by omega,fun d hd=>by have:=bulk_part hd;unfold bulkS;omega⟩
 agg ps h d hd:=by
  simp only [bulkS,Rows.uptoBulk] at h
  have:=bulk_part hd
  unfold bulkS;omega
theorem bulk_mem {H : Type} {ds : List (DataW H)} {d : DataW H} (hk : Rows.uptoSmall H ds = true) (h : d ∈ ds) : bulkS H d := by
 have h1:Rows.uptoBulkAll ds<=1048576:=of_decide_eq_true hk
 have:=bulk_part h
 unfold bulkS;omega
end Go.Proofs.YtaffgndickdbiaaGreatDoor
