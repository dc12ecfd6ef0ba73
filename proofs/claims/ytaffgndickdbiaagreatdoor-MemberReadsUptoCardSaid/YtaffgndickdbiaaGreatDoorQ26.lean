/-
  Texts: MemOSpec, EntSt, FieldOf, HeadRefC.
-/
import Derived.Test.YtaffgndickdbiaaGreatDoorQ15
import Derived.Test.YtaffgndickdbiaaGreatDoorQ22
set_option linter.unusedVariables false
set_option linter.unusedSimpArgs false
set_option linter.unusedSectionVars false
namespace Go.Creel
open Go.RowKit
def textF (o : Option ByteArray) (s : ByteArray) : ByteArray := o.getD s
noncomputable def numF (o : Option ByteArray) (n : Int) : Int := match o with
 | some v=>atoiV v
 | none=>n
noncomputable def timeF (o : Option ByteArray) (t : Int) : Int × Int := match o with
 | some v=>((timeAns v.data.toList (rawP v.data.toList)).1,(timeAns v.data.toList (rawP v.data.toList)).2.1)
 | none=>(t,0)
noncomputable def entSay (h : HeadN) (da : Option Addr) (dcap : Nat) (d : List UInt8) (f : ByteArray → Option ByteArray) : Ent :=
 ⟨textF (f kPath) (cutOne h.px h.nm).1,kindOfT h.typ,textF (f kLink) h.lk,⟨h.mode,numF (f kUid) h.uid,numF (f kGid) h.gid,textF (f kUname) h.user,textF (f kGname) h.group,(timeF (f kMtime) h.time).1,(timeF (f kMtime) h.time).2⟩,da,dcap,d⟩
def sayR (l : List Rec) (key : ByteArray) : Option ByteArray := if (recFind l key).2 = true then some (recFind l key).1 else none
theorem text_say (l : List Rec) (key s : ByteArray) : textOf l key s = textF (sayR l key) s := by
 unfold textOf textF sayR
 split<;>rfl
theorem num_say (l : List Rec) (key : ByteArray) (n : Int) : numOf l key n = numF (sayR l key) n := by
 unfold numOf numF sayR
 split<;>rfl
theorem time_say (l : List Rec) (t : Int) : timeR l t = timeF (sayR l kMtime) t := by
 unfold timeR timeF sayR
 split<;>rfl
theorem unpack_say (h : HeadN) (l : List Rec) (da : Option Addr) (dcap : Nat) (d : List UInt8) : unpackOf h l da dcap d = entSay h da dcap d (sayR l) := by
 unfold unpackOf entSay
 simp only [text_say,num_say,time_say]
def putsR (l : List Rec) : List (ByteArray × Value) := l.foldl (fun m r => assocPut r.key (.string r.value) m) []
theorem puts_take {l : List Rec} {k : Nat} (h : k < l.length) : putsR (l.take (k + 1)) = assocPut (rk l k).key (.string (rk l k).value) (putsR (l.take k)) := by
 rw [rk_take h]
 simp [putsR,List.foldl_append]
theorem puts_go : ∀ (l : List Rec) (m : List (ByteArray × Value)),(m.map (·.1)).Nodup → ((l.foldl (fun m r => assocPut r.key (.string r.value) m) m).map (·.1)).Nodup ∧
 ∀ p∈l.foldl (fun m r=>assocPut r.key (.string r.value) m) m,p∈m\/∃ r∈l,p=(r.key,.string r.value)
 | [],m,h=>⟨h,fun p hp => .inl hp⟩
 | r::t,m,h=>by
   obtain ⟨h1,h2⟩:=puts_go t (assocPut r.key (.string r.value) m) (keys_put _ _ m h).1
   refine ⟨h1,fun p hp=>?_⟩
   rcases h2 p hp with e|⟨q,hq,e⟩
   ·have hput:∀ (m:List (ByteArray×Value)),p∈assocPut r.key (.string r.value) m->p∈m\/p=(r.key,.string r.value):=by
     intro m
     induction m with
     | nil=>intro h;simp [assocPut] at h;exact .inr h
     | cons a s ih =>
       intro h
       unfold assocPut at h
       split at h
       ·rcases List.mem_cons.1 h with h|h
        ·exact .inr h
        ·exact .inl (List.mem_cons.2 (.inr h))
       ·rcases List.mem_cons.1 h with h|h
        ·exact .inl (List.mem_cons.2 (.inl h))
        ·rcases ih h with h|h
         ·exact .inl (List.mem_cons.2 (.inr h))
         ·exact .inr h
    rcases hput m e with e|e
    ·exact .inl e
    ·exact .inr ⟨r,by simp,e⟩
   ·exact .inr ⟨q,by simp [hq],e⟩
theorem puts_keys (l : List Rec) : ((putsR l).map (·.1)).Nodup := (puts_go l [] List.nodup_nil).1
theorem puts_mem {l : List Rec} {p : ByteArray × Value} (h : p ∈ putsR l) : ∃ r ∈ l,p = (r.key,.string r.value) := by
 rcases (puts_go l [] List.nodup_nil).2 p h with e|e
 ·simp at e
 ·exact e
theorem recFind_none {key : ByteArray} : ∀ {l : List Rec},(∀ r ∈ l,r.key ≠ key) → (recFind l key).2 = false
 | [],_=>rfl
 | r::t,h=>by
   unfold recFind
   rw [if_neg (h r (by simp))]
   exact recFind_none (fun x hx=>h x (by simp [hx]))
theorem assoc_puts_go (key : ByteArray) : ∀ (l : List Rec) (m : List (ByteArray × Value)),(l.map (·.key)).Nodup →
 assoc key (l.foldl (fun m r=>assocPut r.key (.string r.value) m) m)=if (recFind l key).2=true then some (.string (recFind l key).1) else assoc key m
 | [],m,_=>by simp [recFind]
 | r::t,m,h=>by
   simp only [List.map_cons,List.nodup_cons] at h
   rw [List.foldl_cons,assoc_puts_go key t _ h.2,assoc_put]
   by_cases hk:r.key=key
   ·have hn:=recFind_none (l:=t) (key:=key) (fun x hx he=>h.1 (List.mem_map.2 ⟨x,hx,by rw [he,hk]⟩))
    rw [hn]
    simp [recFind,hk]
   ·have h1:recFind (r::t) key=recFind t key:=by
     conv=>lhs;unfold recFind
     rw [if_neg hk]
    have h2:¬ key=r.key:=fun e=>hk e.symm
    rw [h1]
    simp only [if_neg h2]
theorem assoc_puts {l : List Rec} (h : (l.map (·.key)).Nodup) (key : ByteArray) : assoc key (putsR l) = (sayR l key).map (fun v => .string v) := by
 unfold putsR
 rw [assoc_puts_go key l [] h]
 unfold sayR
 split<;>simp [assoc]
def strV : Value → ByteArray
 | .string s=>s
 | _=>ByteArray.empty
open Classical in
noncomputable def doneF (m left : List (ByteArray × Value)) (key : ByteArray) : Option ByteArray := if key ∈ left.map (fun q : ByteArray × Value => q.1) then none else (assoc key m).map strV
theorem assoc_mem {m : List (ByteArray × Value)} : ∀ {p : ByteArray × Value},p ∈ m → (m.map (·.1)).Nodup → assoc p.1 m = some p.2 := by
 induction m with
 | nil=>intro p h;simp at h
 | cons a t ih =>
   intro p h hn
   simp only [List.map_cons,List.nodup_cons] at hn
   unfold assoc
   rcases List.mem_cons.1 h with rfl|h
   ·rw [if_pos rfl]
   ·rw [if_neg (fun e=>hn.1 (by rw [<-e];exact List.mem_map.2 ⟨p,h,rfl⟩))]
    exact ih h hn.2
theorem assoc_out {m : List (ByteArray × Value)} {key : ByteArray} (h : key ∉ m.map (·.1)) : assoc key m = none := by
 induction m with
 | nil=>rfl
 | cons a t ih =>
   simp only [List.map_cons,List.mem_cons,not_or] at h
   unfold assoc
   rw [if_neg h.1]
   exact ih h.2
theorem done_start (m : List (ByteArray × Value)) (key : ByteArray) : doneF m m key = none := by
 unfold doneF
 split
 ·rfl
 ·rename_i h
  rw [assoc_out h];rfl
theorem done_end {l : List Rec} (h : (l.map (·.key)).Nodup) (key : ByteArray) : doneF (putsR l) [] key = sayR l key := by
 unfold doneF
 rw [if_neg (by simp),assoc_puts h]
 cases sayR l key<;>rfl
theorem done_step {m left : List (ByteArray × Value)} {p : ByteArray × Value} (hp : p ∈ left) (hm : ∀ q ∈ left,q ∈ m) (hn : (m.map (·.1)).Nodup) (key : ByteArray) :
 doneF m (left.filter (fun q => !decide (q.1=p.1))) key=if key=p.1 then some (strV p.2) else doneF m left key:=by
 unfold doneF
 by_cases hk:key=p.1
 ·subst hk
  rw [if_neg (by simp),if_pos rfl,assoc_mem (hm p hp) hn]
  rfl
 ·rw [if_neg hk]
  have:(key∈(left.filter (fun q => !decide (q.1=p.1))).map (fun q:ByteArray×Value=>q.1))↔key∈left.map (fun q:ByteArray×Value=>q.1):=by
   simp only [List.mem_map,List.mem_filter]
   constructor
   ·rintro ⟨q,⟨h1,_⟩,h2⟩;exact ⟨q,h1,h2⟩
   ·rintro ⟨q,h1,h2⟩;exact ⟨q,⟨h1,by simp;rw [h2];exact hk⟩,h2⟩
  by_cases hin:key∈left.map (fun q:ByteArray×Value=>q.1)
  ·rw [if_pos (this.2 hin),if_pos hin]
  ·rw [if_neg (fun h=>hin (this.1 h)),if_neg hin]
noncomputable def entPut (x : Ent) (k v : ByteArray) : Ent :=
 if k=kGid then { x with mt:={ x.mt with gid:=atoiV v } }
 else if k=kGname then { x with mt:={ x.mt with group:=v } }
 else if k=kLink then { x with target:=v }
 else if k=kMtime then { x with mt:={ x.mt with second:=(timeAns v.data.toList (rawP v.data.toList)).1,nano:=(timeAns v.data.toList (rawP v.data.toList)).2.1 } }
 else if k=kPath then { x with path:=v }
 else if k=kUid then { x with mt:={ x.mt with uid:=atoiV v } }
 else if k=kUname then { x with mt:={ x.mt with user:=v } }
 else x
theorem say_put (h : HeadN) (da : Option Addr) (dcap : Nat) (d : List UInt8) (f : ByteArray → Option ByteArray) (k v : ByteArray) :
 entSay h da dcap d (fun key=>if key=k then some v else f key)=entPut (entSay h da dcap d f) k v:=by
 by_cases h1:k=kGid
 ·subst h1;rfl
 ·by_cases h2:k=kGname
  ·subst h2;rfl
  ·by_cases h3:k=kLink
   ·subst h3;rfl
   ·by_cases h4:k=kMtime
    ·subst h4;rfl
    ·by_cases h5:k=kPath
     ·subst h5;rfl
     ·by_cases h6:k=kUid
      ·subst h6;rfl
      ·by_cases h7:k=kUname
       ·subst h7;rfl
       ·unfold entPut
        rw [if_neg h1,if_neg h2,if_neg h3,if_neg h4,if_neg h5,if_neg h6,if_neg h7]
        unfold entSay
        simp only [if_neg (Ne.symm h1),if_neg (Ne.symm h2),if_neg (Ne.symm h3),if_neg (Ne.symm h4),if_neg (Ne.symm h5),if_neg (Ne.symm h6),if_neg (Ne.symm h7)]
theorem say_ext {h : HeadN} {da : Option Addr} {dcap : Nat} {d : List UInt8} {f g : ByteArray → Option ByteArray} (e : ∀ k,f k = g k) : entSay h da dcap d f = entSay h da dcap d g := by
 rw [show f=g from funext e]
theorem say_step {h : HeadN} {da : Option Addr} {dcap : Nat} {d : List UInt8} {m left : List (ByteArray × Value)} {p : ByteArray × Value} (hp : p ∈ left) (hm : ∀ q ∈ left,q ∈ m) (hn : (m.map (·.1)).Nodup) :
 entSay h da dcap d (doneF m (left.filter (fun q => !decide (q.1=p.1))))=entPut (entSay h da dcap d (doneF m left)) p.1 (strV p.2):=by
 rw [<-say_put]
 exact say_ext (done_step hp hm hn)
open Go.RowKit
theorem IterOn.keep {κ : Type} [DecidableEq κ] {mk : κ → Value} {w w' : World} {r bm : Nat} {l left : List (κ × Value)} {row : Option Nat} (h : IterOn mk w r bm l left) (hg : w.grownBy w' row) (h1 : row ≠ some bm) (h2 : row ≠ some r) : IterOn mk w' r bm l left := by
 obtain ⟨a1,a2,a3,es,clock,seen,h4,h5,h6,h7,h8,h9⟩:=h
 exact ⟨a1,a2,a3,es,clock,seen,(hg.block _ (Array.getElem?_eq_some_iff.1 h4).1 (fun e=>h1 e.symm)).trans h4,h5,h6,h7,(hg.block _ (Array.getElem?_eq_some_iff.1 h8).1 (fun e=>h2 e.symm)).trans h8,h9⟩
theorem MapB.keep {κ : Type} [DecidableEq κ] {mk : κ → Value} {w w' : World} {b : Nat} {l : List (κ × Value)} {row : Option Nat} (h : MapB mk w b l) (hg : w.grownBy w' row) (h1 : row ≠ some b) : MapB mk w' b l := by
 obtain ⟨es,clock,h4,h5⟩:=h
 exact ⟨es,clock,(hg.block _ (Array.getElem?_eq_some_iff.1 h4).1 (fun e=>h1 e.symm)).trans h4,h5⟩
theorem grownBelow {w w' : World} (row : Option Nat) (h : Below w.heap.size w w') : w.grownBy w' row := ⟨h.os,h.tape,h.output,h.size,fun i hi _ => h.block i hi⟩
theorem below_grown {B : Nat} {w0 w w' : World} {row : Option Nat} (h : Below B w0 w) (hg : w.grownBy w' row) (hB : B ≤ w.heap.size) (hr : ∀ k,row = some k → B ≤ k) : Below B w0 w' :=
 ⟨hg.os.trans h.os,hg.tape.trans h.tape,hg.output.trans h.output,Nat.le_trans h.size hg.size,fun k hk=>(hg.block k (by omega) (fun e=>by have:=hr k e.symm;omega)).trans (h.block k hk)⟩
def sgnK (k : Nat) : Int := if k = 0 then 63 else if k = 1 then 48 else if k = 2 then 53 else if k = 3 then 50 else 49
def kindK (c : UInt8) : Nat → Int
 | 0=>0
 | k+1=>if sgnK k=(c.toNat:Int) then k else kindK c k
theorem kindK_all (c : UInt8) : kindK c 5 = kindOfT c := by
 have hn:∀ k:UInt8,((k.toNat:Int)=(c.toNat:Int))↔c=k:=fun k=>⟨fun e=>(UInt8.toNat_inj.1 (by exact_mod_cast e)).symm,fun e=>by rw [e]⟩
 have h0:sgnK 0=((63:UInt8).toNat:Int):=rfl
 have h1:sgnK 1=((48:UInt8).toNat:Int):=rfl
 have h2:sgnK 2=((53:UInt8).toNat:Int):=rfl
 have h3:sgnK 3=((50:UInt8).toNat:Int):=rfl
 have h4:sgnK 4=((49:UInt8).toNat:Int):=rfl
 unfold kindOfT
 simp only [kindK,h0,h1,h2,h3,h4,hn]
 by_cases e0:c=48
 ·subst e0;decide
 ·by_cases e1:c=53
  ·subst e1;decide
  ·by_cases e2:c=50
   ·subst e2;decide
   ·by_cases e3:c=49
    ·subst e3;decide
    ·simp [e0,e1,e2,e3]
theorem firstOf_drop {b : List UInt8} {h : HeadN} {d r : List UInt8} (hb : blockOf b = (h,d,r,0)) : 512 + (padFill d).length + r.length = b.length ∧ r = b.drop (512 + (padFill d).length) := by
 have h1:=blockOf_ok (b:=b) (by rw [hb])
 rw [hb] at h1
 exact h1
end Go.Creel
namespace Go.Proofs.YtaffgndickdbiaaGreatDoor
open Go.Creel Go.RowKit
set_option maxRecDepth 100000 in
set_option maxHeartbeats 1000000 in
theorem FieldOf_any (s : ByteArray) (b : Bool) (w : World) (hs : s.size ≤ maxLen) :
 Calls Tryz.prog 178 #[.string s,.bool b] w fun e w'=>e = .returned (.tuple #[.string (fieldOf s b).1,.int .i64 (fieldOf s b).2])/\Below w.heap.size w w':=by
 have hs':=hs
 unfold maxLen at hs
 by_cases h:s.size<1\/512<s.size
 ·have HF:=Lib.hid (fieldOf_range (b:=b) h)
  by_cases h0:s.size=0
  ·have he:=empty_t h0
   clear h h0
   go_enter Tryz.func178,Tryz.ntmps178
   go_wp2
   go_ret2
   exact ⟨ret_si HF.out,Below.refl _ _⟩
  ·have he:=empty_f h0
   have h1:512<s.size:=by omega
   clear h h0
   go_enter Tryz.func178,Tryz.ntmps178
   go_wp2
   go_ret2
   exact ⟨ret_si HF.out,Below.refl _ _⟩
 ·have h1:1<=s.size:=by omega
  have h2:s.size<=512:=by omega
  have he:=empty_f (a:=s) (by omega)
  have HN:=Lib.hid h
  clear h
  go_enter Tryz.func178,Tryz.ntmps178
  go_wp2
  go_loop [6] (fun i=>∃ k:Nat,k<=s.size/\i = .int .i64 k/\Hid (∀ j,j<k->byt s j≠0)) (fun i=>s.size-(intOf i).toNat)
  case atStart=>exact ⟨0,by omega,rfl,fun j hj=>absurd hj (by omega)⟩
  case round =>
   obtain ⟨k,hk,rfl,HD⟩:=hrel
   have hgo:(k<s.size/\byt s k≠0)\/(k=s.size/\zpos s=k)\/(k<s.size/\byt s k=0/\zpos s=k):=by
    by_cases h1:k<s.size
    ·by_cases h2:byt s k=0
     ·exact .inr (.inr ⟨h1,h2,(zpos_yes h1 h2 HD.out).1⟩)
     ·exact .inl ⟨h1,h2⟩
    ·obtain rfl:k=s.size:=by omega
     exact .inr (.inl ⟨rfl,(zpos_no HD.out).1⟩)
   have hzr:=fun w=>zeros_any ((s.size:Int)-k) w (by omega) (by omega)
   have ez:((s.size:Int)-k).toNat=s.size-k:=by omega
   rw [ez] at hzr
   have HZ:=Lib.hid hzr
   clear hzr ez
   have heq:allz (s.extract k s.size)↔s.extract k s.size=zerosS (s.size-k):=(allz_eq (by simp)).symm
   rcases hgo with ⟨hlt,hne⟩|⟨hke,hzp⟩|⟨hlt,hz,hzp⟩
   ·have HB:=Lib.hid (byt_get s k hlt)
    have hb':s[k].toNat<256:=UInt8.toNat_lt _
    have hq:(((s[k].toNat:Nat):Int) != 0)=true:=by rw [HB.out,bne_iff_ne];omega
    have HNE:=Lib.hid hne
    clear hne heq
    go_wp2
    go_round
    case rel =>
     refine ⟨k+1,by omega,by go_num,fun j hj=>?_⟩
     by_cases e:j=k
     ·rw [e];exact HNE.out
     ·exact HD.out j (by omega)
    case measure=>simp [intOf];omega
   ·have hall:allz (s.extract k s.size):=by
     intro x hx
     rw [hke,extract_none] at hx
     cases hx
    have hks:((k:Int)==(s.size:Int))=true:=by rw [beq_iff_eq];omega
    have hnl:decide ((k:Int)<(s.size:Int))=false:=by rw [decide_eq_false_iff_not];omega
    have hcmp:=sne_f (heq.1 hall)
    cases b with
    | false =>
      have HF:=Lib.hid (fieldOf_form (b:=false) HN.out (.inl ⟨hzp.trans hke,rfl⟩))
      clear hzp hall heq hke
      go_wp2
      go_quiet ((go_at_call 60;exact quiet_same (HZ.out _)))
      go_wp2
      go_ret2
      exact ⟨ret_si HF.out,below_draws _ _ _⟩
    | true =>
      have HF:=Lib.hid ((fieldOf_yes (b:=true) HN.out (by rw [hzp];exact fun h=>h.elim (fun h=>by cases h.2) (fun h=>h hall))).trans (by rw [hzp]))
      clear hzp hall heq hke
      go_wp2
      go_quiet ((go_at_call 60;exact quiet_same (HZ.out _)))
      go_wp2
      go_ret2
      exact ⟨ret_si HF.out,below_draws _ _ _⟩
   ·have HB:=Lib.hid (byt_get s k hlt)
    have hb':s[k].toNat<256:=UInt8.toNat_lt _
    have hq:(((s[k].toNat:Nat):Int) != 0)=false:=by rw [HB.out,hz];rfl
    have hks:((k:Int)==(s.size:Int))=false:=by rw [beq_eq_false_iff_ne];omega
    by_cases hall:allz (s.extract k s.size)
    ·have hcmp:=sne_f (heq.1 hall)
     have HF:=Lib.hid ((fieldOf_yes (b:=b) HN.out (by rw [hzp];exact fun h=>h.elim (fun h=>by have:=h.1;omega) (fun h=>h hall))).trans (by rw [hzp]))
     clear hz hzp hall heq
     go_wp2
     go_quiet ((go_at_call 60;exact quiet_same (HZ.out _)))
     go_wp2
     go_ret2
     exact ⟨ret_si HF.out,below_draws _ _ _⟩
    ·have hcmp:=sne_t (fun e=>hall (heq.2 e))
     have HF:=Lib.hid (fieldOf_form (b:=b) HN.out (.inr (by rw [hzp];exact hall)))
     clear hz hzp hall heq
     go_wp2
     go_quiet ((go_at_call 60;exact quiet_same (HZ.out _)))
     go_wp2
     go_ret2
     exact ⟨ret_si HF.out,below_draws _ _ _⟩
end Go.Proofs.YtaffgndickdbiaaGreatDoor
namespace Go.Creel
open Go.RowKit
structure RefE (te : TypeId) (fv : Value) (w : World) (bs bw bn : Nat) (s : ByteArray) (e : Int) : Prop where
 str:w.cell? ⟨bs,0,none⟩=some (.string s)
 fn:w.cell? ⟨bn,0,none⟩=some fv
 worst:w.heap[bw]?=some (.cells #[.int .i64 e] te (0,0))
 sw:bs≠bw
 nw:bn≠bw
variable {te : TypeId} {fv : Value} {w w' : World} {bs bw bn : Nat} {s : ByteArray} {e e' : Int}
theorem RefE.wc (h : RefE te fv w bs bw bn s e) : w.cell? ⟨bw,0,none⟩ = some (.int .i64 e) := cellAt h.worst rfl
theorem RefE.wf (h : RefE te fv w bs bw bn s e) : w.frozen? ⟨bw,0,none⟩ = false := frozen_of_row w bw 0 _ te h.worst
theorem RefE.lt (h : RefE te fv w bs bw bn s e) : bs < w.heap.size ∧ bn < w.heap.size ∧ bw < w.heap.size := ⟨World.block_lt_of_cell? w _ h.str,World.block_lt_of_cell? w _ h.fn,(Array.getElem?_eq_some_iff.1 h.worst).1⟩
theorem RefE.put (h : RefE te fv w bs bw bn s e) (e' : Int) : RefE te fv (w.setCell ⟨bw,0,none⟩ (.int .i64 e')) bs bw bn s e' := by
 refine ⟨?_,?_,?_,h.sw,h.nw⟩
 ·rw [World.cell?_setCell_other _ _ _ _ (fun e=>h.sw (congrArg Addr.block e).symm)];exact h.str
 ·rw [World.cell?_setCell_other _ _ _ _ (fun e=>h.nw (congrArg Addr.block e).symm)];exact h.fn
 ·rw [heap_setCell_same w bw 0 _ te _ h.worst];rfl
theorem RefE.below (h : RefE te fv w bs bw bn s e) (hb : Below w.heap.size w w') : RefE te fv w' bs bw bn s e := by
 obtain ⟨l1,l2,l3⟩:=h.lt
 exact ⟨(hb.cell (p:=⟨bs,0,none⟩) l1).trans h.str,(hb.cell (p:=⟨bn,0,none⟩) l2).trans h.fn,(hb.block bw l3).trans h.worst,h.sw,h.nw⟩
end Go.Creel
namespace Go.Proofs.YtaffgndickdbiaaGreatDoor
open Go.Creel Go.RowKit
abbrev tErr : TypeId := 27
abbrev noteV (bw : Nat) : Value := .func (.func 176) #[] #[.pointer (some ⟨bw,0,none⟩)]
set_option maxRecDepth 100000 in
theorem RNote_any (bs bw bn : Nat) (s : ByteArray) (e f : Int) (w : World) (h : RefE tErr (noteV bw) w bs bw bn s e) :
 Calls Tryz.prog 176 #[.int .i64 f,.pointer (some ⟨bw,0,none⟩)] w fun x w'=>x = .returned (.tuple #[])/\RefE tErr (noteV bw) w' bs bw bn s (note e f)/\w.grownBy w' (some bw):=by
 have H:=Lib.hid h
 have c1:=h.wc
 have f1:=h.wf
 have HG:=Lib.hid (grown_set w bw 0 (.int .i64 f))
 clear h
 by_cases h0:e=0
 ·have hq:(e==0)=true:=by rw [beq_iff_eq];exact h0
  have HN:=Lib.hid (note_ok (f:=f) h0)
  clear h0
  go_enter Tryz.func176,Tryz.ntmps176
  go_wp2
  go_end0
  rw [HN.out]
  exact ⟨rfl,H.out.put _,HG.out⟩
 ·have hq:(e==0)=false:=by rw [beq_eq_false_iff_ne];exact h0
  have HN:=Lib.hid (note_bad (f:=f) h0)
  clear h0
  go_enter Tryz.func176,Tryz.ntmps176
  go_wp2
  go_end0
  rw [HN.out]
  exact ⟨rfl,H.out,grown_refl _ _⟩
set_option maxRecDepth 100000 in
theorem RText_any (bs bw bn : Nat) (s : ByteArray) (a b : Nat) (wh : Bool) (e : Int) (w : World) (p : ByteArray × Int) (hp : fieldOf (s.extract a b) wh = p) (h : RefE tErr (noteV bw) w bs bw bn s e) (hab : a ≤ b) (hb : b ≤ s.size) (hs : s.size ≤ 1000) :
 Calls Tryz.prog 177 #[.int .i64 a,.int .i64 b,.bool wh,.pointer (some ⟨bs,0,none⟩),.pointer (some ⟨bn,0,none⟩)] w fun x w'=>x = .returned (.string p.1)/\RefE tErr (noteV bw) w' bs bw bn s (note e p.2)/\w.grownBy w' (some bw):=by
 have HF:=Lib.hid (fun w=>FieldOf_any (s.extract a b) wh w (by unfold maxLen;simp;omega))
 have HN:=Lib.hid (fun w f h=>RNote_any bs bw bn s e f w h)
 have H:=Lib.hid h
 have c0:=h.str
 rw [hp] at HF
 obtain ⟨p1,p2⟩:=p
 clear h hp
 go_enter Tryz.func177,Tryz.ntmps177
 go_wp2_with fail
 refine (HF.out _).mono ?_
 rintro x w2 ⟨rfl,hb2⟩
 have H2:=Lib.hid (H.out.below hb2)
 have G2:=Lib.hid (grown_below (row:=some bw) hb2)
 have c1:=H2.out.fn
 clear hb2
 go_wp2_with fail
 refine (HN.out _ _ H2.out).mono ?_
 rintro x w3 ⟨rfl,h1,g1⟩
 have H3:=Lib.hid h1
 have G3:=Lib.hid (grown_trans G2.out g1)
 clear h1 g1
 go_wp2
 go_ret
 exact ⟨rfl,H3.out,G3.out⟩
set_option maxRecDepth 100000 in
theorem RNum_any (bs bw bn : Nat) (s : ByteArray) (a b : Nat) (e : Int) (w : World) (p : Int × Int) (hp : octOf (s.extract a b) = p) (h : RefE tErr (noteV bw) w bs bw bn s e) (hab : a ≤ b) (hb : b ≤ s.size) (hs : s.size ≤ 1000) :
 Calls Tryz.prog 179 #[.int .i64 a,.int .i64 b,.pointer (some ⟨bs,0,none⟩),.pointer (some ⟨bn,0,none⟩)] w fun x w'=>x = .returned (.int .i64 p.1)/\RefE tErr (noteV bw) w' bs bw bn s (note e p.2)/\w.grownBy w' (some bw):=by
 have HF:=Lib.hid (fun w=>OctalOf_any (s.extract a b) w (by unfold maxLen;simp;omega))
 have HN:=Lib.hid (fun w f h=>RNote_any bs bw bn s e f w h)
 have H:=Lib.hid h
 have c0:=h.str
 rw [hp] at HF
 obtain ⟨p1,p2⟩:=p
 clear h hp
 go_enter Tryz.func179,Tryz.ntmps179
 go_wp2_with fail
 refine (HF.out _).mono ?_
 rintro x w2 ⟨rfl,hb2⟩
 have H2:=Lib.hid (H.out.below hb2)
 have G2:=Lib.hid (grown_below (row:=some bw) hb2)
 have c1:=H2.out.fn
 clear hb2
 go_wp2_with fail
 refine (HN.out _ _ H2.out).mono ?_
 rintro x w3 ⟨rfl,h1,g1⟩
 have H3:=Lib.hid h1
 have G3:=Lib.hid (grown_trans G2.out g1)
 clear h1 g1
 go_wp2
 go_ret
 exact ⟨rfl,H3.out,G3.out⟩
set_option maxRecDepth 100000 in
theorem RJust_any (bs bw bn : Nat) (s t : ByteArray) (a b m : Nat) (e j : Int) (w : World) (hj : justE s a b t = j) (h : RefE tErr (noteV bw) w bs bw bn s e) (hm : t.size = m) (hab : a + m = b) (hb : b ≤ s.size) (hs : s.size ≤ 1000) :
 Calls Tryz.prog 181 #[.int .i64 a,.string t,.pointer (some ⟨bs,0,none⟩),.pointer (some ⟨bn,0,none⟩)] w fun x w'=>x = .returned (.tuple #[])/\RefE tErr (noteV bw) w' bs bw bn s (note e j)/\w.grownBy w' (some bw):=by
 have HN:=Lib.hid (fun w f h=>RNote_any bs bw bn s e f w h)
 have H:=Lib.hid h
 have c0:=h.str
 clear h
 subst hab
 by_cases he:s.extract a (a+m)=t
 ·have hq:=seq_t he
  have HJ:=Lib.hid (show note e j=e by
   rw [<-hj];unfold justE note;rw [if_pos he];split<;>omega)
  clear he hj
  go_enter Tryz.func181,Tryz.ntmps181
  go_wp2
  go_end0
  rw [HJ.out]
  exact ⟨rfl,H.out,grown_refl _ _⟩
 ·have hq:=seq_f he
  have HJ:=Lib.hid (show j=3 by rw [<-hj];unfold justE;rw [if_neg he])
  clear he hj
  have c1:=H.out.fn
  go_enter Tryz.func181,Tryz.ntmps181
  go_wp2_with fail
  refine (HN.out _ _ H.out).mono ?_
  rintro x w3 ⟨rfl,h1,g1⟩
  have H3:=Lib.hid h1
  have G3:=Lib.hid g1
  clear h1 g1
  go_wp2
  go_end0
  rw [HJ.out]
  exact ⟨rfl,H3.out,G3.out⟩
end Go.Proofs.YtaffgndickdbiaaGreatDoor
