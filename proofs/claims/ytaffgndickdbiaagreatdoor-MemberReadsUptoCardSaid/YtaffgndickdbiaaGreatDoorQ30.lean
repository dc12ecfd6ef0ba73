/-
  Texts: MemRec.
-/
import Derived.Test.YtaffgndickdbiaaGreatDoorQ19
import Derived.Test.YtaffgndickdbiaaGreatDoorQ20
set_option linter.unusedVariables false
set_option linter.unusedSimpArgs false
set_option linter.unusedSectionVars false
namespace Go.Creel
def recIf (b : Bool) (k v : ByteArray) : List Rec := if b then [⟨k,v⟩] else []
def MetAt (w : World) (b : Nat) (m : Meta) : Prop := w.cell? ⟨b,0,none⟩ = some (.int .i64 m.mode) ∧ w.cell? ⟨b,1,none⟩ = some (.int .i64 m.uid) ∧ w.cell? ⟨b,2,none⟩ = some (.int .i64 m.gid) ∧ w.cell? ⟨b,3,none⟩ = some (.string m.user) ∧ w.cell? ⟨b,4,none⟩ = some (.string m.group) ∧ w.cell? ⟨b,5,none⟩ = some (.int .i64 m.second) ∧ w.cell? ⟨b,6,none⟩ = some (.int .i64 m.nano)
theorem recIf_num (k : ByteArray) (n : Int) : recIf (decide (2097152 ≤ n)) k (itoaB n) = recNum k n 2097151 := by
 unfold recIf recNum
 by_cases h:2097151<n
 ·rw [if_pos (by simpa using (show 2097152<=n by omega)),if_pos h]
 ·rw [if_neg (by simpa using (show ¬ 2097152<=n by omega)),if_neg h]
theorem recIf_text (k s : ByteArray) (m : Nat) (M : Int) (hM : M = m) : recIf (decide (M < (s.size : Int))) k s = recText1 k s m := by
 subst hM
 unfold recIf recText1
 by_cases h:m<s.size
 ·rw [if_pos (by simpa using h),if_pos h]
 ·rw [if_neg (by simpa using h),if_neg h]
theorem recIf_path (s : ByteArray) : recIf ((cutTwo s).2.2 != 0) kPath s = recPath s := by
 unfold recIf recPath
 by_cases h:(cutTwo s).2.2=0
 ·rw [if_neg (by simpa using h),if_pos h]
 ·rw [if_pos (by simpa using h),if_neg h]
theorem metAt_new (w : World) (m : Meta) (t : TypeId) : MetAt (w.alloc (.cells #[.int .i64 m.mode,.int .i64 m.uid,.int .i64 m.gid,.string m.user,.string m.group,.int .i64 m.second,.int .i64 m.nano] t)) w.heap.size m := by
 unfold MetAt
 refine ⟨?_,?_,?_,?_,?_,?_,?_⟩<;>simp
theorem RecG.met {tR tP : TypeId} {w0 w : World} {b bm : Nat} {cs : Array Value} {v : Value} {l : List Rec} {m : Meta} (h : RecG tR tP w0 w b cs v l) (hm : MetAt w0 bm m) (hne : bm ≠ b) : MetAt w bm m := by
 obtain ⟨h0,h1,h2,h3,h4,h5,h6⟩:=hm
 exact ⟨h.other h0 hne,h.other h1 hne,h.other h2 hne,h.other h3 hne,h.other h4 hne,h.other h5 hne,h.other h6 hne⟩
theorem RecG.ent {tR tP : TypeId} {w0 w : World} {b bx : Nat} {cs : Array Value} {v : Value} {l : List Rec} {x : Ent} (h : RecG tR tP w0 w b cs v l) (hm : EntAt w0 bx 0 x) (hne : bx ≠ b) : EntAt w bx 0 x := by
 obtain ⟨h0,h1,h2,h3,h4,h5,h6,h7,h8,h9,h10⟩:=hm
 exact ⟨h.other h0 hne,h.other h1 hne,h.other h2 hne,h.other h3 hne,h.other h4 hne,h.other h5 hne,h.other h6 hne,h.other h7 hne,h.other h8 hne,h.other h9 hne,h.other h10 hne⟩
end Go.Creel
namespace Go.Proofs.YtaffgndickdbiaaGreatDoor
open Go.Creel Go.RowKit
abbrev tRecs : TypeId := 63
set_option maxRecDepth 100000 in
set_option maxHeartbeats 2000000 in
theorem Add_any (b : Nat) (is : Bool) (key value : ByteArray) (w0 w : World) (v : Value) (l : List Rec) (s : RecG tRecE tRecs w0 w b #[v] v l) (hl : l.length ≤ 100) :
 Calls Tryz.prog 102 #[.bool is,.string key,.string value,.pointer (some ⟨b,0,none⟩)] w fun e w'=>e = .returned (.tuple #[])/\∃ v',RecG tRecE tRecs w0 w' b #[v'] v' (l++recIf is key value):=by
 cases is with
 | false =>
   have H:=Lib.hid s
   clear s
   go_enter Tryz.func102,Tryz.ntmps102
   go_wp2
   go_end0
   exact ⟨rfl,_,by rw [show recIf false key value=[] from rfl,List.append_nil];exact H.out⟩
 | true =>
   obtain ⟨i0,hi,hz0,hz1,hz2⟩:=info_parts info_record
   have HI:=Lib.hid (And.intro hi (And.intro hz0 (And.intro hz1 hz2)))
   have H:=Lib.hid s
   have HBA:=Lib.hid ((Below.refl w.heap.size w).alloc (Nat.le_refl _) (.cells #[.string key,.string value] 85))
   have H3:=Lib.hid (H.out.below HBA.out)
   have HW0:=Lib.hid H3.out.size
   have c0:w.cell? ⟨b,0,none⟩=some v:=H.out.cell 0
   have hlt:=s.lt
   clear hi hz0 hz1 hz2 s
   go_enter Tryz.func102,Tryz.ntmps102
   go_wp2_with (at_builtin;refine wpList_app _ rfl (.tmp 8) (.tmp 12) 63 63 rfl _ _ rfl rfl (fun ty=>app_src _ 63 63 ty w0.heap.size 85 i0 _ 2 32 Tryz.underlying63 HI.out.1 HI.out.2.1 HI.out.2.2.1 HI.out.2.2.2 rfl (by decide) _ _ l.length 1 _ _ H3.out.own (src_rec w _ _ _ Tryz.underlying63 ⟨key,value⟩) (by unfold maxLen;omega) (by omega) HW0.out) ?_;intro v4 w4 ho2 hg2 hv2;have HZ:=Lib.hid (And.intro ho2 (And.intro hg2 hv2.2));have e1:w4.cell? ⟨b,0,none⟩=some v:=H3.out.cell4 hg2 0;have e2:=H3.out.free4 hg2 0;obtain ⟨g4,cp4,rfl⟩:=ownsRow_form2 ho2;clear ho2 hg2 hv2)
   go_end0
   exact ⟨rfl,_,H3.out.say (r:=⟨key,value⟩) 0 HZ.out.1 HZ.out.2.1 rfl⟩
set_option maxRecDepth 100000 in
set_option maxHeartbeats 4000000 in
theorem MemRecs_ok (x : Ent) (w : World) (hx : x.Ok maxLen w) (hE : entFault x = 0) (hT : Pow10 w) :
 Calls Tryz.prog 42 #[x.val] w (RetRecs tRecE w (memRecs x,0)):=by
 have HR:=Lib.hid (entRight hE)
 have HBX:=Lib.hid ((Below.refl w.heap.size w).alloc (Nat.le_refl _) (.cells #[.string x.path,.int .i64 x.kind,.string x.target,.int .i64 x.mt.mode,.int .i64 x.mt.uid,.int .i64 x.mt.gid,.string x.mt.user,.string x.mt.group,.int .i64 x.mt.second,.int .i64 x.mt.nano,.slice x.da x.data.length x.dcap] 26))
 have HEB:=Lib.hid (entAt_box w x 26)
 have HPR:=Lib.hid (fun W=>EntryFault_any x W hx.path hx.target hx.mt (by obtain ⟨_,_,_,_,_,h,_⟩:=hx.data;exact h) hx.kind (Nat.le_refl _))
 rw [hE] at HPR
 have HT:=Lib.hid (hT.below HBX.out)
 have HTW:=Lib.hid hT
 have hgi:=HR.out.mt.gid
 have hui:=HR.out.mt.uid
 have hus:=HR.out.mt.user
 have hgs:=HR.out.mt.group
 have hts:=HR.out.target
 have hps:=HR.out.pathSize
 have hsec:=HR.out.mt.second
 have hnan:=HR.out.mt.nano
 clear hx hE hT
 go_enter Tryz.func42,Tryz.ntmps42
 go_wp2_with fail
 refine (HPR.out _).mono ?_
 rintro e wa ⟨rfl,hb⟩
 have HBA:=Lib.hid (HBX.out.trans (hb.mono HBX.out.size))
 have HEA:=Lib.hid (HEB.out.below hb)
 have HTA:=Lib.hid (HT.out.below hb)
 have hxa:=HEB.out.lt
 have hws:w.heap.size<wa.heap.size:=Nat.lt_of_lt_of_le hxa hb.size
 clear hb hxa HEB HT HBX
 obtain ⟨h0,h1,h2,h3,h4,h5,h6,h7,h8,h9,h10⟩:=HEA.out.zero
 go_upto_region 7 with fail
 have HO:=Lib.hid ((Below.refl wa.heap.size wa).alloc (Nat.le_refl _) (.cells #[.slice none 0 0] tRecs))
 have HMM:=Lib.hid (HO.out.alloc HO.out.size (.cells #[.int .i64 x.mt.mode,.int .i64 x.mt.uid,.int .i64 x.mt.gid,.string x.mt.user,.string x.mt.group,.int .i64 x.mt.second,.int .i64 x.mt.nano] 23))
 have HMT0:=Lib.hid (metAt_new (wa.alloc (.cells #[.slice none 0 0] tRecs)) x.mt 23)
 have HE:=Lib.hid (HEA.out.below HMM.out)
 have HTM:=Lib.hid (HTA.out.below HMM.out)
 have hso:(wa.alloc (.cells #[.slice none 0 0] tRecs)).heap.size=wa.heap.size+1:=by simp
 have G0:Hid (RecG tRecE tRecs ((wa.alloc (.cells #[.slice none 0 0] tRecs)).alloc (.cells #[.int .i64 x.mt.mode,.int .i64 x.mt.uid,.int .i64 x.mt.gid,.string x.mt.user,.string x.mt.group,.int .i64 x.mt.second,.int .i64 x.mt.nano] 23)) ((wa.alloc (.cells #[.slice none 0 0] tRecs)).alloc (.cells #[.int .i64 x.mt.mode,.int .i64 x.mt.uid,.int .i64 x.mt.gid,.string x.mt.user,.string x.mt.group,.int .i64 x.mt.second,.int .i64 x.mt.nano] 23)) wa.heap.size #[.slice none 0 0] (.slice none 0 0) []):=Lib.hid ⟨heap_alloc2_old _ _ _,OwnRecs.nil _ _ _,by simp;omega,grown_by_below (Below.refl _ _)⟩
 have HBM:=Lib.hid (HBA.out.trans (HMM.out.mono HBA.out.size))
 rw [hso] at HMT0
 clear HO HMM h0 h1 h2 h3 h4 h5 h6 h7 h8 h9 h10 HEA HTA
 generalize (wa.alloc (.cells #[.slice none 0 0] tRecs)).alloc (.cells #[.int .i64 x.mt.mode,.int .i64 x.mt.uid,.int .i64 x.mt.gid,.string x.mt.user,.string x.mt.group,.int .i64 x.mt.second,.int .i64 x.mt.nano] 23)=wm at *
 try simp only [hso]
 clear hso
 generalize hbo:wa.heap.size=bo at *
 generalize hbm:bo+1=bm at *
 have hxo:w.heap.size≠bo:=by omega
 have hmo:bm≠bo:=by omega
 have HMT:=HMT0
 have G:=G0
 clear HMT0 G0
 have HLOW:Hid (w.heap.size<=bo):=Lib.hid (by omega)
 obtain ⟨h0,h1,h2,h3,h4,h5,h6,h7,h8,h9,h10⟩:=HE.out.zero
 obtain ⟨m0,m1,m2,m3,m4,m5,m6⟩:=HMT.out
 go_wp2_with fail
 refine (TimeText_any x.mt.second x.mt.nano _ (by unfold i64;omega) (by unfold i64;omega) HTM.out).mono ?_
 rintro e w1 ⟨rfl,hb⟩
 have G1:=Lib.hid (G.out.below hb)
 clear hb G h0 h1 h2 h3 h4 h5 h6 h7 h8 h9 h10 m0 m1 m2 m3 m4 m5 m6
 obtain ⟨h0,h1,h2,h3,h4,h5,h6,h7,h8,h9,h10⟩:=(G1.out.ent HE.out hxo).zero
 obtain ⟨m0,m1,m2,m3,m4,m5,m6⟩:=G1.out.met HMT.out hmo
 go_wp2_with fail
 refine (CutTwo_any x.path _ (by unfold maxLen;omega)).mono ?_
 rintro e w2 ⟨rfl,hb⟩
 have G:=Lib.hid (G1.out.below hb)
 clear hb G1 h0 h1 h2 h3 h4 h5 h6 h7 h8 h9 h10 m0 m1 m2 m3 m4 m5 m6
 obtain ⟨w1,rfl⟩:∃ W:World,W=w2:=⟨_,rfl⟩
 obtain ⟨v,hv⟩:∃ V:Value,V = .slice none 0 0:=⟨_,rfl⟩
 rw [<-hv] at G
 clear hv
 obtain ⟨h0,h1,h2,h3,h4,h5,h6,h7,h8,h9,h10⟩:=(G.out.ent HE.out hxo).zero
 obtain ⟨m0,m1,m2,m3,m4,m5,m6⟩:=G.out.met HMT.out hmo
 go_upto_region 9 with fail
 have hdr:RecG tRecE tRecs wm w1.drew bo #[v] v ([]):=G.out.below ((Below.refl _ _).drew)
 have HITO:=Lib.hid (fun W (hW:RecG tRecE tRecs wm W bo #[v] v ([]))=>show Calls Tryz.prog 104 #[.int .i64 x.mt.gid] W (fun e w'=>e = .returned (.string (itoaB x.mt.gid))/\w'.cell? ⟨bm,2,none⟩=some (.int .i64 x.mt.gid)/\RecG tRecE tRecs wm w' bo #[v] v ([])) from
  (Itoa_any x.mt.gid W (by unfold i64;omega) (HTW.out.below (hW.bel HBM.out HLOW.out))).mono fun e w' hh=>by
    have g:=hW.below hh.2
    exact ⟨hh.1,(g.met HMT.out hmo).2.2.1,g⟩)
 have HADD:=Lib.hid (fun W (hW:RecG tRecE tRecs wm W bo #[v] v ([]))=>show Calls Tryz.prog 102 #[.bool (decide (2097152<=x.mt.gid)),.string kGid,.string (itoaB x.mt.gid),.pointer (some ⟨bo,0,none⟩)] W (fun e w'=>e = .returned (.tuple #[])/\w'.cell? ⟨bm,2,none⟩=some (.int .i64 x.mt.gid)/\Hid (∃ v,RecG tRecE tRecs wm w' bo #[v] v (rl1 x))) from
  (Add_any bo _ kGid _ _ W _ _ hW (by simp)).mono fun e w' hh=>by
    obtain ⟨he,v',g⟩:=hh
    refine ⟨he,(g.met HMT.out hmo).2.2.1,Lib.hid ⟨v',?_⟩⟩
    rw [recIf_num] at g
    exact (by rw [List.nil_append] at g;exact g))
 go_upto_region 9 with fail
 go_cut [43] from 36 to 43 (fun u wy=>Hid (∃ v,RecG tRecE tRecs wm wy bo #[v] v (rl1 x)))
 case first =>
  go_region_held3 (fun w'=>w'.cell? ⟨bm,2,none⟩=some (.int .i64 x.mt.gid)) (go_keep)
   (first
     | (go_at_call 104;refine (HITO.out _ ?_).mono ?_;assumption;rintro e w3 ⟨rfl,r0,hg3⟩)
     | (go_at_call 102;refine (HADD.out _ ?_).mono ?_;assumption;rintro e w3 ⟨rfl,r0,hg4⟩))
  go_wp2_with fail
  go_meet
  case rel=>exact hg4
 case rest =>
 have HS:=hcut
 obtain ⟨v2,g⟩:=HS.out
 clear HITO HADD hdr HS hcut
 obtain ⟨w2,rfl⟩:∃ W:World,W=wc:=⟨_,rfl⟩
 have G2:Hid (RecG tRecE tRecs wm w2 bo #[v2] v2 (rl1 x)):=Lib.hid (by exact g)
 clear g G h0 h1 h2 h3 h4 h5 h6 h7 h8 h9 h10 m0 m1 m2 m3 m4 m5 m6
 obtain ⟨v,rfl⟩:∃ V:Value,V=v2:=⟨_,rfl⟩
 obtain ⟨w1,rfl⟩:∃ W:World,W=w2:=⟨_,rfl⟩
 have G:=G2
 clear G2
 obtain ⟨h0,h1,h2,h3,h4,h5,h6,h7,h8,h9,h10⟩:=(G.out.ent HE.out hxo).zero
 obtain ⟨m0,m1,m2,m3,m4,m5,m6⟩:=G.out.met HMT.out hmo
 go_wp2_with fail
 refine (Add_any bo _ kGname x.mt.group _ _ _ _ G.out (Nat.le_trans (rl1_len x) (by omega))).mono ?_
 rintro e w2 ⟨rfl,v2,g⟩
 rw [recIf_text _ _ 31 31 rfl] at g
 have G2:Hid (RecG tRecE tRecs wm w2 bo #[v2] v2 (rl2 x)):=Lib.hid (by exact g)
 clear g G h0 h1 h2 h3 h4 h5 h6 h7 h8 h9 h10 m0 m1 m2 m3 m4 m5 m6
 obtain ⟨v,rfl⟩:∃ V:Value,V=v2:=⟨_,rfl⟩
 obtain ⟨w1,rfl⟩:∃ W:World,W=w2:=⟨_,rfl⟩
 have G:=G2
 clear G2
 obtain ⟨h0,h1,h2,h3,h4,h5,h6,h7,h8,h9,h10⟩:=(G.out.ent HE.out hxo).zero
 obtain ⟨m0,m1,m2,m3,m4,m5,m6⟩:=G.out.met HMT.out hmo
 go_wp2_with fail
 refine (Add_any bo _ kLink x.target _ _ _ _ G.out (Nat.le_trans (rl2_len x) (by omega))).mono ?_
 rintro e w2 ⟨rfl,v2,g⟩
 rw [recIf_text _ _ 100 100 rfl] at g
 have G2:Hid (RecG tRecE tRecs wm w2 bo #[v2] v2 (rl3 x)):=Lib.hid (by exact g)
 clear g G h0 h1 h2 h3 h4 h5 h6 h7 h8 h9 h10 m0 m1 m2 m3 m4 m5 m6
 obtain ⟨v,rfl⟩:∃ V:Value,V=v2:=⟨_,rfl⟩
 obtain ⟨w1,rfl⟩:∃ W:World,W=w2:=⟨_,rfl⟩
 have G:=G2
 clear G2
 obtain ⟨h0,h1,h2,h3,h4,h5,h6,h7,h8,h9,h10⟩:=(G.out.ent HE.out hxo).zero
 obtain ⟨m0,m1,m2,m3,m4,m5,m6⟩:=G.out.met HMT.out hmo
 go_upto_region 12 with fail
 go_cut [75] from 60 to 75 (fun u wy=>Hid (∃ v,RecG tRecE tRecs wm wy bo #[v] v (rl4 x)))
 case first =>
  by_cases t1:0<x.mt.nano
  ·have HT:=Lib.hid (recTime_yes (m:=x.mt) (.inl t1))
   have d1:(x.mt.nano != 0)=true:=by rw [bne_iff_ne];omega
   clear t1
   clear hsec hnan
   go_wp2_with fail
   refine (Add_any bo true kMtime _ _ _ _ _ G.out (Nat.le_trans (rl3_len x) (by omega))).mono ?_
   rintro e w2 ⟨rfl,v2,g⟩
   have HS:Hid (∃ v,RecG tRecE tRecs wm w2 bo #[v] v (rl4 x)):=Lib.hid ⟨v2,by unfold rl4;rw [HT.out.1];exact g⟩
   clear g
   go_wp2
   go_meet
   exact HS
  ·have d1:(x.mt.nano != 0)=false:=by have:x.mt.nano=0:=by omega
                                      rw [this];rfl
   by_cases t2:x.mt.second<0
   ·have HT:=Lib.hid (recTime_yes (m:=x.mt) (.inr (.inl t2)))
    have d2:decide (x.mt.second<0)=true:=decide_eq_true t2
    clear t1 t2
    clear hsec hnan
    go_wp2_with fail
    refine (Add_any bo true kMtime _ _ _ _ _ G.out (Nat.le_trans (rl3_len x) (by omega))).mono ?_
    rintro e w2 ⟨rfl,v2,g⟩
    have HS:Hid (∃ v,RecG tRecE tRecs wm w2 bo #[v] v (rl4 x)):=Lib.hid ⟨v2,by unfold rl4;rw [HT.out.1];exact g⟩
    clear g
    go_wp2
    go_meet
    exact HS
   ·have d2:decide (x.mt.second<0)=false:=decide_eq_false t2
    by_cases t3:8589934591<x.mt.second
    ·have HT:=Lib.hid (recTime_yes (m:=x.mt) (.inr (.inr t3)))
     have d3:decide (8589934592<=x.mt.second)=true:=decide_eq_true (by omega)
     clear t1 t2 t3
     clear hsec hnan
     go_wp2_with fail
     refine (Add_any bo true kMtime _ _ _ _ _ G.out (Nat.le_trans (rl3_len x) (by omega))).mono ?_
     rintro e w2 ⟨rfl,v2,g⟩
     have HS:Hid (∃ v,RecG tRecE tRecs wm w2 bo #[v] v (rl4 x)):=Lib.hid ⟨v2,by unfold rl4;rw [HT.out.1];exact g⟩
     clear g
     go_wp2
     go_meet
     exact HS
    ·have HT:=Lib.hid (recTime_no (m:=x.mt) (fun h=>by rcases h with h|h|h<;>omega))
     have d3:decide (8589934592<=x.mt.second)=false:=decide_eq_false (by omega)
     clear t1 t2 t3
     clear hsec hnan
     go_wp2_with fail
     refine (Add_any bo false kMtime _ _ _ _ _ G.out (Nat.le_trans (rl3_len x) (by omega))).mono ?_
     rintro e w2 ⟨rfl,v2,g⟩
     have HS:Hid (∃ v,RecG tRecE tRecs wm w2 bo #[v] v (rl4 x)):=Lib.hid ⟨v2,by unfold rl4;rw [HT.out.1];exact g⟩
     clear g
     go_wp2
     go_meet
     exact HS
 case rest =>
 have HS:=hcut
 obtain ⟨v2,g⟩:=HS.out
 clear HS hcut
 obtain ⟨w2,rfl⟩:∃ W:World,W=wc:=⟨_,rfl⟩
 have G2:Hid (RecG tRecE tRecs wm w2 bo #[v2] v2 (rl4 x)):=Lib.hid (by exact g)
 clear g G h0 h1 h2 h3 h4 h5 h6 h7 h8 h9 h10 m0 m1 m2 m3 m4 m5 m6
 obtain ⟨v,rfl⟩:∃ V:Value,V=v2:=⟨_,rfl⟩
 obtain ⟨w1,rfl⟩:∃ W:World,W=w2:=⟨_,rfl⟩
 have G:=G2
 clear G2
 obtain ⟨h0,h1,h2,h3,h4,h5,h6,h7,h8,h9,h10⟩:=(G.out.ent HE.out hxo).zero
 obtain ⟨m0,m1,m2,m3,m4,m5,m6⟩:=G.out.met HMT.out hmo
 go_wp2_with fail
 refine (Add_any bo _ kPath x.path _ _ _ _ G.out (Nat.le_trans (rl4_len x) (by omega))).mono ?_
 rintro e w2 ⟨rfl,v2,g⟩
 rw [recIf_path] at g
 have G2:Hid (RecG tRecE tRecs wm w2 bo #[v2] v2 (rl5 x)):=Lib.hid (by exact g)
 clear g G h0 h1 h2 h3 h4 h5 h6 h7 h8 h9 h10 m0 m1 m2 m3 m4 m5 m6
 obtain ⟨v,rfl⟩:∃ V:Value,V=v2:=⟨_,rfl⟩
 obtain ⟨w1,rfl⟩:∃ W:World,W=w2:=⟨_,rfl⟩
 have G:=G2
 clear G2
 obtain ⟨h0,h1,h2,h3,h4,h5,h6,h7,h8,h9,h10⟩:=(G.out.ent HE.out hxo).zero
 obtain ⟨m0,m1,m2,m3,m4,m5,m6⟩:=G.out.met HMT.out hmo
 go_upto_region 14 with fail
 have hdr:RecG tRecE tRecs wm w1.drew bo #[v] v (rl5 x):=G.out.below ((Below.refl _ _).drew)
 have HITO:=Lib.hid (fun W (hW:RecG tRecE tRecs wm W bo #[v] v (rl5 x))=>show Calls Tryz.prog 104 #[.int .i64 x.mt.uid] W (fun e w'=>e = .returned (.string (itoaB x.mt.uid))/\w'.cell? ⟨bm,1,none⟩=some (.int .i64 x.mt.uid)/\RecG tRecE tRecs wm w' bo #[v] v (rl5 x)) from
  (Itoa_any x.mt.uid W (by unfold i64;omega) (HTW.out.below (hW.bel HBM.out HLOW.out))).mono fun e w' hh=>by
    have g:=hW.below hh.2
    exact ⟨hh.1,(g.met HMT.out hmo).2.1,g⟩)
 have HADD:=Lib.hid (fun W (hW:RecG tRecE tRecs wm W bo #[v] v (rl5 x))=>show Calls Tryz.prog 102 #[.bool (decide (2097152<=x.mt.uid)),.string kUid,.string (itoaB x.mt.uid),.pointer (some ⟨bo,0,none⟩)] W (fun e w'=>e = .returned (.tuple #[])/\w'.cell? ⟨bm,1,none⟩=some (.int .i64 x.mt.uid)/\Hid (∃ v,RecG tRecE tRecs wm w' bo #[v] v (rl6 x))) from
  (Add_any bo _ kUid _ _ W _ _ hW (Nat.le_trans (rl5_len x) (by omega))).mono fun e w' hh=>by
    obtain ⟨he,v',g⟩:=hh
    refine ⟨he,(g.met HMT.out hmo).2.1,Lib.hid ⟨v',?_⟩⟩
    rw [recIf_num] at g
    exact g)
 go_upto_region 14 with fail
 go_cut [89] from 82 to 89 (fun u wy=>Hid (∃ v,RecG tRecE tRecs wm wy bo #[v] v (rl6 x)))
 case first =>
  go_region_held3 (fun w'=>w'.cell? ⟨bm,1,none⟩=some (.int .i64 x.mt.uid)) (go_keep)
   (first
     | (go_at_call 104;refine (HITO.out _ ?_).mono ?_;assumption;rintro e w3 ⟨rfl,r0,hg3⟩)
     | (go_at_call 102;refine (HADD.out _ ?_).mono ?_;assumption;rintro e w3 ⟨rfl,r0,hg4⟩))
  go_wp2_with fail
  go_meet
  case rel=>exact hg4
 case rest =>
 have HS:=hcut
 obtain ⟨v2,g⟩:=HS.out
 clear HITO HADD hdr HS hcut
 obtain ⟨w2,rfl⟩:∃ W:World,W=wc:=⟨_,rfl⟩
 have G2:Hid (RecG tRecE tRecs wm w2 bo #[v2] v2 (rl6 x)):=Lib.hid (by exact g)
 clear g G h0 h1 h2 h3 h4 h5 h6 h7 h8 h9 h10 m0 m1 m2 m3 m4 m5 m6
 obtain ⟨v,rfl⟩:∃ V:Value,V=v2:=⟨_,rfl⟩
 obtain ⟨w1,rfl⟩:∃ W:World,W=w2:=⟨_,rfl⟩
 have G:=G2
 clear G2
 obtain ⟨h0,h1,h2,h3,h4,h5,h6,h7,h8,h9,h10⟩:=(G.out.ent HE.out hxo).zero
 obtain ⟨m0,m1,m2,m3,m4,m5,m6⟩:=G.out.met HMT.out hmo
 go_wp2_with fail
 refine (Add_any bo _ kUname x.mt.user _ _ _ _ G.out (Nat.le_trans (rl6_len x) (by omega))).mono ?_
 rintro e w2 ⟨rfl,v2,g⟩
 rw [recIf_text _ _ 31 31 rfl] at g
 have G2:Hid (RecG tRecE tRecs wm w2 bo #[v2] v2 (rl7 x)):=Lib.hid (by exact g)
 clear g G h0 h1 h2 h3 h4 h5 h6 h7 h8 h9 h10 m0 m1 m2 m3 m4 m5 m6
 obtain ⟨v,rfl⟩:∃ V:Value,V=v2:=⟨_,rfl⟩
 obtain ⟨w1,rfl⟩:∃ W:World,W=w2:=⟨_,rfl⟩
 have G:=G2
 clear G2
 obtain ⟨h0,h1,h2,h3,h4,h5,h6,h7,h8,h9,h10⟩:=(G.out.ent HE.out hxo).zero
 obtain ⟨m0,m1,m2,m3,m4,m5,m6⟩:=G.out.met HMT.out hmo
 have c0:w1.cell? ⟨bo,0,none⟩=some v:=G.out.cell 0
 have HBW:=Lib.hid (G.out.bel HBM.out HLOW.out)
 have HOW:=Lib.hid (OwnRecs.mono (G.out.own) HBM.out.size)
 go_wp2
 go_ret2
 exact ⟨v,rfl,HOW.out,HBW.out⟩
set_option maxRecDepth 100000 in
set_option maxHeartbeats 1000000 in
theorem MemRecs_any (x : Ent) (w : World) (hx : x.Ok maxLen w) (hT : Pow10 w) :
 Calls Tryz.prog 42 #[x.val] w (RetRecs tRecE w (recordsOf x)):=by
 by_cases hE:entFault x=0
 ·rw [recordsOf_ok hE]
  exact MemRecs_ok x w hx hE hT
 ·rw [recordsOf_bad hE]
  have HBX:=Lib.hid ((Below.refl w.heap.size w).alloc (Nat.le_refl _) (.cells #[.string x.path,.int .i64 x.kind,.string x.target,.int .i64 x.mt.mode,.int .i64 x.mt.uid,.int .i64 x.mt.gid,.string x.mt.user,.string x.mt.group,.int .i64 x.mt.second,.int .i64 x.mt.nano,.slice x.da x.data.length x.dcap] 26))
  have HPR:=Lib.hid (fun W=>EntryFault_any x W hx.path hx.target hx.mt (by obtain ⟨_,_,_,_,_,h,_⟩:=hx.data;exact h) hx.kind (Nat.le_refl _))
  generalize entFault x=q at *
  have hq:(q != 0)=true:=by rw [bne_iff_ne];exact hE
  clear hx hE hT
  go_enter Tryz.func42,Tryz.ntmps42
  go_wp2_with fail
  refine (HPR.out _).mono ?_
  rintro e w1 ⟨rfl,hb⟩
  have HB1:=Lib.hid (HBX.out.trans (hb.mono HBX.out.size))
  clear hb
  go_wp2
  go_ret2
  exact ⟨_,rfl,OwnRecs.nil _ _ _,HB1.out⟩
end Go.Proofs.YtaffgndickdbiaaGreatDoor
