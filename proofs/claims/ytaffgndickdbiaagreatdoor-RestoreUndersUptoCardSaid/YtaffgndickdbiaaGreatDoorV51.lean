/- A part of the proof. -/
import Derived.Test.YtaffgndickdbiaaGreatDoorV49
import Derived.Test.YtaffgndickdbiaaGreatDoorV50
set_option linter.unusedVariables false
set_option linter.unusedSimpArgs false
set_option maxRecDepth 100000
set_option maxHeartbeats 2000000
namespace Go.Creel
open Go.RowKit
theorem C7m {α : Type} {N M n : Nat} {E F : World → List Value → α → Prop} {w : World} {cs : List Value} {l : List α} (h : A4a N n E w cs l) (hN : N ≤ M) (hE : ∀ c a,E w c a → F w c a) : A4a M n F w cs l := by
 obtain ⟨a,cap,h0,h1,h2,h3,h4,h5⟩:=h;refine ⟨a,cap,h0,h1,h2,Nat.le_trans h3 hN,h4,fun hp=>?_⟩;obtain ⟨b,off,e,hc⟩:=h5 hp;refine ⟨b,off,e,fun i hi=>?_⟩;obtain ⟨c,hl,hcc,he⟩:=hc i hi;exact ⟨c,hl,hcc,hE _ _ he⟩
theorem F9c {w : World} {cs : List Value} {x : Nod} (h : B6b 1048576 w cs x) : B6b maxLen w cs x := by
 have hm:(1048576:Nat)<=maxLen:=by unfold maxLen;omega
 obtain ⟨h0,h1⟩:=h;exact ⟨h0,Nat.le_trans h1.path hm,h1.kind,h1.same,Nat.le_trans h1.target hm,⟨h1.mt.mode,h1.mt.uid,h1.mt.gid,Nat.le_trans h1.mt.user hm,Nat.le_trans h1.mt.group hm,h1.mt.second,h1.mt.nano⟩,C7m h1.data hm (fun _ _ h=>h)⟩
theorem E1s {w : World} {v : Value} {l : List Nod} (h : A4a 1048576 12 (B6b 1048576) w [v] l) : A4a maxLen 12 (B6b maxLen) w [v] l := C7m h (by unfold maxLen; omega) (fun _ _ => F9c)
end Go.Creel
namespace Go.Proofs.YtaffgndickdbiaaGreatDoor
open Go.Creel Go.RowKit
theorem F2p (w : World) (h : laidMetH Tryz.prog Rows.restoreUndersUptoRow.laid w) : A7m w ∧ A6p w := by
 obtain ⟨ps,hp,_⟩:=(show laidMet Tryz.prog Rows.restoreUndersUptoRow.laid w from h)
 exact ⟨D2a (g:=3) (t:=249) (e:=220) (n:=20) (by kernel_rfl) (by kernel_rfl) (by kernel_rfl) (by kernel_rfl) (by kernel_rfl) (by kernel_rfl) _ ps 2 hp rfl,
  C6j (name := "strconv.ErrSyntax") (t:=88) (by kernel_rfl) (by kernel_rfl) Tryz.underlying88 _ ps 5 hp rfl,C6j (name := "strconv.ErrRange") (t:=88) (by kernel_rfl) (by kernel_rfl) Tryz.underlying88 _ ps 4 hp rfl⟩
theorem C2c (w : World) (vt : Value) (t : List Nod) (ht : A4a 1048576 12 (B6b 1048576) w [vt] t) (dir : ByteArray) (hd : dir.size ≤ 1048576) (v : Value) (b : List UInt8) (h : A4a 1048576 1 A1e w [v] b) (hsh : w.ShapedOpen Tryz.prog) (hL : laidMetH Tryz.prog Rows.restoreUndersUptoRow.laid w) :
 Calls Tryz.prog 10 #[vt,.string dir,v] w fun e w'=>e=.returned (.bool true)/\Below w.heap.size w w':=by
 have HM:=Hi (F9o w hsh);have HL:=Hi (F2p w hL);obtain ⟨hw,hbl⟩:=E9u h;have hwt:=E1s ht;have H1:=Hi (fun W (hb:Below w.heap.size w W)=>E1w vt t dir v b W (A8c hwt hb) (A3b hw hb) hbl (HM.out.below hb) (HL.out.2.below hb) (HL.out.1.below hb));have H2:=Hi (fun W (hb:Below w.heap.size w W)=>E0w vt t dir v b W (A8c hwt hb) (A3b hw hb) hbl (HM.out.below hb) (HL.out.2.below hb) (HL.out.1.below hb));have HLN:=Hi (D2p 40 t dir b);have HBO:=Hi (D5g t dir b);clear hsh hL h hw hbl ht hwt hd;generalize A6h 40 t dir b=p at *;generalize A6h 1000 t dir b=q at *;obtain ⟨l,e0⟩:=p;obtain ⟨m,f0⟩:=q;obtain ⟨hb1,hb2⟩:=HBO.out;simp only at hb1 hb2;subst hb2;have HBX:=Hi hb1;clear hb1 HBO;go_enter Tryz.func10,Tryz.ntmps10;go_wp2_with fail
 refine (H1.out _ (Below.refl _ _)).mono ?_;rintro e w1 ⟨v1,c1,rfl,ho,hc,hb⟩;have HB1:=Hi hb;have HO1:=Hi ho;have HC1:=Hi hc;clear ho hc hb;go_wp2_with fail
 refine (H2.out _ HB1.out).mono ?_;rintro e w2 ⟨v2,c2,rfl,ho,hc,hb⟩;have HB2:=Hi (HB1.out.trans (hb.mono HB1.out.size));have HO2:=Hi (HO1.out.below hb);have HP2:=Hi ho;have HCC:=Hi (HC1.out.trans (HBX.out.symm.trans hc.symm));have HN1:=Hi (show c1.length<=maxLen by rw [A5i HC1.out];exact Nat.le_trans HLN.out (by unfold maxLen;decide));have HN2:=Hi (show c2.length<=maxLen by rw [A5i (hc.trans HBX.out)];exact Nat.le_trans HLN.out (by unfold maxLen;decide));clear hb ho hc;have q1:(f0==f0)=true:=by simp
 go_wp2_with fail
 refine (E5f _ _ c1 c2 _ HCC.out (HO2.out.slice HN1.out) (HP2.out.slice HN2.out)).mono ?_;rintro e w3 ⟨rfl,hb⟩;have HB3:=Hi (HB2.out.trans (hb.mono HB2.out.size));clear hb;go_wp2;go_ret;exact ⟨rfl,HB3.out⟩
end Go.Proofs.YtaffgndickdbiaaGreatDoor
