import Derived.Test.YtmggflgdoioajaaGreatG10
import Derived.Deep.RegionHeld3
import Derived.BigQuiet
set_option linter.unusedSimpArgs false
set_option linter.unusedVariables false
namespace Go.Proofs.YtmggflgdoioajaaGreat
open Go.ChangeShapes Go.WideShapes Go.ChangeAt Go.RowKit
open Ieee.Format (fin finE htE allFin allHt all_true all_false mulF subF addF Ht Bd divF rootF floorF easeF mixF)
def combL (φ:Nat→Nat→Nat) (A B:List Nat):List Nat:=(List.range A.length).map fun i=>φ (A.getD i 0) (B.getD i 0)
theorem combL_len (φ:Nat→Nat→Nat) (A B:List Nat):(combL φ A B).length=A.length:=by simp [combL]
theorem combL_all (φ:Nat→Nat→Nat) (A B:List Nat):blL (fun i=>φ (A.getD i 0) (B.getD i 0)) A A.length=combL φ A B:=by simp [blL,combL]
theorem cb_world (w:World) (X Y:Int) (Wn Hn:Nat) (ba oa ca bb ob cb:Nat) (A B:List Nat) (ha:SRow w (some ⟨ba,oa,none⟩) A) (hb:SRow w (some ⟨bb,ob,none⟩) B)
  (ra:Right X Y Wn Hn A) (rb:Right X Y Wn Hn B):∀ W0,W0=(((w.alloc (.cells #[.int .i64 X,.int .i64 Y,.int .i64 Wn,.int .i64 Hn,.slice (some ⟨ba,oa,none⟩) A.length ca] 32)).alloc (.cells #[.int .i64 X,.int .i64 Y,.int .i64 Wn,.int .i64 Hn,.slice (some ⟨bb,ob,none⟩) B.length cb] 32)).alloc (.cells #[.int .i64 0,.int .i64 0,.int .i64 0,.int .i64 0,.slice none 0 0] 32)).alloc
   (.cells #[.int .i64 X,.int .i64 Y,.int .i64 Wn,.int .i64 Hn,.slice (some ⟨ba,oa,none⟩) A.length ca,.int .i64 X,.int .i64 Y,.int .i64 Wn,.int .i64 Hn,.slice (some ⟨bb,ob,none⟩) B.length cb] 32) →
  Fld W0 w.heap.size X Y Wn Hn (.slice (some ⟨ba,oa,none⟩) A.length ca)∧Fld W0 (w.heap.size+1) X Y Wn Hn (.slice (some ⟨bb,ob,none⟩) B.length cb)∧Fld W0 (w.heap.size+1+1) 0 0 0 0 (.slice none 0 0)∧Below w.heap.size w W0∧w.heap.size+1+1+1<W0.heap.size ∧
   (∀ i,i<2→FlAt W0 (w.heap.size+1+1+1) (0+i*5)):=by
 intro W0 hW
 have b0:Below w.heap.size w W0:=by subst hW;exact qBl
 have z:w.heap.size+1+1+1<W0.heap.size:=by subst hW;simp
 have k:Blk W0 (w.heap.size+1+1+1) #[.int .i64 X,.int .i64 Y,.int .i64 Wn,.int .i64 Hn,.slice (some ⟨ba,oa,none⟩) A.length ca,.int .i64 X,.int .i64 Y,.int .i64 Wn,.int .i64 Hn,.slice (some ⟨bb,ob,none⟩) B.length cb] 32:=by
  subst hW
  have:=Blk.new (((w.alloc (.cells #[.int .i64 X,.int .i64 Y,.int .i64 Wn,.int .i64 Hn,.slice (some ⟨ba,oa,none⟩) A.length ca] 32)).alloc (.cells #[.int .i64 X,.int .i64 Y,.int .i64 Wn,.int .i64 Hn,.slice (some ⟨bb,ob,none⟩) B.length cb] 32)).alloc (.cells #[.int .i64 0,.int .i64 0,.int .i64 0,.int .i64 0,.slice none 0 0] 32)) #[.int .i64 X,.int .i64 Y,.int .i64 Wn,.int .i64 Hn,.slice (some ⟨ba,oa,none⟩) A.length ca,.int .i64 X,.int .i64 Y,.int .i64 Wn,.int .i64 Hn,.slice (some ⟨bb,ob,none⟩) B.length cb] 32
  simpa using this
 refine ⟨?_,?_,?_,b0,z,?_⟩
 ·subst hW;exact (((Fld.new w X Y Wn Hn (.slice (some ⟨ba,oa,none⟩) A.length ca)).alloc _).alloc _).alloc _
 ·subst hW
  have:=((Fld.new (w.alloc (.cells #[.int .i64 X,.int .i64 Y,.int .i64 Wn,.int .i64 Hn,.slice (some ⟨ba,oa,none⟩) A.length ca] 32)) X Y Wn Hn (.slice (some ⟨bb,ob,none⟩) B.length cb)).alloc (.cells #[.int .i64 0,.int .i64 0,.int .i64 0,.int .i64 0,.slice none 0 0] 32)).alloc (.cells #[.int .i64 X,.int .i64 Y,.int .i64 Wn,.int .i64 Hn,.slice (some ⟨ba,oa,none⟩) A.length ca,.int .i64 X,.int .i64 Y,.int .i64 Wn,.int .i64 Hn,.slice (some ⟨bb,ob,none⟩) B.length cb] 32)
  simpa using this
 ·subst hW
  have:=(Fld.new ((w.alloc (.cells #[.int .i64 X,.int .i64 Y,.int .i64 Wn,.int .i64 Hn,.slice (some ⟨ba,oa,none⟩) A.length ca] 32)).alloc (.cells #[.int .i64 X,.int .i64 Y,.int .i64 Wn,.int .i64 Hn,.slice (some ⟨bb,ob,none⟩) B.length cb] 32)) 0 0 0 0 (.slice none 0 0)).alloc (.cells #[.int .i64 X,.int .i64 Y,.int .i64 Wn,.int .i64 Hn,.slice (some ⟨ba,oa,none⟩) A.length ca,.int .i64 X,.int .i64 Y,.int .i64 Wn,.int .i64 Hn,.slice (some ⟨bb,ob,none⟩) B.length cb] 32)
  simpa using this
 ·intro i hi
  clear hW
  match i,hi with
  | 0,_=>exact ⟨X,Y,Wn,Hn,ba,oa,ca,A,ra,SRow.below ha b0,k.cell 0,k.cell 1,k.cell 2,k.cell 3,k.cell 4⟩
  | 1,_=>exact ⟨X,Y,Wn,Hn,bb,ob,cb,B,rb,SRow.below hb b0,k.cell 5,k.cell 6,k.cell 7,k.cell 8,k.cell 9⟩
structure CbInv (w wr:World) (B0 k5 g cap:Nat) (X Y W H:Int) (va vb:Value) (n:Nat) (m:List Nat):Prop where
 fa:Fld wr w.heap.size X Y W H va
 fb:Fld wr (w.heap.size+1) X Y W H vb
 fz:Fld wr (w.heap.size+1+1) 0 0 0 0 (.slice none 0 0)
 fc:Fld wr k5 X Y W H (.slice (some ⟨g,0,none⟩) n cap)
 own:OwnF wr B0 g cap m
 below:Below w.heap.size w wr
theorem CbInv.store {w wr:World} {B0 k5 g cap n:Nat} {X Y W H:Int} {va vb:Value} {m:List Nat} (h:CbInv w wr B0 k5 g cap X Y W H va vb n m) (hg:g≠k5) (hg1:w.heap.size+1+1<g) (k x:Nat) (hx:x<4294967296) :
  CbInv w (wr.setCell ⟨g,k,none⟩ (.float .f32 x)).drew B0 k5 g cap X Y W H va vb n (m.set k x):=
 ⟨(h.fa.setCell (p:=⟨g,k,none⟩) (by show w.heap.size≠g;omega) _).drew,(h.fb.setCell (p:=⟨g,k,none⟩) (by show w.heap.size+1≠g;omega) _).drew,(h.fz.setCell (p:=⟨g,k,none⟩) (by show w.heap.size+1+1≠g;omega) _).drew,(h.fc.setCell (p:=⟨g,k,none⟩) (Ne.symm hg) _).drew,(h.own.store k x hx).drew,
  (h.below.setCell (p:=⟨g,k,none⟩) (by show w.heap.size≤g;omega) _).drew⟩
set_option maxRecDepth 100000 in
set_option maxHeartbeats 1000000 in
theorem combine_bad (gn:Nat) (X Y:Int) (Wn Hn:Nat) (ba oa ca bb ob cb:Nat) (A B:List Nat) (w:World) (ha:SRow w (some ⟨ba,oa,none⟩) A) (hb:SRow w (some ⟨bb,ob,none⟩) B)
  (ra:Right X Y Wn Hn A) (rb:Right X Y Wn Hn B)
  (KO:∀ w',Calls Tryz.prog 119 #[.int .i64 4] w' fun e w''=>e=.returned (.func (.func gn) #[] #[])∧w'=w'')
  (KN:∀ w',SRow w' (some ⟨bb,ob,none⟩) B→Calls Tryz.prog 120 #[.slice (some ⟨bb,ob,none⟩) B.length cb,.float .f32 0] w' fun e w''=>e=.returned (.bool true)∧w'=w'') :
  Calls Tryz.prog 79 #[.int .i64 4,fldV X Y Wn Hn (some ⟨ba,oa,none⟩) A.length ca,fldV X Y Wn Hn (some ⟨bb,ob,none⟩) B.length cb] w fun e w'=>e=.returned (.tuple #[fldV 0 0 0 0 none 0 0,.int .i64 3])∧Below w.heap.size w w':=by
 have HBr:=Lib.hid hb
 have CW:=Lib.hid (cb_world w X Y Wn Hn ba oa ca bb ob cb A B ha hb ra rb)
 have KO:=Lib.hid KO
 have KN:=Lib.hid KN
 clear ha hb ra rb
 go_enter Tryz.func79,Tryz.ntmps79
 go_wp2_with fail
 generalize hW0:(((w.alloc (.cells #[.int .i64 X,.int .i64 Y,.int .i64 Wn,.int .i64 Hn,.slice (some ⟨ba,oa,none⟩) A.length ca] 32)).alloc (.cells #[.int .i64 X,.int .i64 Y,.int .i64 Wn,.int .i64 Hn,.slice (some ⟨bb,ob,none⟩) B.length cb] 32)).alloc (.cells #[.int .i64 0,.int .i64 0,.int .i64 0,.int .i64 0,.slice none 0 0] 32)).alloc (.cells #[.int .i64 X,.int .i64 Y,.int .i64 Wn,.int .i64 Hn,.slice (some ⟨ba,oa,none⟩) A.length ca,.int .i64 X,.int .i64 Y,.int .i64 Wn,.int .i64 Hn,.slice (some ⟨bb,ob,none⟩) B.length cb] 32)=W0
 obtain ⟨EA,EB,EZ,B0,z0,hfl⟩:=CW.out W0 hW0.symm
 clear hW0 CW
 refine (checkall_any _ 0 2 2 _ z0 (by omega) hfl).mono ?_
 rintro e w1 ⟨rfl,b1⟩
 have HEA:=Lib.hid (EA.below b1 EA.lt)
 have HEB:=Lib.hid (EB.below b1 EB.lt)
 have HEZ:=Lib.hid (EZ.below b1 EZ.lt)
 have HB1:=Lib.hid (B0.trans (b1.mono B0.size))
 clear EA EB EZ B0 z0 hfl b1
 obtain ⟨a0,a1,a2,a3,a4⟩:=HEA.out.cells
 obtain ⟨b0,b1,b2,b3,b4⟩:=HEB.out.cells
 have l2:w.heap.size+1+1<w1.heap.size:=HEZ.out.lt
 have l1:w.heap.size+1<w1.heap.size:=by omega
 have l0:w.heap.size<w1.heap.size:=by omega
 have kn:=fun w=>neqReg X Y Wn Hn X Y Wn Hn w
 have kg:=fun x y w=>eqGuardReg .neq x y X Y Wn Hn X Y Wn Hn w
 go_wp2_with fail
 refine (KO.out _).mono ?_
 rintro e w2 ⟨rfl,rfl⟩
 have kf:∀ w,(binOp .eql 148 (.func (.func gn) #[] #[]) .nilFunc).run Tryz.prog w=.ok (.bool false) w:=fun w=>rfl
 go_wp2_with fail
 refine (KN.out _ (HBr.out.below HB1.out)).mono ?_
 rintro e w2 ⟨rfl,rfl⟩
 clear a0 a1 a2 a3 a4 b0 b1 b2 b3 b4 kn kg
 obtain ⟨d0,d1,d2,d3,d4⟩:=HEZ.out.cells
 have qf0:=HEZ.out.frozen 0
 have qf1:=HEZ.out.frozen 1
 have qf2:=HEZ.out.frozen 2
 have qf3:=HEZ.out.frozen 3
 have qf4:=HEZ.out.frozen 4
 go_wp2_with fail
 have B3:=HB1.out
 exact bodyPost_ret (v:=.tuple #[fldV 0 0 0 0 none 0 0,.int .i64 3]) (by simp [results,Tryz.results79,go_sem, *]) rfl ⟨rfl,(qBo B3)⟩
set_option maxRecDepth 100000 in
set_option maxHeartbeats 2000000 in
theorem combine_ok (op:Int) (gn:Nat) (φ:Nat→Nat→Nat) (X Y:Int) (Wn Hn:Nat) (ba oa ca bb ob cb:Nat) (A B:List Nat) (w:World) (ha:SRow w (some ⟨ba,oa,none⟩) A) (hb:SRow w (some ⟨bb,ob,none⟩) B)
  (ra:Right X Y Wn Hn A) (rb:Right X Y Wn Hn B) (eg:∀ args w,(callFunc gn args).run Tryz.prog w=.ok (.enter gn args) w) (hφ:∀ k,k<A.length→φ (A.getD k 0) (B.getD k 0)<4294967296)
  (KO:∀ w',Calls Tryz.prog 119 #[.int .i64 op] w' fun e w''=>e=.returned (.func (.func gn) #[] #[])∧w'=w'')
  (KN:op=4→∀ w',SRow w' (some ⟨bb,ob,none⟩) B→Calls Tryz.prog 120 #[.slice (some ⟨bb,ob,none⟩) B.length cb,.float .f32 0] w' fun e w''=>e=.returned (.bool false)∧w'=w'')
  (KM:∀ k,k<A.length→∀ w',Calls Tryz.prog gn (#[.float .f32 (A.getD k 0),.float .f32 (B.getD k 0)] ++ #[]) w' fun e w''=>e=.returned (.float .f32 (φ (A.getD k 0) (B.getD k 0)))∧w'=w'') :
  Calls Tryz.prog 79 #[.int .i64 op,fldV X Y Wn Hn (some ⟨ba,oa,none⟩) A.length ca,fldV X Y Wn Hn (some ⟨bb,ob,none⟩) B.length cb] w fun e w'=>OpP (resC (combL φ A B)) X Y Wn Hn (combL φ A B) w e w':=by
 have HA:=Lib.hid ha
 have HBr:=Lib.hid hb
 have CW:=Lib.hid (cb_world w X Y Wn Hn ba oa ca bb ob cb A B ha hb ra rb)
 have hne:A≠[]:=ra.ne
 have KP:=Lib.hid (fun w h=>copy_any X Y Wn Hn ba oa ca A w h hne)
 have KO:=Lib.hid KO
 have KN:=Lib.hid KN
 have KM:=Lib.hid KM
 have HP:=Lib.hid hφ
 have HEG:=Lib.hid eg
 have hAl:A.length≤262144:=by have:=Nat.mul_le_mul ra.h2 ra.w2;rw [ra.len];omega
 have HAB:Hid (B.length=A.length):=by unfold Hid;rw [rb.len,ra.len]
 have KR:=Lib.hid (fun g cap B' w ho=>result_any X Y Wn Hn g cap B' (combL φ A B) w ho (by rw [combL_len];omega))
 clear ha hb ra rb hne hφ
 have hml:Hid ((combL φ A B).length=A.length):=combL_len φ A B
 generalize hM:combL φ A B=M at *
 have HMM:=Lib.hid hM
 clear hM
 generalize resC M=C at *
 go_enter Tryz.func79,Tryz.ntmps79
 go_wp2_with fail
 generalize hW0:(((w.alloc (.cells #[.int .i64 X,.int .i64 Y,.int .i64 Wn,.int .i64 Hn,.slice (some ⟨ba,oa,none⟩) A.length ca] 32)).alloc (.cells #[.int .i64 X,.int .i64 Y,.int .i64 Wn,.int .i64 Hn,.slice (some ⟨bb,ob,none⟩) B.length cb] 32)).alloc (.cells #[.int .i64 0,.int .i64 0,.int .i64 0,.int .i64 0,.slice none 0 0] 32)).alloc (.cells #[.int .i64 X,.int .i64 Y,.int .i64 Wn,.int .i64 Hn,.slice (some ⟨ba,oa,none⟩) A.length ca,.int .i64 X,.int .i64 Y,.int .i64 Wn,.int .i64 Hn,.slice (some ⟨bb,ob,none⟩) B.length cb] 32)=W0
 obtain ⟨EA,EB,EZ,B0,z0,hfl⟩:=CW.out W0 hW0.symm
 clear hW0 CW
 refine (checkall_any _ 0 2 2 _ z0 (by omega) hfl).mono ?_
 rintro e w1 ⟨rfl,b1⟩
 have HEA:=Lib.hid (EA.below b1 EA.lt)
 have HEB:=Lib.hid (EB.below b1 EB.lt)
 have HEZ:=Lib.hid (EZ.below b1 EZ.lt)
 have HB1:=Lib.hid (B0.trans (b1.mono B0.size))
 clear EA EB EZ B0 z0 hfl b1
 obtain ⟨a0,a1,a2,a3,a4⟩:=HEA.out.cells
 obtain ⟨b0,b1,b2,b3,b4⟩:=HEB.out.cells
 have l2:w.heap.size+1+1<w1.heap.size:=HEZ.out.lt
 have l1:w.heap.size+1<w1.heap.size:=by omega
 have l0:w.heap.size<w1.heap.size:=by omega
 have kn:=fun w=>neqReg X Y Wn Hn X Y Wn Hn w
 have kg:=fun x y w=>eqGuardReg .neq x y X Y Wn Hn X Y Wn Hn w
 go_wp2_with fail
 refine (KO.out _).mono ?_
 rintro e w2 ⟨rfl,rfl⟩
 have kf:∀ w,(binOp .eql 148 (.func (.func gn) #[] #[]) .nilFunc).run Tryz.prog w=.ok (.bool false) w:=fun w=>rfl
 clear eg
 by_cases h4:op=4
 ·subst h4
  have HKN:=Lib.hid (KN.out rfl)
  clear KN
  go_wp2_with fail
  refine (HKN.out _ (HBr.out.below HB1.out)).mono ?_
  rintro e w2 ⟨rfl,rfl⟩
  clear HKN b0 b1 b2 b3 b4 kn kg
  go_wp2_with fail
  refine (KP.out _ (HA.out.below HB1.out)).mono ?_
  rintro e w2 ⟨g,cap,rfl,ho,b5⟩
  have FA:Fld w2 w.heap.size X Y Wn Hn (.slice (some ⟨ba,oa,none⟩) A.length ca):=HEA.out.below b5 HEA.out.lt
  have FB:Fld w2 (w.heap.size+1) X Y Wn Hn (.slice (some ⟨bb,ob,none⟩) B.length cb):=HEB.out.below b5 HEB.out.lt
  have FZ:Fld w2 (w.heap.size+1+1) 0 0 0 0 (.slice none 0 0):=HEZ.out.below b5 HEZ.out.lt
  have B2:=HB1.out.trans (b5.mono HB1.out.size)
  obtain ⟨B0,hB0⟩:∃ B0,w1.heap.size=B0:=⟨_,rfl⟩
  have O2:OwnF w2 B0 g cap A:=by rw [←hB0];exact ho
  have HB0:Hid (w.heap.size+1+1<B0):=by unfold Hid;omega
  clear hB0
  have gl:w.heap.size+1+1<g:=by have:=O2.lt.1;have:=HB0.out;omega
  have FAH:=Lib.hid FA
  have FBH:=Lib.hid FB
  have FZH:=Lib.hid FZ
  have B2H:=Lib.hid B2
  have O2H:=Lib.hid O2
  clear ho b5 a0 a1 a2 a3 a4 l0 l1 l2 HEA HEB HEZ HB1 KP B2 O2 FB FZ
  obtain ⟨a0,a1,a2,a3,a4⟩:=FA.cells
  have la:=FA.lt
  clear FA
  go_wp2_with fail
  generalize hW3:w2.alloc (.cells #[.int .i64 X,.int .i64 Y,.int .i64 Wn,.int .i64 Hn,.slice (some ⟨g,0,none⟩) A.length cap] 32)=W3
  generalize hk5:w2.heap.size=k5
  have I0:CbInv w W3 B0 k5 g cap X Y Wn Hn (.slice (some ⟨ba,oa,none⟩) A.length ca) (.slice (some ⟨bb,ob,none⟩) B.length cb) A.length (blL (fun i=>φ (A.getD i 0) (B.getD i 0)) A 0):=by
   exact qx80
  have gk:g≠k5:=by have:=O2H.out.lt.2;omega
  clear hW3 hk5 a0 a1 a2 a3 a4 la FAH FBH FZH B2H O2H
  have HI0:=Lib.hid I0
  clear I0
  go_loopw [11,12,48] (fun _ _ i wr=>∃ k:Nat,k≤A.length∧i=.int .i64 k∧CbInv w wr B0 k5 g cap X Y Wn Hn (.slice (some ⟨ba,oa,none⟩) A.length ca) (.slice (some ⟨bb,ob,none⟩) B.length cb) A.length (blL (fun i=>φ (A.getD i 0) (B.getD i 0)) A k)) (fun _ _ i _=>A.length-(intOf i).toNat)
  case atStart=>exact ⟨0,by omega,rfl,HI0.out⟩
  case round =>
   clear HI0
   obtain ⟨k,hk,rfl,I⟩:=hrel
   by_cases hlt:k<A.length
   ·have hcA:=(SRow.below HA.out I.below).at_ hlt
    have hB2:k<B.length:=by have:=HAB.out;omega
    have hcB:=(SRow.below HBr.out I.below).at_ hB2
    obtain ⟨hown,hfro⟩:=I.own.at_ (k:=k) (by rw [blL_len _ _ _ (by omega)];exact hlt)
    have hst:Hid (CbInv w (wr.setCell ⟨g,k,none⟩ (.float .f32 (φ (A.getD k 0) (B.getD k 0)))).drew B0 k5 g cap X Y Wn Hn (.slice (some ⟨ba,oa,none⟩) A.length ca) (.slice (some ⟨bb,ob,none⟩) B.length cb) A.length (blL (fun i=>φ (A.getD i 0) (B.getD i 0)) A (k+1))):=by
     have:=I.store gk gl k (φ (A.getD k 0) (B.getD k 0)) (HP.out k hlt)
     rw [blL_succ (fun i=>φ (A.getD i 0) (B.getD i 0)) A k hlt] at this
     exact this
    have hcall:=Lib.hid (KM.out k hlt)
    have c4:=I.fc.cells.2.2.2.2
    have e4:=I.fb.cells.2.2.2.2
    have hltB:(k:Int)<(B.length:Int):=by omega
    have hltA:(k:Int)<(A.length:Int):=by omega
    clear I
    generalize hx:φ (A.getD k 0) (B.getD k 0)=y at *
    clear hx
    generalize A.getD k 0=va at *
    generalize B.getD k 0=vb at *
    generalize (blL (fun i=>φ (A.getD i 0) (B.getD i 0)) A k).getD k 0=z at *
    have eg:=HEG.out
    go_wp2_with fail
    go_region_with (go_at_fn gn;refine (hcall.out _).mono ?_;rintro e2 w2 ⟨rfl,rfl⟩)
    all_goals
     go_wp2
     go_roundw
     case rel=>exact ⟨k+1,by omega,by go_num,hst.out⟩
     case measure=>simp [intOf];omega
   ·exact qx25
 ·have hb4:(op == 4)=false:=by simpa using h4
  clear h4 KN
  go_wp2_with fail
  refine (KP.out _ (HA.out.below HB1.out)).mono ?_
  rintro e w2 ⟨g,cap,rfl,ho,b5⟩
  have FA:Fld w2 w.heap.size X Y Wn Hn (.slice (some ⟨ba,oa,none⟩) A.length ca):=HEA.out.below b5 HEA.out.lt
  have FB:Fld w2 (w.heap.size+1) X Y Wn Hn (.slice (some ⟨bb,ob,none⟩) B.length cb):=HEB.out.below b5 HEB.out.lt
  have FZ:Fld w2 (w.heap.size+1+1) 0 0 0 0 (.slice none 0 0):=HEZ.out.below b5 HEZ.out.lt
  have B2:=HB1.out.trans (b5.mono HB1.out.size)
  obtain ⟨B0,hB0⟩:∃ B0,w1.heap.size=B0:=⟨_,rfl⟩
  have O2:OwnF w2 B0 g cap A:=by rw [←hB0];exact ho
  have HB0:Hid (w.heap.size+1+1<B0):=by unfold Hid;omega
  clear hB0
  have gl:w.heap.size+1+1<g:=by have:=O2.lt.1;have:=HB0.out;omega
  have FAH:=Lib.hid FA
  have FBH:=Lib.hid FB
  have FZH:=Lib.hid FZ
  have B2H:=Lib.hid B2
  have O2H:=Lib.hid O2
  clear ho b5 a0 a1 a2 a3 a4 l0 l1 l2 HEA HEB HEZ HB1 KP B2 O2 FB FZ
  obtain ⟨a0,a1,a2,a3,a4⟩:=FA.cells
  have la:=FA.lt
  clear FA
  go_wp2_with fail
  generalize hW3:w2.alloc (.cells #[.int .i64 X,.int .i64 Y,.int .i64 Wn,.int .i64 Hn,.slice (some ⟨g,0,none⟩) A.length cap] 32)=W3
  generalize hk5:w2.heap.size=k5
  have I0:CbInv w W3 B0 k5 g cap X Y Wn Hn (.slice (some ⟨ba,oa,none⟩) A.length ca) (.slice (some ⟨bb,ob,none⟩) B.length cb) A.length (blL (fun i=>φ (A.getD i 0) (B.getD i 0)) A 0):=by
   exact qx80
  have gk:g≠k5:=by have:=O2H.out.lt.2;omega
  clear hW3 hk5 a0 a1 a2 a3 a4 la FAH FBH FZH B2H O2H
  have HI0:=Lib.hid I0
  clear I0
  go_loopw [11,12,48] (fun _ _ i wr=>∃ k:Nat,k≤A.length∧i=.int .i64 k∧CbInv w wr B0 k5 g cap X Y Wn Hn (.slice (some ⟨ba,oa,none⟩) A.length ca) (.slice (some ⟨bb,ob,none⟩) B.length cb) A.length (blL (fun i=>φ (A.getD i 0) (B.getD i 0)) A k)) (fun _ _ i _=>A.length-(intOf i).toNat)
  case atStart=>exact ⟨0,by omega,rfl,HI0.out⟩
  case round =>
   clear HI0
   obtain ⟨k,hk,rfl,I⟩:=hrel
   by_cases hlt:k<A.length
   ·have hcA:=(SRow.below HA.out I.below).at_ hlt
    have hB2:k<B.length:=by have:=HAB.out;omega
    have hcB:=(SRow.below HBr.out I.below).at_ hB2
    obtain ⟨hown,hfro⟩:=I.own.at_ (k:=k) (by rw [blL_len _ _ _ (by omega)];exact hlt)
    have hst:Hid (CbInv w (wr.setCell ⟨g,k,none⟩ (.float .f32 (φ (A.getD k 0) (B.getD k 0)))).drew B0 k5 g cap X Y Wn Hn (.slice (some ⟨ba,oa,none⟩) A.length ca) (.slice (some ⟨bb,ob,none⟩) B.length cb) A.length (blL (fun i=>φ (A.getD i 0) (B.getD i 0)) A (k+1))):=by
     have:=I.store gk gl k (φ (A.getD k 0) (B.getD k 0)) (HP.out k hlt)
     rw [blL_succ (fun i=>φ (A.getD i 0) (B.getD i 0)) A k hlt] at this
     exact this
    have hcall:=Lib.hid (KM.out k hlt)
    have c4:=I.fc.cells.2.2.2.2
    have e4:=I.fb.cells.2.2.2.2
    have hltB:(k:Int)<(B.length:Int):=by omega
    have hltA:(k:Int)<(A.length:Int):=by omega
    clear I
    generalize hx:φ (A.getD k 0) (B.getD k 0)=y at *
    clear hx
    generalize A.getD k 0=va at *
    generalize B.getD k 0=vb at *
    generalize (blL (fun i=>φ (A.getD i 0) (B.getD i 0)) A k).getD k 0=z at *
    have eg:=HEG.out
    go_wp2_with fail
    go_region_with (go_at_fn gn;refine (hcall.out _).mono ?_;rintro e2 w2 ⟨rfl,rfl⟩)
    all_goals
     go_wp2
     go_roundw
     case rel=>exact ⟨k+1,by omega,by go_num,hst.out⟩
     case measure=>simp [intOf];omega
   ·exact qx25
def zrF (x:Nat):Bool:=FloatKind.f32.format.order 0 x == some .eq
theorem fidx_no (a:Option Addr) (c:Nat) (l:List Nat) (w:World) (hl:SRow w a l) (hf:∀ i,i<l.length→zrF (l.getD i 0)=false) :
  Calls Tryz.prog 153 #[.slice a l.length c,.float .f32 0] w fun e w'=>e=.returned (.int .i64 (-1))∧w=w':=by
 have HL:=Lib.hid hl
 have HF:=Lib.hid hf
 have hn:l.length≤1099511627776:=hl.1.1
 clear hl hf
 go_enter Tryz.func153,Tryz.ntmps153
 go_wp2
 go_loop [5,8] (fun _ i=>∃ k:Nat,k≤l.length∧i=.int .i64 k) (fun _ i=>l.length-(intOf i).toNat)
 case atStart=>exact ⟨0,by omega,rfl⟩
 case round =>
  obtain ⟨k,hk,rfl⟩:=hrel
  by_cases hlt:k<l.length
  ·obtain ⟨b,o,rfl,hc⟩:=HL.out.cellAt k hlt
   have KF:=HF.out k hlt
   unfold zrF at KF
   generalize l.getD k 0=x at *
   go_wp2
   go_round
   case rel=>exact ⟨k+1,by omega,by go_num⟩
   case measure=>simp [intOf];omega
  ·go_wp2
   go_ret
   exact ⟨rfl,rfl⟩
theorem fidx_yes (a:Option Addr) (c:Nat) (l:List Nat) (w:World) (hl:SRow w a l) (j:Nat) (hj:j<l.length) (hf:∀ i,i<j→zrF (l.getD i 0)=false) (hf2:zrF (l.getD j 0)=true) :
  Calls Tryz.prog 153 #[.slice a l.length c,.float .f32 0] w fun e w'=>e=.returned (.int .i64 j)∧w=w':=by
 have HL:=Lib.hid hl
 have HF:=Lib.hid hf
 have HT:=Lib.hid hf2
 have hn:l.length≤1099511627776:=hl.1.1
 clear hl hf hf2
 go_enter Tryz.func153,Tryz.ntmps153
 go_wp2
 go_loop [5,8] (fun _ i=>∃ k:Nat,k≤j∧i=.int .i64 k) (fun _ i=>l.length-(intOf i).toNat)
 case atStart=>exact ⟨0,by omega,rfl⟩
 case round =>
  obtain ⟨k,hk,rfl⟩:=hrel
  have hlt:k<l.length:=by omega
  obtain ⟨b,o,rfl,hc⟩:=HL.out.cellAt k hlt
  by_cases hkj:k<j
  ·have KF:=HF.out k hkj
   unfold zrF at KF
   generalize l.getD k 0=x at *
   go_wp2
   go_round
   case rel=>exact ⟨k+1,by omega,by go_num⟩
   case measure=>simp [intOf];omega
  ·obtain rfl:k=j:=by omega
   have KF:=HT.out
   unfold zrF at KF
   generalize l.getD k 0=x at *
   go_wp2
   go_ret
   exact ⟨rfl,rfl⟩
theorem fcont_any (a:Option Addr) (c:Nat) (l:List Nat) (w:World) (hl:SRow w a l) :
  Calls Tryz.prog 120 #[.slice a l.length c,.float .f32 0] w fun e w'=>e=.returned (.bool (l.any zrF))∧w=w':=by
 rcases first_true (fun i=>zrF (l.getD i 0)) l.length with h|⟨j,hj,h1,h2⟩
 ·have hK:=fidx_no a c l w hl h
  have hall:l.any zrF=false:=by
   exact qx70
  rw [hall]
  have K:=Lib.hid hK
  clear hK hl h hall
  go_enter Tryz.func120,Tryz.ntmps120
  go_wp2_with fail
  refine (K.out).mono ?_
  rintro e w' ⟨rfl,rfl⟩
  go_wp2_with fail
  go_ret
  exact ⟨rfl,rfl⟩
 ·have hK:=fidx_yes a c l w hl j hj h1 h2
  have hall:l.any zrF=true:=by
   rw [List.any_eq_true]
   refine ⟨l[j],List.getElem_mem hj,?_⟩
   simpa only [List.getD_eq_getElem?_getD,List.getElem?_eq_getElem hj,Option.getD_some] using h2
  rw [hall]
  have hn:l.length≤1099511627776:=hl.1.1
  have K:=Lib.hid hK
  clear hK hl h1 h2 hall
  go_enter Tryz.func120,Tryz.ntmps120
  go_wp2_with fail
  refine (K.out).mono ?_
  rintro e w' ⟨rfl,rfl⟩
  go_wp2_with fail
  go_ret
  exact ⟨rfl,rfl⟩
def opF (op:Int) (a b:Nat):Nat:=
 if op=1 then addF a b else if op=2 then subF a b else if op=3 then mulF a b else if op=4 then divF a b else if op=5 then (if lss b a then b else a) else if op=6 then (if gtr b a then b else a) else (if gtr a b then 1065353216 else 0)
theorem cl_add (a b:Nat) (w:World) (ha:fin Ieee.single a) (hb:fin Ieee.single b):Calls Tryz.prog 146 (#[.float .f32 a,.float .f32 b] ++ #[]) w fun e w'=>e=.returned (.float .f32 (addF a b))∧w=w':=by
 have k:=fun w'=>run_float_arith (P:=Tryz.prog) w' .add 48 .f32 _ _ _ (Ieee.Format.bits_add ha hb)
 clear ha hb
 go_enter Tryz.func146,Tryz.ntmps146
 go_wp2
 go_ret
 exact ⟨rfl,rfl⟩
theorem cl_sub (a b:Nat) (w:World) (ha:fin Ieee.single a) (hb:fin Ieee.single b):Calls Tryz.prog 147 (#[.float .f32 a,.float .f32 b] ++ #[]) w fun e w'=>e=.returned (.float .f32 (subF a b))∧w=w':=by
 have k:=fun w'=>run_float_arith (P:=Tryz.prog) w' .sub 48 .f32 _ _ _ (Ieee.Format.bits_sub ha hb)
 clear ha hb
 go_enter Tryz.func147,Tryz.ntmps147
 go_wp2
 go_ret
 exact ⟨rfl,rfl⟩
theorem cl_mul (a b:Nat) (w:World) (ha:fin Ieee.single a) (hb:fin Ieee.single b):Calls Tryz.prog 148 (#[.float .f32 a,.float .f32 b] ++ #[]) w fun e w'=>e=.returned (.float .f32 (mulF a b))∧w=w':=by
 have k:=fun w'=>run_float_arith (P:=Tryz.prog) w' .mul 48 .f32 _ _ _ (Ieee.Format.bits_mul ha hb)
 clear ha hb
 go_enter Tryz.func148,Tryz.ntmps148
 go_wp2
 go_ret
 exact ⟨rfl,rfl⟩
theorem cl_div (a b:Nat) (w:World) (ha:fin Ieee.single a) (hb:fin Ieee.single b) (h0:zrF b=false):Calls Tryz.prog 149 (#[.float .f32 a,.float .f32 b] ++ #[]) w fun e w'=>e=.returned (.float .f32 (divF a b))∧w=w':=by
 have f0:fin Ieee.single 0:=by decide
 have hv:Ieee.single.V b≠0:=by
  have h1:(Ieee.single.order 0 b == some .eq)=false:=h0
  rw [Ieee.single.order_eq f0 hb] at h1
  have h2:Ieee.single.V 0=0:=by decide +kernel
  rw [h2] at h1
  intro h
  rw [h] at h1
  simp at h1
 have k:=fun w'=>run_float_arith (P:=Tryz.prog) w' .quo 48 .f32 _ _ _ (Ieee.Format.bits_div ha hb hv)
 clear ha hb h0 hv f0
 go_enter Tryz.func149,Tryz.ntmps149
 go_wp2
 go_ret
 exact ⟨rfl,rfl⟩
theorem cl_less (a b:Nat) (w:World):Calls Tryz.prog 150 (#[.float .f32 a,.float .f32 b] ++ #[]) w fun e w'=>e=.returned (.float .f32 (if lss b a then b else a))∧w=w':=by
 cases h:lss b a with
 | true =>
  have h':(FloatKind.f32.format.order b a == some .lt)=true:=h
  rw [if_pos rfl]
  go_enter Tryz.func150,Tryz.ntmps150
  go_wp2
  go_ret
  exact ⟨rfl,rfl⟩
 | false =>
  have h':(FloatKind.f32.format.order b a == some .lt)=false:=h
  rw [if_neg (by decide)]
  go_enter Tryz.func150,Tryz.ntmps150
  go_wp2
  go_ret
  exact ⟨rfl,rfl⟩
theorem cl_more (a b:Nat) (w:World):Calls Tryz.prog 151 (#[.float .f32 a,.float .f32 b] ++ #[]) w fun e w'=>e=.returned (.float .f32 (if gtr b a then b else a))∧w=w':=by
 cases h:gtr b a with
 | true =>
  have h':(FloatKind.f32.format.order b a == some .gt)=true:=h
  rw [if_pos rfl]
  go_enter Tryz.func151,Tryz.ntmps151
  go_wp2
  go_ret
  exact ⟨rfl,rfl⟩
 | false =>
  have h':(FloatKind.f32.format.order b a == some .gt)=false:=h
  rw [if_neg (by decide)]
  go_enter Tryz.func151,Tryz.ntmps151
  go_wp2
  go_ret
  exact ⟨rfl,rfl⟩
theorem cl_over (a b:Nat) (w:World):Calls Tryz.prog 152 (#[.float .f32 a,.float .f32 b] ++ #[]) w fun e w'=>e=.returned (.float .f32 (if gtr a b then 1065353216 else 0))∧w=w':=by
 cases h:gtr a b with
 | true =>
  have h':(FloatKind.f32.format.order a b == some .gt)=true:=h
  rw [if_pos rfl]
  go_enter Tryz.func152,Tryz.ntmps152
  go_wp2
  go_ret
  exact ⟨rfl,rfl⟩
 | false =>
  have h':(FloatKind.f32.format.order a b == some .gt)=false:=h
  rw [if_neg (by decide)]
  go_enter Tryz.func152,Tryz.ntmps152
  go_wp2
  go_ret
  exact ⟨rfl,rfl⟩
theorem opn_1 (w:World):Calls Tryz.prog 119 #[.int .i64 1] w fun e w'=>e=.returned (.func (.func 146) #[] #[])∧w=w':=by
 go_enter Tryz.func119,Tryz.ntmps119
 go_wp2
 go_ret
 exact ⟨rfl,rfl⟩
theorem opn_2 (w:World):Calls Tryz.prog 119 #[.int .i64 2] w fun e w'=>e=.returned (.func (.func 147) #[] #[])∧w=w':=by
 go_enter Tryz.func119,Tryz.ntmps119
 go_wp2
 go_ret
 exact ⟨rfl,rfl⟩
theorem opn_3 (w:World):Calls Tryz.prog 119 #[.int .i64 3] w fun e w'=>e=.returned (.func (.func 148) #[] #[])∧w=w':=by
 go_enter Tryz.func119,Tryz.ntmps119
 go_wp2
 go_ret
 exact ⟨rfl,rfl⟩
theorem opn_4 (w:World):Calls Tryz.prog 119 #[.int .i64 4] w fun e w'=>e=.returned (.func (.func 149) #[] #[])∧w=w':=by
 go_enter Tryz.func119,Tryz.ntmps119
 go_wp2
 go_ret
 exact ⟨rfl,rfl⟩
theorem opn_5 (w:World):Calls Tryz.prog 119 #[.int .i64 5] w fun e w'=>e=.returned (.func (.func 150) #[] #[])∧w=w':=by
 go_enter Tryz.func119,Tryz.ntmps119
 go_wp2
 go_ret
 exact ⟨rfl,rfl⟩
theorem opn_6 (w:World):Calls Tryz.prog 119 #[.int .i64 6] w fun e w'=>e=.returned (.func (.func 151) #[] #[])∧w=w':=by
 go_enter Tryz.func119,Tryz.ntmps119
 go_wp2
 go_ret
 exact ⟨rfl,rfl⟩
theorem opn_7 (w:World):Calls Tryz.prog 119 #[.int .i64 7] w fun e w'=>e=.returned (.func (.func 152) #[] #[])∧w=w':=by
 go_enter Tryz.func119,Tryz.ntmps119
 go_wp2
 go_ret
 exact ⟨rfl,rfl⟩
structure BlInv (w wr:World) (B0 k5 g cap:Nat) (X Y W H:Int) (va vb vs:Value) (n:Nat) (m:List Nat):Prop where
 fa:Fld wr w.heap.size X Y W H va
 fb:Fld wr (w.heap.size+1) X Y W H vb
 fs:Fld wr (w.heap.size+1+1) X Y W H vs
 fz:Fld wr (w.heap.size+1+1+1) 0 0 0 0 (.slice none 0 0)
 fc:Fld wr k5 X Y W H (.slice (some ⟨g,0,none⟩) n cap)
 own:OwnF wr B0 g cap m
 below:Below w.heap.size w wr
theorem BlInv.store {w wr:World} {B0 k5 g cap n:Nat} {X Y W H:Int} {va vb vs:Value} {m:List Nat} (h:BlInv w wr B0 k5 g cap X Y W H va vb vs n m) (hg:g≠k5) (hg1:w.heap.size+1+1+1<g) (k x:Nat) (hx:x<4294967296) :
  BlInv w (wr.setCell ⟨g,k,none⟩ (.float .f32 x)).drew B0 k5 g cap X Y W H va vb vs n (m.set k x):=
 ⟨(h.fa.setCell (p:=⟨g,k,none⟩) (by show w.heap.size≠g;omega) _).drew,(h.fb.setCell (p:=⟨g,k,none⟩) (by show w.heap.size+1≠g;omega) _).drew,(h.fs.setCell (p:=⟨g,k,none⟩) (by show w.heap.size+1+1≠g;omega) _).drew,(h.fz.setCell (p:=⟨g,k,none⟩) (by show w.heap.size+1+1+1≠g;omega) _).drew,(h.fc.setCell (p:=⟨g,k,none⟩) (Ne.symm hg) _).drew,(h.own.store k x hx).drew,(h.below.setCell (p:=⟨g,k,none⟩) (by show w.heap.size≤g;omega) _).drew⟩
set_option maxRecDepth 100000 in
set_option maxHeartbeats 2000000 in
theorem blend_ok (X Y:Int) (Wn Hn:Nat) (ba oa ca bb ob cb bs os cs:Nat) (A B S:List Nat) (w:World) (ha:SRow w (some ⟨ba,oa,none⟩) A) (hb:SRow w (some ⟨bb,ob,none⟩) B) (hs:SRow w (some ⟨bs,os,none⟩) S)
  (ra:Right X Y Wn Hn A) (rb:Right X Y Wn Hn B) (rs:Right X Y Wn Hn S) (hw:S.any noWt=false) :
  Calls Tryz.prog 71 #[fldV X Y Wn Hn (some ⟨ba,oa,none⟩) A.length ca,fldV X Y Wn Hn (some ⟨bb,ob,none⟩) B.length cb,fldV X Y Wn Hn (some ⟨bs,os,none⟩) S.length cs] w fun e w'=>OpP (resC (mixL A B S)) X Y Wn Hn (mixL A B S) w e w':=by
 have HA:=Lib.hid ha
 have HBr:=Lib.hid hb
 have HS:=Lib.hid hs
 have CW:=Lib.hid (ck_world w X Y Wn Hn ba oa ca bb ob cb bs os cs A B S ha hb hs ra rb rs)
 have KC:=Lib.hid (fun w h=>contains_any 102 #[] noWt (some ⟨bs,os,none⟩) cs S w h (enters_of Tryz.func102 (by kernel_rfl) rfl) (fun x=>noWtfn_any x w))
 rw [hw] at KC
 have hne:A≠[]:=ra.ne
 have KP:=Lib.hid (fun w h=>copy_any X Y Wn Hn ba oa ca A w h hne)
 have KM:=Lib.hid (fun k (hk:k<A.length) w=>mix_any 20 (A.getD k 0) (B.getD k 0) (S.getD k 0) w (Ieee.Format.Ht.bd (ra.getD k)) (Ieee.Format.Ht.bd (rb.getD k)) (wt_bd (Ieee.Format.Ht.bd (rs.getD k)).1 (by
  have hall:=hw
  rw [List.any_eq_false] at hall
  have hk2:k<S.length:=by rw [rs.len,←ra.len];exact hk
  have:=hall (S.getD k 0) (by rw [List.getD_eq_getElem?_getD,List.getElem?_eq_getElem hk2];exact List.getElem_mem hk2)
  simpa using this)) (by omega))
 have hAl:A.length≤262144:=by have:=Nat.mul_le_mul ra.h2 ra.w2;rw [ra.len];omega
 have HAB:Hid (B.length=A.length):=by unfold Hid;rw [rb.len,ra.len]
 have HAS:Hid (S.length=A.length):=by unfold Hid;rw [rs.len,ra.len]
 have KR:=Lib.hid (fun g cap B' w ho=>result_any X Y Wn Hn g cap B' (mixL A B S) w ho (by rw [mixL_len];omega))
 clear ha hb hs ra rb rs hw hne
 have hml:Hid ((mixL A B S).length=A.length):=mixL_len A B S
 generalize hM:mixL A B S=M at *
 have HMM:=Lib.hid hM
 clear hM
 generalize resC M=C at *
 go_enter Tryz.func71,Tryz.ntmps71
 go_wp2_with fail
 generalize hW0:((((w.alloc (.cells #[.int .i64 X,.int .i64 Y,.int .i64 Wn,.int .i64 Hn,.slice (some ⟨ba,oa,none⟩) A.length ca] 32)).alloc (.cells #[.int .i64 X,.int .i64 Y,.int .i64 Wn,.int .i64 Hn,.slice (some ⟨bb,ob,none⟩) B.length cb] 32)).alloc (.cells #[.int .i64 X,.int .i64 Y,.int .i64 Wn,.int .i64 Hn,.slice (some ⟨bs,os,none⟩) S.length cs] 32)).alloc (.cells #[.int .i64 0,.int .i64 0,.int .i64 0,.int .i64 0,.slice none 0 0] 32)).alloc (.cells #[.int .i64 X,.int .i64 Y,.int .i64 Wn,.int .i64 Hn,.slice (some ⟨ba,oa,none⟩) A.length ca,.int .i64 X,.int .i64 Y,.int .i64 Wn,.int .i64 Hn,.slice (some ⟨bb,ob,none⟩) B.length cb,.int .i64 X,.int .i64 Y,.int .i64 Wn,.int .i64 Hn,.slice (some ⟨bs,os,none⟩) S.length cs] 32)=W0
 obtain ⟨EA,EB,ES,EZ,B0,z0,hfl⟩:=CW.out W0 hW0.symm
 clear hW0 CW
 refine (checkall_any _ 0 3 3 _ z0 (by omega) hfl).mono ?_
 rintro e w1 ⟨rfl,b1⟩
 have HEA:=Lib.hid (EA.below b1 EA.lt)
 have HEB:=Lib.hid (EB.below b1 EB.lt)
 have HES:=Lib.hid (ES.below b1 ES.lt)
 have HEZ:=Lib.hid (EZ.below b1 EZ.lt)
 have HB1:=Lib.hid (B0.trans (b1.mono B0.size))
 clear EA EB ES EZ B0 z0 hfl b1
 obtain ⟨a0,a1,a2,a3,a4⟩:=HEA.out.cells
 obtain ⟨b0,b1,b2,b3,b4⟩:=HEB.out.cells
 obtain ⟨s0,s1,s2,s3,s4⟩:=HES.out.cells
 have l3:w.heap.size+1+1+1<w1.heap.size:=HEZ.out.lt
 have l2:w.heap.size+1+1<w1.heap.size:=by omega
 have l1:w.heap.size+1<w1.heap.size:=by omega
 have l0:w.heap.size<w1.heap.size:=by omega
 have kn:=fun w=>neqReg X Y Wn Hn X Y Wn Hn w
 have kg:=fun x y w=>eqGuardReg .neq x y X Y Wn Hn X Y Wn Hn w
 go_wp2_with fail
 refine (KC.out _ (HS.out.below HB1.out)).mono ?_
 rintro e w2 ⟨rfl,rfl⟩
 clear b0 b1 b2 b3 b4 s0 s1 s2 s3 s4 kn kg
 go_wp2_with fail
 refine (KP.out _ (HA.out.below HB1.out)).mono ?_
 rintro e w2 ⟨g,cap,rfl,ho,b5⟩
 have FA:Fld w2 w.heap.size X Y Wn Hn (.slice (some ⟨ba,oa,none⟩) A.length ca):=HEA.out.below b5 HEA.out.lt
 have FB:Fld w2 (w.heap.size+1) X Y Wn Hn (.slice (some ⟨bb,ob,none⟩) B.length cb):=HEB.out.below b5 HEB.out.lt
 have FS:Fld w2 (w.heap.size+1+1) X Y Wn Hn (.slice (some ⟨bs,os,none⟩) S.length cs):=HES.out.below b5 HES.out.lt
 have FZ:Fld w2 (w.heap.size+1+1+1) 0 0 0 0 (.slice none 0 0):=HEZ.out.below b5 HEZ.out.lt
 have B2:=HB1.out.trans (b5.mono HB1.out.size)
 obtain ⟨B0,hB0⟩:∃ B0,w1.heap.size=B0:=⟨_,rfl⟩
 have O2:OwnF w2 B0 g cap A:=by rw [←hB0];exact ho
 have HB0:Hid (w.heap.size+1+1+1<B0):=by unfold Hid;omega
 clear hB0
 have gl:w.heap.size+1+1+1<g:=by have:=O2.lt.1;have:=HB0.out;omega
 have FAH:=Lib.hid FA
 have FBH:=Lib.hid FB
 have FSH:=Lib.hid FS
 have FZH:=Lib.hid FZ
 have B2H:=Lib.hid B2
 have O2H:=Lib.hid O2
 clear ho b5 a0 a1 a2 a3 a4 l0 l1 l2 l3 HEA HEB HES HEZ HB1 KP KC B2 O2 FB FS FZ
 obtain ⟨a0,a1,a2,a3,a4⟩:=FA.cells
 have la:=FA.lt
 clear FA
 go_wp2_with fail
 generalize hW3:w2.alloc (.cells #[.int .i64 X,.int .i64 Y,.int .i64 Wn,.int .i64 Hn,.slice (some ⟨g,0,none⟩) A.length cap] 32)=W3
 generalize hk5:w2.heap.size=k5
 have I0:BlInv w W3 B0 k5 g cap X Y Wn Hn (.slice (some ⟨ba,oa,none⟩) A.length ca) (.slice (some ⟨bb,ob,none⟩) B.length cb) (.slice (some ⟨bs,os,none⟩) S.length cs) A.length (blL (fun i=>mixF (A.getD i 0) (B.getD i 0) (S.getD i 0)) A 0):=by
  rw [blL_zero]
  subst hW3 hk5
  exact ⟨FAH.out.alloc _,FBH.out.alloc _,FSH.out.alloc _,FZH.out.alloc _,Fld.new _ _ _ _ _ _,O2H.out.alloc _,B2H.out.alloc (by have:=B2H.out.size;omega) _⟩
 have gk:g≠k5:=by have:=O2H.out.lt.2;omega
 clear hW3 hk5 a0 a1 a2 a3 a4 la FAH FBH FSH FZH B2H O2H
 have HI0:=Lib.hid I0
 clear I0
 go_loopw [10,11,43] (fun _ _ i wr=>∃ k:Nat,k≤A.length∧i=.int .i64 k∧BlInv w wr B0 k5 g cap X Y Wn Hn (.slice (some ⟨ba,oa,none⟩) A.length ca) (.slice (some ⟨bb,ob,none⟩) B.length cb) (.slice (some ⟨bs,os,none⟩) S.length cs) A.length (blL (fun i=>mixF (A.getD i 0) (B.getD i 0) (S.getD i 0)) A k)) (fun _ _ i _=>A.length-(intOf i).toNat)
 case atStart=>exact ⟨0,by omega,rfl,HI0.out⟩
 case round =>
  clear HI0
  obtain ⟨k,hk,rfl,I⟩:=hrel
  by_cases hlt:k<A.length
  ·have hcA:=(SRow.below HA.out I.below).at_ hlt
   have hB2:k<B.length:=by have:=HAB.out;omega
   have hS2:k<S.length:=by have:=HAS.out;omega
   have hcB:=(SRow.below HBr.out I.below).at_ hB2
   have hcS:=(SRow.below HS.out I.below).at_ hS2
   obtain ⟨hown,hfro⟩:=I.own.at_ (k:=k) (by rw [blL_len _ _ _ (by omega)];exact hlt)
   have hst:Hid (BlInv w (wr.setCell ⟨g,k,none⟩ (.float .f32 (mixF (A.getD k 0) (B.getD k 0) (S.getD k 0)))).drew B0 k5 g cap X Y Wn Hn (.slice (some ⟨ba,oa,none⟩) A.length ca) (.slice (some ⟨bb,ob,none⟩) B.length cb) (.slice (some ⟨bs,os,none⟩) S.length cs) A.length (blL (fun i=>mixF (A.getD i 0) (B.getD i 0) (S.getD i 0)) A (k+1))):=by
    have:=I.store gk gl k (mixF (A.getD k 0) (B.getD k 0) (S.getD k 0)) (Ieee.Format.mixF_lt _ _ _)
    rw [blL_succ (fun i=>mixF (A.getD i 0) (B.getD i 0) (S.getD i 0)) A k hlt] at this
    exact this
   have hcall:=Lib.hid (KM.out k hlt)
   have c4:=I.fc.cells.2.2.2.2
   have e4:=I.fb.cells.2.2.2.2
   have f4:=I.fs.cells.2.2.2.2
   have hltB:(k:Int)<(B.length:Int):=by omega
   have hltS:(k:Int)<(S.length:Int):=by omega
   have hltA:(k:Int)<(A.length:Int):=by omega
   clear I
   generalize hx:mixF (A.getD k 0) (B.getD k 0) (S.getD k 0)=y at *
   clear hx
   generalize A.getD k 0=va at *
   generalize B.getD k 0=vb at *
   generalize S.getD k 0=vs at *
   generalize (blL (fun i=>mixF (A.getD i 0) (B.getD i 0) (S.getD i 0)) A k).getD k 0=z at *
   go_wp2_with fail
   go_region_with (go_at_call 104;refine (hcall.out _).mono ?_;rintro e2 w2 ⟨rfl,rfl⟩)
   all_goals
    go_wp2
    go_roundw
    case rel=>exact ⟨k+1,by omega,by go_num,hst.out⟩
    case measure=>simp [intOf];omega
  ·obtain rfl:k=A.length:=by omega
   have FI:=Lib.hid I
   rw [blL_all,HMM.out] at FI
   obtain ⟨c0,c1,c2,c3,c4⟩:=FI.out.fc.cells
   have lc:=FI.out.fc.lt
   clear I
   clear HMM
   go_wp2_with fail
   rw [←hml.out]
   refine (KR.out _ _ _ _ FI.out.own).mono ?_
   rintro e w4 ⟨⟨x,y,p,q,a,m,k,rfl,o4⟩,b4⟩
   have HOZ:=Lib.hid o4
   have HFZ:=Lib.hid (FI.out.fz.below b4 FI.out.fz.lt)
   have HBZ:=Lib.hid (FI.out.below.trans (b4.mono FI.out.below.size))
   have HZB:Hid (w.heap.size+1+1+1<B0):=HB0
   have HBB:Hid (w.heap.size≤B0):=by have:=HB0.out;unfold Hid;omega
   clear o4 b4 KR FI c0 c1 c2 c3 c4 lc
   obtain ⟨d0,d1,d2,d3,d4⟩:=HFZ.out.cells
   have qf0:=HFZ.out.frozen 0
   have qf1:=HFZ.out.frozen 1
   have qf2:=HFZ.out.frozen 2
   have qf3:=HFZ.out.frozen 3
   have qf4:=HFZ.out.frozen 4
   have lz:=HFZ.out.lt
   go_wp2_with fail
   generalize hW5:((((w4.setCell ⟨w.heap.size+1+1+1,0,none⟩ (.int .i64 x)).setCell ⟨w.heap.size+1+1+1,1,none⟩ (.int .i64 y)).setCell ⟨w.heap.size+1+1+1,2,none⟩ (.int .i64 p)).setCell ⟨w.heap.size+1+1+1,3,none⟩ (.int .i64 q)).setCell ⟨w.heap.size+1+1+1,4,none⟩ (.slice a m k)=W5 at *
   obtain ⟨f5,bb5,oo5,_,z5⟩:=fld_store w4 (w.heap.size+1+1+1) 0 0 0 0 _ x y p q (.slice a m k) HFZ.out W5 hW5.symm
   have hO5:=(HOZ.out.set oo5 HZB.out).base HBB.out
   have hB5:=HBZ.out.trans (bb5.mono (by omega))
   clear d0 d1 d2 d3 d4 qf0 qf1 qf2 qf3 qf4 hW5 oo5
   obtain ⟨d0,d1,d2,d3,d4⟩:=f5.cells
   exact bodyPost_ret (v:=.tuple #[fldV x y p q a m k,.int .i64 C]) (by simp [results,Tryz.results71,go_sem, *]) rfl ⟨⟨x,y,p,q,a,m,k,rfl,hO5⟩,hB5⟩
open Ieee.Format (mixF scaleF)
theorem InsAt.first {w:World} {sb:Nat} {p:Inp} {P:List Inp} (h:InsAt w sb (p :: P)):SRow w (some ⟨p.g,0,none⟩) p.l:=h.row p (by simp)
theorem ht_all {l:List Nat} (h:htE l=0):∀ x∈l,Ht x:=Ieee.Format.allHt_iff.1 (Ieee.Format.htE_zero h)
theorem srow_w {w:World} {a:Option Addr} {l:List Nat} (h:SRow w a l):∀ x∈l,x<4294967296:=h.1.2
section
variable (s:ByteArray) (ia:Option Addr) (cin b o cI rb ro cR:Nat) (la ra:Option Addr) (i0 i1 i2 i3:Int) (r0 r1 r2:Nat) (w:World)
theorem in_const (hz:s.toList=[99,111,110,115,116]) (hI:ZRow w la []) (hR:SRow w (some ⟨rb,ro,none⟩) [r0]) (hE:htE [r0]=0) :
  EvOk w s ia 0 cin la 0 cI (some ⟨rb,ro,none⟩) 1 cR 0 (fun _ _ _=>r0) noEx:=by
 have h1:=ht_all hE r0 (by simp)
 have h2:=srow_w hR r0 (by simp)
 refine EvOk.nil0 fun gs X Y W H w' ai sb cP hb hg hP=>⟨0,gd_all (G:=fun _ _ _=>r0) (fun _ _ _=>h1),?_⟩
 refine ev_const s ia 0 cin cI rb ro cR sb cP la r0 ai X Y W H 0 X Y W H _ w' hz (hI.below hb) (hR.below hb) hP (fun w2 _=>?_)
 exact fill_ok X Y W H r0 w2 h2 (by unfold fillE;rw [hg.chk,if_neg (by decide)];exact hE)
theorem in_noise (hz:s.toList=[110,111,105,115,101]) (hI:ZRow w (some ⟨b,o,none⟩) [i0,i1,i2,i3]) (hR:SRow w (some ⟨rb,ro,none⟩) [r0]) (hE:frE i0 i2 i3 r0=0) :
  EvOk w s ia 0 cin (some ⟨b,o,none⟩) 4 cI (some ⟨rb,ro,none⟩) 1 cR 0 (fun _ x y=>fracF i0 (i1%4294967296) i2 i3.toNat r0 x y) noEx:=by
 have h2:=srow_w hR r0 (by simp)
 obtain ⟨n,rfl,n1,n2⟩:=frE_nat hE
 obtain ⟨_,⟨c1,c2⟩,_,sg⟩:=frE_zero hE
 rw [Int.toNat_natCast]
 refine EvOk.nil0 fun gs X Y W H w' ai sb cP hb hg hP=>⟨0,gd_all (G:=fun _ x y=>fracF i0 (i1%4294967296) i2 n r0 x y) (resC_grid.1 (show resC (gridL (fun x y=>fracF i0 (i1%4294967296) i2 n r0 x y) X Y W H)=0 from frac_res i0 (i1%4294967296) i2 X Y W H n1 n2 sg c1 c2)),?_⟩
 refine ev_noise s ia 0 cin b o cI rb ro cR sb cP i0 i1 i2 n r0 ai X Y W H 0 X Y W H _ w' hz (hI.below hb) (hR.below hb) hP (fun w2 _=>?_)
 exact fracfield_ok i0 (i1%4294967296) i2 n r0 X Y W H w2 h2 hE hg.chk
theorem in_speckle (hz:s.toList=[115,112,101,99,107,108,101]) (hI:ZRow w (some ⟨b,o,none⟩) [i0]) (hR:SRow w (some ⟨rb,ro,none⟩) [r0]) (hE:shareE r0=0) :
  EvOk w s ia 0 cin (some ⟨b,o,none⟩) 1 cI (some ⟨rb,ro,none⟩) 1 cR 0 (fun _ x y=>spkF r0 (hsF (IntKind.u32.wrap i0) x y 9)) noEx:=by
 have h2:=srow_w hR r0 (by simp)
 refine EvOk.nil0 fun gs X Y W H w' ai sb cP hb hg hP=>⟨0,gd_all (G:=fun _ x y=>spkF r0 (hsF (IntKind.u32.wrap i0) x y 9)) (fun x y _=>spkF_ht _ _),?_⟩
 refine ev_speckle s ia 0 cin b o cI rb ro cR sb cP i0 r0 ai X Y W H 0 X Y W H _ w' hz (hI.below hb) (hR.below hb) hP (fun w2 _=>?_)
 exact speckle_ok X Y W H (gridL (fun _ _=>0) X Y W H) (IntKind.u32.wrap i0) r0 w2 (hg.right fun _ _ _=>by decide) h2 hE
theorem in_scale (hz:s.toList=[115,99,97,108,101]) (hI:ZRow w la []) (hR:SRow w (some ⟨rb,ro,none⟩) [r0,r1]) (hE:htE [r0,r1]=0) :
  EvOk w s ia 1 cin la 0 cI (some ⟨rb,ro,none⟩) 2 cR 0 (fun gs x y=>scaleF r0 r1 (gs 0 x y)) noEx:=by
 have h2:=srow_w hR r0 (by simp)
 have h3:=srow_w hR r1 (by simp)
 refine EvOk.one0 fun gs X Y W H g c w' sb cP hb hg hr hP=>⟨resC ((gridL (gs 0) X Y W H).map (scaleF r0 r1)),by rw [grid_map];exact gd_res (G:=fun gs x y=>scaleF r0 r1 (gs 0 x y)),?_⟩
 refine ev_scale s ia 1 cin cI rb ro cR sb cP la r0 r1 _ X Y W H _ X Y W H _ w' hz (hI.below hb) (hR.below hb) hP (fun w2 hq=>?_)
 have:=scale_op X Y W H g 0 c (gridL (gs 0) X Y W H) r0 r1 w2 hq.first hr h2 h3
 unfold scaleC at this
 rw [if_neg (by rw [hE];decide)] at this
 unfold resC
 rw [grid_map] at this ⊢
 exact this
theorem in_clamp (hz:s.toList=[99,108,97,109,112]) (hI:ZRow w la []) (hR:SRow w (some ⟨rb,ro,none⟩) [r0,r1]) (hE:clampC r0 r1=0) :
  EvOk w s ia 1 cin la 0 cI (some ⟨rb,ro,none⟩) 2 cR 0 (fun gs x y=>clampF r0 r1 (gs 0 x y)) noEx:=by
 have h2:=srow_w hR r0 (by simp)
 have h3:=srow_w hR r1 (by simp)
 have hq:htE [r0,r1]=0:=by
  unfold clampC at hE
  by_cases h:htE [r0,r1]≠0
  ·rw [if_pos h] at hE;exact hE
  ·simpa using h
 refine EvOk.one0 fun gs X Y W H g c w' sb cP hb hg hr hP=>⟨0,gd_all (G:=fun gs x y=>clampF r0 r1 (gs 0 x y)) (fun x y hi=>clampF_ht (ht_all hq r0 (by simp)) (ht_all hq r1 (by simp)) (hr.cell hi)),?_⟩
 refine ev_clamp s ia 1 cin cI rb ro cR sb cP la r0 r1 _ X Y W H _ X Y W H _ w' hz (hI.below hb) (hR.below hb) hP (fun w2 hq=>?_)
 have:=clamp_op X Y W H g 0 c (gridL (gs 0) X Y W H) r0 r1 w2 hq.first hr h2 h3
 rw [hE,grid_map] at this
 exact this
theorem in_select (hz:s.toList=[115,101,108,101,99,116]) (hI:ZRow w la []) (hR:SRow w (some ⟨rb,ro,none⟩) [r0,r1,r2]) (hE:selC r0 r1 r2=0) :
  EvOk w s ia 1 cin la 0 cI (some ⟨rb,ro,none⟩) 3 cR 0 (fun gs x y=>selF r0 r1 r2 (gs 0 x y)) noEx:=by
 have h2:=srow_w hR r0 (by simp)
 have h3:=srow_w hR r1 (by simp)
 have h4:=srow_w hR r2 (by simp)
 obtain ⟨k1,k2,k3⟩:=sel_hts (sel_zero hE).1
 refine EvOk.one0 fun gs X Y W H g c w' sb cP hb hg hr hP=>⟨0,gd_all (G:=fun gs x y=>selF r0 r1 r2 (gs 0 x y)) (fun x y hi=>selF_ht k1 k2 k3 (hr.cell hi)),?_⟩
 refine ev_select s ia 1 cin cI rb ro cR sb cP la r0 r1 r2 _ X Y W H _ X Y W H _ w' hz (hI.below hb) (hR.below hb) hP (fun w2 hq=>?_)
 have:=select_ok X Y W H g 0 c (gridL (gs 0) X Y W H) r0 r1 r2 w2 hq.first hr h2 h3 h4 hE
 rw [grid_map] at this
 exact this
theorem in_terrace (hz:s.toList=[116,101,114,114,97,99,101]) (hI:ZRow w la []) (hR:SRow w (some ⟨rb,ro,none⟩) [r0,r1]) (hE:terC r0 r1=0) :
  EvOk w s ia 1 cin la 0 cI (some ⟨rb,ro,none⟩) 2 cR 0 (fun gs x y=>terF r0 r1 (gs 0 x y)) noEx:=by
 have h2:=srow_w hR r0 (by simp)
 have h3:=srow_w hR r1 (by simp)
 refine EvOk.one0 fun gs X Y W H g c w' sb cP hb hg hr hP=>⟨resC ((gridL (gs 0) X Y W H).map (terF r0 r1)),by rw [grid_map];exact gd_res (G:=fun gs x y=>terF r0 r1 (gs 0 x y)),?_⟩
 refine ev_terrace s ia 1 cin cI rb ro cR sb cP la r0 r1 _ X Y W H _ X Y W H _ w' hz (hI.below hb) (hR.below hb) hP (fun w2 hq=>?_)
 have:=terrace_ok X Y W H g 0 c (gridL (gs 0) X Y W H) r0 r1 w2 hq.first hr h2 h3 hE
 rw [grid_map] at this ⊢
 exact this
theorem in_dither (hz:s.toList=[100,105,116,104,101,114]) (hI:ZRow w (some ⟨b,o,none⟩) [i0]) (hR:SRow w (some ⟨rb,ro,none⟩) [r0]) (hE:dithE r0=0) :
  EvOk w s ia 1 cin (some ⟨b,o,none⟩) 1 cI (some ⟨rb,ro,none⟩) 1 cR 0 (fun gs x y=>ditA (IntKind.u32.wrap i0) r0 x y (gs 0 x y)) noEx:=by
 have h2:=srow_w hR r0 (by simp)
 refine EvOk.one0 fun gs X Y W H g c w' sb cP hb hg hr hP=>⟨resC (addL (ditA (IntKind.u32.wrap i0) r0) X Y W H (gridL (gs 0) X Y W H)),by rw [grid_add];exact gd_res (G:=fun gs x y=>ditA (IntKind.u32.wrap i0) r0 x y (gs 0 x y)),?_⟩
 refine ev_dither s ia 1 cin b o cI rb ro cR sb cP i0 r0 _ X Y W H _ X Y W H _ w' hz (hI.below hb) (hR.below hb) hP (fun w2 hq=>?_)
 have:=dither_ok X Y W H g 0 c (gridL (gs 0) X Y W H) (IntKind.u32.wrap i0) r0 w2 hq.first hr h2 hE
 rw [grid_add] at this ⊢
 exact this
theorem in_stamp (hz:s.toList=[115,116,97,109,112]) (hI:ZRow w (some ⟨b,o,none⟩) [i0,i1,i2,i3]) (hR:SRow w (some ⟨rb,ro,none⟩) [r0]) (hE:brushE i0 i1 i2 i3 r0=0) :
  EvOk w s ia 1 cin (some ⟨b,o,none⟩) 4 cI (some ⟨rb,ro,none⟩) 1 cR 0 (fun gs x y=>stA i0 i1 i2 i3 r0 x y (gs 0 x y)) noEx:=by
 have h2:=srow_w hR r0 (by simp)
 refine EvOk.one0 fun gs X Y W H g c w' sb cP hb hg hr hP=>⟨resC (addL (stA i0 i1 i2 i3 r0) X Y W H (gridL (gs 0) X Y W H)),by rw [grid_add];exact gd_res (G:=fun gs x y=>stA i0 i1 i2 i3 r0 x y (gs 0 x y)),?_⟩
 refine ev_stamp s ia 1 cin b o cI rb ro cR sb cP i0 i1 i2 i3 r0 _ X Y W H _ X Y W H _ w' hz (hI.below hb) (hR.below hb) hP (fun w2 hq=>?_)
 have:=stamp_ok X Y W H g 0 c (gridL (gs 0) X Y W H) i0 i1 i2 i3 r0 w2 hq.first hr h2 hE
 rw [grid_add] at this ⊢
 exact this
end
theorem range_made (f:Nat→Nat) (ψ:Int→Int→Nat) (X Y:Int) (W n:Nat) (h:∀ k,k<n→f k=ψ (X+((k%W:Nat):Int)) (Y+((k / W:Nat):Int))):(List.range n).map f=madeL ψ X Y W n:=by
 unfold madeL
 exact List.map_congr_left fun k hk=>h k (List.mem_range.1 hk)
theorem comb_grid (φ:Nat→Nat→Nat) (a b:Int→Int→Nat) (X Y:Int) (W H:Nat):combL φ (gridL a X Y W H) (gridL b X Y W H)=gridL (fun x y=>φ (a x y) (b x y)) X Y W H:=by
 unfold combL
 rw [gridL_len]
 exact range_made _ _ _ _ _ _ fun k hk=>by
  show φ ((madeL a X Y W (H*W)).getD k 0) ((madeL b X Y W (H*W)).getD k 0)=_
  rw [made_get _ _ _ _ _ _ hk,made_get _ _ _ _ _ _ hk]
theorem mix_grid (a b c:Int→Int→Nat) (X Y:Int) (W H:Nat):mixL (gridL a X Y W H) (gridL b X Y W H) (gridL c X Y W H)=gridL (fun x y=>mixF (a x y) (b x y) (c x y)) X Y W H:=by
 unfold mixL
 rw [gridL_len]
 exact range_made _ _ _ _ _ _ fun k hk=>by
  show mixF ((madeL a X Y W (H*W)).getD k 0) ((madeL b X Y W (H*W)).getD k 0) ((madeL c X Y W (H*W)).getD k 0)=_
  rw [made_get _ _ _ _ _ _ hk,made_get _ _ _ _ _ _ hk,made_get _ _ _ _ _ _ hk]
theorem any_grid (p:Nat→Bool) (g:Int→Int→Nat) (X Y:Int) (W H:Nat):(gridL g X Y W H).any p=false ↔ ∀ x y,InR X Y W H x y→p (g x y)=false:=by
 rw [List.any_eq_false]
 constructor
 ·intro h x y hi
  have:=h _ (grid_mem.2 ⟨x,y,hi,rfl⟩)
  simpa using this
 ·intro h v hv
  obtain ⟨x,y,hi,rfl⟩:=grid_mem.1 hv
  rw [h x y hi];decide
theorem gd_ex {p:Nat→Bool} {q:Fs→Int→Int→Nat} {G:Fs→Int→Int→Nat} {gs:Fs} {X Y:Int} {W H:Nat} :
  (if (gridL (q gs) X Y W H).any p=true then (3:Int) else resC (gridL (G gs) X Y W H))=0 ↔ Gd (fun x y=>p (q gs x y)=false) (G gs) X Y W H:=by
 by_cases h:(gridL (q gs) X Y W H).any p=true
 ·rw [if_pos h]
  refine ⟨fun h=>absurd h (by decide),fun hg=>?_⟩
  rw [(any_grid p (q gs) X Y W H).2 fun x y hi=>(hg x y hi).1] at h
  exact absurd h (by decide)
 ·have h':(gridL (q gs) X Y W H).any p=false:=by simpa using h
  rw [if_neg h,resC_grid]
  have h2:=(any_grid p (q gs) X Y W H).1 h'
  exact ⟨fun hr x y hi=>⟨h2 x y hi,hr x y hi⟩,fun hg x y hi=>(hg x y hi).2⟩
section
variable (s:ByteArray) (ia:Option Addr) (cin nI cI nR cR:Nat) (la ra:Option Addr) (w:World)
theorem in_blend (hz:s.toList=[98,108,101,110,100]) (hI:ZRow w la []) (hR:SRow w ra []) :
  EvOk w s ia 3 cin la 0 cI ra 0 cR 0 (fun gs x y=>mixF (gs 0 x y) (gs 1 x y) (gs 2 x y)) (fun gs x y=>noWt (gs 2 x y)=false):=by
 refine EvOk.three fun gs X Y W H g c g2 c2 g3 c3 w' sb cP hb hg r0 r1 r2 hP=>⟨_,gd_ex (q:=fun gs x y=>gs 2 x y) (G:=fun gs x y=>mixF (gs 0 x y) (gs 1 x y) (gs 2 x y)),?_⟩
 refine ev_blend s ia 3 cin cI cR sb cP la ra _ _ _ X Y W H _ X Y W H _ w' hz (hI.below hb) (hR.below hb) hP (fun w2 hq=>?_)
 have k0:=hq.row0 (p:=⟨X,Y,W,H,g,c,gridL (gs 0) X Y W H⟩) (by simp)
 have k1:=hq.row0 (p:=⟨X,Y,W,H,g2,c2,gridL (gs 1) X Y W H⟩) (by simp)
 have k2:=hq.row0 (p:=⟨X,Y,W,H,g3,c3,gridL (gs 2) X Y W H⟩) (by simp)
 by_cases h:(gridL (gs 2) X Y W H).any noWt=true
 ·rw [if_pos h]
  exact (blend_bad X Y W H g 0 c g2 0 c2 g3 0 c3 _ _ _ w2 k0 k1 k2 r0 r1 r2 h).mono fun e w' ⟨h1,h2⟩=>OpP.err (by decide) h1 h2
 ·rw [if_neg h]
  have:=blend_ok X Y W H g 0 c g2 0 c2 g3 0 c3 _ _ _ w2 k0 k1 k2 r0 r1 r2 (by simpa using h)
  rw [mix_grid] at this
  exact this
def opX (op:Int) (gs:Fs) (x y:Int):Prop:=(if op=4 then zrF (gs 1 x y) else false)=false
def cbC (op:Int) (gs:Fs) (X Y:Int) (W H:Nat):Int:=if (gridL (gs 1) X Y W H).any (fun v=>if op=4 then zrF v else false)=true then 3 else resC (gridL (fun x y=>opF op (gs 0 x y) (gs 1 x y)) X Y W H)
theorem cbC_iff (op:Int) (gs:Fs) (X Y:Int) (W H:Nat):cbC op gs X Y W H=0 ↔ Gd (opX op gs) (fun x y=>opF op (gs 0 x y) (gs 1 x y)) X Y W H:=
 gd_ex (p:=fun v=>if op=4 then zrF v else false) (q:=fun gs x y=>gs 1 x y) (G:=fun gs x y=>opF op (gs 0 x y) (gs 1 x y))
theorem combine_any (op:Int) (gn:Nat) (X Y:Int) (W H:Nat) (g c g2 c2:Nat) (gs:Fs) (w:World) (k0:SRow w (some ⟨g,0,none⟩) (gridL (gs 0) X Y W H)) (k1:SRow w (some ⟨g2,0,none⟩) (gridL (gs 1) X Y W H))
  (r0:Right X Y W H (gridL (gs 0) X Y W H)) (r1:Right X Y W H (gridL (gs 1) X Y W H)) (eg:∀ args w,(callFunc gn args).run Tryz.prog w=.ok (.enter gn args) w)
  (KO:∀ w',Calls Tryz.prog 119 #[.int .i64 op] w' fun e w''=>e=.returned (.func (.func gn) #[] #[])∧w'=w'')
  (KM:∀ a b,fin Ieee.single a→fin Ieee.single b→a<4294967296→b<4294967296→(op=4→zrF b=false)→∀ w',Calls Tryz.prog gn (#[.float .f32 a,.float .f32 b] ++ #[]) w' fun e w''=>e=.returned (.float .f32 (opF op a b))∧w'=w'') :
  Calls Tryz.prog 79 #[.int .i64 op,fldV X Y W H (some ⟨g,0,none⟩) (gridL (gs 0) X Y W H).length c,fldV X Y W H (some ⟨g2,0,none⟩) (gridL (gs 1) X Y W H).length c2] w (OpP (cbC op gs X Y W H) X Y W H (gridL (fun x y=>opF op (gs 0 x y) (gs 1 x y)) X Y W H) w):=by
 unfold cbC
 by_cases h:(gridL (gs 1) X Y W H).any (fun v=>if op=4 then zrF v else false)=true
 ·rw [if_pos h]
  obtain ⟨v,_,hv⟩:=List.any_eq_true.1 h
  have h4:op=4:=by
   by_cases h4:op=4
   ·exact h4
   ·rw [if_neg h4] at hv;exact absurd hv (by decide)
  subst h4
  simp only [if_true] at h
  exact (combine_bad gn X Y W H g 0 c g2 0 c2 _ _ w k0 k1 r0 r1 KO (fun w' h'=>by have:=fcont_any _ c2 _ w' h';rw [h] at this;exact this)).mono fun e w' ⟨h1,h2⟩=>OpP.err (by decide) h1 h2
 ·rw [if_neg h]
  have hf:(gridL (gs 1) X Y W H).any (fun v=>if op=4 then zrF v else false)=false:=by simpa using h
  have hv:=List.any_eq_false.1 hf
  have hl:(gridL (gs 0) X Y W H).length=(gridL (gs 1) X Y W H).length:=by rw [gridL_len,gridL_len]
  have hm:∀ k,k<(gridL (gs 0) X Y W H).length→((gridL (gs 0) X Y W H).getD k 0<4294967296∧fin Ieee.single ((gridL (gs 0) X Y W H).getD k 0))∧((gridL (gs 1) X Y W H).getD k 0<4294967296∧fin Ieee.single ((gridL (gs 1) X Y W H).getD k 0))∧(op=4→zrF ((gridL (gs 1) X Y W H).getD k 0)=false):=by
   intro k hk
   have m0:(gridL (gs 0) X Y W H).getD k 0∈gridL (gs 0) X Y W H:=by
    rw [List.getD_eq_getElem?_getD,List.getElem?_eq_getElem hk];exact List.getElem_mem hk
   have m1:(gridL (gs 1) X Y W H).getD k 0∈gridL (gs 1) X Y W H:=by
    rw [List.getD_eq_getElem?_getD,List.getElem?_eq_getElem (by omega)];exact List.getElem_mem _
   refine ⟨⟨srow_w k0 _ m0,(Ieee.Format.Ht.bd (r0.ht _ m0)).1⟩,⟨srow_w k1 _ m1,(Ieee.Format.Ht.bd (r1.ht _ m1)).1⟩,fun h4=>?_⟩
   have:=hv _ m1
   rw [if_pos h4] at this
   simpa using this
  have:=combine_ok op gn (opF op) X Y W H g 0 c g2 0 c2 _ _ w k0 k1 r0 r1 eg (fun k hk=>?_) KO (fun h4 w' h'=>?_) (fun k hk w'=>KM _ _ (hm k hk).1.2 (hm k hk).2.1.2 (hm k hk).1.1 (hm k hk).2.1.1 (hm k hk).2.2 w')
  ·rw [comb_grid] at this
   exact this
  ·obtain ⟨⟨a1,_⟩,⟨b1,_⟩,_⟩:=hm k hk
   unfold opF
   repeat' split
   all_goals first|assumption|exact Ieee.Format.addF_lt _ _|exact Ieee.Format.subF_lt _ _|exact Ieee.Format.mulF_lt _ _|exact Ieee.Format.divF_lt _ _|decide
  ·have h5:=fcont_any (some ⟨g2,0,none⟩) c2 (gridL (gs 1) X Y W H) w' h'
   simp only [h4,if_true] at hf
   rw [hf] at h5
   exact h5
end
def itG (φ:Nat→Nat→Nat→Nat→Nat→Nat) (g:Int→Int→Nat):Nat→Int→Int→Nat
 | 0=>g
 | i+1=>nbG φ (itG φ g i)
theorem grid_steps (φ:Nat→Nat→Nat→Nat→Nat→Nat) (g:Int→Int→Nat) (X Y:Int) (W H:Nat):∀ i,2*i<W→2*i<H→stepsL φ X Y W H (gridL g X Y W H) i=gridL (itG φ g i) (X+i) (Y+i) (W-2*i) (H-2*i)
 | 0,_,_=>by
  unfold stepsL itG
  congr 1<;>simp
 | i+1,hW,hH=>by
  unfold stepsL itG
  rw [grid_steps φ g X Y W H i (by omega) (by omega)]
  have e1:W-2*(i+1)=W-2*i-2:=by omega
  have e2:H-2*(i+1)=H-2*i-2:=by omega
  have e3:X+((i+1:Nat):Int)=X+i+1:=by push_cast;omega
  have e4:Y+((i+1:Nat):Int)=Y+i+1:=by push_cast;omega
  rw [e1,e2,e3,e4]
  exact grid_congr fun x y h1 h2 h3 h4=>grid_nbr φ _ (X+i) (Y+i) (W-2*i) (H-2*i) x y (by omega) (by omega) (by omega) (by omega)
open Ieee.Format (Near1 near_of place_at V_const mulF_spec addF_spec subF_spec)
theorem const_23:fin Ieee.single 1258291200∧Ieee.single.V 1258291200=8388608∧Ieee.single.sgn 1258291200=false:=by
 have:=V_const false 149 8388608 (.inr (by decide)) (by decide) (by decide)
 rw [show Ieee.single.word false (149*8388608+8388608)=1258291200 from by decide] at this
 refine ⟨this.1,?_,this.2.2⟩
 rw [this.2.1,show ((149:Nat):Int)-149=0 from rfl,Ieee.P2_zero]
 simp [Ieee.sg]
theorem near_23:Near1 8388608 (1 / 4):=by
 have h:=near_of (-1) (-2) 1258291199 (by omega) const_23 (by omega) (by
  rw [show (1258291199:Nat)=(148+1)*8388608+8388607 from by omega,place_at _ _ (by omega)];rfl)
 have e:Ieee.P2 (-2)=1 / 4:=by
  have a:=Ieee.P2_succ (-2)
  have b:=Ieee.P2_succ (-1)
  have c:=Ieee.P2_zero
  rw [show (-2:Int)+1=-1 from rfl] at a
  rw [show (-1:Int)+1=0 from rfl] at b
  grind
 rw [e] at h
 exact h
theorem p2_20:Ieee.P2 20=1048576:=by
 rw [show (20:Int)=((20:Nat):Int) from rfl,Ieee.P2_nat];rfl
theorem p2_3:Ieee.P2 (-3)=1 / 8:=by
 have a:=Ieee.P2_succ (-3)
 have b:=Ieee.P2_succ (-2)
 have c:=Ieee.P2_succ (-1)
 have d:=Ieee.P2_zero
 rw [show (-3:Int)+1=-2 from rfl] at a
 rw [show (-2:Int)+1=-1 from rfl] at b
 rw [show (-1:Int)+1=0 from rfl] at c
 grind
def Wn (M:Rat) (x:Nat):Prop:=fin Ieee.single x∧-M≤Ieee.single.V x∧Ieee.single.V x≤M
theorem moved_wn {M:Rat} {T R a b:Nat} (hW:WearOk T R) (h0:0≤M) (hM:M≤2097152) (ha:Wn M a) (hb:Wn M b) :
  fin Ieee.single (movedF T R a b)∧0≤Ieee.single.V (movedF T R a b)∧∀ t,0≤t→(Ieee.single.V a-Ieee.single.V b) / 8≤t→Ieee.single.V (movedF T R a b)≤t+1:=by
 obtain ⟨fa,a1,a2⟩:=ha
 obtain ⟨fb,b1,b2⟩:=hb
 have t1:=hW.t.2
 have t2:Ieee.single.V T≤Ieee.P2 20:=t1.2
 have t0:=hW.t0
 have r0:=hW.r0
 have r1:=hW.r1
 rw [p2_20] at t2
 rw [p2_3] at r1
 have s1:=(subF_spec fa fb).2
 obtain ⟨f1,u1,u2,_,_⟩:=near_23 _ _ _ s1 (by grind) (by grind)
 unfold movedF
 cases hc:gtr (subF a b) T with
 | false =>
  rw [if_neg (by decide)]
  refine ⟨Ieee.Format.const_0.1,by rw [Ieee.Format.const_0.2.1];grind,fun t ht _=>by rw [Ieee.Format.const_0.2.1];grind⟩
 | true =>
  rw [if_pos rfl]
  rw [gtr_V f1 hW.t.1] at hc
  have hc:=of_decide_eq_true hc
  have s2:=(subF_spec f1 hW.t.1).2
  obtain ⟨f2,v1,v2,_,_⟩:=near_23 _ _ _ s2 (by grind) (by grind)
  have n2:=Ieee.Format.Rounds.nonneg s2 f2 (by grind)
  have s3:=(mulF_spec f2 hW.r).2
  generalize Ieee.single.V (subF (subF a b) T)=z2 at *
  have m0:0≤z2*Ieee.single.V R:=Rat.mul_nonneg n2 r0
  have m1:z2*Ieee.single.V R≤z2*(1 / 8):=Rat.mul_le_mul_of_nonneg_left r1 n2
  obtain ⟨f3,w1,w2,_,_⟩:=near_23 _ _ _ s3 (by grind) (by grind)
  have n3:=Ieee.Format.Rounds.nonneg s3 f3 m0
  exact ⟨f3,n3,fun t _ ht=>by grind⟩
theorem pick4_wn {M:Rat} {n w e s:Nat} (hn:Wn M n) (hw:Wn M w) (he:Wn M e) (hs:Wn M s) (k:Nat):Wn M (pick4 n w e s k):=by
 match k with
 | 0=>exact hn
 | 1=>exact hw
 | 2=>exact he
 | _+3=>exact hs
theorem subT_wn {M:Rat} {T R v n w e s:Nat} (hW:WearOk T R) (h0:0≤M) (hM:M≤2097152) (hn:Wn M n) (hs:Wn M s) (he:Wn M e) (hw:Wn M w) (hv:Wn M v):∀ k,k≤4 →
  fin Ieee.single (subT T R v n w e s k)∧Ieee.single.V (subT T R v n w e s k)≤Ieee.single.V v+(k:Rat) / 4∧Ieee.single.V v-(k:Rat)*((Ieee.single.V v+M) / 8+5 / 4)≤Ieee.single.V (subT T R v n w e s k)
 | 0,_=>⟨hv.1,by simp [subT];grind,by simp [subT];grind⟩
 | k+1,h=>by
  obtain ⟨f,a1,a2⟩:=subT_wn hW h0 hM hn hs he hw hv k (by omega)
  have hp:=pick4_wn hn hw he hs k
  obtain ⟨g,b1,b2⟩:=moved_wn hW h0 hM hv hp
  have v1:=hv.2.1
  have v2:=hv.2.2
  have b3:=b2 ((Ieee.single.V v+M) / 8) (by grind) (by have:=hp.2.1;grind)
  have kq:(k:Rat)≤4:=by have:((k:Nat):Rat)≤((4:Nat):Rat):=Rat.natCast_le_natCast.2 (by omega);exact this
  have k0:(0:Rat)≤(k:Rat):=Rat.natCast_nonneg
  have m1:(k:Rat)*((Ieee.single.V v+M) / 8+5 / 4)≤4*((Ieee.single.V v+M) / 8+5 / 4):=Rat.mul_le_mul_of_nonneg_right kq (by grind)
  have sp:=(subF_spec f g).2
  obtain ⟨f',c1,c2,_,_⟩:=near_23 _ _ _ sp (by grind) (by grind)
  have e:((k+1:Nat):Rat)=(k:Rat)+1:=by push_cast;rfl
  rw [e]
  exact ⟨f',by show Ieee.single.V (subF _ _)≤_;grind,by show _≤Ieee.single.V (subF _ _);grind⟩
theorem addT_wn {M:Rat} {T R v n w e s:Nat} (hW:WearOk T R) (h0:0≤M) (hM:M≤2097152) (hn:Wn M n) (hs:Wn M s) (he:Wn M e) (hw:Wn M w) (hv:Wn M v):∀ k,k≤4 →
  fin Ieee.single (addT T R v n w e s k)∧Ieee.single.V (addT T R v n w e s k)≤Ieee.single.V v+1+(k:Rat)*((M-Ieee.single.V v) / 8+5 / 4)∧Ieee.single.V v-4*((Ieee.single.V v+M) / 8+5 / 4)-(k:Rat) / 4≤Ieee.single.V (addT T R v n w e s k)
 | 0,_=>by
  obtain ⟨f,a1,a2⟩:=subT_wn hW h0 hM hn hs he hw hv 4 (by omega)
  exact ⟨f,by simp only [addT];simp at a1 ⊢;grind,by simp only [addT];simp at a2 ⊢;grind⟩
 | k+1,h=>by
  obtain ⟨f,a1,a2⟩:=addT_wn hW h0 hM hn hs he hw hv k (by omega)
  have hp:=pick4_wn hn hw he hs k
  obtain ⟨g,b1,b2⟩:=moved_wn hW h0 hM hp hv
  have v1:=hv.2.1
  have v2:=hv.2.2
  have b3:=b2 ((M-Ieee.single.V v) / 8) (by grind) (by have:=hp.2.2;grind)
  have kq:(k:Rat)≤4:=by have:((k:Nat):Rat)≤((4:Nat):Rat):=Rat.natCast_le_natCast.2 (by omega);exact this
  have k0:(0:Rat)≤(k:Rat):=Rat.natCast_nonneg
  have m1:(k:Rat)*((M-Ieee.single.V v) / 8+5 / 4)≤4*((M-Ieee.single.V v) / 8+5 / 4):=Rat.mul_le_mul_of_nonneg_right kq (by grind)
  have sp:=(addF_spec f g).2
  obtain ⟨f',c1,c2,_,_⟩:=near_23 _ _ _ sp (by grind) (by grind)
  have e:((k+1:Nat):Rat)=(k:Rat)+1:=by push_cast;rfl
  rw [e]
  exact ⟨f',by show Ieee.single.V (addF _ _)≤_;grind,by show _≤Ieee.single.V (addF _ _);grind⟩
theorem thermal_wn {M:Rat} {T R v n w e s:Nat} (hW:WearOk T R) (h0:0≤M) (hM:M≤2097152) (hn:Wn M n) (hs:Wn M s) (he:Wn M e) (hw:Wn M w) (hv:Wn M v):Wn (M+8) (thermalF T R n s e w v):=by
 obtain ⟨f,a1,a2⟩:=addT_wn hW h0 hM hn hs he hw hv 4 (by omega)
 have v1:=hv.2.1
 have v2:=hv.2.2
 simp at a1 a2
 exact ⟨f,by show _≤Ieee.single.V (addT _ _ _ _ _ _ _ 4);grind,by show Ieee.single.V (addT _ _ _ _ _ _ _ 4)≤_;grind⟩
theorem smooth_wn {M:Rat} {v n w e s:Nat} (h0:0≤M) (hM:M≤2000000) (hn:Wn M n) (hs:Wn M s) (he:Wn M e) (hw:Wn M w) (hv:Wn M v):Wn (M+8) (Ieee.Format.smoothF n s e w v):=by
 obtain ⟨c1,c2,_⟩:=Ieee.Format.const_eighth
 rw [p2_3] at c2
 obtain ⟨d1,d2,_⟩:=Ieee.Format.const_half
 obtain ⟨fn,n1,n2⟩:=hn
 obtain ⟨fs,s1,s2⟩:=hs
 obtain ⟨fe,e1,e2⟩:=he
 obtain ⟨fw,w1,w2⟩:=hw
 obtain ⟨fv,v1,v2⟩:=hv
 obtain ⟨fa,a1,a2,_,_⟩:=near_23 _ _ _ (addF_spec fn fw).2 (by grind) (by grind)
 obtain ⟨fb,b1,b2,_,_⟩:=near_23 _ _ _ (addF_spec fe fs).2 (by grind) (by grind)
 obtain ⟨fc,q1,q2,_,_⟩:=near_23 _ _ _ (addF_spec fa fb).2 (by grind) (by grind)
 obtain ⟨fd,p1,p2,_,_⟩:=near_23 _ _ _ (mulF_spec fc c1).2 (by rw [c2];grind) (by rw [c2];grind)
 rw [c2] at p1 p2
 obtain ⟨fe2,x1,x2,_,_⟩:=near_23 _ _ _ (addF_spec fv fd).2 (by grind) (by grind)
 obtain ⟨ff,y1,y2,_,_⟩:=near_23 _ _ _ (mulF_spec fv d1).2 (by rw [d2];grind) (by rw [d2];grind)
 rw [d2] at y1 y2
 obtain ⟨fg,z1,z2,_,_⟩:=near_23 _ _ _ (subF_spec fe2 ff).2 (by grind) (by grind)
 exact ⟨fg,by show _≤Ieee.single.V (subF (addF v (mulF (addF (addF n w) (addF e s)) 1040187392)) (mulF v 1056964608));grind,by show Ieee.single.V (subF (addF v (mulF (addF (addF n w) (addF e s)) 1040187392)) (mulF v 1056964608))≤_;grind⟩
def WnP (i x:Nat):Prop:=Wn (1048576+8*(i:Rat)) x∧x<4294967296
theorem WnP.bd {i x:Nat} (h:WnP i x) (hi:i≤64):Bd 21 x:=by
 have p:Ieee.P2 ((21:Nat):Int)=2097152:=by rw [Ieee.P2_nat];rfl
 have k:(i:Rat)≤64:=by have:((i:Nat):Rat)≤((64:Nat):Rat):=Rat.natCast_le_natCast.2 hi;exact this
 obtain ⟨⟨f,a,b⟩,_⟩:=h
 exact ⟨f,by rw [p];grind,by rw [p];grind⟩
theorem WnP.zero (i:Nat):WnP i 0:=by
 have k0:(0:Rat)≤(i:Rat):=Rat.natCast_nonneg
 refine ⟨⟨Ieee.Format.const_0.1,?_,?_⟩,by decide⟩<;>(rw [Ieee.Format.const_0.2.1];grind)
theorem WnP.of_ht {x:Nat} (h:Ht x) (hx:x<4294967296):WnP 0 x:=by
 obtain ⟨f,a,b⟩:=Ieee.Format.Ht.bd h
 have p:Ieee.P2 ((20:Nat):Int)=1048576:=by rw [Ieee.P2_nat];rfl
 rw [p] at a b
 exact ⟨⟨f,by simp;grind,by simp;grind⟩,hx⟩
theorem WnP.therm {T R i n s e w v:Nat} (hW:WearOk T R) (hi:i≤63) (hn:WnP i n) (hs:WnP i s) (he:WnP i e) (hw:WnP i w) (hv:WnP i v):WnP (i+1) (thermalF T R n s e w v):=by
 have k0:(0:Rat)≤(i:Rat):=Rat.natCast_nonneg
 have k:(i:Rat)≤63:=by have:((i:Nat):Rat)≤((63:Nat):Rat):=Rat.natCast_le_natCast.2 hi;exact this
 have h:=thermal_wn (M:=1048576+8*(i:Rat)) hW (by grind) (by grind) hn.1 hs.1 he.1 hw.1 hv.1
 have e1:(1048576:Rat)+8*((i+1:Nat):Rat)=1048576+8*(i:Rat)+8:=by push_cast;grind
 exact ⟨by rw [e1];exact h,Ieee.Format.addF_lt _ _⟩
theorem WnP.smooth {i n s e w v:Nat} (hi:i≤63) (hn:WnP i n) (hs:WnP i s) (he:WnP i e) (hw:WnP i w) (hv:WnP i v):WnP (i+1) (Ieee.Format.smoothF n s e w v):=by
 have k0:(0:Rat)≤(i:Rat):=Rat.natCast_nonneg
 have k:(i:Rat)≤63:=by have:((i:Nat):Rat)≤((63:Nat):Rat):=Rat.natCast_le_natCast.2 hi;exact this
 have h:=smooth_wn (M:=1048576+8*(i:Rat)) (by grind) (by grind) hn.1 hs.1 he.1 hw.1 hv.1
 have e1:(1048576:Rat)+8*((i+1:Nat):Rat)=1048576+8*(i:Rat)+8:=by push_cast;grind
 exact ⟨by rw [e1];exact h,Ieee.Format.subF_lt _ _⟩
open Go.Shelf
open Ieee.Format (fin finE htE allFin allHt all_true all_false mulF subF addF Ht Bd smoothF smooth_bd)
def smoothC (X Y:Int) (Wn Hn:Nat) (l:List Nat) (n:Int):Int:=
 if n<0∨64<n then 3 else if Wn<1+2*n.toNat∨Hn<1+2*n.toNat then 10 else if allHt (stepsL smoothF X Y Wn Hn l n.toNat)=true then 0 else 3
open Ieee.Format (smoothF)
theorem WnP.all {X Y:Int} {Wn Hn:Nat} {l:List Nat} (hr:Right X Y Wn Hn l) (h:∀ x∈l,x<4294967296):∀ x∈l,WnP 0 x:=fun x hx=>WnP.of_ht (hr.ht x hx) (h x hx)
set_option maxRecDepth 100000 in
theorem therm_wsteps (T R p:Nat) (st:Int) (X Y:Int) (Wn Hn:Nat) (b o c N:Nat) (l:List Nat) (w:World) (hl:SRow w (some ⟨b,o,none⟩) l) (hr:Right X Y Wn Hn l) (hN:N≤64) (hW:WearOk T R) (hp:WearAt w p T R st) :
  Calls Tryz.prog 165 #[fldV X Y Wn Hn (some ⟨b,o,none⟩) l.length c,.int .i64 N,.func (.func 166) #[] #[.pointer (some ⟨p,0,none⟩)]] w fun e w'=>OpP (thermC T R X Y Wn Hn l N) (X+N) (Y+N) (Wn-2*N:Nat) (Hn-2*N:Nat) (stepsL (thermalF T R) X Y Wn Hn l N) w e w':=by
 have:=hr.w1;have:=hr.w2;have:=hr.h1;have:=hr.h2;have:=hr.x1;have:=hr.x2;have:=hr.y1;have:=hr.y2
 unfold thermC
 by_cases h:Wn<1+2*N∨Hn<1+2*N
 ·exact qx71
 ·rw [if_neg h]
  refine (steps_yes 166 #[.pointer (some ⟨p,0,none⟩)] (thermalF T R) WnP N X Y Wn Hn b o c l w hl hr.len (by omega) (by omega) (by omega) (by omega) hN (by omega) (by omega) (by omega) (by omega) (enters_of Tryz.func166 (by kernel_rfl) rfl) WnP.zero (WnP.all hr hl.1.2) (fun i hi n s e w v=>WnP.therm hW (by omega)) (fun i x h=>h.2) ?_).mono fun e w' h=>h.op
  intro i hi n s e wv v hn hs he hw' hv W' hb
  exact thermfn_any 21 T R n s e wv v p st W' hW (hn.bd (by omega)) (hs.bd (by omega)) (he.bd (by omega)) (hw'.bd (by omega)) (hv.bd (by omega)) (by omega) (by omega) (hp.below hb hp.lt)
set_option maxRecDepth 100000 in
theorem therm_wide (T R:Nat) (X Y:Int) (Wn Hn:Nat) (b o c N:Nat) (l:List Nat) (w:World) (hl:SRow w (some ⟨b,o,none⟩) l) (hr:Right X Y Wn Hn l) (hN:N≤64) (hT:T<4294967296) (hR:R<4294967296) (h:wearE T R N=0) (hW:WearOk T R) :
  Calls Tryz.prog 128 #[fldV X Y Wn Hn (some ⟨b,o,none⟩) l.length c,wearV T R N] w fun e w'=>OpP (thermC T R X Y Wn Hn l N) (X+N) (Y+N) (Wn-2*N:Nat) (Hn-2*N:Nat) (stepsL (thermalF T R) X Y Wn Hn l N) w e w':=by
 have K:=Lib.hid (fun w h=>check_field X Y Wn Hn (some ⟨b,o,none⟩) c l w h)
 rw [hr.chk] at K
 have HL:=Lib.hid hl
 have KW:=Lib.hid (fun w=>check_wear T R N w hT hR)
 rw [h] at KW
 have KS:=Lib.hid (fun p w' hl hp=>therm_wsteps T R p N X Y Wn Hn b o c N l w' hl hr hN hW hp)
 clear hl hr hT hR h hW
 generalize hcc:thermC T R X Y Wn Hn l N=C at *
 generalize hss:stepsL (thermalF T R) X Y Wn Hn l N=S at *
 clear hcc hss
 generalize hnn:(N:Int)=n at *
 clear hnn
 go_enter Tryz.func128,Tryz.ntmps128
 go_wp2_with fail
 generalize hW0:((w.alloc (.cells #[.int .i64 X,.int .i64 Y,.int .i64 Wn,.int .i64 Hn,.slice (some ⟨b,o,none⟩) l.length c] 32)).alloc (.cells #[.float .f32 T,.float .f32 R,.int .i64 n] 104)).alloc (.cells #[.int .i64 0,.int .i64 0,.int .i64 0,.int .i64 0,.slice none 0 0] 32)=W0 at *
 obtain ⟨E0,G0,F0,B0,z0⟩:=box_fbz w X Y Wn Hn (.slice (some ⟨b,o,none⟩) l.length c) #[.float .f32 T,.float .f32 R,.int .i64 n] 104 W0 hW0.symm
 clear hW0
 refine (K.out _ (HL.out.below B0)).mono ?_
 rintro e w1 ⟨rfl,b1⟩
 have E1:=E0.below b1 E0.lt
 have G1:=G0.below b1 G0.lt
 have F1:=F0.below b1 F0.lt
 have HL1:=Lib.hid ((HL.out.below B0).below b1)
 have B1:=Lib.hid (B0.trans (b1.mono B0.size))
 clear b1 B0 F0 E0 z0 K HL G0
 obtain ⟨d0,d1,d2⟩:=WearAt.cells G1
 have l1:=F1.lt
 have HF1:=Lib.hid F1
 have HE1:=Lib.hid E1
 have HG1:=Lib.hid G1
 clear F1 E1 G1
 go_wp2_with fail
 refine (KW.out _).mono ?_
 rintro e w2 ⟨rfl,b2⟩
 have E2:=HE1.out.below b2 HE1.out.lt
 have G2:=HG1.out.below b2 HG1.out.lt
 have F2:=HF1.out.below b2 HF1.out.lt
 have HL2:=Lib.hid (HL1.out.below b2)
 have B2:=Lib.hid (B1.out.trans (b2.mono B1.out.size))
 clear b2 B1 HL1 HF1 HE1 HG1 d0 d1 d2 l1 KW
 have l2:=F2.lt
 obtain ⟨c0,c1,c2,c3,c4⟩:=E2.cells
 obtain ⟨d0,d1,d2⟩:=WearAt.cells G2
 have HF2:=Lib.hid F2
 have HG2:=Lib.hid G2
 clear F2 E2 G2
 go_wp2_with fail
 refine (KS.out _ _ HL2.out HG2.out).mono ?_
 rintro e w3 ⟨⟨x,y,p,q,a,m,k,rfl,o3⟩,b3⟩
 have F3:=HF2.out.below b3 HF2.out.lt
 have l3:=F3.lt
 have HB3:=Lib.hid (B2.out.trans (b3.mono B2.out.size))
 have hz:w.heap.size+1+1<w2.heap.size:=HF2.out.lt
 have HO3:=Lib.hid o3
 have HF3:=Lib.hid F3
 clear b3 o3 KS HF2 c0 c1 c2 c3 c4 d0 d1 d2 HG2
 obtain ⟨d0,d1,d2,d3,d4⟩:=F3.cells
 have qf0:=F3.frozen 0
 have qf1:=F3.frozen 1
 have qf2:=F3.frozen 2
 have qf3:=F3.frozen 3
 have qf4:=F3.frozen 4
 clear F3
 go_wp2_with fail
 generalize hW5:((((w3.setCell ⟨w.heap.size+1+1,0,none⟩ (.int .i64 x)).setCell ⟨w.heap.size+1+1,1,none⟩ (.int .i64 y)).setCell ⟨w.heap.size+1+1,2,none⟩ (.int .i64 p)).setCell ⟨w.heap.size+1+1,3,none⟩ (.int .i64 q)).setCell ⟨w.heap.size+1+1,4,none⟩ (.slice a m k)=W5 at *
 obtain ⟨f5,bb5,oo5,_,z5⟩:=fld_store w3 (w.heap.size+1+1) 0 0 0 0 _ x y p q (.slice a m k) HF3.out W5 hW5.symm
 have hO5:=(HO3.out.set oo5 hz).base (show w.heap.size≤w2.heap.size by omega)
 have hB5:=HB3.out.trans (bb5.mono (by omega))
 clear d0 d1 d2 d3 d4 qf0 qf1 qf2 qf3 qf4 hW5 oo5 HO3 HB3 HF3
 obtain ⟨d0,d1,d2,d3,d4⟩:=f5.cells
 exact bodyPost_ret (v:=.tuple #[fldV x y p q a m k,.int .i64 C]) (by simp [results,Tryz.results128,go_sem, *]) rfl ⟨⟨x,y,p,q,a,m,k,rfl,hO5⟩,hB5⟩
set_option maxRecDepth 100000 in
theorem smooth_wsteps (X Y:Int) (Wn Hn:Nat) (b o c N:Nat) (l:List Nat) (w:World) (hl:SRow w (some ⟨b,o,none⟩) l) (hr:Right X Y Wn Hn l) (hN:N≤64) :
  Calls Tryz.prog 165 #[fldV X Y Wn Hn (some ⟨b,o,none⟩) l.length c,.int .i64 N,.func (.func 168) #[] #[]] w fun e w'=>OpP (smoothC X Y Wn Hn l N) (X+N) (Y+N) (Wn-2*N:Nat) (Hn-2*N:Nat) (stepsL smoothF X Y Wn Hn l N) w e w':=by
 have:=hr.w1;have:=hr.w2;have:=hr.h1;have:=hr.h2;have:=hr.x1;have:=hr.x2;have:=hr.y1;have:=hr.y2
 unfold smoothC
 rw [if_neg (by omega),Int.toNat_natCast]
 by_cases h:Wn<1+2*N∨Hn<1+2*N
 ·exact qx71
 ·rw [if_neg h]
  refine (steps_yes 168 #[] smoothF WnP N X Y Wn Hn b o c l w hl hr.len (by omega) (by omega) (by omega) (by omega) hN (by omega) (by omega) (by omega) (by omega) (enters_of Tryz.func168 (by kernel_rfl) rfl) WnP.zero (WnP.all hr hl.1.2) (fun i hi n s e w v=>WnP.smooth (by omega)) (fun i x h=>h.2) ?_).mono fun e w' h=>h.op
  intro i hi n s e wv v hn hs he hw' hv W' _
  exact smoothfn_any 21 n s e wv v W' (hn.bd (by omega)) (hs.bd (by omega)) (he.bd (by omega)) (hw'.bd (by omega)) (hv.bd (by omega)) (by omega)
set_option maxRecDepth 100000 in
theorem smooth_wide (X Y:Int) (Wn Hn:Nat) (b o c N:Nat) (l:List Nat) (w:World) (hl:SRow w (some ⟨b,o,none⟩) l) (hr:Right X Y Wn Hn l) (hN:N≤64) :
  Calls Tryz.prog 129 #[fldV X Y Wn Hn (some ⟨b,o,none⟩) l.length c,.int .i64 N] w fun e w'=>OpP (smoothC X Y Wn Hn l N) (X+N) (Y+N) (Wn-2*N:Nat) (Hn-2*N:Nat) (stepsL smoothF X Y Wn Hn l N) w e w':=by
 have K:=Lib.hid (fun w h=>check_field X Y Wn Hn (some ⟨b,o,none⟩) c l w h)
 rw [hr.chk] at K
 have HL:=Lib.hid hl
 have KS:=Lib.hid (fun w' hl=>smooth_wsteps X Y Wn Hn b o c N l w' hl hr hN)
 clear hl hr
 generalize hcc:smoothC X Y Wn Hn l N=C at *
 generalize hss:stepsL smoothF X Y Wn Hn l N=S at *
 clear hcc hss
 go_enter Tryz.func129,Tryz.ntmps129
 go_wp2_with fail
 generalize hW0:(w.alloc (.cells #[.int .i64 X,.int .i64 Y,.int .i64 Wn,.int .i64 Hn,.slice (some ⟨b,o,none⟩) l.length c] 32)).alloc (.cells #[.int .i64 0,.int .i64 0,.int .i64 0,.int .i64 0,.slice none 0 0] 32)=W0 at *
 obtain ⟨E0,F0,B0,z0⟩:=two_fields w X Y Wn Hn (.slice (some ⟨b,o,none⟩) l.length c) W0 hW0.symm
 clear hW0
 refine (K.out _ (HL.out.below B0)).mono ?_
 rintro e w1 ⟨rfl,b1⟩
 have E1:=E0.below b1 E0.lt
 have F1:=F0.below b1 F0.lt
 have HL1:=Lib.hid ((HL.out.below B0).below b1)
 have B1:=Lib.hid (B0.trans (b1.mono B0.size))
 clear b1 B0 F0 E0 z0 K HL
 obtain ⟨c0,c1,c2,c3,c4⟩:=E1.cells
 have l1:=F1.lt
 have HF1:=Lib.hid F1
 clear F1 E1
 go_wp2_with fail
 refine (KS.out _ HL1.out).mono ?_
 rintro e w2 ⟨⟨x,y,p,q,a,m,k,rfl,o2⟩,b2⟩
 have F2:=HF1.out.below b2 HF1.out.lt
 have l2:=F2.lt
 have HB2:=Lib.hid (B1.out.trans (b2.mono B1.out.size))
 have hz:w.heap.size+1<w1.heap.size:=HF1.out.lt
 have HO2:=Lib.hid o2
 have HF2:=Lib.hid F2
 clear b2 o2 KS HF1
 obtain ⟨d0,d1,d2,d3,d4⟩:=F2.cells
 have qf0:=F2.frozen 0
 have qf1:=F2.frozen 1
 have qf2:=F2.frozen 2
 have qf3:=F2.frozen 3
 have qf4:=F2.frozen 4
 clear F2
 go_wp2_with fail
 generalize hW5:((((w2.setCell ⟨w.heap.size+1,0,none⟩ (.int .i64 x)).setCell ⟨w.heap.size+1,1,none⟩ (.int .i64 y)).setCell ⟨w.heap.size+1,2,none⟩ (.int .i64 p)).setCell ⟨w.heap.size+1,3,none⟩ (.int .i64 q)).setCell ⟨w.heap.size+1,4,none⟩ (.slice a m k)=W5 at *
 obtain ⟨f5,bb5,oo5,_,z5⟩:=fld_store w2 (w.heap.size+1) 0 0 0 0 _ x y p q (.slice a m k) HF2.out W5 hW5.symm
 have hO5:=(HO2.out.set oo5 hz).base (show w.heap.size≤w1.heap.size by omega)
 have hB5:=HB2.out.trans (bb5.mono (by omega))
 clear d0 d1 d2 d3 d4 qf0 qf1 qf2 qf3 qf4 hW5 oo5 HO2 HB2 HF2
 obtain ⟨d0,d1,d2,d3,d4⟩:=f5.cells
 exact bodyPost_ret (v:=.tuple #[fldV x y p q a m k,.int .i64 C]) (by simp [results,Tryz.results129,go_sem, *]) rfl ⟨⟨x,y,p,q,a,m,k,rfl,hO5⟩,hB5⟩
open Ieee.Format (He const_1)
def kerF (κ g:Nat→Nat):Nat→Nat
 | 0=>mulF (κ 0) (g 0)
 | m+1=>addF (kerF κ g m) (mulF (κ (m+1)) (g (m+1)))
def blurS (g:Nat→Nat):Nat→Nat
 | 0=>g 0
 | m+1=>addF (blurS g m) (g (m+1))
def blurF (g:Nat→Nat) (n:Nat):Nat:=divF (blurS g (n*n-1)) (cv ((n*n:Nat):Int))
theorem kerF_he {κ g:Nat→Nat} (hk:∀ i,Bd 20 (κ i)) (hg:∀ i,Bd 20 (g i)) (m:Nat) (hm:m≤4000):He 40 (m+1) (kerF κ g m):=by
 induction m with
 | zero=>exact He.one ((hk 0).mul (hg 0) (by omega))
 | succ m ih=>exact (ih (by omega)).add ((hk _).mul (hg _) (by omega)) (by omega) (by omega)
theorem blurS_he {g:Nat→Nat} (hg:∀ i,Bd 20 (g i)) (m:Nat) (hm:m≤4000):He 20 (m+1) (blurS g m):=by
 induction m with
 | zero=>exact He.one (hg 0)
 | succ m ih=>exact (ih (by omega)).add (hg _) (by omega) (by omega)
theorem kerF_lt (κ g:Nat→Nat) (m:Nat):kerF κ g m<4294967296:=by
 cases m with
 | zero=>exact Ieee.Format.mulF_lt _ _
 | succ m=>exact Ieee.Format.addF_lt _ _
theorem blurF_lt (g:Nat→Nat) (n:Nat):blurF g n<4294967296:=Ieee.Format.divF_lt _ _
theorem ker_step {κ g:Nat→Nat} (hk:∀ i,Bd 20 (κ i)) (hg:∀ i,Bd 20 (g i)) (m:Nat) (hm:m≤3999) :
  fin Ieee.single (kerF κ g m)∧fin Ieee.single (mulF (κ (m+1)) (g (m+1)))∧fin Ieee.single (kerF κ g (m+1)):=
 ⟨(kerF_he hk hg m (by omega)).1,((hk _).mul (hg _) (by omega)).1,(kerF_he hk hg (m+1) (by omega)).1⟩
theorem blur_step {g:Nat→Nat} (hg:∀ i,Bd 20 (g i)) (m:Nat) (hm:m≤3999) :
  fin Ieee.single (blurS g m)∧fin Ieee.single (g (m+1))∧fin Ieee.single (blurS g (m+1)):=
 ⟨(blurS_he hg m (by omega)).1,(hg _).1,(blurS_he hg (m+1) (by omega)).1⟩
theorem blur_end {g:Nat→Nat} (hg:∀ i,Bd 20 (g i)) {n:Nat} (h1:1≤n) (h2:n≤33) :
  fin Ieee.single (blurS g (n*n-1))∧fin Ieee.single (cv ((n*n:Nat):Int))∧Ieee.single.V (cv ((n*n:Nat):Int))≠0∧fin Ieee.single (blurF g n):=by
 have a:=Nat.mul_le_mul h2 h2
 have b:=Nat.mul_le_mul h1 h1
 have c:=blurS_he hg (n*n-1) (by omega)
 obtain ⟨d1,d2,d3,d4⟩:=cv_pos (n:=((n*n:Nat):Int)) (by omega) (by omega)
 have p:=cv_gt0 (n:=((n*n:Nat):Int)) (by omega) (by omega)
 have e:=c.bd (by omega)
 have one:1≤Ieee.single.V (cv ((n*n:Nat):Int)):=by
  rw [d2]
  have:((1:Int):Rat)≤(((n*n:Nat):Int):Rat):=Rat.intCast_le_intCast.2 (by omega)
  exact this
 exact ⟨c.1,d1,by grind,(Ieee.Format.div_one e d1 one (by omega)).1⟩
theorem srow_blt {w:World} {b o:Nat} {l:List Nat} (h:SRow w (some ⟨b,o,none⟩) l) (hn:0<l.length):b<w.heap.size:=by
 exact qx61
theorem right_pos {X Y:Int} {Wn Hn:Nat} {l:List Nat} (h:Right X Y Wn Hn l):0<l.length:=by
 have:=Nat.mul_le_mul h.h1 h.w1
 rw [←h.len] at this;omega
def patch (Wn F n i:Nat):Nat:=F+i / n*Wn+i%n
theorem patch_lt {Wn Hn F n N i:Nat} {x y:Int} {X Y:Int} (hn:n=2*N+1) (hi:i<n*n) (hx:X+N≤x) (hx':x+N<X+Wn) (hy:Y+N≤y) (hy':y+N<Y+Hn) (hF:(F:Int)=(y-(Y+N))*Wn+(x-(X+N))):patch Wn F n i<Hn*Wn:=by
 unfold patch
 have h1:i / n<n:=Nat.div_lt_of_lt_mul hi
 have h2:i%n<n:=Nat.mod_lt _ (by omega)
 obtain ⟨p,hp⟩:∃ p:Nat,(p:Int)=y-(Y+N):=⟨(y-(Y+N)).toNat,by omega⟩
 obtain ⟨r,hr⟩:∃ r:Nat,(r:Int)=x-(X+N):=⟨(x-(X+N)).toNat,by omega⟩
 rw [←hp,←hr,←Int.natCast_mul] at hF
 have e:F=p*Wn+r:=by omega
 have h3:(p+i / n+1)*Wn≤Hn*Wn:=Nat.mul_le_mul_right _ (by omega)
 rw [Nat.add_mul,Nat.add_mul,Nat.one_mul] at h3
 omega
set_option maxRecDepth 100000 in
set_option maxHeartbeats 1000000 in
theorem blurfn_any (l:List Nat) (X Y:Int) (Wn Hn N n:Nat) (x y:Int) (b o c q pr pn F:Nat) (w:World) (hl:SRow w (some ⟨b,o,none⟩) l) (hr:Right X Y Wn Hn l) (hn:n=2*N+1) (hN:N≤16) (hx:X+N≤x) (hx':x+N<X+Wn) (hy:Y+N≤y) (hy':y+N<Y+Hn)
  (hq:Fld w q X Y Wn Hn (.slice (some ⟨b,o,none⟩) l.length c)) (hg:Reg w pr (X+N) (Y+N) ((Wn-2*N:Nat):Int) ((Hn-2*N:Nat):Int)) (hpn:Blk w pn #[.int .i64 (n:Int)] 3) (hF:(F:Int)=(y-(Y+N))*Wn+(x-(X+N))) :
  Calls Tryz.prog 155 #[.int .i64 x,.int .i64 y,.pointer (some ⟨pr,0,none⟩),.pointer (some ⟨q,0,none⟩),.pointer (some ⟨pn,0,none⟩)] w fun e w'=>e=.returned (.float .f32 (blurF (fun i=>l.getD (patch Wn F n i) 0) n))∧Below w.heap.size w w':=by
 have HP:=Lib.hid (fun i (hi:i<n*n)=>patch_lt (Wn:=Wn) (Hn:=Hn) (F:=F) (N:=N) (x:=x) (y:=y) (X:=X) (Y:=Y) hn hi hx hx' hy hy' hF)
 have hlen:=hr.len
 have HR:=Lib.hid (fun i (hi:i<n*n)=>SRow.at_ hl (show patch Wn F n i<l.length by rw [hlen];exact HP.out i hi))
 obtain ⟨g,hgd⟩:∃ g:Nat→Nat,g=fun i=>l.getD (patch Wn F n i) 0:=⟨_,rfl⟩
 have hgb:∀ i,Bd 20 (g i):=by intro i;rw [hgd];exact hr.bd _
 rw [←hgd]
 have KS:=Lib.hid (fun m hm=>blur_step hgb m hm)
 obtain ⟨e1,e2,e3,e4⟩:=blur_end hgb (n:=n) (by omega) (by omega)
 have kd:=fun w'=>run_float_arith (P:=Tryz.prog) w' .quo 48 .f32 _ _ _ (Ieee.Format.bits_div e1 e2 e3)
 have hw2:=hr.w2
 have hh2:=hr.h2
 have g1:=hr.x1;have g2:=hr.x2;have g3:=hr.y1;have g4:=hr.y2
 have bl:b<w.heap.size:=srow_blt hl (right_pos hr)
 obtain ⟨c0,c1,c2,c3,c4⟩:=hq.cells
 obtain ⟨d0,d1,d2,d3⟩:=hg.cells
 have dn:w.cell? ⟨pn,0,none⟩=some (.int .i64 (n:Int)):=hpn.cell 0
 have l1:=hq.lt
 have l2:=hg.lt
 have l3:=hpn.lt
 have nn1:=Nat.mul_le_mul (show n≤33 by omega) (show n≤33 by omega)
 have nn0:=Nat.mul_le_mul (show 1≤n by omega) (show 1≤n by omega)
 have n1:(1:Int)≤n:=by omega
 have n33:(n:Int)≤33:=by omega
 have lenI:(l.length:Int)≤262144:=by
  have:=Nat.mul_le_mul hh2 hw2
  rw [hlen];omega
 have hA:0≤(y-(Y+N))*Wn∧(y-(Y+N))*Wn≤262144:=by
  exact qx75
 have HLE:=Lib.hid hlen
 have bx:X+N≤x:=hx
 have by_:Y+N≤y:=hy
 have xx:-16777216≤x∧x≤16777216:=by omega
 have yy:-16777216≤y∧y≤16777216:=by omega
 have rr:(-16777216≤X+N∧X+N≤16777216)∧(-16777216≤Y+N∧Y+N≤16777216):=by omega
 clear hl hr hq hg hpn hx hx' hy hy' g1 g2 g3 g4 hlen e1 e2 e3 e4 hn hN
 have hFe:(y-(Y+N))*Wn+x-(X+N)=F:=by omega
 clear hF
 generalize hRX:X+(N:Int)=RX at *
 generalize hRY:Y+(N:Int)=RY at *
 clear hRX hRY
 obtain ⟨A1,A2⟩:=hA
 obtain ⟨x1,x2⟩:=xx
 obtain ⟨y1,y2⟩:=yy
 obtain ⟨⟨rx1,rx2⟩,ry1,ry2⟩:=rr
 generalize hAe:(y-RY)*Wn=A at *
 have HGE:=Lib.hid hgd.symm
 clear hgd hgb
 have hnn:(n:Int)*(n:Int)=((n*n:Nat):Int):=(Int.natCast_mul n n).symm
 have hn2:((n*n:Nat):Int)≤1089:=by omega
 have hn0:(1:Int)≤((n*n:Nat):Int):=by omega
 have N0:Hid (1≤n):=by unfold Hid;omega
 have NN:Hid (1≤n*n∧n*n≤1089):=by unfold Hid;omega
 clear nn0 nn1
 unfold blurF at *
 generalize hN2:n*n=nn at *
 clear hN2
 generalize hE:divF (blurS g (nn-1)) (cv (nn:Int))=zE at *
 clear hE
 generalize hcv:cv (nn:Int)=zc at *
 change floatOfInt .f32 (nn:Int)=zc at hcv
 have R0:w.cell? ⟨b,o+F,none⟩=some (.float .f32 (blurS g 0)):=by
  have:=HR.out 0 (by have:=NN.out;omega)
  have e0:patch Wn F n 0=F:=by unfold patch;simp
  rw [e0] at this
  have e9:g 0=l.getD F 0:=by rw [←HGE.out];show l.getD (patch Wn F n 0) 0=_;rw [e0]
  show w.cell? ⟨b,o+F,none⟩=some (.float .f32 (g 0))
  rw [e9];exact this
 have F0:(F:Int)<l.length:=by
  have:=HP.out 0 (by have:=NN.out;omega)
  have e0:patch Wn F n 0=F:=by unfold patch;simp
  rw [e0] at this
  have:=HLE.out
  omega
 go_enter Tryz.func155,Tryz.ntmps155
 go_wp2_with fail
 go_loopw [9,10] (fun s v wr=>∃ m i:Nat,m+1=i∧i≤nn∧v=.int .i64 (i:Int)∧s=.float .f32 (blurS g m)∧Below w.heap.size w wr) (fun _ v _=>nn-(intOf v).toNat)
 case atStart=>exact ⟨0,1,rfl,NN.out.1,rfl,rfl,qBl⟩
 case round =>
  clear R0 F0
  obtain ⟨m,i,hmi,hm,rfl,rfl,B⟩:=hrel
  have HB:=Lib.hid B
  have HMI:=Lib.hid hmi
  have z:=B.size
  have c0':=(B.cell (p:=⟨q,0,none⟩) (by simpa using l1)).trans c0
  have c1':=(B.cell (p:=⟨q,1,none⟩) (by simpa using l1)).trans c1
  have c2':=(B.cell (p:=⟨q,2,none⟩) (by simpa using l1)).trans c2
  have c3':=(B.cell (p:=⟨q,3,none⟩) (by simpa using l1)).trans c3
  have c4':=(B.cell (p:=⟨q,4,none⟩) (by simpa using l1)).trans c4
  have dn':=(B.cell (p:=⟨pn,0,none⟩) (by simpa using l3)).trans dn
  have l1':q<wr.heap.size:=by omega
  have l3':pn<wr.heap.size:=by omega
  have l4':b<wr.heap.size:=by omega
  by_cases hlt:i<nn
  ·have hlI:(i:Int)<(nn:Int):=by omega
   obtain ⟨s1,s2,s3⟩:=KS.out m (by have:=NN.out.2;omega)
   have k1:=fun w'=>run_float_arith (P:=Tryz.prog) w' .add 48 .f32 (blurS g m) (g (m+1)) (blurS g (m+1)) (Ieee.Format.bits_add s1 s2)
   rw [hmi] at k1
   have hc:=(B.cell (p:=⟨b,o+patch Wn F n i,none⟩) (by simpa using bl)).trans (HR.out i hlt)
   have e9:g i=l.getD (patch Wn F n i) 0:=by rw [←HGE.out]
   rw [←e9] at hc
   have pl:((patch Wn F n i:Nat):Int)<l.length:=by
    have:=HP.out i hlt
    have:=HLE.out
    omega
   have q1:(i:Int).tdiv (n:Int)=((i / n:Nat):Int):=by rw [Int.ofNat_tdiv]
   have q2:(i:Int).tmod (n:Int)=((i%n:Nat):Int):=by rw [Int.ofNat_tmod]
   have q3:((i / n:Nat):Int)*(Wn:Int)=((i / n*Wn:Nat):Int):=(Int.natCast_mul _ _).symm
   have q4:(F:Int)+((i / n*Wn:Nat):Int)+((i%n:Nat):Int)=((patch Wn F n i:Nat):Int):=by unfold patch;omega
   have hp:=HP.out i hlt
   have q5:((i / n*Wn:Nat):Int)≤262144:=by have:=HLE.out;unfold patch at hp;omega
   have q6:(F:Int)≤262144:=by have:=HLE.out;unfold patch at hp;omega
   have q7:((i%n:Nat):Int)≤33:=by have:=Nat.mod_lt i (show 0<n by omega);omega
   have q8:((i / n:Nat):Int)≤1089:=by have:=Nat.div_le_self i n;have:=NN.out.2;omega
   have nz:(n:Int)≠0:=by omega
   clear s1 s2 s3 e9 hp hmi
   generalize patch Wn F n i=pp at *
   generalize i / n*Wn=dw at *
   generalize i / n=dq at *
   generalize i%n=dm at *
   have p0:(0:Int)≤(pp:Int):=by omega
   generalize hz1:blurS g i=z1 at *
   have HZ1:=Lib.hid hz1
   clear hz1
   generalize g i=z2 at *
   generalize blurS g m=z0 at *
   exact qx74
  ·have hnn':i=nn:=by omega
   subst hnn'
   have hm1:m=i-1:=by omega
   subst hm1
   clear hmi HMI
   go_wp2_with fail
   go_ret
   exact ⟨rfl,HB.out⟩
set_option maxRecDepth 100000 in
set_option maxHeartbeats 1000000 in
theorem fsmaller_yes (X Y W H n:Int) (w:World) (hn:0≤n) (hn2:n≤64) (hx:-8388608≤X) (hx2:X≤8388608) (hy:-8388608≤Y) (hy2:Y≤8388608) (hw:W≤512) (hh:H≤512) (h1:1≤W-2*n) (h2:1≤H-2*n) :
    Calls Tryz.prog 154 #[reg X Y W H,.int .i64 n] w fun e w'=>e=.returned (.tuple #[reg (X+n) (Y+n) (W-2*n) (H-2*n),.bool true])∧Below w.heap.size w w':=by
  have t1:2*n<W:=by omega
  have t2:2*n<H:=by omega
  go_enter Tryz.func154,Tryz.ntmps154
  go_wp2_with fail
  go_region
  all_goals
    first
      | exact bodyPost_ret (v:=.tuple #[reg (X+n) (Y+n) (W-2*n) (H-2*n),.bool true]) (by simp [results,Tryz.results154,go_sem, *]) rfl ⟨rfl,qBl⟩
      | (go_wp2_with fail
         exact bodyPost_ret (v:=.tuple #[reg (X+n) (Y+n) (W-2*n) (H-2*n),.bool true]) (by simp [results,Tryz.results154,go_sem, *]) rfl ⟨rfl,qBl⟩)
def padL (ψ:Int→Int→Nat) (X Y:Int) (Wn Hn N:Nat):List Nat:=madeL ψ (X+N) (Y+N) (Wn-2*N) ((Hn-2*N)*(Wn-2*N))
theorem padL_small (ψ:Int→Int→Nat) {X Y:Int} {Wn Hn:Nat} (N:Nat) {l:List Nat} (hr:Right X Y Wn Hn l):(padL ψ X Y Wn Hn N).length≤1099511627776:=by
 unfold padL
 rw [madeL_len]
 have:=hr.h2;have:=hr.w2
 have:=Nat.mul_le_mul (show Hn-2*N≤512 by omega) (show Wn-2*N≤512 by omega)
 omega
theorem make_pad (gn:Nat) (caps:Array Value) (ψ:Int→Int→Nat) (X Y:Int) (Wn Hn N:Nat) (l:List Nat) (w:World) (hr:Right X Y Wn Hn l) (h3:2*N+1≤Wn) (h4:2*N+1≤Hn)
  (eg:∀ args w,(callFunc gn args).run Tryz.prog w=.ok (.enter gn args) w) (hlt:∀ x y,ψ x y<4294967296)
  (hf:∀ x y:Int,X+N≤x→x+N<X+Wn→Y+N≤y→y+N<Y+Hn→∀ W',Below w.heap.size w W'→Calls Tryz.prog gn (#[.int .i64 x,.int .i64 y] ++ caps) W' fun e w'=>e=.returned (.float .f32 (ψ x y))∧Below W'.heap.size W' w') :
  Calls Tryz.prog 89 #[reg (X+N) (Y+N) ((Wn-2*N:Nat):Int) ((Hn-2*N:Nat):Int),.func (.func gn) #[] caps] w fun e w'=>MakeP (X+N) (Y+N) ((Wn-2*N:Nat):Int) ((Hn-2*N:Nat):Int) (padL ψ X Y Wn Hn N) w e w':=by
 have g1:=hr.w2;have g2:=hr.h2;have g3:=hr.x1;have g4:=hr.x2;have g5:=hr.y1;have g6:=hr.y2
 refine make_any gn caps ψ (X+N) (Y+N) (Wn-2*N) (Hn-2*N) w (by omega) (by omega) (by omega) (by omega) (by omega) (by omega) (by omega) (by omega) eg (fun x y _ _ _ _=>hlt _ _) ?_
 intro x y h1 h2 h5 h6 W' hb
 exact hf x y h1 (by omega) h5 (by omega) W' hb
def corner (X Y:Int) (Wn N:Nat) (x y:Int):Nat:=((y-(Y+N))*Wn+(x-(X+N))).toNat
theorem corner_eq {X Y:Int} {Wn N:Nat} {x y:Int} (hx:X+N≤x) (hy:Y+N≤y):((corner X Y Wn N x y:Nat):Int)=(y-(Y+N))*Wn+(x-(X+N)):=by
 have a:=Int.mul_nonneg (show 0≤y-(Y+N) by omega) (show (0:Int)≤Wn by omega)
 unfold corner;omega
def blurV (l:List Nat) (X Y:Int) (Wn N:Nat) (x y:Int):Nat:=blurF (fun i=>l.getD (patch Wn (corner X Y Wn N x y) (2*N+1) i) 0) (2*N+1)
def kerV (K l:List Nat) (X Y:Int) (Wn N:Nat) (x y:Int):Nat:=kerF (fun i=>K.getD i 0) (fun i=>l.getD (patch Wn (corner X Y Wn N x y) (2*N+1) i) 0) ((2*N+1)*(2*N+1)-1)
theorem pad_world (w:World) (X Y W H n:Int):∀ W0,W0=(w.alloc (.cells #[.int .i64 X,.int .i64 Y,.int .i64 W,.int .i64 H] 26)).alloc (.cells #[.int .i64 n] 3) →
  Reg W0 w.heap.size X Y W H∧Blk W0 (w.heap.size+1) #[.int .i64 n] 3∧Below w.heap.size w W0:=by
 rintro _ rfl
 refine ⟨(Reg.new w X Y W H).alloc _,?_,qBl⟩
 have:=Blk.new (w.alloc (.cells #[.int .i64 X,.int .i64 Y,.int .i64 W,.int .i64 H] 26)) #[.int .i64 n] 3
 simpa using this
set_option maxRecDepth 100000 in
set_option maxHeartbeats 1000000 in
theorem blur_yes (X Y:Int) (Wn Hn N:Nat) (b o c:Nat) (l:List Nat) (w:World) (hl:SRow w (some ⟨b,o,none⟩) l) (hr:Right X Y Wn Hn l) (hN:N≤16) (h3:2*N+1≤Wn) (h4:2*N+1≤Hn) :
  Calls Tryz.prog 123 #[fldV X Y Wn Hn (some ⟨b,o,none⟩) l.length c,.int .i64 N] w fun e w'=>OpP (resC (padL (blurV l X Y Wn N) X Y Wn Hn N)) (X+N) (Y+N) ((Wn-2*N:Nat):Int) ((Hn-2*N:Nat):Int) (padL (blurV l X Y Wn N) X Y Wn Hn N) w e w':=by
 have K:=Lib.hid (fun w h=>check_field X Y Wn Hn (some ⟨b,o,none⟩) c l w h)
 rw [hr.chk] at K
 have HL:=Lib.hid hl
 have g1:=hr.w2;have g2:=hr.h2;have g3:=hr.x1;have g4:=hr.x2;have g5:=hr.y1;have g6:=hr.y2
 have KS:=Lib.hid (fun w=>fsmaller_yes X Y Wn Hn N w (by omega) (by omega) (by omega) (by omega) (by omega) (by omega) (by omega) (by omega) (by omega) (by omega))
 rw [show (Wn:Int)-2*(N:Int)=((Wn-2*N:Nat):Int) from by omega,show (Hn:Int)-2*(N:Int)=((Hn-2*N:Nat):Int) from by omega] at KS
 have KM:=Lib.hid (fun q pr pn w hl (hq:Fld w q X Y Wn Hn (.slice (some ⟨b,o,none⟩) l.length c)) (hg:Reg w pr (X+N) (Y+N) ((Wn-2*N:Nat):Int) ((Hn-2*N:Nat):Int)) (hpn:Blk w pn #[.int .i64 (2*(N:Int)+1)] 3) =>
  make_pad 155 #[.pointer (some ⟨pr,0,none⟩),.pointer (some ⟨q,0,none⟩),.pointer (some ⟨pn,0,none⟩)] (blurV l X Y Wn N) X Y Wn Hn N l w hr h3 h4 (enters_of Tryz.func155 (by kernel_rfl) rfl) (fun x y=>blurF_lt _ _)
   (fun x y a1 a2 a3 a4 W' hb=>blurfn_any l X Y Wn Hn N (2*N+1) x y b o c q pr pn (corner X Y Wn N x y) W' (SRow.below hl hb) hr rfl hN a1 a2 a3 a4 (hq.below hb hq.lt) (hg.below hb hg.lt) (by rw [show ((2*N+1:Nat):Int)=2*(N:Int)+1 from by omega];exact hpn.below hb hpn.lt) (corner_eq a1 a3)))
 have KR:=Lib.hid (fun X1 Y1 W1 H1 g cap B w ho=>result_any X1 Y1 W1 H1 g cap B (padL (blurV l X Y Wn N) X Y Wn Hn N) w ho (padL_small _ N hr))
 have k1:¬ (N:Int)<0:=by omega
 have k2:¬ 16<(N:Int):=by omega
 clear hl hr g1 g2 g3 g4 g5 g6 h3 h4 hN
 generalize padL (blurV l X Y Wn N) X Y Wn Hn N=S at *
 generalize resC S=C at *
 generalize Wn-2*N=P at *
 generalize Hn-2*N=Q at *
 generalize (N:Int)=R at *
 generalize X+R=X1 at *
 generalize Y+R=Y1 at *
 go_enter Tryz.func123,Tryz.ntmps123
 go_wp2_with fail
 generalize hW0:(w.alloc (.cells #[.int .i64 X,.int .i64 Y,.int .i64 Wn,.int .i64 Hn,.slice (some ⟨b,o,none⟩) l.length c] 32)).alloc (.cells #[.int .i64 0,.int .i64 0,.int .i64 0,.int .i64 0,.slice none 0 0] 32)=W0 at *
 obtain ⟨E0,F0,B0,z0⟩:=two_fields w X Y Wn Hn (.slice (some ⟨b,o,none⟩) l.length c) W0 hW0.symm
 clear hW0
 refine (K.out _ (HL.out.below B0)).mono ?_
 rintro e w1 ⟨rfl,b1⟩
 have HE1:=Lib.hid (E0.below b1 E0.lt)
 have HF1:=Lib.hid (F0.below b1 F0.lt)
 have HL1:=Lib.hid ((HL.out.below B0).below b1)
 have HB1:=Lib.hid (B0.trans (b1.mono B0.size))
 clear b1 B0 F0 E0 z0 K HL
 obtain ⟨c0,c1,c2,c3,c4⟩:=HE1.out.cells
 have lz:=HE1.out.lt
 go_wp2_with fail
 refine (KS.out _).mono ?_
 rintro e w2 ⟨rfl,b2⟩
 have HE2:=Lib.hid (HE1.out.below b2 HE1.out.lt)
 have HF2:=Lib.hid (HF1.out.below b2 HF1.out.lt)
 have HL2:=Lib.hid (HL1.out.below b2)
 have HB2:=Lib.hid (HB1.out.trans (b2.mono HB1.out.size))
 clear b2 c0 c1 c2 c3 c4 HF1 HB1 HE1 HL1 lz KS
 go_wp2_with fail
 generalize hW4:(w2.alloc (.cells #[.int .i64 X1,.int .i64 Y1,.int .i64 (P:Int),.int .i64 (Q:Int)] 26)).alloc (.cells #[.int .i64 (2*R+1)] 3)=W4 at *
 obtain ⟨R4,P4,B4⟩:=pad_world w2 X1 Y1 P Q (2*R+1) W4 hW4.symm
 clear hW4
 have HF4:=Lib.hid (HF2.out.below B4 HF2.out.lt)
 have HB4:=Lib.hid (HB2.out.trans (B4.mono HB2.out.size))
 refine (KM.out _ _ _ _ (HL2.out.below B4) (HE2.out.below B4 HE2.out.lt) R4 P4).mono ?_
 rintro e w3 ⟨⟨g,cap,rfl,ho⟩,b3⟩
 have HO3:=Lib.hid ho
 have HF3:=Lib.hid (HF4.out.below b3 HF4.out.lt)
 have HB3:=Lib.hid (HB4.out.trans (b3.mono HB4.out.size))
 have HZB:Hid (w.heap.size+1<W4.heap.size):=HF4.out.lt
 have HBB:Hid (w.heap.size≤W4.heap.size):=HB4.out.size
 clear ho b3 KM HE2 HL2 R4 P4 B4 HF2 HB2 HF4 HB4
 go_wp2_with fail
 refine (KR.out _ _ _ _ _ _ _ _ HO3.out).mono ?_
 rintro e w4 ⟨⟨x,y,p,q,a,m,k,rfl,o4⟩,b4⟩
 have HOZ:=Lib.hid o4
 have HFZ:=Lib.hid (HF3.out.below b4 HF3.out.lt)
 have HBZ:=Lib.hid (HB3.out.trans (b4.mono HB3.out.size))
 clear o4 b4 KR HO3 HF3 HB3
 obtain ⟨d0,d1,d2,d3,d4⟩:=HFZ.out.cells
 have qf0:=HFZ.out.frozen 0
 have qf1:=HFZ.out.frozen 1
 have qf2:=HFZ.out.frozen 2
 have qf3:=HFZ.out.frozen 3
 have qf4:=HFZ.out.frozen 4
 have lz:=HFZ.out.lt
 go_wp2_with fail
 generalize hW5:((((w4.setCell ⟨w.heap.size+1,0,none⟩ (.int .i64 x)).setCell ⟨w.heap.size+1,1,none⟩ (.int .i64 y)).setCell ⟨w.heap.size+1,2,none⟩ (.int .i64 p)).setCell ⟨w.heap.size+1,3,none⟩ (.int .i64 q)).setCell ⟨w.heap.size+1,4,none⟩ (.slice a m k)=W5 at *
 obtain ⟨f5,bb5,oo5,_,z5⟩:=fld_store w4 (w.heap.size+1) 0 0 0 0 _ x y p q (.slice a m k) HFZ.out W5 hW5.symm
 have hO5:=(HOZ.out.set oo5 HZB.out).base HBB.out
 have hB5:=HBZ.out.trans (bb5.mono (by omega))
 clear d0 d1 d2 d3 d4 qf0 qf1 qf2 qf3 qf4 hW5 oo5
 obtain ⟨d0,d1,d2,d3,d4⟩:=f5.cells
 exact bodyPost_ret (v:=.tuple #[fldV x y p q a m k,.int .i64 C]) (by simp [results,Tryz.results123,go_sem, *]) rfl ⟨⟨x,y,p,q,a,m,k,rfl,hO5⟩,hB5⟩
set_option maxRecDepth 100000 in
set_option maxHeartbeats 1000000 in
theorem kernfn_any (l K:List Nat) (X Y:Int) (Wn Hn N n:Nat) (x y:Int) (b o c kb ko kc q pr pk pn F:Nat) (w:World) (hl:SRow w (some ⟨b,o,none⟩) l) (hr:Right X Y Wn Hn l) (hn:n=2*N+1) (hN:N≤7) (hK:SRow w (some ⟨kb,ko,none⟩) K) (hKn:K.length=n*n) (hKb:∀ i,Bd 20 (K.getD i 0)) (hpk:Blk w pk #[.slice (some ⟨kb,ko,none⟩) K.length kc] 30) (hx:X+N≤x) (hx':x+N<X+Wn) (hy:Y+N≤y) (hy':y+N<Y+Hn)
  (hq:Fld w q X Y Wn Hn (.slice (some ⟨b,o,none⟩) l.length c)) (hg:Reg w pr (X+N) (Y+N) ((Wn-2*N:Nat):Int) ((Hn-2*N:Nat):Int)) (hpn:Blk w pn #[.int .i64 (n:Int)] 3) (hF:(F:Int)=(y-(Y+N))*Wn+(x-(X+N))) :
  Calls Tryz.prog 156 #[.int .i64 x,.int .i64 y,.pointer (some ⟨pr,0,none⟩),.pointer (some ⟨q,0,none⟩),.pointer (some ⟨pk,0,none⟩),.pointer (some ⟨pn,0,none⟩)] w fun e w'=>e=.returned (.float .f32 (kerF (fun i=>K.getD i 0) (fun i=>l.getD (patch Wn F n i) 0) (n*n-1)))∧Below w.heap.size w w':=by
 have HP:=Lib.hid (fun i (hi:i<n*n)=>patch_lt (Wn:=Wn) (Hn:=Hn) (F:=F) (N:=N) (x:=x) (y:=y) (X:=X) (Y:=Y) hn hi hx hx' hy hy' hF)
 have hlen:=hr.len
 have HR:=Lib.hid (fun i (hi:i<n*n)=>SRow.at_ hl (show patch Wn F n i<l.length by rw [hlen];exact HP.out i hi))
 obtain ⟨g,hgd⟩:∃ g:Nat→Nat,g=fun i=>l.getD (patch Wn F n i) 0:=⟨_,rfl⟩
 have hgb:∀ i,Bd 20 (g i):=by intro i;rw [hgd];exact hr.bd _
 rw [←hgd]
 obtain ⟨κ,hkd⟩:∃ κ:Nat→Nat,κ=fun i=>K.getD i 0:=⟨_,rfl⟩
 have hkb:∀ i,Bd 20 (κ i):=by intro i;rw [hkd];exact hKb i
 rw [←hkd]
 have hkb0:=hkb
 have KS:=Lib.hid (fun m hm=>ker_step hkb hgb m hm)
 have K0:=fun w'=>run_float_arith (P:=Tryz.prog) w' .mul 48 .f32 (κ 0) (g 0) (kerF κ g 0) (Ieee.Format.bits_mul (hkb 0).1 (hgb 0).1)
 have HKR:=Lib.hid (fun i (hi:i<n*n)=>SRow.at_ hK (show i<K.length by rw [hKn];exact hi))
 have HKG:=Lib.hid hkd.symm
 have dk:w.cell? ⟨pk,0,none⟩=some (.slice (some ⟨kb,ko,none⟩) K.length kc):=hpk.cell 0
 have l6:=hpk.lt
 have kbl:kb<w.heap.size:=srow_blt hK (by rw [hKn];have:=Nat.mul_le_mul (show 1≤n by omega) (show 1≤n by omega);omega)
 have hw2:=hr.w2
 have hh2:=hr.h2
 have g1:=hr.x1;have g2:=hr.x2;have g3:=hr.y1;have g4:=hr.y2
 have bl:b<w.heap.size:=srow_blt hl (right_pos hr)
 obtain ⟨c0,c1,c2,c3,c4⟩:=hq.cells
 obtain ⟨d0,d1,d2,d3⟩:=hg.cells
 have dn:w.cell? ⟨pn,0,none⟩=some (.int .i64 (n:Int)):=hpn.cell 0
 have l1:=hq.lt
 have l2:=hg.lt
 have l3:=hpn.lt
 have nn1:=Nat.mul_le_mul (show n≤33 by omega) (show n≤33 by omega)
 have nn0:=Nat.mul_le_mul (show 1≤n by omega) (show 1≤n by omega)
 have n1:(1:Int)≤n:=by omega
 have n33:(n:Int)≤33:=by omega
 have lenI:(l.length:Int)≤262144:=by
  have:=Nat.mul_le_mul hh2 hw2
  rw [hlen];omega
 have hA:0≤(y-(Y+N))*Wn∧(y-(Y+N))*Wn≤262144:=by
  exact qx75
 have HLE:=Lib.hid hlen
 have bx:X+N≤x:=hx
 have by_:Y+N≤y:=hy
 have xx:-16777216≤x∧x≤16777216:=by omega
 have yy:-16777216≤y∧y≤16777216:=by omega
 have rr:(-16777216≤X+N∧X+N≤16777216)∧(-16777216≤Y+N∧Y+N≤16777216):=by omega
 clear hl hr hq hg hpn hx hx' hy hy' g1 g2 g3 g4 hlen hn hN hK hKb hpk hkb hkd
 have hFe:(y-(Y+N))*Wn+x-(X+N)=F:=by omega
 clear hF
 generalize hRX:X+(N:Int)=RX at *
 generalize hRY:Y+(N:Int)=RY at *
 clear hRX hRY
 obtain ⟨A1,A2⟩:=hA
 obtain ⟨x1,x2⟩:=xx
 obtain ⟨y1,y2⟩:=yy
 obtain ⟨⟨rx1,rx2⟩,ry1,ry2⟩:=rr
 generalize hAe:(y-RY)*Wn=A at *
 have HGE:=Lib.hid hgd.symm
 have HGB:=Lib.hid hgb
 have HKB:=Lib.hid hkb0
 clear hgd hgb hkb0
 have hnn:(n:Int)*(n:Int)=((n*n:Nat):Int):=(Int.natCast_mul n n).symm
 have hn2:((n*n:Nat):Int)≤1089:=by omega
 have hn0:(1:Int)≤((n*n:Nat):Int):=by omega
 have N0:Hid (1≤n):=by unfold Hid;omega
 have NN:Hid (1≤n*n∧n*n≤1089):=by unfold Hid;omega
 clear nn0 nn1
 generalize hN2:n*n=nn at *
 clear hN2
 have HKN:=Lib.hid hKn
 have hKI:(K.length:Int)=(nn:Int):=by omega
 clear hKn
 have R0:w.cell? ⟨b,o+F,none⟩=some (.float .f32 (g 0)):=by
  have:=HR.out 0 (by have:=NN.out;omega)
  have e0:patch Wn F n 0=F:=by unfold patch;simp
  rw [e0] at this
  have e9:g 0=l.getD F 0:=by rw [←HGE.out];show l.getD (patch Wn F n 0) 0=_;rw [e0]
  rw [e9];exact this
 have RK:w.cell? ⟨kb,ko,none⟩=some (.float .f32 (κ 0)):=by
  have:=HKR.out 0 (by have:=NN.out;omega)
  rw [←HKG.out]
  exact this
 have F0:(F:Int)<l.length:=by
  have:=HP.out 0 (by have:=NN.out;omega)
  have e0:patch Wn F n 0=F:=by unfold patch;simp
  rw [e0] at this
  have:=HLE.out
  omega
 have k0:(0:Int)<K.length:=by have:=NN.out.1;omega
 have hK0:0<K.length:=by omega
 generalize hkz:kerF κ g 0=z0 at *
 have HKZ:=Lib.hid hkz
 clear hkz
 generalize κ 0=k00 at *
 generalize g 0=g00 at *
 have HKI:=Lib.hid hKI
 clear hKI
 go_enter Tryz.func156,Tryz.ntmps156
 go_wp2_with fail
 go_quiet (fail)
 go_wp2_with fail
 clear R0 F0 RK k0 K0
 go_loopw [10,11] (fun s v wr=>∃ m i:Nat,m+1=i∧i≤nn∧v=.int .i64 (i:Int)∧s=.float .f32 (kerF κ g m)∧Below w.heap.size w wr) (fun _ v _=>nn-(intOf v).toNat)
 case atStart=>exact ⟨0,1,rfl,NN.out.1,rfl,by rw [HKZ.out],qBl⟩
 case round =>
  clear HKZ
  obtain ⟨m,i,hmi,hm,rfl,rfl,B⟩:=hrel
  have HB:=Lib.hid B
  have HMI:=Lib.hid hmi
  have z:=B.size
  have c0':=(B.cell (p:=⟨q,0,none⟩) (by simpa using l1)).trans c0
  have c1':=(B.cell (p:=⟨q,1,none⟩) (by simpa using l1)).trans c1
  have c2':=(B.cell (p:=⟨q,2,none⟩) (by simpa using l1)).trans c2
  have c3':=(B.cell (p:=⟨q,3,none⟩) (by simpa using l1)).trans c3
  have c4':=(B.cell (p:=⟨q,4,none⟩) (by simpa using l1)).trans c4
  have dn':=(B.cell (p:=⟨pn,0,none⟩) (by simpa using l3)).trans dn
  have dk':=(B.cell (p:=⟨pk,0,none⟩) (by simpa using l6)).trans dk
  have l1':q<wr.heap.size:=by omega
  have l3':pn<wr.heap.size:=by omega
  have l4':b<wr.heap.size:=by omega
  have l5':kb<wr.heap.size:=by omega
  have l6':pk<wr.heap.size:=by omega
  by_cases hlt:i<nn
  ·have hlI:(i:Int)<(K.length:Int):=by have:=HKI.out;omega
   have hlN:i<K.length:=by omega
   obtain ⟨s1,s2,s3⟩:=KS.out m (by have:=NN.out.2;omega)
   have k1:=fun w'=>run_float_arith (P:=Tryz.prog) w' .add 48 .f32 (kerF κ g m) (mulF (κ (m+1)) (g (m+1))) (kerF κ g (m+1)) (Ieee.Format.bits_add s1 s2)
   have km:=fun w'=>run_float_arith (P:=Tryz.prog) w' .mul 48 .f32 (κ (m+1)) (g (m+1)) (mulF (κ (m+1)) (g (m+1))) (Ieee.Format.bits_mul (HKB.out _).1 (HGB.out _).1)
   rw [hmi] at k1 km
   have hc:=(B.cell (p:=⟨b,o+patch Wn F n i,none⟩) (by simpa using bl)).trans (HR.out i hlt)
   have e9:g i=l.getD (patch Wn F n i) 0:=by rw [←HGE.out]
   rw [←e9] at hc
   have hkc:=(B.cell (p:=⟨kb,ko+i,none⟩) (by simpa using kbl)).trans (HKR.out i hlt)
   have e8:κ i=K.getD i 0:=by rw [←HKG.out]
   rw [←e8] at hkc
   have pl:((patch Wn F n i:Nat):Int)<l.length:=by
    have:=HP.out i hlt
    have:=HLE.out
    omega
   have q1:(i:Int).tdiv (n:Int)=((i / n:Nat):Int):=by rw [Int.ofNat_tdiv]
   have q2:(i:Int).tmod (n:Int)=((i%n:Nat):Int):=by rw [Int.ofNat_tmod]
   have q3:((i / n:Nat):Int)*(Wn:Int)=((i / n*Wn:Nat):Int):=(Int.natCast_mul _ _).symm
   have q4:(F:Int)+((i / n*Wn:Nat):Int)+((i%n:Nat):Int)=((patch Wn F n i:Nat):Int):=by unfold patch;omega
   have hp:=HP.out i hlt
   have q5:((i / n*Wn:Nat):Int)≤262144:=by have:=HLE.out;unfold patch at hp;omega
   have q6:(F:Int)≤262144:=by have:=HLE.out;unfold patch at hp;omega
   have q7:((i%n:Nat):Int)≤33:=by have:=Nat.mod_lt i (show 0<n by omega);omega
   have q8:((i / n:Nat):Int)≤1089:=by have:=Nat.div_le_self i n;have:=NN.out.2;omega
   have nz:¬ (n:Int)=0:=by omega
   have nz2:¬ n=0:=by omega
   clear s1 s2 s3 e9 e8 hp hmi
   generalize patch Wn F n i=pp at *
   generalize i / n*Wn=dw at *
   generalize i / n=dq at *
   generalize i%n=dm at *
   have p0:(0:Int)≤(pp:Int):=by omega
   generalize hz1:kerF κ g i=z1 at *
   have HZ1:=Lib.hid hz1
   clear hz1
   generalize mulF (κ i) (g i)=z3 at *
   generalize g i=z2 at *
   generalize κ i=k2 at *
   generalize kerF κ g m=zm at *
   exact qx74
  ·have hnn':i=nn:=by omega
   have hlI:¬ (i:Int)<(K.length:Int):=by have:=HKI.out;omega
   subst hnn'
   have hm1:m=i-1:=by omega
   subst hm1
   clear hmi HMI
   go_wp2_with fail
   go_ret
   exact ⟨rfl,HB.out⟩
theorem box_fsi (w:World) (X Y W H:Int) (v:Value) (c1:Array Value) (t1:TypeId) (c2:Array Value) (t2:TypeId):∀ W0,W0=(((w.alloc (.cells #[.int .i64 X,.int .i64 Y,.int .i64 W,.int .i64 H,v] 32)).alloc (.cells c1 t1)).alloc (.cells c2 t2)).alloc (.cells #[.int .i64 0,.int .i64 0,.int .i64 0,.int .i64 0,.slice none 0 0] 32) →
  Fld W0 w.heap.size X Y W H v∧Blk W0 (w.heap.size+1) c1 t1∧Blk W0 (w.heap.size+1+1) c2 t2∧Fld W0 (w.heap.size+1+1+1) 0 0 0 0 (.slice none 0 0)∧Below w.heap.size w W0:=by
 exact qx27
theorem reg_world (w:World) (X Y W H:Int):∀ W0,W0=w.alloc (.cells #[.int .i64 X,.int .i64 Y,.int .i64 W,.int .i64 H] 26)→Reg W0 w.heap.size X Y W H∧Below w.heap.size w W0:=by
 rintro _ rfl
 exact ⟨Reg.new w X Y W H,qBl⟩
structure SideOk (R:Int) (N:Nat):Prop where
 eq:R=2*N+1
 n7:N≤7
 c1:¬ R<1
 c2:¬ 15<R
 rem:R.tmod 2=1
 quo:(R-1).tdiv 2=N
end Go.Proofs.YtmggflgdoioajaaGreat
