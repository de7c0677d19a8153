import Derived.Test.YtmggflgdoioajaaGreatG16
import Derived.BigQuiet
import Derived.Deep.CutBlock
import Derived.Deep.QuietTactic
import Derived.Deep.DeepCutAuto
import Derived.IntWalk
import Derived.Deep.RegionHeld3
set_option linter.unusedSimpArgs false
set_option linter.unusedVariables false
namespace Go.Proofs.YtmggflgdoioajaaGreat
open Go.ChangeShapes Go.WideShapes Go.ChangeAt Go.RowKit
open Ieee.Format (fin finE htE allFin allHt all_true all_false mulF subF addF Ht Bd divF rootF floorF easeF mixF)
set_option maxRecDepth 100000 in
set_option maxHeartbeats 4000000 in
theorem parts_law (a:Option Addr) (N:List Nd) (cap:Nat) (out a10 a11 a12 a13 a20 a21 a22 a23:Int) (w:World) (hN:NdRow w a N) (hd:∀ d∈N,NdIn w d) :
  Calls Tryz.prog 3 #[.agg #[.slice a N.length cap,.int .i64 out],reg a10 a11 a12 a13,reg a20 a21 a22 a23] w fun e w'=>e=.returned (.bool true)∧Below w.heap.size w w':=by
 have HE:=Lib.hid (eval_any (cap:=cap) (out:=out) hN hd)
 clear hN hd
 obtain ⟨k0,hk0,e0⟩:=and7e a20
 obtain ⟨k1,hk1,e1⟩:=and7e a21
 obtain ⟨k2,hk2,e2⟩:=and7e a22
 obtain ⟨k3,hk3,e3⟩:=and7e a23
 have e4:IntKind.i64.wrap (1+(k2:Int))=((1+k2:Nat):Int):=by rw [IntWalk.i64_in _ (by omega)];push_cast;rfl
 have e5:IntKind.i64.wrap (1+(k3:Int))=((1+k3:Nat):Int):=by rw [IntWalk.i64_in _ (by omega)];push_cast;rfl
 go_enter Tryz.func3,Tryz.ntmps3
 go_upto_region 1 with fail
 generalize hW0:((w.alloc (.cells #[.slice a N.length cap,.int .i64 out] 24)).alloc (.cells #[.int .i64 a10,.int .i64 a11,.int .i64 a12,.int .i64 a13] 26)).alloc (.cells #[.int .i64 a20,.int .i64 a21,.int .i64 a22,.int .i64 a23] 26)=W0 at *
 have S0:=Lib.hid (PaSt.start w a N.length cap out a10 a11 a12 a13 a20 a21 a22 a23 W0 hW0.symm)
 clear hW0
 go_wp2_with fail
 refine (landed_bel _).mono ?_
 rintro e w1 ⟨rfl,b1⟩
 have S1:=Lib.hid (S0.out.call b1)
 clear b1 S0
 have g0:w1.cell? ⟨w.heap.size,0,none⟩=some (.slice a N.length cap):=S1.out.g.cell 0
 have g1:w1.cell? ⟨w.heap.size,1,none⟩=some (.int .i64 out):=S1.out.g.cell 1
 have lg:=S1.out.g.lt
 obtain ⟨r0,r1,r2,r3⟩:=S1.out.r.cells
 have lr:=S1.out.r.lt
 obtain ⟨i0,i1,i2,i3⟩:=S1.out.i.cells
 have li:=S1.out.i.lt
 go_wp2_with fail
 refine (small_reg _ _ _ _ _).mono ?_
 rintro e w2 ⟨A,B,hA1,hA2,hB1,hB2,rfl,b2⟩
 clear g0 g1 lg r0 r1 r2 r3 lr i0 i1 i2 i3 li
 have S2:=Lib.hid (S1.out.call b2)
 clear b2 S1
 have g0:w2.cell? ⟨w.heap.size,0,none⟩=some (.slice a N.length cap):=S2.out.g.cell 0
 have g1:w2.cell? ⟨w.heap.size,1,none⟩=some (.int .i64 out):=S2.out.g.cell 1
 have lg:=S2.out.g.lt
 obtain ⟨r0,r1,r2,r3⟩:=S2.out.r.cells
 have lr:=S2.out.r.lt
 obtain ⟨i0,i1,i2,i3⟩:=S2.out.i.cells
 have li:=S2.out.i.lt
 have rf0:=frozen_of_row _ _ 0 _ _ S2.out.r
 have rf1:=frozen_of_row _ _ 1 _ _ S2.out.r
 have rf2:=frozen_of_row _ _ 2 _ _ S2.out.r
 have rf3:=frozen_of_row _ _ 3 _ _ S2.out.r
 go_upto_region 4 with fail
 generalize hW3:(((w2.setCell ⟨w.heap.size+1,0,none⟩ (.int .i64 a10)).setCell ⟨w.heap.size+1,1,none⟩ (.int .i64 a11)).setCell ⟨w.heap.size+1,2,none⟩ (.int .i64 (A:Int))).setCell ⟨w.heap.size+1,3,none⟩ (.int .i64 (B:Int))=W3 at *
 clear g0 g1 lg r0 r1 r2 r3 lr i0 i1 i2 i3 li
 clear rf0 rf1 rf2 rf3
 have S3:=Lib.hid (S2.out.setR a10 a11 A B W3 hW3.symm)
 clear hW3 S2
 have g0:W3.cell? ⟨w.heap.size,0,none⟩=some (.slice a N.length cap):=S3.out.g.cell 0
 have g1:W3.cell? ⟨w.heap.size,1,none⟩=some (.int .i64 out):=S3.out.g.cell 1
 have lg:=S3.out.g.lt
 obtain ⟨r0,r1,r2,r3⟩:=S3.out.r.cells
 have lr:=S3.out.r.lt
 obtain ⟨i0,i1,i2,i3⟩:=S3.out.i.cells
 have li:=S3.out.i.lt
 have if0:=frozen_of_row _ _ 0 _ _ S3.out.i
 have if1:=frozen_of_row _ _ 1 _ _ S3.out.i
 have if2:=frozen_of_row _ _ 2 _ _ S3.out.i
 have if3:=frozen_of_row _ _ 3 _ _ S3.out.i
 go_upto_region 5 with fail
 clear e4 e5
 generalize hcc:1+(k2:Int)=C' at *
 generalize hdd:1+(k3:Int)=D' at *
 obtain ⟨C,rfl,hC1,hC2⟩:∃ C:Nat,C'=C∧1≤C∧C≤8:=⟨1+k2,by omega,by omega,by omega⟩
 obtain ⟨D,rfl,hD1,hD2⟩:∃ D:Nat,D'=D∧1≤D∧D≤8:=⟨1+k3,by omega,by omega,by omega⟩
 generalize hW4:(W3.setCell ⟨w.heap.size+1+1,2,none⟩ (.int .i64 (C:Int))).setCell ⟨w.heap.size+1+1,3,none⟩ (.int .i64 (D:Int))=W4 at *
 clear g0 g1 lg r0 r1 r2 r3 lr i0 i1 i2 i3 li
 clear if0 if1 if2 if3 hcc hdd e2 e3 hk2 hk3
 have S4:=Lib.hid (S3.out.setWH C D W4 hW4.symm)
 clear hW4 S3
 have g0:W4.cell? ⟨w.heap.size,0,none⟩=some (.slice a N.length cap):=S4.out.g.cell 0
 have g1:W4.cell? ⟨w.heap.size,1,none⟩=some (.int .i64 out):=S4.out.g.cell 1
 have lg:=S4.out.g.lt
 obtain ⟨r0,r1,r2,r3⟩:=S4.out.r.cells
 have lr:=S4.out.r.lt
 obtain ⟨i0,i1,i2,i3⟩:=S4.out.i.cells
 have li:=S4.out.i.lt
 have if0:=frozen_of_row _ _ 0 _ _ S4.out.i
 have if1:=frozen_of_row _ _ 1 _ _ S4.out.i
 have if2:=frozen_of_row _ _ 2 _ _ S4.out.i
 have if3:=frozen_of_row _ _ 3 _ _ S4.out.i
 go_region
 generalize hPX:wrap64 (a10+(k0:Int))=PX at *
 generalize hPY:wrap64 (a11+(k1:Int))=PY at *
 have S5':=S4.out.setXY PX PY _ rfl
 generalize (W4.setCell ⟨w.heap.size+1+1,0,none⟩ (.int .i64 PX)).setCell ⟨w.heap.size+1+1,1,none⟩ (.int .i64 PY)=W5 at *
 have S5:=Lib.hid (S5'.call (Below.refl _ _).drew)
 clear S5' S4 e0 e1 if0 if1 if2 if3
 clear g0 g1 lg r0 r1 r2 r3 lr i0 i1 i2 i3 li
 generalize W5.drew=w5 at *
 have HC:(∀ w',Below w.heap.size w w'→Calls Tryz.prog 8 #[.agg #[.slice a N.length cap,.int .i64 out],reg a10 a11 A B] w' (ErrP w')) ∨
   (∃ R t,RnOk R∧t<R.length∧EvalOk R t a10 a11 A B∧∀ X Y (W H:Nat) w',Below w.heap.size w w'→Calls Tryz.prog 8 #[.agg #[.slice a N.length cap,.int .i64 out],reg X Y W H] w' (EvP R t X Y W H w')):=by
  rcases HE.out with ⟨c,hc,KE⟩|⟨R,t,hR,ht,KE⟩
  ·refine .inl fun w' hb=>(KE _ _ _ _ w' hb).mono ?_
   rintro e w2 ⟨rfl,hb2⟩
   exact ⟨⟨_,_,_,_,_,_,_,c,hc,rfl⟩,hb2⟩
  ·by_cases hk:EvalOk R t a10 a11 A B
   ·exact .inr ⟨R,t,hR,ht,hk,KE⟩
   ·exact .inl fun w' hb=>(KE _ _ _ _ w' hb).mono fun e w2 h=>h.err hk
 clear HE
 have g0:w5.cell? ⟨w.heap.size,0,none⟩=some (.slice a N.length cap):=S5.out.g.cell 0
 have g1:w5.cell? ⟨w.heap.size,1,none⟩=some (.int .i64 out):=S5.out.g.cell 1
 have lg:=S5.out.g.lt
 obtain ⟨r0,r1,r2,r3⟩:=S5.out.r.cells
 have lr:=S5.out.r.lt
 obtain ⟨i0,i1,i2,i3⟩:=S5.out.i.cells
 have li:=S5.out.i.lt
 rcases HC with KE|⟨R,t,hR,ht,hEv,KE⟩
 ·have KE:=Lib.hid KE
  clear hPX hPY hA1 hA2 hB1 hB2 hC1 hC2 hD1 hD2
  go_wp2_with fail
  refine (inside_some _ _ _ _ _ _ _ _ _).mono ?_
  rintro e w6 ⟨r,rfl,b6⟩
  clear g0 g1 lg r0 r1 r2 r3 lr i0 i1 i2 i3 li
  have S6:=Lib.hid (S5.out.call b6)
  clear b6 S5
  have g0:w6.cell? ⟨w.heap.size,0,none⟩=some (.slice a N.length cap):=S6.out.g.cell 0
  have g1:w6.cell? ⟨w.heap.size,1,none⟩=some (.int .i64 out):=S6.out.g.cell 1
  have lg:=S6.out.g.lt
  obtain ⟨r0,r1,r2,r3⟩:=S6.out.r.cells
  have lr:=S6.out.r.lt
  obtain ⟨i0,i1,i2,i3⟩:=S6.out.i.cells
  have li:=S6.out.i.lt
  cases r with
  | false =>
   go_wp2_with fail
   go_ret
   exact ⟨rfl,S6.out.b⟩
  | true =>
   go_wp2_with fail
   refine (KE.out _ S6.out.b).mono ?_
   rintro e w7 ⟨⟨x,y,p,q,aa,n1,kk,c,hc,rfl⟩,b7⟩
   have hb':(c != 0)=true:=by rw [bne_iff_ne];exact hc
   have S7:=Lib.hid (S6.out.call b7)
   clear b7 S6 hc
   clear g0 g1 lg r0 r1 r2 r3 lr i0 i1 i2 i3 li
   go_wp2_with fail
   go_ret
   have hb:=S7.out.b
   exact ⟨rfl,(qBo hb)⟩
 ·have hG:=hEv.at_
  have hk:wrap64 (a10+(k0:Int))=a10+k0∧wrap64 (a11+(k1:Int))=a11+k1:=by
   obtain ⟨h1,h2,h3,h4,h5,h6,h7,h8,h9⟩:=hG
   constructor
   ·unfold wrap64;omega
   ·unfold wrap64;omega
  rw [hk.1] at hPX
  rw [hk.2] at hPY
  have KI:=Lib.hid (fun w=>show Calls Tryz.prog 7 #[reg PX PY C D,reg a10 a11 A B] w fun e' w'=>e'=.returned (.bool (insB PX PY C D a10 a11 A B))∧Below w.heap.size w w' from by
   obtain ⟨h1,h2,h3,h4,h5,h6,h7,h8,h9⟩:=hG
   exact inside2 PX PY C D a10 a11 A B w (by omega) (by omega) (by omega) (by omega) (by omega) (by omega) (by omega) (by omega) (by omega) (by omega) (by omega) (by omega) (by omega) (by omega) (by omega) (by omega))
  have HS:Hid (insB PX PY C D a10 a11 A B=true→EvalOk R t PX PY C D∧(∀ w g k,SRow w (some ⟨g,0,none⟩) (gridL (valK R t) a10 a11 A B)→Calls Tryz.prog 10 #[fldV a10 a11 A B (some ⟨g,0,none⟩) (gridL (valK R t) a10 a11 A B).length k,reg PX PY C D] w fun e w'=>OneP PX PY C D (gridL (valK R t) PX PY C D) w e w')∧(gridL (valK R t) PX PY C D).length≤262144∧(gridL (valK R t) a10 a11 A B).length≤262144):=by
   intro hi
   have hi':=hi
   unfold insB at hi'
   obtain ⟨q1,q2,q3,q4⟩:=of_decide_eq_true hi'
   have h2:=hEv.sub hC1 hD1 q1 q3 q2 q4
   have hgd:=hEv.out hR ht
   have hr:=hG.right (fun x y h=>(hgd x y h).2)
   refine ⟨h2,fun w g k hl=>?_,?_,?_⟩
   ·have:=refcut_ok a10 a11 A B g 0 k _ PX PY C D w hl hr h2.at_.chk hi
    rwa [cut_grid _ _ _ _ _ _ _ _ _ q1 q3 q2 q4] at this
   ·rw [gridL_len];have:=Nat.mul_le_mul hD2 hC2;omega
   ·have e1:=hr.len;have e2:=Nat.mul_le_mul hr.h2 hr.w2;omega
  have HV:=Lib.hid hEv
  have KE:=Lib.hid KE
  clear hPX hPY hG hk hEv hA1 hA2 hB1 hB2 hC1 hC2 hD1 hD2 hR ht
  go_wp2_with fail
  refine (KI.out _).mono ?_
  rintro e w6 ⟨rfl,b6⟩
  clear g0 g1 lg r0 r1 r2 r3 lr i0 i1 i2 i3 li
  have S6:=Lib.hid (S5.out.call b6)
  clear b6 S5
  have g0:w6.cell? ⟨w.heap.size,0,none⟩=some (.slice a N.length cap):=S6.out.g.cell 0
  have g1:w6.cell? ⟨w.heap.size,1,none⟩=some (.int .i64 out):=S6.out.g.cell 1
  have lg:=S6.out.g.lt
  obtain ⟨r0,r1,r2,r3⟩:=S6.out.r.cells
  have lr:=S6.out.r.lt
  obtain ⟨i0,i1,i2,i3⟩:=S6.out.i.cells
  have li:=S6.out.i.lt
  cases hi:insB PX PY C D a10 a11 A B with
  | false =>
   go_wp2_with fail
   go_ret
   exact ⟨rfl,S6.out.b⟩
  | true =>
   obtain ⟨hE2,hcut,hl2,hl1⟩:=HS.out hi
   have HE2:=Lib.hid hE2
   have HCUT:=Lib.hid hcut
   clear HS hE2 hcut hi
   go_wp2_with fail
   refine (KE.out _ _ _ _ _ S6.out.b).mono ?_
   intro e w7 h7
   obtain ⟨g,kk,rfl,ho1,b7⟩:=h7.yes HV.out
   clear h7
   clear g0 g1 lg r0 r1 r2 r3 lr i0 i1 i2 i3 li
   generalize gridL (valK R t) a10 a11 A B=L1 at *
   go_upto_region 9 with fail
   have bA:Below w7.heap.size w7 (w7.alloc (.cells #[.int .i64 a10,.int .i64 a11,.int .i64 A,.int .i64 B,.slice (some ⟨g,0,none⟩) L1.length kk] 32)):=qBl
   have S8:=Lib.hid ((S6.out.call b7).call bA)
   have F8:=Lib.hid (Fld.new w7 a10 a11 A B (.slice (some ⟨g,0,none⟩) L1.length kk))
   have HQ8:=Lib.hid ((ho1.row (by omega)).below bA)
   generalize w7.alloc (.cells #[.int .i64 a10,.int .i64 a11,.int .i64 A,.int .i64 B,.slice (some ⟨g,0,none⟩) L1.length kk] 32)=w8 at *
   generalize w7.heap.size=f1 at *
   clear bA b7 S6 ho1
   have g0:w8.cell? ⟨w.heap.size,0,none⟩=some (.slice a N.length cap):=S8.out.g.cell 0
   have g1:w8.cell? ⟨w.heap.size,1,none⟩=some (.int .i64 out):=S8.out.g.cell 1
   have lg:=S8.out.g.lt
   obtain ⟨r0,r1,r2,r3⟩:=S8.out.r.cells
   have lr:=S8.out.r.lt
   obtain ⟨i0,i1,i2,i3⟩:=S8.out.i.cells
   have li:=S8.out.i.lt
   go_wp2_with fail
   refine (KE.out _ _ _ _ _ S8.out.b).mono ?_
   intro e w9 h9
   obtain ⟨g2,kk2,rfl,ho2,b9⟩:=h9.yes HE2.out
   clear h9
   clear g0 g1 lg r0 r1 r2 r3 lr i0 i1 i2 i3 li
   generalize gridL (valK R t) PX PY C D=L2 at *
   go_upto_region 12 with fail
   have bA:Below w9.heap.size w9 (w9.alloc (.cells #[.int .i64 PX,.int .i64 PY,.int .i64 C,.int .i64 D,.slice (some ⟨g2,0,none⟩) L2.length kk2] 32)):=qBl
   have S10:=Lib.hid ((S8.out.call b9).call bA)
   have F10:=Lib.hid ((F8.out.below b9 F8.out.lt).below bA (F8.out.below b9 F8.out.lt).lt)
   have HQ10:=Lib.hid ((HQ8.out.below b9).below bA)
   have F11:=Lib.hid (Fld.new w9 PX PY C D (.slice (some ⟨g2,0,none⟩) L2.length kk2))
   have HQ11:=Lib.hid ((ho2.row (by omega)).below bA)
   generalize w9.alloc (.cells #[.int .i64 PX,.int .i64 PY,.int .i64 C,.int .i64 D,.slice (some ⟨g2,0,none⟩) L2.length kk2] 32)=w10 at *
   generalize w9.heap.size=f2 at *
   clear bA b9 S8 F8 HQ8 ho2 HE2 HV KE KI
   obtain ⟨i0,i1,i2,i3⟩:=S10.out.i.cells
   have li:=S10.out.i.lt
   obtain ⟨c0,c1,c2,c3,c4⟩:=F10.out.cells
   have lc:=F10.out.lt
   obtain ⟨d0,d1,d2,d3,d4⟩:=F11.out.cells
   have ld:=F11.out.lt
   have hk2:Below w10.heap.size w10 w10:=Below.refl _ _
   go_region_held3 (fun w'=>w'.cell? ⟨w.heap.size+1+1,0,none⟩=some (.int .i64 PX)∧w'.cell? ⟨w.heap.size+1+1,1,none⟩=some (.int .i64 PY)∧w'.cell? ⟨w.heap.size+1+1,2,none⟩=some (.int .i64 (C:Int))∧w'.cell? ⟨w.heap.size+1+1,3,none⟩=some (.int .i64 (D:Int))∧w'.cell? ⟨f1,0,none⟩=some (.int .i64 a10)∧w'.cell? ⟨f1,1,none⟩=some (.int .i64 a11)∧w'.cell? ⟨f1,2,none⟩=some (.int .i64 (A:Int))∧w'.cell? ⟨f1,3,none⟩=some (.int .i64 (B:Int))∧w'.cell? ⟨f1,4,none⟩=some (.slice (some ⟨g,0,none⟩) L1.length kk)∧w'.cell? ⟨f2,0,none⟩=some (.int .i64 PX)∧w'.cell? ⟨f2,1,none⟩=some (.int .i64 PY)∧w'.cell? ⟨f2,2,none⟩=some (.int .i64 (C:Int))∧w'.cell? ⟨f2,3,none⟩=some (.int .i64 (D:Int))∧w'.cell? ⟨f2,4,none⟩=some (.slice (some ⟨g2,0,none⟩) L2.length kk2)∧Below w10.heap.size w10 w')
    (exact ⟨(Below.cell (qBo hk2) (p:=⟨w.heap.size+1+1,0,none⟩) li).trans i0,(Below.cell (qBo hk2) (p:=⟨w.heap.size+1+1,1,none⟩) li).trans i1,(Below.cell (qBo hk2) (p:=⟨w.heap.size+1+1,2,none⟩) li).trans i2,(Below.cell (qBo hk2) (p:=⟨w.heap.size+1+1,3,none⟩) li).trans i3,(Below.cell (qBo hk2) (p:=⟨f1,0,none⟩) lc).trans c0,(Below.cell (qBo hk2) (p:=⟨f1,1,none⟩) lc).trans c1,(Below.cell (qBo hk2) (p:=⟨f1,2,none⟩) lc).trans c2,(Below.cell (qBo hk2) (p:=⟨f1,3,none⟩) lc).trans c3,(Below.cell (qBo hk2) (p:=⟨f1,4,none⟩) lc).trans c4,(Below.cell (qBo hk2) (p:=⟨f2,0,none⟩) ld).trans d0,(Below.cell (qBo hk2) (p:=⟨f2,1,none⟩) ld).trans d1,(Below.cell (qBo hk2) (p:=⟨f2,2,none⟩) ld).trans d2,(Below.cell (qBo hk2) (p:=⟨f2,3,none⟩) ld).trans d3,(Below.cell (qBo hk2) (p:=⟨f2,4,none⟩) ld).trans d4,(qBo hk2)⟩)
    (first
     | (go_at_call 10;go_split_ands;refine (HCUT.out _ _ _ (HQ10.out.below (by assumption))).mono ?_;rintro e2 w2 ⟨⟨x2,y2,p2,q2,a2,n2,k2,rfl,o9⟩,b9⟩;obtain ⟨rfl,rfl,rfl,rfl,g3,rfl,rfl,ho3⟩:=o9.ok0;have hk2:=bot2 (by assumption) b9;clear b9 o9)
     | (go_at_call 9;go_split_ands;refine (refsame_any _ _ _ _ g2 0 _ L2 _ _ _ _ g3 0 _ L2 _ (HQ11.out.below (by assumption)) (ho3.row (by omega))).mono ?_;rw [smB_self];rintro e2 w3 ⟨rfl,b11⟩;have hk2:=bot2 (by assumption) b11;clear b11))
   rename_i hHeld
   have S12:=Lib.hid (S10.out.call hHeld.2.2.2.2.2.2.2.2.2.2.2.2.2.2)
   clear hHeld
   go_wp2_with fail
   go_ret
   exact ⟨rfl,S12.out.b⟩
end Go.Proofs.YtmggflgdoioajaaGreat
