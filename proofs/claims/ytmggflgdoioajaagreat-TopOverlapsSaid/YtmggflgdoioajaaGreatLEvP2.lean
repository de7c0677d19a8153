import Derived.Test.YtmggflgdoioajaaGreatG16
import Derived.BigQuiet
import Derived.Deep.CutBlock
import Derived.Deep.QuietTactic
import Derived.Deep.DeepCutAuto
import Derived.IntWalk
set_option linter.unusedSimpArgs false
set_option linter.unusedVariables false
namespace Go.Proofs.YtmggflgdoioajaaGreat
open Go.ChangeShapes Go.WideShapes Go.ChangeAt Go.RowKit
open Ieee.Format (fin finE htE allFin allHt all_true all_false mulF subF addF Ht Bd divF rootF floorF easeF mixF)
structure TpSt (w:World) (a:Option Addr) (n cap:Nat) (out X Y A B:Int) (wx:World):Prop where
 g:Blk wx w.heap.size #[.slice a n cap,.int .i64 out] 24
 r:Reg wx (w.heap.size+1) X Y A B
 b:Below w.heap.size w wx
section
variable {w wx w2:World} {a:Option Addr} {n cap:Nat} {out X Y A B:Int}
theorem TpSt.call (s:TpSt w a n cap out X Y A B wx) (hb:Below wx.heap.size wx w2):TpSt w a n cap out X Y A B w2:=
 ⟨s.g.below hb s.g.lt,s.r.below hb s.r.lt,bot2 s.b hb⟩
theorem TpSt.start (w:World) (a:Option Addr) (n cap:Nat) (out X Y A B:Int):∀ W0,W0=(w.alloc (.cells #[.slice a n cap,.int .i64 out] 24)).alloc (.cells #[.int .i64 X,.int .i64 Y,.int .i64 A,.int .i64 B] 26)→TpSt w a n cap out X Y A B W0:=by
 rintro _ rfl
 refine ⟨(Blk.new _ _ _).alloc _,?_,qBl⟩
 have:=Reg.new (w.alloc (.cells #[.slice a n cap,.int .i64 out] 24)) X Y A B
 simpa using this
theorem TpSt.setR (s:TpSt w a n cap out X Y A B wx) (x y p q:Int):∀ W',W'=(((wx.setCell ⟨w.heap.size+1,0,none⟩ (.int .i64 x)).setCell ⟨w.heap.size+1,1,none⟩ (.int .i64 y)).setCell ⟨w.heap.size+1,2,none⟩ (.int .i64 p)).setCell ⟨w.heap.size+1,3,none⟩ (.int .i64 q)→TpSt w a n cap out x y p q W':=by
 rintro _ rfl
 have k1:w.heap.size≠w.heap.size+1:=by omega
 have k3:w.heap.size≤w.heap.size+1:=by omega
 exact ⟨(((s.g.setCell k1 _).setCell k1 _).setCell k1 _).setCell k1 _,((((s.r.put x).1.put y).2.1.put p).2.2.1.put q).2.2.2,(((s.b.setCell k3 _).setCell k3 _).setCell k3 _).setCell k3 _⟩
end
theorem cm_case (X Y PX PY:Int) (A B:Nat):cmOk X Y A B PX PY A B=false∨(cmOk X Y A B PX PY A B=true∧∃ (x y:Int) (p q:Nat),1≤p∧1≤q∧cmR X Y A B PX PY A B=reg x y p q∧(X≤x∧x+p≤X+A∧Y≤y∧y+q≤Y+B)∧(PX≤x∧x+p≤PX+A∧PY≤y∧y+q≤PY+B)):=by
 cases h:cmOk X Y A B PX PY A B with
 | false=>exact .inl rfl
 | true =>
  right
  have hr:cmR X Y A B PX PY A B=reg (mx X PX) (mx Y PY) (mn (X+A) (PX+A)-mx X PX) (mn (Y+B) (PY+B)-mx Y PY):=by unfold cmR;rw [if_pos h]
  unfold cmOk at h
  obtain ⟨h1,h2⟩:=of_decide_eq_true h
  obtain ⟨p,hp⟩:=Int.eq_ofNat_of_zero_le (show 0≤mn (X+A) (PX+A)-mx X PX by omega)
  obtain ⟨q,hq⟩:=Int.eq_ofNat_of_zero_le (show 0≤mn (Y+B) (PY+B)-mx Y PY by omega)
  refine ⟨rfl,mx X PX,mx Y PY,p,q,by omega,by omega,by rw [hr,hp,hq],?_,?_⟩
  ·exact qx68
  ·exact qx68
def AnyP (w:World) (e:Ending) (w':World):Prop:=(∃ (x y p q:Int) (a:Option Addr) (n k:Nat) (c:Int),e=.returned (.tuple #[fldV x y p q a n k,.int .i64 c]))∧Below w.heap.size w w'
theorem ErrP.any {w:World} {e:Ending} {w':World} (h:ErrP w e w'):AnyP w e w':=by
 obtain ⟨⟨x,y,p,q,a,n,k,c,_,he⟩,hb⟩:=h
 exact ⟨⟨x,y,p,q,a,n,k,c,he⟩,hb⟩
theorem EvP.any {R:List Rn} {t:Nat} {X Y:Int} {W H:Nat} {w:World} {e:Ending} {w':World} (h:EvP R t X Y W H w e w'):AnyP w e w':=by
 obtain ⟨c,hc,⟨x,y,p,q,a,n,k,he,_⟩,hb⟩:=h
 exact ⟨⟨x,y,p,q,a,n,k,c,he⟩,hb⟩
theorem cut_part {R:List Rn} {t:Nat} (hR:RnOk R) (ht:t<R.length) {X Y:Int} {A B:Nat} (hE:EvalOk R t X Y A B) {x y:Int} {p q:Nat} (hp:1≤p) (hq:1≤q) (h:X≤x∧x+p≤X+A∧Y≤y∧y+q≤Y+B) (g k:Nat) (w:World)
  (hl:SRow w (some ⟨g,0,none⟩) (gridL (valK R t) X Y A B)) (hk:(gridL (valK R t) X Y A B).length≤k) :
  Calls Tryz.prog 14 #[fldV X Y A B (some ⟨g,0,none⟩) (gridL (valK R t) X Y A B).length k,reg x y p q] w (OpP 0 x y p q (gridL (valK R t) x y p q) w):=by
 obtain ⟨h1,h2,h3,h4⟩:=h
 have hs:=hE.sub hp hq h1 h2 h3 h4
 have hgd:=hE.out hR ht
 have hr:=hE.at_.right (fun x y h=>(hgd x y h).2)
 have hi:insB x y p q X Y A B=true:=by unfold insB;exact decide_eq_true ⟨h1,h3,h2,h4⟩
 have:=cut_ok X Y A B g 0 k _ x y p q w hl hk hr hs.at_.chk hi
 rwa [cut_grid _ _ _ _ _ _ _ _ _ h1 h2 h3 h4] at this
set_option maxRecDepth 100000 in
set_option maxHeartbeats 4000000 in
theorem overlaps_law (a:Option Addr) (N:List Nd) (cap:Nat) (out a10 a11 a12 a13 dx dy:Int) (w:World) (hN:NdRow w a N) (hd:∀ d∈N,NdIn w d) :
  Calls Tryz.prog 4 #[.agg #[.slice a N.length cap,.int .i64 out],reg a10 a11 a12 a13,.int .i64 dx,.int .i64 dy] w fun e w'=>e=.returned (.bool true)∧Below w.heap.size w w':=by
 have HE:=Lib.hid (eval_any (cap:=cap) (out:=out) hN hd)
 clear hN hd
 obtain ⟨k0,hk0,e0⟩:=and15e dx
 obtain ⟨k1,hk1,e1⟩:=and15e dy
 go_enter Tryz.func4,Tryz.ntmps4
 go_upto_region 1 with fail
 generalize hW0:(w.alloc (.cells #[.slice a N.length cap,.int .i64 out] 24)).alloc (.cells #[.int .i64 a10,.int .i64 a11,.int .i64 a12,.int .i64 a13] 26)=W0 at *
 have S0:=Lib.hid (TpSt.start w a N.length cap out a10 a11 a12 a13 W0 hW0.symm)
 clear hW0
 go_wp2_with fail
 refine (landedtop_bel _).mono ?_
 rintro e w1 ⟨rfl,b1⟩
 have S1:=Lib.hid (S0.out.call b1)
 clear b1 S0
 have g0:w1.cell? ⟨w.heap.size,0,none⟩=some (.slice a N.length cap):=S1.out.g.cell 0
 have g1:w1.cell? ⟨w.heap.size,1,none⟩=some (.int .i64 out):=S1.out.g.cell 1
 have lg:=S1.out.g.lt
 obtain ⟨r0,r1,r2,r3⟩:=S1.out.r.cells
 have lr:=S1.out.r.lt
 go_wp2_with fail
 refine (little_reg _ _ _ _ _).mono ?_
 rintro e w2 ⟨A,B,hA1,hA2,hB1,hB2,rfl,b2⟩
 clear g0 g1 lg r0 r1 r2 r3 lr
 have S2:=Lib.hid (S1.out.call b2)
 clear b2 S1
 have g0:w2.cell? ⟨w.heap.size,0,none⟩=some (.slice a N.length cap):=S2.out.g.cell 0
 have g1:w2.cell? ⟨w.heap.size,1,none⟩=some (.int .i64 out):=S2.out.g.cell 1
 have lg:=S2.out.g.lt
 obtain ⟨r0,r1,r2,r3⟩:=S2.out.r.cells
 have lr:=S2.out.r.lt
 have rf0:=frozen_of_row _ _ 0 _ _ S2.out.r
 have rf1:=frozen_of_row _ _ 1 _ _ S2.out.r
 have rf2:=frozen_of_row _ _ 2 _ _ S2.out.r
 have rf3:=frozen_of_row _ _ 3 _ _ S2.out.r
 go_upto_region 4 with fail
 generalize hW3:(((w2.setCell ⟨w.heap.size+1,0,none⟩ (.int .i64 a10)).setCell ⟨w.heap.size+1,1,none⟩ (.int .i64 a11)).setCell ⟨w.heap.size+1,2,none⟩ (.int .i64 (A:Int))).setCell ⟨w.heap.size+1,3,none⟩ (.int .i64 (B:Int))=W3 at *
 clear g0 g1 lg r0 r1 r2 r3 lr
 clear rf0 rf1 rf2 rf3
 have S3:=Lib.hid (S2.out.setR a10 a11 A B W3 hW3.symm)
 clear hW3 S2
 have g0:W3.cell? ⟨w.heap.size,0,none⟩=some (.slice a N.length cap):=S3.out.g.cell 0
 have g1:W3.cell? ⟨w.heap.size,1,none⟩=some (.int .i64 out):=S3.out.g.cell 1
 have lg:=S3.out.g.lt
 obtain ⟨r0,r1,r2,r3⟩:=S3.out.r.cells
 have lr:=S3.out.r.lt
 go_upto_region 5 with fail
 go_region
 generalize hPX:wrap64 (a10+(k0:Int))=PX at *
 generalize hPY:wrap64 (a11+(k1:Int))=PY at *
 have bA:Below W3.heap.size W3 (W3.alloc (.cells #[.int .i64 PX,.int .i64 PY,.int .i64 (A:Int),.int .i64 (B:Int)] 26)).drew:=qBl
 have S5':=S3.out.call bA
 have R5':Reg (W3.alloc (.cells #[.int .i64 PX,.int .i64 PY,.int .i64 (A:Int),.int .i64 (B:Int)] 26)).drew W3.heap.size PX PY A B:=Reg.new _ _ _ _ _
 generalize (W3.alloc (.cells #[.int .i64 PX,.int .i64 PY,.int .i64 (A:Int),.int .i64 (B:Int)] 26)).drew=w5 at *
 clear bA
 clear g0 g1 lg r0 r1 r2 r3 lr
 generalize W3.heap.size=ks at *
 have S5:=Lib.hid S5'
 have R5:=Lib.hid R5'
 clear S5' R5' S3 e0 e1
 have HC:((∀ w',Below w.heap.size w w'→Calls Tryz.prog 8 #[.agg #[.slice a N.length cap,.int .i64 out],reg a10 a11 A B] w' (ErrP w'))∧(∀ w',Below w.heap.size w w'→Calls Tryz.prog 8 #[.agg #[.slice a N.length cap,.int .i64 out],reg PX PY A B] w' (AnyP w'))) ∨
   ((∀ w',Below w.heap.size w w'→Calls Tryz.prog 8 #[.agg #[.slice a N.length cap,.int .i64 out],reg a10 a11 A B] w' (AnyP w'))∧(∀ w',Below w.heap.size w w'→Calls Tryz.prog 8 #[.agg #[.slice a N.length cap,.int .i64 out],reg PX PY A B] w' (ErrP w'))) ∨
   (∃ R t,RnOk R∧t<R.length∧EvalOk R t a10 a11 A B∧EvalOk R t PX PY A B∧∀ X Y (W H:Nat) w',Below w.heap.size w w'→Calls Tryz.prog 8 #[.agg #[.slice a N.length cap,.int .i64 out],reg X Y W H] w' (EvP R t X Y W H w')):=by
  rcases HE.out with ⟨c,hc,KE⟩|⟨R,t,hR,ht,KE⟩
  ·have KB:∀ X Y W H w',Below w.heap.size w w'→Calls Tryz.prog 8 #[.agg #[.slice a N.length cap,.int .i64 out],reg X Y W H] w' (ErrP w'):=fun X Y W H w' hb=>(KE X Y W H w' hb).mono (by
    rintro e w2 ⟨rfl,hb2⟩
    exact ⟨⟨_,_,_,_,_,_,_,c,hc,rfl⟩,hb2⟩)
   exact .inl ⟨fun w' hb=>KB _ _ _ _ w' hb,fun w' hb=>(KB _ _ _ _ w' hb).mono fun e w2 h=>h.any⟩
  ·by_cases h1:EvalOk R t a10 a11 A B
   ·by_cases h2:EvalOk R t PX PY A B
    ·exact .inr (.inr ⟨R,t,hR,ht,h1,h2,KE⟩)
    ·exact .inr (.inl ⟨fun w' hb=>(KE _ _ _ _ w' hb).mono fun e w2 h=>h.any,fun w' hb=>(KE _ _ _ _ w' hb).mono fun e w2 h=>h.err h2⟩)
   ·exact .inl ⟨fun w' hb=>(KE _ _ _ _ w' hb).mono fun e w2 h=>h.err h1,fun w' hb=>(KE _ _ _ _ w' hb).mono fun e w2 h=>h.any⟩
 clear HE hPX hPY hk0 hk1
 rcases HC with ⟨K1,K2⟩|⟨K1,K2⟩|⟨R,t,hR,ht,hE1,hE2,KE⟩
 ·have K1:=Lib.hid K1
  have K2:=Lib.hid K2
  have g0:w5.cell? ⟨w.heap.size,0,none⟩=some (.slice a N.length cap):=S5.out.g.cell 0
  have g1:w5.cell? ⟨w.heap.size,1,none⟩=some (.int .i64 out):=S5.out.g.cell 1
  have lg:=S5.out.g.lt
  obtain ⟨r0,r1,r2,r3⟩:=S5.out.r.cells
  have lr:=S5.out.r.lt
  obtain ⟨s0,s1,s2,s3⟩:=R5.out.cells
  have ls:=R5.out.lt
  go_wp2_with fail
  refine (K1.out _ S5.out.b).mono ?_
  rintro e w6 ⟨⟨x,y,p,q,aa,n1,kk,c1,hc1,rfl⟩,b6⟩
  clear g0 g1 lg r0 r1 r2 r3 lr
  clear s0 s1 s2 s3 ls
  go_upto_region 7 with fail
  have bA:Below w6.heap.size w6 (w6.alloc (.cells #[.int .i64 x,.int .i64 y,.int .i64 p,.int .i64 q,.slice aa n1 kk] 32)):=qBl
  have S7:=Lib.hid ((S5.out.call b6).call bA)
  have R7:=Lib.hid ((R5.out.below b6 R5.out.lt).below bA (R5.out.below b6 R5.out.lt).lt)
  generalize w6.alloc (.cells #[.int .i64 x,.int .i64 y,.int .i64 p,.int .i64 q,.slice aa n1 kk] 32)=w7 at *
  clear bA b6 S5 R5
  have g0:w7.cell? ⟨w.heap.size,0,none⟩=some (.slice a N.length cap):=S7.out.g.cell 0
  have g1:w7.cell? ⟨w.heap.size,1,none⟩=some (.int .i64 out):=S7.out.g.cell 1
  have lg:=S7.out.g.lt
  obtain ⟨r0,r1,r2,r3⟩:=S7.out.r.cells
  have lr:=S7.out.r.lt
  obtain ⟨s0,s1,s2,s3⟩:=R7.out.cells
  have ls:=R7.out.lt
  go_wp2_with fail
  refine (K2.out _ S7.out.b).mono ?_
  rintro e w8 ⟨⟨x,y,p,q,aa,n1,kk,c2,rfl⟩,b8⟩
  clear g0 g1 lg r0 r1 r2 r3 lr
  clear s0 s1 s2 s3 ls
  go_upto_region 8 with fail
  have bA:Below w8.heap.size w8 (w8.alloc (.cells #[.int .i64 x,.int .i64 y,.int .i64 p,.int .i64 q,.slice aa n1 kk] 32)):=qBl
  have S9:=Lib.hid ((S7.out.call b8).call bA)
  have R9:=Lib.hid ((R7.out.below b8 R7.out.lt).below bA (R7.out.below b8 R7.out.lt).lt)
  generalize w8.alloc (.cells #[.int .i64 x,.int .i64 y,.int .i64 p,.int .i64 q,.slice aa n1 kk] 32)=w9 at *
  clear bA b8 S7 R7
  have g0:w9.cell? ⟨w.heap.size,0,none⟩=some (.slice a N.length cap):=S9.out.g.cell 0
  have g1:w9.cell? ⟨w.heap.size,1,none⟩=some (.int .i64 out):=S9.out.g.cell 1
  have lg:=S9.out.g.lt
  obtain ⟨r0,r1,r2,r3⟩:=S9.out.r.cells
  have lr:=S9.out.r.lt
  obtain ⟨s0,s1,s2,s3⟩:=R9.out.cells
  have ls:=R9.out.lt
  go_wp2_with fail
  refine (common_some _ _ _ _ _ _ _ _ _).mono ?_
  rintro e w10 ⟨u0,u1,u2,u3,r,rfl,b10⟩
  clear g0 g1 lg r0 r1 r2 r3 lr
  clear s0 s1 s2 s3 ls
  have S10:=Lib.hid (S9.out.call b10)
  clear b10 S9 R9
  have hb1:(c1 != 0)=true:=by rw [bne_iff_ne];exact hc1
  go_wp2_with fail
  go_ret
  have hb:=S10.out.b
  exact ⟨rfl,(qBo hb)⟩
 ·have K1:=Lib.hid K1
  have K2:=Lib.hid K2
  have g0:w5.cell? ⟨w.heap.size,0,none⟩=some (.slice a N.length cap):=S5.out.g.cell 0
  have g1:w5.cell? ⟨w.heap.size,1,none⟩=some (.int .i64 out):=S5.out.g.cell 1
  have lg:=S5.out.g.lt
  obtain ⟨r0,r1,r2,r3⟩:=S5.out.r.cells
  have lr:=S5.out.r.lt
  obtain ⟨s0,s1,s2,s3⟩:=R5.out.cells
  have ls:=R5.out.lt
  go_wp2_with fail
  refine (K1.out _ S5.out.b).mono ?_
  rintro e w6 ⟨⟨x,y,p,q,aa,n1,kk,c1,rfl⟩,b6⟩
  clear g0 g1 lg r0 r1 r2 r3 lr
  clear s0 s1 s2 s3 ls
  go_upto_region 7 with fail
  have bA:Below w6.heap.size w6 (w6.alloc (.cells #[.int .i64 x,.int .i64 y,.int .i64 p,.int .i64 q,.slice aa n1 kk] 32)):=qBl
  have S7:=Lib.hid ((S5.out.call b6).call bA)
  have R7:=Lib.hid ((R5.out.below b6 R5.out.lt).below bA (R5.out.below b6 R5.out.lt).lt)
  generalize w6.alloc (.cells #[.int .i64 x,.int .i64 y,.int .i64 p,.int .i64 q,.slice aa n1 kk] 32)=w7 at *
  clear bA b6 S5 R5
  have g0:w7.cell? ⟨w.heap.size,0,none⟩=some (.slice a N.length cap):=S7.out.g.cell 0
  have g1:w7.cell? ⟨w.heap.size,1,none⟩=some (.int .i64 out):=S7.out.g.cell 1
  have lg:=S7.out.g.lt
  obtain ⟨r0,r1,r2,r3⟩:=S7.out.r.cells
  have lr:=S7.out.r.lt
  obtain ⟨s0,s1,s2,s3⟩:=R7.out.cells
  have ls:=R7.out.lt
  go_wp2_with fail
  refine (K2.out _ S7.out.b).mono ?_
  rintro e w8 ⟨⟨x,y,p,q,aa,n1,kk,c2,hc2,rfl⟩,b8⟩
  clear g0 g1 lg r0 r1 r2 r3 lr
  clear s0 s1 s2 s3 ls
  go_upto_region 8 with fail
  have bA:Below w8.heap.size w8 (w8.alloc (.cells #[.int .i64 x,.int .i64 y,.int .i64 p,.int .i64 q,.slice aa n1 kk] 32)):=qBl
  have S9:=Lib.hid ((S7.out.call b8).call bA)
  have R9:=Lib.hid ((R7.out.below b8 R7.out.lt).below bA (R7.out.below b8 R7.out.lt).lt)
  generalize w8.alloc (.cells #[.int .i64 x,.int .i64 y,.int .i64 p,.int .i64 q,.slice aa n1 kk] 32)=w9 at *
  clear bA b8 S7 R7
  have g0:w9.cell? ⟨w.heap.size,0,none⟩=some (.slice a N.length cap):=S9.out.g.cell 0
  have g1:w9.cell? ⟨w.heap.size,1,none⟩=some (.int .i64 out):=S9.out.g.cell 1
  have lg:=S9.out.g.lt
  obtain ⟨r0,r1,r2,r3⟩:=S9.out.r.cells
  have lr:=S9.out.r.lt
  obtain ⟨s0,s1,s2,s3⟩:=R9.out.cells
  have ls:=R9.out.lt
  go_wp2_with fail
  refine (common_some _ _ _ _ _ _ _ _ _).mono ?_
  rintro e w10 ⟨u0,u1,u2,u3,r,rfl,b10⟩
  clear g0 g1 lg r0 r1 r2 r3 lr
  clear s0 s1 s2 s3 ls
  have S10:=Lib.hid (S9.out.call b10)
  clear b10 S9 R9
  have hb2:(c2 != 0)=true:=by rw [bne_iff_ne];exact hc2
  by_cases h1:c1=0
  ·have hb1:(c1 != 0)=false:=by rw [h1];rfl
   clear h1
   go_wp2_with fail
   go_ret
   have hb:=S10.out.b
   exact ⟨rfl,(qBo hb)⟩
  ·have hb1:(c1 != 0)=true:=by rw [bne_iff_ne];exact h1
   clear h1
   go_wp2_with fail
   go_ret
   have hb:=S10.out.b
   exact ⟨rfl,(qBo hb)⟩
 ·have hg1:=hE1.at_
  have hg2:=hE2.at_
  have KC:=Lib.hid (fun w=>show Calls Tryz.prog 13 #[reg a10 a11 A B,reg PX PY A B] w fun e' w'=>e'=.returned (.tuple #[cmR a10 a11 A B PX PY A B,.bool (cmOk a10 a11 A B PX PY A B)])∧Below w.heap.size w w' from by
   obtain ⟨h1,h2,h3,h4,h5,h6,h7,h8,h9⟩:=hg1
   obtain ⟨i1,i2,i3,i4,i5,i6,i7,i8,i9⟩:=hg2
   exact common1 a10 a11 A B PX PY A B w (by omega) (by omega) (by omega) (by omega) (by omega) (by omega) (by omega) (by omega) (by omega) (by omega) (by omega) (by omega) (by omega) (by omega) (by omega) (by omega))
  have HL:Hid ((gridL (valK R t) a10 a11 A B).length≤262144∧(gridL (valK R t) PX PY A B).length≤262144):=by
   rw [gridL_len,gridL_len]
   have:=Nat.mul_le_mul hB2 hA2
   exact ⟨by omega,by omega⟩
  have HLQ:=Lib.hid (fun (x y:Int) (p q:Nat) (h1:p≤A) (h2:q≤B)=>show (gridL (valK R t) x y p q).length≤262144 from by rw [gridL_len];have:=Nat.mul_le_mul (Nat.le_trans h2 hB2) (Nat.le_trans h1 hA2);omega)
  have HX1:=Lib.hid (fun x y p q (hp:1≤p) (hq:1≤q) h g k w hl hk=>cut_part hR ht hE1 (x:=x) (y:=y) (p:=p) (q:=q) hp hq h g k w hl hk)
  have HX2:=Lib.hid (fun x y p q (hp:1≤p) (hq:1≤q) h g k w hl hk=>cut_part hR ht hE2 (x:=x) (y:=y) (p:=p) (q:=q) hp hq h g k w hl hk)
  have HV1:=Lib.hid hE1
  have HV2:=Lib.hid hE2
  have KE:=Lib.hid KE
  clear hg1 hg2 hE1 hE2 hR ht hA1 hA2 hB1 hB2
  have g0:w5.cell? ⟨w.heap.size,0,none⟩=some (.slice a N.length cap):=S5.out.g.cell 0
  have g1:w5.cell? ⟨w.heap.size,1,none⟩=some (.int .i64 out):=S5.out.g.cell 1
  have lg:=S5.out.g.lt
  obtain ⟨r0,r1,r2,r3⟩:=S5.out.r.cells
  have lr:=S5.out.r.lt
  obtain ⟨s0,s1,s2,s3⟩:=R5.out.cells
  have ls:=R5.out.lt
  go_wp2_with fail
  refine (KE.out _ _ _ _ _ S5.out.b).mono ?_
  intro e w6 h6
  obtain ⟨g,kk,rfl,ho1,b6⟩:=h6.yes HV1.out
  clear h6
  clear g0 g1 lg r0 r1 r2 r3 lr
  clear s0 s1 s2 s3 ls
  go_upto_region 7 with fail
  have bA:Below w6.heap.size w6 (w6.alloc (.cells #[.int .i64 a10,.int .i64 a11,.int .i64 A,.int .i64 B,.slice (some ⟨g,0,none⟩) (gridL (valK R t) a10 a11 A B).length kk] 32)):=qBl
  have S7:=Lib.hid ((S5.out.call b6).call bA)
  have R7:=Lib.hid ((R5.out.below b6 R5.out.lt).below bA (R5.out.below b6 R5.out.lt).lt)
  have F7:=Lib.hid (Fld.new w6 a10 a11 A B (.slice (some ⟨g,0,none⟩) (gridL (valK R t) a10 a11 A B).length kk))
  have hlen1:=HL.out.1
  have HQ7:=Lib.hid ((ho1.row (by omega)).below bA)
  have HC1:=Lib.hid (own_cap ho1)
  generalize w6.alloc (.cells #[.int .i64 a10,.int .i64 a11,.int .i64 A,.int .i64 B,.slice (some ⟨g,0,none⟩) (gridL (valK R t) a10 a11 A B).length kk] 32)=w7 at *
  generalize w6.heap.size=f1 at *
  clear bA b6 S5 R5 ho1 hlen1
  have g0:w7.cell? ⟨w.heap.size,0,none⟩=some (.slice a N.length cap):=S7.out.g.cell 0
  have g1:w7.cell? ⟨w.heap.size,1,none⟩=some (.int .i64 out):=S7.out.g.cell 1
  have lg:=S7.out.g.lt
  obtain ⟨r0,r1,r2,r3⟩:=S7.out.r.cells
  have lr:=S7.out.r.lt
  obtain ⟨s0,s1,s2,s3⟩:=R7.out.cells
  have ls:=R7.out.lt
  go_wp2_with fail
  refine (KE.out _ _ _ _ _ S7.out.b).mono ?_
  intro e w8 h8
  obtain ⟨g2,kk2,rfl,ho2,b8⟩:=h8.yes HV2.out
  clear h8
  clear g0 g1 lg r0 r1 r2 r3 lr
  clear s0 s1 s2 s3 ls
  go_upto_region 8 with fail
  have bA:Below w8.heap.size w8 (w8.alloc (.cells #[.int .i64 PX,.int .i64 PY,.int .i64 A,.int .i64 B,.slice (some ⟨g2,0,none⟩) (gridL (valK R t) PX PY A B).length kk2] 32)):=qBl
  have S9:=Lib.hid ((S7.out.call b8).call bA)
  have R9:=Lib.hid ((R7.out.below b8 R7.out.lt).below bA (R7.out.below b8 R7.out.lt).lt)
  have F9:=Lib.hid ((F7.out.below b8 F7.out.lt).below bA (F7.out.below b8 F7.out.lt).lt)
  have HQ9:=Lib.hid ((HQ7.out.below b8).below bA)
  have G9:=Lib.hid (Fld.new w8 PX PY A B (.slice (some ⟨g2,0,none⟩) (gridL (valK R t) PX PY A B).length kk2))
  have hlen2:=HL.out.2
  have HP9:=Lib.hid ((ho2.row (by omega)).below bA)
  have HC2:=Lib.hid (own_cap ho2)
  generalize w8.alloc (.cells #[.int .i64 PX,.int .i64 PY,.int .i64 A,.int .i64 B,.slice (some ⟨g2,0,none⟩) (gridL (valK R t) PX PY A B).length kk2] 32)=w9 at *
  generalize w8.heap.size=f2 at *
  clear bA b8 S7 R7 F7 HQ7 ho2 hlen2 HV1 HV2 KE HL
  have g0:w9.cell? ⟨w.heap.size,0,none⟩=some (.slice a N.length cap):=S9.out.g.cell 0
  have g1:w9.cell? ⟨w.heap.size,1,none⟩=some (.int .i64 out):=S9.out.g.cell 1
  have lg:=S9.out.g.lt
  obtain ⟨r0,r1,r2,r3⟩:=S9.out.r.cells
  have lr:=S9.out.r.lt
  obtain ⟨s0,s1,s2,s3⟩:=R9.out.cells
  have ls:=R9.out.lt
  go_wp2_with fail
  refine (KC.out _).mono ?_
  rintro e w10 ⟨rfl,b10⟩
  clear g0 g1 lg r0 r1 r2 r3 lr
  clear s0 s1 s2 s3 ls
  rcases cm_case a10 a11 PX PY A B with hk|⟨hk,x,y,p,q,hp,hq,hr,hin1,hin2⟩
  ·have hr:∃ u0 u1 u2 u3:Int,cmR a10 a11 A B PX PY A B=reg u0 u1 u2 u3:=by
    unfold cmR
    split
    ·exact ⟨_,_,_,_,rfl⟩
    ·exact ⟨_,_,_,_,rfl⟩
   obtain ⟨u0,u1,u2,u3,hr⟩:=hr
   rw [hk,hr]
   have S10:=Lib.hid (S9.out.call b10)
   clear hk hr b10 S9 HX1 HX2
   go_wp2_with fail
   go_ret
   have hb:=S10.out.b
   exact ⟨rfl,(qBo hb)⟩
  ·rw [hk,hr]
   have KX1:=Lib.hid (fun w hl=>HX1.out x y p q hp hq hin1 g kk w hl HC1.out)
   have KX2:=Lib.hid (fun w hl=>HX2.out x y p q hp hq hin2 g2 kk2 w hl HC2.out)
   have hlq:=HLQ.out x y p q (by obtain ⟨q1,q2,_⟩:=hin1;omega) (by obtain ⟨_,_,q1,q2⟩:=hin1;omega)
   clear hk hr HX1 HX2 hin1 hin2 hp hq KC HC1 HC2 HLQ
   generalize gridL (valK R t) x y p q=LC at *
   generalize gridL (valK R t) a10 a11 A B=L1 at *
   generalize gridL (valK R t) PX PY A B=L2 at *
   go_upto_region 11 with fail
   have bA:Below w10.heap.size w10 (w10.alloc (.cells #[.int .i64 x,.int .i64 y,.int .i64 p,.int .i64 q] 26)):=qBl
   have S11:=Lib.hid ((S9.out.call b10).call bA)
   have F11:=Lib.hid ((F9.out.below b10 F9.out.lt).below bA (F9.out.below b10 F9.out.lt).lt)
   have G11:=Lib.hid ((G9.out.below b10 G9.out.lt).below bA (G9.out.below b10 G9.out.lt).lt)
   have HQ11:=Lib.hid ((HQ9.out.below b10).below bA)
   have HP11:=Lib.hid ((HP9.out.below b10).below bA)
   have R11:=Lib.hid (Reg.new w10 x y p q)
   generalize w10.alloc (.cells #[.int .i64 x,.int .i64 y,.int .i64 p,.int .i64 q] 26)=w11 at *
   generalize w10.heap.size=kc at *
   clear bA b10 S9 R9 F9 G9 HQ9 HP9
   obtain ⟨s0,s1,s2,s3⟩:=R11.out.cells
   have ls:=R11.out.lt
   obtain ⟨d0,d1,d2,d3,d4⟩:=F11.out.cells
   have ld:=F11.out.lt
   go_wp2_with fail
   refine (KX1.out _ HQ11.out).mono ?_
   rintro e w12 ⟨⟨x1,y1,p1,q1,aa,n1,k1',rfl,ho⟩,b12⟩
   obtain ⟨rfl,rfl,rfl,rfl,g3,rfl,rfl,ho3⟩:=ho.ok0
   clear ho s0 s1 s2 s3 ls d0 d1 d2 d3 d4 ld
   go_upto_region 12 with fail
   have bA:Below w12.heap.size w12 (w12.alloc (.cells #[.int .i64 x1,.int .i64 y1,.int .i64 p,.int .i64 q,.slice (some ⟨g3,0,none⟩) LC.length k1'] 32)):=qBl
   have S13:=Lib.hid ((S11.out.call b12).call bA)
   have G13:=Lib.hid ((G11.out.below b12 G11.out.lt).below bA (G11.out.below b12 G11.out.lt).lt)
   have R13:=Lib.hid ((R11.out.below b12 R11.out.lt).below bA (R11.out.below b12 R11.out.lt).lt)
   have HP13:=Lib.hid ((HP11.out.below b12).below bA)
   have HO13:=Lib.hid ((ho3.row (by omega)).below bA)
   have F13:=Lib.hid (Fld.new w12 x1 y1 p q (.slice (some ⟨g3,0,none⟩) LC.length k1'))
   generalize w12.alloc (.cells #[.int .i64 x1,.int .i64 y1,.int .i64 p,.int .i64 q,.slice (some ⟨g3,0,none⟩) LC.length k1'] 32)=w13 at *
   generalize w12.heap.size=f3 at *
   clear bA b12 S11 F11 G11 R11 HQ11 HP11 ho3 KX1
   obtain ⟨s0,s1,s2,s3⟩:=R13.out.cells
   have ls:=R13.out.lt
   obtain ⟨d0,d1,d2,d3,d4⟩:=G13.out.cells
   have ld:=G13.out.lt
   go_wp2_with fail
   refine (KX2.out _ HP13.out).mono ?_
   rintro e w14 ⟨⟨x2,y2,p2,q2,aa,n2,k2',rfl,ho⟩,b14⟩
   obtain ⟨rfl,rfl,rfl,rfl,g4,rfl,rfl,ho4⟩:=ho.ok0
   clear ho s0 s1 s2 s3 ls d0 d1 d2 d3 d4 ld
   go_upto_region 13 with fail
   have bA:Below w14.heap.size w14 (w14.alloc (.cells #[.int .i64 x2,.int .i64 y2,.int .i64 p,.int .i64 q,.slice (some ⟨g4,0,none⟩) LC.length k2'] 32)):=qBl
   have S15:=Lib.hid ((S13.out.call b14).call bA)
   have F15:=Lib.hid ((F13.out.below b14 F13.out.lt).below bA (F13.out.below b14 F13.out.lt).lt)
   have HO15:=Lib.hid ((HO13.out.below b14).below bA)
   have HP15:=Lib.hid ((ho4.row (by omega)).below bA)
   have G15:=Lib.hid (Fld.new w14 x2 y2 p q (.slice (some ⟨g4,0,none⟩) LC.length k2'))
   generalize w14.alloc (.cells #[.int .i64 x2,.int .i64 y2,.int .i64 p,.int .i64 q,.slice (some ⟨g4,0,none⟩) LC.length k2'] 32)=w15 at *
   generalize w14.heap.size=f4 at *
   clear bA b14 S13 G13 R13 HP13 HO13 F13 ho4 KX2
   obtain ⟨c0,c1,c2,c3,c4⟩:=F15.out.cells
   have lc:=F15.out.lt
   obtain ⟨d0,d1,d2,d3,d4⟩:=G15.out.cells
   have ld:=G15.out.lt
   go_wp2_with fail
   refine (topequal_any _ _ _ _ g3 0 _ LC _ _ _ _ g4 0 _ LC _ HO15.out HP15.out).mono ?_
   rw [smB_self]
   rintro e w16 ⟨rfl,b16⟩
   have S16:=Lib.hid (S15.out.call b16)
   clear b16
   go_wp2_with fail
   go_ret
   exact ⟨rfl,S16.out.b⟩
end Go.Proofs.YtmggflgdoioajaaGreat
