import Derived.Test.YtmggflgdoioajaaGreatG11
import Derived.BigQuiet
import Derived.Deep.QuietTactic
import Derived.Deep.DeepCutAuto
import Derived.Deep.RegionHeld3
import Derived.Deep.CutBlock
import Derived.IntWalk
set_option linter.unusedSimpArgs false
set_option linter.unusedVariables false
namespace Go.Proofs.YtmggflgdoioajaaGreat
open Go.ChangeShapes Go.WideShapes Go.ChangeAt Go.RowKit
open Ieee.Format (fin finE htE allFin allHt all_true all_false mulF subF addF Ht Bd divF rootF floorF easeF mixF)
theorem ht_bds {K:List Nat} (h:htE K=0):∀ i,Bd 20 (K.getD i 0):=by
 intro i
 have a:=Ieee.Format.allHt_iff.1 (Ieee.Format.htE_zero h)
 rcases Nat.lt_or_ge i K.length with hlt|hge
 ·rw [List.getD_eq_getElem?_getD,List.getElem?_eq_getElem hlt]
  exact (a _ (List.getElem_mem hlt)).bd
 ·rw [List.getD_eq_getElem?_getD,List.getElem?_eq_none hge]
  exact Ieee.Format.Ht.bd (by unfold Ieee.Format.Ht;decide)
set_option maxRecDepth 100000 in
set_option maxHeartbeats 1000000 in
theorem kern_yes (X Y:Int) (Wn Hn:Nat) (R:Int) (N:Nat) (kb ko:Nat) (K:List Nat) (b o c kc:Nat) (l:List Nat) (w:World) (hl:SRow w (some ⟨b,o,none⟩) l) (hr:Right X Y Wn Hn l) (hs:SideOk R N) (hk:SRow w (some ⟨kb,ko,none⟩) K) (h:(K.length:Int)=R*R) (hz:htE K=0) (h3:2*N+1≤Wn) (h4:2*N+1≤Hn) :
  Calls Tryz.prog 124 #[fldV X Y Wn Hn (some ⟨b,o,none⟩) l.length c,.slice (some ⟨kb,ko,none⟩) K.length kc,.int .i64 R] w fun e w'=>OpP (resC (padL (kerV K l X Y Wn N) X Y Wn Hn N)) (X+N) (Y+N) ((Wn-2*N:Nat):Int) ((Hn-2*N:Nat):Int) (padL (kerV K l X Y Wn N) X Y Wn Hn N) w e w':=by
 have KC:=Lib.hid (fun w h=>check_field X Y Wn Hn (some ⟨b,o,none⟩) c l w h)
 rw [hr.chk] at KC
 have HL:=Lib.hid hl
 have KH:=Lib.hid (fun w (h:SRow w (some ⟨kb,ko,none⟩) K)=>heights_any (some ⟨kb,ko,none⟩) kc K w h)
 rw [hz] at KH
 have HK:=Lib.hid hk
 obtain ⟨s1,s2,s3,s4,s5,s6⟩:=hs
 have r1:0≤R*R:=Int.mul_nonneg (by omega) (by omega)
 have r2:R*R≤15*15:=Int.mul_le_mul (by omega) (by omega) (by omega) (by omega)
 have hbd:=ht_bds hz
 have hKn:K.length=(2*N+1)*(2*N+1):=by
  have e:(K.length:Int)=(((2*N+1)*(2*N+1):Nat):Int):=by
   rw [h,s1,Int.natCast_mul];rfl
  omega
 have g1:=hr.w2;have g2:=hr.h2;have g3:=hr.x1;have g4:=hr.x2;have g5:=hr.y1;have g6:=hr.y2
 have KS:=Lib.hid (fun w=>fsmaller_yes X Y Wn Hn N w (by omega) (by omega) (by omega) (by omega) (by omega) (by omega) (by omega) (by omega) (by omega) (by omega))
 rw [show (Wn:Int)-2*(N:Int)=((Wn-2*N:Nat):Int) from by omega,show (Hn:Int)-2*(N:Int)=((Hn-2*N:Nat):Int) from by omega] at KS
 have KM:=Lib.hid (fun q pr pk pn w hl (hk:SRow w (some ⟨kb,ko,none⟩) K) (hq:Fld w q X Y Wn Hn (.slice (some ⟨b,o,none⟩) l.length c)) (hg:Reg w pr (X+N) (Y+N) ((Wn-2*N:Nat):Int) ((Hn-2*N:Nat):Int)) (hpk:Blk w pk #[.slice (some ⟨kb,ko,none⟩) K.length kc] 30) (hpn:Blk w pn #[.int .i64 R] 3) =>
  make_pad 156 #[.pointer (some ⟨pr,0,none⟩),.pointer (some ⟨q,0,none⟩),.pointer (some ⟨pk,0,none⟩),.pointer (some ⟨pn,0,none⟩)] (kerV K l X Y Wn N) X Y Wn Hn N l w hr h3 h4 (enters_of Tryz.func156 (by kernel_rfl) rfl) (fun x y=>kerF_lt _ _ _)
   (fun x y a1 a2 a3 a4 W' hb=>kernfn_any l K X Y Wn Hn N (2*N+1) x y b o c kb ko kc q pr pk pn (corner X Y Wn N x y) W' (SRow.below hl hb) hr rfl s2 (SRow.below hk hb) hKn hbd (hpk.below hb hpk.lt) a1 a2 a3 a4 (hq.below hb hq.lt) (hg.below hb hg.lt) (by rw [show ((2*N+1:Nat):Int)=R from by omega];exact hpn.below hb hpn.lt) (corner_eq a1 a3)))
 have KR:=Lib.hid (fun X1 Y1 W1 H1 g cap B w ho=>result_any X1 Y1 W1 H1 g cap B (padL (kerV K l X Y Wn N) X Y Wn Hn N) w ho (padL_small _ N hr))
 have m1:(0:Int)≤(N:Int):=by omega
 have m2:(N:Int)≤7:=by omega
 clear hl hr s1 s2 hk g1 g2 g3 g4 g5 g6 h3 h4 hKn hbd hz
 generalize padL (kerV K l X Y Wn N) X Y Wn Hn N=S at *
 generalize resC S=C at *
 generalize Wn-2*N=P at *
 generalize Hn-2*N=Q at *
 generalize (N:Int)=M at *
 generalize X+M=X1 at *
 generalize Y+M=Y1 at *
 generalize hka:(some ⟨kb,ko,none⟩:Option Addr)=ka at *
 go_enter Tryz.func124,Tryz.ntmps124
 go_wp2_with fail
 generalize hW0:(((w.alloc (.cells #[.int .i64 X,.int .i64 Y,.int .i64 Wn,.int .i64 Hn,.slice (some ⟨b,o,none⟩) l.length c] 32)).alloc (.cells #[.slice ka K.length kc] 30)).alloc (.cells #[.int .i64 R] 3)).alloc (.cells #[.int .i64 0,.int .i64 0,.int .i64 0,.int .i64 0,.slice none 0 0] 32)=W0 at *
 obtain ⟨E0,P0,Q0,F0,B0⟩:=box_fsi w X Y Wn Hn (.slice (some ⟨b,o,none⟩) l.length c) #[.slice ka K.length kc] 30 #[.int .i64 R] 3 W0 hW0.symm
 clear hW0
 refine (KC.out _ (HL.out.below B0)).mono ?_
 rintro e w1 ⟨rfl,b1⟩
 have HE1:=Lib.hid (E0.below b1 E0.lt)
 have HP1:=Lib.hid (P0.below b1 P0.lt)
 have HQ1:=Lib.hid (Q0.below b1 Q0.lt)
 have HF1:=Lib.hid (F0.below b1 F0.lt)
 have HL1:=Lib.hid ((HL.out.below B0).below b1)
 have HB1:=Lib.hid (B0.trans (b1.mono B0.size))
 have HBB1:=Lib.hid (B0.trans (b1.mono B0.size))
 clear b1 B0 F0 E0 P0 Q0 KC HL
 have p1:w1.cell? ⟨w.heap.size+1,0,none⟩=some (.slice ka K.length kc):=HP1.out.cell 0
 have q1:w1.cell? ⟨w.heap.size+1+1,0,none⟩=some (.int .i64 R):=HQ1.out.cell 0
 have l3:w.heap.size+1+1+1<w1.heap.size:=HF1.out.lt
 have l2:w.heap.size+1+1<w1.heap.size:=by omega
 have l1:w.heap.size+1<w1.heap.size:=by omega
 have l0:w.heap.size<w1.heap.size:=by omega
 go_wp2_with fail
 refine (KH.out _ (HK.out.below HB1.out)).mono ?_
 rintro e w2 ⟨rfl,rfl⟩
 obtain ⟨c0,c1,c2,c3,c4⟩:=HE1.out.cells
 go_wp2_with fail
 refine (KS.out _).mono ?_
 rintro e w2 ⟨rfl,b2⟩
 have HE2:=Lib.hid (HE1.out.below b2 HE1.out.lt)
 have HP2:=Lib.hid (HP1.out.below b2 HP1.out.lt)
 have HQ2:=Lib.hid (HQ1.out.below b2 HQ1.out.lt)
 have HF2:=Lib.hid (HF1.out.below b2 HF1.out.lt)
 have HL2:=Lib.hid (HL1.out.below b2)
 have HB2:=Lib.hid (HB1.out.trans (b2.mono HB1.out.size))
 clear b2 c0 c1 c2 c3 c4 HF1 HB1 HBB1 HE1 HL1 HP1 HQ1 KS p1 q1 l3 l2 l1 l0
 go_wp2_with fail
 generalize hW4:w2.alloc (.cells #[.int .i64 X1,.int .i64 Y1,.int .i64 (P:Int),.int .i64 (Q:Int)] 26)=W4 at *
 obtain ⟨R4,B4⟩:=reg_world w2 X1 Y1 P Q W4 hW4.symm
 clear hW4
 have HF4:=Lib.hid (HF2.out.below B4 HF2.out.lt)
 have HB4:=Lib.hid (HB2.out.trans (B4.mono HB2.out.size))
 refine (KM.out _ _ _ _ _ (HL2.out.below B4) (HK.out.below HB4.out) (HE2.out.below B4 HE2.out.lt) R4 (HP2.out.below B4 HP2.out.lt) (HQ2.out.below B4 HQ2.out.lt)).mono ?_
 rintro e w3 ⟨⟨g,cap,rfl,ho⟩,b3⟩
 have HO3:=Lib.hid ho
 have HF3:=Lib.hid (HF4.out.below b3 HF4.out.lt)
 have HB3:=Lib.hid (HB4.out.trans (b3.mono HB4.out.size))
 have HZB:Hid (w.heap.size+1+1+1<W4.heap.size):=HF4.out.lt
 have HBB:Hid (w.heap.size≤W4.heap.size):=HB4.out.size
 clear ho b3 KM HE2 HL2 HP2 HQ2 R4 B4 HF2 HB2 HF4 HB4
 go_wp2_with fail
 refine (KR.out _ _ _ _ _ _ _ _ HO3.out).mono ?_
 rintro e w4 ⟨⟨x,y,p,q,a,m,k,rfl,o4⟩,b4⟩
 have HOZ:=Lib.hid o4
 have HFZ:=Lib.hid (HF3.out.below b4 HF3.out.lt)
 have HBZ:=Lib.hid (HB3.out.trans (b4.mono HB3.out.size))
 clear o4 b4 KR HO3 HF3 HB3
 obtain ⟨d0,d1,d2,d3,d4⟩:=HFZ.out.cells
 have qf0:=HFZ.out.frozen 0
 have qf1:=HFZ.out.frozen 1
 have qf2:=HFZ.out.frozen 2
 have qf3:=HFZ.out.frozen 3
 have qf4:=HFZ.out.frozen 4
 have lz:=HFZ.out.lt
 go_wp2_with fail
 generalize hW5:((((w4.setCell ⟨w.heap.size+1+1+1,0,none⟩ (.int .i64 x)).setCell ⟨w.heap.size+1+1+1,1,none⟩ (.int .i64 y)).setCell ⟨w.heap.size+1+1+1,2,none⟩ (.int .i64 p)).setCell ⟨w.heap.size+1+1+1,3,none⟩ (.int .i64 q)).setCell ⟨w.heap.size+1+1+1,4,none⟩ (.slice a m k)=W5 at *
 obtain ⟨f5,bb5,oo5,_,z5⟩:=fld_store w4 (w.heap.size+1+1+1) 0 0 0 0 _ x y p q (.slice a m k) HFZ.out W5 hW5.symm
 have hO5:=(HOZ.out.set oo5 HZB.out).base HBB.out
 have hB5:=HBZ.out.trans (bb5.mono (by omega))
 clear d0 d1 d2 d3 d4 qf0 qf1 qf2 qf3 qf4 hW5 oo5
 obtain ⟨d0,d1,d2,d3,d4⟩:=f5.cells
 exact bodyPost_ret (v:=.tuple #[fldV x y p q a m k,.int .i64 C]) (by simp [results,Tryz.results124,go_sem, *]) rfl ⟨⟨x,y,p,q,a,m,k,rfl,hO5⟩,hB5⟩
open Ieee.Format (slopeF curveF)
set_option maxRecDepth 100000 in
theorem curve_ok (X Y:Int) (Wn Hn:Nat) (b o c:Nat) (l:List Nat) (w:World) (hl:SRow w (some ⟨b,o,none⟩) l) (hr:Right X Y Wn Hn l) (h3:3≤Wn) (h4:3≤Hn) :
  Calls Tryz.prog 126 #[fldV X Y Wn Hn (some ⟨b,o,none⟩) l.length c] w fun e w'=>OpP (resC (innerL curveF X Y Wn Hn l)) (X+1) (Y+1) ((Wn-2:Nat):Int) ((Hn-2:Nat):Int) (innerL curveF X Y Wn Hn l) w e w':=by
 have KI:=Lib.hid (fun w hl=>inner_ok X Y Wn Hn b o c l w hl hr h3 h4)
 have KM:=Lib.hid (fun q w hl (hq:Fld w q X Y Wn Hn (.slice (some ⟨b,o,none⟩) l.length c))=>make_inner 162 #[.pointer (some ⟨q,0,none⟩)] curveF X Y Wn Hn l w hr h3 h4 (enters_of Tryz.func162 (by kernel_rfl) rfl) (fun k=>Ieee.Format.subF_lt _ _) (fun x y k hk W' hb=>curvefn_any X Y Wn Hn x y b o c k q l W' (SRow.below hl hb) hr hk (hq.below hb hq.lt)))
 have KR:=Lib.hid (fun X1 Y1 W1 H1 g cap B w ho=>result_any X1 Y1 W1 H1 g cap B (innerL curveF X Y Wn Hn l) w ho (innerL_small curveF hr))
 have HL:=Lib.hid hl
 clear hl hr h3 h4
 generalize innerL curveF X Y Wn Hn l=S at *
 generalize resC S=C at *
 go_enter Tryz.func126,Tryz.ntmps126
 go_wp2_with fail
 generalize hW0:(w.alloc (.cells #[.int .i64 X,.int .i64 Y,.int .i64 Wn,.int .i64 Hn,.slice (some ⟨b,o,none⟩) l.length c] 32)).alloc (.cells #[.int .i64 0,.int .i64 0,.int .i64 0,.int .i64 0,.slice none 0 0] 32)=W0 at *
 obtain ⟨E0,F0,B0,z0⟩:=two_fields w X Y Wn Hn (.slice (some ⟨b,o,none⟩) l.length c) W0 hW0.symm
 clear hW0
 refine (KI.out _ (HL.out.below B0)).mono ?_
 rintro e w1 ⟨rfl,b1⟩
 have E1:=E0.below b1 E0.lt
 have F1:=F0.below b1 F0.lt
 have HL1:=Lib.hid ((HL.out.below B0).below b1)
 have B1:=Lib.hid (B0.trans (b1.mono B0.size))
 clear b1 B0 F0 E0 z0 KI HL
 have hR:=Reg.new w1 (X+1) (Y+1) ((Wn-2:Nat):Int) ((Hn-2:Nat):Int)
 have b2:Below w1.heap.size w1 (w1.alloc (.cells #[.int .i64 (X+1),.int .i64 (Y+1),.int .i64 ((Wn-2:Nat):Int),.int .i64 ((Hn-2:Nat):Int)] 26)):=qBl
 have HE2:=Lib.hid (E1.below b2 E1.lt)
 have HF2:=Lib.hid (F1.below b2 F1.lt)
 have HL2:=Lib.hid (HL1.out.below b2)
 have HB2:=Lib.hid (B1.out.trans (b2.mono B1.out.size))
 have l0:w.heap.size<w1.heap.size:=E1.lt
 have l1:w.heap.size+1<w1.heap.size:=F1.lt
 have HR2:=Lib.hid hR
 clear E1 F1 HL1 B1 b2 hR
 have HS2:Hid (w1.heap.size+1=(w1.alloc (.cells #[.int .i64 (X+1),.int .i64 (Y+1),.int .i64 ((Wn-2:Nat):Int),.int .i64 ((Hn-2:Nat):Int)] 26)).heap.size):=Lib.hid (by simp)
 go_wp2_with fail
 generalize w1.alloc (.cells #[.int .i64 (X+1),.int .i64 (Y+1),.int .i64 ((Wn-2:Nat):Int),.int .i64 ((Hn-2:Nat):Int)] 26)=w2 at *
 refine (KM.out _ _ HL2.out HE2.out).mono ?_
 rintro e w3 ⟨⟨g,cap,rfl,ho⟩,b3⟩
 have HO3:=Lib.hid ho
 have HF3:=Lib.hid (HF2.out.below b3 HF2.out.lt)
 have HB3:=Lib.hid (HB2.out.trans (b3.mono HB2.out.size))
 clear ho b3 KM HE2 HL2
 go_wp2_with fail
 refine (KR.out _ _ _ _ _ _ _ _ HO3.out).mono ?_
 rintro e w4 ⟨⟨x,y,p,q,a,m,k,rfl,o4⟩,b4⟩
 have HOZ:=Lib.hid o4
 have HFZ:=Lib.hid (HF3.out.below b4 HF3.out.lt)
 have HBZ:=Lib.hid (HB3.out.trans (b4.mono HB3.out.size))
 have HZB:Hid (w.heap.size+1<w2.heap.size):=HF2.out.lt
 have HBB:Hid (w.heap.size≤w2.heap.size):=HB2.out.size
 clear o4 b4 KR HO3 HF3 HB3 HF2 HB2 l0 l1
 obtain ⟨d0,d1,d2,d3,d4⟩:=HFZ.out.cells
 have qf0:=HFZ.out.frozen 0
 have qf1:=HFZ.out.frozen 1
 have qf2:=HFZ.out.frozen 2
 have qf3:=HFZ.out.frozen 3
 have qf4:=HFZ.out.frozen 4
 have lz:=HFZ.out.lt
 go_wp2_with fail
 generalize hW5:((((w4.setCell ⟨w.heap.size+1,0,none⟩ (.int .i64 x)).setCell ⟨w.heap.size+1,1,none⟩ (.int .i64 y)).setCell ⟨w.heap.size+1,2,none⟩ (.int .i64 p)).setCell ⟨w.heap.size+1,3,none⟩ (.int .i64 q)).setCell ⟨w.heap.size+1,4,none⟩ (.slice a m k)=W5 at *
 obtain ⟨f5,bb5,oo5,_,z5⟩:=fld_store w4 (w.heap.size+1) 0 0 0 0 _ x y p q (.slice a m k) HFZ.out W5 hW5.symm
 have hO5:=(HOZ.out.set oo5 HZB.out).base HBB.out
 have hB5:=HBZ.out.trans (bb5.mono (by omega))
 clear d0 d1 d2 d3 d4 qf0 qf1 qf2 qf3 qf4 hW5 oo5
 obtain ⟨d0,d1,d2,d3,d4⟩:=f5.cells
 exact bodyPost_ret (v:=.tuple #[fldV x y p q a m k,.int .i64 C]) (by simp [results,Tryz.results126,go_sem, *]) rfl ⟨⟨x,y,p,q,a,m,k,rfl,hO5⟩,hB5⟩
open Ieee.Format (bits_mul bits_add const_half MoveOk move_ok reachF octS)
def warpP (kd seed cell:Int) (n g a:Nat) (x y:Int):Int × Int:=(x+moveZ (fracF kd seed cell n g x y) a,y+moveZ (fracF kd (hashTo seed 1 1 5 3) cell n g x y) a)
theorem warp_ok (kd seed cell x y:Int) {n g a:Nat} (h1:1≤n) (hn:n≤10) (hg:Share g) (c1:1≤cell) (c2:cell≤4096) (ha:fin Ieee.single a∧0≤Ieee.single.V a∧Ieee.single.V a≤64) :
  MoveOk (fracF kd seed cell n g x y) a (reachF g (bndF kd) n)∧fin Ieee.single (fracF kd seed cell n g x y):=by
 obtain ⟨f1,f2,r1,r2,r3,r4⟩:=frac_within kd seed cell x y h1 hn hg c1 c2
 exact ⟨move_ok f1 f2 ha.1 ha.2.1 ha.2.2 r1 r2 r3,f1⟩
set_option maxRecDepth 100000 in
set_option maxHeartbeats 1000000 in
theorem movefn_any (kd seed cell n:Int) (g v a r:Nat) (h:MoveOk v a r) (fv:fin Ieee.single v) (fa:fin Ieee.single a) (p:Nat) (w:World) (A:Blk w p (wpC kd seed cell n g a) 88) :
  Calls Tryz.prog 181 #[.float .f32 v,.pointer (some ⟨p,0,none⟩)] w fun e w'=>e=.returned (.int .i64 (moveZ v a))∧w=w':=by
 have k1:=fun w'=>run_float_arith (P:=Tryz.prog) w' .mul 48 .f32 _ _ _ (bits_mul fv fa)
 have k2:=fun w'=>run_float_arith (P:=Tryz.prog) w' .add 48 .f32 _ _ _ (bits_add h.f1 const_half.1)
 have KF:=Lib.hid (fun w=>floor_any (addF (mulF v a) 1056964608) h.f2 (Ieee.Format.addF_lt _ _) w)
 have kc:=fun w=>run_convert_float_int (P:=Tryz.prog) w 48 3 .f32 .i64 (floorF (addF (mulF v a) 1056964608)) (moveZ v a) (by kernel_rfl) Tryz.underlying3 (move_in h).1
 unfold wpC at A
 have p5:=A.cell 5
 simp at p5
 have l0:=A.lt
 clear A h fv fa
 generalize moveZ v a=z at *
 generalize floorF (addF (mulF v a) 1056964608)=f3 at *
 generalize addF (mulF v a) 1056964608=f2 at *
 generalize mulF v a=f1 at *
 go_enter Tryz.func181,Tryz.ntmps181
 go_wp2_with fail
 refine (KF.out _).mono ?_
 rintro e w1 ⟨rfl,rfl⟩
 go_wp2_with fail
 go_ret
 exact ⟨rfl,rfl⟩
theorem wp_world (w:World) (c0 c1 c2:Array Value) (t0 t1 t2:TypeId):∀ W0,W0=((w.alloc (.cells c0 t0)).alloc (.cells c1 t1)).alloc (.cells c2 t2) →
  Blk W0 w.heap.size c0 t0∧Blk W0 (w.heap.size+1) c1 t1∧Blk W0 (w.heap.size+1+1) c2 t2∧Below w.heap.size w W0:=by
 rintro _ rfl
 refine ⟨((Blk.new _ _ _).alloc _).alloc _,?_,?_,qBl⟩
 ·have:=(Blk.new (w.alloc (.cells c0 t0)) c1 t1).alloc (.cells c2 t2)
  simpa using this
 ·have:=Blk.new ((w.alloc (.cells c0 t0)).alloc (.cells c1 t1)) c2 t2
  simpa using this
theorem fr_seed {w:World} {k:Nat} {kd seed cell n:Int} {g:Nat} (h:Blk w k #[.int .i64 kd,.int .u32 seed,.int .i64 cell,.int .i64 n,.float .f32 g] 84) (s:Int) :
  Blk (w.setCell ⟨k,1,none⟩ (.int .u32 s)) k #[.int .i64 kd,.int .u32 s,.int .i64 cell,.int .i64 n,.float .f32 g] 84∧Below k w (w.setCell ⟨k,1,none⟩ (.int .u32 s)):=by
 refine ⟨?_,qBl⟩
 unfold Blk at *;exact heap_setCell_same w k 1 _ _ _ h
structure WpS (w:World) (kd seed cell n:Int) (g a:Nat) (s2:Int) (wr:World):Prop where
 a:Blk wr w.heap.size #[.int .i64 kd,.int .u32 seed,.int .i64 cell,.int .i64 n,.float .f32 g,.float .f32 a] 88
 p:Blk wr (w.heap.size+1) #[.int .i64 0,.int .i64 0] 185
 o:Blk wr (w.heap.size+1+1) #[.int .i64 kd,.int .u32 s2,.int .i64 cell,.int .i64 n,.float .f32 g] 84
 b:Below w.heap.size w wr
theorem WpS.below {w wr w2:World} {kd seed cell n s2:Int} {g a:Nat} (h:WpS w kd seed cell n g a s2 wr) (hb:Below wr.heap.size wr w2):WpS w kd seed cell n g a s2 w2:=
 ⟨h.a.below hb h.a.lt,h.p.below hb h.p.lt,h.o.below hb h.o.lt,h.b.trans (hb.mono h.b.size)⟩
theorem WpS.drew {w wr:World} {kd seed cell n s2:Int} {g a:Nat} (h:WpS w kd seed cell n g a s2 wr):WpS w kd seed cell n g a s2 wr.drew:=⟨h.a.drew,h.p.drew,h.o.drew,h.b.drew⟩
theorem WpS.seed {w wr:World} {kd seed cell n s2:Int} {g a:Nat} (h:WpS w kd seed cell n g a s2 wr) (s:Int):WpS w kd seed cell n g a s (wr.setCell ⟨w.heap.size+1+1,1,none⟩ (.int .u32 s)):=by
 obtain ⟨x,y⟩:=fr_seed h.o s
 exact ⟨h.a.below y (by omega),h.p.below y (by omega),x,h.b.trans (y.mono (by omega))⟩
set_option maxRecDepth 100000 in
set_option maxHeartbeats 2000000 in
theorem warp_any (kd seed cell x y:Int) (n g a:Nat) (w:World) (h1:1≤n) (hn:n≤10) (hg:Share g) (c1:1≤cell) (c2:cell≤4096) (ha:fin Ieee.single a∧0≤Ieee.single.V a∧Ieee.single.V a≤64) (hx:-8388608≤x) (hx2:x≤8388608) (hy:-8388608≤y) (hy2:y≤8388608) :
  Calls Tryz.prog 170 #[wpV kd seed cell n g a,.int .i64 x,.int .i64 y] w fun e w'=>e=.returned (ptV (warpP kd seed cell n g a x y))∧Below w.heap.size w w':=by
 obtain ⟨o1,f1⟩:=warp_ok kd seed cell x y h1 hn hg c1 c2 ha
 obtain ⟨o2,f2⟩:=warp_ok kd (hashTo seed 1 1 5 3) cell x y h1 hn hg c1 c2 ha
 have m1:=move_in o1
 have m2:=move_in o2
 have KF1:=Lib.hid (fun w=>fractal_any kd seed cell x y n g w hn hg c1 c2 hx hx2 hy hy2)
 have KF2:=Lib.hid (fun w=>fractal_any kd (hashTo seed 1 1 5 3) cell x y n g w hn hg c1 c2 hx hx2 hy hy2)
 have KM1:=Lib.hid (fun W (A:Blk W w.heap.size (wpC kd seed cell n g a) 88)=>movefn_any kd seed cell n g _ a _ o1 f1 ha.1 w.heap.size W A)
 have KM2:=Lib.hid (fun W (A:Blk W w.heap.size (wpC kd seed cell n g a) 88)=>movefn_any kd seed cell n g _ a _ o2 f2 ha.1 w.heap.size W A)
 have KH:=Lib.hid (fun w=>hash1 seed 1 1 5 w)
 have eg:∀ args w,(callFunc 181 args).run Tryz.prog w=.ok (.enter 181 args) w:=enters_of Tryz.func181 (by kernel_rfl) rfl
 unfold warpP ptV
 simp only
 clear o1 f1 o2 f2 hg h1 hn c1 c2 ha
 generalize moveZ (fracF kd seed cell n g x y) a=z1 at *
 generalize moveZ (fracF kd (hashTo seed 1 1 5 3) cell n g x y) a=z2 at *
 generalize fracF kd seed cell n g x y=v1 at *
 generalize fracF kd (hashTo seed 1 1 5 3) cell n g x y=v2 at *
 generalize hashTo seed 1 1 5 3=s2 at *
 have w1':IntKind.i64.wrap (x+z1)=x+z1:=IntWalk.i64_in _ (by omega)
 have w2':IntKind.i64.wrap (y+z2)=y+z2:=IntWalk.i64_in _ (by omega)
 clear m1 m2 hx hx2 hy hy2
 generalize (n:Int)=n at *
 unfold wpV frV at *
 unfold wpC at *
 go_enter Tryz.func170,Tryz.ntmps170
 go_upto_region 2 with fail
 generalize hW0:((w.alloc (.cells #[.int .i64 kd,.int .u32 seed,.int .i64 cell,.int .i64 n,.float .f32 g,.float .f32 a] 88)).alloc (.cells #[.int .i64 0,.int .i64 0] 185)).alloc (.cells #[.int .i64 kd,.int .u32 seed,.int .i64 cell,.int .i64 n,.float .f32 g] 84)=W0 at *
 obtain ⟨x0,x1,x2,x3⟩:=wp_world w #[.int .i64 kd,.int .u32 seed,.int .i64 cell,.int .i64 n,.float .f32 g,.float .f32 a] #[.int .i64 0,.int .i64 0] #[.int .i64 kd,.int .u32 seed,.int .i64 cell,.int .i64 n,.float .f32 g] 88 185 84 W0 hW0.symm
 have S0:WpS w kd seed cell n g a seed W0:=⟨x0,x1,x2,x3⟩
 have S0:=Lib.hid S0
 clear hW0 x0 x1 x2 x3
 have p1:=S0.out.a.cell 1
 simp at p1
 have l0:=S0.out.a.lt
 have l2:=S0.out.o.lt
 have f1:=S0.out.o.frozen 1
 have o1:=S0.out.o.cell 1
 simp at o1
 go_wp2_with fail
 refine (KH.out _).mono ?_
 rintro e w2 ⟨rfl,rfl⟩
 go_upto_region 4 with fail
 have S1:=Lib.hid (S0.out.seed s2)
 generalize W0.setCell ⟨w.heap.size+1+1,1,none⟩ (.int .u32 s2)=W1 at *
 clear S0 p1 l0 l2 f1 o1 KH
 refine wp_region_noPanic ?_
 refine wp_region_heldT (WpS w kd seed cell n g a s2) 18 (by kernel_rfl) S1.out.drew (fun hHeld=>?_)
 refine wpAnyT_takeL [18] (i:=0) (v:=?_) rfl (by kernel_rfl) (by kernel_rfl) (by kernel_rfl) (by kernel_rfl) (fun _ _ _ h=>h) (Or.inl ⟨by rfl,?_⟩) (by with_reducible assumption) ?_
 rotate_left
 ·exact qx7
 try simp only [qS,qN,qC,qD]
 refine wpAnyT_takeL [18] (i:=1) (v:=?_) rfl (by kernel_rfl) (by kernel_rfl) (by kernel_rfl) (by kernel_rfl) (fun _ _ _ h=>h) (Or.inl ⟨by rfl,?_⟩) (by with_reducible assumption) ?_
 rotate_left
 ·exact qx7
 try simp only [qS,qN,qC,qD]
 refine wpAnyT_takeL [18] (i:=2) (v:=?_) rfl (by kernel_rfl) (by kernel_rfl) (by kernel_rfl) (by kernel_rfl) (fun _ _ _ h=>h) (Or.inl ⟨by rfl,?_⟩) (by with_reducible assumption) ?_
 rotate_left
 ·exact qx7
 try simp only [qS,qN,qC,qD]
 refine wpAnyT_takeL [18] (i:=3) (v:=?_) rfl (by kernel_rfl) (by kernel_rfl) (by kernel_rfl) (by kernel_rfl) (fun _ _ _ h=>h) (Or.inl ⟨by rfl,?_⟩) (by with_reducible assumption) ?_
 rotate_left
 ·exact qx7
 try simp only [qS,qN,qC,qD]
 refine wpAnyT_takeL [18] (i:=4) (v:=?_) rfl (by kernel_rfl) (by kernel_rfl) (by kernel_rfl) (by kernel_rfl) (fun _ _ _ h=>h) (Or.inl ⟨by rfl,?_⟩) (by with_reducible assumption) ?_
 rotate_left
 ·exact qx7
 try simp only [qS,qN,qC,qD]
 refine wpAnyT_takeL [18] (i:=5) (v:=?_) rfl (by kernel_rfl) (by kernel_rfl) (by kernel_rfl) (by kernel_rfl) (fun _ _ _ h=>h) (Or.inl ⟨by rfl,?_⟩) (by with_reducible assumption) ?_
 rotate_left
 ·exact qx7
 try simp only [qS,qN,qC,qD]
 refine wpAnyT_takeL [18] (i:=9) (v:=?_) rfl (by kernel_rfl) (by kernel_rfl) (by kernel_rfl) (by kernel_rfl) (fun _ _ _ h=>h) (Or.inl ⟨by rfl,?_⟩) (by with_reducible assumption) ?_
 rotate_left
 ·exact qx7
 try simp only [qS,qN,qC,qD]
 refine wpAnyT_takeL [18] (i:=10) (v:=?_) rfl (by kernel_rfl) (by kernel_rfl) (by kernel_rfl) (by kernel_rfl) (fun _ _ _ h=>h) (Or.inl ⟨by rfl,?_⟩) (by with_reducible assumption) ?_
 rotate_left
 ·exact qx7
 try simp only [qS,qN,qC,qD]
 refine wpAnyT_takeL [18] (i:=11) (v:=?_) rfl (by kernel_rfl) (by kernel_rfl) (by kernel_rfl) (by kernel_rfl) (fun _ _ _ h=>h) (Or.inl ⟨by rfl,?_⟩) (by with_reducible assumption) ?_
 rotate_left
 ·exact qx7
 try simp only [qS,qN,qC,qD]
 refine wpAnyT_takeL [18] (i:=12) (v:=?_) rfl (by kernel_rfl) (by kernel_rfl) (by kernel_rfl) (by kernel_rfl) (fun _ _ _ h=>h) (Or.inl ⟨by rfl,?_⟩) (by with_reducible assumption) ?_
 rotate_left
 ·exact qx7
 try simp only [qS,qN,qC,qD]
 refine wpAnyT_takeL [18] (i:=13) (v:=?_) rfl (by kernel_rfl) (by kernel_rfl) (by kernel_rfl) (by kernel_rfl) (fun _ _ _ h=>h) (Or.inl ⟨by rfl,?_⟩) (by with_reducible assumption) ?_
 rotate_left
 ·exact qx7
 try simp only [qS,qN,qC,qD]
 refine rdA 6 rfl (fun K hK=>?_)
 go_simp
 (with_reducible refine (KF1.out _).mono ?_)
 rintro e w2 ⟨rfl,hb⟩
 have hN:=hHeld.below hb
 go_wp2_with fail
 refine ouA hK hN (fun hHeld=>?_)
 clear hK K
 try simp only [qS,qN,qC,qD]
 refine rdA 7 rfl (fun K hK=>?_)
 go_simp
 (with_reducible refine (KM1.out _ hHeld.a).mono ?_)
 rintro e w2 ⟨rfl,rfl⟩
 go_wp2_with fail
 refine ouA hK hHeld (fun hHeld=>?_)
 clear hK K
 try simp only [qS,qN,qC,qD]
 refine wpAnyT_takeL [18] (i:=8) (v:=?_) rfl (by kernel_rfl) (by kernel_rfl) (by kernel_rfl) (by kernel_rfl) (fun _ _ _ h=>h) (Or.inl ⟨by rfl,?_⟩) (by with_reducible assumption) ?_
 rotate_left
 ·exact qx7
 try simp only [qS,qN,qC,qD]
 refine rdA 14 rfl (fun K hK=>?_)
 go_simp
 (with_reducible refine (KF2.out _).mono ?_)
 rintro e w2 ⟨rfl,hb⟩
 have hN:=hHeld.below hb
 go_wp2_with fail
 refine ouA hK hN (fun hHeld=>?_)
 clear hK K
 try simp only [qS,qN,qC,qD]
 refine rdA 15 rfl (fun K hK=>?_)
 go_simp
 (with_reducible refine (KM2.out _ hHeld.a).mono ?_)
 rintro e w2 ⟨rfl,rfl⟩
 go_wp2_with fail
 refine ouA hK hHeld (fun hHeld=>?_)
 clear hK K
 try simp only [qS,qN,qC,qD]
 refine wpAnyT_takeL [18] (i:=16) (v:=?_) rfl (by kernel_rfl) (by kernel_rfl) (by kernel_rfl) (by kernel_rfl) (fun _ _ _ h=>h) (Or.inl ⟨by rfl,?_⟩) (by with_reducible assumption) ?_
 rotate_left
 ·exact qx7
 try simp only [qS,qN,qC,qD]
 refine wpAnyT_takeL [18] (i:=17) (v:=?_) rfl (by kernel_rfl) (by kernel_rfl) (by kernel_rfl) (by kernel_rfl) (fun _ _ _ h=>h) (Or.inl ⟨by rfl,?_⟩) (by with_reducible assumption) ?_
 rotate_left
 ·exact qx7
 try simp only [qS,qN,qC,qD]
 refine rdA 18 rfl (fun K hK=>?_)
 have hP:=hHeld.p
 have f0:=hP.frozen 0
 have f1:=hP.frozen 1
 have p0:=hP.cell 0
 have p1:=hP.cell 1
 simp at p0 p1
 have HB:=Lib.hid hHeld.b
 have lt:=hP.lt
 have HQ:=Lib.hid (pt_store hP (x+z1) (y+z2)).1
 have HQB:=Lib.hid (pt_store hP (x+z1) (y+z2)).2
 clear hP
 go_simp
 refine ouB hK ?_
 clear hK K
 try simp only [qS,qN,qC,qD]
 refine wpAnyT_done (by kernel_rfl) ?_ _
 refine NoPanic.normal ?_
 have B0:=HB.out.trans (HQB.out.mono (by omega))
 have q0:=HQ.out.cell 0
 have q1:=HQ.out.cell 1
 simp at q0 q1
 go_wp2_with fail
 refine bodyPost_ret (v:=.agg #[.int .i64 (x+z1),.int .i64 (y+z2)]) (by simp [results,Tryz.results170,go_sem, *]) rfl ⟨rfl,B0⟩
open Ieee.Format (const_half MoveOk reachF)
def wpdV (kd seed cell:Int) (n g a:Nat) (X Y:Int) (Wn Hn:Nat) (l:List Nat) (x y:Int):Nat:=
 if inR X Y Wn Hn (warpP kd seed cell n g a x y).1 (warpP kd seed cell n g a x y).2 then l.getD (cellNo X Y Wn (warpP kd seed cell n g a x y).1 (warpP kd seed cell n g a x y).2).toNat 0 else 0
def wpdB (kd seed cell:Int) (n g a:Nat) (X Y:Int) (Wn Hn:Nat) (x y:Int):Bool:=decide (inR X Y Wn Hn (warpP kd seed cell n g a x y).1 (warpP kd seed cell n g a x y).2)
theorem wset_but (B:Nat) (q:Nat→Prop) (w:World) (p:Addr) (u:Value) (h:q p.block):But B q w (w.setCell p u):=
 ⟨rfl,rfl,rfl,by simp,fun k _ hk=>Below.heap_setCell w p u k (fun e=>hk (e ▸ h))⟩
theorem wrow_set {W:World} {b:Nat} {l:List Nat} (h:SRow W (some ⟨b,0,none⟩) l) (p:Addr) (u:Value) (hp:b≠p.block):SRow (W.setCell p u) (some ⟨b,0,none⟩) l:=by
 obtain ⟨h1,h2⟩:=h
 refine ⟨h1,?_⟩
 rcases h2 with h2|⟨b',o',e,hc⟩
 ·exact .inl h2
 ·refine .inr ⟨b',o',e,fun i hi=>?_⟩
  have:b'=b:=by simp at e;exact e.1.symm
  subst this
  exact (World.cell?_of_block (Below.heap_setCell W p u b' hp)).trans (hc i hi)
structure WpJ (N0 kw kf ko b c:Nat) (kd seed cell n:Int) (g a:Nat) (X Y:Int) (Wn Hn:Nat) (l:List Nat) (B:Bool) (W:World):Prop where
 wp:Blk W kw #[.int .i64 kd,.int .u32 seed,.int .i64 cell,.int .i64 n,.float .f32 g,.float .f32 a] 88
 fo:Fld W kf X Y Wn Hn (.slice (some ⟨b,0,none⟩) l.length c)
 ok:W.heap[ko]?=some (.cells #[.bool B] 4 (0,0))
 row:SRow W (some ⟨b,0,none⟩) l
 lt:kw<N0∧kf<N0∧ko<N0∧b<N0
 ne:kw≠ko∧kf≠ko∧b≠ko
 sz:N0≤W.heap.size
section
variable {N0 kw kf ko b c:Nat} {kd seed cell n:Int} {g a:Nat} {X Y:Int} {Wn Hn:Nat} {l:List Nat} {B:Bool} {W W':World}
theorem WpJ.under (h:WpJ N0 kw kf ko b c kd seed cell n g a X Y Wn Hn l B W) (hb:Below N0 W W'):WpJ N0 kw kf ko b c kd seed cell n g a X Y Wn Hn l B W':=by
 obtain ⟨l1,l2,l3,l4⟩:=h.lt
 exact ⟨h.wp.below hb l1,h.fo.below hb l2,(hb.block _ l3).trans h.ok,h.row.under hb l4,h.lt,h.ne,Nat.le_trans h.sz hb.size⟩
theorem WpJ.set (h:WpJ N0 kw kf ko b c kd seed cell n g a X Y Wn Hn l B W) (B':Bool):WpJ N0 kw kf ko b c kd seed cell n g a X Y Wn Hn l B' (W.setCell ⟨ko,0,none⟩ (.bool B')):=by
 obtain ⟨n1,n2,n3⟩:=h.ne
 refine ⟨?_,h.fo.setCell n2 _,heap_setCell_same W ko 0 _ _ _ h.ok,wrow_set h.row _ _ n3,h.lt,h.ne,by simpa using h.sz⟩
 have:=h.wp
 unfold Blk at *
 exact (Below.heap_setCell W _ _ kw n1).trans this
theorem WpJ.cellok (h:WpJ N0 kw kf ko b c kd seed cell n g a X Y Wn Hn l B W):W.cell? ⟨ko,0,none⟩=some (.bool B)∧W.frozen? ⟨ko,0,none⟩=false:=⟨cell_of_row W ko 0 _ _ _ h.ok,frozen_of_row W ko 0 _ _ h.ok⟩
end
set_option maxRecDepth 100000 in
set_option maxHeartbeats 2000000 in
theorem wpfld_any {N0 kw kf ko b c:Nat} {kd seed cell:Int} {n g a:Nat} {X Y:Int} {Wn Hn:Nat} {l:List Nat} {B:Bool} (x y:Int) (w:World) (h:WpJ N0 kw kf ko b c kd seed cell n g a X Y Wn Hn l B w) (hr:Right X Y Wn Hn l)
  (h1:1≤n) (hn:n≤10) (hg:Share g) (c1:1≤cell) (c2:cell≤4096) (ha:fin Ieee.single a∧0≤Ieee.single.V a∧Ieee.single.V a≤64) (hx:-8388608≤x) (hx2:x≤8388608) (hy:-8388608≤y) (hy2:y≤8388608) :
  Calls Tryz.prog 169 #[.int .i64 x,.int .i64 y,.pointer (some ⟨kw,0,none⟩),.pointer (some ⟨kf,0,none⟩),.pointer (some ⟨ko,0,none⟩)] w fun e w'=>e=.returned (.float .f32 (wpdV kd seed cell n g a X Y Wn Hn l x y))∧But w.heap.size (fun k=>k=ko) w w'∧WpJ N0 kw kf ko b c kd seed cell n g a X Y Wn Hn l (B && wpdB kd seed cell n g a X Y Wn Hn x y) w':=by
 have KW:=Lib.hid (fun w=>warp_any kd seed cell x y n g a w h1 hn hg c1 c2 ha hx hx2 hy hy2)
 have g1:=hr.w1;have g2:=hr.w2;have g3:=hr.h1;have g4:=hr.h2;have g5:=hr.x1;have g6:=hr.x2;have g7:=hr.y1;have g8:=hr.y2
 unfold wpdV wpdB
 obtain ⟨m1,m2,m3,m4⟩:-8390657≤(warpP kd seed cell n g a x y).1∧(warpP kd seed cell n g a x y).1≤8390657∧-8390657≤(warpP kd seed cell n g a x y).2∧(warpP kd seed cell n g a x y).2≤8390657:=by
  obtain ⟨o1,_⟩:=warp_ok kd seed cell x y h1 hn hg c1 c2 ha
  obtain ⟨o2,_⟩:=warp_ok kd (hashTo seed 1 1 5 3) cell x y h1 hn hg c1 c2 ha
  have q1:=move_in o1
  have q2:=move_in o2
  unfold warpP
  simp only
  omega
 unfold ptV at KW
 have HJ0:=Lib.hid h
 clear h h1 hn hg c1 c2 ha hx hx2 hy hy2
 generalize (warpP kd seed cell n g a x y).1=px at *
 generalize (warpP kd seed cell n g a x y).2=py at *
 unfold wpV at KW
 generalize (n:Int)=n at *
 by_cases hin:inR X Y Wn Hn px py
 ·obtain ⟨ek,kl⟩:=cell_in g1 g2 g3 g4 hin
  rw [if_pos hin,decide_eq_true hin]
  have KP:=Lib.hid (fun w=>place_in X Y Wn Hn px py _ w g1 g2 g3 g4 (by omega) (by omega) (by omega) (by omega) hin ek)
  rw [←hr.len] at kl
  generalize (cellNo X Y Wn px py).toNat=k at *
  obtain ⟨v,hv⟩:∃ v,v=l.getD k 0:=⟨_,rfl⟩
  rw [←hv]
  have HV:=Lib.hid hv
  clear hin ek g1 g2 g3 g4 g5 g6 g7 g8 hr m1 m2 m3 m4 hv
  cases B
  ·have p0:=HJ0.out.wp.cell 0
   have p1:=HJ0.out.wp.cell 1
   have p2:=HJ0.out.wp.cell 2
   have p3:=HJ0.out.wp.cell 3
   have p4:=HJ0.out.wp.cell 4
   have p5:=HJ0.out.wp.cell 5
   simp at p0 p1 p2 p3 p4 p5
   have l0:=HJ0.out.wp.lt
   go_enter Tryz.func169,Tryz.ntmps169
   go_wp2_with fail
   refine (KW.out _).mono ?_
   rintro e w1 ⟨rfl,b1⟩
   have HB1:=Lib.hid b1
   have HJ1:=Lib.hid (HJ0.out.under (b1.mono HJ0.out.sz))
   clear b1 HJ0 KW
   clear p0 p1 p2 p3 p4 p5 l0
   go_upto_region 2 with fail
   have A2:=(Blk.new w1 #[.int .i64 px,.int .i64 py] 185)
   have b2:Below w1.heap.size w1 (w1.alloc (.cells #[.int .i64 px,.int .i64 py] 185)):=qBl
   have HB2:=Lib.hid (HB1.out.trans (b2.mono HB1.out.size))
   have HJ2:=Lib.hid (HJ1.out.under (b2.mono HJ1.out.sz))
   clear b2 HB1 HJ1
   generalize w1.alloc (.cells #[.int .i64 px,.int .i64 py] 185)=w2 at *
   obtain ⟨f0,f1,f2,f3,f4⟩:=HJ2.out.fo.cells
   have lf:=HJ2.out.fo.lt
   have t0:=A2.cell 0
   have t1:=A2.cell 1
   simp at t0 t1
   have lt':=A2.lt
   clear A2
   generalize w1.heap.size=k9 at *
   go_wp2_with fail
   refine (KP.out _).mono ?_
   rintro e w3 ⟨rfl,b3⟩
   have HB3:=Lib.hid (HB2.out.trans (b3.mono HB2.out.size))
   have HJ3:=Lib.hid (HJ2.out.under (b3.mono HJ2.out.sz))
   clear b3 HB2 HJ2 f0 f1 f2 f3 f4 lf t0 t1 lt' KP
   obtain ⟨o1,o2⟩:=HJ3.out.cellok
   go_upto_region 4 with fail
   have HJ4:=Lib.hid (HJ3.out.set false)
   have HU4:=Lib.hid ((But.of HB3.out).trans (wset_but w3.heap.size (fun k=>k=ko) w3 ⟨ko,0,none⟩ (.bool false) rfl |>.mono HB3.out.size))
   generalize w3.setCell ⟨ko,0,none⟩ (.bool false)=w4 at *
   exact qx52
  ·have p0:=HJ0.out.wp.cell 0
   have p1:=HJ0.out.wp.cell 1
   have p2:=HJ0.out.wp.cell 2
   have p3:=HJ0.out.wp.cell 3
   have p4:=HJ0.out.wp.cell 4
   have p5:=HJ0.out.wp.cell 5
   simp at p0 p1 p2 p3 p4 p5
   have l0:=HJ0.out.wp.lt
   go_enter Tryz.func169,Tryz.ntmps169
   go_wp2_with fail
   refine (KW.out _).mono ?_
   rintro e w1 ⟨rfl,b1⟩
   have HB1:=Lib.hid b1
   have HJ1:=Lib.hid (HJ0.out.under (b1.mono HJ0.out.sz))
   clear b1 HJ0 KW
   clear p0 p1 p2 p3 p4 p5 l0
   go_upto_region 2 with fail
   have A2:=(Blk.new w1 #[.int .i64 px,.int .i64 py] 185)
   have b2:Below w1.heap.size w1 (w1.alloc (.cells #[.int .i64 px,.int .i64 py] 185)):=qBl
   have HB2:=Lib.hid (HB1.out.trans (b2.mono HB1.out.size))
   have HJ2:=Lib.hid (HJ1.out.under (b2.mono HJ1.out.sz))
   clear b2 HB1 HJ1
   generalize w1.alloc (.cells #[.int .i64 px,.int .i64 py] 185)=w2 at *
   obtain ⟨f0,f1,f2,f3,f4⟩:=HJ2.out.fo.cells
   have lf:=HJ2.out.fo.lt
   have t0:=A2.cell 0
   have t1:=A2.cell 1
   simp at t0 t1
   have lt':=A2.lt
   clear A2
   generalize w1.heap.size=k9 at *
   go_wp2_with fail
   refine (KP.out _).mono ?_
   rintro e w3 ⟨rfl,b3⟩
   have HB3:=Lib.hid (HB2.out.trans (b3.mono HB2.out.size))
   have HJ3:=Lib.hid (HJ2.out.under (b3.mono HJ2.out.sz))
   clear b3 HB2 HJ2 f0 f1 f2 f3 f4 lf t0 t1 lt' KP
   obtain ⟨o1,o2⟩:=HJ3.out.cellok
   go_upto_region 4 with fail
   have HJ4:=Lib.hid (HJ3.out.set true)
   have HU4:=Lib.hid ((But.of HB3.out).trans (wset_but w3.heap.size (fun k=>k=ko) w3 ⟨ko,0,none⟩ (.bool true) rfl |>.mono HB3.out.size))
   generalize w3.setCell ⟨ko,0,none⟩ (.bool true)=w4 at *
   exact qx52
 ·rw [if_neg hin,decide_eq_false hin]
  have KP:=Lib.hid (fun w=>place_out X Y Wn Hn px py w g1 g2 g3 g4 (by omega) (by omega) (by omega) (by omega) hin)
  clear hin g1 g2 g3 g4 g5 g6 g7 g8 hr m1 m2 m3 m4
  cases B
  ·exact qx24
  ·exact qx24
open Ieee.Format (const_half MoveOk move_ok reachF bits_mul)
theorem wpE_zero {kd cell n:Int} {g a:Nat} (h:wpE kd cell n g a=0):frE kd cell n g=0∧wsE a=0:=by
 unfold wpE at h
 by_cases hE:frE kd cell n g=0
 ·rw [if_pos hE] at h;exact ⟨hE,h⟩
 ·rw [if_neg hE] at h;exact absurd h hE
theorem warp_marg {kd seed cell:Int} {n g a:Nat} (h1:1≤n) (hn:n≤10) (hg:Share g) (c1:1≤cell) (c2:cell≤4096) (ha:fin Ieee.single a∧0≤Ieee.single.V a∧Ieee.single.V a≤64) :
  fin Ieee.single (reachF g (bndF kd) n)∧MoveOk (fracF kd seed cell n g 0 0) a (reachF g (bndF kd) n):=by
 obtain ⟨f1,f2,r1,r2,r3,r4⟩:=frac_within kd seed cell 0 0 h1 hn hg c1 c2
 exact ⟨f2,move_ok f1 f2 ha.1 ha.2.1 ha.2.2 r1 r2 r3⟩
set_option maxRecDepth 100000 in
set_option maxHeartbeats 1000000 in
theorem marginop_any (kd seed cell n:Int) (g a:Nat) (hg:g<4294967296) (ha:a<4294967296) (w:World) :
    Calls Tryz.prog 65 #[wpV kd seed cell n g a] w fun e w'=>e=.returned (.tuple #[.int .i64 (if wpE kd cell n g a=0 then margZ (reachF g (bndF kd) n.toNat) a else 0),.int .i64 (wpE kd cell n g a)])∧Below w.heap.size w w':=by
  have KC:=Lib.hid (fun w=>wpcheck_any kd seed cell n g a hg ha w)
  by_cases hE:wpE kd cell n g a=0
  · rw [if_pos hE,hE]
    rw [hE] at KC
    obtain ⟨hF,hS⟩:=wpE_zero hE
    obtain ⟨m,rfl,m1,m2⟩:=frE_nat hF
    obtain ⟨_,⟨c1,c2⟩,_,sg⟩:=frE_zero hF
    have sa:=wsE_zero hS
    obtain ⟨fr,ok⟩:=warp_marg (kd:=kd) (seed:=seed) m1 m2 sg c1 c2 sa
    have KR:=Lib.hid (fun w=>reach_any kd seed cell m g w m2 m1 sg)
    have mi:=move_in ok
    have KL:=Lib.hid (fun w=>floor_any (mulF (reachF g (bndF kd) m) a) ok.fr (Ieee.Format.mulF_lt _ _) w)
    have k1:=fun w'=>run_float_arith (P:=Tryz.prog) w' .mul 48 .f32 _ _ _ (bits_mul fr sa.1)
    have kc:=fun w=>run_convert_float_int (P:=Tryz.prog) w 48 3 .f32 .i64 (floorF (mulF (reachF g (bndF kd) m) a)) (floorZ (mulF (reachF g (bndF kd) m) a)) (by kernel_rfl) Tryz.underlying3 mi.2.1
    have hM:margZ (reachF g (bndF kd) m) a=floorZ (mulF (reachF g (bndF kd) m) a)+1:=rfl
    rw [Int.toNat_natCast]
    have wz:IntKind.i64.wrap (floorZ (mulF (reachF g (bndF kd) m) a)+1)=margZ (reachF g (bndF kd) m) a:=by rw [←hM];exact IntWalk.i64_in _ (by omega)
    clear hE hF hS m1 m2 c1 c2 sg sa hg ha fr ok mi hM
    generalize margZ (reachF g (bndF kd) m) a=z at *
    generalize floorZ (mulF (reachF g (bndF kd) m) a)=z3 at *
    generalize floorF (mulF (reachF g (bndF kd) m) a)=f3 at *
    generalize mulF (reachF g (bndF kd) m) a=f2 at *
    generalize reachF g (bndF kd) m=f1 at *
    generalize (m:Int)=n at *
    unfold wpV frV at *
    go_enter Tryz.func65,Tryz.ntmps65
    go_upto_region 1 with fail
    generalize hW0:w.alloc (.cells #[.int .i64 kd,.int .u32 seed,.int .i64 cell,.int .i64 n,.float .f32 g,.float .f32 a] 88)=W0 at *
    have A0:Blk W0 w.heap.size #[.int .i64 kd,.int .u32 seed,.int .i64 cell,.int .i64 n,.float .f32 g,.float .f32 a] 88:=by subst hW0;exact Blk.new _ _ _
    have b0:Below w.heap.size w W0:=by subst hW0;exact qBl
    have HA0:=Lib.hid A0
    have HB0:=Lib.hid b0
    clear A0 b0 hW0
    have p0:=HA0.out.cell 0
    have p1:=HA0.out.cell 1
    have p2:=HA0.out.cell 2
    have p3:=HA0.out.cell 3
    have p4:=HA0.out.cell 4
    have p5:=HA0.out.cell 5
    simp at p0 p1 p2 p3 p4 p5
    have l0:=HA0.out.lt
    go_wp2_with fail
    refine (KC.out _).mono ?_
    rintro e w1 ⟨rfl,b1⟩
    have HA1:=Lib.hid (HA0.out.below b1 HA0.out.lt)
    have HB1:=Lib.hid (HB0.out.trans (b1.mono HB0.out.size))
    clear b1 HA0 HB0 KC p0 p1 p2 p3 p4 p5 l0
    have p0:=HA1.out.cell 0
    have p1:=HA1.out.cell 1
    have p2:=HA1.out.cell 2
    have p3:=HA1.out.cell 3
    have p4:=HA1.out.cell 4
    have p5:=HA1.out.cell 5
    simp at p0 p1 p2 p3 p4 p5
    have l0:=HA1.out.lt
    go_wp2_with fail
    go_region_held3 (fun w'=>w'.cell? ⟨w.heap.size,0,none⟩=some (.int .i64 kd)∧w'.cell? ⟨w.heap.size,1,none⟩=some (.int .u32 seed)∧w'.cell? ⟨w.heap.size,2,none⟩=some (.int .i64 cell)∧w'.cell? ⟨w.heap.size,3,none⟩=some (.int .i64 n)∧w'.cell? ⟨w.heap.size,4,none⟩=some (.float .f32 g)∧w'.cell? ⟨w.heap.size,5,none⟩=some (.float .f32 a)∧Below w1.heap.size w1 w')
      (first
        | exact ⟨p0,p1,p2,p3,p4,p5,(Below.refl _ _).drew⟩
        | (go_split_ands
           have hs:=hb.size
           have hs2:=(show Below w1.heap.size w1 _ by assumption).size
           refine ⟨?_,?_,?_,?_,?_,?_,?_⟩
           all_goals first
             | (rw [hb.cell (by simp;omega)];assumption)
             | exact Below.trans (by assumption) (hb.mono (by omega)))
        | (go_split_ands;refine ⟨?_,?_,?_,?_,?_,?_,?_⟩<;>assumption))
      (first
        | (go_at_call 88;go_split_ands;refine (KR.out _).mono ?_;rintro e2 w2 ⟨rfl,hb⟩)
        | (go_at_call 87;go_split_ands;refine (KL.out _).mono ?_;rintro e2 w2 ⟨rfl,rfl⟩))
    all_goals
      rename_i hHeld
      have HB3:=Lib.hid (HB1.out.trans (hHeld.2.2.2.2.2.2.mono HB1.out.size))
      clear hHeld
      go_wp2_with fail
      go_ret2
      exact ⟨rfl,HB3.out⟩
  · rw [if_neg hE]
    have hb:(wpE kd cell n g a != 0)=true:=by simpa using hE
    clear hE hg ha
    generalize wpE kd cell n g a=z at *
    unfold wpV at *
    go_enter Tryz.func65,Tryz.ntmps65
    go_upto_region 1 with fail
    generalize hW0:w.alloc (.cells #[.int .i64 kd,.int .u32 seed,.int .i64 cell,.int .i64 n,.float .f32 g,.float .f32 a] 88)=W0 at *
    have A0:Blk W0 w.heap.size #[.int .i64 kd,.int .u32 seed,.int .i64 cell,.int .i64 n,.float .f32 g,.float .f32 a] 88:=by subst hW0;exact Blk.new _ _ _
    have b0:Below w.heap.size w W0:=by subst hW0;exact qBl
    have HA0:=Lib.hid A0
    have HB0:=Lib.hid b0
    clear A0 b0 hW0
    have p0:=HA0.out.cell 0
    have p1:=HA0.out.cell 1
    have p2:=HA0.out.cell 2
    have p3:=HA0.out.cell 3
    have p4:=HA0.out.cell 4
    have p5:=HA0.out.cell 5
    simp at p0 p1 p2 p3 p4 p5
    have l0:=HA0.out.lt
    go_wp2_with fail
    refine (KC.out _).mono ?_
    rintro e w1 ⟨rfl,b1⟩
    have HA1:=Lib.hid (HA0.out.below b1 HA0.out.lt)
    have HB1:=Lib.hid (HB0.out.trans (b1.mono HB0.out.size))
    clear b1 HA0 HB0 KC p0 p1 p2 p3 p4 p5 l0
    have p0:=HA1.out.cell 0
    have p1:=HA1.out.cell 1
    have p2:=HA1.out.cell 2
    have p3:=HA1.out.cell 3
    have p4:=HA1.out.cell 4
    have p5:=HA1.out.cell 5
    simp at p0 p1 p2 p3 p4 p5
    have l0:=HA1.out.lt
    go_wp2_with fail
    go_ret2
    exact ⟨rfl,HB1.out⟩
theorem but_low {B B':Nat} {q:Nat→Prop} {w w':World} (h:But B q w w') (hB:B'≤B) (hq:∀ k,k<B'→¬ q k):Below B' w w':=
 ⟨h.os,h.tape,h.output,h.size,fun k hk=>h.block k (by omega) (hq k hk)⟩
def allB (β:Int→Int→Bool) (X Y:Int) (W n:Nat):Bool:=(List.range n).all fun k=>β (X+((k%W:Nat):Int)) (Y+((k / W:Nat):Int))
theorem allB_succ (β:Int→Int→Bool) (X Y:Int) (W i j:Nat) (hi:i<W):allB β X Y W (j*W+i+1)=(allB β X Y W (j*W+i) && β (X+(i:Int)) (Y+(j:Int))):=by
 unfold allB
 rw [List.range_succ,List.all_append]
 have e1:(j*W+i)%W=i:=by rw [Nat.add_comm,Nat.add_mul_mod_self_right];exact Nat.mod_eq_of_lt hi
 have e2:(j*W+i) / W=j:=by rw [Nat.add_comm,Nat.add_mul_div_right _ _ (by omega),Nat.div_eq_of_lt hi];omega
 simp only [List.all_cons,List.all_nil,Bool.and_true,e1,e2]
def wpdL (kd seed cell:Int) (n g a:Nat) (X Y:Int) (Wn Hn:Nat) (l:List Nat) (A B:Int) (P Q:Nat):List Nat:=madeL (fun x y=>wpdV kd seed cell n g a X Y Wn Hn l x y) A B P (Q*P)
def wpdA (kd seed cell:Int) (n g a:Nat) (X Y:Int) (Wn Hn:Nat) (A B:Int) (P Q:Nat):Bool:=allB (fun x y=>wpdB kd seed cell n g a X Y Wn Hn x y) A B P (Q*P)
structure WmS (w:World) (X Y:Int) (Wn Hn b c:Nat) (l:List Nat) (kd seed cell n:Int) (g a:Nat) (A B P Q:Int) (wr:World):Prop where
 f:Fld wr w.heap.size X Y Wn Hn (.slice (some ⟨b,0,none⟩) l.length c)
 a:Blk wr (w.heap.size+1) #[.int .i64 kd,.int .u32 seed,.int .i64 cell,.int .i64 n,.float .f32 g,.float .f32 a] 88
 r:Reg wr (w.heap.size+1+1) A B P Q
 z:Fld wr (w.heap.size+1+1+1) 0 0 0 0 (.slice none 0 0)
 row:SRow wr (some ⟨b,0,none⟩) l
 b:Below w.heap.size w wr
theorem WmS.below {w wr w2:World} {X Y:Int} {Wn Hn b c:Nat} {l:List Nat} {kd seed cell n:Int} {g a:Nat} {A B P Q:Int} (h:WmS w X Y Wn Hn b c l kd seed cell n g a A B P Q wr) (hb:Below wr.heap.size wr w2):WmS w X Y Wn Hn b c l kd seed cell n g a A B P Q w2:=
 ⟨h.f.below hb h.f.lt,h.a.below hb h.a.lt,h.r.below hb h.r.lt,h.z.below hb h.z.lt,h.row.below hb,h.b.trans (hb.mono h.b.size)⟩
theorem wm_start (w:World) (X Y:Int) (Wn Hn b c:Nat) (l:List Nat) (kd seed cell n:Int) (g a:Nat) (A B P Q:Int) (hl:SRow w (some ⟨b,0,none⟩) l):∀ W0,W0=(((w.alloc (.cells #[.int .i64 X,.int .i64 Y,.int .i64 Wn,.int .i64 Hn,.slice (some ⟨b,0,none⟩) l.length c] 32)).alloc (.cells #[.int .i64 kd,.int .u32 seed,.int .i64 cell,.int .i64 n,.float .f32 g,.float .f32 a] 88)).alloc (.cells #[.int .i64 A,.int .i64 B,.int .i64 P,.int .i64 Q] 26)).alloc (.cells #[.int .i64 0,.int .i64 0,.int .i64 0,.int .i64 0,.slice none 0 0] 32)→WmS w X Y Wn Hn b c l kd seed cell n g a A B P Q W0:=by
 rintro _ rfl
 have hb:Below w.heap.size w ((((w.alloc (.cells #[.int .i64 X,.int .i64 Y,.int .i64 Wn,.int .i64 Hn,.slice (some ⟨b,0,none⟩) l.length c] 32)).alloc (.cells #[.int .i64 kd,.int .u32 seed,.int .i64 cell,.int .i64 n,.float .f32 g,.float .f32 a] 88)).alloc (.cells #[.int .i64 A,.int .i64 B,.int .i64 P,.int .i64 Q] 26)).alloc (.cells #[.int .i64 0,.int .i64 0,.int .i64 0,.int .i64 0,.slice none 0 0] 32)):=qBl
 refine ⟨(((Fld.new w X Y Wn Hn _).alloc _).alloc _).alloc _,?_,?_,?_,hl.below hb,hb⟩
 ·have:=((Blk.new (w.alloc (.cells #[.int .i64 X,.int .i64 Y,.int .i64 Wn,.int .i64 Hn,.slice (some ⟨b,0,none⟩) l.length c] 32)) #[.int .i64 kd,.int .u32 seed,.int .i64 cell,.int .i64 n,.float .f32 g,.float .f32 a] 88).alloc (.cells #[.int .i64 A,.int .i64 B,.int .i64 P,.int .i64 Q] 26)).alloc (.cells #[.int .i64 0,.int .i64 0,.int .i64 0,.int .i64 0,.slice none 0 0] 32)
  simpa using this
 ·have:=(Reg.new ((w.alloc (.cells #[.int .i64 X,.int .i64 Y,.int .i64 Wn,.int .i64 Hn,.slice (some ⟨b,0,none⟩) l.length c] 32)).alloc (.cells #[.int .i64 kd,.int .u32 seed,.int .i64 cell,.int .i64 n,.float .f32 g,.float .f32 a] 88)) A B P Q).alloc (.cells #[.int .i64 0,.int .i64 0,.int .i64 0,.int .i64 0,.slice none 0 0] 32)
  simpa using this
 ·have:=Fld.new (((w.alloc (.cells #[.int .i64 X,.int .i64 Y,.int .i64 Wn,.int .i64 Hn,.slice (some ⟨b,0,none⟩) l.length c] 32)).alloc (.cells #[.int .i64 kd,.int .u32 seed,.int .i64 cell,.int .i64 n,.float .f32 g,.float .f32 a] 88)).alloc (.cells #[.int .i64 A,.int .i64 B,.int .i64 P,.int .i64 Q] 26)) 0 0 0 0 (.slice none 0 0)
  simpa using this
theorem wpdV_lt {kd seed cell:Int} {n g a:Nat} {X Y:Int} {Wn Hn:Nat} {l:List Nat} (hl:∀ x∈l,x<4294967296) (x y:Int):wpdV kd seed cell n g a X Y Wn Hn l x y<4294967296:=by
 unfold wpdV
 split
 ·generalize (cellNo X Y Wn (warpP kd seed cell n g a x y).1 (warpP kd seed cell n g a x y).2).toNat=k
  by_cases hk:k<l.length
  ·rw [List.getD_eq_getElem?_getD,List.getElem?_eq_getElem hk];exact hl _ (List.getElem_mem hk)
  ·rw [List.getD_eq_getElem?_getD,List.getElem?_eq_none (by omega)];decide
 ·decide
theorem wpdL_small (kd seed cell:Int) (n g a:Nat) (X Y:Int) (Wn Hn:Nat) (l:List Nat) (A B:Int) (P Q:Nat) (h2:P≤512) (h4:Q≤512):(wpdL kd seed cell n g a X Y Wn Hn l A B P Q).length≤1099511627776:=by
 unfold wpdL
 rw [madeL_len]
 have:=Nat.mul_le_mul h4 h2
 omega
set_option maxRecDepth 100000 in
set_option maxHeartbeats 2000000 in
theorem warped_ok (kd seed cell:Int) (n g a:Nat) (X Y:Int) (Wn Hn b c:Nat) (l:List Nat) (A B:Int) (P Q:Nat) (w:World) (hl:SRow w (some ⟨b,0,none⟩) l) (hbl:b<w.heap.size) (hr:Right X Y Wn Hn l) (hg:g<4294967296) (ha:a<4294967296) (hE:wpE kd cell n g a=0) (hC:chk A B P Q=0) :
  Calls Tryz.prog 130 #[fldV X Y Wn Hn (some ⟨b,0,none⟩) l.length c,wpV kd seed cell n g a,reg A B P Q] w fun e w'=>OpP (if wpdA kd seed cell n g a X Y Wn Hn A B P Q=true then 0 else 5) A B P Q (wpdL kd seed cell n g a X Y Wn Hn l A B P Q) w e w':=by
 have KC:=Lib.hid (fun w=>wpcheck_any kd seed cell n g a hg ha w)
 rw [hE] at KC
 have K:=Lib.hid (fun w h=>check_field X Y Wn Hn (some ⟨b,0,none⟩) c l w h)
 rw [hr.chk] at K
 have KR:=Lib.hid (fun w=>check1 A B P Q w)
 rw [hC] at KR
 obtain ⟨hF,hS⟩:=wpE_zero hE
 obtain ⟨_,⟨c1,c2⟩,⟨n1,n2⟩,sg⟩:=frE_zero hF
 have sa:=wsE_zero hS
 obtain ⟨q1,q2,q3,q4,q5,q6,q7,q8,_⟩:=chk_zero hC
 have HL:=Lib.hid hl
 have HLT:=Lib.hid hl.1.2
 have HSM:=Lib.hid (wpdL_small kd seed cell n g a X Y Wn Hn l A B P Q (by omega) (by omega))
 have KM:=Lib.hid (fun (W:World) (kw kf ko N0:Nat) (hN:N0=W.heap.size) (J0:WpJ N0 kw kf ko b c kd seed cell n g a X Y Wn Hn l true W) =>
  make_st 169 #[.pointer (some ⟨kw,0,none⟩),.pointer (some ⟨kf,0,none⟩),.pointer (some ⟨ko,0,none⟩)] (fun k=>k=ko) (fun m=>WpJ N0 kw kf ko b c kd seed cell n g a X Y Wn Hn l (allB (fun x y=>wpdB kd seed cell n g a X Y Wn Hn x y) A B P m)) (fun x y=>wpdV kd seed cell n g a X Y Wn Hn l x y) A B P Q W (by omega) (by omega) (by omega) (by omega) (by omega) (by omega) (by omega) (by omega)
   (enters_of Tryz.func169 (by kernel_rfl) rfl) (fun k hk=>by rw [hk,←hN];exact J0.lt.2.2.1) J0 (fun m W1 W2 hz hj hb=>hj.under (by rw [hN];exact hb)) (fun x y _ _ _ _=>wpdV_lt hl.1.2 x y)
   (fun i j hi hj W' hbut hJ=>(wpfld_any (A+(i:Int)) (B+(j:Int)) W' hJ hr (by omega) (by omega) sg c1 c2 sa (by omega) (by omega) (by omega) (by omega)).mono fun e w' ⟨x1,x2,x3⟩=>⟨x1,x2,by rw [allB_succ _ _ _ _ _ _ hi];exact x3⟩))
 change Hid (∀ (W:World) (kw kf ko N0:Nat) (hN:N0=W.heap.size) (J0:WpJ N0 kw kf ko b c kd seed cell n g a X Y Wn Hn l true W),Calls Tryz.prog 89 #[reg A B P Q,.func (.func 169) #[] #[.pointer (some ⟨kw,0,none⟩),.pointer (some ⟨kf,0,none⟩),.pointer (some ⟨ko,0,none⟩)]] W fun e w'=>MakeSP (fun k=>k=ko) (WpJ N0 kw kf ko b c kd seed cell n g a X Y Wn Hn l (wpdA kd seed cell n g a X Y Wn Hn A B P Q)) A B P Q (wpdL kd seed cell n g a X Y Wn Hn l A B P Q) W e w') at KM
 clear hE hg ha hl hC hr hF hS n1 n2 sg sa c1 c2 q1 q2 q3 q4 q5 q6 q7 q8 HLT
 have HBL:=Lib.hid hbl
 clear hbl
 generalize wpdL kd seed cell n g a X Y Wn Hn l A B P Q=L at *
 generalize wpdA kd seed cell n g a X Y Wn Hn A B P Q=al at *
 unfold wpV at *
 generalize (n:Int)=n at *
 go_enter Tryz.func130,Tryz.ntmps130
 go_upto_region 1 with fail
 generalize hW0:(((w.alloc (.cells #[.int .i64 X,.int .i64 Y,.int .i64 Wn,.int .i64 Hn,.slice (some ⟨b,0,none⟩) l.length c] 32)).alloc (.cells #[.int .i64 kd,.int .u32 seed,.int .i64 cell,.int .i64 n,.float .f32 g,.float .f32 a] 88)).alloc (.cells #[.int .i64 A,.int .i64 B,.int .i64 P,.int .i64 Q] 26)).alloc (.cells #[.int .i64 0,.int .i64 0,.int .i64 0,.int .i64 0,.slice none 0 0] 32)=W0 at *
 have S0:=Lib.hid (wm_start w X Y Wn Hn b c l kd seed cell n g a A B P Q HL.out W0 hW0.symm)
 clear hW0 HL
 have p0:=S0.out.a.cell 0
 have p1:=S0.out.a.cell 1
 have p2:=S0.out.a.cell 2
 have p3:=S0.out.a.cell 3
 have p4:=S0.out.a.cell 4
 have p5:=S0.out.a.cell 5
 simp at p0 p1 p2 p3 p4 p5
 have l0:=S0.out.a.lt
 obtain ⟨f0,f1,f2,f3,f4⟩:=S0.out.f.cells
 obtain ⟨r0,r1,r2,r3⟩:=S0.out.r.cells
 have l1:=S0.out.f.lt
 have l2:=S0.out.r.lt
 go_wp2_with fail
 refine (KC.out _).mono ?_
 rintro e w1 ⟨rfl,b1⟩
 have S1:=Lib.hid (S0.out.below b1)
 clear b1 S0 KC
 clear p0 p1 p2 p3 p4 p5 l0 f0 f1 f2 f3 f4 r0 r1 r2 r3 l1 l2
 have p0:=S1.out.a.cell 0
 have p1:=S1.out.a.cell 1
 have p2:=S1.out.a.cell 2
 have p3:=S1.out.a.cell 3
 have p4:=S1.out.a.cell 4
 have p5:=S1.out.a.cell 5
 simp at p0 p1 p2 p3 p4 p5
 have l0:=S1.out.a.lt
 obtain ⟨f0,f1,f2,f3,f4⟩:=S1.out.f.cells
 obtain ⟨r0,r1,r2,r3⟩:=S1.out.r.cells
 have l1:=S1.out.f.lt
 have l2:=S1.out.r.lt
 go_wp2_with fail
 refine (K.out _ S1.out.row).mono ?_
 rintro e w2 ⟨rfl,b2⟩
 have S2:=Lib.hid (S1.out.below b2)
 clear b2 S1 K
 clear p0 p1 p2 p3 p4 p5 l0 f0 f1 f2 f3 f4 r0 r1 r2 r3 l1 l2
 have p0:=S2.out.a.cell 0
 have p1:=S2.out.a.cell 1
 have p2:=S2.out.a.cell 2
 have p3:=S2.out.a.cell 3
 have p4:=S2.out.a.cell 4
 have p5:=S2.out.a.cell 5
 simp at p0 p1 p2 p3 p4 p5
 have l0:=S2.out.a.lt
 obtain ⟨f0,f1,f2,f3,f4⟩:=S2.out.f.cells
 obtain ⟨r0,r1,r2,r3⟩:=S2.out.r.cells
 have l1:=S2.out.f.lt
 have l2:=S2.out.r.lt
 go_wp2_with fail
 refine (KR.out _).mono ?_
 rintro e w3 ⟨rfl,b3⟩
 have S3:=Lib.hid (S2.out.below b3)
 clear b3 S2 KR
 clear p0 p1 p2 p3 p4 p5 l0 f0 f1 f2 f3 f4 r0 r1 r2 r3 l1 l2
 go_upto_region 11 with fail
 have b4:Below w3.heap.size w3 (w3.alloc (.cells #[.bool true] 4)):=qBl
 have S4:=Lib.hid (S3.out.below b4)
 have ok4:(w3.alloc (.cells #[.bool true] 4)).heap[w3.heap.size]?=some (.cells #[.bool true] 4 (0,0)):=heap_alloc_new w3 _
 have z4:(w3.alloc (.cells #[.bool true] 4)).heap.size=w3.heap.size+1:=by simp
 have zl:=S3.out.z.lt
 have hbl:=HBL.out
 have J0:WpJ (w3.alloc (.cells #[.bool true] 4)).heap.size (w.heap.size+1) w.heap.size w3.heap.size b c kd seed cell n g a X Y Wn Hn l true (w3.alloc (.cells #[.bool true] 4)):=
  ⟨S4.out.a,S4.out.f,ok4,S4.out.row,⟨by omega,by omega,by omega,by omega⟩,⟨by omega,by omega,by omega⟩,Nat.le_refl _⟩
 have HJ0:=Lib.hid J0
 have HZ4:=Lib.hid (show w.heap.size+1+1+1<w3.heap.size from zl)
 have HY4:=Lib.hid z4
 clear b4 S3 ok4 z4 zl hbl J0
 generalize w3.alloc (.cells #[.bool true] 4)=w4 at *
 generalize w3.heap.size=k3 at *
 have p0:=S4.out.a.cell 0
 have p1:=S4.out.a.cell 1
 have p2:=S4.out.a.cell 2
 have p3:=S4.out.a.cell 3
 have p4:=S4.out.a.cell 4
 have p5:=S4.out.a.cell 5
 simp at p0 p1 p2 p3 p4 p5
 have l0:=S4.out.a.lt
 obtain ⟨f0,f1,f2,f3,f4⟩:=S4.out.f.cells
 obtain ⟨r0,r1,r2,r3⟩:=S4.out.r.cells
 have l1:=S4.out.f.lt
 have l2:=S4.out.r.lt
 go_wp2_with fail
 refine (KM.out _ _ _ _ _ rfl HJ0.out).mono ?_
 rintro e w5 ⟨⟨gg,cap,rfl,ho⟩,hbut,hJ⟩
 clear p0 p1 p2 p3 p4 p5 l0 f0 f1 f2 f3 f4 r0 r1 r2 r3 l1 l2
 go_upto_region 12 with fail
 have hz4:=HZ4.out
 have hy4:=HY4.out
 have zz:Fld w5 (w.heap.size+1+1+1) 0 0 0 0 (.slice none 0 0):=(hbut.block _ (by omega) (by omega)).trans S4.out.z
 have bb:Below w.heap.size w w5:=S4.out.b.trans (but_low hbut (B':=w.heap.size) (by omega) (fun k hk=>by omega))
 have oo:OwnF w5 w.heap.size gg cap L:=ho.base (by omega)
 have gl:=ho.lt
 obtain ⟨cok,_⟩:=hJ.cellok
 have z5:=hbut.size
 have b6:Below w5.heap.size w5 (w5.alloc (.cells #[.int .i64 A,.int .i64 B,.int .i64 P,.int .i64 Q,.slice (some ⟨gg,0,none⟩) L.length cap] 32)):=qBl
 have Z6:=Lib.hid (zz.below b6 zz.lt)
 have B6:=Lib.hid (bb.trans (b6.mono bb.size))
 have O6:=Lib.hid (oo.below b6 oo.lt.2)
 have F6:=Lib.hid (Fld.new w5 A B P Q (.slice (some ⟨gg,0,none⟩) L.length cap))
 have cok6:=(b6.cell (p:=⟨k3,0,none⟩) (by simp;omega)).trans cok
 have lk:k3<(w5.alloc (.cells #[.int .i64 A,.int .i64 B,.int .i64 P,.int .i64 Q,.slice (some ⟨gg,0,none⟩) L.length cap] 32)).heap.size:=by have:=b6.size;omega
 have HGZ:Hid (w.heap.size+1+1+1<gg):=by unfold Hid;omega
 have HZ5:Hid (w.heap.size+1+1+1<w5.heap.size):=by unfold Hid;omega
 clear zz bb oo cok z5 b6 ho hbut hJ S4 HJ0 hz4 hy4 HZ4 HY4 KM gl
 generalize w5.alloc (.cells #[.int .i64 A,.int .i64 B,.int .i64 P,.int .i64 Q,.slice (some ⟨gg,0,none⟩) L.length cap] 32)=w6 at *
 generalize w5.heap.size=k5 at *
 cases al with
 | false =>
  obtain ⟨g0,g1,g2,g3,g4⟩:=Z6.out.cells
  have qf0:=Z6.out.frozen 0
  have qf1:=Z6.out.frozen 1
  have qf2:=Z6.out.frozen 2
  have qf3:=Z6.out.frozen 3
  have qf4:=Z6.out.frozen 4
  have lz:=Z6.out.lt
  go_wp2_with fail
  have B3:=B6.out
  exact bodyPost_ret (v:=.tuple #[fldV 0 0 0 0 none 0 0,.int .i64 5]) (by simp [results,Tryz.results130,go_sem, *]) rfl (OpP.err (c:=5) (by decide) rfl (qBo B3))
 | true =>
  obtain ⟨g0,g1,g2,g3,g4⟩:=Z6.out.cells
  have qf0:=Z6.out.frozen 0
  have qf1:=Z6.out.frozen 1
  have qf2:=Z6.out.frozen 2
  have qf3:=Z6.out.frozen 3
  have qf4:=Z6.out.frozen 4
  have lz:=Z6.out.lt
  obtain ⟨f0,f1,f2,f3,f4⟩:=F6.out.cells
  have lf:=F6.out.lt
  have hkz:w.heap.size+1+1+1<k5:=HZ5.out
  go_wp2_with fail
  generalize hW5:((((w6.setCell ⟨w.heap.size+1+1+1,0,none⟩ (.int .i64 A)).setCell ⟨w.heap.size+1+1+1,1,none⟩ (.int .i64 B)).setCell ⟨w.heap.size+1+1+1,2,none⟩ (.int .i64 P)).setCell ⟨w.heap.size+1+1+1,3,none⟩ (.int .i64 Q)).setCell ⟨w.heap.size+1+1+1,4,none⟩ (.slice (some ⟨gg,0,none⟩) L.length cap)=W5 at *
  obtain ⟨h5,bb5,oo5,_,zz5⟩:=fld_store w6 (w.heap.size+1+1+1) 0 0 0 0 _ A B P Q (.slice (some ⟨gg,0,none⟩) L.length cap) Z6.out W5 hW5.symm
  have hO5:=oo5 _ _ _ _ O6.out (by have:=HGZ.out;omega)
  have hB5:=B6.out.trans (bb5.mono (by omega))
  clear g0 g1 g2 g3 g4 qf0 qf1 qf2 qf3 qf4 hW5 oo5 f0 f1 f2 f3 f4
  obtain ⟨d0,d1,d2,d3,d4⟩:=h5.cells
  exact bodyPost_ret (v:=.tuple #[fldV A B P Q (some ⟨gg,0,none⟩) L.length cap,.int .i64 0]) (by simp [results,Tryz.results130,go_sem, *]) rfl ⟨⟨A,B,P,Q,_,_,cap,rfl,.inr ⟨rfl,rfl,rfl,rfl,rfl,gg,rfl,rfl,hO5⟩⟩,hB5⟩
open Ieee.Format (smoothF reachF rootF slopeF curveF)
theorem back_x (X:Int) (m:Nat):X-(m:Int)+m=X:=by omega
theorem back_w (W m:Nat):W+2*m-2*m=W:=by omega
theorem pad_grid (ψ:Int→Int→Nat) (X Y:Int) (W H m:Nat):padL ψ (X-m) (Y-m) (W+2*m) (H+2*m) m=gridL ψ X Y W H:=by
 unfold padL gridL
 rw [back_x,back_x,back_w,back_w]
theorem inner_grid (φ:Nat→Nat→Nat→Nat→Nat→Nat) (g:Int→Int→Nat) (X Y:Int) (W H:Nat) (hW:1≤W) (hH:1≤H) :
  innerL φ (X-(1:Nat)) (Y-(1:Nat)) (W+2*1) (H+2*1) (gridL g (X-(1:Nat)) (Y-(1:Nat)) (W+2*1) (H+2*1))=gridL (nbG φ g) X Y W H:=by
 rw [grid_inner φ g _ _ _ _ (by omega) (by omega),show X-((1:Nat):Int)+1=X by omega,show Y-((1:Nat):Int)+1=Y by omega,show W+2*1-2=W by omega,show H+2*1-2=H by omega]
theorem patch_grid (g:Int→Int→Nat) (X Y:Int) (W H m:Nat) (x y:Int) (hi:InR X Y W H x y) (i:Nat) (hn:i<(2*m+1)*(2*m+1)) :
  (gridL g (X-m) (Y-m) (W+2*m) (H+2*m)).getD (patch (W+2*m) (corner (X-m) (Y-m) (W+2*m) m x y) (2*m+1) i) 0=g (x-m+((i%(2*m+1):Nat):Int)) (y-m+((i / (2*m+1):Nat):Int)):=by
 obtain ⟨h1,h2,h3,h4⟩:=hi
 obtain ⟨p,hp⟩:=Int.eq_ofNat_of_zero_le (show 0≤x-X by omega)
 obtain ⟨q,hq⟩:=Int.eq_ofNat_of_zero_le (show 0≤y-Y by omega)
 obtain rfl:x=X+p:=by omega
 obtain rfl:y=Y+q:=by omega
 have hc:corner (X-m) (Y-m) (W+2*m) m (X+p) (Y+q)=q*(W+2*m)+p:=by
  unfold corner
  rw [back_x,back_x,show Y+(q:Int)-Y=q by omega,show X+(p:Int)-X=p by omega]
  have:(q:Int)*((W+2*m:Nat):Int)+(p:Int)=((q*(W+2*m)+p:Nat):Int):=by push_cast;rfl
  rw [this,Int.toNat_natCast]
 have d1:i%(2*m+1)<2*m+1:=Nat.mod_lt _ (by omega)
 have d2:i / (2*m+1)<2*m+1:=Nat.div_lt_of_lt_mul hn
 unfold patch
 rw [hc]
 generalize i%(2*m+1)=a at *
 generalize i / (2*m+1)=b at *
 have e:q*(W+2*m)+p+b*(W+2*m)+a=(q+b)*(W+2*m)+(p+a):=by rw [Nat.add_mul];omega
 rw [e,grid_get g (X-m) (Y-m) (W+2*m) (H+2*m) (p+a) (q+b) (by omega) (by omega)]
 congr 1<;>push_cast<;>omega
theorem blurS_congr {g h:Nat→Nat}:∀ m,(∀ i,i≤m→g i=h i)→blurS g m=blurS h m
 | 0,e=>by unfold blurS;exact e 0 (by omega)
 | m+1,e=>by unfold blurS;rw [blurS_congr m fun i hi=>e i (by omega),e (m+1) (by omega)]
theorem kerF_congr {κ g h:Nat→Nat}:∀ m,(∀ i,i≤m→g i=h i)→kerF κ g m=kerF κ h m
 | 0,e=>by unfold kerF;rw [e 0 (by omega)]
 | m+1,e=>by unfold kerF;rw [kerF_congr m fun i hi=>e i (by omega),e (m+1) (by omega)]
def aroundG (g:Int→Int→Nat) (m:Nat) (x y:Int) (i:Nat):Nat:=g (x-m+((i%(2*m+1):Nat):Int)) (y-m+((i / (2*m+1):Nat):Int))
def blurG (m:Nat) (g:Int→Int→Nat) (x y:Int):Nat:=blurF (aroundG g m x y) (2*m+1)
def kerG (K:List Nat) (m:Nat) (g:Int→Int→Nat) (x y:Int):Nat:=kerF (fun i=>K.getD i 0) (aroundG g m x y) ((2*m+1)*(2*m+1)-1)
theorem side_sq (m:Nat):1≤(2*m+1)*(2*m+1):=Nat.mul_pos (by omega) (by omega)
theorem blur_grid (g:Int→Int→Nat) (X Y:Int) (W H m:Nat):padL (blurV (gridL g (X-m) (Y-m) (W+2*m) (H+2*m)) (X-m) (Y-m) (W+2*m) m) (X-m) (Y-m) (W+2*m) (H+2*m) m=gridL (blurG m g) X Y W H:=by
 rw [pad_grid]
 refine grid_congr fun x y h1 h2 h3 h4=>?_
 unfold blurV blurG blurF
 rw [blurS_congr _ fun i hi=>patch_grid g X Y W H m x y ⟨h1,h2,h3,h4⟩ i (by have:=side_sq m;omega)]
 rfl
theorem kern_grid (K:List Nat) (g:Int→Int→Nat) (X Y:Int) (W H m:Nat):padL (kerV K (gridL g (X-m) (Y-m) (W+2*m) (H+2*m)) (X-m) (Y-m) (W+2*m) m) (X-m) (Y-m) (W+2*m) (H+2*m) m=gridL (kerG K m g) X Y W H:=by
 rw [pad_grid]
 refine grid_congr fun x y h1 h2 h3 h4=>?_
 unfold kerV kerG
 rw [kerF_congr _ fun i hi=>patch_grid g X Y W H m x y ⟨h1,h2,h3,h4⟩ i (by have:=side_sq m;omega)]
 rfl
theorem steps_grid (φ:Nat→Nat→Nat→Nat→Nat→Nat) (g:Int→Int→Nat) (X Y:Int) (W H m:Nat) (hW:1≤W) (hH:1≤H) :
  stepsL φ (X-m) (Y-m) (W+2*m) (H+2*m) (gridL g (X-m) (Y-m) (W+2*m) (H+2*m)) m=gridL (itG φ g m) X Y W H:=by
 rw [grid_steps φ g _ _ _ _ m (by omega) (by omega),back_x,back_x,back_w,back_w]
section
variable (s:ByteArray) (ia:Option Addr) (cin b o cI rb ro nR cR:Nat) (la ra:Option Addr) (i0 i1 i2 i3:Int) (r0 r1:Nat) (w:World)
theorem in_blur (m:Nat) (hz:s.toList=[98,108,117,114]) (hI:ZRow w (some ⟨b,o,none⟩) [(m:Int)]) (hR:SRow w ra []) (hm:m≤16) :
  EvOk w s ia 1 cin (some ⟨b,o,none⟩) 1 cI ra 0 cR m (fun gs=>blurG m (gs 0)) noEx:=by
 refine EvOk.one fun gs X Y W H g c w' sb cP hb hW hH hr hP=>⟨_,gd_res (G:=fun gs=>blurG m (gs 0)),?_⟩
 refine ev_around s ia 1 cin _ _ _ _ _ _ _ _ sb cP X Y W H _ X Y W H _ w' _ (by rw [hz];rfl) (by rw [hz];rfl) (by rw [hz];rfl) (by rw [hz];rfl) (by rw [hz];rfl) (by rw [hz];rfl) (by rw [hz];rfl) (by rw [hz];rfl) (by rw [hz];rfl) (by rw [hz];rfl) (by rw [hz];rfl) (by rw [hz];rfl) (by rw [hz];rfl) (by rw [hz];rfl) (by rw [hz];rfl) (by rw [hz];rfl) (by rw [hz];rfl) (by rw [hz];rfl) (by rw [hz];rfl) (by rw [hz];rfl) (hI.below hb) (hR.below hb) hP (fun w2 hI2 hR2 hl=>?_)
 refine ar_blur s ia 1 cin b o cI cR ra m _ X Y W H _ X Y W H _ w2 hz hI2 hR2 hl (fun w3 hl3=>?_)
 have:=blur_yes (X-m) (Y-m) (W+2*m) (H+2*m) m g 0 c _ w3 hl3 hr hm (by omega) (by omega)
 rw [blur_grid,back_x,back_x,back_w,back_w] at this
 exact this
theorem side_ok {k:Int} {m:Nat} (h:k=2*m+1) (h2:m≤7):SideOk k m:=by
 refine ⟨h,h2,by omega,by omega,?_,?_⟩
 ·rw [Int.tmod_eq_emod_of_nonneg (by omega)]
  omega
 ·rw [Int.tdiv_eq_ediv_of_nonneg (by omega)]
  omega
theorem in_kernel (k:Int) (m:Nat) (L:List Nat) (hz:s.toList=[107,101,114,110,101,108]) (hI:ZRow w (some ⟨b,o,none⟩) [k]) (hR:SRow w (some ⟨rb,ro,none⟩) L) (hk:k=2*m+1) (hm:m≤7) (hL:(L.length:Int)=k*k) (hE:htE L=0) :
  EvOk w s ia 1 cin (some ⟨b,o,none⟩) 1 cI (some ⟨rb,ro,none⟩) L.length cR m (fun gs=>kerG L m (gs 0)) noEx:=by
 refine EvOk.one fun gs X Y W H g c w' sb cP hb hW hH hr hP=>⟨_,gd_res (G:=fun gs=>kerG L m (gs 0)),?_⟩
 refine ev_around s ia 1 cin _ _ _ _ _ _ _ _ sb cP X Y W H _ X Y W H _ w' _ (by rw [hz];rfl) (by rw [hz];rfl) (by rw [hz];rfl) (by rw [hz];rfl) (by rw [hz];rfl) (by rw [hz];rfl) (by rw [hz];rfl) (by rw [hz];rfl) (by rw [hz];rfl) (by rw [hz];rfl) (by rw [hz];rfl) (by rw [hz];rfl) (by rw [hz];rfl) (by rw [hz];rfl) (by rw [hz];rfl) (by rw [hz];rfl) (by rw [hz];rfl) (by rw [hz];rfl) (by rw [hz];rfl) (by rw [hz];rfl) (hI.below hb) (hR.below hb) hP (fun w2 hI2 hR2 hl=>?_)
 refine ar_kernel s ia 1 cin b o cI L.length cR (some ⟨rb,ro,none⟩) k L _ X Y W H _ X Y W H _ w2 hz hI2 hR2 hl (fun w3 hl3 hR3=>?_)
 have:=kern_yes (X-m) (Y-m) (W+2*m) (H+2*m) k m rb ro L g 0 c cR _ w3 hl3 hr (side_ok hk hm) hR3 hL hE (by omega) (by omega)
 rw [kern_grid,back_x,back_x,back_w,back_w] at this
 exact this
theorem in_slope (hz:s.toList=[115,108,111,112,101]) (hI:ZRow w la []) (hR:SRow w ra []) :
  EvOk w s ia 1 cin la 0 cI ra 0 cR 1 (fun gs=>nbG slopeF (gs 0)) noEx:=by
 refine EvOk.one fun gs X Y W H g c w' sb cP hb hW hH hr hP=>⟨_,gd_res (G:=fun gs=>nbG slopeF (gs 0)),?_⟩
 refine ev_around s ia 1 cin _ _ _ _ _ _ _ _ sb cP X Y W H _ X Y W H _ w' _ (by rw [hz];rfl) (by rw [hz];rfl) (by rw [hz];rfl) (by rw [hz];rfl) (by rw [hz];rfl) (by rw [hz];rfl) (by rw [hz];rfl) (by rw [hz];rfl) (by rw [hz];rfl) (by rw [hz];rfl) (by rw [hz];rfl) (by rw [hz];rfl) (by rw [hz];rfl) (by rw [hz];rfl) (by rw [hz];rfl) (by rw [hz];rfl) (by rw [hz];rfl) (by rw [hz];rfl) (by rw [hz];rfl) (by rw [hz];rfl) (hI.below hb) (hR.below hb) hP (fun w2 hI2 hR2 hl=>?_)
 refine ar_slope s ia 1 cin cI cR la ra _ X Y W H _ X Y W H _ w2 hz hI2 hR2 hl (fun w3 hl3=>?_)
 have:=slope_ok (X-(1:Nat)) (Y-(1:Nat)) (W+2*1) (H+2*1) g 0 c _ w3 hl3 hr (by omega) (by omega)
 exact qx53
theorem in_curve (hz:s.toList=[99,117,114,118,101]) (hI:ZRow w la []) (hR:SRow w ra []) :
  EvOk w s ia 1 cin la 0 cI ra 0 cR 1 (fun gs=>nbG curveF (gs 0)) noEx:=by
 refine EvOk.one fun gs X Y W H g c w' sb cP hb hW hH hr hP=>⟨_,gd_res (G:=fun gs=>nbG curveF (gs 0)),?_⟩
 refine ev_around s ia 1 cin _ _ _ _ _ _ _ _ sb cP X Y W H _ X Y W H _ w' _ (by rw [hz];rfl) (by rw [hz];rfl) (by rw [hz];rfl) (by rw [hz];rfl) (by rw [hz];rfl) (by rw [hz];rfl) (by rw [hz];rfl) (by rw [hz];rfl) (by rw [hz];rfl) (by rw [hz];rfl) (by rw [hz];rfl) (by rw [hz];rfl) (by rw [hz];rfl) (by rw [hz];rfl) (by rw [hz];rfl) (by rw [hz];rfl) (by rw [hz];rfl) (by rw [hz];rfl) (by rw [hz];rfl) (by rw [hz];rfl) (hI.below hb) (hR.below hb) hP (fun w2 hI2 hR2 hl=>?_)
 refine ar_curve s ia 1 cin cI cR la ra _ X Y W H _ X Y W H _ w2 hz hI2 hR2 hl (fun w3 hl3=>?_)
 have:=curve_ok (X-(1:Nat)) (Y-(1:Nat)) (W+2*1) (H+2*1) g 0 c _ w3 hl3 hr (by omega) (by omega)
 exact qx53
theorem in_shade (hz:s.toList=[115,104,97,100,101]) (hI:ZRow w (some ⟨b,o,none⟩) [i0,i1,i2]) (hR:SRow w ra []) (hE:lightE i0 i1 i2=0) :
  EvOk w s ia 1 cin (some ⟨b,o,none⟩) 3 cI ra 0 cR 1 (fun gs=>nbG (shadeF (cv i0) (cv i1) (cv i2) (rootF (cv (i0*i0+i1*i1+i2*i2)))) (gs 0)) noEx:=by
 refine EvOk.one fun gs X Y W H g c w' sb cP hb hW hH hr hP=>⟨_,gd_res (G:=fun gs=>nbG (shadeF (cv i0) (cv i1) (cv i2) (rootF (cv (i0*i0+i1*i1+i2*i2)))) (gs 0)),?_⟩
 refine ev_around s ia 1 cin _ _ _ _ _ _ _ _ sb cP X Y W H _ X Y W H _ w' _ (by rw [hz];rfl) (by rw [hz];rfl) (by rw [hz];rfl) (by rw [hz];rfl) (by rw [hz];rfl) (by rw [hz];rfl) (by rw [hz];rfl) (by rw [hz];rfl) (by rw [hz];rfl) (by rw [hz];rfl) (by rw [hz];rfl) (by rw [hz];rfl) (by rw [hz];rfl) (by rw [hz];rfl) (by rw [hz];rfl) (by rw [hz];rfl) (by rw [hz];rfl) (by rw [hz];rfl) (by rw [hz];rfl) (by rw [hz];rfl) (hI.below hb) (hR.below hb) hP (fun w2 hI2 hR2 hl=>?_)
 refine ar_shade s ia 1 cin b o cI cR ra i0 i1 i2 _ X Y W H _ X Y W H _ w2 hz hI2 hR2 hl (fun w3 hl3=>?_)
 have:=shade_ok (X-(1:Nat)) (Y-(1:Nat)) (W+2*1) (H+2*1) g 0 c _ i0 i1 i2 w3 hl3 hr (by omega) (by omega) hE _ rfl
 exact qx53
theorem in_thermal (m:Nat) (hz:s.toList=[116,104,101,114,109,97,108]) (hI:ZRow w (some ⟨b,o,none⟩) [(m:Int)]) (hR:SRow w (some ⟨rb,ro,none⟩) [r0,r1]) (hE:wearE r0 r1 m=0) :
  EvOk w s ia 1 cin (some ⟨b,o,none⟩) 1 cI (some ⟨rb,ro,none⟩) 2 cR m (fun gs=>itG (thermalF r0 r1) (gs 0) m) noEx:=by
 have h2:=srow_w hR r0 (by simp)
 have h3:=srow_w hR r1 (by simp)
 obtain ⟨wo,_,n64⟩:=WearOk.of hE
 refine EvOk.one fun gs X Y W H g c w' sb cP hb hW hH hr hP=>⟨_,gd_res (G:=fun gs=>itG (thermalF r0 r1) (gs 0) m),?_⟩
 refine ev_around s ia 1 cin _ _ _ _ _ _ _ _ sb cP X Y W H _ X Y W H _ w' _ (by rw [hz];rfl) (by rw [hz];rfl) (by rw [hz];rfl) (by rw [hz];rfl) (by rw [hz];rfl) (by rw [hz];rfl) (by rw [hz];rfl) (by rw [hz];rfl) (by rw [hz];rfl) (by rw [hz];rfl) (by rw [hz];rfl) (by rw [hz];rfl) (by rw [hz];rfl) (by rw [hz];rfl) (by rw [hz];rfl) (by rw [hz];rfl) (by rw [hz];rfl) (by rw [hz];rfl) (by rw [hz];rfl) (by rw [hz];rfl) (hI.below hb) (hR.below hb) hP (fun w2 hI2 hR2 hl=>?_)
 refine ar_thermal s ia 1 cin b o cI rb ro cR m r0 r1 _ X Y W H _ X Y W H _ w2 hz hI2 hR2 hl (fun w3 hl3=>?_)
 have:=therm_wide r0 r1 (X-m) (Y-m) (W+2*m) (H+2*m) g 0 c m _ w3 hl3 hr (by omega) h2 h3 hE wo
 unfold thermC at this
 rw [if_neg (by omega),steps_grid _ _ _ _ _ _ _ hW hH,back_x,back_x,back_w,back_w] at this
 exact this
theorem in_smooth (m:Nat) (hz:s.toList=[115,109,111,111,116,104]) (hI:ZRow w (some ⟨b,o,none⟩) [(m:Int)]) (hR:SRow w ra []) (hm:m≤64) :
  EvOk w s ia 1 cin (some ⟨b,o,none⟩) 1 cI ra 0 cR m (fun gs=>itG smoothF (gs 0) m) noEx:=by
 refine EvOk.one fun gs X Y W H g c w' sb cP hb hW hH hr hP=>⟨_,gd_res (G:=fun gs=>itG smoothF (gs 0) m),?_⟩
 refine ev_around s ia 1 cin _ _ _ _ _ _ _ _ sb cP X Y W H _ X Y W H _ w' _ (by rw [hz];rfl) (by rw [hz];rfl) (by rw [hz];rfl) (by rw [hz];rfl) (by rw [hz];rfl) (by rw [hz];rfl) (by rw [hz];rfl) (by rw [hz];rfl) (by rw [hz];rfl) (by rw [hz];rfl) (by rw [hz];rfl) (by rw [hz];rfl) (by rw [hz];rfl) (by rw [hz];rfl) (by rw [hz];rfl) (by rw [hz];rfl) (by rw [hz];rfl) (by rw [hz];rfl) (by rw [hz];rfl) (by rw [hz];rfl) (hI.below hb) (hR.below hb) hP (fun w2 hI2 hR2 hl=>?_)
 refine ar_smooth s ia 1 cin b o cI cR ra m _ X Y W H _ X Y W H _ w2 hz hI2 hR2 hl (fun w3 hl3=>?_)
 have:=smooth_wide (X-m) (Y-m) (W+2*m) (H+2*m) g 0 c m _ w3 hl3 hr hm
 unfold smoothC at this
 rw [if_neg (by omega),Int.toNat_natCast,if_neg (by omega),steps_grid _ _ _ _ _ _ _ hW hH,back_x,back_x,back_w,back_w] at this
 exact this
theorem warp_in {kd seed cell:Int} {n g a:Nat} (hE:wpE kd cell n g a=0) (x y:Int):let P:=warpP kd seed cell n g a x y;let m:=margZ (reachF g (bndF kd) n) a;
  0≤m∧m≤2049∧x-m≤P.1∧P.1≤x+m∧y-m≤P.2∧P.2≤y+m:=by
 obtain ⟨hf,hs⟩:=wpE_zero hE
 obtain ⟨_,⟨c1,c2⟩,⟨n1,n2⟩,sg⟩:=frE_zero hf
 have ha:=wsE_zero hs
 obtain ⟨_,_,a1,a2,a3,a4⟩:=move_in (warp_ok kd seed cell x y (n:=n) (by omega) (by omega) sg c1 c2 ha).1
 obtain ⟨_,_,b1,b2,_,_⟩:=move_in (warp_ok kd (hashTo seed 1 1 5 3) cell x y (n:=n) (by omega) (by omega) sg c1 c2 ha).1
 intro P m
 show _∧_∧_≤x+_∧x+_≤_∧_≤y+_∧y+_≤_
 refine ⟨a4,a3,?_,?_,?_,?_⟩<;>omega
theorem in_warp (m:Nat) (hz:s.toList=[119,97,114,112]) (hI:ZRow w (some ⟨b,o,none⟩) [i0,i1,i2,i3]) (hR:SRow w (some ⟨rb,ro,none⟩) [r0,r1]) (hE:wpE i0 i2 i3 r0 r1=0) (hm:margZ (reachF r0 (bndF i0) i3.toNat) r1=m) :
  EvOk w s ia 1 cin (some ⟨b,o,none⟩) 4 cI (some ⟨rb,ro,none⟩) 2 cR m (fun gs x y=>gs 0 (warpP i0 (i1%4294967296) i2 i3.toNat r0 r1 x y).1 (warpP i0 (i1%4294967296) i2 i3.toNat r0 r1 x y).2) noEx:=by
 have h2:=srow_w hR r0 (by simp)
 have h3:=srow_w hR r1 (by simp)
 obtain ⟨n,rfl,n1,n2⟩:=frE_nat (wpE_zero hE).1
 rw [Int.toNat_natCast] at hm ⊢
 have hin:=fun x y=>warp_in (seed:=i1%4294967296) hE x y
 rw [hm] at hin
 refine EvOk.one fun gs X Y W H g c w' sb cP hb hW hH hr hP=>⟨0,gd_all (G:=fun gs x y=>gs 0 (warpP i0 (i1%4294967296) i2 n r0 r1 x y).1 (warpP i0 (i1%4294967296) i2 n r0 r1 x y).2) (fun x y hi=>?_),?_⟩
 ·obtain ⟨_,_,q1,q2,q3,q4⟩:=hin x y
  obtain ⟨z1,z2,z3,z4⟩:=hi
  exact hr.cell ⟨by omega,by push_cast;omega,by omega,by push_cast;omega⟩
 refine ev_around s ia 1 cin _ _ _ _ _ _ _ _ sb cP X Y W H _ X Y W H _ w' _ (by rw [hz];rfl) (by rw [hz];rfl) (by rw [hz];rfl) (by rw [hz];rfl) (by rw [hz];rfl) (by rw [hz];rfl) (by rw [hz];rfl) (by rw [hz];rfl) (by rw [hz];rfl) (by rw [hz];rfl) (by rw [hz];rfl) (by rw [hz];rfl) (by rw [hz];rfl) (by rw [hz];rfl) (by rw [hz];rfl) (by rw [hz];rfl) (by rw [hz];rfl) (by rw [hz];rfl) (by rw [hz];rfl) (by rw [hz];rfl) (hI.below hb) (hR.below hb) hP (fun w2 hI2 hR2 hl=>?_)
 refine ar_warp s ia 1 cin b o cI rb ro cR i0 i1 i2 n r0 r1 _ X Y W H _ X Y W H _ w2 hz hI2 hR2 hl (fun w3 hl3=>?_)
 have hA:wpdA i0 (i1%4294967296) i2 n r0 r1 (X-m) (Y-m) (W+2*m) (H+2*m) X Y W H=true:=by
  unfold wpdA allB
  rw [List.all_eq_true]
  intro k hk
  obtain ⟨k1,k2⟩:=num_in (List.mem_range.1 hk)
  generalize k%W=i at *
  generalize k / W=j at *
  obtain ⟨_,_,q1,q2,q3,q4⟩:=hin (X+i) (Y+j)
  unfold wpdB
  rw [decide_eq_true_iff]
  exact ⟨by omega,by push_cast;omega,by omega,by push_cast;omega⟩
 have hG:wpdL i0 (i1%4294967296) i2 n r0 r1 (X-m) (Y-m) (W+2*m) (H+2*m) (gridL (gs 0) (X-m) (Y-m) (W+2*m) (H+2*m)) X Y W H=gridL (fun x y=>gs 0 (warpP i0 (i1%4294967296) i2 n r0 r1 x y).1 (warpP i0 (i1%4294967296) i2 n r0 r1 x y).2) X Y W H:=by
  refine grid_congr fun x y z1 z2 z3 z4=>?_
  obtain ⟨_,_,q1,q2,q3,q4⟩:=hin x y
  unfold wpdV
  rw [if_pos ⟨by omega,by push_cast;omega,by omega,by push_cast;omega⟩]
  exact grid_cell (gs 0) _ _ _ _ _ _ (by omega) (by push_cast;omega) (by omega) (by push_cast;omega)
 have hC:chk X Y W H=0:=by
  refine Rg.chk ⟨hW,?_,hH,?_,?_,?_,?_,?_,?_⟩
  ·have:=hr.w2;omega
  ·have:=hr.h2;omega
  ·exact Nat.le_trans (Nat.mul_le_mul (by omega) (by omega)) hr.wh
  ·have:=hr.x1;omega
  ·have:=hr.x2;push_cast at this;omega
  ·have:=hr.y1;omega
  ·have:=hr.y2;push_cast at this;omega
 have:=warped_ok i0 (i1%4294967296) i2 n r0 r1 (X-m) (Y-m) (W+2*m) (H+2*m) g c _ X Y W H w3 hl3 (SRow.blt hl3 hr.pos) hr h2 h3 hE hC
 rw [hA,if_pos rfl,hG] at this
 exact this
end
section
variable (s:ByteArray) (ia:Option Addr) (cin nI cI nR cR:Nat) (la ra:Option Addr) (I:List Int) (L:List Nat) (w:World)
theorem in_add (hz:s.toList=[97,100,100]) (hI:ZRow w la I) (hR:SRow w ra L) :
  EvOk w s ia 2 cin la nI cI ra nR cR 0 (fun gs x y=>opF 1 (gs 0 x y) (gs 1 x y)) (opX 1):=by
 refine EvOk.two fun gs X Y W H g c g2 c2 w' sb cP hb hg k0 k1 hP=>⟨_,cbC_iff 1 gs X Y W H,ev_add s ia 2 cin la nI cI ra nR cR I L sb cP X Y W H _ X Y W H _ w' _ _ hz (hI.below hb) (hR.below hb) hP (fun w2 hq=>?_)⟩
 exact combine_any 1 146 X Y W H g c g2 c2 gs w2 (hq.row ⟨X,Y,W,H,g,c,gridL (gs 0) X Y W H⟩ (by simp)) (hq.row ⟨X,Y,W,H,g2,c2,gridL (gs 1) X Y W H⟩ (by simp)) k0 k1 (enters_of Tryz.func146 (by kernel_rfl) rfl) opn_1 (fun a b ha hb _ _ h4 w'=>cl_add a b w' ha hb)
theorem in_sub (hz:s.toList=[115,117,98]) (hI:ZRow w la I) (hR:SRow w ra L) :
  EvOk w s ia 2 cin la nI cI ra nR cR 0 (fun gs x y=>opF 2 (gs 0 x y) (gs 1 x y)) (opX 2):=by
 refine EvOk.two fun gs X Y W H g c g2 c2 w' sb cP hb hg k0 k1 hP=>⟨_,cbC_iff 2 gs X Y W H,ev_sub s ia 2 cin la nI cI ra nR cR I L sb cP X Y W H _ X Y W H _ w' _ _ hz (hI.below hb) (hR.below hb) hP (fun w2 hq=>?_)⟩
 exact combine_any 2 147 X Y W H g c g2 c2 gs w2 (hq.row ⟨X,Y,W,H,g,c,gridL (gs 0) X Y W H⟩ (by simp)) (hq.row ⟨X,Y,W,H,g2,c2,gridL (gs 1) X Y W H⟩ (by simp)) k0 k1 (enters_of Tryz.func147 (by kernel_rfl) rfl) opn_2 (fun a b ha hb _ _ h4 w'=>cl_sub a b w' ha hb)
theorem in_mul (hz:s.toList=[109,117,108]) (hI:ZRow w la I) (hR:SRow w ra L) :
  EvOk w s ia 2 cin la nI cI ra nR cR 0 (fun gs x y=>opF 3 (gs 0 x y) (gs 1 x y)) (opX 3):=by
 refine EvOk.two fun gs X Y W H g c g2 c2 w' sb cP hb hg k0 k1 hP=>⟨_,cbC_iff 3 gs X Y W H,ev_mul s ia 2 cin la nI cI ra nR cR I L sb cP X Y W H _ X Y W H _ w' _ _ hz (hI.below hb) (hR.below hb) hP (fun w2 hq=>?_)⟩
 exact combine_any 3 148 X Y W H g c g2 c2 gs w2 (hq.row ⟨X,Y,W,H,g,c,gridL (gs 0) X Y W H⟩ (by simp)) (hq.row ⟨X,Y,W,H,g2,c2,gridL (gs 1) X Y W H⟩ (by simp)) k0 k1 (enters_of Tryz.func148 (by kernel_rfl) rfl) opn_3 (fun a b ha hb _ _ h4 w'=>cl_mul a b w' ha hb)
theorem in_div (hz:s.toList=[100,105,118]) (hI:ZRow w la I) (hR:SRow w ra L) :
  EvOk w s ia 2 cin la nI cI ra nR cR 0 (fun gs x y=>opF 4 (gs 0 x y) (gs 1 x y)) (opX 4):=by
 refine EvOk.two fun gs X Y W H g c g2 c2 w' sb cP hb hg k0 k1 hP=>⟨_,cbC_iff 4 gs X Y W H,ev_div s ia 2 cin la nI cI ra nR cR I L sb cP X Y W H _ X Y W H _ w' _ _ hz (hI.below hb) (hR.below hb) hP (fun w2 hq=>?_)⟩
 exact combine_any 4 149 X Y W H g c g2 c2 gs w2 (hq.row ⟨X,Y,W,H,g,c,gridL (gs 0) X Y W H⟩ (by simp)) (hq.row ⟨X,Y,W,H,g2,c2,gridL (gs 1) X Y W H⟩ (by simp)) k0 k1 (enters_of Tryz.func149 (by kernel_rfl) rfl) opn_4 (fun a b ha hb _ _ h4 w'=>cl_div a b w' ha hb (h4 rfl))
theorem in_less (hz:s.toList=[108,101,115,115]) (hI:ZRow w la I) (hR:SRow w ra L) :
  EvOk w s ia 2 cin la nI cI ra nR cR 0 (fun gs x y=>opF 5 (gs 0 x y) (gs 1 x y)) (opX 5):=by
 refine EvOk.two fun gs X Y W H g c g2 c2 w' sb cP hb hg k0 k1 hP=>⟨_,cbC_iff 5 gs X Y W H,ev_less s ia 2 cin la nI cI ra nR cR I L sb cP X Y W H _ X Y W H _ w' _ _ hz (hI.below hb) (hR.below hb) hP (fun w2 hq=>?_)⟩
 exact combine_any 5 150 X Y W H g c g2 c2 gs w2 (hq.row ⟨X,Y,W,H,g,c,gridL (gs 0) X Y W H⟩ (by simp)) (hq.row ⟨X,Y,W,H,g2,c2,gridL (gs 1) X Y W H⟩ (by simp)) k0 k1 (enters_of Tryz.func150 (by kernel_rfl) rfl) opn_5 (fun a b ha hb _ _ h4 w'=>cl_less a b w')
theorem in_more (hz:s.toList=[109,111,114,101]) (hI:ZRow w la I) (hR:SRow w ra L) :
  EvOk w s ia 2 cin la nI cI ra nR cR 0 (fun gs x y=>opF 6 (gs 0 x y) (gs 1 x y)) (opX 6):=by
 refine EvOk.two fun gs X Y W H g c g2 c2 w' sb cP hb hg k0 k1 hP=>⟨_,cbC_iff 6 gs X Y W H,ev_more s ia 2 cin la nI cI ra nR cR I L sb cP X Y W H _ X Y W H _ w' _ _ hz (hI.below hb) (hR.below hb) hP (fun w2 hq=>?_)⟩
 exact combine_any 6 151 X Y W H g c g2 c2 gs w2 (hq.row ⟨X,Y,W,H,g,c,gridL (gs 0) X Y W H⟩ (by simp)) (hq.row ⟨X,Y,W,H,g2,c2,gridL (gs 1) X Y W H⟩ (by simp)) k0 k1 (enters_of Tryz.func151 (by kernel_rfl) rfl) opn_6 (fun a b ha hb _ _ h4 w'=>cl_more a b w')
theorem in_over (hz:s.toList=[111,118,101,114]) (hI:ZRow w la I) (hR:SRow w ra L) :
  EvOk w s ia 2 cin la nI cI ra nR cR 0 (fun gs x y=>opF 7 (gs 0 x y) (gs 1 x y)) (opX 7):=by
 refine EvOk.two fun gs X Y W H g c g2 c2 w' sb cP hb hg k0 k1 hP=>⟨_,cbC_iff 7 gs X Y W H,ev_over s ia 2 cin la nI cI ra nR cR I L sb cP X Y W H _ X Y W H _ w' _ _ hz (hI.below hb) (hR.below hb) hP (fun w2 hq=>?_)⟩
 exact combine_any 7 152 X Y W H g c g2 c2 gs w2 (hq.row ⟨X,Y,W,H,g,c,gridL (gs 0) X Y W H⟩ (by simp)) (hq.row ⟨X,Y,W,H,g2,c2,gridL (gs 1) X Y W H⟩ (by simp)) k0 k1 (enters_of Tryz.func152 (by kernel_rfl) rfl) opn_7 (fun a b ha hb _ _ h4 w'=>cl_over a b w')
end
structure ShS (w:World) (X Y:Int) (W H g c:Nat) (l:List Nat) (s:ByteArray) (ia:Option Addr) (nin cin b o cI:Nat) (ra:Option Addr) (nR cR:Nat) (i0 i1:Int) (pf pn:Nat) (wr:World):Prop where
 f:Fld wr pf X Y W H (.slice (some ⟨g,0,none⟩) l.length c)
 n:NdAt wr pn s ia nin cin (some ⟨b,o,none⟩) 2 cI ra nR cR
 i:ZRow wr (some ⟨b,o,none⟩) [i0,i1]
 r:SRow wr (some ⟨g,0,none⟩) l
 b:Below w.heap.size w wr
section
variable {w wr w2:World} {X Y:Int} {W H g c:Nat} {l:List Nat} {s:ByteArray} {ia ra:Option Addr} {nin cin b o cI nR cR:Nat} {i0 i1:Int} {pf pn:Nat}
theorem ShS.call (h:ShS w X Y W H g c l s ia nin cin b o cI ra nR cR i0 i1 pf pn wr) (hb:Below wr.heap.size wr w2):ShS w X Y W H g c l s ia nin cin b o cI ra nR cR i0 i1 pf pn w2:=
 ⟨h.f.below hb h.f.lt,h.n.below hb h.n.lt,h.i.below hb,SRow.below h.r hb,h.b.trans (hb.mono h.b.size)⟩
theorem ShS.drew (h:ShS w X Y W H g c l s ia nin cin b o cI ra nR cR i0 i1 pf pn wr):ShS w X Y W H g c l s ia nin cin b o cI ra nR cR i0 i1 pf pn wr.drew:=
 ⟨h.f,⟨h.n.blk⟩,h.i,h.r.drew,h.b.drew⟩
end
set_option maxRecDepth 100000 in
set_option maxHeartbeats 2000000 in
theorem shfn_any (X Y:Int) (W H g c:Nat) (l:List Nat) (s:ByteArray) (ia:Option Addr) (nin cin b o cI:Nat) (ra:Option Addr) (nR cR:Nat) (i0 i1 x y:Int) (pf pn:Nat) (w:World) (hf:Fld w pf X Y W H (.slice (some ⟨g,0,none⟩) l.length c)) (hn:NdAt w pn s ia nin cin (some ⟨b,o,none⟩) 2 cI ra nR cR)
  (hI:ZRow w (some ⟨b,o,none⟩) [i0,i1]) (hl:SRow w (some ⟨g,0,none⟩) l) (hr:Right X Y W H l) (hin:inR X Y W H (x+i0) (y+i1)) :
  Calls Tryz.prog 121 #[.int .i64 x,.int .i64 y,.pointer (some ⟨pf,0,none⟩),.pointer (some ⟨pn,0,none⟩)] w fun e w'=>e=.returned (.float .f32 (l.getD (cellNo X Y W (x+i0) (y+i1)).toNat 0))∧Below w.heap.size w w':=by
 have g1:=hr.w1;have g2:=hr.w2;have g3:=hr.h1;have g4:=hr.h2;have g5:=hr.x1;have g6:=hr.x2;have g7:=hr.y1;have g8:=hr.y2
 obtain ⟨a1,a2,a3,a4⟩:=hin
 obtain ⟨i,hi⟩:=Int.eq_ofNat_of_zero_le (show 0≤x+i0-X by omega)
 obtain ⟨j,hj⟩:=Int.eq_ofNat_of_zero_le (show 0≤y+i1-Y by omega)
 have e1:x+i0=X+i:=by omega
 have e2:y+i1=Y+j:=by omega
 obtain ⟨k,hkk⟩:∃ k,j*W+i=k:=⟨_,rfl⟩
 have hk:cellNo X Y W (x+i0) (y+i1)=(k:Int):=by rw [e1,e2,cellNo_num,hkk]
 have hkl:k<l.length:=by
  rw [hr.len]
  have:=Nat.mul_le_mul_right W (show j+1≤H by omega)
  rw [Nat.add_mul,Nat.one_mul] at this
  omega
 have KP:=Lib.hid (fun w=>place_in X Y W H (x+i0) (y+i1) k w g1 g2 g3 g4 (by omega) (by omega) (by omega) (by omega) ⟨a1,a2,a3,a4⟩ hk)
 have r1:IntKind.i64.wrap (x+i0)=x+i0:=IntWalk.i64_in _ (by omega)
 have r2:IntKind.i64.wrap (y+i1)=y+i1:=IntWalk.i64_in _ (by omega)
 rw [hk,Int.toNat_natCast]
 have HS:Hid (ShS w X Y W H g c l s ia nin cin b o cI ra nR cR i0 i1 pf pn w):=⟨hf,hn,hI,hl,Below.refl _ _⟩
 clear hf hn hI hl hr a1 a2 a3 a4 hk hi hj e1 e2 hkk g1 g2 g3 g4 g5 g6 g7 g8
 obtain ⟨v,hv⟩:∃ v,l.getD k 0=v:=⟨_,rfl⟩
 rw [hv]
 go_enter Tryz.func121,Tryz.ntmps121
 go_upto_region 1 with fail
 refine wp_region_noPanic ?_
 refine wp_region_heldT (ShS w X Y W H g c l s ia nin cin b o cI ra nR cR i0 i1 pf pn) 18 (by kernel_rfl) HS.out.drew (fun hHeld=>?_)
 refine tkO [1,14,15,16,17,18,19] 0 rfl ?_
 try simp only [qS,qN,qC,qD]
 refine tkA [14,15,16,17,18,19] 1 rfl (by
  intro w₁ hSw
  obtain ⟨f0,f1,f2,f3,_⟩:=hSw.f.cells
  go_simp
  try with_reducible rfl) ?_
 try simp only [qS,qN,qC,qD]
 refine tkO [7,14,15,16,17,18,19] 2 rfl ?_
 try simp only [qS,qN,qC,qD]
 refine tkO [4,5,6,7,14,15,16,17,18,19] 3 rfl ?_
 try simp only [qS,qN,qC,qD]
 refine tkA [5,6,7,14,15,16,17,18,19] 4 rfl (by
  intro w₁ hSw
  have p2:=hSw.n.cells.2.2.1
  go_simp
  try with_reducible rfl) ?_
 try simp only [qS,qN,qC,qD]
 refine tkO [6,7,14,15,16,17,18,19] 5 rfl ?_
 try simp only [qS,qN,qC,qD]
 refine tkA [7,14,15,16,17,18,19] 6 rfl (by
  intro w₁ hSw
  have x0:w₁.cell? ⟨b,o,none⟩=some (.int .i64 i0):=hSw.i.at_ 0 (by simp)
  go_simp
  try with_reducible rfl) ?_
 try simp only [qS,qN,qC,qD]
 refine tkO [14,15,16,17,18,19] 7 rfl ?_
 try simp only [qS,qN,qC,qD]
 refine tkO [13,14,15,16,17,18,19] 8 rfl ?_
 try simp only [qS,qN,qC,qD]
 refine tkO [10,11,12,13,14,15,16,17,18,19] 9 rfl ?_
 try simp only [qS,qN,qC,qD]
 refine tkA [11,12,13,14,15,16,17,18,19] 10 rfl (by
  intro w₁ hSw
  have p2:=hSw.n.cells.2.2.1
  go_simp
  try with_reducible rfl) ?_
 try simp only [qS,qN,qC,qD]
 refine tkO [12,13,14,15,16,17,18,19] 11 rfl ?_
 try simp only [qS,qN,qC,qD]
 refine tkA [13,14,15,16,17,18,19] 12 rfl (by
  intro w₁ hSw
  have x1:w₁.cell? ⟨b,o+1,none⟩=some (.int .i64 i1):=hSw.i.at_ 1 (by simp)
  go_simp
  try with_reducible rfl) ?_
 try simp only [qS,qN,qC,qD]
 refine tkO [14,15,16,17,18,19] 13 rfl ?_
 try simp only [qS,qN,qC,qD]
 refine rdA 14 rfl (fun K hK=>?_)
 go_simp
 (with_reducible refine (KP.out _).mono ?_)
 rintro e w2 ⟨rfl,hb⟩
 have hN:=hHeld.call hb
 clear hb
 go_wp2_with fail
 refine ouA hK hN (fun hHeld=>?_)
 clear hK K
 try simp only [qS,qN,qC,qD]
 refine tkO [16,17,18,19] 15 rfl ?_
 try simp only [qS,qN,qC,qD]
 refine tkO [18,19] 16 rfl ?_
 try simp only [qS,qN,qC,qD]
 refine wpAnyT_ready (rs:=[17,18]) (by kernel_rfl) (by simp) ?_
 refine AllReadyT.cons rfl (fun K hK=>?_) (AllReadyT.cons rfl (fun K hK=>?_) AllReadyT.nil)
 ·go_simp
  refine ouA hK hHeld (fun hHeld=>?_)
  clear hK K
  try simp only [qS,qN,qC,qD]
  refine rdA 18 rfl (fun K hK=>?_)
  go_simp
  refine ouB hK ?_
  exact qx44
 ·go_simp
  refine ouB hK ?_
  clear hK K
  try simp only [qS,qN,qC,qD]
  refine rdA 17 rfl (fun K hK=>?_)
  go_simp
  refine ouA hK hHeld (fun hHeld=>?_)
  exact qx44
open Ieee.Format (const_0 const_1 mulF_spec addF_spec subF_spec divF_spec)
abbrev l9:List Nat:=[0,0,0,0,0,0,0,0,0]
theorem fill9:fillL 0 0 0 3 3=l9:=by rfl
theorem right9:Right 0 0 3 3 l9:=by
 refine ⟨by decide,by decide,by decide,by decide,by decide,by decide,by decide,by decide,by decide,?_,?_⟩
 ·rfl
 ·decide
theorem V_zero {x:Rat} {s:Bool} {w:Nat} (h:Ieee.single.Rounds x s w) (hx:x=0):fin Ieee.single w∧Ieee.single.V w=0:=by
 obtain ⟨a,b,_⟩:=Ieee.Format.Rounds.exact h 0 0 (by decide) (by decide) (by decide) (by decide) (by rw [hx];simp)
 exact ⟨a,by rw [b,hx]⟩
theorem ht_zero {w:Nat} (h:Ieee.single.V w=0):Ht w:=by
 have p:=Ieee.P2_pos 20
 exact Ieee.Format.Ht.of ⟨by rw [h];grind,by rw [h];grind⟩
theorem res_of {m:List Nat} (h:∀ x∈m,Ht x):resC m=0:=by
 unfold resC
 rw [if_pos (Ieee.Format.allHt_iff.2 h)]
theorem ter1_zero {s h:Nat} (hT:TerOk s h):fin Ieee.single (ter1 s 0)∧Ieee.single.V (ter1 s 0)=0:=by
 have p:=Ieee.P2_pos (-10)
 have h1:=hT.st1
 have r:=(divF_spec const_0.1 hT.st.1 (by grind)).2
 exact V_zero r (by rw [const_0.2.1];grind)
theorem ter_flat {s h:Nat} (hT:TerOk s h):Ht (terF s h 0):=by
 obtain ⟨f1,v1⟩:=ter1_zero hT
 have l1:ter1 s 0<4294967296:=Ieee.Format.divF_lt _ _
 obtain ⟨v2,v3⟩:=Ieee.Format.frac_zero (n:=0) f1 l1 (by rw [v1];rfl)
 have hv:Bd 20 0:=Ieee.Format.Ht.bd (ht_zero const_0.2.1)
 obtain ⟨_,b2,b3,_,b5,f6,n6,b8,b9,_,_⟩:=ter_bd hT hv
 have v2:Ieee.single.V (ter2 s 0)=0:=by unfold ter2;rw [v2];rfl
 unfold terF
 cases hc:lss (ter3 s 0) h with
 | true =>
  rw [if_pos rfl]
  exact ht_zero (V_zero (mulF_spec b2.1 hT.st.1).2 (by rw [v2];grind)).2
 | false =>
  rw [if_neg (by decide)]
  rw [lss_V b3.1 hT.sh] at hc
  have hc:=of_decide_eq_false hc
  have s0:=hT.sh0
  have vs:Ieee.single.V h=0:=by
   have e:Ieee.single.V (ter3 s 0)=0:=v3
   grind
  have w5:=(V_zero (subF_spec b3.1 hT.sh).2 (by rw [show Ieee.single.V (ter3 s 0)=0 from v3,vs];grind)).2
  have w8:Ieee.single.V (ter4 s h 0)=0:=(V_zero (divF_spec b5.1 f6 n6).2 (by rw [w5];grind)).2
  have w9:=(V_zero (addF_spec b2.1 b8.1).2 (by rw [v2,w8];grind)).2
  exact ht_zero (V_zero (mulF_spec b9.1 hT.st.1).2 (by rw [w9];grind)).2
theorem ter_res {s h:Nat} (hz:terC s h=0):resC (l9.map (terF s h))=0:=by
 refine res_of fun x hx=>?_
 have:=ter_flat (ter_zero hz).2.2.2.2
 simp at hx
 rw [hx];exact this
theorem dit_flat {s u:Nat} (hT:TerOk s 0):Ht (ditF s 0 u):=by
 obtain ⟨f1,v1⟩:=ter1_zero hT
 have l1:ter1 s 0<4294967296:=Ieee.Format.divF_lt _ _
 obtain ⟨v2,v3⟩:=Ieee.Format.frac_zero (n:=0) f1 l1 (by rw [v1];rfl)
 have hv:Bd 20 0:=Ieee.Format.Ht.bd (ht_zero const_0.2.1)
 have hd:=dit_ok hT hv
 have v2:Ieee.single.V (ter2 s 0)=0:=by unfold ter2;rw [v2];rfl
 unfold ditF
 split
 ·have p0:Bd 0 (ter2 s 0):=⟨hd.a2,by rw [v2];have:=Ieee.P2_pos 0;constructor<;>grind⟩
  have b:=(p0.add (Ieee.Format.one_Bd 0) (by omega)).mul hT.st (by omega)
  have p:=Ieee.P2_mono (show ((0+1+10:Nat):Int)≤20 by omega)
  exact Ieee.Format.Ht.of ⟨by have:=b.2.1;grind,by have:=b.2.2;grind⟩
 ·exact ht_zero (V_zero (mulF_spec hd.a2 hT.st.1).2 (by rw [v2];grind)).2
theorem l9_getD (k:Nat):l9.getD k 0=0:=by
 match k with
 | 0|1|2|3|4|5|6|7|8=>rfl
 | n+9=>rfl
theorem dit_res {s:Nat} (seed:Int) (hz:dithE s=0):resC (addL (ditA seed s) 0 0 3 3 l9)=0:=by
 refine res_of fun x hx=>?_
 unfold addL madeL at hx
 obtain ⟨k,_,rfl⟩:=List.mem_map.1 hx
 show Ht (ditA _ _ _ _ (l9.getD _ 0))
 rw [l9_getD]
 exact dit_flat (dith_zero hz)
theorem shade_flat {a b c m:Nat} (hL:LightOk a b c m):Ht (shadeF a b c m 0 0 0 0 0):=by
 have hv:Bd 20 0:=Ieee.Format.Ht.bd (ht_zero const_0.2.1)
 have e1:Bd 0 (Ieee.Format.nxF 0 0 0 0):=by
  obtain ⟨_,_,_,_,_,h1,h2⟩:=Ieee.Format.slope_bd hv hv hv hv
  have g1:=V_zero (subF_spec const_0.1 const_0.1).2 (by rw [const_0.2.1];grind)
  have g2:=V_zero (mulF_spec g1.1 Ieee.Format.const_half.1).2 (by rw [g1.2];grind)
  have l2:=Ieee.Format.gradF_lt 0 0
  have g3:Ieee.single.V (Ieee.Format.negF (Ieee.Format.gradF 0 0))=0:=by
   rw [Ieee.Format.negF_V l2]
   have:Ieee.single.V (Ieee.Format.gradF 0 0)=0:=g2.2
   rw [this];rfl
  have g4:=V_zero (divF_spec (Ieee.Format.negF_fin l2 g2.1) h1.1 (by grind)).2 (by rw [g3];grind)
  have p:=Ieee.P2_pos 0
  exact ⟨g4.1,by
   have:Ieee.single.V (Ieee.Format.nxF 0 0 0 0)=0:=g4.2
   rw [this];constructor<;>grind⟩
 have e2:Bd 0 (Ieee.Format.nyF 0 0 0 0):=e1
 obtain ⟨_,_,_,_,e3⟩:=Ieee.Format.normal_bd hv hv hv hv
 have x:=e1.mul hL.a (by omega)
 have y:=e2.mul hL.b (by omega)
 have z:=e3.mul hL.c (by omega)
 have xy:=x.add y (by omega)
 have xyz:=xy.add (z.mono (show 0+10≤0+10+1 by omega)) (by omega)
 have q:=Ieee.Format.div_one xyz hL.m hL.m1 (by omega)
 have p:=Ieee.P2_mono (show ((0+10+1+1:Nat):Int)≤20 by omega)
 unfold shadeF
 split
 ·exact Ieee.Format.Ht.of ⟨by have:=q.2.1;unfold Ieee.Format.shade2 Ieee.Format.shade1;grind,by have:=q.2.2;unfold Ieee.Format.shade2 Ieee.Format.shade1;grind⟩
 ·exact ht_zero const_0.2.1
theorem shade_res {x y z:Int} (hz:lightE x y z=0):resC (innerL (shadeF (cv x) (cv y) (cv z) (rootF (cv (x*x+y*y+z*z)))) 0 0 3 3 l9)=0:=by
 refine res_of fun v hv=>?_
 unfold innerL madeL nbr at hv
 obtain ⟨k,_,rfl⟩:=List.mem_map.1 hv
 simp only [l9_getD]
 exact shade_flat (light_ok hz).1
end Go.Proofs.YtmggflgdoioajaaGreat
