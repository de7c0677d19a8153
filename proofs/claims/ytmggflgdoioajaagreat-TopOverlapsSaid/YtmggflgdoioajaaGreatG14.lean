import Derived.Test.YtmggflgdoioajaaGreatG13
import Derived.BigQuiet
import Derived.Deep.CutBlock
import Derived.Deep.QuietTactic
import Derived.Deep.DeepCutAuto
import Derived.StillTailTactics
import Derived.IntWalk
import Derived.Deep.RegionHeld3
import Derived.Deep.Slices
import Derived.Deep.Fields
import Derived.ChangeSame
set_option linter.unusedSimpArgs false
set_option linter.unusedVariables false
namespace Go.Proofs.YtmggflgdoioajaaGreat
open Go.ChangeShapes Go.WideShapes Go.ChangeAt Go.RowKit
open Ieee.Format (fin finE htE allFin allHt all_true all_false mulF subF addF Ht Bd divF rootF floorF easeF mixF)
open Ieee.Format (reachF)
def mxF (a b c d:Int):Int:=
 let m1:=if b > a then b else a
 let m2:=if c > m1 then c else m1
 if d > m2 then d else m2
theorem max_run (a b c d:Int) (w':World):(Builtin.max_ #[3,3,3,3] 3 #[.int .i64 a,.int .i64 b,.int .i64 c,.int .i64 d]).run Tryz.prog w'=.ok (.int .i64 (mxF a b c d)) w':=rfl
set_option maxRecDepth 100000 in
set_option maxHeartbeats 2000000 in
theorem mar_none (s:ByteArray) (ia:Option Addr) (nin cin nI cI nR cR:Nat) (la:Option Addr) (ra:Option Addr) (w:World) (k0:(s.toList == [115,104,105,102,116])=false) (k1:(s.toList == [98,108,117,114])=false) (k2:(s.toList == [116,104,101,114,109,97,108])=false) (k3:(s.toList == [115,109,111,111,116,104])=false) (k4:(s.toList == [107,101,114,110,101,108])=false) (k5:(s.toList == [115,108,111,112,101])=false) (k6:(s.toList == [99,117,114,118,101])=false) (k7:(s.toList == [115,104,97,100,101])=false) (k8:(s.toList == [119,97,114,112])=false) :
  Calls Tryz.prog 44 #[ndV s ia nin cin la nI cI ra nR cR] w fun e w'=>e=.returned (.int .i64 (0))∧Below w.heap.size w w':=by
 exact qx26
set_option maxRecDepth 100000 in
set_option maxHeartbeats 2000000 in
theorem mar_slope (s:ByteArray) (ia:Option Addr) (nin cin nI cI nR cR:Nat) (la:Option Addr) (ra:Option Addr) (w:World) (hz:s.toList=[115,108,111,112,101]) :
  Calls Tryz.prog 44 #[ndV s ia nin cin la nI cI ra nR cR] w fun e w'=>e=.returned (.int .i64 (1))∧Below w.heap.size w w':=by
 exact qx26
set_option maxRecDepth 100000 in
set_option maxHeartbeats 2000000 in
theorem mar_curve (s:ByteArray) (ia:Option Addr) (nin cin nI cI nR cR:Nat) (la:Option Addr) (ra:Option Addr) (w:World) (hz:s.toList=[99,117,114,118,101]) :
  Calls Tryz.prog 44 #[ndV s ia nin cin la nI cI ra nR cR] w fun e w'=>e=.returned (.int .i64 (1))∧Below w.heap.size w w':=by
 exact qx26
set_option maxRecDepth 100000 in
set_option maxHeartbeats 2000000 in
theorem mar_shade (s:ByteArray) (ia:Option Addr) (nin cin nI cI nR cR:Nat) (la:Option Addr) (ra:Option Addr) (w:World) (hz:s.toList=[115,104,97,100,101]) :
  Calls Tryz.prog 44 #[ndV s ia nin cin la nI cI ra nR cR] w fun e w'=>e=.returned (.int .i64 (1))∧Below w.heap.size w w':=by
 exact qx26
set_option maxRecDepth 100000 in
set_option maxHeartbeats 2000000 in
theorem mar_blur (s:ByteArray) (ia:Option Addr) (nin cin b o cI nR cR:Nat) (ra:Option Addr) (i0:Int) (w:World) (hz:s.toList=[98,108,117,114]) (hI:ZRow w (some ⟨b,o,none⟩) [i0]) :
  Calls Tryz.prog 44 #[ndV s ia nin cin (some ⟨b,o,none⟩) 1 cI ra nR cR] w fun e w'=>e=.returned (.int .i64 (i0))∧Below w.heap.size w w':=by
 have HI:=Lib.hid hI
 clear hI
 exact qx18
set_option maxRecDepth 100000 in
set_option maxHeartbeats 2000000 in
theorem mar_smooth (s:ByteArray) (ia:Option Addr) (nin cin b o cI nR cR:Nat) (ra:Option Addr) (i0:Int) (w:World) (hz:s.toList=[115,109,111,111,116,104]) (hI:ZRow w (some ⟨b,o,none⟩) [i0]) :
  Calls Tryz.prog 44 #[ndV s ia nin cin (some ⟨b,o,none⟩) 1 cI ra nR cR] w fun e w'=>e=.returned (.int .i64 (i0))∧Below w.heap.size w w':=by
 have HI:=Lib.hid hI
 clear hI
 exact qx18
set_option maxRecDepth 100000 in
set_option maxHeartbeats 2000000 in
theorem mar_thermal (s:ByteArray) (ia:Option Addr) (nin cin b o cI nR cR:Nat) (ra:Option Addr) (i0:Int) (w:World) (hz:s.toList=[116,104,101,114,109,97,108]) (hI:ZRow w (some ⟨b,o,none⟩) [i0]) :
  Calls Tryz.prog 44 #[ndV s ia nin cin (some ⟨b,o,none⟩) 1 cI ra nR cR] w fun e w'=>e=.returned (.int .i64 (i0))∧Below w.heap.size w w':=by
 have HI:=Lib.hid hI
 clear hI
 exact qx18
set_option maxRecDepth 100000 in
set_option maxHeartbeats 2000000 in
theorem mar_kernel (s:ByteArray) (ia:Option Addr) (nin cin b o cI nR cR:Nat) (ra:Option Addr) (i0:Int) (w:World) (hz:s.toList=[107,101,114,110,101,108]) (h1:1≤i0) (h2:i0≤15) (hI:ZRow w (some ⟨b,o,none⟩) [i0]) :
  Calls Tryz.prog 44 #[ndV s ia nin cin (some ⟨b,o,none⟩) 1 cI ra nR cR] w fun e w'=>e=.returned (.int .i64 ((i0-1) / 2))∧Below w.heap.size w w':=by
 have HI:=Lib.hid hI
 clear hI
 have e1:IntKind.i64.wrap (i0-1)=i0-1:=IntWalk.i64_in _ (by omega)
 have e2:(i0-1).tdiv 2=(i0-1) / 2:=Int.tdiv_eq_ediv_of_nonneg (by omega)
 have e3:IntKind.i64.wrap ((i0-1) / 2)=(i0-1) / 2:=IntWalk.i64_in _ (by omega)
 exact qx18
set_option maxRecDepth 100000 in
set_option maxHeartbeats 2000000 in
theorem mar_shift (s:ByteArray) (ia:Option Addr) (nin cin b o cI nR cR:Nat) (ra:Option Addr) (i0 i1:Int) (w:World) (hz:s.toList=[115,104,105,102,116]) (h1:-64≤i0∧i0≤64) (h2:-64≤i1∧i1≤64) (hI:ZRow w (some ⟨b,o,none⟩) [i0,i1]) :
  Calls Tryz.prog 44 #[ndV s ia nin cin (some ⟨b,o,none⟩) 2 cI ra nR cR] w fun e w'=>e=.returned (.int .i64 (mxF i0 (-i0) i1 (-i1)))∧Below w.heap.size w w':=by
 have HI:=Lib.hid hI
 clear hI
 have hM:=max_run i0 (-i0) i1 (-i1)
 have e1:IntKind.i64.wrap (-i0)=-i0:=IntWalk.i64_in _ (by omega)
 have e2:IntKind.i64.wrap (-i1)=-i1:=IntWalk.i64_in _ (by omega)
 have e3:wrap64 (-i0)=-i0:=by unfold wrap64;omega
 have e4:wrap64 (-i1)=-i1:=by unfold wrap64;omega
 clear h1 h2
 generalize mxF i0 (-i0) i1 (-i1)=M at *
 go_enter Tryz.func44,Tryz.ntmps44
 go_upto_region 1 with fail
 generalize hW0:w.alloc (.cells #[.string s,.slice ia nin cin,.slice (some ⟨b,o,none⟩) 2 cI,.slice ra nR cR] 61)=W0
 have A0:NdAt W0 w.heap.size s ia nin cin (some ⟨b,o,none⟩) 2 cI ra nR cR:=by subst hW0;exact NdAt.new _ _ _ _ _ _ _ _ _ _ _
 have b0:Below w.heap.size w W0:=by subst hW0;exact qBl
 have HB0:=Lib.hid b0
 have HI0:=Lib.hid (HI.out.below b0)
 obtain ⟨p0,p1,p2,p3⟩:=A0.cells
 have l0:=A0.lt
 clear hW0 A0 HI
 have x0:W0.cell? ⟨b,o,none⟩=some (.int .i64 i0):=HI0.out.at_ 0 (by simp)
 have x1:W0.cell? ⟨b,o+1,none⟩=some (.int .i64 i1):=HI0.out.at_ 1 (by simp)
 have lb:b<W0.heap.size:=HI0.out.lt (by simp)
 clear b0
 go_wp2_with fail
 go_quiet (fail)
 go_wp2_with fail
 go_ret
 have hb:=HB0.out
 exact ⟨rfl,(qBo hb)⟩
set_option maxRecDepth 100000 in
set_option maxHeartbeats 2000000 in
theorem mar_warp (s:ByteArray) (ia:Option Addr) (nin cin b o cI rb ro cR:Nat) (i0 i1 i2 i3:Int) (r0 r1:Nat) (w:World) (hz:s.toList=[119,97,114,112]) (hI:ZRow w (some ⟨b,o,none⟩) [i0,i1,i2,i3]) (hR:SRow w (some ⟨rb,ro,none⟩) [r0,r1]) (hp:wpE i0 i2 i3 r0 r1=0) :
  Calls Tryz.prog 44 #[ndV s ia nin cin (some ⟨b,o,none⟩) 4 cI (some ⟨rb,ro,none⟩) 2 cR] w fun e w'=>e=.returned (.int .i64 (margZ (reachF r0 (bndF i0) i3.toNat) r1))∧Below w.heap.size w w':=by
 have h0:=hR.1.2 r0 (by simp)
 have h1:=hR.1.2 r1 (by simp)
 have KM:∀ w',ZRow w' (some ⟨b,o,none⟩) [i0,i1,i2,i3]→SRow w' (some ⟨rb,ro,none⟩) [r0,r1]→_:=fun w' hI hR=>mk_warp s ia nin cin b o cI rb ro 2 cR i0 i1 i2 i3 r0 r1 [r0,r1] w' hI hR rfl rfl
 have KM:=Lib.hid KM
 have KC:∀ w':World,Calls Tryz.prog 65 #[wpV i0 (i1%4294967296) i2 i3 r0 r1] w' fun e w''=>e=.returned (.tuple #[.int .i64 (margZ (reachF r0 (bndF i0) i3.toNat) r1),.int .i64 0])∧Below w'.heap.size w' w'':=fun w'=>by
  have:=marginop_any i0 (i1%4294967296) i2 i3 r0 r1 h0 h1 w'
  rw [hp,if_pos rfl] at this
  exact this
 have KC:=Lib.hid KC
 unfold wpV at KC KM
 generalize margZ (reachF r0 (bndF i0) i3.toNat) r1=M at *
 have HI:=Lib.hid hI
 have HR:=Lib.hid hR
 clear hI hR hp h0 h1
 go_enter Tryz.func44,Tryz.ntmps44
 go_upto_region 1 with fail
 generalize hW0:w.alloc (.cells #[.string s,.slice ia nin cin,.slice (some ⟨b,o,none⟩) 4 cI,.slice (some ⟨rb,ro,none⟩) 2 cR] 61)=W0
 have A0:NdAt W0 w.heap.size s ia nin cin (some ⟨b,o,none⟩) 4 cI (some ⟨rb,ro,none⟩) 2 cR:=by subst hW0;exact NdAt.new _ _ _ _ _ _ _ _ _ _ _
 have b0:Below w.heap.size w W0:=by subst hW0;exact qBl
 have HB0:=Lib.hid b0
 obtain ⟨p0,p1,p2,p3⟩:=A0.cells
 have l0:=A0.lt
 clear hW0 A0
 have HI0:=Lib.hid (HI.out.below b0)
 have HR0:=Lib.hid (HR.out.below b0)
 clear b0 HI HR
 go_wp2_with fail
 refine (KM.out _ HI0.out HR0.out).mono ?_
 rintro e w1 ⟨rfl,b1⟩
 have HB1:=Lib.hid (HB0.out.trans (b1.mono HB0.out.size))
 clear b1
 go_wp2_with fail
 refine (KC.out _).mono ?_
 rintro e w2 ⟨rfl,b2⟩
 have HB2:=Lib.hid (HB1.out.trans (b2.mono HB1.out.size))
 clear b2
 go_wp2_with fail
 go_ret
 have hb:=HB2.out
 exact ⟨rfl,(qBo hb)⟩
theorem srow_lt {w:World} {a:Option Addr} {l:List Nat} (h:SRow w a l) (k:Nat):l.getD k 0<4294967296:=by
 by_cases hk:k<l.length
 ·rw [List.getD_eq_getElem?_getD,List.getElem?_eq_getElem hk]
  exact h.1.2 _ (List.getElem_mem hk)
 ·rw [List.getD_eq_getElem?_getD,List.getElem?_eq_none (by omega)]
  decide
set_option maxRecDepth 100000 in
set_option maxHeartbeats 1000000 in
theorem added_lt (gn:Nat) (caps:Array Value) (φ:Int→Int→Nat→Nat) (X Y:Int) (Wn Hn:Nat) (b o c:Nat) (l:List Nat) (w:World) (hl:SRow w (some ⟨b,o,none⟩) l) (hr:Right X Y Wn Hn l)
  (eg:∀ args w,(callFunc gn args).run Tryz.prog w=.ok (.enter gn args) w) (hφ:∀ x y v,v<4294967296→φ x y v<4294967296)
  (hf:∀ x y v,X≤x→x<X+Wn→Y≤y→y<Y+Hn→Bd 20 v→v<4294967296→∀ W',Below w.heap.size w W'→Calls Tryz.prog gn (#[.int .i64 x,.int .i64 y,.float .f32 v] ++ caps) W' fun e w'=>e=.returned (.float .f32 (φ x y v))∧Below W'.heap.size W' w') :
  Calls Tryz.prog 111 #[fldV X Y Wn Hn (some ⟨b,o,none⟩) l.length c,.func (.func gn) #[] caps] w fun e w'=>OpP (resC (addL φ X Y Wn Hn l)) X Y Wn Hn (addL φ X Y Wn Hn l) w e w':=by
 have hlt:∀ k,l.getD k 0<4294967296:=fun k=>srow_lt hl k
 have HL:=Lib.hid hl
 have HBL:Hid (b<w.heap.size):=SRow.blt hl hr.pos
 have g1:=hr.w1;have g2:=hr.w2;have g3:=hr.h1;have g4:=hr.h2;have g5:=hr.x1;have g6:=hr.x2;have g7:=hr.y1;have g8:=hr.y2
 have KM:=Lib.hid (fun p q pm w1 (hl1:SRow w1 (some ⟨b,o,none⟩) l) (hq:Fld w1 q X Y Wn Hn (.slice (some ⟨b,o,none⟩) l.length c)) (hm:Blk w1 pm #[.func (.func gn) #[] caps] 141) (hp:CntAt w1 p (-1)) (qp:q≠p) (bp:b≠p) (pmp:pm≠p) (wp:w.heap.size≤p) (hB:Below w.heap.size w w1) =>
  make_cnt 141 #[.pointer (some ⟨p,0,none⟩),.pointer (some ⟨pm,0,none⟩),.pointer (some ⟨q,0,none⟩)] p (fun x y=>φ x y (l.getD (cellNo X Y Wn x y).toNat 0)) X Y Wn Hn w1 (by omega) (by omega) (by omega) (by omega) (by omega) (by omega) (by omega) (by omega)
   (enters_of Tryz.func141 (by kernel_rfl) rfl) hp (fun x y=>hφ _ _ _ (hlt _))
   (fun i j k hi hj hk W' hb' hcnt=>by
    have hpl:=hp.lt
    have hpl':=hcnt.lt
    have e:=cell_ij (X:=X) (Y:=Y) hk
    have hkl:k<l.length:=by rw [hr.len];exact cell_lt hi hj hk
    show Calls Tryz.prog _ _ W' fun e w'=>e=.returned (.float .f32 (φ (X+(i:Int)) (Y+(j:Int)) (l.getD (cellNo X Y Wn (X+(i:Int)) (Y+(j:Int))).toNat 0)))∧_
    rw [e]
    exact addedfn_any gn caps _ (X+(i:Int)) (Y+(j:Int)) p q b o c pm k X Y Wn Hn l _ W' ⟨hcnt,hq.but hb' hq.lt qp,SRow.but hl1 hb' (SRow.blt hl1 hr.pos) bp,qp,bp,hkl,by have:=hb'.size;have:=SRow.blt hl1 hr.pos;omega⟩
     (hm.but hb' hm.lt pmp) pmp eg (fun W'' hb''=>hf _ _ _ (by omega) (by omega) (by omega) (by omega) (hr.bd k) (hlt k) W'' ((hB.trans ((hb'.lowp (by omega)).mono wp)).trans ((hb''.lowp (by omega)).mono wp)))))
 have KR:=Lib.hid (fun X1 Y1 W1 H1 g cap B w ho=>result_any X1 Y1 W1 H1 g cap B (addL φ X Y Wn Hn l) w ho (addL_small φ hr))
 change Hid (∀ p q pm w1 (hl1:SRow w1 (some ⟨b,o,none⟩) l) (hq:Fld w1 q X Y Wn Hn (.slice (some ⟨b,o,none⟩) l.length c)) (hm:Blk w1 pm #[.func (.func gn) #[] caps] 141) (hp:CntAt w1 p (-1)) (qp:q≠p) (bp:b≠p) (pmp:pm≠p) (wp:w.heap.size≤p) (hB:Below w.heap.size w w1),
  Calls Tryz.prog 89 #[reg X Y Wn Hn,.func (.func 141) #[] #[.pointer (some ⟨p,0,none⟩),.pointer (some ⟨pm,0,none⟩),.pointer (some ⟨q,0,none⟩)]] w1 fun e w'=>MakeCP p X Y Wn Hn (addL φ X Y Wn Hn l) w1 e w') at KM
 clear hl hr eg hφ hf hlt g1 g2 g3 g4 g5 g6 g7 g8
 exact qx11
set_option maxRecDepth 100000 in
set_option maxHeartbeats 1000000 in
theorem ar_shift (s:ByteArray) (ia:Option Addr) (nin cin b o cI cR:Nat) (ra:Option Addr) (i0 i1:Int) (p0:Inp) (X Y:Int) (W H:Nat) (w:World) (hz:s.toList=[115,104,105,102,116]) (hI:ZRow w (some ⟨b,o,none⟩) [i0,i1]) (hR:SRow w ra []) (hP:SRow w (some ⟨p0.g,0,none⟩) p0.l)
  (hr:Right p0.X p0.Y p0.W p0.H p0.l) (hg:Rg X Y W H) (hin:∀ x y,InR X Y W H x y→inR p0.X p0.Y p0.W p0.H (x+i0) (y+i1)) :
  Calls Tryz.prog 80 #[ndV s ia nin cin (some ⟨b,o,none⟩) 2 cI ra 0 cR,reg X Y W H,inpV p0] w (OpP 0 X Y W H (gridL (fun x y=>p0.l.getD (cellNo p0.X p0.Y p0.W (x+i0) (y+i1)).toNat 0) X Y W H) w):=by
 have g1:=hg.w1;have g2:=hg.w2;have g3:=hg.h1;have g4:=hg.h2;have g5:=hg.x1;have g6:=hg.x2;have g7:=hg.y1;have g8:=hg.y2
 have hlt:∀ k,p0.l.getD k 0<4294967296:=fun k=>srow_lt hP k
 have KC:=Lib.hid (fun w' (h:ErS w s ia nin cin (some ⟨b,o,none⟩) 2 cI ra 0 cR [i0,i1] [] X Y W H p0 w')=>(make_any 121 #[.pointer (some ⟨w.heap.size+2,0,none⟩),.pointer (some ⟨w.heap.size,0,none⟩)] (fun x y=>p0.l.getD (cellNo p0.X p0.Y p0.W (x+i0) (y+i1)).toNat 0) X Y W H w' g1 g2 g3 g4 (by omega) (by omega) (by omega) (by omega)
  (enters_of Tryz.func121 (by kernel_rfl) rfl) (fun x y _ _ _ _=>hlt _) (fun x y h1 h2 h3 h4 W2 hb =>
   shfn_any p0.X p0.Y p0.W p0.H p0.g p0.c p0.l s ia nin cin b o cI ra 0 cR i0 i1 x y (w.heap.size+2) w.heap.size W2 (h.bx.below hb h.bx.lt) (h.nd.below hb h.nd.lt) (h.i.below hb) (SRow.below h.f hb) hr (hin x y ⟨h1,h2,h3,h4⟩))).mono fun e w' h=>MakeP.outw h)
 have HS:=Lib.hid (ErS.start (s:=s) (ia:=ia) (nin:=nin) (cin:=cin) (nI:=2) (cI:=cI) (nR:=0) (cR:=cR) (X:=X) (Y:=Y) (W:=W) (H:=H) (p0:=p0) hI hR hP)
 change Hid (∀ w',_→Calls Tryz.prog 89 #[reg X Y W H,.func (.func 121) #[] #[.pointer (some ⟨w.heap.size+2,0,none⟩),.pointer (some ⟨w.heap.size,0,none⟩)]] w' fun e w''=>(∃ x y pp q a n k,e=.returned (fldV x y pp q a n k)∧OutV 0 X Y W H (gridL (fun x y=>p0.l.getD (cellNo p0.X p0.Y p0.W (x+i0) (y+i1)).toNat 0) X Y W H) w'' w'.heap.size x y pp q a n k)∧Below w'.heap.size w' w'') at KC
 clear hI hR hP hr hg hin hlt g1 g2 g3 g4 g5 g6 g7 g8
 generalize gridL (fun x y=>p0.l.getD (cellNo p0.X p0.Y p0.W (x+i0) (y+i1)).toNat 0) X Y W H=S at *
 go_enter Tryz.func80,Tryz.ntmps80
 go_upto_region 1 with fail
 generalize (((w.alloc (.cells #[.string s,.slice ia nin cin,.slice (some ⟨b,o,none⟩) 2 cI,.slice ra 0 cR] 61)).alloc (.cells #[.int .i64 X,.int .i64 Y,.int .i64 W,.int .i64 H] 26)).alloc (.cells #[.int .i64 p0.X,.int .i64 p0.Y,.int .i64 p0.W,.int .i64 p0.H,.slice (some ⟨p0.g,0,none⟩) p0.l.length p0.c] 32)).alloc (.cells #[.int .i64 0,.int .i64 0,.int .i64 0,.int .i64 0,.slice none 0 0] 32)=W0 at *
 have p0':=HS.out.nd.cells.1
 have l0':=HS.out.nd.lt
 obtain ⟨f0,f1,f2,f3⟩:=HS.out.rg.cells
 have lf:=HS.out.rg.lt
 go_wp2_with fail
 refine (KC.out _ HS.out).mono ?_
 rintro e w2 ⟨⟨x,y,p,q,a,n,k,rfl,ho⟩,hb⟩
 clear p0' l0' f0 f1 f2 f3 lf
 have F2:=HS.out.rs.below hb HS.out.rs.lt
 have HB2:=Lib.hid (HS.out.b.trans (hb.mono HS.out.b.size))
 have HO:=Lib.hid ho
 have HZ:=Lib.hid HS.out.rs.lt
 have HZB:=Lib.hid HS.out.b.size
 clear hb ho
 obtain ⟨d0,d1,d2,d3,d4⟩:=F2.cells
 obtain ⟨qf0,qf1,qf2,qf3,qf4⟩:_∧_∧_∧_∧_:=⟨F2.frozen 0,F2.frozen 1,F2.frozen 2,F2.frozen 3,F2.frozen 4⟩
 have lz:=F2.lt
 have HF2:=Lib.hid F2
 clear F2
 go_wp2_with fail
 obtain ⟨f5,b5,oo5,_,z5⟩:=fld_store w2 (w.heap.size+3) 0 0 0 0 _ x y p q (.slice a n k) HF2.out _ rfl
 have hO5:=(HO.out.set oo5 HZ.out).base HZB.out
 generalize ((((w2.setCell ⟨w.heap.size+3,0,none⟩ (.int .i64 x)).setCell ⟨w.heap.size+3,1,none⟩ (.int .i64 y)).setCell ⟨w.heap.size+3,2,none⟩ (.int .i64 p)).setCell ⟨w.heap.size+3,3,none⟩ (.int .i64 q)).setCell ⟨w.heap.size+3,4,none⟩ (.slice a n k)=W5 at *
 obtain ⟨z0,z1,z2,z3,z4⟩:=f5.cells
 have hb:=HB2.out.trans (b5.mono (by omega))
 clear f5 b5 oo5 d0 d1 d2 d3 d4 qf0 qf1 qf2 qf3 qf4 HF2 z5
 exact bodyPost_ret (v:=.tuple #[fldV x y p q a n k,.int .i64 0]) (by simp [results,Tryz.results80,go_sem, *]) rfl ⟨⟨x,y,p,q,a,n,k,rfl,hO5⟩,hb⟩
theorem mxF_le (a b c d:Int):a≤mxF a b c d∧b≤mxF a b c d∧c≤mxF a b c d∧d≤mxF a b c d:=by
 unfold mxF
 dsimp only
 repeat' split
 all_goals (refine ⟨?_,?_,?_,?_⟩<;>omega)
theorem in_shift (s:ByteArray) (ia:Option Addr) (cin b o cI cR:Nat) (ra:Option Addr) (i0 i1:Int) (w:World) (m:Nat) (hz:s.toList=[115,104,105,102,116]) (hI:ZRow w (some ⟨b,o,none⟩) [i0,i1]) (hR:SRow w ra []) (hm:mxF i0 (-i0) i1 (-i1)=m) :
  EvOk w s ia 1 cin (some ⟨b,o,none⟩) 2 cI ra 0 cR m (fun gs x y=>gs 0 (x+i0) (y+i1)) noEx:=by
 obtain ⟨q1,q2,q3,q4⟩:=mxF_le i0 (-i0) i1 (-i1)
 rw [hm] at q1 q2 q3 q4
 refine EvOk.one fun gs X Y W H g c w' sb cP hb hW hH hr hP=>⟨0,gd_all (G:=fun gs x y=>gs 0 (x+i0) (y+i1)) (fun x y hi=>?_),?_⟩
 ·obtain ⟨z1,z2,z3,z4⟩:=hi
  exact hr.cell ⟨by omega,by push_cast;omega,by omega,by push_cast;omega⟩
 refine ev_around s ia 1 cin _ _ _ _ _ _ _ _ sb cP X Y W H _ X Y W H _ w' _ (by rw [hz];rfl) (by rw [hz];rfl) (by rw [hz];rfl) (by rw [hz];rfl) (by rw [hz];rfl) (by rw [hz];rfl) (by rw [hz];rfl) (by rw [hz];rfl) (by rw [hz];rfl) (by rw [hz];rfl) (by rw [hz];rfl) (by rw [hz];rfl) (by rw [hz];rfl) (by rw [hz];rfl) (by rw [hz];rfl) (by rw [hz];rfl) (by rw [hz];rfl) (by rw [hz];rfl) (by rw [hz];rfl) (by rw [hz];rfl) (hI.below hb) (hR.below hb) hP (fun w2 hI2 hR2 hl=>?_)
 have hG:gridL (fun x y=>(gridL (gs 0) (X-m) (Y-m) (W+2*m) (H+2*m)).getD (cellNo (X-m) (Y-m) ((W+2*m:Nat):Int) (x+i0) (y+i1)).toNat 0) X Y W H=gridL (fun x y=>gs 0 (x+i0) (y+i1)) X Y W H:=by
  refine grid_congr fun x y z1 z2 z3 z4=>?_
  exact grid_cell (gs 0) _ _ _ _ _ _ (by omega) (by push_cast;omega) (by omega) (by push_cast;omega)
 have hC:Rg X Y W H:=by
  refine ⟨hW,?_,hH,?_,?_,?_,?_,?_,?_⟩
  ·have:=hr.w2;omega
  ·have:=hr.h2;omega
  ·exact Nat.le_trans (Nat.mul_le_mul (by omega) (by omega)) hr.wh
  ·have:=hr.x1;omega
  ·have:=hr.x2;push_cast at this;omega
  ·have:=hr.y1;omega
  ·have:=hr.y2;push_cast at this;omega
 have:=ar_shift s ia 1 cin b o cI cR ra i0 i1 ⟨X-m,Y-m,W+2*m,H+2*m,g,c,gridL (gs 0) (X-m) (Y-m) (W+2*m) (H+2*m)⟩ X Y W H w2 hz hI2 hR2 hl hr hC (fun x y hi=>by
  obtain ⟨z1,z2,z3,z4⟩:=hi
  exact ⟨by simp only;omega,by simp only;push_cast;omega,by simp only;omega,by simp only;push_cast;omega⟩)
 simp only at this
 rw [hG] at this
 exact this
open Ieee.Format (const_1)
theorem mul_bd {a x m n:Int} (h1:-m≤a∧a≤m) (h2:-n≤x∧x≤n):-(m*n)≤a*x∧a*x≤m*n:=by
 have h:=Nat.mul_le_mul (show a.natAbs≤m.natAbs by omega) (show x.natAbs≤n.natAbs by omega)
 rw [←Int.natAbs_mul,←Int.natAbs_mul] at h
 have:0≤m*n:=Int.mul_nonneg (by omega) (by omega)
 omega
theorem lattice_any (a b:Int) (w:World) (hb:0<b) (hb2:b≤16777216) (ha:-1099511627776≤a) (ha2:a≤1099511627776) :
  Calls Tryz.prog 145 #[.int .i64 a,.int .i64 b] w fun e w'=>e=.returned (.tuple #[.int .i64 (a / b),.int .i64 (a%b)])∧Below w.heap.size w w':=by
 exact qx33
structure FoldAt (A B P x y:Int):Prop where
 a:-1000≤A∧A≤1000
 b:-1000≤B∧B≤1000
 p:2≤P∧P≤16777216
 x:-8388608≤x∧x≤8388608
 y:-8388608≤y∧y≤8388608
def foldK (A B P x y:Int):Int:=(A*x+B*y)%P
theorem FoldAt.ok {A B P x y:Int} (h:FoldAt A B P x y):FoldOk (foldK A B P x y) P:=by
 have p:=h.p
 exact fold_ok (Int.emod_nonneg _ (by omega)) (Int.emod_lt_of_pos _ (by omega)) p.2
set_option maxRecDepth 100000 in
set_option maxHeartbeats 1000000 in
theorem lift_any (A B P:Int) (H:Nat) (x y:Int) (w:World) (h:FoldAt A B P x y) (hH:Bd 20 H) :
    Calls Tryz.prog 117 #[foldV A B P H,.int .i64 x,.int .i64 y] w fun e w'=>e=.returned (.float .f32 (liftF H (foldK A B P x y) P))∧Below w.heap.size w w':=by
  have p:=h.p
  obtain ⟨a1,a2⟩:=mul_bd h.a h.x
  obtain ⟨b1,b2⟩:=mul_bd h.b h.y
  have hk:=h.ok
  have hh:=h
  have k0:0≤foldK A B P x y:=Int.emod_nonneg _ (by omega)
  have k1:foldK A B P x y<16777216:=by have:=Int.emod_lt_of_pos (A*x+B*y) (show 0<P by omega);unfold foldK;omega
  have KL:=Lib.hid (fun w=>lattice_any (A*x+B*y) P w (by omega) p.2 (by omega) (by omega))
  change Hid (∀ w,Calls Tryz.prog 145 #[.int .i64 (A*x+B*y),.int .i64 P] w fun e w'=>e=.returned (.tuple #[.int .i64 ((A*x+B*y) / P),.int .i64 (foldK A B P x y)])∧Below w.heap.size w w') at KL
  have hl:=(lift_bd hH hk).1
  have hu:=hk.share
  generalize foldK A B P x y=k at *
  generalize hax:A*x=ax at *
  generalize hby:B*y=bi at *
  generalize (ax+bi) / P=kq at *
  have k2:=fun w'=>run_float_arith (P:=Tryz.prog) w' .mul 48 .f32 (cv k) 1073741824 (foldY k) (Ieee.Format.bits_mul hk.a Ieee.Format.const_2.1)
  have k3:=fun w'=>run_float_arith (P:=Tryz.prog) w' .quo 48 .f32 (foldY k) (cv P) (foldT k P) (Ieee.Format.bits_div hk.b hk.c hk.d)
  have k5:=fun w'=>run_float_arith (P:=Tryz.prog) w' .mul 48 .f32 H (easeF (foldU k P)) (liftF H k P) (Ieee.Format.bits_mul hH.1 hl)
  have ht:=hk.t
  have hs:=hk.s
  unfold foldU at *
  cases hc:le1 (foldT k P) with
  | true =>
    rw [hc] at k5
    rw [if_pos rfl] at k5
    have hu:=hk.u hc
    have KE:=Lib.hid (fun w=>shapeease_any (foldT k P) (Ieee.Format.divF_lt _ _) hu w)
    change (FloatKind.f32.format.order (foldT k P) 1065353216 == some .lt || FloatKind.f32.format.order (foldT k P) 1065353216 == some .eq)=true at hc
    clear h hh hu hl hk ht hs
    generalize liftF H k P=z at *
    generalize easeF (foldT k P)=z4 at *
    exact qx23
  | false =>
    rw [hc] at k5
    rw [if_neg (by decide)] at k5
    have hu:=hk.s hc
    have k4:=fun w'=>run_float_arith (P:=Tryz.prog) w' .sub 48 .f32 1073741824 (foldT k P) (foldS k P) (Ieee.Format.bits_sub Ieee.Format.const_2.1 ht)
    have KE:=Lib.hid (fun w=>shapeease_any (foldS k P) (Ieee.Format.subF_lt _ _) hu w)
    change (FloatKind.f32.format.order (foldT k P) 1065353216 == some .lt || FloatKind.f32.format.order (foldT k P) 1065353216 == some .eq)=false at hc
    clear h hh hu hl hk ht hs
    generalize liftF H k P=z at *
    generalize easeF (foldS k P)=z5 at *
    generalize foldS k P=z4 at *
    exact qx23
open Ieee.Format (const_1 Hn)
open Go.Deep
section
variable {H:Type} {enc:TypeId × Value→H} {P:Program} {w:World} {base:Nat} {spare:Nat→Bool} {held:Bool}
end
structure FoR where
 A:Int
 B:Int
 P:Int
 H:Nat
def foAt (L:List FoR) (i:Nat):FoR:=L.getD i ⟨0,0,0,0⟩
theorem foAt_mem {L:List FoR} {i:Nat} (h:i<L.length):foAt L i∈L:=by
 unfold foAt
 rw [List.getD_eq_getElem?_getD,List.getElem?_eq_getElem h]
 exact List.getElem_mem h
def FoCells (w:World) (b o:Nat) (L:List FoR):Prop:=∀ i,i<L.length →
 w.cell? ⟨b,o+i*4,none⟩=some (.int .i64 (foAt L i).A)∧w.cell? ⟨b,o+i*4+1,none⟩=some (.int .i64 (foAt L i).B)∧w.cell? ⟨b,o+i*4+2,none⟩=some (.int .i64 (foAt L i).P)∧w.cell? ⟨b,o+i*4+3,none⟩=some (.float .f32 (foAt L i).H)
def FoRow (w:World) (a:Option Addr) (L:List FoR):Prop:=(L.length≤9223372036854775807∧∀ r∈L,r.H<4294967296)∧(L=[]∨∃ b o,a=some ⟨b,o,none⟩∧b<w.heap.size∧FoCells w b o L)
theorem FoCells.below {w w':World} {B b o:Nat} {L:List FoR} (h:FoCells w b o L) (hb:Below B w w') (hl:b<B):FoCells w' b o L:=by
 intro i hi
 obtain ⟨h0,h1,h2,h3⟩:=h i hi
 exact ⟨by rw [hb.cell (by simpa using hl)];exact h0,by rw [hb.cell (by simpa using hl)];exact h1,by rw [hb.cell (by simpa using hl)];exact h2,by rw [hb.cell (by simpa using hl)];exact h3⟩
theorem FoRow.below {w w':World} {a:Option Addr} {L:List FoR} (h:FoRow w a L) (hb:Below w.heap.size w w'):FoRow w' a L:=by
 exact qx82
open Ieee.Format (Hn)
def sumF {ρ:Type} (φ:ρ→Nat) (v:Nat) (L:List ρ):Nat:=L.foldl (fun v r=>addF v (φ r)) v
theorem sumF_succ {ρ:Type} (φ:ρ→Nat) (v:Nat) (L:List ρ) (d:ρ) {k:Nat} (h:k<L.length):sumF φ v (L.take (k+1))=addF (sumF φ v (L.take k)) (φ (L.getD k d)):=by
 unfold sumF
 rw [List.take_add_one,List.getElem?_eq_getElem h,List.foldl_append,List.getD_eq_getElem?_getD,List.getElem?_eq_getElem h]
 rfl
theorem sumF_lt {ρ:Type} (φ:ρ→Nat) {v:Nat} (L:List ρ) (hv:v<4294967296):sumF φ v L<4294967296:=by
 unfold sumF
 induction L generalizing v with
 | nil=>exact hv
 | cons r L ih=>exact ih (Ieee.Format.addF_lt _ _)
theorem sumF_hn {ρ:Type} {φ:ρ→Nat} {v:Nat} {L:List ρ} (hv:Bd 20 v) (hL:L.length≤1000) (hφ:∀ r∈L,Bd 20 (φ r)) (k:Nat) (hk:k≤L.length):Hn (k+1) (sumF φ v (L.take k)):=by
 induction k with
 | zero=>exact Hn.one hv
 | succ k ih =>
  have hlt:k<L.length:=by omega
  have e:=sumF_succ φ v L (L[k]) hlt
  rw [e,List.getD_eq_getElem?_getD,List.getElem?_eq_getElem hlt]
  exact (ih (by omega)).add (hφ _ (List.getElem_mem hlt)) (by omega)
theorem sumF_step {ρ:Type} {φ:ρ→Nat} {v:Nat} {L:List ρ} (hv:Bd 20 v) (hL:L.length≤1000) (hφ:∀ r∈L,Bd 20 (φ r)) (d:ρ) {k:Nat} (hk:k<L.length) :
  fin Ieee.single (sumF φ v (L.take k))∧fin Ieee.single (φ (L.getD k d))∧fin Ieee.single (sumF φ v (L.take (k+1)))∧sumF φ v (L.take (k+1))=addF (sumF φ v (L.take k)) (φ (L.getD k d)):=by
 refine ⟨(sumF_hn hv hL hφ k (by omega)).1,?_,(sumF_hn hv hL hφ (k+1) hk).1,sumF_succ φ v L d hk⟩
 rw [List.getD_eq_getElem?_getD,List.getElem?_eq_getElem hk]
 exact (hφ _ (List.getElem_mem hk)).1
theorem fold_at {A B P x y:Int} {H:Nat} (hz:foldE A B P H=0) (q:-8388608≤x∧x≤8388608∧-8388608≤y∧y≤8388608):FoldAt A B P x y∧Bd 20 H:=by
 obtain ⟨a,b,p1,p2,hH⟩:=fold_zero hz
 exact ⟨⟨a,b,⟨p1,p2⟩,⟨q.1,q.2.1⟩,q.2.2⟩,Ieee.Format.Ht.bd (htE_one hH)⟩
def foldsF (L:List FoR) (x y:Int) (v:Nat):Nat:=sumF (fun r=>liftF r.H (foldK r.A r.B r.P x y) r.P) v L
set_option maxRecDepth 100000 in
set_option maxHeartbeats 1000000 in
theorem foldsfn_any (L:List FoR) (a:Option Addr) (cap:Nat) (x y:Int) (v pl pv:Nat) (w:World) (hr:FoRow w a L) (hn:L.length≤100) (hpl:Blk w pl #[.slice a L.length cap] 119)
  (hpv:Blk w pv #[.func (.func 117) #[] #[]] 145) (hat:∀ r∈L,FoldAt r.A r.B r.P x y∧Bd 20 r.H) (hv:Bd 20 v) :
  Calls Tryz.prog 144 #[.int .i64 x,.int .i64 y,.float .f32 v,.pointer (some ⟨pl,0,none⟩),.pointer (some ⟨pv,0,none⟩)] w fun e w'=>e=.returned (.float .f32 (foldsF L x y v))∧Below w.heap.size w w':=by
 have q0:w.cell? ⟨pl,0,none⟩=some (.slice a L.length cap):=hpl.cell 0
 have q1:w.cell? ⟨pv,0,none⟩=some (.func (.func 117) #[] #[]):=hpv.cell 0
 have l0:=hpl.lt
 have l1:=hpv.lt
 have KL:=Lib.hid (fun i (hi:i<L.length) w=>lift_any (foAt L i).A (foAt L i).B (foAt L i).P (foAt L i).H x y w (hat _ (foAt_mem hi)).1 (hat _ (foAt_mem hi)).2)
 have KS:=Lib.hid (fun i (hi:i<L.length)=>sumF_step (φ:=fun r:FoR=>liftF r.H (foldK r.A r.B r.P x y) r.P) hv (by omega) (fun r hr=>(lift_bd (hat r hr).2 (hat r hr).1.ok).2) (⟨0,0,0,0⟩:FoR) hi)
 have H0:Hid (foldsF L x y v=sumF (fun r:FoR=>liftF r.H (foldK r.A r.B r.P x y) r.P) v (L.take L.length)):=by rw [List.take_length];exact rfl
 have Hs0:Hid (sumF (fun r:FoR=>liftF r.H (foldK r.A r.B r.P x y) r.P) v (L.take 0)=v):=rfl
 rw [H0.out]
 have HR:=Lib.hid hr.2
 clear hpl hpv hat hv hr H0
 go_enter Tryz.func144,Tryz.ntmps144
 go_wp2_with fail
 go_loopw [2,13] (fun acc i wr=>∃ k:Nat,k≤L.length∧i=.int .i64 k∧acc=.float .f32 (sumF (fun r:FoR=>liftF r.H (foldK r.A r.B r.P x y) r.P) v (L.take k))∧Below w.heap.size w wr) (fun _ i _=>L.length-(intOf i).toNat)
 case atStart=>exact ⟨0,by omega,rfl,by rw [Hs0.out],qBl⟩
 case round =>
  obtain ⟨k,hk,rfl,rfl,B⟩:=hrel
  have HB:=Lib.hid B
  by_cases hlt:k<L.length
  ·rcases HR.out with hnil|⟨b,o,rfl,hb,hc⟩
   ·subst hnil;exact absurd hlt (by simp)
   have KL1:=Lib.hid (KL.out k hlt)
   obtain ⟨s1,s2,s3,s4⟩:=KS.out k hlt
   have KL2:Hid (∀ w,Calls Tryz.prog 117 #[foldV (foAt L k).A (foAt L k).B (foAt L k).P (foAt L k).H,.int .i64 x,.int .i64 y] w fun e w'=>e=.returned (.float .f32 (liftF (L.getD k ⟨0,0,0,0⟩).H (foldK (L.getD k ⟨0,0,0,0⟩).A (L.getD k ⟨0,0,0,0⟩).B (L.getD k ⟨0,0,0,0⟩).P x y) (L.getD k ⟨0,0,0,0⟩).P))∧Below w.heap.size w w'):=KL1
   have k1:=fun w'=>run_float_arith (P:=Tryz.prog) w' .add 48 .f32 _ _ _ (Ieee.Format.bits_add s1 s2)
   rw [←s4] at k1
   clear s1 s2 s3 s4 KL1
   obtain ⟨h0,h1,h2,h3⟩:=hc k hlt
   have m0:=(B.cell (p:=⟨b,o+k*4,none⟩) (by simpa using hb)).trans h0
   have m1:=(B.cell (p:=⟨b,o+k*4+1,none⟩) (by simpa using hb)).trans h1
   have m2:=(B.cell (p:=⟨b,o+k*4+2,none⟩) (by simpa using hb)).trans h2
   have m3:=(B.cell (p:=⟨b,o+k*4+3,none⟩) (by simpa using hb)).trans h3
   have c0:=(B.cell (p:=⟨pl,0,none⟩) (by simpa using l0)).trans q0
   have c1:=(B.cell (p:=⟨pv,0,none⟩) (by simpa using l1)).trans q1
   have hz:=B.size
   have l3:pl<wr.heap.size:=by omega
   have l4:pv<wr.heap.size:=by omega
   have l5:b<wr.heap.size:=by omega
   clear h0 h1 h2 h3 hb hc B hk
   generalize hz1:sumF (fun r:FoR=>liftF r.H (foldK r.A r.B r.P x y) r.P) v (L.take (k+1))=z1 at *
   have HZ1:=Lib.hid hz1
   clear hz1
   generalize sumF (fun r:FoR=>liftF r.H (foldK r.A r.B r.P x y) r.P) v (L.take k)=z0 at *
   generalize liftF (L.getD k ⟨0,0,0,0⟩).H (foldK (L.getD k ⟨0,0,0,0⟩).A (L.getD k ⟨0,0,0,0⟩).B (L.getD k ⟨0,0,0,0⟩).P x y) (L.getD k ⟨0,0,0,0⟩).P=z2 at *
   generalize (foAt L k).A=A at *
   generalize (foAt L k).B=B at *
   generalize (foAt L k).P=P at *
   generalize (foAt L k).H=H at *
   go_wp2_with fail
   have B1:Below wr.heap.size wr (wr.alloc (.cells #[.int .i64 A,.int .i64 B,.int .i64 P,.float .f32 H] 100)):=qBl
   exact qx59
  ·obtain rfl:k=L.length:=by omega
   go_wp2_with fail
   go_ret
   exact ⟨rfl,HB.out⟩
theorem box_f2 (w:World) (X Y W H:Int) (v:Value) (c1:Array Value) (t1:TypeId) (c2:Array Value) (t2:TypeId):∀ W0,W0=(((w.alloc (.cells #[.int .i64 X,.int .i64 Y,.int .i64 W,.int .i64 H,v] 32)).alloc (.cells c1 t1)).alloc (.cells c2 t2)).alloc (.cells #[.int .i64 0,.int .i64 0,.int .i64 0,.int .i64 0,.slice none 0 0] 32) →
  Fld W0 w.heap.size X Y W H v∧Blk W0 (w.heap.size+1) c1 t1∧Blk W0 (w.heap.size+1+1) c2 t2∧Fld W0 (w.heap.size+1+1+1) 0 0 0 0 (.slice none 0 0)∧Below w.heap.size w W0:=by
 exact qx27
abbrev foE (r:FoR):Int:=foldE r.A r.B r.P r.H
set_option maxRecDepth 100000 in
set_option maxHeartbeats 1000000 in
theorem addall_ok (X Y:Int) (Wn Hn:Nat) (b o c:Nat) (l:List Nat) (L:List FoR) (a:Option Addr) (cap:Nat) (w:World) (hl:SRow w (some ⟨b,o,none⟩) l) (hr:Right X Y Wn Hn l) (hR:FoRow w a L) (hn:L.length≤100)
  (hz:∀ i,i<L.length→foE (foAt L i)=0) (S:List Nat) (C:Int)
  (KA:Hid (∀ pl pv W',SRow W' (some ⟨b,o,none⟩) l→FoRow W' a L→Blk W' pl #[.slice a L.length cap] 119→Blk W' pv #[.func (.func 117) #[] #[]] 145 →
   Calls Tryz.prog 111 #[fldV X Y Wn Hn (some ⟨b,o,none⟩) l.length c,.func (.func 144) #[] #[.pointer (some ⟨pl,0,none⟩),.pointer (some ⟨pv,0,none⟩)]] W' fun e w'=>OpP C X Y Wn Hn S W' e w')) :
  Calls Tryz.prog 116 #[fldV X Y Wn Hn (some ⟨b,o,none⟩) l.length c,.slice a L.length cap,.func (.func 60) #[] #[],.func (.func 117) #[] #[]] w fun e w'=>OpP C X Y Wn Hn S w e w':=by
 have K:=Lib.hid (fun w h=>check_field X Y Wn Hn (some ⟨b,o,none⟩) c l w h)
 rw [hr.chk] at K
 have HL:=Lib.hid hl
 have HR:=Lib.hid hR
 have HRH:=Lib.hid hR.1.2
 have HZ:=Lib.hid hz
 clear hl hr hR hz
 go_enter Tryz.func116,Tryz.ntmps116
 go_wp2_with fail
 generalize hW0:(((w.alloc (.cells #[.int .i64 X,.int .i64 Y,.int .i64 Wn,.int .i64 Hn,.slice (some ⟨b,o,none⟩) l.length c] 32)).alloc (.cells #[.slice a L.length cap] 119)).alloc (.cells #[.func (.func 117) #[] #[]] 145)).alloc (.cells #[.int .i64 0,.int .i64 0,.int .i64 0,.int .i64 0,.slice none 0 0] 32)=W0 at *
 obtain ⟨E0,P0,Q0,F0,B0⟩:=box_f2 w X Y Wn Hn (.slice (some ⟨b,o,none⟩) l.length c) #[.slice a L.length cap] 119 #[.func (.func 117) #[] #[]] 145 W0 hW0.symm
 clear hW0
 refine (K.out _ (HL.out.below B0)).mono ?_
 rintro e w1 ⟨rfl,b1⟩
 have HE1:=Lib.hid (E0.below b1 E0.lt)
 have HP1:=Lib.hid (P0.below b1 P0.lt)
 have HQ1:=Lib.hid (Q0.below b1 Q0.lt)
 have HF1:=Lib.hid (F0.below b1 F0.lt)
 have HL1:=Lib.hid ((HL.out.below B0).below b1)
 have HR1:=Lib.hid ((HR.out.below B0).below b1)
 have HB1:=Lib.hid (B0.trans (b1.mono B0.size))
 clear b1 B0 F0 E0 P0 Q0 K HL HR
 have p0:w1.cell? ⟨w.heap.size+1,0,none⟩=some (.slice a L.length cap):=HP1.out.cell 0
 have l3:w.heap.size+1+1+1<w1.heap.size:=HF1.out.lt
 have l2:w.heap.size+1+1<w1.heap.size:=by omega
 have l1:w.heap.size+1<w1.heap.size:=by omega
 have l0:w.heap.size<w1.heap.size:=by omega
 have g1:¬ (100:Int)<L.length:=by omega
 go_wp2_with fail
 go_loopw [26] (fun i wr=>∃ k:Nat,k≤L.length∧i=.int .i64 k∧Below w1.heap.size w1 wr) (fun i _=>L.length-(intOf i).toNat)
 case atStart=>exact ⟨0,by omega,rfl,qBl⟩
 case round =>
  obtain ⟨k,hk,rfl,B⟩:=hrel
  have HB:=Lib.hid B
  by_cases hkj:k<L.length
  ·have hlt:k<L.length:=by omega
   rcases HR1.out.2 with hnil|⟨g,og,rfl,hg,hc⟩
   ·subst hnil;exact absurd hlt (by simp)
   obtain ⟨h0,h1,h2,h3⟩:=hc k hlt
   have m0:=(B.cell (p:=⟨g,og+k*4,none⟩) (by simpa using hg)).trans h0
   have m1:=(B.cell (p:=⟨g,og+k*4+1,none⟩) (by simpa using hg)).trans h1
   have m2:=(B.cell (p:=⟨g,og+k*4+2,none⟩) (by simpa using hg)).trans h2
   have m3:=(B.cell (p:=⟨g,og+k*4+3,none⟩) (by simpa using hg)).trans h3
   have hz:=B.size
   have KC1:=Lib.hid (fun w=>check_fold (foAt L k).A (foAt L k).B (foAt L k).P (foAt L k).H w (HRH.out _ (foAt_mem hlt)))
   have hf:=HF1.out.below B HF1.out.lt
   have hfl:=hf.lt
   have l5:g<wr.heap.size:=by omega
   clear h0 h1 h2 h3 hg hc
   have hz0:=HZ.out k hkj
   change Hid (∀ w,Calls Tryz.prog 60 #[foldV (foAt L k).A (foAt L k).B (foAt L k).P (foAt L k).H] w fun e w'=>e=.returned (.int .i64 (foE (foAt L k)))∧Below w.heap.size w w') at KC1
   rw [hz0] at KC1
   clear hz0 hf hfl B
   generalize (foAt L k).A=A at *
   generalize (foAt L k).B=B at *
   generalize (foAt L k).P=P at *
   generalize (foAt L k).H=H at *
   go_wp2_with fail
   have B1:Below wr.heap.size wr (wr.alloc (.cells #[.int .i64 A,.int .i64 B,.int .i64 P,.float .f32 H] 100)):=qBl
   exact qx60
  ·obtain rfl:k=L.length:=by omega
   have HE2:=Lib.hid (HE1.out.below B HE1.out.lt)
   have HP2:=Lib.hid (HP1.out.below B HP1.out.lt)
   have HQ2:=Lib.hid (HQ1.out.below B HQ1.out.lt)
   have HF2:=Lib.hid (HF1.out.below B HF1.out.lt)
   have HL2:=Lib.hid (HL1.out.below B)
   have HR2:=Lib.hid (HR1.out.below B)
   have HB2:=Lib.hid (HB1.out.trans (B.mono HB1.out.size))
   obtain ⟨c0,c1,c2,c3,c4⟩:=HE2.out.cells
   have l8:=HE2.out.lt
   clear B p0 HE1 HP1 HQ1 HF1 HL1 HR1 HB1 HB HZ HRH l0 l1 l2 l3
   go_wp2_with fail
   refine (KA.out _ _ _ HL2.out HR2.out HP2.out HQ2.out).mono ?_
   rintro e w7 ⟨⟨x,y,p,q,aa,m,kk,rfl,o7⟩,b7⟩
   have HOZ:=Lib.hid o7
   have HFZ:=Lib.hid (HF2.out.below b7 HF2.out.lt)
   have HBZ:=Lib.hid (HB2.out.trans (b7.mono HB2.out.size))
   have HZB:Hid (w.heap.size+1+1+1<wr.heap.size):=HF2.out.lt
   have HBB:Hid (w.heap.size≤wr.heap.size):=HB2.out.size
   clear o7 b7 KA HE2 HP2 HQ2 HF2 HL2 HR2 HB2 c0 c1 c2 c3 c4 l8
   generalize a=a0 at *
   generalize aa=a at *
   generalize kk=k at *
   obtain ⟨d0,d1,d2,d3,d4⟩:=HFZ.out.cells
   have qf0:=HFZ.out.frozen 0
   have qf1:=HFZ.out.frozen 1
   have qf2:=HFZ.out.frozen 2
   have qf3:=HFZ.out.frozen 3
   have qf4:=HFZ.out.frozen 4
   have lz:=HFZ.out.lt
   go_wp2_with fail
   generalize hW5:((((w7.setCell ⟨w.heap.size+1+1+1,0,none⟩ (.int .i64 x)).setCell ⟨w.heap.size+1+1+1,1,none⟩ (.int .i64 y)).setCell ⟨w.heap.size+1+1+1,2,none⟩ (.int .i64 p)).setCell ⟨w.heap.size+1+1+1,3,none⟩ (.int .i64 q)).setCell ⟨w.heap.size+1+1+1,4,none⟩ (.slice a m k)=W5 at *
   obtain ⟨f5,bb5,oo5,_,z5⟩:=fld_store w7 (w.heap.size+1+1+1) 0 0 0 0 _ x y p q (.slice a m k) HFZ.out W5 hW5.symm
   have hO5:=(HOZ.out.set oo5 HZB.out).base HBB.out
   have hB5:=HBZ.out.trans (bb5.mono (by omega))
   clear d0 d1 d2 d3 d4 qf0 qf1 qf2 qf3 qf4 hW5 oo5
   obtain ⟨d0,d1,d2,d3,d4⟩:=f5.cells
   exact bodyPost_ret (v:=.tuple #[fldV x y p q a m k,.int .i64 C]) (by simp [results,Tryz.results116,go_sem, *]) rfl ⟨⟨x,y,p,q,a,m,k,rfl,hO5⟩,hB5⟩
theorem foldsF_lt (L:List FoR) (x y:Int) (v:Nat) (h:v<4294967296):foldsF L x y v<4294967296:=sumF_lt _ _ h
theorem folds_at {L:List FoR} (hz:∀ i,i<L.length→foE (foAt L i)=0) {X Y x y:Int} {Wn Hn:Nat} {l:List Nat} (hr:Right X Y Wn Hn l) (h1:X≤x) (h2:x<X+Wn) (h3:Y≤y) (h4:y<Y+Hn):∀ r∈L,FoldAt r.A r.B r.P x y∧Bd 20 r.H:=by
 intro r hm
 obtain ⟨i,hi,rfl⟩:=List.getElem_of_mem hm
 have e:foAt L i=L[i]:=by unfold foAt;rw [List.getD_eq_getElem?_getD,List.getElem?_eq_getElem hi];rfl
 have:=hz i hi
 rw [e] at this
 have g1:=hr.w2;have g2:=hr.h2;have g3:=hr.x1;have g4:=hr.x2;have g5:=hr.y1;have g6:=hr.y2
 exact fold_at this (by omega)
set_option maxRecDepth 100000 in
theorem folds_op (X Y:Int) (Wn Hn:Nat) (b o c:Nat) (l:List Nat) (L:List FoR) (a0:Option Addr) (cap:Nat) (w:World) (C X1 Y1 W1 H1:Int) (S:List Nat)
  (K:Hid (∀ W',Below w.heap.size w W'→Calls Tryz.prog 116 #[fldV X Y Wn Hn (some ⟨b,o,none⟩) l.length c,.slice a0 L.length cap,.func (.func 60) #[] #[],.func (.func 117) #[] #[]] W' fun e w'=>OpP C X1 Y1 W1 H1 S W' e w')) :
  Calls Tryz.prog 77 #[fldV X Y Wn Hn (some ⟨b,o,none⟩) l.length c,.slice a0 L.length cap] w fun e w'=>OpP C X1 Y1 W1 H1 S w e w':=by
 go_enter Tryz.func77,Tryz.ntmps77
 go_wp2_with fail
 generalize hW0:(w.alloc (.cells #[.int .i64 X,.int .i64 Y,.int .i64 Wn,.int .i64 Hn,.slice (some ⟨b,o,none⟩) l.length c] 32)).alloc (.cells #[.int .i64 0,.int .i64 0,.int .i64 0,.int .i64 0,.slice none 0 0] 32)=W0 at *
 obtain ⟨E0,F0,B0,z0⟩:=two_fields w X Y Wn Hn (.slice (some ⟨b,o,none⟩) l.length c) W0 hW0.symm
 clear hW0
 refine (K.out _ B0).mono ?_
 rintro e w7 ⟨⟨x,y,p,q,a,m,k,rfl,o7⟩,b7⟩
 have HOZ:=Lib.hid o7
 have HFZ:=Lib.hid (F0.below b7 F0.lt)
 have HBZ:=Lib.hid (B0.trans (b7.mono B0.size))
 have HZB:Hid (w.heap.size+1<W0.heap.size):=F0.lt
 have HBB:Hid (w.heap.size≤W0.heap.size):=B0.size
 clear o7 b7 K E0 F0 B0 z0
 obtain ⟨d0,d1,d2,d3,d4⟩:=HFZ.out.cells
 have qf0:=HFZ.out.frozen 0
 have qf1:=HFZ.out.frozen 1
 have qf2:=HFZ.out.frozen 2
 have qf3:=HFZ.out.frozen 3
 have qf4:=HFZ.out.frozen 4
 have lz:=HFZ.out.lt
 go_wp2_with fail
 generalize hW5:((((w7.setCell ⟨w.heap.size+1,0,none⟩ (.int .i64 x)).setCell ⟨w.heap.size+1,1,none⟩ (.int .i64 y)).setCell ⟨w.heap.size+1,2,none⟩ (.int .i64 p)).setCell ⟨w.heap.size+1,3,none⟩ (.int .i64 q)).setCell ⟨w.heap.size+1,4,none⟩ (.slice a m k)=W5 at *
 obtain ⟨f5,bb5,oo5,_,z5⟩:=fld_store w7 (w.heap.size+1) 0 0 0 0 _ x y p q (.slice a m k) HFZ.out W5 hW5.symm
 have hO5:=(HOZ.out.set oo5 HZB.out).base HBB.out
 have hB5:=HBZ.out.trans (bb5.mono (by omega))
 clear d0 d1 d2 d3 d4 qf0 qf1 qf2 qf3 qf4 hW5 oo5
 obtain ⟨d0,d1,d2,d3,d4⟩:=f5.cells
 exact bodyPost_ret (v:=.tuple #[fldV x y p q a m k,.int .i64 C]) (by simp [results,Tryz.results77,go_sem, *]) rfl ⟨⟨x,y,p,q,a,m,k,rfl,hO5⟩,hB5⟩
open Ieee.Format (const_1 negF)
structure FaultAt (A B C W x y:Int):Prop where
 a:-1000≤A∧A≤1000
 b:-1000≤B∧B≤1000
 c:-1099511627776≤C∧C≤1099511627776
 w:0≤W∧W≤4096
 n:A≠0∨B≠0
 x:-8388608≤x∧x≤8388608
 y:-8388608≤y∧y≤8388608
def faultK (A B C x y:Int):Int:=A*x+B*y+C
def faultS (A B:Int):Int:=A*A+B*B
theorem sq_ab {A B:Int} (a:-1000≤A∧A≤1000) (b:-1000≤B∧B≤1000) (n:A≠0∨B≠0):(0≤A*A∧A*A≤1000000)∧(0≤B*B∧B*B≤1000000)∧1≤A*A+B*B:=by
 have h1:=sq_int A 1000 a.1 a.2
 have h2:=sq_int B 1000 b.1 b.2
 refine ⟨by omega,by omega,?_⟩
 rcases n with n|n
 ·have:=sq_pos n;omega
 ·have:=sq_pos n;omega
theorem FaultAt.ok {A B C W x y:Int} (h:FaultAt A B C W x y):FltOk (faultK A B C x y) (faultS A B) W:=by
 obtain ⟨a1,a2⟩:=mul_bd h.a h.x
 obtain ⟨b1,b2⟩:=mul_bd h.b h.y
 obtain ⟨s1,s2,s3⟩:=sq_ab h.a h.b h.n
 have c:=h.c
 have w:=h.w
 unfold faultK faultS
 exact flt_ok (by omega) (by omega) s3 (by omega) w.1 w.2
set_option maxRecDepth 100000 in
set_option maxHeartbeats 2000000 in
theorem throw_any (A B C W:Int) (T:Nat) (x y:Int) (w:World) (h:FaultAt A B C W x y) (hT:Bd 20 T) :
    Calls Tryz.prog 115 #[faultV A B C W T,.int .i64 x,.int .i64 y] w fun e w'=>e=.returned (.float .f32 (throwF T (faultK A B C x y) (faultS A B) W))∧Below w.heap.size w w':=by
  have w0:=h.w
  have c0:=h.c
  obtain ⟨a1,a2⟩:=mul_bd h.a h.x
  obtain ⟨b1,b2⟩:=mul_bd h.b h.y
  obtain ⟨s1,s2,s3⟩:=sq_ab h.a h.b h.n
  have hk:=h.ok
  unfold faultK faultS at *
  clear h
  generalize hax:A*x=ax at *
  generalize hby:B*y=bi at *
  generalize hsa:A*A=sa at *
  generalize hsb:B*B=sb at *
  have k9:-1099528404992-16777216000≤ax+bi+C:=by omega
  have k8:ax+bi+C≤1099528404992+16777216000:=by omega
  have KR:=Lib.hid (fun w=>root_any (cv (sa+sb)) hk.b hk.b0 w)
  have k1:=fun w'=>run_float_arith (P:=Tryz.prog) w' .quo 48 .f32 (cv (ax+bi+C)) (rootF (cv (sa+sb))) (fltD (ax+bi+C) (sa+sb)) (Ieee.Format.bits_div hk.a hk.c hk.c0)
  by_cases hW:W=0
  · subst hW
    have n1:=fun w'=>run_neg Tryz.prog (cv 0) w'
    by_cases hkn:0≤ax+bi+C
    · have e:throwF T (ax+bi+C) (sa+sb) 0=T:=by
        unfold throwF fltUp
        rw [if_pos rfl,decide_eq_true hkn,if_pos rfl]
      rw [e]
      have g:=hk.z rfl hkn
      change (FloatKind.f32.format.order (fltD (ax+bi+C) (sa+sb)) (cv 0) == some .gt || FloatKind.f32.format.order (fltD (ax+bi+C) (sa+sb)) (cv 0) == some .eq)=true at g
      generalize negF (cv 0)=zn at *
      exact qx13
    · have g:=hk.n rfl (by omega)
      have e:throwF T (ax+bi+C) (sa+sb) 0=0:=by
        unfold throwF fltUp fltLo
        rw [if_pos rfl,decide_eq_false hkn,if_neg (by decide),g,if_pos rfl]
      rw [e]
      change (FloatKind.f32.format.order (fltD (ax+bi+C) (sa+sb)) (negF (cv 0)) == some .lt || FloatKind.f32.format.order (fltD (ax+bi+C) (sa+sb)) (negF (cv 0)) == some .eq)=true at g
      have hkm:ax+bi+C<0:=by omega
      clear hkn
      generalize negF (cv 0)=zn at *
      cases g2:geB (fltD (ax+bi+C) (sa+sb)) (cv 0) with
      | true =>
        change (FloatKind.f32.format.order (fltD (ax+bi+C) (sa+sb)) (cv 0) == some .gt || FloatKind.f32.format.order (fltD (ax+bi+C) (sa+sb)) (cv 0) == some .eq)=true at g2
        exact qx13
      | false =>
        change (FloatKind.f32.format.order (fltD (ax+bi+C) (sa+sb)) (cv 0) == some .gt || FloatKind.f32.format.order (fltD (ax+bi+C) (sa+sb)) (cv 0) == some .eq)=false at g2
        exact qx13
  · have n1:=fun w'=>run_neg Tryz.prog (cv W) w'
    have hWp:0<W:=by omega
    cases g:geB (fltD (ax+bi+C) (sa+sb)) (cv W) with
    | true =>
      have e:throwF T (ax+bi+C) (sa+sb) W=T:=by
        unfold throwF fltUp
        rw [if_neg hW,g,if_pos rfl]
      rw [e]
      change (FloatKind.f32.format.order (fltD (ax+bi+C) (sa+sb)) (cv W) == some .gt || FloatKind.f32.format.order (fltD (ax+bi+C) (sa+sb)) (cv W) == some .eq)=true at g
      clear hW
      generalize negF (cv W)=zn at *
      clear hk hT
      generalize fltD (ax+bi+C) (sa+sb)=zd at *
      generalize rootF (cv (sa+sb))=zr at *
      generalize hzk:cv (ax+bi+C)=zk at *
      generalize hzs:cv (sa+sb)=zs at *
      change floatOfInt .f32 (ax+bi+C)=zk at hzk
      change floatOfInt .f32 (sa+sb)=zs at hzs
      generalize hzw:cv W=zw at *
      change floatOfInt .f32 W=zw at hzw
      go_enter Tryz.func115,Tryz.ntmps115
      go_wp2_with fail
      generalize hW0:w.alloc (.cells #[.int .i64 A,.int .i64 B,.int .i64 C,.int .i64 W,.float .f32 T] 96)=W0 at *
      have HK0:Hid (Blk W0 w.heap.size #[.int .i64 A,.int .i64 B,.int .i64 C,.int .i64 W,.float .f32 T] 96):=by subst hW0;exact Blk.new _ _ _
      have HB0:Hid (Below w.heap.size w W0):=Lib.hid (by subst hW0;exact qBl)
      clear hW0
      have t3:W0.cell? ⟨w.heap.size,3,none⟩=some (.int .i64 W):=HK0.out.cell 3
      exact qx21
    | false =>
      have eu:fltUp (ax+bi+C) (sa+sb) W=false:=by unfold fltUp;rw [if_neg hW,g]
      cases g2:leB (fltD (ax+bi+C) (sa+sb)) (negF (cv W)) with
      | true =>
        have e:throwF T (ax+bi+C) (sa+sb) W=0:=by
          unfold throwF fltLo
          rw [eu,if_neg (by decide),g2,if_pos rfl]
        rw [e]
        change (FloatKind.f32.format.order (fltD (ax+bi+C) (sa+sb)) (cv W) == some .gt || FloatKind.f32.format.order (fltD (ax+bi+C) (sa+sb)) (cv W) == some .eq)=false at g
        change (FloatKind.f32.format.order (fltD (ax+bi+C) (sa+sb)) (negF (cv W)) == some .lt || FloatKind.f32.format.order (fltD (ax+bi+C) (sa+sb)) (negF (cv W)) == some .eq)=true at g2
        clear hW eu
        generalize negF (cv W)=zn at *
        clear hk hT
        generalize fltD (ax+bi+C) (sa+sb)=zd at *
        generalize rootF (cv (sa+sb))=zr at *
        generalize hzk:cv (ax+bi+C)=zk at *
        generalize hzs:cv (sa+sb)=zs at *
        change floatOfInt .f32 (ax+bi+C)=zk at hzk
        change floatOfInt .f32 (sa+sb)=zs at hzs
        generalize hzw:cv W=zw at *
        change floatOfInt .f32 W=zw at hzw
        go_enter Tryz.func115,Tryz.ntmps115
        go_wp2_with fail
        generalize hW0:w.alloc (.cells #[.int .i64 A,.int .i64 B,.int .i64 C,.int .i64 W,.float .f32 T] 96)=W0 at *
        have HK0:Hid (Blk W0 w.heap.size #[.int .i64 A,.int .i64 B,.int .i64 C,.int .i64 W,.float .f32 T] 96):=by subst hW0;exact Blk.new _ _ _
        have HB0:Hid (Below w.heap.size w W0):=Lib.hid (by subst hW0;exact qBl)
        clear hW0
        have t3:W0.cell? ⟨w.heap.size,3,none⟩=some (.int .i64 W):=HK0.out.cell 3
        exact qx21
      | false =>
        obtain ⟨f1,f2,f3,f4⟩:=hk.e eu (by unfold fltLo;exact g2)
        have e:throwF T (ax+bi+C) (sa+sb) W=mulF T (easeF (fltT (ax+bi+C) (sa+sb) W)):=by
          unfold throwF fltLo
          rw [eu,if_neg (by decide),g2,if_neg (by decide)]
        rw [e]
        obtain ⟨_,_,_,f5,_,_⟩:=Ieee.Format.ease_ok f4.1 f4.2.1 f4.2.2
        have KE:=Lib.hid (fun w=>shapeease_any (fltT (ax+bi+C) (sa+sb) W) (Ieee.Format.divF_lt _ _) f4 w)
        have k2:=fun w'=>run_float_arith (P:=Tryz.prog) w' .add 48 .f32 (fltD (ax+bi+C) (sa+sb)) (cv W) (fltA (ax+bi+C) (sa+sb) W) (Ieee.Format.bits_add hk.d hk.w)
        have k3:=fun w'=>run_float_arith (P:=Tryz.prog) w' .mul 48 .f32 (cv W) 1073741824 (fltB W) (Ieee.Format.bits_mul hk.w Ieee.Format.const_2.1)
        have k4:=fun w'=>run_float_arith (P:=Tryz.prog) w' .quo 48 .f32 (fltA (ax+bi+C) (sa+sb) W) (fltB W) (fltT (ax+bi+C) (sa+sb) W) (Ieee.Format.bits_div f1 f2 f3)
        have k5:=fun w'=>run_float_arith (P:=Tryz.prog) w' .mul 48 .f32 T (easeF (fltT (ax+bi+C) (sa+sb) W)) (mulF T (easeF (fltT (ax+bi+C) (sa+sb) W))) (Ieee.Format.bits_mul hT.1 f5)
        change (FloatKind.f32.format.order (fltD (ax+bi+C) (sa+sb)) (cv W) == some .gt || FloatKind.f32.format.order (fltD (ax+bi+C) (sa+sb)) (cv W) == some .eq)=false at g
        change (FloatKind.f32.format.order (fltD (ax+bi+C) (sa+sb)) (negF (cv W)) == some .lt || FloatKind.f32.format.order (fltD (ax+bi+C) (sa+sb)) (negF (cv W)) == some .eq)=false at g2
        clear hW eu f1 f2 f3 f4 f5 e
        generalize mulF T (easeF (fltT (ax+bi+C) (sa+sb) W))=z at *
        generalize easeF (fltT (ax+bi+C) (sa+sb) W)=z7 at *
        generalize fltT (ax+bi+C) (sa+sb) W=z6 at *
        generalize fltA (ax+bi+C) (sa+sb) W=z5 at *
        generalize fltB W=z4 at *
        generalize negF (cv W)=zn at *
        clear hk hT
        generalize fltD (ax+bi+C) (sa+sb)=zd at *
        generalize rootF (cv (sa+sb))=zr at *
        generalize hzk:cv (ax+bi+C)=zk at *
        generalize hzs:cv (sa+sb)=zs at *
        change floatOfInt .f32 (ax+bi+C)=zk at hzk
        change floatOfInt .f32 (sa+sb)=zs at hzs
        generalize hzw:cv W=zw at *
        change floatOfInt .f32 W=zw at hzw
        go_enter Tryz.func115,Tryz.ntmps115
        go_wp2_with fail
        generalize hW0:w.alloc (.cells #[.int .i64 A,.int .i64 B,.int .i64 C,.int .i64 W,.float .f32 T] 96)=W0 at *
        have HK0:Hid (Blk W0 w.heap.size #[.int .i64 A,.int .i64 B,.int .i64 C,.int .i64 W,.float .f32 T] 96):=by subst hW0;exact Blk.new _ _ _
        have HB0:Hid (Below w.heap.size w W0):=Lib.hid (by subst hW0;exact qBl)
        clear hW0
        have t3:W0.cell? ⟨w.heap.size,3,none⟩=some (.int .i64 W):=HK0.out.cell 3
        have t0:W0.cell? ⟨w.heap.size,0,none⟩=some (.int .i64 A):=HK0.out.cell 0
        have t1:W0.cell? ⟨w.heap.size,1,none⟩=some (.int .i64 B):=HK0.out.cell 1
        have t2:W0.cell? ⟨w.heap.size,2,none⟩=some (.int .i64 C):=HK0.out.cell 2
        have t4:W0.cell? ⟨w.heap.size,4,none⟩=some (.float .f32 T):=HK0.out.cell 4
        have l0:w.heap.size<W0.heap.size:=HK0.out.lt
        refine (KR.out _).mono ?_
        rintro e w1 ⟨rfl,rfl⟩
        go_wp2_with fail
        go_region_held3 (fun w'=>w'.cell? ⟨w.heap.size,4,none⟩=some (.float .f32 T)∧Below W0.heap.size W0 w')
          (first
            | exact ⟨t4,(Below.refl _ _).drew⟩
            | (go_split_ands
               have hs:=hb.size
               have hs2:=(show Below W0.heap.size W0 _ by assumption).size
               refine ⟨?_,?_⟩
               all_goals first
                 | (rw [hb.cell (by simp;omega)];assumption)
                 | exact Below.trans (by assumption) (hb.mono (by omega)))
            | (go_split_ands;refine ⟨?_,?_⟩<;>assumption))
          (first|(go_at_call 140;go_split_ands;refine (KE.out _).mono ?_;rintro e2 w2 ⟨rfl,hb⟩))
        rename_i hHeld
        have hB:=HB0.out.trans (hHeld.2.mono HB0.out.size)
        clear hHeld
        go_wp2_with fail
        go_ret
        exact ⟨rfl,(qBo hB)⟩
structure FaR where
 A:Int
 B:Int
 C:Int
 W:Int
 T:Nat
def faAt (L:List FaR) (i:Nat):FaR:=L.getD i ⟨0,0,0,0,0⟩
theorem faAt_mem {L:List FaR} {i:Nat} (h:i<L.length):faAt L i∈L:=by
 unfold faAt
 rw [List.getD_eq_getElem?_getD,List.getElem?_eq_getElem h]
 exact List.getElem_mem h
def FaCells (w:World) (b o:Nat) (L:List FaR):Prop:=∀ i,i<L.length →
 w.cell? ⟨b,o+i*5,none⟩=some (.int .i64 (faAt L i).A)∧w.cell? ⟨b,o+i*5+1,none⟩=some (.int .i64 (faAt L i).B)∧w.cell? ⟨b,o+i*5+2,none⟩=some (.int .i64 (faAt L i).C)∧w.cell? ⟨b,o+i*5+3,none⟩=some (.int .i64 (faAt L i).W)∧w.cell? ⟨b,o+i*5+4,none⟩=some (.float .f32 (faAt L i).T)
def FaRow (w:World) (a:Option Addr) (L:List FaR):Prop:=(L.length≤9223372036854775807∧∀ r∈L,r.T<4294967296)∧(L=[]∨∃ b o,a=some ⟨b,o,none⟩∧b<w.heap.size∧FaCells w b o L)
theorem FaCells.below {w w':World} {B b o:Nat} {L:List FaR} (h:FaCells w b o L) (hb:Below B w w') (hl:b<B):FaCells w' b o L:=by
 intro i hi
 obtain ⟨h0,h1,h2,h3,h4⟩:=h i hi
 exact ⟨by rw [hb.cell (by simpa using hl)];exact h0,by rw [hb.cell (by simpa using hl)];exact h1,by rw [hb.cell (by simpa using hl)];exact h2,by rw [hb.cell (by simpa using hl)];exact h3,by rw [hb.cell (by simpa using hl)];exact h4⟩
theorem FaRow.below {w w':World} {a:Option Addr} {L:List FaR} (h:FaRow w a L) (hb:Below w.heap.size w w'):FaRow w' a L:=by
 exact qx82
theorem fault_at {A B C W x y:Int} {T:Nat} (hz:faultE A B C W T=0) (q:-8388608≤x∧x≤8388608∧-8388608≤y∧y≤8388608):FaultAt A B C W x y∧Bd 20 T:=by
 obtain ⟨a,b,c,w,n,hH⟩:=fault_zero hz
 exact ⟨⟨a,b,c,w,n,⟨q.1,q.2.1⟩,q.2.2⟩,Ieee.Format.Ht.bd (htE_one hH)⟩
def faultsF (L:List FaR) (x y:Int) (v:Nat):Nat:=sumF (fun r=>throwF r.T (faultK r.A r.B r.C x y) (faultS r.A r.B) r.W) v L
set_option maxRecDepth 100000 in
set_option maxHeartbeats 1000000 in
theorem faultsfn_any (L:List FaR) (a:Option Addr) (cap:Nat) (x y:Int) (v pl pv:Nat) (w:World) (hr:FaRow w a L) (hn:L.length≤100) (hpl:Blk w pl #[.slice a L.length cap] 117)
  (hpv:Blk w pv #[.func (.func 115) #[] #[]] 143) (hat:∀ r∈L,FaultAt r.A r.B r.C r.W x y∧Bd 20 r.T) (hv:Bd 20 v) :
  Calls Tryz.prog 143 #[.int .i64 x,.int .i64 y,.float .f32 v,.pointer (some ⟨pl,0,none⟩),.pointer (some ⟨pv,0,none⟩)] w fun e w'=>e=.returned (.float .f32 (faultsF L x y v))∧Below w.heap.size w w':=by
 have q0:w.cell? ⟨pl,0,none⟩=some (.slice a L.length cap):=hpl.cell 0
 have q1:w.cell? ⟨pv,0,none⟩=some (.func (.func 115) #[] #[]):=hpv.cell 0
 have l0:=hpl.lt
 have l1:=hpv.lt
 have KL:=Lib.hid (fun i (hi:i<L.length) w=>throw_any (faAt L i).A (faAt L i).B (faAt L i).C (faAt L i).W (faAt L i).T x y w (hat _ (faAt_mem hi)).1 (hat _ (faAt_mem hi)).2)
 have KS:=Lib.hid (fun i (hi:i<L.length)=>sumF_step (φ:=fun r:FaR=>throwF r.T (faultK r.A r.B r.C x y) (faultS r.A r.B) r.W) hv (by omega) (fun r hr=>throw_bd (hat r hr).2 (hat r hr).1.ok) (⟨0,0,0,0,0⟩:FaR) hi)
 have H0:Hid (faultsF L x y v=sumF (fun r:FaR=>throwF r.T (faultK r.A r.B r.C x y) (faultS r.A r.B) r.W) v (L.take L.length)):=by rw [List.take_length];exact rfl
 have Hs0:Hid (sumF (fun r:FaR=>throwF r.T (faultK r.A r.B r.C x y) (faultS r.A r.B) r.W) v (L.take 0)=v):=rfl
 rw [H0.out]
 have HR:=Lib.hid hr.2
 clear hpl hpv hat hv hr H0
 go_enter Tryz.func143,Tryz.ntmps143
 go_wp2_with fail
 go_loopw [2,13] (fun acc i wr=>∃ k:Nat,k≤L.length∧i=.int .i64 k∧acc=.float .f32 (sumF (fun r:FaR=>throwF r.T (faultK r.A r.B r.C x y) (faultS r.A r.B) r.W) v (L.take k))∧Below w.heap.size w wr) (fun _ i _=>L.length-(intOf i).toNat)
 case atStart=>exact ⟨0,by omega,rfl,by rw [Hs0.out],qBl⟩
 case round =>
  obtain ⟨k,hk,rfl,rfl,B⟩:=hrel
  have HB:=Lib.hid B
  by_cases hlt:k<L.length
  ·rcases HR.out with hnil|⟨b,o,rfl,hb,hc⟩
   ·subst hnil;exact absurd hlt (by simp)
   have KL1:=Lib.hid (KL.out k hlt)
   obtain ⟨s1,s2,s3,s4⟩:=KS.out k hlt
   have KL2:Hid (∀ w,Calls Tryz.prog 115 #[faultV (faAt L k).A (faAt L k).B (faAt L k).C (faAt L k).W (faAt L k).T,.int .i64 x,.int .i64 y] w fun e w'=>e=.returned (.float .f32 (throwF (L.getD k ⟨0,0,0,0,0⟩).T (faultK (L.getD k ⟨0,0,0,0,0⟩).A (L.getD k ⟨0,0,0,0,0⟩).B (L.getD k ⟨0,0,0,0,0⟩).C x y) (faultS (L.getD k ⟨0,0,0,0,0⟩).A (L.getD k ⟨0,0,0,0,0⟩).B) (L.getD k ⟨0,0,0,0,0⟩).W))∧Below w.heap.size w w'):=KL1
   have k1:=fun w'=>run_float_arith (P:=Tryz.prog) w' .add 48 .f32 _ _ _ (Ieee.Format.bits_add s1 s2)
   rw [←s4] at k1
   clear s1 s2 s3 s4 KL1
   obtain ⟨h0,h1,h2,h3,h4⟩:=hc k hlt
   have m0:=(B.cell (p:=⟨b,o+k*5,none⟩) (by simpa using hb)).trans h0
   have m1:=(B.cell (p:=⟨b,o+k*5+1,none⟩) (by simpa using hb)).trans h1
   have m2:=(B.cell (p:=⟨b,o+k*5+2,none⟩) (by simpa using hb)).trans h2
   have m3:=(B.cell (p:=⟨b,o+k*5+3,none⟩) (by simpa using hb)).trans h3
   have m4:=(B.cell (p:=⟨b,o+k*5+4,none⟩) (by simpa using hb)).trans h4
   have c0:=(B.cell (p:=⟨pl,0,none⟩) (by simpa using l0)).trans q0
   have c1:=(B.cell (p:=⟨pv,0,none⟩) (by simpa using l1)).trans q1
   have hz:=B.size
   have l3:pl<wr.heap.size:=by omega
   have l4:pv<wr.heap.size:=by omega
   have l5:b<wr.heap.size:=by omega
   clear h0 h1 h2 h3 h4 hb hc B hk
   generalize hz1:sumF (fun r:FaR=>throwF r.T (faultK r.A r.B r.C x y) (faultS r.A r.B) r.W) v (L.take (k+1))=z1 at *
   have HZ1:=Lib.hid hz1
   clear hz1
   generalize sumF (fun r:FaR=>throwF r.T (faultK r.A r.B r.C x y) (faultS r.A r.B) r.W) v (L.take k)=z0 at *
   generalize throwF (L.getD k ⟨0,0,0,0,0⟩).T (faultK (L.getD k ⟨0,0,0,0,0⟩).A (L.getD k ⟨0,0,0,0,0⟩).B (L.getD k ⟨0,0,0,0,0⟩).C x y) (faultS (L.getD k ⟨0,0,0,0,0⟩).A (L.getD k ⟨0,0,0,0,0⟩).B) (L.getD k ⟨0,0,0,0,0⟩).W=z2 at *
   generalize (faAt L k).A=fA at *
   generalize (faAt L k).B=fB at *
   generalize (faAt L k).C=fC at *
   generalize (faAt L k).W=fW at *
   generalize (faAt L k).T=fT at *
   go_wp2_with fail
   have B1:Below wr.heap.size wr (wr.alloc (.cells #[.int .i64 fA,.int .i64 fB,.int .i64 fC,.int .i64 fW,.float .f32 fT] 96)):=qBl
   exact qx59
  ·obtain rfl:k=L.length:=by omega
   go_wp2_with fail
   go_ret
   exact ⟨rfl,HB.out⟩
abbrev faE (r:FaR):Int:=faultE r.A r.B r.C r.W r.T
set_option maxRecDepth 100000 in
set_option maxHeartbeats 1000000 in
theorem addflt_ok (X Y:Int) (Wn Hn:Nat) (b o c:Nat) (l:List Nat) (L:List FaR) (a:Option Addr) (cap:Nat) (w:World) (hl:SRow w (some ⟨b,o,none⟩) l) (hr:Right X Y Wn Hn l) (hR:FaRow w a L) (hn:L.length≤100)
  (hz:∀ i,i<L.length→faE (faAt L i)=0) (S:List Nat) (C:Int)
  (KA:Hid (∀ pl pv W',SRow W' (some ⟨b,o,none⟩) l→FaRow W' a L→Blk W' pl #[.slice a L.length cap] 117→Blk W' pv #[.func (.func 115) #[] #[]] 143 →
   Calls Tryz.prog 111 #[fldV X Y Wn Hn (some ⟨b,o,none⟩) l.length c,.func (.func 143) #[] #[.pointer (some ⟨pl,0,none⟩),.pointer (some ⟨pv,0,none⟩)]] W' fun e w'=>OpP C X Y Wn Hn S W' e w')) :
  Calls Tryz.prog 114 #[fldV X Y Wn Hn (some ⟨b,o,none⟩) l.length c,.slice a L.length cap,.func (.func 58) #[] #[],.func (.func 115) #[] #[]] w fun e w'=>OpP C X Y Wn Hn S w e w':=by
 have K:=Lib.hid (fun w h=>check_field X Y Wn Hn (some ⟨b,o,none⟩) c l w h)
 rw [hr.chk] at K
 have HL:=Lib.hid hl
 have HR:=Lib.hid hR
 have HRH:=Lib.hid hR.1.2
 have HZ:=Lib.hid hz
 clear hl hr hR hz
 go_enter Tryz.func114,Tryz.ntmps114
 go_wp2_with fail
 generalize hW0:(((w.alloc (.cells #[.int .i64 X,.int .i64 Y,.int .i64 Wn,.int .i64 Hn,.slice (some ⟨b,o,none⟩) l.length c] 32)).alloc (.cells #[.slice a L.length cap] 117)).alloc (.cells #[.func (.func 115) #[] #[]] 143)).alloc (.cells #[.int .i64 0,.int .i64 0,.int .i64 0,.int .i64 0,.slice none 0 0] 32)=W0 at *
 obtain ⟨E0,P0,Q0,F0,B0⟩:=box_f2 w X Y Wn Hn (.slice (some ⟨b,o,none⟩) l.length c) #[.slice a L.length cap] 117 #[.func (.func 115) #[] #[]] 143 W0 hW0.symm
 clear hW0
 refine (K.out _ (HL.out.below B0)).mono ?_
 rintro e w1 ⟨rfl,b1⟩
 have HE1:=Lib.hid (E0.below b1 E0.lt)
 have HP1:=Lib.hid (P0.below b1 P0.lt)
 have HQ1:=Lib.hid (Q0.below b1 Q0.lt)
 have HF1:=Lib.hid (F0.below b1 F0.lt)
 have HL1:=Lib.hid ((HL.out.below B0).below b1)
 have HR1:=Lib.hid ((HR.out.below B0).below b1)
 have HB1:=Lib.hid (B0.trans (b1.mono B0.size))
 clear b1 B0 F0 E0 P0 Q0 K HL HR
 have p0:w1.cell? ⟨w.heap.size+1,0,none⟩=some (.slice a L.length cap):=HP1.out.cell 0
 have l3:w.heap.size+1+1+1<w1.heap.size:=HF1.out.lt
 have l2:w.heap.size+1+1<w1.heap.size:=by omega
 have l1:w.heap.size+1<w1.heap.size:=by omega
 have l0:w.heap.size<w1.heap.size:=by omega
 have g1:¬ (100:Int)<L.length:=by omega
 go_wp2_with fail
 go_loopw [26] (fun i wr=>∃ k:Nat,k≤L.length∧i=.int .i64 k∧Below w1.heap.size w1 wr) (fun i _=>L.length-(intOf i).toNat)
 case atStart=>exact ⟨0,by omega,rfl,qBl⟩
 case round =>
  obtain ⟨k,hk,rfl,B⟩:=hrel
  have HB:=Lib.hid B
  by_cases hkj:k<L.length
  ·have hlt:k<L.length:=by omega
   rcases HR1.out.2 with hnil|⟨g,og,rfl,hg,hc⟩
   ·subst hnil;exact absurd hlt (by simp)
   obtain ⟨h0,h1,h2,h3,h4⟩:=hc k hlt
   have m0:=(B.cell (p:=⟨g,og+k*5,none⟩) (by simpa using hg)).trans h0
   have m1:=(B.cell (p:=⟨g,og+k*5+1,none⟩) (by simpa using hg)).trans h1
   have m2:=(B.cell (p:=⟨g,og+k*5+2,none⟩) (by simpa using hg)).trans h2
   have m3:=(B.cell (p:=⟨g,og+k*5+3,none⟩) (by simpa using hg)).trans h3
   have m4:=(B.cell (p:=⟨g,og+k*5+4,none⟩) (by simpa using hg)).trans h4
   have hz:=B.size
   have KC1:=Lib.hid (fun w=>check_fault (faAt L k).A (faAt L k).B (faAt L k).C (faAt L k).W (faAt L k).T w (HRH.out _ (faAt_mem hlt)))
   have hf:=HF1.out.below B HF1.out.lt
   have hfl:=hf.lt
   have l5:g<wr.heap.size:=by omega
   clear h0 h1 h2 h3 h4 hg hc
   have hz0:=HZ.out k hkj
   change Hid (∀ w,Calls Tryz.prog 58 #[faultV (faAt L k).A (faAt L k).B (faAt L k).C (faAt L k).W (faAt L k).T] w fun e w'=>e=.returned (.int .i64 (faE (faAt L k)))∧Below w.heap.size w w') at KC1
   rw [hz0] at KC1
   clear hz0 hf hfl B
   generalize (faAt L k).A=fA at *
   generalize (faAt L k).B=fB at *
   generalize (faAt L k).C=fC at *
   generalize (faAt L k).W=fW at *
   generalize (faAt L k).T=fT at *
   go_wp2_with fail
   have B1:Below wr.heap.size wr (wr.alloc (.cells #[.int .i64 fA,.int .i64 fB,.int .i64 fC,.int .i64 fW,.float .f32 fT] 96)):=qBl
   exact qx60
  ·obtain rfl:k=L.length:=by omega
   have HE2:=Lib.hid (HE1.out.below B HE1.out.lt)
   have HP2:=Lib.hid (HP1.out.below B HP1.out.lt)
   have HQ2:=Lib.hid (HQ1.out.below B HQ1.out.lt)
   have HF2:=Lib.hid (HF1.out.below B HF1.out.lt)
   have HL2:=Lib.hid (HL1.out.below B)
   have HR2:=Lib.hid (HR1.out.below B)
   have HB2:=Lib.hid (HB1.out.trans (B.mono HB1.out.size))
   obtain ⟨c0,c1,c2,c3,c4⟩:=HE2.out.cells
   have l8:=HE2.out.lt
   clear B p0 HE1 HP1 HQ1 HF1 HL1 HR1 HB1 HB HZ HRH l0 l1 l2 l3
   go_wp2_with fail
   refine (KA.out _ _ _ HL2.out HR2.out HP2.out HQ2.out).mono ?_
   rintro e w7 ⟨⟨x,y,p,q,aa,m,kk,rfl,o7⟩,b7⟩
   have HOZ:=Lib.hid o7
   have HFZ:=Lib.hid (HF2.out.below b7 HF2.out.lt)
   have HBZ:=Lib.hid (HB2.out.trans (b7.mono HB2.out.size))
   have HZB:Hid (w.heap.size+1+1+1<wr.heap.size):=HF2.out.lt
   have HBB:Hid (w.heap.size≤wr.heap.size):=HB2.out.size
   clear o7 b7 KA HE2 HP2 HQ2 HF2 HL2 HR2 HB2 c0 c1 c2 c3 c4 l8
   generalize a=a0 at *
   generalize aa=a at *
   generalize kk=k at *
   obtain ⟨d0,d1,d2,d3,d4⟩:=HFZ.out.cells
   have qf0:=HFZ.out.frozen 0
   have qf1:=HFZ.out.frozen 1
   have qf2:=HFZ.out.frozen 2
   have qf3:=HFZ.out.frozen 3
   have qf4:=HFZ.out.frozen 4
   have lz:=HFZ.out.lt
   go_wp2_with fail
   generalize hW5:((((w7.setCell ⟨w.heap.size+1+1+1,0,none⟩ (.int .i64 x)).setCell ⟨w.heap.size+1+1+1,1,none⟩ (.int .i64 y)).setCell ⟨w.heap.size+1+1+1,2,none⟩ (.int .i64 p)).setCell ⟨w.heap.size+1+1+1,3,none⟩ (.int .i64 q)).setCell ⟨w.heap.size+1+1+1,4,none⟩ (.slice a m k)=W5 at *
   obtain ⟨f5,bb5,oo5,_,z5⟩:=fld_store w7 (w.heap.size+1+1+1) 0 0 0 0 _ x y p q (.slice a m k) HFZ.out W5 hW5.symm
   have hO5:=(HOZ.out.set oo5 HZB.out).base HBB.out
   have hB5:=HBZ.out.trans (bb5.mono (by omega))
   clear d0 d1 d2 d3 d4 qf0 qf1 qf2 qf3 qf4 hW5 oo5
   obtain ⟨d0,d1,d2,d3,d4⟩:=f5.cells
   exact bodyPost_ret (v:=.tuple #[fldV x y p q a m k,.int .i64 C]) (by simp [results,Tryz.results114,go_sem, *]) rfl ⟨⟨x,y,p,q,a,m,k,rfl,hO5⟩,hB5⟩
theorem faultsF_lt (L:List FaR) (x y:Int) (v:Nat) (h:v<4294967296):faultsF L x y v<4294967296:=sumF_lt _ _ h
theorem faults_at {L:List FaR} (hz:∀ i,i<L.length→faE (faAt L i)=0) {X Y x y:Int} {Wn Hn:Nat} {l:List Nat} (hr:Right X Y Wn Hn l) (h1:X≤x) (h2:x<X+Wn) (h3:Y≤y) (h4:y<Y+Hn):∀ r∈L,FaultAt r.A r.B r.C r.W x y∧Bd 20 r.T:=by
 intro r hm
 obtain ⟨i,hi,rfl⟩:=List.getElem_of_mem hm
 have e:faAt L i=L[i]:=by unfold faAt;rw [List.getD_eq_getElem?_getD,List.getElem?_eq_getElem hi];rfl
 have:=hz i hi
 rw [e] at this
 have g1:=hr.w2;have g2:=hr.h2;have g3:=hr.x1;have g4:=hr.x2;have g5:=hr.y1;have g6:=hr.y2
 exact fault_at this (by omega)
set_option maxRecDepth 100000 in
theorem faults_op (X Y:Int) (Wn Hn:Nat) (b o c:Nat) (l:List Nat) (L:List FaR) (a0:Option Addr) (cap:Nat) (w:World) (C X1 Y1 W1 H1:Int) (S:List Nat)
  (K:Hid (∀ W',Below w.heap.size w W'→Calls Tryz.prog 114 #[fldV X Y Wn Hn (some ⟨b,o,none⟩) l.length c,.slice a0 L.length cap,.func (.func 58) #[] #[],.func (.func 115) #[] #[]] W' fun e w'=>OpP C X1 Y1 W1 H1 S W' e w')) :
  Calls Tryz.prog 76 #[fldV X Y Wn Hn (some ⟨b,o,none⟩) l.length c,.slice a0 L.length cap] w fun e w'=>OpP C X1 Y1 W1 H1 S w e w':=by
 go_enter Tryz.func76,Tryz.ntmps76
 go_wp2_with fail
 generalize hW0:(w.alloc (.cells #[.int .i64 X,.int .i64 Y,.int .i64 Wn,.int .i64 Hn,.slice (some ⟨b,o,none⟩) l.length c] 32)).alloc (.cells #[.int .i64 0,.int .i64 0,.int .i64 0,.int .i64 0,.slice none 0 0] 32)=W0 at *
 obtain ⟨E0,F0,B0,z0⟩:=two_fields w X Y Wn Hn (.slice (some ⟨b,o,none⟩) l.length c) W0 hW0.symm
 clear hW0
 refine (K.out _ B0).mono ?_
 rintro e w7 ⟨⟨x,y,p,q,a,m,k,rfl,o7⟩,b7⟩
 have HOZ:=Lib.hid o7
 have HFZ:=Lib.hid (F0.below b7 F0.lt)
 have HBZ:=Lib.hid (B0.trans (b7.mono B0.size))
 have HZB:Hid (w.heap.size+1<W0.heap.size):=F0.lt
 have HBB:Hid (w.heap.size≤W0.heap.size):=B0.size
 clear o7 b7 K E0 F0 B0 z0
 obtain ⟨d0,d1,d2,d3,d4⟩:=HFZ.out.cells
 have qf0:=HFZ.out.frozen 0
 have qf1:=HFZ.out.frozen 1
 have qf2:=HFZ.out.frozen 2
 have qf3:=HFZ.out.frozen 3
 have qf4:=HFZ.out.frozen 4
 have lz:=HFZ.out.lt
 go_wp2_with fail
 generalize hW5:((((w7.setCell ⟨w.heap.size+1,0,none⟩ (.int .i64 x)).setCell ⟨w.heap.size+1,1,none⟩ (.int .i64 y)).setCell ⟨w.heap.size+1,2,none⟩ (.int .i64 p)).setCell ⟨w.heap.size+1,3,none⟩ (.int .i64 q)).setCell ⟨w.heap.size+1,4,none⟩ (.slice a m k)=W5 at *
 obtain ⟨f5,bb5,oo5,_,z5⟩:=fld_store w7 (w.heap.size+1) 0 0 0 0 _ x y p q (.slice a m k) HFZ.out W5 hW5.symm
 have hO5:=(HOZ.out.set oo5 HZB.out).base HBB.out
 have hB5:=HBZ.out.trans (bb5.mono (by omega))
 clear d0 d1 d2 d3 d4 qf0 qf1 qf2 qf3 qf4 hW5 oo5
 obtain ⟨d0,d1,d2,d3,d4⟩:=f5.cells
 exact bodyPost_ret (v:=.tuple #[fldV x y p q a m k,.int .i64 C]) (by simp [results,Tryz.results76,go_sem, *]) rfl ⟨⟨x,y,p,q,a,m,k,rfl,hO5⟩,hB5⟩
theorem fold_one {w:World} {kb:Nat} {A B P:Int} {H:Nat} (h:Blk w kb #[.int .i64 A,.int .i64 B,.int .i64 P,.float .f32 H] 100) (hH:H<4294967296):FoRow w (some ⟨kb,0,none⟩) [⟨A,B,P,H⟩]:=by
 refine ⟨⟨by simp,fun r hr=>?_⟩,.inr ⟨kb,0,rfl,h.lt,fun i hi=>?_⟩⟩
 ·obtain rfl:=List.mem_singleton.1 hr;exact hH
 ·obtain rfl:i=0:=by simp at hi;omega
  exact ⟨h.cell 0,h.cell 1,h.cell 2,h.cell 3⟩
theorem fault_one {w:World} {kb:Nat} {A B C W:Int} {T:Nat} (h:Blk w kb #[.int .i64 A,.int .i64 B,.int .i64 C,.int .i64 W,.float .f32 T] 96) (hT:T<4294967296):FaRow w (some ⟨kb,0,none⟩) [⟨A,B,C,W,T⟩]:=by
 refine ⟨⟨by simp,fun r hr=>?_⟩,.inr ⟨kb,0,rfl,h.lt,fun i hi=>?_⟩⟩
 ·obtain rfl:=List.mem_singleton.1 hr;exact hT
 ·obtain rfl:i=0:=by simp at hi;omega
  exact ⟨h.cell 0,h.cell 1,h.cell 2,h.cell 3,h.cell 4⟩
section
variable (s:ByteArray) (ia:Option Addr) (cin b o cI rb ro cR:Nat) (i0 i1 i2 i3:Int) (r0:Nat) (w:World)
theorem in_fold (hz:s.toList=[102,111,108,100]) (hI:ZRow w (some ⟨b,o,none⟩) [i0,i1,i2]) (hR:SRow w (some ⟨rb,ro,none⟩) [r0]) (hE:foldE i0 i1 i2 r0=0) :
  EvOk w s ia 1 cin (some ⟨b,o,none⟩) 3 cI (some ⟨rb,ro,none⟩) 1 cR 0 (fun gs x y=>foldsF [⟨i0,i1,i2,r0⟩] x y (gs 0 x y)) noEx:=by
 have h2:=srow_w hR r0 (by simp)
 have hz1:∀ i,i<[(⟨i0,i1,i2,r0⟩:FoR)].length→foE (foAt [⟨i0,i1,i2,r0⟩] i)=0:=fun i hi=>by
  obtain rfl:i=0:=by simp at hi;omega
  exact hE
 refine EvOk.one0 fun gs X Y W H g c w' sb cP hb hg hr hP=>⟨resC (addL (foldsF [⟨i0,i1,i2,r0⟩]) X Y W H (gridL (gs 0) X Y W H)),by rw [grid_add];exact gd_res (G:=fun gs x y=>foldsF [⟨i0,i1,i2,r0⟩] x y (gs 0 x y)),?_⟩
 refine ev_fold s ia 1 cin b o cI rb ro cR sb cP i0 i1 i2 r0 _ X Y W H _ X Y W H _ w' hz (hI.below hb) (hR.below hb) hP (fun w2 kb hq hk=>?_)
 have hl:=hq.first
 have hR2:=fold_one (w:=w2) (kb:=kb) (A:=i0) (B:=i1) (P:=i2) (H:=r0) hk h2
 have:=folds_op X Y W H g 0 c (gridL (gs 0) X Y W H) [⟨i0,i1,i2,r0⟩] (some ⟨kb,0,none⟩) 1 w2 _ _ _ _ _ _ (fun W' hb=>addall_ok X Y W H g 0 c (gridL (gs 0) X Y W H) [⟨i0,i1,i2,r0⟩] (some ⟨kb,0,none⟩) 1 W' (SRow.below hl hb) hr (hR2.below hb) (by simp) hz1 _ _ (fun pl pv W2 g1 g2 g3 g4 =>
  added_lt 144 #[.pointer (some ⟨pl,0,none⟩),.pointer (some ⟨pv,0,none⟩)] (foldsF [⟨i0,i1,i2,r0⟩]) X Y W H g 0 c (gridL (gs 0) X Y W H) W2 g1 hr (enters_of Tryz.func144 (by kernel_rfl) rfl) (fun x y v hv=>foldsF_lt _ x y v hv)
   (fun x y v h1' h2 h3 h4 h5 _ W3 hb3=>foldsfn_any [⟨i0,i1,i2,r0⟩] (some ⟨kb,0,none⟩) 1 x y v pl pv W3 (g2.below hb3) (by simp) (g3.below hb3 g3.lt) (g4.below hb3 g4.lt) (folds_at hz1 hr h1' h2 h3 h4) h5)))
 rw [grid_add] at this ⊢
 exact this
theorem in_fault (hz:s.toList=[102,97,117,108,116]) (hI:ZRow w (some ⟨b,o,none⟩) [i0,i1,i2,i3]) (hR:SRow w (some ⟨rb,ro,none⟩) [r0]) (hE:faultE i0 i1 i2 i3 r0=0) :
  EvOk w s ia 1 cin (some ⟨b,o,none⟩) 4 cI (some ⟨rb,ro,none⟩) 1 cR 0 (fun gs x y=>faultsF [⟨i0,i1,i2,i3,r0⟩] x y (gs 0 x y)) noEx:=by
 have h2:=srow_w hR r0 (by simp)
 have hz1:∀ i,i<[(⟨i0,i1,i2,i3,r0⟩:FaR)].length→faE (faAt [⟨i0,i1,i2,i3,r0⟩] i)=0:=fun i hi=>by
  obtain rfl:i=0:=by simp at hi;omega
  exact hE
 refine EvOk.one0 fun gs X Y W H g c w' sb cP hb hg hr hP=>⟨resC (addL (faultsF [⟨i0,i1,i2,i3,r0⟩]) X Y W H (gridL (gs 0) X Y W H)),by rw [grid_add];exact gd_res (G:=fun gs x y=>faultsF [⟨i0,i1,i2,i3,r0⟩] x y (gs 0 x y)),?_⟩
 refine ev_fault s ia 1 cin b o cI rb ro cR sb cP i0 i1 i2 i3 r0 _ X Y W H _ X Y W H _ w' hz (hI.below hb) (hR.below hb) hP (fun w2 kb hq hk=>?_)
 have hl:=hq.first
 have hR2:=fault_one (w:=w2) (kb:=kb) (A:=i0) (B:=i1) (C:=i2) (W:=i3) (T:=r0) hk h2
 have:=faults_op X Y W H g 0 c (gridL (gs 0) X Y W H) [⟨i0,i1,i2,i3,r0⟩] (some ⟨kb,0,none⟩) 1 w2 _ _ _ _ _ _ (fun W' hb=>addflt_ok X Y W H g 0 c (gridL (gs 0) X Y W H) [⟨i0,i1,i2,i3,r0⟩] (some ⟨kb,0,none⟩) 1 W' (SRow.below hl hb) hr (hR2.below hb) (by simp) hz1 _ _ (fun pl pv W2 g1 g2 g3 g4 =>
  added_lt 143 #[.pointer (some ⟨pl,0,none⟩),.pointer (some ⟨pv,0,none⟩)] (faultsF [⟨i0,i1,i2,i3,r0⟩]) X Y W H g 0 c (gridL (gs 0) X Y W H) W2 g1 hr (enters_of Tryz.func143 (by kernel_rfl) rfl) (fun x y v hv=>faultsF_lt _ x y v hv)
   (fun x y v h1' h2 h3 h4 h5 _ W3 hb3=>faultsfn_any [⟨i0,i1,i2,i3,r0⟩] (some ⟨kb,0,none⟩) 1 x y v pl pv W3 (g2.below hb3) (by simp) (g3.below hb3 g3.lt) (g4.below hb3 g4.lt) (faults_at hz1 hr h1' h2 h3 h4) h5)))
 rw [grid_add] at this ⊢
 exact this
end
end Go.Proofs.YtmggflgdoioajaaGreat
