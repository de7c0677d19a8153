import Derived.Test.YtmggflgdoioajaaGreatG12
import Derived.BigQuiet
import Derived.Deep.CutBlock
import Derived.Deep.QuietTactic
import Derived.Deep.DeepCutAuto
import Derived.Deep.RegionHeld3
import Derived.IntWalk
import Derived.LoopN
import Derived.StillTailTactics
set_option linter.unusedSimpArgs false
set_option linter.unusedVariables false
namespace Go.Proofs.YtmggflgdoioajaaGreat
open Go.ChangeShapes Go.WideShapes Go.ChangeAt Go.RowKit
open Ieee.Format (fin finE htE allFin allHt all_true all_false mulF subF addF Ht Bd divF rootF floorF easeF mixF)
def TryP (c:Int) (w:World) (e:Ending) (w':World):Prop:=(∃ x y p q a n k,e=.returned (.tuple #[fldV x y p q a n k,.int .i64 c]))∧Below w.heap.size w w'
theorem OpP.tryP {c X Y W H:Int} {m:List Nat} {w:World} {e:Ending} {w':World} (h:OpP c X Y W H m w e w'):TryP c w e w':=by
 obtain ⟨⟨x,y,p,q,a,n,k,he,_⟩,hb⟩:=h
 exact ⟨⟨x,y,p,q,a,n,k,he⟩,hb⟩
theorem tryP_err {c:Int} {w:World} {e:Ending} {w':World} (h:e=.returned (.tuple #[fldV 0 0 0 0 none 0 0,.int .i64 c])∧Below w.heap.size w w'):TryP c w e w':=⟨⟨0,0,0,0,none,0,0,h.1⟩,h.2⟩
structure ApS (w:World) (s:ByteArray) (ia:Option Addr) (nin cin:Nat) (la:Option Addr) (nI cI:Nat) (ra:Option Addr) (nR cR:Nat) (I:List Int) (L:List Nat) (X Y W H:Int) (sb g cap:Nat) (wr:World):Prop where
 nd:NdAt wr w.heap.size s ia nin cin la nI cI ra nR cR
 rg:Reg wr (w.heap.size+1) X Y W H
 rs:Fld wr (w.heap.size+2) 0 0 0 0 (.slice none 0 0)
 i:ZRow wr la I
 r:SRow wr ra L
 f:Fld wr sb 0 0 3 3 (.slice (some ⟨g,0,none⟩) 9 cap)
 l:SRow wr (some ⟨g,0,none⟩) l9
 b:Below w.heap.size w wr
section
variable {w wr w2:World} {s:ByteArray} {ia la ra:Option Addr} {nin cin nI cI nR cR sb g cap:Nat} {I:List Int} {L:List Nat} {X Y W H:Int}
theorem ApS.call (h:ApS w s ia nin cin la nI cI ra nR cR I L X Y W H sb g cap wr) (hb:Below wr.heap.size wr w2):ApS w s ia nin cin la nI cI ra nR cR I L X Y W H sb g cap w2:=
 ⟨h.nd.below hb h.nd.lt,h.rg.below hb h.rg.lt,h.rs.below hb h.rs.lt,h.i.below hb,h.r.below hb,h.f.below hb h.f.lt,h.l.below hb,h.b.trans (hb.mono h.b.size)⟩
theorem ApS.drew (h:ApS w s ia nin cin la nI cI ra nR cR I L X Y W H sb g cap wr):ApS w s ia nin cin la nI cI ra nR cR I L X Y W H sb g cap wr.drew:=
 ⟨⟨h.nd.blk⟩,h.rg,h.rs,h.i,h.r.drew,h.f,h.l.drew,h.b.drew⟩
theorem ApS.start (hI:ZRow w la I) (hR:SRow w ra L) (hF:Fld w sb 0 0 3 3 (.slice (some ⟨g,0,none⟩) 9 cap)) (hl:SRow w (some ⟨g,0,none⟩) l9) :
  ApS w s ia nin cin la nI cI ra nR cR I L X Y W H sb g cap (((w.alloc (.cells #[.string s,.slice ia nin cin,.slice la nI cI,.slice ra nR cR] 61)).alloc (.cells #[.int .i64 X,.int .i64 Y,.int .i64 W,.int .i64 H] 26)).alloc (.cells #[.int .i64 0,.int .i64 0,.int .i64 0,.int .i64 0,.slice none 0 0] 32)):=by
 have b0:Below w.heap.size w (((w.alloc (.cells #[.string s,.slice ia nin cin,.slice la nI cI,.slice ra nR cR] 61)).alloc (.cells #[.int .i64 X,.int .i64 Y,.int .i64 W,.int .i64 H] 26)).alloc (.cells #[.int .i64 0,.int .i64 0,.int .i64 0,.int .i64 0,.slice none 0 0] 32)):=qBl
 refine ⟨?_,?_,?_,hI.below b0,hR.below b0,hF.below b0 hF.lt,hl.below b0,b0⟩
 ·exact (NdAt.new _ _ _ _ _ _ _ _ _ _ _).below ((Below.refl (w.heap.size+1) _).alloc (by simp) _ |>.alloc (by simp) _) (by omega)
 ·exact qx67
 ·exact qx64
end
set_option maxRecDepth 100000 in
set_option maxHeartbeats 1000000 in
theorem ap_speckle (s:ByteArray) (ia:Option Addr) (nin cin b o cI rb ro cR g cap sb:Nat) (i0:Int) (r0:Nat) (c:Int) (w:World) (hz:s.toList=[115,112,101,99,107,108,101])
  (hI:ZRow w (some ⟨b,o,none⟩) [i0]) (hR:SRow w (some ⟨rb,ro,none⟩) [r0]) (hF:Fld w sb 0 0 3 3 (.slice (some ⟨g,0,none⟩) 9 cap)) (hl:SRow w (some ⟨g,0,none⟩) l9)
  (KC:∀ w',SRow w' (some ⟨g,0,none⟩) l9→Calls Tryz.prog 68 #[reg 0 0 3 3,.int .u32 (IntKind.u32.wrap i0),.float .f32 r0] w' (TryP c w')) :
  Calls Tryz.prog 45 #[ndV s ia nin cin (some ⟨b,o,none⟩) 1 cI (some ⟨rb,ro,none⟩) 1 cR,reg 0 0 3 3,.slice (some ⟨sb,0,none⟩) 1 1] w (TryP c w):=by
 have KC:=Lib.hid KC
 have HS:=Lib.hid (ApS.start (s:=s) (ia:=ia) (nin:=nin) (cin:=cin) (nI:=1) (cI:=cI) (nR:=1) (cR:=cR) (X:=0) (Y:=0) (W:=3) (H:=3) hI hR hF hl)
 clear hI hR hF hl
 go_enter Tryz.func45,Tryz.ntmps45
 go_upto_region 1 with fail
 generalize ((w.alloc (.cells #[.string s,.slice ia nin cin,.slice (some ⟨b,o,none⟩) 1 cI,.slice (some ⟨rb,ro,none⟩) 1 cR] 61)).alloc (.cells #[.int .i64 0,.int .i64 0,.int .i64 3,.int .i64 3] 26)).alloc (.cells #[.int .i64 0,.int .i64 0,.int .i64 0,.int .i64 0,.slice none 0 0] 32)=W0 at *
 have p0:=HS.out.nd.cells.1
 have l0:=HS.out.nd.lt
 go_wp2_with fail
 clear p0 l0
 refine wp_region_noPanic ?_
 refine wp_region_heldT (ApS w s ia nin cin (some ⟨b,o,none⟩) 1 cI (some ⟨rb,ro,none⟩) 1 cR [i0] [r0] 0 0 3 3 sb g cap) 13 (by kernel_rfl) HS.out.drew (fun hHeld=>?_)
 refine tkA [10,11,12,13,14] 0 rfl (by
  intro w₁ hSw
  obtain ⟨f0,f1,f2,f3⟩:=hSw.rg.cells
  go_simp
  try with_reducible rfl) ?_
 try simp only [qS,qN,qC,qD]
 refine tkO [2,3,4,5,10,11,12,13,14] 1 rfl ?_
 try simp only [qS,qN,qC,qD]
 refine tkA [3,4,5,10,11,12,13,14] 2 rfl (by
  intro w₁ hSw
  have p2:=hSw.nd.cells.2.2.1
  go_simp
  try with_reducible rfl) ?_
 try simp only [qS,qN,qC,qD]
 refine tkO [4,5,10,11,12,13,14] 3 rfl ?_
 try simp only [qS,qN,qC,qD]
 refine tkA [5,10,11,12,13,14] 4 rfl (by
  intro w₁ hSw
  have x0:w₁.cell? ⟨b,o,none⟩=some (.int .i64 i0):=hSw.i.at_ 0 (by simp)
  go_simp
  try with_reducible rfl) ?_
 try simp only [qS,qN,qC,qD]
 refine tkO [10,11,12,13,14] 5 rfl ?_
 try simp only [qS,qN,qC,qD]
 refine tkO [7,8,9,10,11,12,13,14] 6 rfl ?_
 try simp only [qS,qN,qC,qD]
 refine tkA [8,9,10,11,12,13,14] 7 rfl (by
  intro w₁ hSw
  have p3:=hSw.nd.cells.2.2.2
  go_simp
  try with_reducible rfl) ?_
 try simp only [qS,qN,qC,qD]
 refine tkO [9,10,11,12,13,14] 8 rfl ?_
 try simp only [qS,qN,qC,qD]
 refine tkA [10,11,12,13,14] 9 rfl (by
  intro w₁ hSw
  have y0:w₁.cell? ⟨rb,ro,none⟩=some (.float .f32 r0):=hSw.r.cell1 0 (by simp)
  go_simp
  try with_reducible rfl) ?_
 try simp only [qS,qN,qC,qD]
 refine rdA 10 rfl (fun K hK=>?_)
 go_simp
 (with_reducible refine (KC.out _ hHeld.l).mono ?_)
 rintro e w2 ⟨⟨x,y,p,q,a,n,k,rfl⟩,hb⟩
 have hN:=hHeld.call hb
 clear hb
 go_wp2_with fail
 refine ouA hK hN (fun hHeld=>?_)
 clear hK K
 try simp only [qS,qN,qC,qD]
 refine tkO [13,14] 11 rfl ?_
 try simp only [qS,qN,qC,qD]
 refine tkO [13,14] 12 rfl ?_
 try simp only [qS,qN,qC,qD]
 refine rdA 13 rfl (fun K hK=>?_)
 have q0:=hHeld.rs.frozen 0
 have q1:=hHeld.rs.frozen 1
 have q2:=hHeld.rs.frozen 2
 have q3:=hHeld.rs.frozen 3
 have q4:=hHeld.rs.frozen 4
 obtain ⟨d0,d1,d2,d3,d4⟩:=hHeld.rs.cells
 have lt:=hHeld.rs.lt
 have HB:=Lib.hid hHeld.b
 have HQ:=Lib.hid (st_5 (W:=w2) hHeld.rs (.int .i64 x) (.int .i64 y) (.int .i64 p) (.int .i64 q) (.slice a n k) _ rfl)
 go_simp
 refine ouB hK ?_
 clear hK K
 try simp only [qS,qN,qC,qD]
 refine rdA 14 rfl (fun K hK=>?_)
 exact qx2
set_option maxRecDepth 100000 in
set_option maxHeartbeats 1000000 in
theorem ap_clamp (s:ByteArray) (ia:Option Addr) (nin cin cI rb ro cR g cap sb:Nat) (la:Option Addr) (r0 r1:Nat) (c:Int) (w:World) (hz:s.toList=[99,108,97,109,112])
  (hI:ZRow w la []) (hR:SRow w (some ⟨rb,ro,none⟩) [r0,r1]) (hF:Fld w sb 0 0 3 3 (.slice (some ⟨g,0,none⟩) 9 cap)) (hl:SRow w (some ⟨g,0,none⟩) l9)
  (KC:∀ w',SRow w' (some ⟨g,0,none⟩) l9→Calls Tryz.prog 70 #[fldV 0 0 3 3 (some ⟨g,0,none⟩) 9 cap,.float .f32 r0,.float .f32 r1] w' (TryP c w')) :
  Calls Tryz.prog 45 #[ndV s ia nin cin la 0 cI (some ⟨rb,ro,none⟩) 2 cR,reg 0 0 3 3,.slice (some ⟨sb,0,none⟩) 1 1] w (TryP c w):=by
 have KC:=Lib.hid KC
 have HS:=Lib.hid (ApS.start (s:=s) (ia:=ia) (nin:=nin) (cin:=cin) (nI:=0) (cI:=cI) (nR:=2) (cR:=cR) (X:=0) (Y:=0) (W:=3) (H:=3) hI hR hF hl)
 clear hI hR hF hl
 go_enter Tryz.func45,Tryz.ntmps45
 go_upto_region 1 with fail
 generalize ((w.alloc (.cells #[.string s,.slice ia nin cin,.slice la 0 cI,.slice (some ⟨rb,ro,none⟩) 2 cR] 61)).alloc (.cells #[.int .i64 0,.int .i64 0,.int .i64 3,.int .i64 3] 26)).alloc (.cells #[.int .i64 0,.int .i64 0,.int .i64 0,.int .i64 0,.slice none 0 0] 32)=W0 at *
 have p0:=HS.out.nd.cells.1
 have l0:=HS.out.nd.lt
 go_wp2_with fail
 clear p0 l0
 refine wp_region_noPanic ?_
 refine wp_region_heldT (ApS w s ia nin cin la 0 cI (some ⟨rb,ro,none⟩) 2 cR [] [r0,r1] 0 0 3 3 sb g cap) 14 (by kernel_rfl) HS.out.drew (fun hHeld=>?_)
 refine tkO [1,2,11,12,13,14,15] 0 rfl ?_
 try simp only [qS,qN,qC,qD]
 refine tkO [2,11,12,13,14,15] 1 rfl ?_
 try simp only [qS,qN,qC,qD]
 refine tkA [11,12,13,14,15] 2 rfl (by
  intro w₁ hSw
  obtain ⟨f0,f1,f2,f3,f4⟩:=hSw.f.cells
  go_simp
  try with_reducible rfl) ?_
 try simp only [qS,qN,qC,qD]
 refine tkO [4,5,6,11,12,13,14,15] 3 rfl ?_
 try simp only [qS,qN,qC,qD]
 refine tkA [5,6,11,12,13,14,15] 4 rfl (by
  intro w₁ hSw
  have p3:=hSw.nd.cells.2.2.2
  go_simp
  try with_reducible rfl) ?_
 try simp only [qS,qN,qC,qD]
 refine tkO [6,11,12,13,14,15] 5 rfl ?_
 try simp only [qS,qN,qC,qD]
 refine tkA [11,12,13,14,15] 6 rfl (by
  intro w₁ hSw
  have y0:w₁.cell? ⟨rb,ro,none⟩=some (.float .f32 r0):=hSw.r.cell1 0 (by simp)
  go_simp
  try with_reducible rfl) ?_
 try simp only [qS,qN,qC,qD]
 refine tkO [8,9,10,11,12,13,14,15] 7 rfl ?_
 try simp only [qS,qN,qC,qD]
 refine tkA [9,10,11,12,13,14,15] 8 rfl (by
  intro w₁ hSw
  have p3:=hSw.nd.cells.2.2.2
  go_simp
  try with_reducible rfl) ?_
 try simp only [qS,qN,qC,qD]
 refine tkO [10,11,12,13,14,15] 9 rfl ?_
 try simp only [qS,qN,qC,qD]
 refine tkA [11,12,13,14,15] 10 rfl (by
  intro w₁ hSw
  have y0:w₁.cell? ⟨rb,ro+1,none⟩=some (.float .f32 r1):=hSw.r.cell1 1 (by simp)
  go_simp
  try with_reducible rfl) ?_
 try simp only [qS,qN,qC,qD]
 refine rdA 11 rfl (fun K hK=>?_)
 go_simp
 (with_reducible refine (KC.out _ hHeld.l).mono ?_)
 rintro e w2 ⟨⟨x,y,p,q,a,n,k,rfl⟩,hb⟩
 have hN:=hHeld.call hb
 clear hb
 go_wp2_with fail
 refine ouA hK hN (fun hHeld=>?_)
 clear hK K
 try simp only [qS,qN,qC,qD]
 refine tkO [14,15] 12 rfl ?_
 try simp only [qS,qN,qC,qD]
 refine tkO [14,15] 13 rfl ?_
 try simp only [qS,qN,qC,qD]
 refine rdA 14 rfl (fun K hK=>?_)
 have q0:=hHeld.rs.frozen 0
 have q1:=hHeld.rs.frozen 1
 have q2:=hHeld.rs.frozen 2
 have q3:=hHeld.rs.frozen 3
 have q4:=hHeld.rs.frozen 4
 obtain ⟨d0,d1,d2,d3,d4⟩:=hHeld.rs.cells
 have lt:=hHeld.rs.lt
 have HB:=Lib.hid hHeld.b
 have HQ:=Lib.hid (st_5 (W:=w2) hHeld.rs (.int .i64 x) (.int .i64 y) (.int .i64 p) (.int .i64 q) (.slice a n k) _ rfl)
 go_simp
 refine ouB hK ?_
 clear hK K
 try simp only [qS,qN,qC,qD]
 refine rdA 15 rfl (fun K hK=>?_)
 exact qx2
set_option maxRecDepth 100000 in
set_option maxHeartbeats 1000000 in
theorem ap_select (s:ByteArray) (ia:Option Addr) (nin cin cI rb ro cR g cap sb:Nat) (la:Option Addr) (r0 r1 r2:Nat) (c:Int) (w:World) (hz:s.toList=[115,101,108,101,99,116])
  (hI:ZRow w la []) (hR:SRow w (some ⟨rb,ro,none⟩) [r0,r1,r2]) (hF:Fld w sb 0 0 3 3 (.slice (some ⟨g,0,none⟩) 9 cap)) (hl:SRow w (some ⟨g,0,none⟩) l9)
  (KC:∀ w',SRow w' (some ⟨g,0,none⟩) l9→Calls Tryz.prog 72 #[fldV 0 0 3 3 (some ⟨g,0,none⟩) 9 cap,.float .f32 r0,.float .f32 r1,.float .f32 r2] w' (TryP c w')) :
  Calls Tryz.prog 45 #[ndV s ia nin cin la 0 cI (some ⟨rb,ro,none⟩) 3 cR,reg 0 0 3 3,.slice (some ⟨sb,0,none⟩) 1 1] w (TryP c w):=by
 have KC:=Lib.hid KC
 have HS:=Lib.hid (ApS.start (s:=s) (ia:=ia) (nin:=nin) (cin:=cin) (nI:=0) (cI:=cI) (nR:=3) (cR:=cR) (X:=0) (Y:=0) (W:=3) (H:=3) hI hR hF hl)
 clear hI hR hF hl
 go_enter Tryz.func45,Tryz.ntmps45
 go_upto_region 1 with fail
 generalize ((w.alloc (.cells #[.string s,.slice ia nin cin,.slice la 0 cI,.slice (some ⟨rb,ro,none⟩) 3 cR] 61)).alloc (.cells #[.int .i64 0,.int .i64 0,.int .i64 3,.int .i64 3] 26)).alloc (.cells #[.int .i64 0,.int .i64 0,.int .i64 0,.int .i64 0,.slice none 0 0] 32)=W0 at *
 have p0:=HS.out.nd.cells.1
 have l0:=HS.out.nd.lt
 go_wp2_with fail
 clear p0 l0
 refine wp_region_noPanic ?_
 refine wp_region_heldT (ApS w s ia nin cin la 0 cI (some ⟨rb,ro,none⟩) 3 cR [] [r0,r1,r2] 0 0 3 3 sb g cap) 18 (by kernel_rfl) HS.out.drew (fun hHeld=>?_)
 refine tkO [1,2,15,16,17,18,19] 0 rfl ?_
 try simp only [qS,qN,qC,qD]
 refine tkO [2,15,16,17,18,19] 1 rfl ?_
 try simp only [qS,qN,qC,qD]
 refine tkA [15,16,17,18,19] 2 rfl (by
  intro w₁ hSw
  obtain ⟨f0,f1,f2,f3,f4⟩:=hSw.f.cells
  go_simp
  try with_reducible rfl) ?_
 try simp only [qS,qN,qC,qD]
 refine tkO [4,5,6,15,16,17,18,19] 3 rfl ?_
 try simp only [qS,qN,qC,qD]
 refine tkA [5,6,15,16,17,18,19] 4 rfl (by
  intro w₁ hSw
  have p3:=hSw.nd.cells.2.2.2
  go_simp
  try with_reducible rfl) ?_
 try simp only [qS,qN,qC,qD]
 refine tkO [6,15,16,17,18,19] 5 rfl ?_
 try simp only [qS,qN,qC,qD]
 refine tkA [15,16,17,18,19] 6 rfl (by
  intro w₁ hSw
  have y0:w₁.cell? ⟨rb,ro,none⟩=some (.float .f32 r0):=hSw.r.cell1 0 (by simp)
  go_simp
  try with_reducible rfl) ?_
 try simp only [qS,qN,qC,qD]
 refine tkO [8,9,10,15,16,17,18,19] 7 rfl ?_
 try simp only [qS,qN,qC,qD]
 refine tkA [9,10,15,16,17,18,19] 8 rfl (by
  intro w₁ hSw
  have p3:=hSw.nd.cells.2.2.2
  go_simp
  try with_reducible rfl) ?_
 try simp only [qS,qN,qC,qD]
 refine tkO [10,15,16,17,18,19] 9 rfl ?_
 try simp only [qS,qN,qC,qD]
 refine tkA [15,16,17,18,19] 10 rfl (by
  intro w₁ hSw
  have y0:w₁.cell? ⟨rb,ro+1,none⟩=some (.float .f32 r1):=hSw.r.cell1 1 (by simp)
  go_simp
  try with_reducible rfl) ?_
 try simp only [qS,qN,qC,qD]
 refine tkO [12,13,14,15,16,17,18,19] 11 rfl ?_
 try simp only [qS,qN,qC,qD]
 refine tkA [13,14,15,16,17,18,19] 12 rfl (by
  intro w₁ hSw
  have p3:=hSw.nd.cells.2.2.2
  go_simp
  try with_reducible rfl) ?_
 try simp only [qS,qN,qC,qD]
 refine tkO [14,15,16,17,18,19] 13 rfl ?_
 try simp only [qS,qN,qC,qD]
 refine tkA [15,16,17,18,19] 14 rfl (by
  intro w₁ hSw
  have y0:w₁.cell? ⟨rb,ro+2,none⟩=some (.float .f32 r2):=hSw.r.cell1 2 (by simp)
  go_simp
  try with_reducible rfl) ?_
 try simp only [qS,qN,qC,qD]
 refine rdA 15 rfl (fun K hK=>?_)
 go_simp
 (with_reducible refine (KC.out _ hHeld.l).mono ?_)
 rintro e w2 ⟨⟨x,y,p,q,a,n,k,rfl⟩,hb⟩
 have hN:=hHeld.call hb
 clear hb
 go_wp2_with fail
 refine ouA hK hN (fun hHeld=>?_)
 clear hK K
 try simp only [qS,qN,qC,qD]
 refine tkO [18,19] 16 rfl ?_
 try simp only [qS,qN,qC,qD]
 refine tkO [18,19] 17 rfl ?_
 try simp only [qS,qN,qC,qD]
 refine rdA 18 rfl (fun K hK=>?_)
 have q0:=hHeld.rs.frozen 0
 have q1:=hHeld.rs.frozen 1
 have q2:=hHeld.rs.frozen 2
 have q3:=hHeld.rs.frozen 3
 have q4:=hHeld.rs.frozen 4
 obtain ⟨d0,d1,d2,d3,d4⟩:=hHeld.rs.cells
 have lt:=hHeld.rs.lt
 have HB:=Lib.hid hHeld.b
 have HQ:=Lib.hid (st_5 (W:=w2) hHeld.rs (.int .i64 x) (.int .i64 y) (.int .i64 p) (.int .i64 q) (.slice a n k) _ rfl)
 go_simp
 refine ouB hK ?_
 clear hK K
 try simp only [qS,qN,qC,qD]
 refine rdA 19 rfl (fun K hK=>?_)
 exact qx2
set_option maxRecDepth 100000 in
set_option maxHeartbeats 1000000 in
theorem ap_terrace (s:ByteArray) (ia:Option Addr) (nin cin cI rb ro cR g cap sb:Nat) (la:Option Addr) (r0 r1:Nat) (c:Int) (w:World) (hz:s.toList=[116,101,114,114,97,99,101])
  (hI:ZRow w la []) (hR:SRow w (some ⟨rb,ro,none⟩) [r0,r1]) (hF:Fld w sb 0 0 3 3 (.slice (some ⟨g,0,none⟩) 9 cap)) (hl:SRow w (some ⟨g,0,none⟩) l9)
  (KC:∀ w',SRow w' (some ⟨g,0,none⟩) l9→Calls Tryz.prog 73 #[fldV 0 0 3 3 (some ⟨g,0,none⟩) 9 cap,.float .f32 r0,.float .f32 r1] w' (TryP c w')) :
  Calls Tryz.prog 45 #[ndV s ia nin cin la 0 cI (some ⟨rb,ro,none⟩) 2 cR,reg 0 0 3 3,.slice (some ⟨sb,0,none⟩) 1 1] w (TryP c w):=by
 have KC:=Lib.hid KC
 have HS:=Lib.hid (ApS.start (s:=s) (ia:=ia) (nin:=nin) (cin:=cin) (nI:=0) (cI:=cI) (nR:=2) (cR:=cR) (X:=0) (Y:=0) (W:=3) (H:=3) hI hR hF hl)
 clear hI hR hF hl
 go_enter Tryz.func45,Tryz.ntmps45
 go_upto_region 1 with fail
 generalize ((w.alloc (.cells #[.string s,.slice ia nin cin,.slice la 0 cI,.slice (some ⟨rb,ro,none⟩) 2 cR] 61)).alloc (.cells #[.int .i64 0,.int .i64 0,.int .i64 3,.int .i64 3] 26)).alloc (.cells #[.int .i64 0,.int .i64 0,.int .i64 0,.int .i64 0,.slice none 0 0] 32)=W0 at *
 have p0:=HS.out.nd.cells.1
 have l0:=HS.out.nd.lt
 go_wp2_with fail
 clear p0 l0
 refine wp_region_noPanic ?_
 refine wp_region_heldT (ApS w s ia nin cin la 0 cI (some ⟨rb,ro,none⟩) 2 cR [] [r0,r1] 0 0 3 3 sb g cap) 14 (by kernel_rfl) HS.out.drew (fun hHeld=>?_)
 refine tkO [1,2,11,12,13,14,15] 0 rfl ?_
 try simp only [qS,qN,qC,qD]
 refine tkO [2,11,12,13,14,15] 1 rfl ?_
 try simp only [qS,qN,qC,qD]
 refine tkA [11,12,13,14,15] 2 rfl (by
  intro w₁ hSw
  obtain ⟨f0,f1,f2,f3,f4⟩:=hSw.f.cells
  go_simp
  try with_reducible rfl) ?_
 try simp only [qS,qN,qC,qD]
 refine tkO [4,5,6,11,12,13,14,15] 3 rfl ?_
 try simp only [qS,qN,qC,qD]
 refine tkA [5,6,11,12,13,14,15] 4 rfl (by
  intro w₁ hSw
  have p3:=hSw.nd.cells.2.2.2
  go_simp
  try with_reducible rfl) ?_
 try simp only [qS,qN,qC,qD]
 refine tkO [6,11,12,13,14,15] 5 rfl ?_
 try simp only [qS,qN,qC,qD]
 refine tkA [11,12,13,14,15] 6 rfl (by
  intro w₁ hSw
  have y0:w₁.cell? ⟨rb,ro,none⟩=some (.float .f32 r0):=hSw.r.cell1 0 (by simp)
  go_simp
  try with_reducible rfl) ?_
 try simp only [qS,qN,qC,qD]
 refine tkO [8,9,10,11,12,13,14,15] 7 rfl ?_
 try simp only [qS,qN,qC,qD]
 refine tkA [9,10,11,12,13,14,15] 8 rfl (by
  intro w₁ hSw
  have p3:=hSw.nd.cells.2.2.2
  go_simp
  try with_reducible rfl) ?_
 try simp only [qS,qN,qC,qD]
 refine tkO [10,11,12,13,14,15] 9 rfl ?_
 try simp only [qS,qN,qC,qD]
 refine tkA [11,12,13,14,15] 10 rfl (by
  intro w₁ hSw
  have y0:w₁.cell? ⟨rb,ro+1,none⟩=some (.float .f32 r1):=hSw.r.cell1 1 (by simp)
  go_simp
  try with_reducible rfl) ?_
 try simp only [qS,qN,qC,qD]
 refine rdA 11 rfl (fun K hK=>?_)
 go_simp
 (with_reducible refine (KC.out _ hHeld.l).mono ?_)
 rintro e w2 ⟨⟨x,y,p,q,a,n,k,rfl⟩,hb⟩
 have hN:=hHeld.call hb
 clear hb
 go_wp2_with fail
 refine ouA hK hN (fun hHeld=>?_)
 clear hK K
 try simp only [qS,qN,qC,qD]
 refine tkO [14,15] 12 rfl ?_
 try simp only [qS,qN,qC,qD]
 refine tkO [14,15] 13 rfl ?_
 try simp only [qS,qN,qC,qD]
 refine rdA 14 rfl (fun K hK=>?_)
 have q0:=hHeld.rs.frozen 0
 have q1:=hHeld.rs.frozen 1
 have q2:=hHeld.rs.frozen 2
 have q3:=hHeld.rs.frozen 3
 have q4:=hHeld.rs.frozen 4
 obtain ⟨d0,d1,d2,d3,d4⟩:=hHeld.rs.cells
 have lt:=hHeld.rs.lt
 have HB:=Lib.hid hHeld.b
 have HQ:=Lib.hid (st_5 (W:=w2) hHeld.rs (.int .i64 x) (.int .i64 y) (.int .i64 p) (.int .i64 q) (.slice a n k) _ rfl)
 go_simp
 refine ouB hK ?_
 clear hK K
 try simp only [qS,qN,qC,qD]
 refine rdA 15 rfl (fun K hK=>?_)
 exact qx2
set_option maxRecDepth 100000 in
set_option maxHeartbeats 1000000 in
theorem ap_dither (s:ByteArray) (ia:Option Addr) (nin cin b o cI rb ro cR g cap sb:Nat) (i0:Int) (r0:Nat) (c:Int) (w:World) (hz:s.toList=[100,105,116,104,101,114])
  (hI:ZRow w (some ⟨b,o,none⟩) [i0]) (hR:SRow w (some ⟨rb,ro,none⟩) [r0]) (hF:Fld w sb 0 0 3 3 (.slice (some ⟨g,0,none⟩) 9 cap)) (hl:SRow w (some ⟨g,0,none⟩) l9)
  (KC:∀ w',SRow w' (some ⟨g,0,none⟩) l9→Calls Tryz.prog 74 #[fldV 0 0 3 3 (some ⟨g,0,none⟩) 9 cap,.int .u32 (IntKind.u32.wrap i0),.float .f32 r0] w' (TryP c w')) :
  Calls Tryz.prog 45 #[ndV s ia nin cin (some ⟨b,o,none⟩) 1 cI (some ⟨rb,ro,none⟩) 1 cR,reg 0 0 3 3,.slice (some ⟨sb,0,none⟩) 1 1] w (TryP c w):=by
 have KC:=Lib.hid KC
 have HS:=Lib.hid (ApS.start (s:=s) (ia:=ia) (nin:=nin) (cin:=cin) (nI:=1) (cI:=cI) (nR:=1) (cR:=cR) (X:=0) (Y:=0) (W:=3) (H:=3) hI hR hF hl)
 clear hI hR hF hl
 go_enter Tryz.func45,Tryz.ntmps45
 go_upto_region 1 with fail
 generalize ((w.alloc (.cells #[.string s,.slice ia nin cin,.slice (some ⟨b,o,none⟩) 1 cI,.slice (some ⟨rb,ro,none⟩) 1 cR] 61)).alloc (.cells #[.int .i64 0,.int .i64 0,.int .i64 3,.int .i64 3] 26)).alloc (.cells #[.int .i64 0,.int .i64 0,.int .i64 0,.int .i64 0,.slice none 0 0] 32)=W0 at *
 have p0:=HS.out.nd.cells.1
 have l0:=HS.out.nd.lt
 go_wp2_with fail
 clear p0 l0
 refine wp_region_noPanic ?_
 refine wp_region_heldT (ApS w s ia nin cin (some ⟨b,o,none⟩) 1 cI (some ⟨rb,ro,none⟩) 1 cR [i0] [r0] 0 0 3 3 sb g cap) 15 (by kernel_rfl) HS.out.drew (fun hHeld=>?_)
 refine tkO [1,2,12,13,14,15,16] 0 rfl ?_
 try simp only [qS,qN,qC,qD]
 refine tkO [2,12,13,14,15,16] 1 rfl ?_
 try simp only [qS,qN,qC,qD]
 refine tkA [12,13,14,15,16] 2 rfl (by
  intro w₁ hSw
  obtain ⟨f0,f1,f2,f3,f4⟩:=hSw.f.cells
  go_simp
  try with_reducible rfl) ?_
 try simp only [qS,qN,qC,qD]
 refine tkO [4,5,6,7,12,13,14,15,16] 3 rfl ?_
 try simp only [qS,qN,qC,qD]
 refine tkA [5,6,7,12,13,14,15,16] 4 rfl (by
  intro w₁ hSw
  have p2:=hSw.nd.cells.2.2.1
  go_simp
  try with_reducible rfl) ?_
 try simp only [qS,qN,qC,qD]
 refine tkO [6,7,12,13,14,15,16] 5 rfl ?_
 try simp only [qS,qN,qC,qD]
 refine tkA [7,12,13,14,15,16] 6 rfl (by
  intro w₁ hSw
  have x0:w₁.cell? ⟨b,o,none⟩=some (.int .i64 i0):=hSw.i.at_ 0 (by simp)
  go_simp
  try with_reducible rfl) ?_
 try simp only [qS,qN,qC,qD]
 refine tkO [12,13,14,15,16] 7 rfl ?_
 try simp only [qS,qN,qC,qD]
 refine tkO [9,10,11,12,13,14,15,16] 8 rfl ?_
 try simp only [qS,qN,qC,qD]
 refine tkA [10,11,12,13,14,15,16] 9 rfl (by
  intro w₁ hSw
  have p3:=hSw.nd.cells.2.2.2
  go_simp
  try with_reducible rfl) ?_
 try simp only [qS,qN,qC,qD]
 refine tkO [11,12,13,14,15,16] 10 rfl ?_
 try simp only [qS,qN,qC,qD]
 refine tkA [12,13,14,15,16] 11 rfl (by
  intro w₁ hSw
  have y0:w₁.cell? ⟨rb,ro,none⟩=some (.float .f32 r0):=hSw.r.cell1 0 (by simp)
  go_simp
  try with_reducible rfl) ?_
 try simp only [qS,qN,qC,qD]
 refine rdA 12 rfl (fun K hK=>?_)
 go_simp
 (with_reducible refine (KC.out _ hHeld.l).mono ?_)
 rintro e w2 ⟨⟨x,y,p,q,a,n,k,rfl⟩,hb⟩
 have hN:=hHeld.call hb
 clear hb
 go_wp2_with fail
 refine ouA hK hN (fun hHeld=>?_)
 clear hK K
 try simp only [qS,qN,qC,qD]
 refine tkO [15,16] 13 rfl ?_
 try simp only [qS,qN,qC,qD]
 refine tkO [15,16] 14 rfl ?_
 try simp only [qS,qN,qC,qD]
 refine rdA 15 rfl (fun K hK=>?_)
 have q0:=hHeld.rs.frozen 0
 have q1:=hHeld.rs.frozen 1
 have q2:=hHeld.rs.frozen 2
 have q3:=hHeld.rs.frozen 3
 have q4:=hHeld.rs.frozen 4
 obtain ⟨d0,d1,d2,d3,d4⟩:=hHeld.rs.cells
 have lt:=hHeld.rs.lt
 have HB:=Lib.hid hHeld.b
 have HQ:=Lib.hid (st_5 (W:=w2) hHeld.rs (.int .i64 x) (.int .i64 y) (.int .i64 p) (.int .i64 q) (.slice a n k) _ rfl)
 go_simp
 refine ouB hK ?_
 clear hK K
 try simp only [qS,qN,qC,qD]
 refine rdA 16 rfl (fun K hK=>?_)
 exact qx2
set_option maxRecDepth 100000 in
set_option maxHeartbeats 1000000 in
theorem idx_shade (s:ByteArray) (hz:s.toList=[115,104,97,100,101]) (k:Nat) (W:World) (hk:W.heap[k]?=some (.cells #[.string { data:=#[] },.string { data:=#[97,100,100] },.string { data:=#[115,117,98] },.string { data:=#[109,117,108] },.string { data:=#[100,105,118] },.string { data:=#[108,101,115,115] },.string { data:=#[109,111,114,101] },.string { data:=#[111,118,101,114] }] 9 (0,0))) :
  Calls Tryz.prog 118 #[.slice (some ⟨k,0,none⟩) 8 8,.string s] W fun e w'=>e=.returned (.int .i64 (-1))∧W=w':=by
 exact qx31
set_option maxRecDepth 100000 in
set_option maxHeartbeats 1000000 in
theorem comb_shade (s:ByteArray) (hz:s.toList=[115,104,97,100,101]) (w:World):Calls Tryz.prog 78 #[.string s] w fun e w'=>e=.returned (.int .i64 (-1))∧Below w.heap.size w w':=by
 have KI:=Lib.hid (fun k W hk=>idx_shade s hz k W hk)
 exact qx30
set_option maxRecDepth 100000 in
set_option maxHeartbeats 1000000 in
theorem ap_shade (s:ByteArray) (ia:Option Addr) (nin cin b o cI g cap sb cR:Nat) (ra:Option Addr) (i0 i1 i2:Int) (c:Int) (w:World) (hz:s.toList=[115,104,97,100,101])
  (hI:ZRow w (some ⟨b,o,none⟩) [i0,i1,i2]) (hR:SRow w ra []) (hF:Fld w sb 0 0 3 3 (.slice (some ⟨g,0,none⟩) 9 cap)) (hl:SRow w (some ⟨g,0,none⟩) l9)
  (KC:∀ w',ZRow w' (some ⟨b,o,none⟩) [i0,i1,i2]→SRow w' (some ⟨g,0,none⟩) l9→Calls Tryz.prog 80 #[ndV s ia nin cin (some ⟨b,o,none⟩) 3 cI ra 0 cR,reg 1 1 1 1,fldV 0 0 3 3 (some ⟨g,0,none⟩) 9 cap] w' (TryP c w')) :
  Calls Tryz.prog 45 #[ndV s ia nin cin (some ⟨b,o,none⟩) 3 cI ra 0 cR,reg 1 1 1 1,.slice (some ⟨sb,0,none⟩) 1 1] w (TryP c w):=by
 have KC:=Lib.hid KC
 have KI:=Lib.hid (fun w=>comb_shade s hz w)
 have HS:=Lib.hid (ApS.start (s:=s) (ia:=ia) (nin:=nin) (cin:=cin) (nI:=3) (cI:=cI) (nR:=0) (cR:=cR) (X:=1) (Y:=1) (W:=1) (H:=1) hI hR hF hl)
 clear hI hR hF hl
 go_enter Tryz.func45,Tryz.ntmps45
 go_upto_region 1 with fail
 generalize ((w.alloc (.cells #[.string s,.slice ia nin cin,.slice (some ⟨b,o,none⟩) 3 cI,.slice ra 0 cR] 61)).alloc (.cells #[.int .i64 1,.int .i64 1,.int .i64 1,.int .i64 1] 26)).alloc (.cells #[.int .i64 0,.int .i64 0,.int .i64 0,.int .i64 0,.slice none 0 0] 32)=W0 at *
 have p0:=HS.out.nd.cells.1
 have l0:=HS.out.nd.lt
 go_wp2_with fail
 refine (KI.out _).mono ?_
 rintro e w1 ⟨rfl,hb⟩
 have HS1:=Lib.hid (HS.out.call hb)
 clear hb HS p0 l0
 go_wp2_with fail
 refine wp_region_noPanic ?_
 refine wp_region_heldT (ApS w s ia nin cin (some ⟨b,o,none⟩) 3 cI ra 0 cR [i0,i1,i2] [] 1 1 1 1 sb g cap) 8 (by kernel_rfl) HS1.out.drew (fun hHeld=>?_)
 refine tkA [5,6,7,8,9] 0 rfl (by
  intro w₁ hSw
  obtain ⟨p0,p1,p2,p3⟩:=hSw.nd.cells
  go_simp
  try with_reducible rfl) ?_
 try simp only [qS,qN,qC,qD]
 refine tkA [5,6,7,8,9] 1 rfl (by
  intro w₁ hSw
  obtain ⟨f0,f1,f2,f3⟩:=hSw.rg.cells
  go_simp
  try with_reducible rfl) ?_
 try simp only [qS,qN,qC,qD]
 refine tkO [3,4,5,6,7,8,9] 2 rfl ?_
 try simp only [qS,qN,qC,qD]
 refine tkO [4,5,6,7,8,9] 3 rfl ?_
 try simp only [qS,qN,qC,qD]
 refine tkA [5,6,7,8,9] 4 rfl (by
  intro w₁ hSw
  obtain ⟨f0,f1,f2,f3,f4⟩:=hSw.f.cells
  go_simp
  try with_reducible rfl) ?_
 try simp only [qS,qN,qC,qD]
 refine rdA 5 rfl (fun K hK=>?_)
 go_simp
 (with_reducible refine (KC.out _ hHeld.i hHeld.l).mono ?_)
 rintro e w2 ⟨⟨x,y,p,q,a,n,k,rfl⟩,hb⟩
 have hN:=hHeld.call hb
 clear hb
 go_wp2_with fail
 refine ouA hK hN (fun hHeld=>?_)
 clear hK K
 try simp only [qS,qN,qC,qD]
 refine tkO [8,9] 6 rfl ?_
 try simp only [qS,qN,qC,qD]
 refine tkO [8,9] 7 rfl ?_
 try simp only [qS,qN,qC,qD]
 refine rdA 8 rfl (fun K hK=>?_)
 have q0:=hHeld.rs.frozen 0
 have q1:=hHeld.rs.frozen 1
 have q2:=hHeld.rs.frozen 2
 have q3:=hHeld.rs.frozen 3
 have q4:=hHeld.rs.frozen 4
 obtain ⟨d0,d1,d2,d3,d4⟩:=hHeld.rs.cells
 have lt:=hHeld.rs.lt
 have HB:=Lib.hid hHeld.b
 have HQ:=Lib.hid (st_5 (W:=w2) hHeld.rs (.int .i64 x) (.int .i64 y) (.int .i64 p) (.int .i64 q) (.slice a n k) _ rfl)
 go_simp
 refine ouB hK ?_
 clear hK K
 try simp only [qS,qN,qC,qD]
 refine rdA 9 rfl (fun K hK=>?_)
 exact qx2
structure ArS (w:World) (s:ByteArray) (ia:Option Addr) (nin cin:Nat) (la:Option Addr) (nI cI:Nat) (ra:Option Addr) (nR cR:Nat) (I:List Int) (g cap:Nat) (wr:World):Prop where
 nd:NdAt wr w.heap.size s ia nin cin la nI cI ra nR cR
 bx:Fld wr (w.heap.size+2) 0 0 3 3 (.slice (some ⟨g,0,none⟩) 9 cap)
 rs:Fld wr (w.heap.size+3) 0 0 0 0 (.slice none 0 0)
 i:ZRow wr la I
 l:SRow wr (some ⟨g,0,none⟩) l9
 b:Below w.heap.size w wr
section
variable {w wr w2:World} {s:ByteArray} {ia la ra:Option Addr} {nin cin nI cI nR cR g cap:Nat} {I:List Int} {X Y W H:Int}
theorem ArS.call (h:ArS w s ia nin cin la nI cI ra nR cR I g cap wr) (hb:Below wr.heap.size wr w2):ArS w s ia nin cin la nI cI ra nR cR I g cap w2:=
 ⟨h.nd.below hb h.nd.lt,h.bx.below hb h.bx.lt,h.rs.below hb h.rs.lt,h.i.below hb,h.l.below hb,h.b.trans (hb.mono h.b.size)⟩
theorem ArS.drew (h:ArS w s ia nin cin la nI cI ra nR cR I g cap wr):ArS w s ia nin cin la nI cI ra nR cR I g cap wr.drew:=
 ⟨⟨h.nd.blk⟩,h.bx,h.rs,h.i,h.l.drew,h.b.drew⟩
theorem ArS.start (hI:ZRow w la I) (hl:SRow w (some ⟨g,0,none⟩) l9) :
  ArS w s ia nin cin la nI cI ra nR cR I g cap ((((w.alloc (.cells #[.string s,.slice ia nin cin,.slice la nI cI,.slice ra nR cR] 61)).alloc (.cells #[.int .i64 X,.int .i64 Y,.int .i64 W,.int .i64 H] 26)).alloc (.cells #[.int .i64 0,.int .i64 0,.int .i64 3,.int .i64 3,.slice (some ⟨g,0,none⟩) 9 cap] 32)).alloc (.cells #[.int .i64 0,.int .i64 0,.int .i64 0,.int .i64 0,.slice none 0 0] 32)):=by
 have b0:Below w.heap.size w ((((w.alloc (.cells #[.string s,.slice ia nin cin,.slice la nI cI,.slice ra nR cR] 61)).alloc (.cells #[.int .i64 X,.int .i64 Y,.int .i64 W,.int .i64 H] 26)).alloc (.cells #[.int .i64 0,.int .i64 0,.int .i64 3,.int .i64 3,.slice (some ⟨g,0,none⟩) 9 cap] 32)).alloc (.cells #[.int .i64 0,.int .i64 0,.int .i64 0,.int .i64 0,.slice none 0 0] 32)):=qBl
 refine ⟨?_,?_,?_,hI.below b0,hl.below b0,b0⟩
 ·exact (NdAt.new _ _ _ _ _ _ _ _ _ _ _).below (((Below.refl (w.heap.size+1) _).alloc (by simp) _ |>.alloc (by simp) _) |>.alloc (by simp) _) (by omega)
 ·have:=(Fld.new ((w.alloc (.cells #[.string s,.slice ia nin cin,.slice la nI cI,.slice ra nR cR] 61)).alloc (.cells #[.int .i64 X,.int .i64 Y,.int .i64 W,.int .i64 H] 26)) 0 0 3 3 (.slice (some ⟨g,0,none⟩) 9 cap)).alloc (.cells #[.int .i64 0,.int .i64 0,.int .i64 0,.int .i64 0,.slice none 0 0] 32)
  simpa using this
 ·have:=Fld.new (((w.alloc (.cells #[.string s,.slice ia nin cin,.slice la nI cI,.slice ra nR cR] 61)).alloc (.cells #[.int .i64 X,.int .i64 Y,.int .i64 W,.int .i64 H] 26)).alloc (.cells #[.int .i64 0,.int .i64 0,.int .i64 3,.int .i64 3,.slice (some ⟨g,0,none⟩) 9 cap] 32)) 0 0 0 0 (.slice none 0 0)
  simpa using this
end
set_option maxRecDepth 100000 in
set_option maxHeartbeats 1000000 in
theorem around_shade (s:ByteArray) (ia:Option Addr) (nin cin b o cI g cap cR:Nat) (ra:Option Addr) (i0 i1 i2:Int) (c:Int) (w:World) (hz:s.toList=[115,104,97,100,101])
  (hI:ZRow w (some ⟨b,o,none⟩) [i0,i1,i2]) (hl:SRow w (some ⟨g,0,none⟩) l9)
  (KC:∀ w',SRow w' (some ⟨g,0,none⟩) l9→Calls Tryz.prog 127 #[fldV 0 0 3 3 (some ⟨g,0,none⟩) 9 cap,.int .i64 i0,.int .i64 i1,.int .i64 i2] w' (TryP c w')) :
  Calls Tryz.prog 80 #[ndV s ia nin cin (some ⟨b,o,none⟩) 3 cI ra 0 cR,reg 1 1 1 1,fldV 0 0 3 3 (some ⟨g,0,none⟩) 9 cap] w (TryP c w):=by
 have KC:=Lib.hid KC
 have HS:=Lib.hid (ArS.start (s:=s) (ia:=ia) (nin:=nin) (cin:=cin) (nI:=3) (cI:=cI) (ra:=ra) (nR:=0) (cR:=cR) (cap:=cap) (X:=1) (Y:=1) (W:=1) (H:=1) hI hl)
 clear hI hl
 go_enter Tryz.func80,Tryz.ntmps80
 go_upto_region 1 with fail
 generalize (((w.alloc (.cells #[.string s,.slice ia nin cin,.slice (some ⟨b,o,none⟩) 3 cI,.slice ra 0 cR] 61)).alloc (.cells #[.int .i64 1,.int .i64 1,.int .i64 1,.int .i64 1] 26)).alloc (.cells #[.int .i64 0,.int .i64 0,.int .i64 3,.int .i64 3,.slice (some ⟨g,0,none⟩) 9 cap] 32)).alloc (.cells #[.int .i64 0,.int .i64 0,.int .i64 0,.int .i64 0,.slice none 0 0] 32)=W0 at *
 have p0:=HS.out.nd.cells.1
 have l0:=HS.out.nd.lt
 go_wp2_with fail
 clear p0 l0
 refine wp_region_noPanic ?_
 refine wp_region_heldT (ArS w s ia nin cin (some ⟨b,o,none⟩) 3 cI ra 0 cR [i0,i1,i2] g cap) 16 (by kernel_rfl) HS.out.drew (fun hHeld=>?_)
 refine tkA [13,14,15,16,17] 0 rfl (by
  intro w₁ hSw
  obtain ⟨f0,f1,f2,f3,f4⟩:=hSw.bx.cells
  go_simp
  try with_reducible rfl) ?_
 try simp only [qS,qN,qC,qD]
 refine tkO [2,3,4,13,14,15,16,17] 1 rfl ?_
 try simp only [qS,qN,qC,qD]
 refine tkA [3,4,13,14,15,16,17] 2 rfl (by
  intro w₁ hSw
  have p2:=hSw.nd.cells.2.2.1
  go_simp
  try with_reducible rfl) ?_
 try simp only [qS,qN,qC,qD]
 refine tkO [4,13,14,15,16,17] 3 rfl ?_
 try simp only [qS,qN,qC,qD]
 refine tkA [13,14,15,16,17] 4 rfl (by
  intro w₁ hSw
  have x0:w₁.cell? ⟨b,o,none⟩=some (.int .i64 i0):=hSw.i.at_ 0 (by simp)
  go_simp
  try with_reducible rfl) ?_
 try simp only [qS,qN,qC,qD]
 refine tkO [6,7,8,13,14,15,16,17] 5 rfl ?_
 try simp only [qS,qN,qC,qD]
 refine tkA [7,8,13,14,15,16,17] 6 rfl (by
  intro w₁ hSw
  have p2:=hSw.nd.cells.2.2.1
  go_simp
  try with_reducible rfl) ?_
 try simp only [qS,qN,qC,qD]
 refine tkO [8,13,14,15,16,17] 7 rfl ?_
 try simp only [qS,qN,qC,qD]
 refine tkA [13,14,15,16,17] 8 rfl (by
  intro w₁ hSw
  have x0:w₁.cell? ⟨b,o+1,none⟩=some (.int .i64 i1):=hSw.i.at_ 1 (by simp)
  go_simp
  try with_reducible rfl) ?_
 try simp only [qS,qN,qC,qD]
 refine tkO [10,11,12,13,14,15,16,17] 9 rfl ?_
 try simp only [qS,qN,qC,qD]
 refine tkA [11,12,13,14,15,16,17] 10 rfl (by
  intro w₁ hSw
  have p2:=hSw.nd.cells.2.2.1
  go_simp
  try with_reducible rfl) ?_
 try simp only [qS,qN,qC,qD]
 refine tkO [12,13,14,15,16,17] 11 rfl ?_
 try simp only [qS,qN,qC,qD]
 refine tkA [13,14,15,16,17] 12 rfl (by
  intro w₁ hSw
  have x0:w₁.cell? ⟨b,o+2,none⟩=some (.int .i64 i2):=hSw.i.at_ 2 (by simp)
  go_simp
  try with_reducible rfl) ?_
 try simp only [qS,qN,qC,qD]
 refine rdA 13 rfl (fun K hK=>?_)
 go_simp
 (with_reducible refine (KC.out _ hHeld.l).mono ?_)
 rintro e w2 ⟨⟨x,y,p,q,a,n,k,rfl⟩,hb⟩
 have hN:=hHeld.call hb
 clear hb
 go_wp2_with fail
 refine ouA hK hN (fun hHeld=>?_)
 clear hK K
 try simp only [qS,qN,qC,qD]
 refine tkO [16,17] 14 rfl ?_
 try simp only [qS,qN,qC,qD]
 refine tkO [16,17] 15 rfl ?_
 try simp only [qS,qN,qC,qD]
 refine rdA 16 rfl (fun K hK=>?_)
 have q0:=hHeld.rs.frozen 0
 have q1:=hHeld.rs.frozen 1
 have q2:=hHeld.rs.frozen 2
 have q3:=hHeld.rs.frozen 3
 have q4:=hHeld.rs.frozen 4
 obtain ⟨d0,d1,d2,d3,d4⟩:=hHeld.rs.cells
 have lt:=hHeld.rs.lt
 have HB:=Lib.hid hHeld.b
 have HQ:=Lib.hid (st_5 (W:=w2) hHeld.rs (.int .i64 x) (.int .i64 y) (.int .i64 p) (.int .i64 q) (.slice a n k) _ rfl)
 go_simp
 refine ouB hK ?_
 clear hK K
 try simp only [qS,qN,qC,qD]
 refine rdA 17 rfl (fun K hK=>?_)
 go_simp
 refine ouB hK ?_
 clear hK K
 try simp only [qS,qN,qC,qD]
 refine wpAnyT_done (by kernel_rfl) ?_ _
 refine NoPanic.normal ?_
 obtain ⟨e5,b5⟩:=HQ.out
 have lt5:w.heap.size+3<(((((w2.setCell ⟨w.heap.size+3,0,none⟩ (.int .i64 x)).setCell ⟨w.heap.size+3,1,none⟩ (.int .i64 y)).setCell ⟨w.heap.size+3,2,none⟩ (.int .i64 p)).setCell ⟨w.heap.size+3,3,none⟩ (.int .i64 q)).setCell ⟨w.heap.size+3,4,none⟩ (.slice a n k)).heap.size:=by simpa using lt
 clear HQ d0 d1 d2 d3 d4 q0 q1 q2 q3 q4
 generalize ((((w2.setCell ⟨w.heap.size+3,0,none⟩ (.int .i64 x)).setCell ⟨w.heap.size+3,1,none⟩ (.int .i64 y)).setCell ⟨w.heap.size+3,2,none⟩ (.int .i64 p)).setCell ⟨w.heap.size+3,3,none⟩ (.int .i64 q)).setCell ⟨w.heap.size+3,4,none⟩ (.slice a n k)=W5 at *
 have z0:W5.cell? ⟨w.heap.size+3,0,none⟩=some (.int .i64 x):=cell_of_row W5 _ 0 _ _ _ e5
 have z1:W5.cell? ⟨w.heap.size+3,1,none⟩=some (.int .i64 y):=cell_of_row W5 _ 1 _ _ _ e5
 have z2:W5.cell? ⟨w.heap.size+3,2,none⟩=some (.int .i64 p):=cell_of_row W5 _ 2 _ _ _ e5
 have z3:W5.cell? ⟨w.heap.size+3,3,none⟩=some (.int .i64 q):=cell_of_row W5 _ 3 _ _ _ e5
 have z4:W5.cell? ⟨w.heap.size+3,4,none⟩=some (.slice a n k):=cell_of_row W5 _ 4 _ _ _ e5
 have hb:=HB.out.trans (b5.mono (by omega))
 clear e5 b5 HB
 go_wp2_with fail
 exact bodyPost_ret (v:=.tuple #[fldV x y p q a n k,.int .i64 c]) (by simp [results,Tryz.results80,go_sem, *]) rfl ⟨⟨x,y,p,q,a,n,k,rfl⟩,hb⟩
theorem SRow.setC {w:World} {g:Nat} {l:List Nat} (h:SRow w (some ⟨g,0,none⟩) l) {p:Addr} (hp:g≠p.block) (u:Value):SRow (w.setCell p u) (some ⟨g,0,none⟩) l:=by
 obtain ⟨h1,h2⟩:=h
 refine ⟨h1,?_⟩
 rcases h2 with h2|⟨b,o,e,hc⟩
 ·exact .inl h2
 ·cases e
  refine .inr ⟨g,0,rfl,fun i hi=>?_⟩
  rw [←hc i hi]
  exact World.cell?_of_block (w:=w) (w':=w.setCell p u) (a:=⟨g,0+i,none⟩) (Below.heap_setCell w p u g hp)
set_option maxRecDepth 100000 in
set_option maxHeartbeats 1000000 in
theorem tried_o (s:ByteArray) (ia:Option Addr) (nin cin:Nat) (la:Option Addr) (nI cI:Nat) (ra:Option Addr) (nR cR:Nat) (c:Int) (w:World) (hz:(s.toList == [115,104,97,100,101])=false)
  (KA:∀ w' sb g cap,Below w.heap.size w w'→Fld w' sb 0 0 3 3 (.slice (some ⟨g,0,none⟩) 9 cap)→SRow w' (some ⟨g,0,none⟩) l9→Calls Tryz.prog 45 #[ndV s ia nin cin la nI cI ra nR cR,reg 0 0 3 3,.slice (some ⟨sb,0,none⟩) 1 1] w' (TryP c w')) :
  Calls Tryz.prog 64 #[ndV s ia nin cin la nI cI ra nR cR] w fun e w'=>e=.returned (.int .i64 c)∧Below w.heap.size w w':=by
 have KA:=Lib.hid KA
 have KF:=Lib.hid (fun w=>fill_ok 0 0 3 3 0 w (by decide) (by decide))
 go_enter Tryz.func64,Tryz.ntmps64
 go_wp2_with fail
 generalize hW0:(w.alloc (.cells #[.string s,.slice ia nin cin,.slice la nI cI,.slice ra nR cR] 61)).alloc (.cells #[.int .i64 0,.int .i64 0,.int .i64 3,.int .i64 3] 26)=W0
 have b0:Below w.heap.size w W0:=by subst hW0;exact qBl
 have A0:NdAt W0 w.heap.size s ia nin cin la nI cI ra nR cR:=by
  exact qx36
 have G0:Reg W0 (w.heap.size+1) 0 0 3 3:=by
  subst hW0
  have:=Reg.new (w.alloc (.cells #[.string s,.slice ia nin cin,.slice la nI cI,.slice ra nR cR] 61)) 0 0 3 3
  simpa using this
 refine (KF.out W0).mono ?_
 rintro e w1 ⟨⟨x,y,p,q,a,n,k,rfl,ho⟩,hb⟩
 rcases ho with ⟨h,_⟩|⟨_,rfl,rfl,rfl,rfl,g,rfl,rfl,ho⟩
 ·exact absurd rfl h
 rw [fill9] at ho ⊢
 have hrow:=ho.row (by decide)
 have hg2:w.heap.size+2≤g:=by
  have h1:=ho.lt.1
  have h2:W0.heap.size=w.heap.size+2:=by subst hW0;simp
  omega
 have HL1:=Lib.hid hrow
 have HA1:=Lib.hid (A0.below hb A0.lt)
 have HG1:=Lib.hid (G0.below hb G0.lt)
 have HB1:=Lib.hid (b0.trans (hb.mono b0.size))
 clear hW0 b0 A0 G0 hb ho hrow KF
 obtain ⟨p0,p1,p2,p3⟩:=HA1.out.cells
 obtain ⟨r0,r1,r2,r3⟩:=HG1.out.cells
 have l0:=HA1.out.lt
 have l1:=HG1.out.lt
 go_wp2_with fail
 generalize hW2:(w1.alloc (.cells #[.int .i64 0,.int .i64 0,.int .i64 3,.int .i64 3,.slice (some ⟨g,0,none⟩) 9 k] 32)).alloc (.cells #[.int .i64 0,.int .i64 0,.int .i64 3,.int .i64 3,.slice (some ⟨g,0,none⟩) 9 k] 32)=W2 at *
 have b2:Below w1.heap.size w1 W2:=by subst hW2;exact qBl
 have F2:Fld W2 (w1.heap.size+1) 0 0 3 3 (.slice (some ⟨g,0,none⟩) 9 k):=by
  subst hW2
  have:=Fld.new (w1.alloc (.cells #[.int .i64 0,.int .i64 0,.int .i64 3,.int .i64 3,.slice (some ⟨g,0,none⟩) 9 k] 32)) 0 0 3 3 (.slice (some ⟨g,0,none⟩) 9 k)
  simpa using this
 have HB2:=Lib.hid (HB1.out.trans (b2.mono HB1.out.size))
 refine (KA.out W2 (w1.heap.size+1) g k HB2.out F2 (HL1.out.below b2)).mono ?_
 rintro e w2 ⟨⟨x,y,p,q,a,n,k2,rfl⟩,hb⟩
 have HB3:=Lib.hid (HB2.out.trans (hb.mono HB2.out.size))
 clear hb F2 b2 hW2
 go_wp2_with fail
 go_ret
 have hb:=HB3.out
 exact ⟨rfl,(qBo hb)⟩
set_option maxRecDepth 100000 in
set_option maxHeartbeats 1000000 in
theorem tried_s (s:ByteArray) (ia:Option Addr) (nin cin:Nat) (la:Option Addr) (nI cI:Nat) (ra:Option Addr) (nR cR:Nat) (c:Int) (w:World) (hz:s.toList=[115,104,97,100,101])
  (KA:∀ w' sb g cap,Below w.heap.size w w'→Fld w' sb 0 0 3 3 (.slice (some ⟨g,0,none⟩) 9 cap)→SRow w' (some ⟨g,0,none⟩) l9→Calls Tryz.prog 45 #[ndV s ia nin cin la nI cI ra nR cR,reg 1 1 1 1,.slice (some ⟨sb,0,none⟩) 1 1] w' (TryP c w')) :
  Calls Tryz.prog 64 #[ndV s ia nin cin la nI cI ra nR cR] w fun e w'=>e=.returned (.int .i64 c)∧Below w.heap.size w w':=by
 have KA:=Lib.hid KA
 have KF:=Lib.hid (fun w=>fill_ok 0 0 3 3 0 w (by decide) (by decide))
 go_enter Tryz.func64,Tryz.ntmps64
 go_wp2_with fail
 generalize hW0:(w.alloc (.cells #[.string s,.slice ia nin cin,.slice la nI cI,.slice ra nR cR] 61)).alloc (.cells #[.int .i64 0,.int .i64 0,.int .i64 3,.int .i64 3] 26)=W0
 have b0:Below w.heap.size w W0:=by subst hW0;exact qBl
 have A0:NdAt W0 w.heap.size s ia nin cin la nI cI ra nR cR:=by
  exact qx36
 have G0:Reg W0 (w.heap.size+1) 0 0 3 3:=by
  subst hW0
  have:=Reg.new (w.alloc (.cells #[.string s,.slice ia nin cin,.slice la nI cI,.slice ra nR cR] 61)) 0 0 3 3
  simpa using this
 refine (KF.out W0).mono ?_
 rintro e w1 ⟨⟨x,y,p,q,a,n,k,rfl,ho⟩,hb⟩
 rcases ho with ⟨h,_⟩|⟨_,rfl,rfl,rfl,rfl,g,rfl,rfl,ho⟩
 ·exact absurd rfl h
 rw [fill9] at ho ⊢
 have hrow:=ho.row (by decide)
 have hg2:w.heap.size+2≤g:=by
  have h1:=ho.lt.1
  have h2:W0.heap.size=w.heap.size+2:=by subst hW0;simp
  omega
 have HL1:=Lib.hid hrow
 have HA1:=Lib.hid (A0.below hb A0.lt)
 have HG1:=Lib.hid (G0.below hb G0.lt)
 have HB1:=Lib.hid (b0.trans (hb.mono b0.size))
 clear hW0 b0 A0 G0 hb ho hrow KF
 obtain ⟨p0,p1,p2,p3⟩:=HA1.out.cells
 obtain ⟨r0,r1,r2,r3⟩:=HG1.out.cells
 have l0:=HA1.out.lt
 have l1:=HG1.out.lt
 have q0:=frozen_of_row w1 (w.heap.size+1) 0 _ _ HG1.out
 have q1:=frozen_of_row w1 (w.heap.size+1) 1 _ _ HG1.out
 have q2:=frozen_of_row w1 (w.heap.size+1) 2 _ _ HG1.out
 have q3:=frozen_of_row w1 (w.heap.size+1) 3 _ _ HG1.out
 go_upto_region 5 with fail
 obtain ⟨e5,b5⟩:=st_4 (W:=w1) HG1.out (.int .i64 1) (.int .i64 1) (.int .i64 1) (.int .i64 1) _ rfl
 have hrow2:=(((HL1.out.setC (p:=⟨w.heap.size+1,0,none⟩) (by show g≠w.heap.size+1;omega) (.int .i64 1)).setC (p:=⟨w.heap.size+1,1,none⟩) (by show g≠w.heap.size+1;omega) (.int .i64 1)).setC (p:=⟨w.heap.size+1,2,none⟩) (by show g≠w.heap.size+1;omega) (.int .i64 1)).setC (p:=⟨w.heap.size+1,3,none⟩) (by show g≠w.heap.size+1;omega) (.int .i64 1)
 generalize hW2:(((w1.setCell ⟨w.heap.size+1,0,none⟩ (.int .i64 1)).setCell ⟨w.heap.size+1,1,none⟩ (.int .i64 1)).setCell ⟨w.heap.size+1,2,none⟩ (.int .i64 1)).setCell ⟨w.heap.size+1,3,none⟩ (.int .i64 1)=W2 at *
 have hsz:W2.heap.size=w1.heap.size:=by subst hW2;simp
 have HA2:=Lib.hid (HA1.out.below b5 (by omega))
 have HG2:Hid (Reg W2 (w.heap.size+1) 1 1 1 1):=e5
 have HB2:=Lib.hid (HB1.out.trans (b5.mono (by omega)))
 have HL2:=Lib.hid hrow2
 clear hW2 e5 b5 hrow2 p0 p1 p2 p3 r0 r1 r2 r3 l0 l1 q0 q1 q2 q3 HA1 HG1 HB1 HL1 hg2
 rw [←hsz]
 clear hsz
 obtain ⟨p0,p1,p2,p3⟩:=HA2.out.cells
 obtain ⟨r0,r1,r2,r3⟩:=HG2.out.cells
 have l0:=HA2.out.lt
 have l1:=HG2.out.lt
 go_wp2_with fail
 generalize hW3:(W2.alloc (.cells #[.int .i64 0,.int .i64 0,.int .i64 3,.int .i64 3,.slice (some ⟨g,0,none⟩) 9 k] 32)).alloc (.cells #[.int .i64 0,.int .i64 0,.int .i64 3,.int .i64 3,.slice (some ⟨g,0,none⟩) 9 k] 32)=W3 at *
 have b3:Below W2.heap.size W2 W3:=by subst hW3;exact qBl
 have F3:Fld W3 (W2.heap.size+1) 0 0 3 3 (.slice (some ⟨g,0,none⟩) 9 k):=by
  subst hW3
  have:=Fld.new (W2.alloc (.cells #[.int .i64 0,.int .i64 0,.int .i64 3,.int .i64 3,.slice (some ⟨g,0,none⟩) 9 k] 32)) 0 0 3 3 (.slice (some ⟨g,0,none⟩) 9 k)
  simpa using this
 have HB3:=Lib.hid (HB2.out.trans (b3.mono HB2.out.size))
 refine (KA.out W3 (W2.heap.size+1) g k HB3.out F3 (HL2.out.below b3)).mono ?_
 rintro e w3 ⟨⟨x,y,p,q,a,n,k2,rfl⟩,hb⟩
 have HB4:=Lib.hid (HB3.out.trans (hb.mono HB3.out.size))
 clear hb F3 b3 hW3
 go_wp2_with fail
 go_ret
 have hb:=HB4.out
 exact ⟨rfl,(qBo hb)⟩
theorem Calls.tryP {c:Int} {n:Nat} {args:Array Value} {w:World} {Q:Ending→World→Prop} (h:Calls Tryz.prog n args w Q) (hQ:∀ e w',Q e w'→TryP c w e w'):Calls Tryz.prog n args w (TryP c w):=h.mono hQ
theorem try_clamp (s:ByteArray) (ia:Option Addr) (nin cin cI rb ro cR:Nat) (la:Option Addr) (r0 r1:Nat) (w:World) (hz:s.toList=[99,108,97,109,112]) (hI:ZRow w la []) (hR:SRow w (some ⟨rb,ro,none⟩) [r0,r1]) :
  Calls Tryz.prog 64 #[ndV s ia nin cin la 0 cI (some ⟨rb,ro,none⟩) 2 cR] w fun e w'=>e=.returned (.int .i64 (clampC r0 r1))∧Below w.heap.size w w':=by
 have h0:=hR.1.2 r0 (by simp)
 have h1:=hR.1.2 r1 (by simp)
 refine tried_o s ia nin cin la 0 cI (some ⟨rb,ro,none⟩) 2 cR _ w (by rw [hz];rfl) fun w' sb g cap hb hF hl=>?_
 refine ap_clamp s ia nin cin cI rb ro cR g cap sb la r0 r1 _ w' hz (hI.below hb) (hR.below hb) hF hl fun w2 hl2=>?_
 exact Calls.tryP (clamp_op 0 0 3 3 g 0 cap l9 r0 r1 w2 hl2 right9 h0 h1) fun e w' h=>h.tryP
theorem try_select (s:ByteArray) (ia:Option Addr) (nin cin cI rb ro cR:Nat) (la:Option Addr) (r0 r1 r2:Nat) (w:World) (hz:s.toList=[115,101,108,101,99,116]) (hI:ZRow w la []) (hR:SRow w (some ⟨rb,ro,none⟩) [r0,r1,r2]) :
  Calls Tryz.prog 64 #[ndV s ia nin cin la 0 cI (some ⟨rb,ro,none⟩) 3 cR] w fun e w'=>e=.returned (.int .i64 (selC r0 r1 r2))∧Below w.heap.size w w':=by
 have h0:=hR.1.2 r0 (by simp)
 have h1:=hR.1.2 r1 (by simp)
 have h2:=hR.1.2 r2 (by simp)
 refine tried_o s ia nin cin la 0 cI (some ⟨rb,ro,none⟩) 3 cR _ w (by rw [hz];rfl) fun w' sb g cap hb hF hl=>?_
 refine ap_select s ia nin cin cI rb ro cR g cap sb la r0 r1 r2 _ w' hz (hI.below hb) (hR.below hb) hF hl fun w2 hl2=>?_
 by_cases hc:selC r0 r1 r2=0
 ·rw [hc]
  exact Calls.tryP (select_ok 0 0 3 3 g 0 cap l9 r0 r1 r2 w2 hl2 right9 h0 h1 h2 hc) fun e w' h=>h.tryP
 ·exact Calls.tryP (select_bad 0 0 3 3 g 0 cap l9 r0 r1 r2 w2 hl2 right9 h0 h1 h2 hc) fun e w' h=>tryP_err h
theorem try_terrace (s:ByteArray) (ia:Option Addr) (nin cin cI rb ro cR:Nat) (la:Option Addr) (r0 r1:Nat) (w:World) (hz:s.toList=[116,101,114,114,97,99,101]) (hI:ZRow w la []) (hR:SRow w (some ⟨rb,ro,none⟩) [r0,r1]) :
  Calls Tryz.prog 64 #[ndV s ia nin cin la 0 cI (some ⟨rb,ro,none⟩) 2 cR] w fun e w'=>e=.returned (.int .i64 (terC r0 r1))∧Below w.heap.size w w':=by
 have h0:=hR.1.2 r0 (by simp)
 have h1:=hR.1.2 r1 (by simp)
 refine tried_o s ia nin cin la 0 cI (some ⟨rb,ro,none⟩) 2 cR _ w (by rw [hz];rfl) fun w' sb g cap hb hF hl=>?_
 refine ap_terrace s ia nin cin cI rb ro cR g cap sb la r0 r1 _ w' hz (hI.below hb) (hR.below hb) hF hl fun w2 hl2=>?_
 by_cases hc:terC r0 r1=0
 ·rw [hc]
  exact Calls.tryP (terrace_ok 0 0 3 3 g 0 cap l9 r0 r1 w2 hl2 right9 h0 h1 hc) fun e w' h=>by rw [ter_res hc] at h;exact h.tryP
 ·exact Calls.tryP (terrace_bad 0 0 3 3 g 0 cap l9 r0 r1 w2 hl2 right9 h0 h1 hc) fun e w' h=>tryP_err h
theorem try_dither (s:ByteArray) (ia:Option Addr) (nin cin b o cI rb ro cR:Nat) (i0:Int) (r0:Nat) (w:World) (hz:s.toList=[100,105,116,104,101,114]) (hI:ZRow w (some ⟨b,o,none⟩) [i0]) (hR:SRow w (some ⟨rb,ro,none⟩) [r0]) :
  Calls Tryz.prog 64 #[ndV s ia nin cin (some ⟨b,o,none⟩) 1 cI (some ⟨rb,ro,none⟩) 1 cR] w fun e w'=>e=.returned (.int .i64 (dithE r0))∧Below w.heap.size w w':=by
 have h0:=hR.1.2 r0 (by simp)
 refine tried_o s ia nin cin (some ⟨b,o,none⟩) 1 cI (some ⟨rb,ro,none⟩) 1 cR _ w (by rw [hz];rfl) fun w' sb g cap hb hF hl=>?_
 refine ap_dither s ia nin cin b o cI rb ro cR g cap sb i0 r0 _ w' hz (hI.below hb) (hR.below hb) hF hl fun w2 hl2=>?_
 by_cases hc:dithE r0=0
 ·rw [hc]
  exact Calls.tryP (dither_ok 0 0 3 3 g 0 cap l9 (IntKind.u32.wrap i0) r0 w2 hl2 right9 h0 hc) fun e w' h=>by rw [dit_res _ hc] at h;exact h.tryP
 ·exact Calls.tryP (dither_bad 0 0 3 3 g 0 cap l9 (IntKind.u32.wrap i0) r0 w2 hl2 right9 h0 hc) fun e w' h=>tryP_err h
theorem try_speckle (s:ByteArray) (ia:Option Addr) (nin cin b o cI rb ro cR:Nat) (i0:Int) (r0:Nat) (w:World) (hz:s.toList=[115,112,101,99,107,108,101]) (hI:ZRow w (some ⟨b,o,none⟩) [i0]) (hR:SRow w (some ⟨rb,ro,none⟩) [r0]) :
  Calls Tryz.prog 64 #[ndV s ia nin cin (some ⟨b,o,none⟩) 1 cI (some ⟨rb,ro,none⟩) 1 cR] w fun e w'=>e=.returned (.int .i64 (shareE r0))∧Below w.heap.size w w':=by
 have h0:=hR.1.2 r0 (by simp)
 refine tried_o s ia nin cin (some ⟨b,o,none⟩) 1 cI (some ⟨rb,ro,none⟩) 1 cR _ w (by rw [hz];rfl) fun w' sb g cap hb hF hl=>?_
 refine ap_speckle s ia nin cin b o cI rb ro cR g cap sb i0 r0 _ w' hz (hI.below hb) (hR.below hb) hF hl fun w2 hl2=>?_
 by_cases hc:shareE r0=0
 ·rw [hc]
  exact Calls.tryP (speckle_ok 0 0 3 3 l9 (IntKind.u32.wrap i0) r0 w2 right9 h0 hc) fun e w' h=>h.tryP
 ·exact Calls.tryP (speckle_bad 0 0 3 3 l9 (IntKind.u32.wrap i0) r0 w2 right9 h0 hc) fun e w' h=>tryP_err h
theorem try_shade (s:ByteArray) (ia:Option Addr) (nin cin b o cI cR:Nat) (ra:Option Addr) (i0 i1 i2:Int) (w:World) (hz:s.toList=[115,104,97,100,101]) (hI:ZRow w (some ⟨b,o,none⟩) [i0,i1,i2]) (hR:SRow w ra []) :
  Calls Tryz.prog 64 #[ndV s ia nin cin (some ⟨b,o,none⟩) 3 cI ra 0 cR] w fun e w'=>e=.returned (.int .i64 (lightE i0 i1 i2))∧Below w.heap.size w w':=by
 refine tried_s s ia nin cin (some ⟨b,o,none⟩) 3 cI ra 0 cR _ w hz fun w' sb g cap hb hF hl=>?_
 refine ap_shade s ia nin cin b o cI g cap sb cR ra i0 i1 i2 _ w' hz (hI.below hb) (hR.below hb) hF hl fun w2 hI2 hl2=>?_
 refine around_shade s ia nin cin b o cI g cap cR ra i0 i1 i2 _ w2 hz hI2 hl2 fun w3 hl3=>?_
 by_cases hc:lightE i0 i1 i2=0
 ·rw [hc]
  exact Calls.tryP (shade_ok 0 0 3 3 g 0 cap l9 i0 i1 i2 w3 hl3 right9 (by decide) (by decide) hc _ rfl) fun e w' h=>by rw [shade_res hc] at h;exact h.tryP
 ·exact Calls.tryP (shade_bad 0 0 3 3 g 0 cap l9 i0 i1 i2 w3 hl3 right9 (by decide) (by decide) hc) fun e w' h=>tryP_err h
open Ieee.Format (conv_exact const_1 const_0 const_2 conv_24 Hn)
def le1 (t:Nat):Bool:=FloatKind.f32.format.order t 1065353216 == some .lt || FloatKind.f32.format.order t 1065353216 == some .eq
def foldY (k:Int):Nat:=mulF (cv k) 1073741824
def foldT (k P:Int):Nat:=divF (foldY k) (cv P)
def foldS (k P:Int):Nat:=subF 1073741824 (foldT k P)
def foldU (k P:Int):Nat:=if le1 (foldT k P)=true then foldT k P else foldS k P
def liftF (H:Nat) (k P:Int):Nat:=mulF H (easeF (foldU k P))
theorem le1_iff {t:Nat} (h:fin Ieee.single t):le1 t=decide (Ieee.single.V t≤1):=by
 have b:(FloatKind.f32.format.order t 1065353216 == some .lt)=decide (Ieee.single.V t<Ieee.single.V 1065353216):=Ieee.single.order_lt h const_1.1
 have c:(FloatKind.f32.format.order t 1065353216 == some .eq)=decide (Ieee.single.V t=Ieee.single.V 1065353216):=Ieee.single.order_eq h const_1.1
 unfold le1
 rw [b,c,const_1.2.1]
 by_cases c1:Ieee.single.V t<1
 ·have:Ieee.single.V t≤1:=by grind
  simp [c1,this]
 ·by_cases c2:Ieee.single.V t=1
  ·simp [c2]
  ·have:¬ Ieee.single.V t≤1:=by grind
   simp [c1,c2,this]
structure FoldOk (k P:Int):Prop where
 a:fin Ieee.single (cv k)
 b:fin Ieee.single (foldY k)
 c:fin Ieee.single (cv P)
 d:Ieee.single.V (cv P)≠0
 t:fin Ieee.single (foldT k P)
 s:le1 (foldT k P)=false→Share (foldS k P)
 u:le1 (foldT k P)=true→Share (foldT k P)
theorem FoldOk.share {k P:Int} (h:FoldOk k P):Share (foldU k P):=by
 unfold foldU
 by_cases c:le1 (foldT k P)=true
 ·rw [if_pos c];exact h.u c
 ·rw [if_neg c];exact h.s (by simpa using c)
theorem fold_ok {k P:Int} (h0:0≤k) (h1:k<P) (h2:P≤16777216):FoldOk k P:=by
 obtain ⟨a1,a2,a3,a4⟩:=cv_pos h0 (show k<16777216 by omega)
 obtain ⟨c1,c2,c3⟩:=conv_24 (n:=P) (by omega) h2
 have ry:=(Ieee.Format.mulF_spec a1 const_2.1).2
 rw [a2,const_2.2.1] at ry
 obtain ⟨b1,b2,b3⟩:=ry.exact k 1 (by omega) (by omega) (by decide) (by decide) (by rw [Ieee.Format.P2_one])
 have pk:(0:Rat)≤(k:Rat):=Rat.intCast_nonneg.2 h0
 have kp:(k:Rat)≤(P:Rat):=Rat.intCast_le_intCast.2 (by omega)
 have p1:(1:Rat)≤(P:Rat):=Rat.intCast_le_intCast.2 (show 1≤P by omega)
 have p0:0<Ieee.single.V (cv P):=by rw [c2];grind
 obtain ⟨t1,t2,t3⟩:=Ieee.Format.div_bound (x:=foldY k) (y:=cv P) (c:=1073741824) b1 c1 p0 const_2.1 const_2.2.2 (by rw [const_2.2.1];show Ieee.single.V (mulF (cv k) 1073741824)≤_;rw [b2,c2];grind) (by rw [const_2.2.1];show _≤Ieee.single.V (mulF (cv k) 1073741824);rw [b2,c2];grind)
 have t0:=Ieee.Format.div_nonneg (x:=foldY k) (y:=cv P) b1 c1 p0 t1 (by show 0≤Ieee.single.V (mulF (cv k) 1073741824);rw [b2];grind)
 rw [const_2.2.1] at t2
 refine ⟨a1,b1,c1,by grind,t1,fun h=>?_,fun h=>?_⟩
 ·rw [le1_iff (t:=foldT k P) t1] at h
  have h:=of_decide_eq_false h
  have hs:=(Ieee.Format.subF_spec const_2.1 t1).2
  rw [const_2.2.1] at hs
  have t2':Ieee.single.V (foldT k P)≤2:=t2
  obtain ⟨x,y,_⟩:=hs.bound (c:=1065353216) const_1.1 (by decide) (by rw [const_1.2.1];unfold foldT at h;grind) (by rw [const_1.2.1];grind)
  rw [const_1.2.1] at y
  exact ⟨x,hs.nonneg x (by grind),y⟩
 ·rw [le1_iff (t:=foldT k P) t1] at h
  exact ⟨t1,t0,of_decide_eq_true h⟩
theorem lift_bd {H:Nat} {k P:Int} (hH:Bd 20 H) (h:FoldOk k P):fin Ieee.single (easeF (foldU k P))∧Bd 20 (liftF H k P):=by
 obtain ⟨u1,u2,u3⟩:=h.share
 obtain ⟨_,_,_,e1,e2,e3⟩:=Ieee.Format.ease_ok u1 u2 u3
 exact ⟨e1,hH.mul (Share.bd ⟨e1,e2,e3⟩) (by omega)⟩
open Ieee.Format (conv_exact const_1 const_0 const_2 conv_24 Hn negF conv_big conv_nonneg)
theorem floatOfInt_lt32 (n:Int):floatOfInt .f32 n<4294967296:=by
 unfold floatOfInt
 have h:=Ieee.Format.write_lt FloatKind.f32.format (.number (decide (n<0)) n.natAbs 0)
 exact h
def geB (x y:Nat):Bool:=FloatKind.f32.format.order x y == some .gt || FloatKind.f32.format.order x y == some .eq
def leB (x y:Nat):Bool:=FloatKind.f32.format.order x y == some .lt || FloatKind.f32.format.order x y == some .eq
theorem geB_iff {x y:Nat} (hx:fin Ieee.single x) (hy:fin Ieee.single y):geB x y=decide (Ieee.single.V y≤Ieee.single.V x):=by
 have a:(FloatKind.f32.format.order x y == some .gt)=decide (Ieee.single.V y<Ieee.single.V x):=Ieee.single.order_gt hx hy
 have c:(FloatKind.f32.format.order x y == some .eq)=decide (Ieee.single.V x=Ieee.single.V y):=Ieee.single.order_eq hx hy
 unfold geB
 rw [a,c]
 by_cases c1:Ieee.single.V y<Ieee.single.V x
 ·have:Ieee.single.V y≤Ieee.single.V x:=by grind
  simp [c1,this]
 ·by_cases c2:Ieee.single.V x=Ieee.single.V y
  ·simp [c2]
  ·have:¬ Ieee.single.V y≤Ieee.single.V x:=by grind
   simp [c1,c2,this]
theorem leB_iff {x y:Nat} (hx:fin Ieee.single x) (hy:fin Ieee.single y):leB x y=decide (Ieee.single.V x≤Ieee.single.V y):=by
 have a:(FloatKind.f32.format.order x y == some .lt)=decide (Ieee.single.V x<Ieee.single.V y):=Ieee.single.order_lt hx hy
 have c:(FloatKind.f32.format.order x y == some .eq)=decide (Ieee.single.V x=Ieee.single.V y):=Ieee.single.order_eq hx hy
 unfold leB
 rw [a,c]
 by_cases c1:Ieee.single.V x<Ieee.single.V y
 ·have:Ieee.single.V x≤Ieee.single.V y:=by grind
  simp [c1,this]
 ·by_cases c2:Ieee.single.V x=Ieee.single.V y
  ·simp [c2]
  ·have:¬ Ieee.single.V x≤Ieee.single.V y:=by grind
   simp [c1,c2,this]
def fltD (k s:Int):Nat:=divF (cv k) (rootF (cv s))
def fltA (k s W:Int):Nat:=addF (fltD k s) (cv W)
def fltB (W:Int):Nat:=mulF (cv W) 1073741824
def fltT (k s W:Int):Nat:=divF (fltA k s W) (fltB W)
def fltUp (k s W:Int):Bool:=if W=0 then decide (0≤k) else geB (fltD k s) (cv W)
def fltLo (k s W:Int):Bool:=leB (fltD k s) (negF (cv W))
def throwF (T:Nat) (k s W:Int):Nat:=if fltUp k s W=true then T else if fltLo k s W=true then 0 else mulF T (easeF (fltT k s W))
structure FltOk (k s W:Int):Prop where
 a:fin Ieee.single (cv k)
 b:fin Ieee.single (cv s)
 b0:0≤Ieee.single.V (cv s)
 c:fin Ieee.single (rootF (cv s))
 c0:Ieee.single.V (rootF (cv s))≠0
 d:fin Ieee.single (fltD k s)
 w:fin Ieee.single (cv W)
 z:W=0→0≤k→geB (fltD k s) (cv W)=true
 n:W=0→k<0→leB (fltD k s) (negF (cv W))=true
 e:fltUp k s W=false→fltLo k s W=false→fin Ieee.single (fltA k s W)∧fin Ieee.single (fltB W)∧Ieee.single.V (fltB W)≠0∧Share (fltT k s W)
theorem flt_ok {k s W:Int} (hk1:-4398046511104≤k) (hk2:k≤4398046511104) (hs1:1≤s) (hs2:s<16777216) (hw1:0≤W) (hw2:W≤4096):FltOk k s W:=by
 have a:=conv_big (n:=k) (k:=42) (by omega) (by omega) (by omega)
 obtain ⟨b,b0,c,c0⟩:=cv_root hs1 hs2
 have d:=Ieee.Format.div_one a c c0 (by omega)
 obtain ⟨w1,w2,w3,w4⟩:=cv_pos hw1 (show W<16777216 by omega)
 have wl:cv W<4294967296:=floatOfInt_lt32 W
 have nf:=Ieee.Format.negF_fin wl w1
 have nv:=Ieee.Format.negF_V wl
 have c1:0<Ieee.single.V (rootF (cv s)):=by grind
 have hz:W=0→0≤k→geB (fltD k s) (cv W)=true:=fun h h'=>by
  subst h
  have:=Ieee.Format.div_nonneg (x:=cv k) (y:=rootF (cv s)) a.1 c c1 d.1 (conv_nonneg (k:=42) (by omega) h' (by omega))
  rw [geB_iff (x:=fltD k s) d.1 w1,decide_eq_true_eq,w2]
  exact this
 have hn:W=0→k<0→leB (fltD k s) (negF (cv W))=true:=fun h h'=>by
  subst h
  have hv:Ieee.single.V (cv k)≤0:=(Ieee.Format.conv_rounds k).nonpos a.1 (Rat.intCast_nonpos.2 (by omega))
  have hd:=Ieee.Format.div_nonpos (x:=cv k) (y:=rootF (cv s)) a.1 c c1 d.1 hv
  rw [leB_iff (x:=fltD k s) d.1 nf,decide_eq_true_eq,nv,w2]
  have e:-((0:Int):Rat)=0:=by decide
  rw [e]
  exact hd
 refine ⟨a.1,b,b0,c,by grind,d.1,w1,hz,hn,fun h1 h2=>?_⟩
 have hW:W≠0:=by
  intro h
  unfold fltUp at h1
  rw [if_pos h] at h1
  have:=hn h (by have:=of_decide_eq_false h1;omega)
  unfold fltLo at h2
  rw [this] at h2
  exact absurd h2 (by decide)
 unfold fltUp at h1
 rw [if_neg hW,geB_iff (x:=fltD k s) d.1 w1] at h1
 unfold fltLo at h2
 rw [leB_iff (x:=fltD k s) d.1 nf,nv] at h2
 have h1:=of_decide_eq_false h1
 have h2:=of_decide_eq_false h2
 have wp:=cv_gt0 (show 1≤W by omega) (show W<16777216 by omega)
 have rb:=(Ieee.Format.mulF_spec w1 const_2.1).2
 rw [w2,const_2.2.1] at rb
 obtain ⟨b1,b2,b3⟩:=rb.exact W 1 (by omega) (by omega) (by decide) (by decide) (by rw [Ieee.Format.P2_one])
 rw [w3,const_2.2.2] at b3
 have b1':fin Ieee.single (fltB W):=b1
 have b2':Ieee.single.V (fltB W)=Ieee.single.V (cv W)*2:=by rw [w2];exact b2
 have ra:=(Ieee.Format.addF_spec (x:=fltD k s) d.1 w1).2
 obtain ⟨x,y,_⟩:=ra.bound (c:=fltB W) b1' b3 (by rw [b2'];grind) (by rw [b2'];grind)
 exact ⟨x,b1',by rw [b2'];grind,quo_share (x:=fltA k s W) x b1' (by rw [b2'];grind) (ra.nonneg x (by grind)) y⟩
theorem throw_bd {T:Nat} {k s W:Int} (hT:Bd 20 T) (h:FltOk k s W):Bd 20 (throwF T k s W):=by
 unfold throwF
 by_cases c:fltUp k s W=true
 ·rw [if_pos c];exact hT
 ·rw [if_neg c]
  by_cases c':fltLo k s W=true
  ·rw [if_pos c']
   have p:=Ieee.P2_pos 20
   exact ⟨const_0.1,by rw [const_0.2.1];show -Ieee.P2 20≤0;grind,by rw [const_0.2.1];show 0≤Ieee.P2 20;grind⟩
  ·rw [if_neg c']
   obtain ⟨u1,u2,u3⟩:=(h.e (by simpa using c) (by simpa using c')).2.2.2
   obtain ⟨_,_,_,e1,e2,e3⟩:=Ieee.Format.ease_ok u1 u2 u3
   exact hT.mul (Share.bd ⟨e1,e2,e3⟩) (by omega)
open Ieee.Format (const_1)
abbrev foldV (A B P:Int) (H:Nat):Value:=.agg #[.int .i64 A,.int .i64 B,.int .i64 P,.float .f32 H]
def foldE (A B P:Int) (H:Nat):Int:=if (inB 1000 A && inB 1000 B)=false then 3 else if P<2 then 3 else if 16777216<P then 3 else if A=0 then (if B=0 then 12 else htE [H]) else htE [H]
theorem inB_iff {m n:Int}:inB m n=true ↔ -m≤n∧n≤m:=by unfold inB;exact decide_eq_true_iff
theorem fold_zero {A B P:Int} {H:Nat} (h:foldE A B P H=0):(-1000≤A∧A≤1000)∧(-1000≤B∧B≤1000)∧2≤P∧P≤16777216∧htE [H]=0:=by
 unfold foldE at h
 by_cases h1:(inB 1000 A && inB 1000 B)=false
 ·rw [if_pos h1] at h;omega
 ·rw [if_neg h1] at h
  have h1:(inB 1000 A && inB 1000 B)=true:=by simpa using h1
  rw [Bool.and_eq_true,inB_iff,inB_iff] at h1
  by_cases h2:P<2
  ·rw [if_pos h2] at h;omega
  ·rw [if_neg h2] at h
   by_cases h3:16777216<P
   ·rw [if_pos h3] at h;omega
   ·rw [if_neg h3] at h
    refine ⟨h1.1,h1.2,by omega,by omega,?_⟩
    by_cases h4:A=0
    ·rw [if_pos h4] at h
     by_cases h5:B=0
     ·rw [if_pos h5] at h;omega
     ·rw [if_neg h5] at h;exact h
    ·rw [if_neg h4] at h;exact h
set_option maxHeartbeats 1000000 in
theorem check_fold (A B P:Int) (H:Nat) (w:World) (hH:H<4294967296) :
  Calls Tryz.prog 60 #[foldV A B P H] w fun e w'=>e=.returned (.int .i64 (foldE A B P H))∧Below w.heap.size w w':=by
 have K1:=Lib.hid (fun W g h=>heights_one W g H hH h)
 have KW:=Lib.hid (fun W b c0 c1=>within2 1000 b A B W (by decide) (by decide) c0 c1)
 clear hH
 unfold foldE
 generalize htE [H]=a at *
 cases h1:(inB 1000 A && inB 1000 B) with
 | false =>
  rw [h1] at KW
  rw [if_pos rfl]
  clear h1
  exact qx28
 | true =>
  rw [h1] at KW
  rw [if_neg (by decide)]
  clear h1
  by_cases h2:P<2
  ·rw [if_pos h2]
   exact qx28
  ·rw [if_neg h2]
   by_cases h3:16777216<P
   ·rw [if_pos h3]
    exact qx28
   ·rw [if_neg h3]
    by_cases h4:A=0
    ·rw [if_pos h4]
     subst h4
     by_cases h5:B=0
     ·rw [if_pos h5]
      subst h5
      exact qx28
     ·rw [if_neg h5]
      have q2:(B == 0)=false:=by simpa using h5
      exact qx28
    ·rw [if_neg h4]
     have q1:(A == 0)=false:=by simpa using h4
     exact qx28
abbrev faultV (A B C W:Int) (T:Nat):Value:=.agg #[.int .i64 A,.int .i64 B,.int .i64 C,.int .i64 W,.float .f32 T]
def faultE (A B C W:Int) (T:Nat):Int:=if (inB 1000 A && inB 1000 B)=false then 3 else if inB 1099511627776 C=false then 3 else if W<0 then 3 else if 4096<W then 3 else if A=0 then (if B=0 then 12 else htE [T]) else htE [T]
theorem fault_zero {A B C W:Int} {T:Nat} (h:faultE A B C W T=0):(-1000≤A∧A≤1000)∧(-1000≤B∧B≤1000)∧(-1099511627776≤C∧C≤1099511627776)∧(0≤W∧W≤4096)∧(A≠0∨B≠0)∧htE [T]=0:=by
 unfold faultE at h
 by_cases h1:(inB 1000 A && inB 1000 B)=false
 ·rw [if_pos h1] at h;omega
 ·rw [if_neg h1] at h
  have h1:(inB 1000 A && inB 1000 B)=true:=by simpa using h1
  rw [Bool.and_eq_true,inB_iff,inB_iff] at h1
  by_cases h0:inB 1099511627776 C=false
  ·rw [if_pos h0] at h;omega
  ·rw [if_neg h0] at h
   have h0:inB 1099511627776 C=true:=by simpa using h0
   rw [inB_iff] at h0
   by_cases h2:W<0
   ·rw [if_pos h2] at h;omega
   ·rw [if_neg h2] at h
    by_cases h3:4096<W
    ·rw [if_pos h3] at h;omega
    ·rw [if_neg h3] at h
     by_cases h4:A=0
     ·rw [if_pos h4] at h
      by_cases h5:B=0
      ·rw [if_pos h5] at h;omega
      ·rw [if_neg h5] at h;exact ⟨h1.1,h1.2,h0,⟨by omega,by omega⟩,.inr h5,h⟩
     ·rw [if_neg h4] at h;exact ⟨h1.1,h1.2,h0,⟨by omega,by omega⟩,.inl h4,h⟩
set_option maxRecDepth 100000 in
set_option maxHeartbeats 2000000 in
theorem check_fault (A B C W:Int) (T:Nat) (w:World) (hT:T<4294967296) :
  Calls Tryz.prog 58 #[faultV A B C W T] w fun e w'=>e=.returned (.int .i64 (faultE A B C W T))∧Below w.heap.size w w':=by
 have K1:=Lib.hid (fun W g h=>heights_one W g T hT h)
 have KW:=Lib.hid (fun W b c0 c1=>within2 1000 b A B W (by decide) (by decide) c0 c1)
 have KU:=Lib.hid (fun W b c0=>within1 1099511627776 b C W (by decide) (by decide) c0)
 clear hT
 unfold faultE
 generalize htE [T]=a at *
 cases h1:(inB 1000 A && inB 1000 B) with
 | false =>
  rw [h1] at KW
  rw [if_pos rfl]
  clear h1
  exact qx16
 | true =>
  rw [h1] at KW
  rw [if_neg (by decide)]
  clear h1
  cases h0:inB 1099511627776 C with
  | false =>
   rw [h0] at KU
   rw [if_pos rfl]
   clear h0
   exact qx16
  | true =>
   rw [h0] at KU
   rw [if_neg (by decide)]
   clear h0
   by_cases h2:W<0
   ·rw [if_pos h2]
    exact qx16
   ·rw [if_neg h2]
    by_cases h3:4096<W
    ·rw [if_pos h3]
     exact qx16
    ·rw [if_neg h3]
     by_cases h4:A=0
     ·rw [if_pos h4]
      subst h4
      by_cases h5:B=0
      ·rw [if_pos h5]
       subst h5
       exact qx16
      ·rw [if_neg h5]
       have q2:(B == 0)=false:=by simpa using h5
       exact qx16
     ·rw [if_neg h4]
      have q1:(A == 0)=false:=by simpa using h4
      exact qx16
def wB (k lo hi:Int):Bool:=decide (lo≤k) && decide (k≤hi)
def sdE (i c:Int):Int:=if wB i 0 4294967295=true then c else 3
def rngE (i hi:Int):Int:=if wB i 0 hi=true then 0 else 3
def shiftE (i j:Int):Int:=if wB i (-64) 64=true then (if wB j (-64) 64=true then 0 else 3) else 3
theorem rwithin_any (k lo hi:Int) (w:World):Calls Tryz.prog 51 #[.int .i64 k,.int .i64 lo,.int .i64 hi] w fun e w'=>e=.returned (.bool (wB k lo hi))∧w=w':=by
 go_enter Tryz.func51,Tryz.ntmps51
 go_wp2
 all_goals go_ret
 all_goals refine ⟨congrArg (fun b=>Ending.returned (.bool b)) ?_,rfl⟩
 all_goals unfold wB
 all_goals (rw [Bool.eq_iff_iff];simp;try omega)
set_option maxRecDepth 100000 in
set_option maxHeartbeats 2000000 in
theorem num_noise (s:ByteArray) (ia:Option Addr) (nin cin b o cI rb ro cR:Nat) (i0 i1 i2 i3:Int) (r0:Nat) (w:World) (hz:s.toList=[110,111,105,115,101]) (hI:ZRow w (some ⟨b,o,none⟩) [i0,i1,i2,i3]) (hR:SRow w (some ⟨rb,ro,none⟩) [r0]) (hE:htE [r0]=0) :
  Calls Tryz.prog 40 #[ndV s ia nin cin (some ⟨b,o,none⟩) 4 cI (some ⟨rb,ro,none⟩) 1 cR] w fun e w'=>e=.returned (.int .i64 (sdE i1 (frE i0 i2 i3 r0)))∧Below w.heap.size w w':=by
 have h0:=hR.1.2 r0 (by simp)
 have KH:∀ w',SRow w' (some ⟨rb,ro,none⟩) [r0]→Calls Tryz.prog 32 #[.slice (some ⟨rb,ro,none⟩) 1 cR] w' fun e w''=>e=.returned (.int .i64 0)∧w'=w'':=fun w' h=>by
  have:=heights_any (some ⟨rb,ro,none⟩) cR [r0] w' h
  rw [hE] at this
  exact this
 have KH:=Lib.hid KH
 have HI:=Lib.hid hI
 have HR:=Lib.hid hR
 clear hI hR hE
 have KW:=Lib.hid (fun k lo hi w=>rwithin_any k lo hi w)
 have KM:∀ w',ZRow w' (some ⟨b,o,none⟩) [i0,i1,i2,i3]→SRow w' (some ⟨rb,ro,none⟩) [r0]→_:=fun w' hI hR=>mk_fractal s ia nin cin b o cI rb ro 1 cR i0 i1 i2 i3 r0 [r0] w' hI hR rfl rfl
 have KM:=Lib.hid KM
 have KC:=Lib.hid (fun w'=>frcheck_any i0 (i1%4294967296) i2 i3 r0 h0 w')
 unfold frV at KC
 unfold sdE
 cases hw:wB i1 0 4294967295 with
 | true =>
  rw [if_pos rfl]
  exact qx9
 | false =>
  rw [if_neg (by decide)]
  go_enter Tryz.func40,Tryz.ntmps40
  go_upto_region 1 with fail
  generalize hW0:w.alloc (.cells #[.string s,.slice ia nin cin,.slice (some ⟨b,o,none⟩) 4 cI,.slice (some ⟨rb,ro,none⟩) 1 cR] 61)=W0
  have A0:NdAt W0 w.heap.size s ia nin cin (some ⟨b,o,none⟩) 4 cI (some ⟨rb,ro,none⟩) 1 cR:=by subst hW0;exact NdAt.new _ _ _ _ _ _ _ _ _ _ _
  have b0:Below w.heap.size w W0:=by subst hW0;exact qBl
  have HB0:=Lib.hid b0
  have HI0:=Lib.hid (HI.out.below b0)
  have HR0:=Lib.hid (HR.out.below b0)
  obtain ⟨p0,p1,p2,p3⟩:=A0.cells
  have l0:=A0.lt
  clear hW0 A0 b0 HI HR
  have x0:W0.cell? ⟨b,o,none⟩=some (.int .i64 i0):=HI0.out.at_ 0 (by simp)
  have x1:W0.cell? ⟨b,o+1,none⟩=some (.int .i64 i1):=HI0.out.at_ 1 (by simp)
  have x2:W0.cell? ⟨b,o+2,none⟩=some (.int .i64 i2):=HI0.out.at_ 2 (by simp)
  have x3:W0.cell? ⟨b,o+3,none⟩=some (.int .i64 i3):=HI0.out.at_ 3 (by simp)
  have lb:b<W0.heap.size:=HI0.out.lt (by simp)
  have y0:W0.cell? ⟨rb,ro,none⟩=some (.float .f32 r0):=HR0.out.cell1 0 (by simp)
  have lrb:rb<W0.heap.size:=HR0.out.lt1 (by simp)
  exact qx17
set_option maxRecDepth 100000 in
set_option maxHeartbeats 2000000 in
theorem num_warp (s:ByteArray) (ia:Option Addr) (nin cin b o cI rb ro cR:Nat) (i0 i1 i2 i3:Int) (r0 r1:Nat) (w:World) (hz:s.toList=[119,97,114,112]) (hI:ZRow w (some ⟨b,o,none⟩) [i0,i1,i2,i3]) (hR:SRow w (some ⟨rb,ro,none⟩) [r0,r1]) (hE:htE [r0,r1]=0) :
  Calls Tryz.prog 40 #[ndV s ia nin cin (some ⟨b,o,none⟩) 4 cI (some ⟨rb,ro,none⟩) 2 cR] w fun e w'=>e=.returned (.int .i64 (sdE i1 (wpE i0 i2 i3 r0 r1)))∧Below w.heap.size w w':=by
 have h0:=hR.1.2 r0 (by simp)
 have h1:=hR.1.2 r1 (by simp)
 have KH:∀ w',SRow w' (some ⟨rb,ro,none⟩) [r0,r1]→Calls Tryz.prog 32 #[.slice (some ⟨rb,ro,none⟩) 2 cR] w' fun e w''=>e=.returned (.int .i64 0)∧w'=w'':=fun w' h=>by
  have:=heights_any (some ⟨rb,ro,none⟩) cR [r0,r1] w' h
  rw [hE] at this
  exact this
 have KH:=Lib.hid KH
 have HI:=Lib.hid hI
 have HR:=Lib.hid hR
 clear hI hR hE
 have KW:=Lib.hid (fun k lo hi w=>rwithin_any k lo hi w)
 have KM:∀ w',ZRow w' (some ⟨b,o,none⟩) [i0,i1,i2,i3]→SRow w' (some ⟨rb,ro,none⟩) [r0,r1]→_:=fun w' hI hR=>mk_warp s ia nin cin b o cI rb ro 2 cR i0 i1 i2 i3 r0 r1 [r0,r1] w' hI hR rfl rfl
 have KM:=Lib.hid KM
 have KC:=Lib.hid (fun w'=>wpcheck_any i0 (i1%4294967296) i2 i3 r0 r1 h0 h1 w')
 unfold wpV at KC KM
 unfold sdE
 cases hw:wB i1 0 4294967295 with
 | true =>
  rw [if_pos rfl]
  go_enter Tryz.func40,Tryz.ntmps40
  go_upto_region 1 with fail
  generalize hW0:w.alloc (.cells #[.string s,.slice ia nin cin,.slice (some ⟨b,o,none⟩) 4 cI,.slice (some ⟨rb,ro,none⟩) 2 cR] 61)=W0
  have A0:NdAt W0 w.heap.size s ia nin cin (some ⟨b,o,none⟩) 4 cI (some ⟨rb,ro,none⟩) 2 cR:=by subst hW0;exact NdAt.new _ _ _ _ _ _ _ _ _ _ _
  have b0:Below w.heap.size w W0:=by subst hW0;exact qBl
  have HB0:=Lib.hid b0
  have HI0:=Lib.hid (HI.out.below b0)
  have HR0:=Lib.hid (HR.out.below b0)
  obtain ⟨p0,p1,p2,p3⟩:=A0.cells
  have l0:=A0.lt
  clear hW0 A0 b0 HI HR
  have x0:W0.cell? ⟨b,o,none⟩=some (.int .i64 i0):=HI0.out.at_ 0 (by simp)
  have x1:W0.cell? ⟨b,o+1,none⟩=some (.int .i64 i1):=HI0.out.at_ 1 (by simp)
  have x2:W0.cell? ⟨b,o+2,none⟩=some (.int .i64 i2):=HI0.out.at_ 2 (by simp)
  have x3:W0.cell? ⟨b,o+3,none⟩=some (.int .i64 i3):=HI0.out.at_ 3 (by simp)
  have lb:b<W0.heap.size:=HI0.out.lt (by simp)
  have y0:W0.cell? ⟨rb,ro,none⟩=some (.float .f32 r0):=HR0.out.cell1 0 (by simp)
  have y1:W0.cell? ⟨rb,ro+1,none⟩=some (.float .f32 r1):=HR0.out.cell1 1 (by simp)
  exact qx10
 | false =>
  rw [if_neg (by decide)]
  go_enter Tryz.func40,Tryz.ntmps40
  go_upto_region 1 with fail
  generalize hW0:w.alloc (.cells #[.string s,.slice ia nin cin,.slice (some ⟨b,o,none⟩) 4 cI,.slice (some ⟨rb,ro,none⟩) 2 cR] 61)=W0
  have A0:NdAt W0 w.heap.size s ia nin cin (some ⟨b,o,none⟩) 4 cI (some ⟨rb,ro,none⟩) 2 cR:=by subst hW0;exact NdAt.new _ _ _ _ _ _ _ _ _ _ _
  have b0:Below w.heap.size w W0:=by subst hW0;exact qBl
  have HB0:=Lib.hid b0
  have HI0:=Lib.hid (HI.out.below b0)
  have HR0:=Lib.hid (HR.out.below b0)
  obtain ⟨p0,p1,p2,p3⟩:=A0.cells
  have l0:=A0.lt
  clear hW0 A0 b0 HI HR
  have x0:W0.cell? ⟨b,o,none⟩=some (.int .i64 i0):=HI0.out.at_ 0 (by simp)
  have x1:W0.cell? ⟨b,o+1,none⟩=some (.int .i64 i1):=HI0.out.at_ 1 (by simp)
  have x2:W0.cell? ⟨b,o+2,none⟩=some (.int .i64 i2):=HI0.out.at_ 2 (by simp)
  have x3:W0.cell? ⟨b,o+3,none⟩=some (.int .i64 i3):=HI0.out.at_ 3 (by simp)
  have lb:b<W0.heap.size:=HI0.out.lt (by simp)
  have y0:W0.cell? ⟨rb,ro,none⟩=some (.float .f32 r0):=HR0.out.cell1 0 (by simp)
  have y1:W0.cell? ⟨rb,ro+1,none⟩=some (.float .f32 r1):=HR0.out.cell1 1 (by simp)
  have lrb:rb<W0.heap.size:=HR0.out.lt1 (by simp)
  exact qx17
set_option maxRecDepth 100000 in
set_option maxHeartbeats 2000000 in
theorem num_stamp (s:ByteArray) (ia:Option Addr) (nin cin b o cI rb ro cR:Nat) (i0 i1 i2 i3:Int) (r0:Nat) (w:World) (hz:s.toList=[115,116,97,109,112]) (hI:ZRow w (some ⟨b,o,none⟩) [i0,i1,i2,i3]) (hR:SRow w (some ⟨rb,ro,none⟩) [r0]) (hE:htE [r0]=0) :
  Calls Tryz.prog 40 #[ndV s ia nin cin (some ⟨b,o,none⟩) 4 cI (some ⟨rb,ro,none⟩) 1 cR] w fun e w'=>e=.returned (.int .i64 (brushE i0 i1 i2 i3 r0))∧Below w.heap.size w w':=by
 have h0:=hR.1.2 r0 (by simp)
 have KH:∀ w',SRow w' (some ⟨rb,ro,none⟩) [r0]→Calls Tryz.prog 32 #[.slice (some ⟨rb,ro,none⟩) 1 cR] w' fun e w''=>e=.returned (.int .i64 0)∧w'=w'':=fun w' h=>by
  have:=heights_any (some ⟨rb,ro,none⟩) cR [r0] w' h
  rw [hE] at this
  exact this
 have KH:=Lib.hid KH
 have HI:=Lib.hid hI
 have HR:=Lib.hid hR
 clear hI hR hE
 have KW:=Lib.hid (fun k lo hi w=>rwithin_any k lo hi w)
 have KM:∀ w',ZRow w' (some ⟨b,o,none⟩) [i0,i1,i2,i3]→SRow w' (some ⟨rb,ro,none⟩) [r0]→_:=fun w' hI hR=>mk_brush s ia nin cin b o cI rb ro 1 cR i0 i1 i2 i3 r0 [r0] w' hI hR rfl rfl
 have KM:=Lib.hid KM
 have KC:=Lib.hid (fun w'=>check_brush i0 i1 i2 i3 r0 w' h0)
 exact qx9
set_option maxRecDepth 100000 in
set_option maxHeartbeats 2000000 in
theorem num_fault (s:ByteArray) (ia:Option Addr) (nin cin b o cI rb ro cR:Nat) (i0 i1 i2 i3:Int) (r0:Nat) (w:World) (hz:s.toList=[102,97,117,108,116]) (hI:ZRow w (some ⟨b,o,none⟩) [i0,i1,i2,i3]) (hR:SRow w (some ⟨rb,ro,none⟩) [r0]) (hE:htE [r0]=0) :
  Calls Tryz.prog 40 #[ndV s ia nin cin (some ⟨b,o,none⟩) 4 cI (some ⟨rb,ro,none⟩) 1 cR] w fun e w'=>e=.returned (.int .i64 (faultE i0 i1 i2 i3 r0))∧Below w.heap.size w w':=by
 have h0:=hR.1.2 r0 (by simp)
 have KH:∀ w',SRow w' (some ⟨rb,ro,none⟩) [r0]→Calls Tryz.prog 32 #[.slice (some ⟨rb,ro,none⟩) 1 cR] w' fun e w''=>e=.returned (.int .i64 0)∧w'=w'':=fun w' h=>by
  have:=heights_any (some ⟨rb,ro,none⟩) cR [r0] w' h
  rw [hE] at this
  exact this
 have KH:=Lib.hid KH
 have HI:=Lib.hid hI
 have HR:=Lib.hid hR
 clear hI hR hE
 have KW:=Lib.hid (fun k lo hi w=>rwithin_any k lo hi w)
 have KM:∀ w',ZRow w' (some ⟨b,o,none⟩) [i0,i1,i2,i3]→SRow w' (some ⟨rb,ro,none⟩) [r0]→_:=fun w' hI hR=>mk_fault s ia nin cin b o cI rb ro 1 cR i0 i1 i2 i3 r0 [r0] w' hI hR rfl rfl
 have KM:=Lib.hid KM
 have KC:=Lib.hid (fun w'=>check_fault i0 i1 i2 i3 r0 w' h0)
 exact qx9
set_option maxRecDepth 100000 in
set_option maxHeartbeats 2000000 in
theorem num_fold (s:ByteArray) (ia:Option Addr) (nin cin b o cI rb ro cR:Nat) (i0 i1 i2:Int) (r0:Nat) (w:World) (hz:s.toList=[102,111,108,100]) (hI:ZRow w (some ⟨b,o,none⟩) [i0,i1,i2]) (hR:SRow w (some ⟨rb,ro,none⟩) [r0]) (hE:htE [r0]=0) :
  Calls Tryz.prog 40 #[ndV s ia nin cin (some ⟨b,o,none⟩) 3 cI (some ⟨rb,ro,none⟩) 1 cR] w fun e w'=>e=.returned (.int .i64 (foldE i0 i1 i2 r0))∧Below w.heap.size w w':=by
 have h0:=hR.1.2 r0 (by simp)
 have KH:∀ w',SRow w' (some ⟨rb,ro,none⟩) [r0]→Calls Tryz.prog 32 #[.slice (some ⟨rb,ro,none⟩) 1 cR] w' fun e w''=>e=.returned (.int .i64 0)∧w'=w'':=fun w' h=>by
  have:=heights_any (some ⟨rb,ro,none⟩) cR [r0] w' h
  rw [hE] at this
  exact this
 have KH:=Lib.hid KH
 have HI:=Lib.hid hI
 have HR:=Lib.hid hR
 clear hI hR hE
 have KW:=Lib.hid (fun k lo hi w=>rwithin_any k lo hi w)
 have KM:∀ w',ZRow w' (some ⟨b,o,none⟩) [i0,i1,i2]→SRow w' (some ⟨rb,ro,none⟩) [r0]→_:=fun w' hI hR=>mk_fold s ia nin cin b o cI rb ro 1 cR i0 i1 i2 r0 [r0] w' hI hR rfl rfl
 have KM:=Lib.hid KM
 have KC:=Lib.hid (fun w'=>check_fold i0 i1 i2 r0 w' h0)
 go_enter Tryz.func40,Tryz.ntmps40
 go_upto_region 1 with fail
 generalize hW0:w.alloc (.cells #[.string s,.slice ia nin cin,.slice (some ⟨b,o,none⟩) 3 cI,.slice (some ⟨rb,ro,none⟩) 1 cR] 61)=W0
 have A0:NdAt W0 w.heap.size s ia nin cin (some ⟨b,o,none⟩) 3 cI (some ⟨rb,ro,none⟩) 1 cR:=by subst hW0;exact NdAt.new _ _ _ _ _ _ _ _ _ _ _
 have b0:Below w.heap.size w W0:=by subst hW0;exact qBl
 have HB0:=Lib.hid b0
 have HI0:=Lib.hid (HI.out.below b0)
 have HR0:=Lib.hid (HR.out.below b0)
 obtain ⟨p0,p1,p2,p3⟩:=A0.cells
 have l0:=A0.lt
 clear hW0 A0 b0 HI HR
 have x0:W0.cell? ⟨b,o,none⟩=some (.int .i64 i0):=HI0.out.at_ 0 (by simp)
 have x1:W0.cell? ⟨b,o+1,none⟩=some (.int .i64 i1):=HI0.out.at_ 1 (by simp)
 have x2:W0.cell? ⟨b,o+2,none⟩=some (.int .i64 i2):=HI0.out.at_ 2 (by simp)
 have lb:b<W0.heap.size:=HI0.out.lt (by simp)
 have y0:W0.cell? ⟨rb,ro,none⟩=some (.float .f32 r0):=HR0.out.cell1 0 (by simp)
 exact qx10
set_option maxRecDepth 100000 in
set_option maxHeartbeats 2000000 in
theorem num_thermal (s:ByteArray) (ia:Option Addr) (nin cin b o cI rb ro cR:Nat) (i0:Int) (r0 r1:Nat) (w:World) (hz:s.toList=[116,104,101,114,109,97,108]) (hI:ZRow w (some ⟨b,o,none⟩) [i0]) (hR:SRow w (some ⟨rb,ro,none⟩) [r0,r1]) (hE:htE [r0,r1]=0) :
  Calls Tryz.prog 40 #[ndV s ia nin cin (some ⟨b,o,none⟩) 1 cI (some ⟨rb,ro,none⟩) 2 cR] w fun e w'=>e=.returned (.int .i64 (wearE r0 r1 i0))∧Below w.heap.size w w':=by
 have h0:=hR.1.2 r0 (by simp)
 have h1:=hR.1.2 r1 (by simp)
 have KH:∀ w',SRow w' (some ⟨rb,ro,none⟩) [r0,r1]→Calls Tryz.prog 32 #[.slice (some ⟨rb,ro,none⟩) 2 cR] w' fun e w''=>e=.returned (.int .i64 0)∧w'=w'':=fun w' h=>by
  have:=heights_any (some ⟨rb,ro,none⟩) cR [r0,r1] w' h
  rw [hE] at this
  exact this
 have KH:=Lib.hid KH
 have HI:=Lib.hid hI
 have HR:=Lib.hid hR
 clear hI hR hE
 have KW:=Lib.hid (fun k lo hi w=>rwithin_any k lo hi w)
 have KM:∀ w',ZRow w' (some ⟨b,o,none⟩) [i0]→SRow w' (some ⟨rb,ro,none⟩) [r0,r1]→_:=fun w' hI hR=>mk_wear s ia nin cin b o cI rb ro 2 cR i0 r0 r1 [r0,r1] w' hI hR rfl rfl
 have KM:=Lib.hid KM
 have KC:=Lib.hid (fun w'=>check_wear r0 r1 i0 w' h0 h1)
 go_enter Tryz.func40,Tryz.ntmps40
 go_upto_region 1 with fail
 generalize hW0:w.alloc (.cells #[.string s,.slice ia nin cin,.slice (some ⟨b,o,none⟩) 1 cI,.slice (some ⟨rb,ro,none⟩) 2 cR] 61)=W0
 have A0:NdAt W0 w.heap.size s ia nin cin (some ⟨b,o,none⟩) 1 cI (some ⟨rb,ro,none⟩) 2 cR:=by subst hW0;exact NdAt.new _ _ _ _ _ _ _ _ _ _ _
 have b0:Below w.heap.size w W0:=by subst hW0;exact qBl
 have HB0:=Lib.hid b0
 have HI0:=Lib.hid (HI.out.below b0)
 have HR0:=Lib.hid (HR.out.below b0)
 obtain ⟨p0,p1,p2,p3⟩:=A0.cells
 have l0:=A0.lt
 clear hW0 A0 b0 HI HR
 have x0:W0.cell? ⟨b,o,none⟩=some (.int .i64 i0):=HI0.out.at_ 0 (by simp)
 have lb:b<W0.heap.size:=HI0.out.lt (by simp)
 have y0:W0.cell? ⟨rb,ro,none⟩=some (.float .f32 r0):=HR0.out.cell1 0 (by simp)
 have y1:W0.cell? ⟨rb,ro+1,none⟩=some (.float .f32 r1):=HR0.out.cell1 1 (by simp)
 exact qx10
set_option maxRecDepth 100000 in
set_option maxHeartbeats 2000000 in
theorem num_shift (s:ByteArray) (ia:Option Addr) (nin cin b o cI cR:Nat) (ra:Option Addr) (i0 i1:Int) (w:World) (hz:s.toList=[115,104,105,102,116]) (hI:ZRow w (some ⟨b,o,none⟩) [i0,i1]) (hR:SRow w ra []) (hE:htE []=0) :
  Calls Tryz.prog 40 #[ndV s ia nin cin (some ⟨b,o,none⟩) 2 cI ra 0 cR] w fun e w'=>e=.returned (.int .i64 (shiftE i0 i1))∧Below w.heap.size w w':=by
 have KH:∀ w',SRow w' ra []→Calls Tryz.prog 32 #[.slice ra 0 cR] w' fun e w''=>e=.returned (.int .i64 0)∧w'=w'':=fun w' h=>by
  have:=heights_any ra cR [] w' h
  rw [hE] at this
  exact this
 have KH:=Lib.hid KH
 have HI:=Lib.hid hI
 have HR:=Lib.hid hR
 clear hI hR hE
 have KW:=Lib.hid (fun k lo hi w=>rwithin_any k lo hi w)
 unfold shiftE
 cases hw:wB i0 (-64) 64 with
 | true =>
  rw [if_pos rfl]
  cases hw2:wB i1 (-64) 64 with
  | true =>
   rw [if_pos rfl]
   go_enter Tryz.func40,Tryz.ntmps40
   go_upto_region 1 with fail
   generalize hW0:w.alloc (.cells #[.string s,.slice ia nin cin,.slice (some ⟨b,o,none⟩) 2 cI,.slice ra 0 cR] 61)=W0
   have A0:NdAt W0 w.heap.size s ia nin cin (some ⟨b,o,none⟩) 2 cI ra 0 cR:=by subst hW0;exact NdAt.new _ _ _ _ _ _ _ _ _ _ _
   have b0:Below w.heap.size w W0:=by subst hW0;exact qBl
   have HB0:=Lib.hid b0
   have HI0:=Lib.hid (HI.out.below b0)
   have HR0:=Lib.hid (HR.out.below b0)
   obtain ⟨p0,p1,p2,p3⟩:=A0.cells
   have l0:=A0.lt
   clear hW0 A0 b0 HI HR
   have x0:W0.cell? ⟨b,o,none⟩=some (.int .i64 i0):=HI0.out.at_ 0 (by simp)
   have x1:W0.cell? ⟨b,o+1,none⟩=some (.int .i64 i1):=HI0.out.at_ 1 (by simp)
   have lb:b<W0.heap.size:=HI0.out.lt (by simp)
   exact qx17
  | false =>
   rw [if_neg (by decide)]
   go_enter Tryz.func40,Tryz.ntmps40
   go_upto_region 1 with fail
   generalize hW0:w.alloc (.cells #[.string s,.slice ia nin cin,.slice (some ⟨b,o,none⟩) 2 cI,.slice ra 0 cR] 61)=W0
   have A0:NdAt W0 w.heap.size s ia nin cin (some ⟨b,o,none⟩) 2 cI ra 0 cR:=by subst hW0;exact NdAt.new _ _ _ _ _ _ _ _ _ _ _
   have b0:Below w.heap.size w W0:=by subst hW0;exact qBl
   have HB0:=Lib.hid b0
   have HI0:=Lib.hid (HI.out.below b0)
   have HR0:=Lib.hid (HR.out.below b0)
   obtain ⟨p0,p1,p2,p3⟩:=A0.cells
   have l0:=A0.lt
   clear hW0 A0 b0 HI HR
   have x0:W0.cell? ⟨b,o,none⟩=some (.int .i64 i0):=HI0.out.at_ 0 (by simp)
   have x1:W0.cell? ⟨b,o+1,none⟩=some (.int .i64 i1):=HI0.out.at_ 1 (by simp)
   have lb:b<W0.heap.size:=HI0.out.lt (by simp)
   exact qx17
 | false =>
  rw [if_neg (by decide)]
  go_enter Tryz.func40,Tryz.ntmps40
  go_upto_region 1 with fail
  generalize hW0:w.alloc (.cells #[.string s,.slice ia nin cin,.slice (some ⟨b,o,none⟩) 2 cI,.slice ra 0 cR] 61)=W0
  have A0:NdAt W0 w.heap.size s ia nin cin (some ⟨b,o,none⟩) 2 cI ra 0 cR:=by subst hW0;exact NdAt.new _ _ _ _ _ _ _ _ _ _ _
  have b0:Below w.heap.size w W0:=by subst hW0;exact qBl
  have HB0:=Lib.hid b0
  have HI0:=Lib.hid (HI.out.below b0)
  have HR0:=Lib.hid (HR.out.below b0)
  obtain ⟨p0,p1,p2,p3⟩:=A0.cells
  have l0:=A0.lt
  clear hW0 A0 b0 HI HR
  have x0:W0.cell? ⟨b,o,none⟩=some (.int .i64 i0):=HI0.out.at_ 0 (by simp)
  have x1:W0.cell? ⟨b,o+1,none⟩=some (.int .i64 i1):=HI0.out.at_ 1 (by simp)
  have lb:b<W0.heap.size:=HI0.out.lt (by simp)
  exact qx17
set_option maxRecDepth 100000 in
set_option maxHeartbeats 2000000 in
theorem num_blur (s:ByteArray) (ia:Option Addr) (nin cin b o cI cR:Nat) (ra:Option Addr) (i0:Int) (w:World) (hz:s.toList=[98,108,117,114]) (hI:ZRow w (some ⟨b,o,none⟩) [i0]) (hR:SRow w ra []) (hE:htE []=0) :
  Calls Tryz.prog 40 #[ndV s ia nin cin (some ⟨b,o,none⟩) 1 cI ra 0 cR] w fun e w'=>e=.returned (.int .i64 (rngE i0 16))∧Below w.heap.size w w':=by
 have KH:∀ w',SRow w' ra []→Calls Tryz.prog 32 #[.slice ra 0 cR] w' fun e w''=>e=.returned (.int .i64 0)∧w'=w'':=fun w' h=>by
  have:=heights_any ra cR [] w' h
  rw [hE] at this
  exact this
 have KH:=Lib.hid KH
 have HI:=Lib.hid hI
 have HR:=Lib.hid hR
 clear hI hR hE
 have KW:=Lib.hid (fun k lo hi w=>rwithin_any k lo hi w)
 unfold rngE
 cases hw:wB i0 0 16 with
 | true =>
  rw [if_pos rfl]
  exact qx12
 | false =>
  rw [if_neg (by decide)]
  exact qx12
set_option maxRecDepth 100000 in
set_option maxHeartbeats 2000000 in
theorem num_smooth (s:ByteArray) (ia:Option Addr) (nin cin b o cI cR:Nat) (ra:Option Addr) (i0:Int) (w:World) (hz:s.toList=[115,109,111,111,116,104]) (hI:ZRow w (some ⟨b,o,none⟩) [i0]) (hR:SRow w ra []) (hE:htE []=0) :
  Calls Tryz.prog 40 #[ndV s ia nin cin (some ⟨b,o,none⟩) 1 cI ra 0 cR] w fun e w'=>e=.returned (.int .i64 (rngE i0 64))∧Below w.heap.size w w':=by
 have KH:∀ w',SRow w' ra []→Calls Tryz.prog 32 #[.slice ra 0 cR] w' fun e w''=>e=.returned (.int .i64 0)∧w'=w'':=fun w' h=>by
  have:=heights_any ra cR [] w' h
  rw [hE] at this
  exact this
 have KH:=Lib.hid KH
 have HI:=Lib.hid hI
 have HR:=Lib.hid hR
 clear hI hR hE
 have KW:=Lib.hid (fun k lo hi w=>rwithin_any k lo hi w)
 unfold rngE
 cases hw:wB i0 0 64 with
 | true =>
  rw [if_pos rfl]
  exact qx12
 | false =>
  rw [if_neg (by decide)]
  exact qx12
set_option maxRecDepth 100000 in
set_option maxHeartbeats 2000000 in
theorem num_speckle (s:ByteArray) (ia:Option Addr) (nin cin b o cI rb ro cR:Nat) (i0:Int) (r0:Nat) (w:World) (hz:s.toList=[115,112,101,99,107,108,101]) (hI:ZRow w (some ⟨b,o,none⟩) [i0]) (hR:SRow w (some ⟨rb,ro,none⟩) [r0]) (hE:htE [r0]=0) :
  Calls Tryz.prog 40 #[ndV s ia nin cin (some ⟨b,o,none⟩) 1 cI (some ⟨rb,ro,none⟩) 1 cR] w fun e w'=>e=.returned (.int .i64 (sdE i0 (shareE r0)))∧Below w.heap.size w w':=by
 have h0:=hR.1.2 r0 (by simp)
 have KH:∀ w',SRow w' (some ⟨rb,ro,none⟩) [r0]→Calls Tryz.prog 32 #[.slice (some ⟨rb,ro,none⟩) 1 cR] w' fun e w''=>e=.returned (.int .i64 0)∧w'=w'':=fun w' h=>by
  have:=heights_any (some ⟨rb,ro,none⟩) cR [r0] w' h
  rw [hE] at this
  exact this
 have KH:=Lib.hid KH
 have HI:=Lib.hid hI
 have HR:=Lib.hid hR
 clear hI hR hE
 have KW:=Lib.hid (fun k lo hi w=>rwithin_any k lo hi w)
 have KT:=Lib.hid (fun w' hI hR=>try_speckle s ia nin cin b o cI rb ro cR i0 r0 w' hz hI hR)
 exact qx15
set_option maxRecDepth 100000 in
set_option maxHeartbeats 2000000 in
theorem num_clamp (s:ByteArray) (ia:Option Addr) (nin cin cI rb ro cR:Nat) (la:Option Addr) (r0 r1:Nat) (w:World) (hz:s.toList=[99,108,97,109,112]) (hI:ZRow w la []) (hR:SRow w (some ⟨rb,ro,none⟩) [r0,r1]) (hE:htE [r0,r1]=0) :
  Calls Tryz.prog 40 #[ndV s ia nin cin la 0 cI (some ⟨rb,ro,none⟩) 2 cR] w fun e w'=>e=.returned (.int .i64 (clampC r0 r1))∧Below w.heap.size w w':=by
 have h0:=hR.1.2 r0 (by simp)
 have h1:=hR.1.2 r1 (by simp)
 have KH:∀ w',SRow w' (some ⟨rb,ro,none⟩) [r0,r1]→Calls Tryz.prog 32 #[.slice (some ⟨rb,ro,none⟩) 2 cR] w' fun e w''=>e=.returned (.int .i64 0)∧w'=w'':=fun w' h=>by
  have:=heights_any (some ⟨rb,ro,none⟩) cR [r0,r1] w' h
  rw [hE] at this
  exact this
 have KH:=Lib.hid KH
 have HI:=Lib.hid hI
 have HR:=Lib.hid hR
 clear hI hR hE
 have KW:=Lib.hid (fun k lo hi w=>rwithin_any k lo hi w)
 have KT:=Lib.hid (fun w' hI hR=>try_clamp s ia nin cin cI rb ro cR la r0 r1 w' hz hI hR)
 go_enter Tryz.func40,Tryz.ntmps40
 go_upto_region 1 with fail
 generalize hW0:w.alloc (.cells #[.string s,.slice ia nin cin,.slice la 0 cI,.slice (some ⟨rb,ro,none⟩) 2 cR] 61)=W0
 have A0:NdAt W0 w.heap.size s ia nin cin la 0 cI (some ⟨rb,ro,none⟩) 2 cR:=by subst hW0;exact NdAt.new _ _ _ _ _ _ _ _ _ _ _
 have b0:Below w.heap.size w W0:=by subst hW0;exact qBl
 have HB0:=Lib.hid b0
 have HI0:=Lib.hid (HI.out.below b0)
 have HR0:=Lib.hid (HR.out.below b0)
 obtain ⟨p0,p1,p2,p3⟩:=A0.cells
 have l0:=A0.lt
 clear hW0 A0 b0 HI HR
 have y0:W0.cell? ⟨rb,ro,none⟩=some (.float .f32 r0):=HR0.out.cell1 0 (by simp)
 have y1:W0.cell? ⟨rb,ro+1,none⟩=some (.float .f32 r1):=HR0.out.cell1 1 (by simp)
 have lrb:rb<W0.heap.size:=HR0.out.lt1 (by simp)
 exact qx20
set_option maxRecDepth 100000 in
set_option maxHeartbeats 2000000 in
theorem num_select (s:ByteArray) (ia:Option Addr) (nin cin cI rb ro cR:Nat) (la:Option Addr) (r0 r1 r2:Nat) (w:World) (hz:s.toList=[115,101,108,101,99,116]) (hI:ZRow w la []) (hR:SRow w (some ⟨rb,ro,none⟩) [r0,r1,r2]) (hE:htE [r0,r1,r2]=0) :
  Calls Tryz.prog 40 #[ndV s ia nin cin la 0 cI (some ⟨rb,ro,none⟩) 3 cR] w fun e w'=>e=.returned (.int .i64 (selC r0 r1 r2))∧Below w.heap.size w w':=by
 have h0:=hR.1.2 r0 (by simp)
 have h1:=hR.1.2 r1 (by simp)
 have h2:=hR.1.2 r2 (by simp)
 have KH:∀ w',SRow w' (some ⟨rb,ro,none⟩) [r0,r1,r2]→Calls Tryz.prog 32 #[.slice (some ⟨rb,ro,none⟩) 3 cR] w' fun e w''=>e=.returned (.int .i64 0)∧w'=w'':=fun w' h=>by
  have:=heights_any (some ⟨rb,ro,none⟩) cR [r0,r1,r2] w' h
  rw [hE] at this
  exact this
 have KH:=Lib.hid KH
 have HI:=Lib.hid hI
 have HR:=Lib.hid hR
 clear hI hR hE
 have KW:=Lib.hid (fun k lo hi w=>rwithin_any k lo hi w)
 have KT:=Lib.hid (fun w' hI hR=>try_select s ia nin cin cI rb ro cR la r0 r1 r2 w' hz hI hR)
 go_enter Tryz.func40,Tryz.ntmps40
 go_upto_region 1 with fail
 generalize hW0:w.alloc (.cells #[.string s,.slice ia nin cin,.slice la 0 cI,.slice (some ⟨rb,ro,none⟩) 3 cR] 61)=W0
 have A0:NdAt W0 w.heap.size s ia nin cin la 0 cI (some ⟨rb,ro,none⟩) 3 cR:=by subst hW0;exact NdAt.new _ _ _ _ _ _ _ _ _ _ _
 have b0:Below w.heap.size w W0:=by subst hW0;exact qBl
 have HB0:=Lib.hid b0
 have HI0:=Lib.hid (HI.out.below b0)
 have HR0:=Lib.hid (HR.out.below b0)
 obtain ⟨p0,p1,p2,p3⟩:=A0.cells
 have l0:=A0.lt
 clear hW0 A0 b0 HI HR
 have y0:W0.cell? ⟨rb,ro,none⟩=some (.float .f32 r0):=HR0.out.cell1 0 (by simp)
 have y1:W0.cell? ⟨rb,ro+1,none⟩=some (.float .f32 r1):=HR0.out.cell1 1 (by simp)
 have y2:W0.cell? ⟨rb,ro+2,none⟩=some (.float .f32 r2):=HR0.out.cell1 2 (by simp)
 have lrb:rb<W0.heap.size:=HR0.out.lt1 (by simp)
 exact qx20
set_option maxRecDepth 100000 in
set_option maxHeartbeats 2000000 in
theorem num_terrace (s:ByteArray) (ia:Option Addr) (nin cin cI rb ro cR:Nat) (la:Option Addr) (r0 r1:Nat) (w:World) (hz:s.toList=[116,101,114,114,97,99,101]) (hI:ZRow w la []) (hR:SRow w (some ⟨rb,ro,none⟩) [r0,r1]) (hE:htE [r0,r1]=0) :
  Calls Tryz.prog 40 #[ndV s ia nin cin la 0 cI (some ⟨rb,ro,none⟩) 2 cR] w fun e w'=>e=.returned (.int .i64 (terC r0 r1))∧Below w.heap.size w w':=by
 have h0:=hR.1.2 r0 (by simp)
 have h1:=hR.1.2 r1 (by simp)
 have KH:∀ w',SRow w' (some ⟨rb,ro,none⟩) [r0,r1]→Calls Tryz.prog 32 #[.slice (some ⟨rb,ro,none⟩) 2 cR] w' fun e w''=>e=.returned (.int .i64 0)∧w'=w'':=fun w' h=>by
  have:=heights_any (some ⟨rb,ro,none⟩) cR [r0,r1] w' h
  rw [hE] at this
  exact this
 have KH:=Lib.hid KH
 have HI:=Lib.hid hI
 have HR:=Lib.hid hR
 clear hI hR hE
 have KW:=Lib.hid (fun k lo hi w=>rwithin_any k lo hi w)
 have KT:=Lib.hid (fun w' hI hR=>try_terrace s ia nin cin cI rb ro cR la r0 r1 w' hz hI hR)
 go_enter Tryz.func40,Tryz.ntmps40
 go_upto_region 1 with fail
 generalize hW0:w.alloc (.cells #[.string s,.slice ia nin cin,.slice la 0 cI,.slice (some ⟨rb,ro,none⟩) 2 cR] 61)=W0
 have A0:NdAt W0 w.heap.size s ia nin cin la 0 cI (some ⟨rb,ro,none⟩) 2 cR:=by subst hW0;exact NdAt.new _ _ _ _ _ _ _ _ _ _ _
 have b0:Below w.heap.size w W0:=by subst hW0;exact qBl
 have HB0:=Lib.hid b0
 have HI0:=Lib.hid (HI.out.below b0)
 have HR0:=Lib.hid (HR.out.below b0)
 obtain ⟨p0,p1,p2,p3⟩:=A0.cells
 have l0:=A0.lt
 clear hW0 A0 b0 HI HR
 have y0:W0.cell? ⟨rb,ro,none⟩=some (.float .f32 r0):=HR0.out.cell1 0 (by simp)
 have y1:W0.cell? ⟨rb,ro+1,none⟩=some (.float .f32 r1):=HR0.out.cell1 1 (by simp)
 have lrb:rb<W0.heap.size:=HR0.out.lt1 (by simp)
 exact qx20
set_option maxRecDepth 100000 in
set_option maxHeartbeats 2000000 in
theorem num_dither (s:ByteArray) (ia:Option Addr) (nin cin b o cI rb ro cR:Nat) (i0:Int) (r0:Nat) (w:World) (hz:s.toList=[100,105,116,104,101,114]) (hI:ZRow w (some ⟨b,o,none⟩) [i0]) (hR:SRow w (some ⟨rb,ro,none⟩) [r0]) (hE:htE [r0]=0) :
  Calls Tryz.prog 40 #[ndV s ia nin cin (some ⟨b,o,none⟩) 1 cI (some ⟨rb,ro,none⟩) 1 cR] w fun e w'=>e=.returned (.int .i64 (sdE i0 (dithE r0)))∧Below w.heap.size w w':=by
 have h0:=hR.1.2 r0 (by simp)
 have KH:∀ w',SRow w' (some ⟨rb,ro,none⟩) [r0]→Calls Tryz.prog 32 #[.slice (some ⟨rb,ro,none⟩) 1 cR] w' fun e w''=>e=.returned (.int .i64 0)∧w'=w'':=fun w' h=>by
  have:=heights_any (some ⟨rb,ro,none⟩) cR [r0] w' h
  rw [hE] at this
  exact this
 have KH:=Lib.hid KH
 have HI:=Lib.hid hI
 have HR:=Lib.hid hR
 clear hI hR hE
 have KW:=Lib.hid (fun k lo hi w=>rwithin_any k lo hi w)
 have KT:=Lib.hid (fun w' hI hR=>try_dither s ia nin cin b o cI rb ro cR i0 r0 w' hz hI hR)
 exact qx15
set_option maxRecDepth 100000 in
set_option maxHeartbeats 2000000 in
theorem num_shade (s:ByteArray) (ia:Option Addr) (nin cin b o cI cR:Nat) (ra:Option Addr) (i0 i1 i2:Int) (w:World) (hz:s.toList=[115,104,97,100,101]) (hI:ZRow w (some ⟨b,o,none⟩) [i0,i1,i2]) (hR:SRow w ra []) (hE:htE []=0) :
  Calls Tryz.prog 40 #[ndV s ia nin cin (some ⟨b,o,none⟩) 3 cI ra 0 cR] w fun e w'=>e=.returned (.int .i64 (lightE i0 i1 i2))∧Below w.heap.size w w':=by
 have KH:∀ w',SRow w' ra []→Calls Tryz.prog 32 #[.slice ra 0 cR] w' fun e w''=>e=.returned (.int .i64 0)∧w'=w'':=fun w' h=>by
  have:=heights_any ra cR [] w' h
  rw [hE] at this
  exact this
 have KH:=Lib.hid KH
 have HI:=Lib.hid hI
 have HR:=Lib.hid hR
 clear hI hR hE
 have KW:=Lib.hid (fun k lo hi w=>rwithin_any k lo hi w)
 have KT:=Lib.hid (fun w' hI hR=>try_shade s ia nin cin b o cI cR ra i0 i1 i2 w' hz hI hR)
 go_enter Tryz.func40,Tryz.ntmps40
 go_upto_region 1 with fail
 generalize hW0:w.alloc (.cells #[.string s,.slice ia nin cin,.slice (some ⟨b,o,none⟩) 3 cI,.slice ra 0 cR] 61)=W0
 have A0:NdAt W0 w.heap.size s ia nin cin (some ⟨b,o,none⟩) 3 cI ra 0 cR:=by subst hW0;exact NdAt.new _ _ _ _ _ _ _ _ _ _ _
 have b0:Below w.heap.size w W0:=by subst hW0;exact qBl
 have HB0:=Lib.hid b0
 have HI0:=Lib.hid (HI.out.below b0)
 have HR0:=Lib.hid (HR.out.below b0)
 obtain ⟨p0,p1,p2,p3⟩:=A0.cells
 have l0:=A0.lt
 clear hW0 A0 b0 HI HR
 have x0:W0.cell? ⟨b,o,none⟩=some (.int .i64 i0):=HI0.out.at_ 0 (by simp)
 have x1:W0.cell? ⟨b,o+1,none⟩=some (.int .i64 i1):=HI0.out.at_ 1 (by simp)
 have x2:W0.cell? ⟨b,o+2,none⟩=some (.int .i64 i2):=HI0.out.at_ 2 (by simp)
 have lb:b<W0.heap.size:=HI0.out.lt (by simp)
 exact qx20
set_option maxRecDepth 100000 in
set_option maxHeartbeats 2000000 in
theorem num_plain (s:ByteArray) (ia:Option Addr) (nin cin:Nat) (la:Option Addr) (nI cI:Nat) (ra:Option Addr) (cR:Nat) (l:List Nat) (w:World) (k0:(s.toList == [110,111,105,115,101])=false) (k1:(s.toList == [119,97,114,112])=false) (k2:(s.toList == [115,112,101,99,107,108,101])=false) (k3:(s.toList == [100,105,116,104,101,114])=false) (k4:(s.toList == [115,116,97,109,112])=false) (k5:(s.toList == [102,97,117,108,116])=false) (k6:(s.toList == [102,111,108,100])=false) (k7:(s.toList == [116,104,101,114,109,97,108])=false) (k8:(s.toList == [115,104,105,102,116])=false) (k9:(s.toList == [98,108,117,114])=false) (k10:(s.toList == [115,109,111,111,116,104])=false) (k11:(s.toList == [99,108,97,109,112])=false) (k12:(s.toList == [115,101,108,101,99,116])=false) (k13:(s.toList == [116,101,114,114,97,99,101])=false) (k14:(s.toList == [115,104,97,100,101])=false) (hR:SRow w ra l) (hE:htE l=0) :
  Calls Tryz.prog 40 #[ndV s ia nin cin la nI cI ra l.length cR] w fun e w'=>e=.returned (.int .i64 (0))∧Below w.heap.size w w':=by
 have KH:∀ w',SRow w' ra l→Calls Tryz.prog 32 #[.slice ra l.length cR] w' fun e w''=>e=.returned (.int .i64 (0))∧w'=w'':=fun w' h=>by
  have:=heights_any ra cR l w' h
  rw [hE] at this
  exact this
 have KH:=Lib.hid KH
 have HR:=Lib.hid hR
 clear hR
 generalize l.length=n at *
 clear hE
 go_enter Tryz.func40,Tryz.ntmps40
 go_upto_region 1 with fail
 generalize hW0:w.alloc (.cells #[.string s,.slice ia nin cin,.slice la nI cI,.slice ra n cR] 61)=W0
 have A0:NdAt W0 w.heap.size s ia nin cin la nI cI ra n cR:=by subst hW0;exact NdAt.new _ _ _ _ _ _ _ _ _ _ _
 have b0:Below w.heap.size w W0:=by subst hW0;exact qBl
 have HB0:=Lib.hid b0
 have HR0:=Lib.hid (HR.out.below b0)
 obtain ⟨p0,p1,p2,p3⟩:=A0.cells
 have l0:=A0.lt
 clear hW0 A0 b0 HR
 go_wp2_with fail
 refine (KH.out _ HR0.out).mono ?_
 rintro e w1 ⟨rfl,rfl⟩
 go_wp2_with (go_at_call 50;go_in)
 go_ret
 have hb:=HB0.out
 exact ⟨rfl,(qBo hb)⟩
set_option maxRecDepth 100000 in
set_option maxHeartbeats 2000000 in
theorem num_bad (s:ByteArray) (ia:Option Addr) (nin cin:Nat) (la:Option Addr) (nI cI:Nat) (ra:Option Addr) (cR:Nat) (l:List Nat) (w:World)  (hR:SRow w ra l) (hE:htE l≠0) :
  Calls Tryz.prog 40 #[ndV s ia nin cin la nI cI ra l.length cR] w fun e w'=>e=.returned (.int .i64 (htE l))∧Below w.heap.size w w':=by
 have KH:∀ w',SRow w' ra l→Calls Tryz.prog 32 #[.slice ra l.length cR] w' fun e w''=>e=.returned (.int .i64 (htE l))∧w'=w'':=fun w' h=>by
  have:=heights_any ra cR l w' h
  skip
  exact this
 have KH:=Lib.hid KH
 have HR:=Lib.hid hR
 clear hR
 have hb:(htE l != 0)=true:=by simpa using hE
 clear hE
 generalize htE l=z at *
 generalize l.length=n at *
 go_enter Tryz.func40,Tryz.ntmps40
 go_upto_region 1 with fail
 generalize hW0:w.alloc (.cells #[.string s,.slice ia nin cin,.slice la nI cI,.slice ra n cR] 61)=W0
 have A0:NdAt W0 w.heap.size s ia nin cin la nI cI ra n cR:=by subst hW0;exact NdAt.new _ _ _ _ _ _ _ _ _ _ _
 have b0:Below w.heap.size w W0:=by subst hW0;exact qBl
 have HB0:=Lib.hid b0
 have HR0:=Lib.hid (HR.out.below b0)
 obtain ⟨p0,p1,p2,p3⟩:=A0.cells
 have l0:=A0.lt
 clear hW0 A0 b0 HR
 go_wp2_with fail
 refine (KH.out _ HR0.out).mono ?_
 rintro e w1 ⟨rfl,rfl⟩
 go_wp2_with fail
 go_ret
 have hb:=HB0.out
 exact ⟨rfl,(qBo hb)⟩
end Go.Proofs.YtmggflgdoioajaaGreat
