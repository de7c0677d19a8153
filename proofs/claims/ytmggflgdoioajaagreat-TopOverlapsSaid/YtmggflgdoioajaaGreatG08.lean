import Derived.Test.YtmggflgdoioajaaGreatG07
import Derived.BigQuiet
import Derived.Deep.CutBlock
import Derived.Deep.QuietTactic
import Derived.Deep.DeepCutAuto
import Derived.Deep.RegionHeld3
import Derived.IntWalk
import Derived.LoopN
import Derived.RegionTactic
import Derived.ChangeAlike
import Derived.BigRegion
import Derived.Sort.LotA
import Derived.StillTailTactics
import Derived.StillTactics
set_option linter.unusedSimpArgs false
set_option linter.unusedVariables false
namespace Go.Proofs.YtmggflgdoioajaaGreat
open Go.ChangeShapes Go.WideShapes Go.ChangeAt Go.RowKit
open Ieee.Format (fin finE htE allFin allHt all_true all_false mulF subF addF Ht Bd divF rootF floorF easeF mixF)
set_option maxRecDepth 100000 in
set_option maxHeartbeats 1000000 in
theorem idx_add (s:ByteArray) (hz:s.toList=[97,100,100]) (k:Nat) (W:World) (hk:W.heap[k]?=some (.cells #[.string { data:=#[] },.string { data:=#[97,100,100] },.string { data:=#[115,117,98] },.string { data:=#[109,117,108] },.string { data:=#[100,105,118] },.string { data:=#[108,101,115,115] },.string { data:=#[109,111,114,101] },.string { data:=#[111,118,101,114] }] 9 (0,0))) :
  Calls Tryz.prog 118 #[.slice (some ⟨k,0,none⟩) 8 8,.string s] W fun e w'=>e=.returned (.int .i64 1)∧W=w':=by
 have c0:W.cell? ⟨k,0,none⟩=some (.string { data:=#[] }):=cell_of_row W k 0 _ _ _ hk
 have c1:W.cell? ⟨k,1,none⟩=some (.string { data:=#[97,100,100] }):=cell_of_row W k 1 _ _ _ hk
 have c2:W.cell? ⟨k,2,none⟩=some (.string { data:=#[115,117,98] }):=cell_of_row W k 2 _ _ _ hk
 have c3:W.cell? ⟨k,3,none⟩=some (.string { data:=#[109,117,108] }):=cell_of_row W k 3 _ _ _ hk
 have c4:W.cell? ⟨k,4,none⟩=some (.string { data:=#[100,105,118] }):=cell_of_row W k 4 _ _ _ hk
 have c5:W.cell? ⟨k,5,none⟩=some (.string { data:=#[108,101,115,115] }):=cell_of_row W k 5 _ _ _ hk
 have c6:W.cell? ⟨k,6,none⟩=some (.string { data:=#[109,111,114,101] }):=cell_of_row W k 6 _ _ _ hk
 have c7:W.cell? ⟨k,7,none⟩=some (.string { data:=#[111,118,101,114] }):=cell_of_row W k 7 _ _ _ hk
 clear hk
 go_enter Tryz.func118,Tryz.ntmps118
 go_wp2_with fail
 refine wp_loop_rounds 2 ?_
 rw [rounds_succ]
 go_wp2_with fail
 rw [rounds_succ]
 go_wp2_with fail
 go_ret
 exact ⟨rfl,rfl⟩
set_option maxRecDepth 100000 in
theorem comb_add (s:ByteArray) (hz:s.toList=[97,100,100]) (w:World):Calls Tryz.prog 78 #[.string s] w fun e w'=>e=.returned (.int .i64 1)∧Below w.heap.size w w':=by
 have KI:=Lib.hid (fun k W hk=>idx_add s hz k W hk)
 exact qx30
set_option maxRecDepth 100000 in
set_option maxHeartbeats 1000000 in
theorem idx_sub (s:ByteArray) (hz:s.toList=[115,117,98]) (k:Nat) (W:World) (hk:W.heap[k]?=some (.cells #[.string { data:=#[] },.string { data:=#[97,100,100] },.string { data:=#[115,117,98] },.string { data:=#[109,117,108] },.string { data:=#[100,105,118] },.string { data:=#[108,101,115,115] },.string { data:=#[109,111,114,101] },.string { data:=#[111,118,101,114] }] 9 (0,0))) :
  Calls Tryz.prog 118 #[.slice (some ⟨k,0,none⟩) 8 8,.string s] W fun e w'=>e=.returned (.int .i64 2)∧W=w':=by
 have c0:W.cell? ⟨k,0,none⟩=some (.string { data:=#[] }):=cell_of_row W k 0 _ _ _ hk
 have c1:W.cell? ⟨k,1,none⟩=some (.string { data:=#[97,100,100] }):=cell_of_row W k 1 _ _ _ hk
 have c2:W.cell? ⟨k,2,none⟩=some (.string { data:=#[115,117,98] }):=cell_of_row W k 2 _ _ _ hk
 have c3:W.cell? ⟨k,3,none⟩=some (.string { data:=#[109,117,108] }):=cell_of_row W k 3 _ _ _ hk
 have c4:W.cell? ⟨k,4,none⟩=some (.string { data:=#[100,105,118] }):=cell_of_row W k 4 _ _ _ hk
 have c5:W.cell? ⟨k,5,none⟩=some (.string { data:=#[108,101,115,115] }):=cell_of_row W k 5 _ _ _ hk
 have c6:W.cell? ⟨k,6,none⟩=some (.string { data:=#[109,111,114,101] }):=cell_of_row W k 6 _ _ _ hk
 have c7:W.cell? ⟨k,7,none⟩=some (.string { data:=#[111,118,101,114] }):=cell_of_row W k 7 _ _ _ hk
 clear hk
 go_enter Tryz.func118,Tryz.ntmps118
 go_wp2_with fail
 refine wp_loop_rounds 3 ?_
 rw [rounds_succ]
 go_wp2_with fail
 rw [rounds_succ]
 go_wp2_with fail
 rw [rounds_succ]
 go_wp2_with fail
 go_ret
 exact ⟨rfl,rfl⟩
set_option maxRecDepth 100000 in
theorem comb_sub (s:ByteArray) (hz:s.toList=[115,117,98]) (w:World):Calls Tryz.prog 78 #[.string s] w fun e w'=>e=.returned (.int .i64 2)∧Below w.heap.size w w':=by
 have KI:=Lib.hid (fun k W hk=>idx_sub s hz k W hk)
 exact qx30
set_option maxRecDepth 100000 in
set_option maxHeartbeats 1000000 in
theorem idx_mul (s:ByteArray) (hz:s.toList=[109,117,108]) (k:Nat) (W:World) (hk:W.heap[k]?=some (.cells #[.string { data:=#[] },.string { data:=#[97,100,100] },.string { data:=#[115,117,98] },.string { data:=#[109,117,108] },.string { data:=#[100,105,118] },.string { data:=#[108,101,115,115] },.string { data:=#[109,111,114,101] },.string { data:=#[111,118,101,114] }] 9 (0,0))) :
  Calls Tryz.prog 118 #[.slice (some ⟨k,0,none⟩) 8 8,.string s] W fun e w'=>e=.returned (.int .i64 3)∧W=w':=by
 have c0:W.cell? ⟨k,0,none⟩=some (.string { data:=#[] }):=cell_of_row W k 0 _ _ _ hk
 have c1:W.cell? ⟨k,1,none⟩=some (.string { data:=#[97,100,100] }):=cell_of_row W k 1 _ _ _ hk
 have c2:W.cell? ⟨k,2,none⟩=some (.string { data:=#[115,117,98] }):=cell_of_row W k 2 _ _ _ hk
 have c3:W.cell? ⟨k,3,none⟩=some (.string { data:=#[109,117,108] }):=cell_of_row W k 3 _ _ _ hk
 have c4:W.cell? ⟨k,4,none⟩=some (.string { data:=#[100,105,118] }):=cell_of_row W k 4 _ _ _ hk
 have c5:W.cell? ⟨k,5,none⟩=some (.string { data:=#[108,101,115,115] }):=cell_of_row W k 5 _ _ _ hk
 have c6:W.cell? ⟨k,6,none⟩=some (.string { data:=#[109,111,114,101] }):=cell_of_row W k 6 _ _ _ hk
 have c7:W.cell? ⟨k,7,none⟩=some (.string { data:=#[111,118,101,114] }):=cell_of_row W k 7 _ _ _ hk
 clear hk
 go_enter Tryz.func118,Tryz.ntmps118
 go_wp2_with fail
 refine wp_loop_rounds 4 ?_
 rw [rounds_succ]
 go_wp2_with fail
 rw [rounds_succ]
 go_wp2_with fail
 rw [rounds_succ]
 go_wp2_with fail
 rw [rounds_succ]
 go_wp2_with fail
 go_ret
 exact ⟨rfl,rfl⟩
set_option maxRecDepth 100000 in
theorem comb_mul (s:ByteArray) (hz:s.toList=[109,117,108]) (w:World):Calls Tryz.prog 78 #[.string s] w fun e w'=>e=.returned (.int .i64 3)∧Below w.heap.size w w':=by
 have KI:=Lib.hid (fun k W hk=>idx_mul s hz k W hk)
 exact qx30
set_option maxRecDepth 100000 in
set_option maxHeartbeats 1000000 in
theorem idx_div (s:ByteArray) (hz:s.toList=[100,105,118]) (k:Nat) (W:World) (hk:W.heap[k]?=some (.cells #[.string { data:=#[] },.string { data:=#[97,100,100] },.string { data:=#[115,117,98] },.string { data:=#[109,117,108] },.string { data:=#[100,105,118] },.string { data:=#[108,101,115,115] },.string { data:=#[109,111,114,101] },.string { data:=#[111,118,101,114] }] 9 (0,0))) :
  Calls Tryz.prog 118 #[.slice (some ⟨k,0,none⟩) 8 8,.string s] W fun e w'=>e=.returned (.int .i64 4)∧W=w':=by
 have c0:W.cell? ⟨k,0,none⟩=some (.string { data:=#[] }):=cell_of_row W k 0 _ _ _ hk
 have c1:W.cell? ⟨k,1,none⟩=some (.string { data:=#[97,100,100] }):=cell_of_row W k 1 _ _ _ hk
 have c2:W.cell? ⟨k,2,none⟩=some (.string { data:=#[115,117,98] }):=cell_of_row W k 2 _ _ _ hk
 have c3:W.cell? ⟨k,3,none⟩=some (.string { data:=#[109,117,108] }):=cell_of_row W k 3 _ _ _ hk
 have c4:W.cell? ⟨k,4,none⟩=some (.string { data:=#[100,105,118] }):=cell_of_row W k 4 _ _ _ hk
 have c5:W.cell? ⟨k,5,none⟩=some (.string { data:=#[108,101,115,115] }):=cell_of_row W k 5 _ _ _ hk
 have c6:W.cell? ⟨k,6,none⟩=some (.string { data:=#[109,111,114,101] }):=cell_of_row W k 6 _ _ _ hk
 have c7:W.cell? ⟨k,7,none⟩=some (.string { data:=#[111,118,101,114] }):=cell_of_row W k 7 _ _ _ hk
 clear hk
 go_enter Tryz.func118,Tryz.ntmps118
 go_wp2_with fail
 refine wp_loop_rounds 5 ?_
 exact qx34
set_option maxRecDepth 100000 in
theorem comb_div (s:ByteArray) (hz:s.toList=[100,105,118]) (w:World):Calls Tryz.prog 78 #[.string s] w fun e w'=>e=.returned (.int .i64 4)∧Below w.heap.size w w':=by
 have KI:=Lib.hid (fun k W hk=>idx_div s hz k W hk)
 exact qx30
set_option maxRecDepth 100000 in
set_option maxHeartbeats 1000000 in
theorem idx_less (s:ByteArray) (hz:s.toList=[108,101,115,115]) (k:Nat) (W:World) (hk:W.heap[k]?=some (.cells #[.string { data:=#[] },.string { data:=#[97,100,100] },.string { data:=#[115,117,98] },.string { data:=#[109,117,108] },.string { data:=#[100,105,118] },.string { data:=#[108,101,115,115] },.string { data:=#[109,111,114,101] },.string { data:=#[111,118,101,114] }] 9 (0,0))) :
  Calls Tryz.prog 118 #[.slice (some ⟨k,0,none⟩) 8 8,.string s] W fun e w'=>e=.returned (.int .i64 5)∧W=w':=by
 have c0:W.cell? ⟨k,0,none⟩=some (.string { data:=#[] }):=cell_of_row W k 0 _ _ _ hk
 have c1:W.cell? ⟨k,1,none⟩=some (.string { data:=#[97,100,100] }):=cell_of_row W k 1 _ _ _ hk
 have c2:W.cell? ⟨k,2,none⟩=some (.string { data:=#[115,117,98] }):=cell_of_row W k 2 _ _ _ hk
 have c3:W.cell? ⟨k,3,none⟩=some (.string { data:=#[109,117,108] }):=cell_of_row W k 3 _ _ _ hk
 have c4:W.cell? ⟨k,4,none⟩=some (.string { data:=#[100,105,118] }):=cell_of_row W k 4 _ _ _ hk
 have c5:W.cell? ⟨k,5,none⟩=some (.string { data:=#[108,101,115,115] }):=cell_of_row W k 5 _ _ _ hk
 have c6:W.cell? ⟨k,6,none⟩=some (.string { data:=#[109,111,114,101] }):=cell_of_row W k 6 _ _ _ hk
 have c7:W.cell? ⟨k,7,none⟩=some (.string { data:=#[111,118,101,114] }):=cell_of_row W k 7 _ _ _ hk
 clear hk
 go_enter Tryz.func118,Tryz.ntmps118
 go_wp2_with fail
 refine wp_loop_rounds 6 ?_
 rw [rounds_succ]
 go_wp2_with fail
 exact qx34
set_option maxRecDepth 100000 in
theorem comb_less (s:ByteArray) (hz:s.toList=[108,101,115,115]) (w:World):Calls Tryz.prog 78 #[.string s] w fun e w'=>e=.returned (.int .i64 5)∧Below w.heap.size w w':=by
 have KI:=Lib.hid (fun k W hk=>idx_less s hz k W hk)
 exact qx30
set_option maxRecDepth 100000 in
set_option maxHeartbeats 1000000 in
theorem idx_more (s:ByteArray) (hz:s.toList=[109,111,114,101]) (k:Nat) (W:World) (hk:W.heap[k]?=some (.cells #[.string { data:=#[] },.string { data:=#[97,100,100] },.string { data:=#[115,117,98] },.string { data:=#[109,117,108] },.string { data:=#[100,105,118] },.string { data:=#[108,101,115,115] },.string { data:=#[109,111,114,101] },.string { data:=#[111,118,101,114] }] 9 (0,0))) :
  Calls Tryz.prog 118 #[.slice (some ⟨k,0,none⟩) 8 8,.string s] W fun e w'=>e=.returned (.int .i64 6)∧W=w':=by
 have c0:W.cell? ⟨k,0,none⟩=some (.string { data:=#[] }):=cell_of_row W k 0 _ _ _ hk
 have c1:W.cell? ⟨k,1,none⟩=some (.string { data:=#[97,100,100] }):=cell_of_row W k 1 _ _ _ hk
 have c2:W.cell? ⟨k,2,none⟩=some (.string { data:=#[115,117,98] }):=cell_of_row W k 2 _ _ _ hk
 have c3:W.cell? ⟨k,3,none⟩=some (.string { data:=#[109,117,108] }):=cell_of_row W k 3 _ _ _ hk
 have c4:W.cell? ⟨k,4,none⟩=some (.string { data:=#[100,105,118] }):=cell_of_row W k 4 _ _ _ hk
 have c5:W.cell? ⟨k,5,none⟩=some (.string { data:=#[108,101,115,115] }):=cell_of_row W k 5 _ _ _ hk
 have c6:W.cell? ⟨k,6,none⟩=some (.string { data:=#[109,111,114,101] }):=cell_of_row W k 6 _ _ _ hk
 have c7:W.cell? ⟨k,7,none⟩=some (.string { data:=#[111,118,101,114] }):=cell_of_row W k 7 _ _ _ hk
 clear hk
 go_enter Tryz.func118,Tryz.ntmps118
 go_wp2_with fail
 refine wp_loop_rounds 7 ?_
 rw [rounds_succ]
 go_wp2_with fail
 rw [rounds_succ]
 go_wp2_with fail
 exact qx34
set_option maxRecDepth 100000 in
theorem comb_more (s:ByteArray) (hz:s.toList=[109,111,114,101]) (w:World):Calls Tryz.prog 78 #[.string s] w fun e w'=>e=.returned (.int .i64 6)∧Below w.heap.size w w':=by
 have KI:=Lib.hid (fun k W hk=>idx_more s hz k W hk)
 exact qx30
set_option maxRecDepth 100000 in
set_option maxHeartbeats 1000000 in
theorem idx_over (s:ByteArray) (hz:s.toList=[111,118,101,114]) (k:Nat) (W:World) (hk:W.heap[k]?=some (.cells #[.string { data:=#[] },.string { data:=#[97,100,100] },.string { data:=#[115,117,98] },.string { data:=#[109,117,108] },.string { data:=#[100,105,118] },.string { data:=#[108,101,115,115] },.string { data:=#[109,111,114,101] },.string { data:=#[111,118,101,114] }] 9 (0,0))) :
  Calls Tryz.prog 118 #[.slice (some ⟨k,0,none⟩) 8 8,.string s] W fun e w'=>e=.returned (.int .i64 7)∧W=w':=by
 have c0:W.cell? ⟨k,0,none⟩=some (.string { data:=#[] }):=cell_of_row W k 0 _ _ _ hk
 have c1:W.cell? ⟨k,1,none⟩=some (.string { data:=#[97,100,100] }):=cell_of_row W k 1 _ _ _ hk
 have c2:W.cell? ⟨k,2,none⟩=some (.string { data:=#[115,117,98] }):=cell_of_row W k 2 _ _ _ hk
 have c3:W.cell? ⟨k,3,none⟩=some (.string { data:=#[109,117,108] }):=cell_of_row W k 3 _ _ _ hk
 have c4:W.cell? ⟨k,4,none⟩=some (.string { data:=#[100,105,118] }):=cell_of_row W k 4 _ _ _ hk
 have c5:W.cell? ⟨k,5,none⟩=some (.string { data:=#[108,101,115,115] }):=cell_of_row W k 5 _ _ _ hk
 have c6:W.cell? ⟨k,6,none⟩=some (.string { data:=#[109,111,114,101] }):=cell_of_row W k 6 _ _ _ hk
 have c7:W.cell? ⟨k,7,none⟩=some (.string { data:=#[111,118,101,114] }):=cell_of_row W k 7 _ _ _ hk
 clear hk
 go_enter Tryz.func118,Tryz.ntmps118
 go_wp2_with fail
 refine wp_loop_rounds 8 ?_
 rw [rounds_succ]
 go_wp2_with fail
 rw [rounds_succ]
 go_wp2_with fail
 rw [rounds_succ]
 go_wp2_with fail
 exact qx34
set_option maxRecDepth 100000 in
theorem comb_over (s:ByteArray) (hz:s.toList=[111,118,101,114]) (w:World):Calls Tryz.prog 78 #[.string s] w fun e w'=>e=.returned (.int .i64 7)∧Below w.heap.size w w':=by
 have KI:=Lib.hid (fun k W hk=>idx_over s hz k W hk)
 exact qx30
set_option maxRecDepth 100000 in
set_option maxHeartbeats 1000000 in
theorem idx_none (s:ByteArray) (t0:(s.toList == [])=false) (t1:(s.toList == [97,100,100])=false) (t2:(s.toList == [115,117,98])=false) (t3:(s.toList == [109,117,108])=false) (t4:(s.toList == [100,105,118])=false) (t5:(s.toList == [108,101,115,115])=false) (t6:(s.toList == [109,111,114,101])=false) (t7:(s.toList == [111,118,101,114])=false) (k:Nat) (W:World) (hk:W.heap[k]?=some (.cells #[.string { data:=#[] },.string { data:=#[97,100,100] },.string { data:=#[115,117,98] },.string { data:=#[109,117,108] },.string { data:=#[100,105,118] },.string { data:=#[108,101,115,115] },.string { data:=#[109,111,114,101] },.string { data:=#[111,118,101,114] }] 9 (0,0))) :
  Calls Tryz.prog 118 #[.slice (some ⟨k,0,none⟩) 8 8,.string s] W fun e w'=>e=.returned (.int .i64 (-1))∧W=w':=by
 exact qx31
set_option maxRecDepth 100000 in
theorem comb_none (s:ByteArray) (t0:(s.toList == [])=false) (t1:(s.toList == [97,100,100])=false) (t2:(s.toList == [115,117,98])=false) (t3:(s.toList == [109,117,108])=false) (t4:(s.toList == [100,105,118])=false) (t5:(s.toList == [108,101,115,115])=false) (t6:(s.toList == [109,111,114,101])=false) (t7:(s.toList == [111,118,101,114])=false) (w:World):Calls Tryz.prog 78 #[.string s] w fun e w'=>e=.returned (.int .i64 (-1))∧Below w.heap.size w w':=by
 have KI:=Lib.hid (fun k W hk=>idx_none s t0 t1 t2 t3 t4 t5 t6 t7 k W hk)
 exact qx30
set_option maxRecDepth 100000 in
set_option maxHeartbeats 1000000 in
theorem ev_add (s:ByteArray) (ia:Option Addr) (nin cin:Nat) (la:Option Addr) (nI cI:Nat) (ra:Option Addr) (nR cR:Nat) (I:List Int) (L:List Nat) (sb cP:Nat) (X Y W H c X2 Y2 W2 H2:Int) (m:List Nat) (w:World) (p0 p1:Inp) (hz:s.toList=[97,100,100]) (hI:ZRow w la I) (hR:SRow w ra L) (hP:InsAt w sb [p0,p1])
  (KC:∀ w',InsAt w' sb [p0,p1]→Calls Tryz.prog 79 #[.int .i64 1,inpV p0,inpV p1] w' (OpP c X2 Y2 W2 H2 m w')) :
  Calls Tryz.prog 45 #[ndV s ia nin cin la nI cI ra nR cR,reg X Y W H,.slice (some ⟨sb,0,none⟩) 2 cP] w (OpP c X2 Y2 W2 H2 m w):=by
 have KC:=Lib.hid KC
 have KI:=Lib.hid (fun w=>comb_add s hz w)
 exact qx0
set_option maxRecDepth 100000 in
set_option maxHeartbeats 1000000 in
theorem ev_sub (s:ByteArray) (ia:Option Addr) (nin cin:Nat) (la:Option Addr) (nI cI:Nat) (ra:Option Addr) (nR cR:Nat) (I:List Int) (L:List Nat) (sb cP:Nat) (X Y W H c X2 Y2 W2 H2:Int) (m:List Nat) (w:World) (p0 p1:Inp) (hz:s.toList=[115,117,98]) (hI:ZRow w la I) (hR:SRow w ra L) (hP:InsAt w sb [p0,p1])
  (KC:∀ w',InsAt w' sb [p0,p1]→Calls Tryz.prog 79 #[.int .i64 2,inpV p0,inpV p1] w' (OpP c X2 Y2 W2 H2 m w')) :
  Calls Tryz.prog 45 #[ndV s ia nin cin la nI cI ra nR cR,reg X Y W H,.slice (some ⟨sb,0,none⟩) 2 cP] w (OpP c X2 Y2 W2 H2 m w):=by
 have KC:=Lib.hid KC
 have KI:=Lib.hid (fun w=>comb_sub s hz w)
 exact qx0
set_option maxRecDepth 100000 in
set_option maxHeartbeats 1000000 in
theorem ev_mul (s:ByteArray) (ia:Option Addr) (nin cin:Nat) (la:Option Addr) (nI cI:Nat) (ra:Option Addr) (nR cR:Nat) (I:List Int) (L:List Nat) (sb cP:Nat) (X Y W H c X2 Y2 W2 H2:Int) (m:List Nat) (w:World) (p0 p1:Inp) (hz:s.toList=[109,117,108]) (hI:ZRow w la I) (hR:SRow w ra L) (hP:InsAt w sb [p0,p1])
  (KC:∀ w',InsAt w' sb [p0,p1]→Calls Tryz.prog 79 #[.int .i64 3,inpV p0,inpV p1] w' (OpP c X2 Y2 W2 H2 m w')) :
  Calls Tryz.prog 45 #[ndV s ia nin cin la nI cI ra nR cR,reg X Y W H,.slice (some ⟨sb,0,none⟩) 2 cP] w (OpP c X2 Y2 W2 H2 m w):=by
 have KC:=Lib.hid KC
 have KI:=Lib.hid (fun w=>comb_mul s hz w)
 exact qx0
set_option maxRecDepth 100000 in
set_option maxHeartbeats 1000000 in
theorem ev_div (s:ByteArray) (ia:Option Addr) (nin cin:Nat) (la:Option Addr) (nI cI:Nat) (ra:Option Addr) (nR cR:Nat) (I:List Int) (L:List Nat) (sb cP:Nat) (X Y W H c X2 Y2 W2 H2:Int) (m:List Nat) (w:World) (p0 p1:Inp) (hz:s.toList=[100,105,118]) (hI:ZRow w la I) (hR:SRow w ra L) (hP:InsAt w sb [p0,p1])
  (KC:∀ w',InsAt w' sb [p0,p1]→Calls Tryz.prog 79 #[.int .i64 4,inpV p0,inpV p1] w' (OpP c X2 Y2 W2 H2 m w')) :
  Calls Tryz.prog 45 #[ndV s ia nin cin la nI cI ra nR cR,reg X Y W H,.slice (some ⟨sb,0,none⟩) 2 cP] w (OpP c X2 Y2 W2 H2 m w):=by
 have KC:=Lib.hid KC
 have KI:=Lib.hid (fun w=>comb_div s hz w)
 exact qx0
set_option maxRecDepth 100000 in
set_option maxHeartbeats 1000000 in
theorem ev_less (s:ByteArray) (ia:Option Addr) (nin cin:Nat) (la:Option Addr) (nI cI:Nat) (ra:Option Addr) (nR cR:Nat) (I:List Int) (L:List Nat) (sb cP:Nat) (X Y W H c X2 Y2 W2 H2:Int) (m:List Nat) (w:World) (p0 p1:Inp) (hz:s.toList=[108,101,115,115]) (hI:ZRow w la I) (hR:SRow w ra L) (hP:InsAt w sb [p0,p1])
  (KC:∀ w',InsAt w' sb [p0,p1]→Calls Tryz.prog 79 #[.int .i64 5,inpV p0,inpV p1] w' (OpP c X2 Y2 W2 H2 m w')) :
  Calls Tryz.prog 45 #[ndV s ia nin cin la nI cI ra nR cR,reg X Y W H,.slice (some ⟨sb,0,none⟩) 2 cP] w (OpP c X2 Y2 W2 H2 m w):=by
 have KC:=Lib.hid KC
 have KI:=Lib.hid (fun w=>comb_less s hz w)
 exact qx0
set_option maxRecDepth 100000 in
set_option maxHeartbeats 1000000 in
theorem ev_more (s:ByteArray) (ia:Option Addr) (nin cin:Nat) (la:Option Addr) (nI cI:Nat) (ra:Option Addr) (nR cR:Nat) (I:List Int) (L:List Nat) (sb cP:Nat) (X Y W H c X2 Y2 W2 H2:Int) (m:List Nat) (w:World) (p0 p1:Inp) (hz:s.toList=[109,111,114,101]) (hI:ZRow w la I) (hR:SRow w ra L) (hP:InsAt w sb [p0,p1])
  (KC:∀ w',InsAt w' sb [p0,p1]→Calls Tryz.prog 79 #[.int .i64 6,inpV p0,inpV p1] w' (OpP c X2 Y2 W2 H2 m w')) :
  Calls Tryz.prog 45 #[ndV s ia nin cin la nI cI ra nR cR,reg X Y W H,.slice (some ⟨sb,0,none⟩) 2 cP] w (OpP c X2 Y2 W2 H2 m w):=by
 have KC:=Lib.hid KC
 have KI:=Lib.hid (fun w=>comb_more s hz w)
 exact qx0
set_option maxRecDepth 100000 in
set_option maxHeartbeats 1000000 in
theorem ev_over (s:ByteArray) (ia:Option Addr) (nin cin:Nat) (la:Option Addr) (nI cI:Nat) (ra:Option Addr) (nR cR:Nat) (I:List Int) (L:List Nat) (sb cP:Nat) (X Y W H c X2 Y2 W2 H2:Int) (m:List Nat) (w:World) (p0 p1:Inp) (hz:s.toList=[111,118,101,114]) (hI:ZRow w la I) (hR:SRow w ra L) (hP:InsAt w sb [p0,p1])
  (KC:∀ w',InsAt w' sb [p0,p1]→Calls Tryz.prog 79 #[.int .i64 7,inpV p0,inpV p1] w' (OpP c X2 Y2 W2 H2 m w')) :
  Calls Tryz.prog 45 #[ndV s ia nin cin la nI cI ra nR cR,reg X Y W H,.slice (some ⟨sb,0,none⟩) 2 cP] w (OpP c X2 Y2 W2 H2 m w):=by
 have KC:=Lib.hid KC
 have KI:=Lib.hid (fun w=>comb_over s hz w)
 exact qx0
set_option maxRecDepth 100000 in
set_option maxHeartbeats 1000000 in
theorem ev_around (s:ByteArray) (ia:Option Addr) (nin cin:Nat) (la:Option Addr) (nI cI:Nat) (ra:Option Addr) (nR cR:Nat) (I:List Int) (L:List Nat) (sb cP:Nat) (X Y W H c X2 Y2 W2 H2:Int) (m:List Nat) (w:World) (p0:Inp) (t0:(s.toList == [])=false) (t1:(s.toList == [97,100,100])=false) (t2:(s.toList == [115,117,98])=false) (t3:(s.toList == [109,117,108])=false) (t4:(s.toList == [100,105,118])=false) (t5:(s.toList == [108,101,115,115])=false) (t6:(s.toList == [109,111,114,101])=false) (t7:(s.toList == [111,118,101,114])=false) (u0:(s.toList == [99,111,110,115,116])=false) (u1:(s.toList == [110,111,105,115,101])=false) (u2:(s.toList == [115,112,101,99,107,108,101])=false) (u3:(s.toList == [115,99,97,108,101])=false) (u4:(s.toList == [99,108,97,109,112])=false) (u5:(s.toList == [98,108,101,110,100])=false) (u6:(s.toList == [115,101,108,101,99,116])=false) (u7:(s.toList == [116,101,114,114,97,99,101])=false) (u8:(s.toList == [100,105,116,104,101,114])=false) (u9:(s.toList == [115,116,97,109,112])=false) (u10:(s.toList == [102,97,117,108,116])=false) (u11:(s.toList == [102,111,108,100])=false) (hI:ZRow w la I) (hR:SRow w ra L) (hP:InsAt w sb [p0])
  (KC:∀ w',ZRow w' la I→SRow w' ra L→SRow w' (some ⟨p0.g,0,none⟩) p0.l→Calls Tryz.prog 80 #[ndV s ia nin cin la nI cI ra nR cR,reg X Y W H,inpV p0] w' (OpP c X2 Y2 W2 H2 m w')) :
  Calls Tryz.prog 45 #[ndV s ia nin cin la nI cI ra nR cR,reg X Y W H,.slice (some ⟨sb,0,none⟩) 1 cP] w (OpP c X2 Y2 W2 H2 m w):=by
 have KC:=Lib.hid KC
 have KI:=Lib.hid (fun w=>comb_none s t0 t1 t2 t3 t4 t5 t6 t7 w)
 have HS:=Lib.hid (EvS.start (s:=s) (ia:=ia) (nin:=nin) (cin:=cin) (nI:=nI) (cI:=cI) (nR:=nR) (cR:=cR) (X:=X) (Y:=Y) (W:=W) (H:=H) hI hR hP)
 clear hI hR hP
 go_enter Tryz.func45,Tryz.ntmps45
 go_upto_region 1 with fail
 generalize ((w.alloc (.cells #[.string s,.slice ia nin cin,.slice la nI cI,.slice ra nR cR] 61)).alloc (.cells #[.int .i64 X,.int .i64 Y,.int .i64 W,.int .i64 H] 26)).alloc (.cells #[.int .i64 0,.int .i64 0,.int .i64 0,.int .i64 0,.slice none 0 0] 32)=W0 at *
 have p0':=HS.out.nd.cells.1
 have l0':=HS.out.nd.lt
 go_wp2_with fail
 refine (KI.out _).mono ?_
 rintro e w1 ⟨rfl,hb⟩
 have HS1:=Lib.hid (HS.out.call hb)
 clear hb HS p0' l0'
 go_wp2_with fail
 refine wp_region_noPanic ?_
 refine wp_region_heldT (EvS w s ia nin cin la nI cI ra nR cR I L X Y W H sb [p0]) 8 (by kernel_rfl) HS1.out.drew (fun hHeld=>?_)
 refine tkA [5,6,7,8,9] 0 rfl (by
  intro w₁ hSw
  obtain ⟨p0,p1,p2,p3⟩:=hSw.nd.cells
  go_simp
  try with_reducible rfl) ?_
 try simp only [qS,qN,qC,qD]
 refine tkA [5,6,7,8,9] 1 rfl (by
  intro w₁ hSw
  obtain ⟨f0,f1,f2,f3⟩:=hSw.rg.cells
  go_simp
  try with_reducible rfl) ?_
 try simp only [qS,qN,qC,qD]
 refine tkO [3,4,5,6,7,8,9] 2 rfl ?_
 try simp only [qS,qN,qC,qD]
 refine tkO [4,5,6,7,8,9] 3 rfl ?_
 try simp only [qS,qN,qC,qD]
 refine tkA [5,6,7,8,9] 4 rfl (by
  intro w₁ hSw
  have f0:w₁.cell? ⟨sb,0,none⟩=some (.int .i64 p0.X):=hSw.f.cell 0 _ rfl 0 (by omega)
  have f1:w₁.cell? ⟨sb,1,none⟩=some (.int .i64 p0.Y):=hSw.f.cell 0 _ rfl 1 (by omega)
  have f2:w₁.cell? ⟨sb,2,none⟩=some (.int .i64 p0.W):=hSw.f.cell 0 _ rfl 2 (by omega)
  have f3:w₁.cell? ⟨sb,3,none⟩=some (.int .i64 p0.H):=hSw.f.cell 0 _ rfl 3 (by omega)
  have f4:w₁.cell? ⟨sb,4,none⟩=some (.slice (some ⟨p0.g,0,none⟩) p0.l.length p0.c):=hSw.f.cell 0 _ rfl 4 (by omega)
  go_simp
  try with_reducible rfl) ?_
 try simp only [qS,qN,qC,qD]
 refine rdA 5 rfl (fun K hK=>?_)
 go_simp
 (with_reducible refine (KC.out _ hHeld.i hHeld.r (hHeld.f.row _ (by simp))).mono ?_)
 rintro e w2 ⟨⟨x,y,p,q,a,n,k,rfl,ho⟩,hb⟩
 have hN:=hHeld.call hb
 have HO:=Lib.hid ho
 have HZ:=Lib.hid hHeld.rs.lt
 have HZB:=Lib.hid hHeld.b.size
 clear hb ho
 go_wp2_with fail
 refine ouA hK hN (fun hHeld=>?_)
 clear hK K
 try simp only [qS,qN,qC,qD]
 refine tkO [8,9] 6 rfl ?_
 try simp only [qS,qN,qC,qD]
 refine tkO [8,9] 7 rfl ?_
 try simp only [qS,qN,qC,qD]
 refine rdA 8 rfl (fun K hK=>?_)
 obtain ⟨qf0,qf1,qf2,qf3,qf4⟩:_∧_∧_∧_∧_:=⟨hHeld.rs.frozen 0,hHeld.rs.frozen 1,hHeld.rs.frozen 2,hHeld.rs.frozen 3,hHeld.rs.frozen 4⟩
 obtain ⟨d0,d1,d2,d3,d4⟩:=hHeld.rs.cells
 have lt:=hHeld.rs.lt
 have HB:=Lib.hid hHeld.b
 have HQ:=Lib.hid (fld_store w2 (w.heap.size+2) 0 0 0 0 _ x y p q (.slice a n k) hHeld.rs _ rfl)
 go_simp
 refine ouB hK ?_
 clear hK K
 try simp only [qS,qN,qC,qD]
 refine rdA 9 rfl (fun K hK=>?_)
 exact qx1
end Go.Proofs.YtmggflgdoioajaaGreat
namespace Ieee
namespace Format
open Go
def Hn (n:Nat) (x:Nat):Prop:=single.fin x∧-((n:Rat)*P2 20)≤single.V x∧single.V x≤(n:Rat)*P2 20
theorem const_nat (n:Nat) (hn:n<16777216):∃ c,single.fin c∧single.V c=(n:Rat)*P2 20∧single.sgn c=false:=by
 have r:single.Rounds ((n:Rat)*P2 20) false (single.write (.number false n 20)):=single.write_rounds single_fb false n 20 (by simp [sg])
 exact ⟨_,r.exact (n:Int) 20 (by omega) (by omega) (by decide) (by decide) (by rw [Rat.intCast_natCast])⟩
theorem Hn.one {x:Nat} (h:Bd 20 x):Hn 1 x:=by
 obtain ⟨a,b,c⟩:=h
 have e:((1:Nat):Rat)*P2 20=P2 20:=by rw [show ((1:Nat):Rat)=1 from rfl,Rat.one_mul]
 exact ⟨a,by rw [e];exact b,by rw [e];exact c⟩
theorem Hn.add {n x y:Nat} (hx:Hn n x) (hy:Bd 20 y) (hn:n+1<16777216):Hn (n+1) (addF x y):=by
 have r:=(addF_spec hx.1 hy.1).2
 obtain ⟨c,fc,vc,sc⟩:=const_nat (n+1) hn
 obtain ⟨_,x1,x2⟩:=hx
 obtain ⟨_,y1,y2⟩:=hy
 have e:((n+1:Nat):Rat)*P2 20=(n:Rat)*P2 20+P2 20:=by
  rw [show ((n+1:Nat):Rat)=(n:Rat)+1 from by exact_mod_cast rfl,Rat.add_mul,Rat.one_mul]
 have z:P2 ((20:Nat):Int)=P2 20:=rfl
 rw [z] at y1 y2
 have:=r.bound fc sc (by rw [vc,e];grind) (by rw [vc,e];grind)
 rw [vc] at this
 exact ⟨this.1,this.2.2.1,this.2.1⟩
theorem conv_rounds (n:Int):single.Rounds (n:Rat) (decide (n<0)) (floatOfInt .f32 n):=by
 have e:sg (decide (n<0))*(((n.natAbs:Nat):Rat)*P2 0)=(n:Rat):=by
  exact qx51
 exact single.write_rounds single_fb (decide (n<0)) n.natAbs 0 e
theorem conv_big {n:Int} {k:Nat} (hk:k≤100) (h1:-((2 ^ k:Nat):Int)≤n) (h2:n≤((2 ^ k:Nat):Int)):Bd k (floatOfInt .f32 n):=by
 have r:=conv_rounds n
 have e:P2 k=(((2 ^ k:Nat):Int):Rat):=by rw [P2_nat,Rat.intCast_natCast]
 refine r.bd hk ?_ ?_
 ·rw [e];exact Rat.intCast_le_intCast.2 h2
 ·rw [e,←Rat.intCast_neg];exact Rat.intCast_le_intCast.2 h1
theorem conv_nonneg {n:Int} {k:Nat} (hk:k≤100) (h1:0≤n) (h2:n≤((2 ^ k:Nat):Int)):0≤single.V (floatOfInt .f32 n):=by
 have h0:(0:Int)≤((2 ^ k:Nat):Int):=by omega
 exact (conv_rounds n).nonneg (conv_big hk (by omega) h2).1 (Rat.intCast_nonneg.2 h1)
theorem conv_24 {n:Int} (h1:1≤n) (h2:n≤16777216):single.fin (floatOfInt .f32 n)∧single.V (floatOfInt .f32 n)=(n:Rat)∧single.sgn (floatOfInt .f32 n)=false:=by
 have d:decide (n<0)=false:=decide_eq_false (by omega)
 have r:=conv_rounds n
 rw [d] at r
 by_cases c:n=16777216
 ·subst c
  exact r.exact 1 24 (by decide) (by decide) (by decide) (by decide) (by rw [show P2 24=((2 ^ 24:Nat):Rat) from P2_nat 24];decide +kernel)
 ·exact r.exact n 0 (by omega) (by omega) (by decide) (by decide) (by rw [P2_zero,Rat.mul_one])
theorem Rounds.nonpos {x:Rat} {s:Bool} {w:Nat} (h:single.Rounds x s w) (fw:single.fin w) (h0:x≤0):single.V w≤0:=by
 obtain ⟨r,rfl,hr⟩:=h
 have lt:=(single.fin_word_iff s r).1 fw
 rw [single.V_word lt]
 have p:=single.rv_nonneg r
 cases s
 ·have h1:=hr.2.2
  simp [sg] at h1
  have x0:x=0:=by grind
  subst x0
  have hz:single.Near (single.rv 0) r:=by rw [single.rv_zero];simpa [sg] using hr
  have:=hz.eq_of
  subst this
  rw [single.rv_zero]
  simp [sg]
 ·simp [sg];grind
theorem div_nonpos {x y:Nat} (hx:single.fin x) (hy:single.fin y) (h0:0<single.V y) (fd:single.fin (divF x y)) (h1:single.V x≤0):single.V (divF x y)≤0:=by
 have hr:=(divF_spec hx hy (by intro e;rw [e] at h0;exact absurd h0 (by grind))).2
 have e:single.V x / single.V y*single.V y=single.V x:=Rat.div_mul_cancel (by grind)
 exact hr.nonpos fd (mul_le_cancel h0 (by rw [e];grind))
end Format
end Ieee
namespace Ieee
namespace Format
open Go
def He (e n:Nat) (x:Nat):Prop:=single.fin x∧-((n:Rat)*P2 e)≤single.V x∧single.V x≤(n:Rat)*P2 e
theorem const_nat_e (e n:Nat) (he:e≤100) (hn:n<16777216):∃ c,single.fin c∧single.V c=(n:Rat)*P2 e∧single.sgn c=false:=by
 have r:single.Rounds ((n:Rat)*P2 e) false (single.write (.number false n e)):=single.write_rounds single_fb false n e (by simp [sg])
 exact ⟨_,r.exact (n:Int) e (by omega) (by omega) (by omega) (by omega) (by rw [Rat.intCast_natCast])⟩
theorem He.one {e x:Nat} (h:Bd e x):He e 1 x:=by
 obtain ⟨a,b,c⟩:=h
 have q:((1:Nat):Rat)*P2 e=P2 e:=by rw [show ((1:Nat):Rat)=1 from rfl,Rat.one_mul]
 exact ⟨a,by rw [q];exact b,by rw [q];exact c⟩
theorem He.add {e n x y:Nat} (hx:He e n x) (hy:Bd e y) (he:e≤100) (hn:n+1<16777216):He e (n+1) (addF x y):=by
 have r:=(addF_spec hx.1 hy.1).2
 obtain ⟨c,fc,vc,sc⟩:=const_nat_e e (n+1) he hn
 obtain ⟨_,x1,x2⟩:=hx
 obtain ⟨_,y1,y2⟩:=hy
 have q:((n+1:Nat):Rat)*P2 e=(n:Rat)*P2 e+P2 e:=by
  rw [show ((n+1:Nat):Rat)=(n:Rat)+1 from by exact_mod_cast rfl,Rat.add_mul,Rat.one_mul]
 have:=r.bound fc sc (by rw [vc,q];grind) (by rw [vc,q];grind)
 rw [vc] at this
 exact ⟨this.1,this.2.2.1,this.2.1⟩
theorem He.bd {e n x:Nat} (h:He e n x) (hn:n≤4096):Bd (e+12) x:=by
 obtain ⟨a,b,c⟩:=h
 have p:=P2_pos (e:Int)
 have q:P2 ((e+12:Nat):Int)=4096*P2 e:=by
  rw [show ((e+12:Nat):Int)=12+(e:Int) from by omega,P2_add,show P2 12=((2 ^ 12:Nat):Rat) from P2_nat 12]
  rfl
 have hq:(n:Rat)≤4096:=by exact_mod_cast hn
 have:=Rat.mul_le_mul_of_nonneg_right hq (Rat.le_of_lt p)
 exact ⟨a,by rw [q];grind,by rw [q];grind⟩
end Format
end Ieee
namespace Ieee
namespace Format
open Go
def Wi (c:Rat) (x:Nat):Prop:=single.fin x∧-c≤single.V x∧single.V x≤c
theorem Rounds.err {x:Rat} {s:Bool} {w c:Nat} {e:Int} (h:single.Rounds x s w) (fc:single.fin c) (hc:single.sgn c=false) (h1:x≤single.V c) (h2:-single.V c≤x)
  (hr:∀ r,r<single.rung c→single.rplace r≤e):single.fin w∧2*single.V w≤2*x+P2 e∧2*x≤2*single.V w+P2 e:=by
 obtain ⟨fw,_,_,hle,_⟩:=h.bound fc hc h1 h2
 refine ⟨fw,?_⟩
 obtain ⟨r,rfl,hn⟩:=h
 have hlt:r<single.infRung:=(single.fin_word_iff s r).1 fw
 rw [single.V_word hlt]
 rw [single.rung_word s (single.min_lt_sw r),Nat.min_eq_left (Nat.le_of_lt hlt)] at hle
 have hv:sg s*x≤single.rv (single.rung c):=by
  rw [←V_pos_word hc]
  cases s<;>simp [sg]<;>grind
 have key:2*single.rv r≤2*(sg s*x)+P2 e∧2*(sg s*x)≤2*single.rv r+P2 e:=by
  rcases Nat.lt_or_ge r (single.rung c) with hlt2|hge
  ·obtain ⟨a,b⟩:=hn.off
   have:=P2_mono (hr r hlt2)
   grind
  ·obtain rfl:r=single.rung c:=by omega
   have hp:=P2_pos e
   refine ⟨?_,by grind⟩
   rcases hn.2.1 with h0|h0
   ·rw [h0,single.rv_zero]
    have:=hn.2.2
    grind
   ·rcases Nat.eq_zero_or_pos (single.rung c) with hz|hz
    ·rw [hz,single.rv_zero]
     have:=hn.2.2
     grind
    ·have h3:single.rv (single.rung c-1)+single.rv (single.rung c)≤2*(sg s*x):=by
      split at h0
      ·exact h0
      ·exact Rat.le_of_lt h0
     have h4:=single.rv_succ (single.rung c-1)
     rw [show single.rung c-1+1=single.rung c from by omega] at h4
     have:=P2_mono (hr (single.rung c-1) (by omega))
     grind
 cases s<;>simp [sg] at key ⊢<;>grind
theorem place_le {r R:Nat} {e:Int} (he:single.rplace R=e):∀ q,q<r→r≤R+1→single.rplace q≤e:=fun q hq hr=>by
 rw [←he];exact single.rplace_mono (by omega)
theorem const_4:single.fin 1082130432∧single.V 1082130432=4∧single.sgn 1082130432=false:=by
 have:=V_const false 128 8388608 (.inr (by decide)) (by decide) (by decide)
 rw [show single.word false (128*8388608+8388608)=1082130432 from by decide] at this
 refine ⟨this.1,?_,this.2.2⟩
 rw [this.2.1,show ((128:Nat):Int)-149=-21 from rfl,show ((8388608:Nat):Rat)=P2 23 from (P2_nat 23).symm,←P2_add]
 simp [sg]
 exact P2_nat 2
theorem const_8:single.fin 1090519040∧single.V 1090519040=8∧single.sgn 1090519040=false:=by
 have:=V_const false 129 8388608 (.inr (by decide)) (by decide) (by decide)
 rw [show single.word false (129*8388608+8388608)=1090519040 from by decide] at this
 refine ⟨this.1,?_,this.2.2⟩
 rw [this.2.1,show ((129:Nat):Int)-149=-20 from rfl,show ((8388608:Nat):Rat)=P2 23 from (P2_nat 23).symm,←P2_add]
 simp [sg]
 exact P2_nat 3
def Near1 (M d:Rat):Prop:=∀ (x:Rat) (s:Bool) (w:Nat),single.Rounds x s w→x≤M→-M≤x→single.fin w∧single.V w≤x+d∧x≤single.V w+d∧single.V w≤M∧-M≤single.V w
theorem near_of {c:Nat} {M:Rat} (e d:Int) (R:Nat) (hd:d=e-1) (hc:single.fin c∧single.V c=M∧single.sgn c=false) (hR:c%2147483648=R+1) (he:single.rplace R=e):Near1 M (P2 d):=by
 subst hd
 intro x s w h h1 h2
 obtain ⟨fc,vc,sc⟩:=hc
 rw [←vc] at h1 h2
 have h3:=h.err fc sc h1 h2 (fun r hr=>place_le he r (by rw [rung_lit,hR] at hr;exact hr) (Nat.le_refl _))
 have h4:=h.bound fc sc h1 h2
 rw [vc] at h4
 have h5:=P2_double e
 exact ⟨h3.1,by grind,by grind,h4.2.1,h4.2.2.1⟩
theorem place_at (l k:Nat) (h:k<8388608):single.rplace ((l+1)*8388608+k)=-149+(l:Int):=by
 unfold rplace
 have e1:single.binade=8388608:=by decide
 have e2:single.leastPlace=-149:=by decide
 rw [e1,e2,if_neg (by omega),show ((l+1)*8388608+k) / 8388608=l+1 from by omega]
 simp
theorem place_2:single.rplace 1073741823=-23:=by
 rw [show (1073741823:Nat)=(126+1)*8388608+8388607 from by omega,place_at _ _ (by omega)];rfl
theorem place_4:single.rplace 1082130431=-22:=by
 rw [show (1082130431:Nat)=(127+1)*8388608+8388607 from by omega,place_at _ _ (by omega)];rfl
theorem place_8:single.rplace 1090519039=-21:=by
 rw [show (1090519039:Nat)=(128+1)*8388608+8388607 from by omega,place_at _ _ (by omega)];rfl
theorem near_2:Near1 2 (P2 (-24)):=near_of (-23) (-24) 1073741823 (by omega) const_2 (by omega) place_2
theorem near_4:Near1 4 (P2 (-23)):=near_of (-22) (-23) 1082130431 (by omega) const_4 (by omega) place_4
theorem near_8:Near1 8 (P2 (-22)):=near_of (-21) (-22) 1090519039 (by omega) const_8 (by omega) place_8
theorem mix_lin {c dM U A B D P:Rat} (u0:0≤U) (u1:U≤1) (hd:0≤dM) (a1:-c≤A) (a2:A≤c) (b1:-c≤B) (b2:B≤c) (D1:D≤B-A+dM) (D2:B-A≤D+dM) (P1:P≤D*U+dM) (P2:D*U≤P+dM) :
  A+P≤c+2*dM∧-(c+2*dM)≤A+P:=by
 have e0:0≤1-U:=by grind
 have q1:=Rat.mul_le_mul_of_nonneg_right a2 e0
 have q2:=Rat.mul_le_mul_of_nonneg_right a1 e0
 have q3:=Rat.mul_le_mul_of_nonneg_right b2 u0
 have q4:=Rat.mul_le_mul_of_nonneg_right b1 u0
 have q5:=Rat.mul_le_mul_of_nonneg_right D1 u0
 have q6:=Rat.mul_le_mul_of_nonneg_right D2 u0
 have q7:=Rat.mul_le_mul_of_nonneg_left u1 hd
 constructor<;>grind
theorem mix_wi {c M N dM dN:Rat} {a b u:Nat} (KM:Near1 M dM) (KN:Near1 N dN) (ha:Wi c a) (hb:Wi c b) (hu:single.fin u) (u0:0≤single.V u) (u1:single.V u≤1) (hM:2*c≤M) (hN:c+2*dM≤N) (hd:0≤dM) (hM0:0≤M) :
  single.fin (subF b a)∧single.fin (mulF (subF b a) u)∧Wi (c+2*dM+dN) (mixF a b u):=by
 obtain ⟨fa,a1,a2⟩:=ha
 obtain ⟨fb,b1,b2⟩:=hb
 obtain ⟨fD,D1,D2,D3,D4⟩:=KM _ _ _ (subF_spec fb fa).2 (by grind) (by grind)
 have m1:=Rat.mul_le_mul_of_nonneg_right D3 u0
 have m2:=Rat.mul_le_mul_of_nonneg_right D4 u0
 have m3:=Rat.mul_le_mul_of_nonneg_left u1 hM0
 obtain ⟨fP,P1,P2,_,_⟩:=KM _ _ _ (mulF_spec fD hu).2 (by grind) (by grind)
 obtain ⟨s1,s2⟩:=mix_lin u0 u1 hd a1 a2 b1 b2 D1 D2 P1 P2
 obtain ⟨fS,S1,S2,_,_⟩:=KN _ _ _ (addF_spec fa fP).2 (by grind) (by grind)
 exact ⟨fD,fP,fS,by unfold mixF;grind,by unfold mixF;grind⟩
theorem value_wi {a b c d u v:Nat} (ha:Wi 1 a) (hb:Wi 1 b) (hc:Wi 1 c) (hd:Wi 1 d) (hu:single.fin u) (u0:0≤single.V u) (u1:single.V u≤1) (hv:single.fin v) (v0:0≤single.V v) (v1:single.V v≤1) :
  Wi (1+8*P2 (-24)) (mixF (mixF a b u) (mixF c d u) v):=by
 have p:=P2_pos (-24)
 have q:P2 (-23)=2*P2 (-24):=P2_double (-23)
 have r:16777216*P2 (-24)=1:=by
  exact qx57
 have h1:=(mix_wi near_2 near_2 ha hb hu u0 u1 (by grind) (by grind) (by grind) (by grind)).2.2
 have h2:=(mix_wi near_2 near_2 hc hd hu u0 u1 (by grind) (by grind) (by grind) (by grind)).2.2
 have h3:=(mix_wi near_4 near_2 h1 h2 hv v0 v1 (by grind) (by grind) (by grind) (by grind)).2.2
 obtain ⟨f,x,y⟩:=h3
 exact ⟨f,by grind,by grind⟩
theorem grad_wi {a b c d u v:Nat} (ha:Wi 2 a) (hb:Wi 2 b) (hc:Wi 2 c) (hd:Wi 2 d) (hu:single.fin u) (u0:0≤single.V u) (u1:single.V u≤1) (hv:single.fin v) (v0:0≤single.V v) (v1:single.V v≤1) :
  Wi (2+16*P2 (-24)) (mixF (mixF a b u) (mixF c d u) v):=by
 have p:=P2_pos (-24)
 have q:P2 (-23)=2*P2 (-24):=P2_double (-23)
 have q2:P2 (-22)=2*P2 (-23):=P2_double (-22)
 have r:16777216*P2 (-24)=1:=by
  exact qx57
 have h1:=(mix_wi near_4 near_4 ha hb hu u0 u1 (by grind) (by grind) (by grind) (by grind)).2.2
 have h2:=(mix_wi near_4 near_4 hc hd hu u0 u1 (by grind) (by grind) (by grind) (by grind)).2.2
 have h3:=(mix_wi near_8 near_4 h1 h2 hv v0 v1 (by grind) (by grind) (by grind) (by grind)).2.2
 obtain ⟨f,x,y⟩:=h3
 exact ⟨f,by grind,by grind⟩
end Format
end Ieee
namespace Go.Proofs.YtmggflgdoioajaaGreat
open Go.ChangeShapes Go.WideShapes Go.ChangeAt Go.RowKit
open Ieee.Format (fin finE htE allFin allHt all_true all_false mulF subF addF Ht Bd divF rootF floorF easeF mixF)
open Ieee.Format (Wi const_0 const_1 const_n1 conv_exact divF_lt div_bound div_nonneg subF_spec)
def latS (m c:Int):Nat:=divF (floatOfInt .f32 m) (floatOfInt .f32 c)
theorem lat_conv {c:Int} (h1:0≤c) (h2:c≤4096):fin Ieee.single (floatOfInt .f32 c)∧Ieee.single.V (floatOfInt .f32 c)=(c:Rat)∧Ieee.single.sgn (floatOfInt .f32 c)=false:=by
 obtain ⟨a,b,d⟩:=conv_exact c (by omega) (by omega)
 exact ⟨a,b,by rw [d];exact decide_eq_false (by omega)⟩
theorem lat_share {m c:Int} (h0:0≤m) (h1:m<c) (h2:c≤4096):Share (latS m c)∧fin Ieee.single (floatOfInt .f32 m)∧fin Ieee.single (floatOfInt .f32 c)∧Ieee.single.V (floatOfInt .f32 c)≠0:=by
 obtain ⟨a1,a2,a3⟩:=lat_conv h0 (by omega)
 obtain ⟨b1,b2,b3⟩:=lat_conv (show 0≤c by omega) h2
 have hc:(0:Rat)<(c:Rat):=by exact_mod_cast (show (0:Int)<c by omega)
 have hm:(0:Rat)≤(m:Rat):=by exact_mod_cast h0
 have hmc:(m:Rat)≤(c:Rat):=by exact_mod_cast (show m≤c by omega)
 have p:0<Ieee.single.V (floatOfInt .f32 c):=by rw [b2];exact hc
 have r1:=div_bound a1 b1 p const_1.1 const_1.2.2 (by rw [const_1.2.1,a2,b2];grind) (by rw [const_1.2.1,a2,b2];grind)
 rw [const_1.2.1] at r1
 have r2:=div_nonneg a1 b1 p r1.1 (by rw [a2];exact hm)
 exact ⟨⟨r1.1,r2,r1.2.1⟩,a1,b1,by grind⟩
theorem sub_one {s:Nat} (h:Share s):fin Ieee.single (subF s 1065353216)∧-1≤Ieee.single.V (subF s 1065353216)∧Ieee.single.V (subF s 1065353216)≤1:=by
 obtain ⟨f,a,b⟩:=h
 have:=(subF_spec f const_1.1).2.bound const_1.1 const_1.2.2 (by rw [const_1.2.1];grind) (by rw [const_1.2.1];grind)
 rw [const_1.2.1] at this
 exact ⟨this.1,this.2.2.1,this.2.1⟩
def latF (ψ:Int→Int→Nat→Nat→Nat) (x y c:Int):Nat:=
 mixF (mixF (ψ (x / c) (y / c) (latS (x%c) c) (latS (y%c) c)) (ψ (x / c+1) (y / c) (subF (latS (x%c) c) 1065353216) (latS (y%c) c)) (easeF (latS (x%c) c)))
  (mixF (ψ (x / c) (y / c+1) (latS (x%c) c) (subF (latS (y%c) c) 1065353216)) (ψ (x / c+1) (y / c+1) (subF (latS (x%c) c) 1065353216) (subF (latS (y%c) c) 1065353216)) (easeF (latS (x%c) c)))
  (easeF (latS (y%c) c))
theorem lat_any (a b:Int) (w:World) (hb:0<b) (hb2:b≤16777216) (ha:-1099511627776≤a) (ha2:a≤1099511627776) :
  Calls Tryz.prog 145 #[.int .i64 a,.int .i64 b] w fun e w'=>e=.returned (.tuple #[.int .i64 (a / b),.int .i64 (a%b)])∧Below w.heap.size w w':=by
 exact qx33
open Ieee.Format (const_1 bits_sub bits_div subF_lt divF_lt)
def Dx (d:Nat):Prop:=fin Ieee.single d∧-1≤Ieee.single.V d∧Ieee.single.V d≤1∧d<4294967296
theorem Share.dx {s:Nat} (h:Share s) (hl:s<4294967296):Dx s:=⟨h.1,by have:=h.2.1;grind,h.2.2,hl⟩
theorem Share.dx1 {s:Nat} (h:Share s):Dx (subF s 1065353216):=⟨(sub_one h).1,(sub_one h).2.1,(sub_one h).2.2,subF_lt _ _⟩
theorem Share.ebd {s:Nat} (h:Share s):Bd 0 (easeF s):=by
 obtain ⟨_,_,_,f,a,b⟩:=Ieee.Format.ease_ok h.1 h.2.1 h.2.2
 exact ⟨f,by rw [show Ieee.P2 ((0:Nat):Int)=1 from Ieee.P2_zero];grind,by rw [show Ieee.P2 ((0:Nat):Int)=1 from Ieee.P2_zero];exact b⟩
set_option maxRecDepth 100000 in
set_option maxHeartbeats 2000000 in
theorem corners_any (gn:Nat) (caps:Array Value) (ψ:Int→Int→Nat→Nat→Nat) (x y c:Int) (w:World) (hx:-8388608≤x) (hx2:x≤8388608) (hy:-8388608≤y) (hy2:y≤8388608) (h1:1≤c) (h2:c≤4096)
  (eg:∀ args w,(callFunc gn args).run Tryz.prog w=.ok (.enter gn args) w)
  (hf:∀ k l dx dy,Dx dx→Dx dy→∀ W',Below w.heap.size w W'→Calls Tryz.prog gn (#[.int .i64 k,.int .i64 l,.float .f32 dx,.float .f32 dy] ++ caps) W' fun e w'=>e=.returned (.float .f32 (ψ k l dx dy))∧Below W'.heap.size W' w')
  (hψ:∀ k l dx dy,Dx dx→Dx dy→Bd 1 (ψ k l dx dy)) :
  Calls Tryz.prog 184 #[.int .i64 x,.int .i64 y,.int .i64 c,.func (.func gn) #[] caps] w fun e w'=>e=.returned (.float .f32 (latF ψ x y c))∧Below w.heap.size w w':=by
 have KX:=Lib.hid (fun w=>lat_any x c w (by omega) (by omega) (by omega) (by omega))
 have KY:=Lib.hid (fun w=>lat_any y c w (by omega) (by omega) (by omega) (by omega))
 have bx:=ediv_small x c 8388608 (by omega) (by omega) (by omega) (by omega)
 have by':=ediv_small y c 8388608 (by omega) (by omega) (by omega) (by omega)
 obtain ⟨sh,f1,f2,f3⟩:=lat_share (m:=x%c) (c:=c) (Int.emod_nonneg _ (by omega)) (Int.emod_lt_of_pos _ (by omega)) h2
 obtain ⟨th,f4,_,_⟩:=lat_share (m:=y%c) (c:=c) (Int.emod_nonneg _ (by omega)) (Int.emod_lt_of_pos _ (by omega)) h2
 have k1:=fun w'=>run_float_arith (P:=Tryz.prog) w' .quo 48 .f32 (floatOfInt .f32 (x%c)) (floatOfInt .f32 c) (latS (x%c) c) (bits_div f1 f2 f3)
 have k2:=fun w'=>run_float_arith (P:=Tryz.prog) w' .quo 48 .f32 (floatOfInt .f32 (y%c)) (floatOfInt .f32 c) (latS (y%c) c) (bits_div f4 f2 f3)
 have k3:=fun w'=>run_float_arith (P:=Tryz.prog) w' .sub 48 .f32 (latS (x%c) c) 1065353216 (subF (latS (x%c) c) 1065353216) (bits_sub sh.1 const_1.1)
 have k4:=fun w'=>run_float_arith (P:=Tryz.prog) w' .sub 48 .f32 (latS (y%c) c) 1065353216 (subF (latS (y%c) c) 1065353216) (bits_sub th.1 const_1.1)
 have dS:=Share.dx sh (divF_lt _ _)
 have dT:=Share.dx th (divF_lt _ _)
 have dS1:=Share.dx1 sh
 have dT1:=Share.dx1 th
 have KU:=Lib.hid (fun w=>ease_any (latS (x%c) c) sh w)
 have KV:=Lib.hid (fun w=>ease_any (latS (y%c) c) th w)
 have HC1:=Lib.hid (hf (x / c) (y / c) _ _ dS dT)
 have HC2:=Lib.hid (hf (x / c+1) (y / c) _ _ dS1 dT)
 have HC3:=Lib.hid (hf (x / c) (y / c+1) _ _ dS dT1)
 have HC4:=Lib.hid (hf (x / c+1) (y / c+1) _ _ dS1 dT1)
 have m1:=Ieee.Format.mix_bd (hψ (x / c) (y / c) _ _ dS dT) (hψ (x / c+1) (y / c) _ _ dS1 dT) (Share.ebd sh) (by decide)
 have m2:=Ieee.Format.mix_bd (hψ (x / c) (y / c+1) _ _ dS dT1) (hψ (x / c+1) (y / c+1) _ _ dS1 dT1) (Share.ebd sh) (by decide)
 have KM1:=Lib.hid (fun w=>mix_any 1 _ _ _ w (hψ (x / c) (y / c) _ _ dS dT) (hψ (x / c+1) (y / c) _ _ dS1 dT) (Share.ebd sh) (by decide))
 have KM2:=Lib.hid (fun w=>mix_any 1 _ _ _ w (hψ (x / c) (y / c+1) _ _ dS dT1) (hψ (x / c+1) (y / c+1) _ _ dS1 dT1) (Share.ebd sh) (by decide))
 have KM3:=Lib.hid (fun w=>mix_any 3 _ _ _ w m1.2.2 m2.2.2 (Share.ebd th) (by decide))
 unfold latF
 clear hf hψ sh th f1 f2 f3 f4 dS dT dS1 dT1 m1 m2
 generalize hzc:floatOfInt .f32 c=zc at *
 generalize hzm:floatOfInt .f32 (x%c)=zm at *
 generalize hzn:floatOfInt .f32 (y%c)=zn at *
 generalize ψ (x / c) (y / c) (latS (x%c) c) (latS (y%c) c)=p1 at *
 generalize ψ (x / c+1) (y / c) (subF (latS (x%c) c) 1065353216) (latS (y%c) c)=p2 at *
 generalize ψ (x / c) (y / c+1) (latS (x%c) c) (subF (latS (y%c) c) 1065353216)=p3 at *
 generalize ψ (x / c+1) (y / c+1) (subF (latS (x%c) c) 1065353216) (subF (latS (y%c) c) 1065353216)=p4 at *
 generalize subF (latS (x%c) c) 1065353216=s1 at *
 generalize subF (latS (y%c) c) 1065353216=t1 at *
 generalize easeF (latS (x%c) c)=u at *
 generalize easeF (latS (y%c) c)=v at *
 generalize latS (x%c) c=s at *
 generalize latS (y%c) c=t at *
 generalize mixF (mixF p1 p2 u) (mixF p3 p4 u) v=r at *
 generalize mixF p1 p2 u=q1 at *
 generalize mixF p3 p4 u=q2 at *
 generalize x / c=i at *
 generalize y / c=j at *
 generalize x%c=m at *
 generalize y%c=n at *
 go_enter Tryz.func184,Tryz.ntmps184
 go_wp2_with fail
 refine (KX.out _).mono ?_
 rintro e w1 ⟨rfl,b1⟩
 have HB1:=Lib.hid b1
 clear b1
 go_wp2_with fail
 refine (KY.out _).mono ?_
 rintro e w2 ⟨rfl,b2⟩
 have HB2:=Lib.hid (HB1.out.trans (b2.mono HB1.out.size))
 clear b2
 go_wp2_with fail
 refine (KU.out _).mono ?_
 rintro e w3 ⟨rfl,rfl⟩
 go_wp2_with fail
 refine (KV.out _).mono ?_
 rintro e w3 ⟨rfl,rfl⟩
 go_wp2_with fail
 refine (HC1.out _ HB2.out).mono ?_
 rintro e w4 ⟨rfl,b4⟩
 have HB4:=Lib.hid (HB2.out.trans (b4.mono HB2.out.size))
 clear b4
 go_wp2_with fail
 refine (HC2.out _ HB4.out).mono ?_
 rintro e w5 ⟨rfl,b5⟩
 have HB5:=Lib.hid (HB4.out.trans (b5.mono HB4.out.size))
 clear b5
 go_wp2_with fail
 refine (KM1.out _).mono ?_
 rintro e w6 ⟨rfl,rfl⟩
 go_wp2_with fail
 refine (HC3.out _ HB5.out).mono ?_
 rintro e w7 ⟨rfl,b7⟩
 have HB7:=Lib.hid (HB5.out.trans (b7.mono HB5.out.size))
 clear b7
 go_wp2_with fail
 refine (HC4.out _ HB7.out).mono ?_
 rintro e w8 ⟨rfl,b8⟩
 have HB8:=Lib.hid (HB7.out.trans (b8.mono HB7.out.size))
 clear b8
 go_wp2_with fail
 refine (KM2.out _).mono ?_
 rintro e w9 ⟨rfl,rfl⟩
 go_wp2_with fail
 refine (KM3.out _).mono ?_
 rintro e w9 ⟨rfl,rfl⟩
 go_wp2_with fail
 go_ret
 exact ⟨rfl,HB8.out⟩
theorem xor_bounds (a b:Int):0≤bits .xor .u32 a b∧bits .xor .u32 a b<4294967296:=by
 show 0≤IntKind.u32.wrap _∧IntKind.u32.wrap _<4294967296
 simp only [IntKind.wrap,IntKind.bits,IntKind.signed]
 constructor<;>simp<;>omega
open Ieee.Format (fin unitF signedF mulF subF addF)
theorem hash_bounds (h x y n:Int):0≤hashTo h x y n 3∧hashTo h x y n 3<4294967296:=xor_bounds _ _
def cvF (seed:Int) (k l:Int) (_ _:Nat):Nat:=Ieee.Format.signedF (hashTo seed k l 0 3)
theorem cvF_wi (seed k l:Int) (dx dy:Nat):Ieee.Format.Wi 1 (cvF seed k l dx dy):=by
 obtain ⟨h0,h1⟩:=hash_bounds seed k l 0
 obtain ⟨_,f,_⟩:=Ieee.Format.signed_ok _ h0 h1
 obtain ⟨_,_,a,b⟩:=Ieee.Format.unit_bounds _ h0 h1
 exact ⟨f,a,Rat.le_of_lt b⟩
theorem cvF_bd (seed k l:Int) (dx dy:Nat):Bd 1 (cvF seed k l dx dy):=by
 obtain ⟨f,a,b⟩:=cvF_wi seed k l dx dy
 have e:Ieee.P2 ((1:Nat):Int)=2:=Ieee.Format.P2_one
 exact ⟨f,by rw [e];grind,by rw [e];grind⟩
theorem valuefn_any (seed k l:Int) (dx dy:Nat) (p:Nat) (w:World) (hp:Blk w p #[.int .u32 seed] 49) :
  Calls Tryz.prog 185 #[.int .i64 k,.int .i64 l,.float .f32 dx,.float .f32 dy,.pointer (some ⟨p,0,none⟩)] w fun e w'=>e=.returned (.float .f32 (cvF seed k l dx dy))∧Below w.heap.size w w':=by
 obtain ⟨h0,h1⟩:=hash_bounds seed k l 0
 have KH:=Lib.hid (fun w=>hash1 seed k l 0 w)
 have KS:=Lib.hid (fun w=>signed_any (hashTo seed k l 0 3) w h0 h1)
 have c0:w.cell? ⟨p,0,none⟩=some (.int .u32 seed):=hp.cell 0
 have l0:=hp.lt
 unfold cvF
 clear hp h0 h1
 generalize Ieee.Format.signedF (hashTo seed k l 0 3)=v at *
 generalize hashTo seed k l 0 3=h at *
 go_enter Tryz.func185,Tryz.ntmps185
 go_wp2_with fail
 refine (KH.out _).mono ?_
 rintro e w1 ⟨rfl,rfl⟩
 go_wp2_with fail
 refine (KS.out _).mono ?_
 rintro e w1 ⟨rfl,rfl⟩
 go_wp2_with fail
 go_ret
 exact ⟨rfl,qBl⟩
def valF (seed x y c:Int):Nat:=latF (cvF seed) x y c
theorem nvalue_any (seed x y c:Int) (w:World) (hx:-8388608≤x) (hx2:x≤8388608) (hy:-8388608≤y) (hy2:y≤8388608) (h1:1≤c) (h2:c≤4096) :
  Calls Tryz.prog 173 #[.int .u32 seed,.int .i64 x,.int .i64 y,.int .i64 c] w fun e w'=>e=.returned (.float .f32 (valF seed x y c))∧Below w.heap.size w w':=by
 have KC:=Lib.hid (fun p w (hp:Blk w p #[.int .u32 seed] 49)=>corners_any 185 #[.pointer (some ⟨p,0,none⟩)] (cvF seed) x y c w hx hx2 hy hy2 h1 h2 (enters_of Tryz.func185 (by kernel_rfl) rfl)
  (fun k l dx dy _ _ W' hb=>valuefn_any seed k l dx dy p W' (hp.below hb hp.lt)) (fun k l dx dy _ _=>cvF_bd seed k l dx dy))
 unfold valF
 generalize latF (cvF seed) x y c=r at *
 have P0:=Blk.new w #[.int .u32 seed] 49
 have B0:Below w.heap.size w (w.alloc (.cells #[.int .u32 seed] 49)):=qBl
 go_enter Tryz.func173,Tryz.ntmps173
 go_wp2_with fail
 refine (KC.out _ _ P0).mono ?_
 rintro e w1 ⟨rfl,b1⟩
 have HB:=Lib.hid (B0.trans (b1.mono B0.size))
 clear b1 B0 P0
 go_wp2_with fail
 go_ret
 exact ⟨rfl,HB.out⟩
open Ieee.Format (Wi const_0 const_1 const_n1 mulF_spec addF_spec bits_mul bits_add mulF_lt addF_lt conv_exact)
def gX (k:Nat):Int:=[1,1,0,-1,-1,-1,0,1].getD k 0
def gY (k:Nat):Int:=[0,1,1,1,0,-1,-1,-1].getD k 0
theorem gX_le (k:Nat):-1≤gX k∧gX k≤1:=by
 match k with
 | 0|1|2|3|4|5|6|7=>decide
 | k+8=>simp [gX]
theorem gY_le (k:Nat):-1≤gY k∧gY k≤1:=by
 match k with
 | 0|1|2|3|4|5|6|7=>decide
 | k+8=>simp [gY]
def dotF (k:Nat) (dx dy:Nat):Nat:=addF (mulF (floatOfInt .f32 (gX k)) dx) (mulF (floatOfInt .f32 (gY k)) dy)
def cgF (seed:Int) (k l:Int) (dx dy:Nat):Nat:=dotF (hashTo seed k l 1 3%8).toNat dx dy
theorem unit_mul {z:Int} {d:Nat} (h1:-1≤z) (h2:z≤1) (hd:Dx d):fin Ieee.single (floatOfInt .f32 z)∧Wi 1 (mulF (floatOfInt .f32 z) d):=by
 obtain ⟨fd,d1,d2,_⟩:=hd
 obtain ⟨fz,vz,_⟩:=conv_exact z (by omega) (by omega)
 have hb:(z:Rat)*Ieee.single.V d≤1∧-1≤(z:Rat)*Ieee.single.V d:=by
  rcases (by omega:z=-1∨z=0∨z=1) with rfl|rfl|rfl<;>simp<;>grind
 have:=(mulF_spec fz fd).2.bound const_1.1 const_1.2.2 (by rw [const_1.2.1,vz];exact hb.1) (by rw [const_1.2.1,vz];exact hb.2)
 rw [const_1.2.1] at this
 exact ⟨fz,this.1,this.2.2.1,this.2.1⟩
theorem dot_wi (k:Nat) {dx dy:Nat} (hx:Dx dx) (hy:Dx dy):Wi 2 (dotF k dx dy):=by
 obtain ⟨_,fa,a1,a2⟩:=unit_mul (gX_le k).1 (gX_le k).2 hx
 obtain ⟨_,fb,b1,b2⟩:=unit_mul (gY_le k).1 (gY_le k).2 hy
 have:=(addF_spec fa fb).2.bound Ieee.Format.const_2.1 Ieee.Format.const_2.2.2 (by rw [Ieee.Format.const_2.2.1];grind) (by rw [Ieee.Format.const_2.2.1];grind)
 rw [Ieee.Format.const_2.2.1] at this
 exact ⟨this.1,this.2.2.1,this.2.1⟩
theorem Bd.of_wi {x:Nat} (h:Wi 2 x):Bd 1 x:=by
 obtain ⟨f,a,b⟩:=h
 have e:Ieee.P2 ((1:Nat):Int)=2:=Ieee.Format.P2_one
 exact ⟨f,by rw [e];grind,by rw [e];grind⟩
def dirs:Array Value:=#[.float .f32 1065353216,.float .f32 0,.float .f32 1065353216,.float .f32 1065353216,.float .f32 0,.float .f32 1065353216,.float .f32 3212836864,.float .f32 1065353216,.float .f32 3212836864,.float .f32 0,.float .f32 3212836864,.float .f32 3212836864,.float .f32 0,.float .f32 3212836864,.float .f32 1065353216,.float .f32 3212836864]
theorem dirs_x (k:Nat) (h:k<8):dirs[2*k]?=some (.float .f32 (floatOfInt .f32 (gX k))):=by
 match k,h with
 | 0,_|1,_|2,_|3,_|4,_|5,_|6,_|7,_=>rfl
theorem dirs_y (k:Nat) (h:k<8):dirs[2*k+1]?=some (.float .f32 (floatOfInt .f32 (gY k))):=by
 match k,h with
 | 0,_|1,_|2,_|3,_|4,_|5,_|6,_|7,_=>rfl
theorem dir_at (p k:Nat) (h:k<8) (w:World):(Instr.indexAt 199 (.pointer (some ⟨p,0,none⟩)) (.int .u32 (k:Int))).run Tryz.prog w=.ok (.pointer (some ⟨p,2*k,none⟩)) w:=by
 rcases (by omega:k=0∨k=1∨k=2∨k=3∨k=4∨k=5∨k=6∨k=7) with rfl|rfl|rfl|rfl|rfl|rfl|rfl|rfl<;>kernel_rfl
theorem gradfn_any (seed k l:Int) (dx dy:Nat) (hx:Dx dx) (hy:Dx dy) (p q:Nat) (w:World) (hp:Blk w p #[.int .u32 seed] 49) (hq:Blk w q dirs 199) :
  Calls Tryz.prog 187 #[.int .i64 k,.int .i64 l,.float .f32 dx,.float .f32 dy,.pointer (some ⟨q,0,none⟩),.pointer (some ⟨p,0,none⟩)] w fun e w'=>e=.returned (.float .f32 (cgF seed k l dx dy))∧Below w.heap.size w w':=by
 obtain ⟨h0,h1⟩:=hash_bounds seed k l 1
 have KH:=Lib.hid (fun w=>hash1 seed k l 1 w)
 have c0:w.cell? ⟨p,0,none⟩=some (.int .u32 seed):=hp.cell 0
 have l0:=hp.lt
 have l1:=hq.lt
 unfold cgF dotF
 obtain ⟨n,hn⟩:∃ n:Nat,(hashTo seed k l 1 3%8)=(n:Int):=⟨(hashTo seed k l 1 3%8).toNat,by omega⟩
 have hn8:n<8:=by omega
 rw [hn,Int.toNat_natCast]
 have cx:w.cell? ⟨q,2*n,none⟩=some (.float .f32 (floatOfInt .f32 (gX n))):=(hq.cell _).trans (dirs_x n hn8)
 have cy:w.cell? ⟨q,2*n+1,none⟩=some (.float .f32 (floatOfInt .f32 (gY n))):=(hq.cell _).trans (dirs_y n hn8)
 obtain ⟨f1,f2,_⟩:=unit_mul (gX_le n).1 (gX_le n).2 hx
 obtain ⟨f3,f4,_⟩:=unit_mul (gY_le n).1 (gY_le n).2 hy
 have k1:=fun w'=>run_float_arith (P:=Tryz.prog) w' .mul 48 .f32 (floatOfInt .f32 (gX n)) dx (mulF (floatOfInt .f32 (gX n)) dx) (bits_mul f1 hx.1)
 have k2:=fun w'=>run_float_arith (P:=Tryz.prog) w' .mul 48 .f32 (floatOfInt .f32 (gY n)) dy (mulF (floatOfInt .f32 (gY n)) dy) (bits_mul f3 hy.1)
 have k3:=fun w'=>run_float_arith (P:=Tryz.prog) w' .add 48 .f32 _ _ _ (bits_add f2 f4)
 have kd:=dir_at q n hn8
 clear hp hq f1 f2 f3 f4 hx hy
 generalize addF (mulF (floatOfInt .f32 (gX n)) dx) (mulF (floatOfInt .f32 (gY n)) dy)=r at *
 generalize mulF (floatOfInt .f32 (gX n)) dx=r1 at *
 generalize mulF (floatOfInt .f32 (gY n)) dy=r2 at *
 generalize floatOfInt .f32 (gX n)=g1 at *
 generalize floatOfInt .f32 (gY n)=g2 at *
 generalize hashTo seed k l 1 3=h at *
 go_enter Tryz.func187,Tryz.ntmps187
 go_wp2_with fail
 refine (KH.out _).mono ?_
 rintro e w1 ⟨rfl,rfl⟩
 have hm:(h%8:Int)=(n:Int):=hn
 go_wp2_with fail
 go_ret
 exact ⟨rfl,qBl⟩
def gradF (seed x y c:Int):Nat:=latF (cgF seed) x y c
theorem cgF_bd (seed k l:Int) (dx dy:Nat) (hx:Dx dx) (hy:Dx dy):Bd 1 (cgF seed k l dx dy):=Bd.of_wi (dot_wi _ hx hy)
theorem grad_new (w:World) (seed:Int):∀ W0,W0=(w.alloc (.cells #[.int .u32 seed] 49)).alloc (.cells dirs 199) →
  Blk W0 w.heap.size #[.int .u32 seed] 49∧Blk W0 (w.heap.size+1) dirs 199∧Below w.heap.size w W0:=by
 rintro _ rfl
 generalize dirs=d
 refine ⟨(Blk.new w #[.int .u32 seed] 49).alloc _,?_,qBl⟩
 have:=Blk.new (w.alloc (.cells #[.int .u32 seed] 49)) d 199
 simpa using this
set_option maxRecDepth 100000 in
set_option maxHeartbeats 1000000 in
theorem gradient_any (seed x y c:Int) (w:World) (hx:-8388608≤x) (hx2:x≤8388608) (hy:-8388608≤y) (hy2:y≤8388608) (h1:1≤c) (h2:c≤4096) :
  Calls Tryz.prog 174 #[.int .u32 seed,.int .i64 x,.int .i64 y,.int .i64 c] w fun e w'=>e=.returned (.float .f32 (gradF seed x y c))∧Below w.heap.size w w':=by
 have KC:=Lib.hid (fun p q w (hp:Blk w p #[.int .u32 seed] 49) (hq:Blk w q dirs 199)=>corners_any 187 #[.pointer (some ⟨q,0,none⟩),.pointer (some ⟨p,0,none⟩)] (cgF seed) x y c w hx hx2 hy hy2 h1 h2 (enters_of Tryz.func187 (by kernel_rfl) rfl)
  (fun k l dx dy ex ey W' hb=>(by have h:=gradfn_any seed k l dx dy ex ey p q W' (hp.below hb hp.lt) (hq.below hb hq.lt);exact h)) (fun k l dx dy ex ey=>cgF_bd seed k l dx dy ex ey))
 unfold gradF
 generalize latF (cgF seed) x y c=r at *
 obtain ⟨W0,hW0⟩:∃ W0,W0=(w.alloc (.cells #[.int .u32 seed] 49)).alloc (.cells dirs 199):=⟨_,rfl⟩
 obtain ⟨P0,Q0,B0⟩:=grad_new w seed W0 hW0
 unfold dirs at hW0
 have HW0:=Lib.hid hW0
 have HC:=Lib.hid (KC.out _ _ _ P0 Q0)
 have HB0:=Lib.hid B0
 clear KC P0 Q0 B0 hW0
 go_enter Tryz.func174,Tryz.ntmps174
 go_wp2_with fail
 rw [←HW0.out]
 refine HC.out.mono ?_
 rintro e w1 ⟨rfl,b1⟩
 have HB:=Lib.hid (HB0.out.trans (b1.mono HB0.out.size))
 clear b1
 go_wp2_with fail
 go_ret
 exact ⟨rfl,HB.out⟩
section
variable {α:Type} [Inhabited α]
def scanStep (f:α→Int) (s:Int × Int × α) (c:α):Int × Int × α:=
 if s.1<0∨f c<s.1 then (f c,s.1,c) else if s.2.1<0∨f c<s.2.1 then (s.1,f c,s.2.2) else s
end
end Go.Proofs.YtmggflgdoioajaaGreat
namespace Ieee
namespace Format
open Go
theorem sqrt_at {X:Nat} (hX:double.fin X) (h0:0<double.V X) (hb:double.V X≤P2 128) :
  ∃ (Z n:Nat) (h:Int) (q:Nat),double.sqrt X=some Z∧double.fin Z∧324518553658426726783156020576256≤n∧n<1298074214633706907132624082305024∧double.V X=(n:Rat)*(P2 h*P2 h)∧q*q≤n∧n<(q+1)*(q+1) ∧
   double.Rounds (((2*q+(q*q != n).toNat:Nat):Rat)*P2 (h-1)) false Z:=by
 obtain ⟨Z0,e0,f0,_⟩:=sqrt_spec hX (Rat.le_of_lt h0) hb
 have hml:=double.rmag_lt (double.rung X)
 have hV:=double.V_read X
 have e1:=e0
 unfold sqrt at e0
 rw [double.read_fin hX] at e0
 generalize double.rmag (double.rung X)=m at *
 generalize double.rplace (double.rung X)=i at *
 generalize double.sgn X=s at *
 have hm:m≠0:=by rintro rfl;rw [hV] at h0;simp at h0
 have hm0:(0:Rat)<(m:Rat):=by exact_mod_cast (show 0<m by omega)
 have hmp:0<(m:Rat)*P2 i:=Rat.mul_pos hm0 (P2_pos i)
 have hs:s=false:=by
  cases s
  ·rfl
  ·exfalso;rw [hV] at h0;simp [sg] at h0;grind
 subst hs
 have hVm:double.V X=(m:Rat)*P2 i:=by rw [hV];simp [sg]
 unfold Datum.root at e0
 simp only [if_neg hm,Bool.false_eq_true,if_false,Option.map_some] at e0
 obtain ⟨more,hmore⟩:∃ more,more=2*(double.fractionBits+2)-m.log2+((i-((2*(double.fractionBits+2)-m.log2:Nat):Int))%2).toNat:=⟨_,rfl⟩
 rw [←hmore] at e0
 have hfb:double.fractionBits=52:=rfl
 rw [hfb] at hmore
 have hlm:m.log2≤52:=by
  have:m.log2<53:=(Nat.log2_lt hm).2 (by rw [binade_two] at hml;exact hml)
  omega
 have hmore2:108≤m.log2+more:=by omega
 have hmore3:m.log2+more≤109:=by omega
 have heven:(i-more)%2=0:=by omega
 obtain ⟨h,hh⟩:∃ h,h=(i-more) / 2:=⟨_,rfl⟩
 have hi:i=h+h+more:=by omega
 rw [←hh] at e0
 have big:324518553658426726783156020576256≤m <<< more:=by
  exact qx58
 have small:m <<< more<1298074214633706907132624082305024:=by
  rw [Nat.shiftLeft_eq]
  have g2:m<2 ^ (m.log2+1):=Nat.lt_log2_self
  calc m*2 ^ more<2 ^ (m.log2+1)*2 ^ more:=Nat.mul_lt_mul_of_pos_right g2 (Nat.two_pow_pos _)
   _=2 ^ (m.log2+1+more):=(Nat.pow_add ..).symm
   _≤2 ^ 110:=Nat.pow_le_pow_right (by omega) (by omega)
   _=1298074214633706907132624082305024:=by decide
 have hat:double.V X=((m <<< more:Nat):Rat)*(P2 h*P2 h):=by
  rw [hVm,hi,P2_add,P2_add,Nat.shiftLeft_eq,Rat.natCast_mul,P2_nat];grind
 generalize m <<< more=n at *
 obtain ⟨q1,q2⟩:=whole_root n (by omega) _ rfl
 generalize Datum.rootFrom n (n.log2 / 2+1) 0=q at *
 have hr:=double.write_rounds double_fb false (2*q+(q*q != n).toNat) (h-1) (x:=((2*q+(q*q != n).toNat:Nat):Rat)*P2 (h-1)) (by simp [sg])
 injection e0 with e0
 rw [e0] at hr
 exact ⟨Z0,n,h,q,e1,f0,big,small,hat,q1,q2,hr⟩
theorem sqrt_le {n n' q q':Nat} {h h':Int} (b1:324518553658426726783156020576256≤n) (b2:n<1298074214633706907132624082305024) (b1':324518553658426726783156020576256≤n') (b2':n'<1298074214633706907132624082305024)
  (q1:q*q≤n) (q2:n<(q+1)*(q+1)) (q1':q'*q'≤n') (q2':n'<(q'+1)*(q'+1)) (hle:(n:Rat)*(P2 h*P2 h)≤(n':Rat)*(P2 h'*P2 h')) :
  ((2*q+(q*q != n).toNat:Nat):Rat)*P2 (h-1)≤((2*q'+(q'*q' != n').toNat:Nat):Rat)*P2 (h'-1):=by
 have hp:=P2_pos h
 have hp':=P2_pos h'
 rcases (by omega:h=h'∨h<h'∨h'<h) with e|e|e
 ·subst e
  have hn:n≤n':=by
   have:=mul_le_cancel (Rat.mul_pos hp hp) hle
   exact_mod_cast this
  have hq:q≤q':=by
   apply Nat.le_of_not_lt
   intro hc
   have:=Nat.mul_le_mul (show q'+1≤q from hc) (show q'+1≤q from hc)
   omega
  have hz:2*q+(q*q != n).toNat≤2*q'+(q'*q' != n').toNat:=by
   rcases (by omega:q=q'∨q+1≤q') with rfl|h1
   ·by_cases c:q*q=n'
    ·have e:n'=n:=by omega
     rw [e];exact Nat.le_refl _
    ·have:(q*q != n').toNat=1:=by simp [c]
     have:=Bool.toNat_le (q*q != n)
     omega
   ·have:=Bool.toNat_le (q*q != n)
    omega
  exact Rat.mul_le_mul_of_nonneg_right (by exact_mod_cast hz) (Rat.le_of_lt (P2_pos _))
 ·have hq:q<36028797018963968:=by
   apply Nat.lt_of_not_le
   intro hc
   have:=Nat.mul_le_mul hc hc
   omega
  have hq':18014398509481983≤q':=by
   apply Nat.le_of_not_lt
   intro hc
   have:=Nat.mul_le_mul (show q'+1≤18014398509481983 from hc) (show q'+1≤18014398509481983 from hc)
   omega
  have hq'':18014398509481984≤q':=by
   rcases (by omega:q'=18014398509481983∨18014398509481984≤q') with rfl|h1
   ·omega
   ·exact h1
  have t:=Bool.toNat_le (q*q != n)
  have a1:((2*q+(q*q != n).toNat:Nat):Rat)≤((72057594037927936:Nat):Rat):=by exact_mod_cast (show 2*q+(q*q != n).toNat≤72057594037927936 by omega)
  have a2:((36028797018963968:Nat):Rat)≤((2*q'+(q'*q' != n').toNat:Nat):Rat):=by exact_mod_cast (show 36028797018963968≤2*q'+(q'*q' != n').toNat by omega)
  have p1:=P2_mono (show h-1+1≤h'-1 by omega)
  rw [P2_succ] at p1
  have g:=P2_pos (h-1)
  have g':=P2_pos (h'-1)
  have s1:=Rat.mul_le_mul_of_nonneg_right a1 (Rat.le_of_lt g)
  have s2:=Rat.mul_le_mul_of_nonneg_right a2 (Rat.le_of_lt g')
  have s3:=Rat.mul_le_mul_of_nonneg_left p1 (show (0:Rat)≤((36028797018963968:Nat):Rat) from Rat.natCast_nonneg)
  have s4:((72057594037927936:Nat):Rat)=2*((36028797018963968:Nat):Rat):=by decide +kernel
  grind
 ·exfalso
  have p1:=P2_mono (show h'+1≤h by omega)
  rw [P2_succ] at p1
  have p2:=sq_le (show 0≤2*P2 h' by grind) p1
  have a1:((324518553658426726783156020576256:Nat):Rat)≤(n:Rat):=by exact_mod_cast b1
  have a2:(n':Rat)<((1298074214633706907132624082305024:Nat):Rat):=by exact_mod_cast b2'
  have hpp:=Rat.mul_pos hp hp
  have hpp':=Rat.mul_pos hp' hp'
  have s1:=Rat.mul_le_mul_of_nonneg_right a1 (Rat.le_of_lt hpp)
  have s2:=Rat.mul_lt_mul_of_pos_right a2 hpp'
  have s3:=Rat.mul_le_mul_of_nonneg_left p2 (show (0:Rat)≤((324518553658426726783156020576256:Nat):Rat) from Rat.natCast_nonneg)
  have s4:((1298074214633706907132624082305024:Nat):Rat)=4*((324518553658426726783156020576256:Nat):Rat):=by decide +kernel
  grind
theorem Rounds.mono {f:Format} {x y:Rat} {w v:Nat} (h:f.Rounds x false w) (h':f.Rounds y false v) (fw:f.fin w) (fv:f.fin v) (hxy:x≤y):f.V w≤f.V v:=by
 obtain ⟨r,rfl,hr⟩:=h
 obtain ⟨r',rfl,hr'⟩:=h'
 have l1:=(f.fin_word_iff false r).1 fw
 have l2:=(f.fin_word_iff false r').1 fv
 rw [f.V_word l1,f.V_word l2]
 have:=f.rv_mono (hr.mono hr' (by simp [sg];exact hxy))
 simp [sg];exact this
theorem pos_sgn {f:Format} {x:Nat} (h:0<f.V x):f.sgn x=false:=by
 unfold V at h
 cases e:f.sgn x
 ·rfl
 ·rw [e] at h
  have:=f.rv_nonneg (f.rung x)
  simp [sg] at h
  grind
theorem root_mono {x y:Nat} (hx:single.fin x) (hy:single.fin y) (h0:0≤single.V x) (hxy:single.V x≤single.V y):single.V (rootF x)≤single.V (rootF y):=by
 obtain ⟨X,Z,a1,a2,a3,a4,a5,a6,a7⟩:=root_spec hx h0
 obtain ⟨Y,T,b1,b2,b3,b4,b5,b6,b7⟩:=root_spec hy (by grind)
 by_cases hz:single.V x=0
 ·have:=a6 0 const_0.1 const_0.2.2 (by rw [hz,const_0.2.1];simp)
  rw [const_0.2.1] at this
  grind
 ·have hm:∀ {x},single.fin x→single.V x≤P2 128:=fun {x} hx=>by
   have:=single.rv_mono (Nat.le_of_lt hx)
   rw [rv_inf] at this
   unfold V
   have p:=single.rv_nonneg (single.rung x)
   cases single.sgn x<;>simp [sg]<;>grind
  have mx:=hm hx
  have my:=hm hy
  obtain ⟨X',e1,f1,g1,_⟩:=widen hx
  obtain ⟨Y',e2,f2,g2,_⟩:=widen hy
  obtain rfl:X=X':=by rw [a1] at e1;exact Option.some.inj e1
  obtain rfl:Y=Y':=by rw [b1] at e2;exact Option.some.inj e2
  obtain ⟨Z',n,h,q,c1,c2,c3,c4,c5,c6,c7,c8⟩:=sqrt_at f1 (by rw [g1];grind) (by rw [g1];exact mx)
  obtain ⟨T',n',h',q',d1,d2,d3,d4,d5,d6,d7,d8⟩:=sqrt_at f2 (by rw [g2];grind) (by rw [g2];exact my)
  obtain rfl:Z=Z':=by rw [a2] at c1;exact Option.some.inj c1
  obtain rfl:T=T':=by rw [b2] at d1;exact Option.some.inj d1
  have le1:=sqrt_le c3 c4 d3 d4 c6 c7 d6 d7 (by rw [←c5,←d5,g1,g2];exact hxy)
  have le2:=c8.mono d8 c2 d2 le1
  obtain ⟨Z2,z1,_,z3,z4,_⟩:=sqrt_spec f1 (by rw [g1];exact h0) (by rw [g1];exact mx)
  obtain ⟨T2,t1,_,t3,t4,_⟩:=sqrt_spec f2 (by rw [g2];grind) (by rw [g2];exact my)
  obtain rfl:Z=Z2:=by rw [a2] at z1;exact Option.some.inj z1
  obtain rfl:T=T2:=by rw [b2] at t1;exact Option.some.inj t1
  have u:=P2_mono (show (64:Int)≤100 by omega)
  have u2:=P2_pos 100
  obtain ⟨w,w1,w2,w3⟩:=narrow_any c2 (by grind) (by grind)
  obtain ⟨v,v1,v2,v3⟩:=narrow_any d2 (by grind) (by grind)
  obtain rfl:w=rootF x:=by rw [a3] at w1;exact (Option.some.inj w1).symm
  obtain rfl:v=rootF y:=by rw [b3] at v1;exact (Option.some.inj v1).symm
  by_cases zp:0<double.V Z
  ·rw [pos_sgn zp] at w3
   rw [pos_sgn (show 0<double.V T by grind)] at v3
   exact w3.mono v3 w2 v2 le2
  ·have z0:double.V Z=0:=by grind
   have:=(w3.bound const_0.1 const_0.2.2 (by rw [z0,const_0.2.1];decide) (by rw [z0,const_0.2.1];decide)).2.1
   rw [const_0.2.1] at this
   grind
theorem conv_mono {m n:Int} (h0:0≤m) (h:m≤n) (hn:n≤1073741824):single.V (floatOfInt .f32 m)≤single.V (floatOfInt .f32 n):=by
 have a:=conv_rounds m
 have b:=conv_rounds n
 rw [show decide (m<0)=false from decide_eq_false (by omega)] at a
 rw [show decide (n<0)=false from decide_eq_false (by omega)] at b
 exact a.mono b (conv_big (k:=30) (by omega) (by omega) (by omega)).1 (conv_big (k:=30) (by omega) (by omega) (by omega)).1 (Rat.intCast_le_intCast.2 h)
theorem div_mono {x y c:Nat} (hx:single.fin x) (hy:single.fin y) (hc:single.fin c) (c0:0<single.V c) (h0:0≤single.V x) (hxy:single.V x≤single.V y) (fx:single.fin (divF x c)) (fy:single.fin (divF y c)):single.V (divF x c)≤single.V (divF y c):=by
 have hcne:single.V c≠0:=by grind
 have a:=(divF_spec hx hc hcne).2
 have b:=(divF_spec hy hc hcne).2
 by_cases z:single.V x=0
 ·have e:single.V x / single.V c=0:=by rw [z,Rat.div_def,Rat.zero_mul]
  rw [e] at a
  have:=(a.bound const_0.1 const_0.2.2 (by rw [const_0.2.1];decide) (by rw [const_0.2.1];decide)).2.1
  rw [const_0.2.1] at this
  have:=div_nonneg hy hc c0 fy (by grind)
  grind
 ·rw [pos_sgn (show 0<single.V x by grind),pos_sgn c0] at a
  rw [pos_sgn (show 0<single.V y by grind),pos_sgn c0] at b
  refine a.mono b fx fy ?_
  rw [Rat.div_def,Rat.div_def]
  exact Rat.mul_le_mul_of_nonneg_right hxy (Rat.le_of_lt (Rat.inv_pos.2 c0))
def farF (d c:Int):Nat:=divF (rootF (floatOfInt .f32 d)) (floatOfInt .f32 c)
theorem sq_bd {c:Int} (h1:1≤c) (h2:c≤4096):1≤c*c∧c*c≤16777216:=by
 have a:=Int.mul_le_mul h2 h2 (by omega) (by omega)
 have b:=Int.mul_le_mul h1 h1 (by omega) (by omega)
 omega
theorem sq_exact {k c:Int} {p q:Nat} (hp:k*k=((2 ^ p:Nat):Int)) (hq:q=p+24) (hp4:p≤4) (h1:1≤c) (h2:c≤4096):single.V (floatOfInt .f32 ((k*c)*(k*c)))=(((k*c)*(k*c):Int):Rat):=by
 have e:(k*c)*(k*c)=(c*c)*((2 ^ p:Nat):Int):=by rw [←hp];grind
 obtain ⟨c1,c2⟩:=sq_bd h1 h2
 have x:=conv_rounds ((k*c)*(k*c))
 rw [e] at x ⊢
 have pp:(0:Int)<((2 ^ p:Nat):Int):=by have:=Nat.two_pow_pos p;omega
 rw [show decide ((c*c)*((2 ^ p:Nat):Int)<0)=false from decide_eq_false (by have:=Int.mul_nonneg (show 0≤c*c by omega) (Int.le_of_lt pp);omega)] at x
 by_cases c4:c*c=16777216
 ·rw [c4] at x ⊢
  refine (x.exact 1 q (by decide) (by decide) (by omega) (by omega) ?_).2.1
  rw [P2_nat,hq,Nat.pow_add,Rat.intCast_mul,Rat.natCast_mul,Rat.intCast_natCast]
  have:((16777216:Int):Rat)=((2 ^ 24:Nat):Rat):=by decide +kernel
  rw [this]
  have:((1:Int):Rat)=1:=rfl
  grind
 ·refine (x.exact (c*c) p (by omega) (by omega) (by omega) (by omega) ?_).2.1
  rw [P2_nat,Rat.intCast_mul,Rat.intCast_natCast]
theorem far_ok {d c:Int} (k:Int) (hk:k=2∨k=4) (h0:0≤d) (h1:1≤c) (h2:c≤4096) (hd:d≤(k*c)*(k*c)) :
  single.fin (floatOfInt .f32 d)∧0≤single.V (floatOfInt .f32 d)∧single.fin (rootF (floatOfInt .f32 d))∧single.fin (floatOfInt .f32 c)∧0<single.V (floatOfInt .f32 c)∧single.fin (farF d c)∧0≤single.V (farF d c)∧single.V (farF d c)≤(k:Rat):=by
 obtain ⟨c1,c2⟩:=sq_bd h1 h2
 have e:(k*c)*(k*c)=(k*k)*(c*c):=by grind
 have ve:single.V (floatOfInt .f32 ((k*c)*(k*c)))=(((k*c)*(k*c):Int):Rat):=by
  rcases hk with rfl|rfl
  ·exact sq_exact (p:=2) (q:=26) rfl rfl (by omega) h1 h2
  ·exact sq_exact (p:=4) (q:=28) rfl rfl (by omega) h1 h2
 have hb:1≤k∧k≤4∧(k*c)*(k*c)≤268435456∧1≤k*c∧k*c≤16384:=by
  rw [e]
  rcases hk with rfl|rfl<;>omega
 obtain ⟨k1,k4,hsq,kc1,kc2⟩:=hb
 have b:=conv_big (n:=d) (k:=28) (by omega) (by omega) (by omega)
 have n:=conv_nonneg (n:=d) (k:=28) (by omega) h0 (by omega)
 obtain ⟨fc,vc,sc⟩:=conv_24 (n:=c) h1 (by omega)
 obtain ⟨fk,vk,sk⟩:=conv_24 (n:=k*c) kc1 (by omega)
 obtain ⟨fK,vK,sK⟩:=conv_24 (n:=k) k1 (by omega)
 obtain ⟨X,Z,_,_,_,f,g,u,_⟩:=root_spec b.1 n
 have hc0:0<single.V (floatOfInt .f32 c):=by
  rw [vc]
  have:((0:Int):Rat)<(c:Rat):=Rat.intCast_lt_intCast.2 (by omega)
  simpa using this
 have hm:single.V (floatOfInt .f32 d)≤single.V (floatOfInt .f32 (k*c))*single.V (floatOfInt .f32 (k*c)):=by
  have m:=conv_mono h0 hd (by omega)
  rw [ve] at m
  rw [vk,←Rat.intCast_mul]
  exact m
 have le:=u _ fk sk hm
 have q:=div_bound f fc hc0 fK sK (by rw [vK,vc];rw [vk,Rat.intCast_mul] at le;exact le) (by
  rw [vK,vc]
  have:(0:Rat)≤(k:Rat)*(c:Rat):=by rw [←Rat.intCast_mul];exact Rat.intCast_nonneg.2 (by omega)
  grind)
 rw [vK] at q
 exact ⟨b.1,n,f,fc,hc0,q.1,div_nonneg f fc hc0 q.1 g,q.2.1⟩
theorem far_mono {d e c:Int} (h0:0≤d) (hde:d≤e) (h1:1≤c) (h2:c≤4096) (hd:e≤(4*c)*(4*c)):single.V (farF d c)≤single.V (farF e c):=by
 obtain ⟨a1,a2,a3,a4,a5,a6,a7,a8⟩:=far_ok (d:=d) 4 (.inr rfl) h0 h1 h2 (by omega)
 obtain ⟨b1,b2,b3,b4,b5,b6,b7,b8⟩:=far_ok (d:=e) 4 (.inr rfl) (by omega) h1 h2 hd
 obtain ⟨_,_,_,_,_,_,g,_,_⟩:=root_spec a1 a2
 obtain ⟨c1,c2⟩:=sq_bd h1 h2
 exact div_mono a3 b3 a4 a5 g (root_mono a1 b1 a2 (conv_mono h0 hde (by
  have:(4*c)*(4*c)=16*(c*c):=by grind
  omega))) a6 b6
end Format
end Ieee
namespace Go.Proofs.YtmggflgdoioajaaGreat
open Go.ChangeShapes Go.WideShapes Go.ChangeAt Go.RowKit
open Ieee.Format (fin finE htE allFin allHt all_true all_false mulF subF addF Ht Bd divF rootF floorF easeF mixF)
def cenX (seed i j c:Int):Int:=i*c+hashTo seed i j 2 3%c
def cenY (seed i j c:Int):Int:=j*c+hashTo seed i j 3 3%c
def cen (seed i j c:Int):Int × Int:=(cenX seed i j c,cenY seed i j c)
def sqI (a b:Int × Int):Int:=(a.1-b.1)*(a.1-b.1)+(a.2-b.2)*(a.2-b.2)
theorem cen_mul {i c:Int} (h1:-16777216≤i) (h2:i≤16777216) (h3:1≤c) (h4:c≤4096):-68719476736≤i*c∧i*c≤68719476736:=by
 have a:=Int.mul_le_mul_of_nonneg_right h1 (show 0≤c by omega)
 have b:=Int.mul_le_mul_of_nonneg_right h2 (show 0≤c by omega)
 omega
def cenAt (seed i j c:Int) (n:Nat):Int × Int:=cen seed (i-1+(n%3:Nat)) (j-1+(n / 3:Nat)) c
def cenL (seed i j c:Int):List (Int × Int):=(List.range 9).map (cenAt seed i j c)
def near3 (seed x y c:Int):Int × Int × (Int × Int):=(cenL seed (x / c) (y / c) c).foldl (scanStep (fun p=>sqI p (x,y))) (-1,-1,(0,0))
theorem sqI_nonneg (a b:Int × Int):0≤sqI a b:=by
 unfold sqI
 have:∀ z:Int,0≤z*z:=fun z=>by
  rcases Int.le_total 0 z with h|h
  ·exact Int.mul_nonneg h h
  ·exact Int.mul_nonneg_of_nonpos_of_nonpos h h
 have h1:=this (a.1-b.1)
 have h2:=this (a.2-b.2)
 omega
theorem sq_le_of {a m:Int} (h1:-m≤a) (h2:a≤m):a*a≤m*m:=by
 have:=Int.mul_nonneg (show 0≤m-a by omega) (show 0≤m+a by omega)
 grind
theorem off_le {x c z:Int} {n:Nat} (h1:1≤c) (hn:n<3) (hz0:0≤z) (hz1:z<c):-(2*c)≤(x / c-1+(n:Int))*c+z-x∧(x / c-1+(n:Int))*c+z-x≤2*c∧(n=1→-c≤(x / c-1+(n:Int))*c+z-x∧(x / c-1+(n:Int))*c+z-x≤c):=by
 have e:=Int.emod_add_mul_ediv x c
 have e1:=Int.emod_nonneg x (show c≠0 by omega)
 have e2:=Int.emod_lt_of_pos x (show 0<c by omega)
 have e3:(x / c-1+(n:Int))*c=c*(x / c)-c+(n:Int)*c:=by grind
 rw [e3]
 rcases (by omega:n=0∨n=1∨n=2) with rfl|rfl|rfl<;>simp only [Int.cast_ofNat_Int]<;>omega
theorem cen_near (seed x y c:Int) (h1:1≤c) (n:Nat) (hn:n<9):sqI (cenAt seed (x / c) (y / c) c n) (x,y)≤(4*c)*(4*c)∧(n=4→sqI (cenAt seed (x / c) (y / c) c n) (x,y)≤(2*c)*(2*c)):=by
 have r1:=Int.emod_nonneg (hashTo seed (x / c-1+(n%3:Nat)) (y / c-1+(n / 3:Nat)) 2 3) (show c≠0 by omega)
 have r2:=Int.emod_lt_of_pos (hashTo seed (x / c-1+(n%3:Nat)) (y / c-1+(n / 3:Nat)) 2 3) (show 0<c by omega)
 have r3:=Int.emod_nonneg (hashTo seed (x / c-1+(n%3:Nat)) (y / c-1+(n / 3:Nat)) 3 3) (show c≠0 by omega)
 have r4:=Int.emod_lt_of_pos (hashTo seed (x / c-1+(n%3:Nat)) (y / c-1+(n / 3:Nat)) 3 3) (show 0<c by omega)
 unfold sqI cenAt cen cenX cenY
 simp only
 obtain ⟨a1,a2,a3⟩:=off_le (x:=x) (n:=n%3) h1 (by omega) r1 r2
 obtain ⟨b1,b2,b3⟩:=off_le (x:=y) (n:=n / 3) h1 (by omega) r3 r4
 generalize (x / c-1+((n%3:Nat):Int))*c+hashTo seed (x / c-1+(n%3:Nat)) (y / c-1+(n / 3:Nat)) 2 3%c-x=A at *
 generalize (y / c-1+((n / 3:Nat):Int))*c+hashTo seed (x / c-1+(n%3:Nat)) (y / c-1+(n / 3:Nat)) 3 3%c-y=B at *
 have s1:=sq_le_of a1 a2
 have s2:=sq_le_of b1 b2
 have c0:=Int.mul_nonneg (show 0≤c by omega) (show 0≤c by omega)
 have e1:(2*c)*(2*c)=4*(c*c):=by grind
 have e2:(4*c)*(4*c)=16*(c*c):=by grind
 refine ⟨by omega,fun h4=>?_⟩
 subst h4
 have t1:=sq_le_of (a3 rfl).1 (a3 rfl).2
 have t2:=sq_le_of (b3 rfl).1 (b3 rfl).2
 omega
section
variable {α:Type}
theorem scan_inv (f:α→Int) (hf:∀ a,0≤f a) (B:Int):∀ (L:List α) (s:Int × Int × α),(∀ a∈L,f a≤B)→0≤s.1→s.1≤B→(s.2.1=-1∨s.1≤s.2.1)→s.2.1≤B →
  0≤(L.foldl (scanStep f) s).1∧(L.foldl (scanStep f) s).1≤s.1∧(∀ a∈L,(L.foldl (scanStep f) s).1≤f a)∧((L.foldl (scanStep f) s).2.1=-1∨(L.foldl (scanStep f) s).1≤(L.foldl (scanStep f) s).2.1)∧(L.foldl (scanStep f) s).2.1≤B∧((s.2.1≠-1∨L≠[])→(L.foldl (scanStep f) s).2.1≠-1)
 | [],s,_,h0,hB,h1,h2=>by
  refine ⟨h0,Int.le_refl _,fun a h=>absurd h (by simp),h1,h2,fun h=>?_⟩
  rcases h with h|h
  ·exact h
  ·exact absurd rfl h
 | c :: t,s,hL,h0,hB,h1,h2=>by
  have hc0:=hf c
  have hcB:=hL c (by simp)
  rw [List.foldl_cons]
  have key:0≤(scanStep f s c).1∧(scanStep f s c).1≤s.1∧(scanStep f s c).1≤f c∧(scanStep f s c).1≤(scanStep f s c).2.1∧(scanStep f s c).2.1≤B:=by
   unfold scanStep
   split
   ·exact ⟨hc0,by omega,by simp,by simp;omega,by simp;omega⟩
   ·split
    ·exact ⟨h0,by simp,by simp;omega,by simp;omega,by simp;omega⟩
    ·exact ⟨h0,by simp,by omega,by omega,h2⟩
  obtain ⟨k1,k2,k3,k4,k5⟩:=key
  obtain ⟨a1,a2,a3,a4,a5,a6⟩:=scan_inv f hf B t (scanStep f s c) (fun a h=>hL a (by simp [h])) k1 (by omega) (.inr k4) k5
  refine ⟨a1,by omega,fun a h=>?_,a4,a5,fun _=>a6 (.inl (by omega))⟩
  rcases List.mem_cons.1 h with rfl|h
  ·omega
  ·exact a3 a h
end
theorem cenL_cons (seed i j c:Int):cenL seed i j c=cenAt seed i j c 0 :: (List.range 8).map (fun n=>cenAt seed i j c (n+1)):=by
 unfold cenL;simp [List.range_succ_eq_map,Function.comp_def]
theorem cenL_length (seed i j c:Int):(cenL seed i j c).length=9:=by unfold cenL;simp
theorem cenL_at (seed i j c:Int) (n:Nat) (h:n<9):(cenL seed i j c)[n]?=some (cenAt seed i j c n):=by unfold cenL;simp [h]
theorem cenL_take (seed i j c:Int) (n:Nat) (h:n<9):(cenL seed i j c).take (n+1)=(cenL seed i j c).take n ++ [cenAt seed i j c n]:=by
 rw [List.take_add_one,cenL_at _ _ _ _ _ h];rfl
theorem near3_ok (seed x y c:Int) (h1:1≤c):0≤(near3 seed x y c).1∧(near3 seed x y c).1≤(2*c)*(2*c)∧(near3 seed x y c).1≤(near3 seed x y c).2.1∧(near3 seed x y c).2.1≤(4*c)*(4*c):=by
 have hb:=fun n hn=>cen_near seed x y c h1 n hn
 unfold near3
 have hmem:∀ a∈cenL seed (x / c) (y / c) c,sqI a (x,y)≤(4*c)*(4*c):=fun a h=>by
  unfold cenL at h
  obtain ⟨n,hn,rfl⟩:=List.mem_map.1 h
  exact (hb n (List.mem_range.1 hn)).1
 have h4:cenAt seed (x / c) (y / c) c 4∈cenL seed (x / c) (y / c) c:=by unfold cenL;exact List.mem_map.2 ⟨4,by simp,rfl⟩
 have h00:=sqI_nonneg (cenAt seed (x / c) (y / c) c 0) (x,y)
 have hB0:=(hb 0 (by omega)).1
 have hc0:=Int.mul_nonneg (show 0≤4*c by omega) (show 0≤4*c by omega)
 rw [cenL_cons] at hmem h4 ⊢
 rw [List.foldl_cons]
 have hs:scanStep (fun p=>sqI p (x,y)) (-1,-1,(0,0)) (cenAt seed (x / c) (y / c) c 0)=(sqI (cenAt seed (x / c) (y / c) c 0) (x,y),-1,cenAt seed (x / c) (y / c) c 0):=by simp [scanStep]
 rw [hs]
 obtain ⟨a1,a2,a3,a4,a5,a6⟩:=scan_inv (fun p=>sqI p (x,y)) (fun a=>sqI_nonneg a _) ((4*c)*(4*c)) ((List.range 8).map (fun n=>cenAt seed (x / c) (y / c) c (n+1))) (sqI (cenAt seed (x / c) (y / c) c 0) (x,y),-1,cenAt seed (x / c) (y / c) c 0)
  (fun a h=>hmem a (List.mem_cons_of_mem _ h)) h00 hB0 (.inl rfl) (by show (-1:Int)≤(4*c)*(4*c);omega)
 have a6:=a6 (.inr (by simp))
 refine ⟨a1,?_,?_,a5⟩
 ·have:=(hb 4 (by omega)).2 rfl
  rcases List.mem_cons.1 h4 with h|h
  ·rw [h] at this
   exact Int.le_trans a2 this
  ·exact Int.le_trans (a3 _ h) this
 ·rcases a4 with h|h
  ·exact absurd h a6
  ·exact h
def nearF (seed x y c:Int):Nat:=Ieee.Format.farF (near3 seed x y c).1 c
def nextF (seed x y c:Int):Nat:=Ieee.Format.farF (near3 seed x y c).2.1 c
def atP (seed x y c:Int):Int × Int:=(near3 seed x y c).2.2
theorem near_next (seed x y c:Int) (h1:1≤c) (h2:c≤4096):fin Ieee.single (nearF seed x y c)∧fin Ieee.single (nextF seed x y c)∧0≤Ieee.single.V (nearF seed x y c)∧Ieee.single.V (nearF seed x y c)≤2∧Ieee.single.V (nearF seed x y c)≤Ieee.single.V (nextF seed x y c):=by
 obtain ⟨a1,a2,a3,a4⟩:=near3_ok seed x y c h1
 obtain ⟨_,_,_,_,_,b6,b7,b8⟩:=Ieee.Format.far_ok 2 (.inl rfl) a1 h1 h2 a2
 obtain ⟨_,_,_,_,_,c6,_,_⟩:=Ieee.Format.far_ok 4 (.inr rfl) (show 0≤(near3 seed x y c).2.1 by omega) h1 h2 a4
 exact ⟨b6,c6,b7,b8,Ieee.Format.far_mono a1 a3 h1 h2 a4⟩
def ptV (p:Int × Int):Value:=.agg #[.int .i64 p.1,.int .i64 p.2]
def ptC (p:Int × Int):Array Value:=#[.int .i64 p.1,.int .i64 p.2]
theorem pt_store {w:World} {k:Nat} {a b:Int} (h:Blk w k #[.int .i64 a,.int .i64 b] 185) (x y:Int) :
  Blk ((w.setCell ⟨k,0,none⟩ (.int .i64 x)).setCell ⟨k,1,none⟩ (.int .i64 y)) k #[.int .i64 x,.int .i64 y] 185∧Below k w ((w.setCell ⟨k,0,none⟩ (.int .i64 x)).setCell ⟨k,1,none⟩ (.int .i64 y)):=by
 refine ⟨?_,qBl⟩
 have h1:Blk (w.setCell ⟨k,0,none⟩ (.int .i64 x)) k #[.int .i64 x,.int .i64 b] 185:=by
  unfold Blk at *;exact heap_setCell_same w k 0 _ _ _ h
 unfold Blk at *;exact heap_setCell_same _ k 1 _ _ _ h1
set_option maxRecDepth 100000 in
set_option maxHeartbeats 1000000 in
theorem centre_any (seed i j c:Int) (w:World) (hi:-16777216≤i) (hi2:i≤16777216) (hj:-16777216≤j) (hj2:j≤16777216) (h1:1≤c) (h2:c≤4096) :
  Calls Tryz.prog 188 #[.int .u32 seed,.int .i64 i,.int .i64 j,.int .i64 c] w fun e w'=>e=.returned (ptV (cen seed i j c))∧Below w.heap.size w w':=by
 have K2:∀ w,Calls Tryz.prog 96 #[.int .u32 seed,.int .i64 i,.int .i64 j,.int .i64 2] w fun e w'=>e=.returned (.int .u32 (hashTo seed i j 2 3))∧w'=w:=fun w=>(hash1 seed i j 2 w).mono fun _ _ h=>⟨h.1,h.2.symm⟩
 have K3:∀ w,Calls Tryz.prog 96 #[.int .u32 seed,.int .i64 i,.int .i64 j,.int .i64 3] w fun e w'=>e=.returned (.int .u32 (hashTo seed i j 3 3))∧w'=w:=fun w=>(hash1 seed i j 3 w).mono fun _ _ h=>⟨h.1,h.2.symm⟩
 have KH2:=Lib.hid K2
 have KH3:=Lib.hid K3
 clear K2 K3
 obtain ⟨a0,a1⟩:=hash_bounds seed i j 2
 obtain ⟨b0,b1⟩:=hash_bounds seed i j 3
 obtain ⟨m1,m2⟩:=cen_mul hi hi2 h1 h2
 obtain ⟨m3,m4⟩:=cen_mul hj hj2 h1 h2
 have r1:=Int.emod_nonneg (hashTo seed i j 2 3) (show c≠0 by omega)
 have r2:=Int.emod_lt_of_pos (hashTo seed i j 2 3) (show 0<c by omega)
 have r3:=Int.emod_nonneg (hashTo seed i j 3 3) (show c≠0 by omega)
 have r4:=Int.emod_lt_of_pos (hashTo seed i j 3 3) (show 0<c by omega)
 have e1:(hashTo seed i j 2 3).tmod c=hashTo seed i j 2 3%c:=Int.tmod_eq_emod_of_nonneg a0
 have e2:(hashTo seed i j 3 3).tmod c=hashTo seed i j 3 3%c:=Int.tmod_eq_emod_of_nonneg b0
 unfold ptV cen cenX cenY
 generalize hq2:hashTo seed i j 2 3%c=g2 at *
 generalize hq3:hashTo seed i j 3 3%c=g3 at *
 generalize hashTo seed i j 2 3=ha at *
 generalize hashTo seed i j 3 3=hb3 at *
 have hne:¬ c=0:=by omega
 have hne2:c≠0:=by omega
 have hwc:IntKind.u32.wrap c=c:=by simp [IntKind.wrap,IntKind.bits,IntKind.signed];omega
 have hwd:c%4294967296=c:=by omega
 generalize hic:i*c=ic at *
 generalize hjc:j*c=jc at *
 go_enter Tryz.func188,Tryz.ntmps188
 go_wp2_with fail
 have v1:IntKind.i64.wrap ic=ic:=IntWalk.i64_in _ (by omega)
 have v2:IntKind.i64.wrap g2=g2:=IntWalk.i64_in _ (by omega)
 have v3:IntKind.i64.wrap (ic+g2)=ic+g2:=IntWalk.i64_in _ (by omega)
 have v4:IntKind.i64.wrap jc=jc:=IntWalk.i64_in _ (by omega)
 have v5:IntKind.i64.wrap g3=g3:=IntWalk.i64_in _ (by omega)
 have v6:IntKind.i64.wrap (jc+g3)=jc+g3:=IntWalk.i64_in _ (by omega)
 refine wp_region_still_tail 25 (by kernel_rfl) (by kernel_rfl) ?_
 simp only [List.take_succ_cons,List.take_zero,List.drop_succ_cons,List.drop_zero]
 iterate 6 still_step
 still_call (KH2.out _)
 iterate 11 still_step
 still_call (KH3.out _)
 iterate 6 still_step
 refine wpStill_nil ?_
 change wpList _ _ _ _ _ (World.drew (w.alloc (.cells #[.int .i64 0,.int .i64 0] 185)))
 clear v1 v2 v3 v4 v5 v6
 go_wp2_with fail
 refine bodyPost_ret (v:=.agg #[.int .i64 (ic+g2),.int .i64 (jc+g3)]) (by simp [results,Tryz.results188,go_sem, *]) rfl ⟨rfl,qBl⟩
theorem sq_nn (z:Int):0≤z*z:=by
 rcases Int.le_total 0 z with h|h
 ·exact Int.mul_nonneg h h
 ·exact Int.mul_nonneg_of_nonpos_of_nonpos h h
theorem square1_any (a b:Int × Int) (w:World) (h1:-1048576≤a.1-b.1∧a.1-b.1≤1048576) (h2:-1048576≤a.2-b.2∧a.2-b.2≤1048576) (h3:-1099511627776≤b.1∧b.1≤1099511627776) (h4:-1099511627776≤b.2∧b.2≤1099511627776) :
  Calls Tryz.prog 189 #[ptV a,ptV b] w fun e w'=>e=.returned (.int .i64 (sqI a b))∧Below w.heap.size w w':=by
 have p:=sq_le_of (a:=a.1-b.1) (m:=1048576) (by omega) (by omega)
 have q:=sq_le_of (a:=a.2-b.2) (m:=1048576) (by omega) (by omega)
 have p0:=sq_nn (a.1-b.1)
 have q0:=sq_nn (a.2-b.2)
 unfold ptV sqI
 obtain ⟨a1,a2⟩:=a
 obtain ⟨b1,b2⟩:=b
 simp only at *
 generalize hs1:(a1-b1)*(a1-b1)=s1 at *
 generalize hs2:(a2-b2)*(a2-b2)=s2 at *
 go_enter Tryz.func189,Tryz.ntmps189
 go_wp2_with fail
 go_ret
 exact ⟨rfl,qBl⟩
end Go.Proofs.YtmggflgdoioajaaGreat
namespace Ieee
namespace Format
open Go
def sv:Rat:=P2 (-24)
end Format
end Ieee
namespace Go.Proofs.YtmggflgdoioajaaGreat
open Go.ChangeShapes Go.WideShapes Go.ChangeAt Go.RowKit
open Ieee.Format (fin finE htE allFin allHt all_true all_false mulF subF addF Ht Bd divF rootF floorF easeF mixF)
open Ieee.Format (farF far_ok)
def scanT (seed x y c:Int) (n:Nat):Int × Int × (Int × Int):=((cenL seed (x / c) (y / c) c).take n).foldl (scanStep (fun p=>sqI p (x,y))) (-1,-1,(0,0))
theorem scanT_zero (seed x y c:Int):scanT seed x y c 0=(-1,-1,(0,0)):=rfl
theorem scanT_succ (seed x y c:Int) (n:Nat) (h:n<9):scanT seed x y c (n+1)=scanStep (fun p=>sqI p (x,y)) (scanT seed x y c n) (cenAt seed (x / c) (y / c) c n):=by
 unfold scanT;rw [cenL_take _ _ _ _ _ h,List.foldl_append];rfl
theorem scanT_nine (seed x y c:Int):scanT seed x y c 9=near3 seed x y c:=by
 unfold scanT near3;rw [show (9:Nat)=(cenL seed (x / c) (y / c) c).length from (cenL_length _ _ _ _).symm,List.take_length]
structure CelW (w:World) (c:Int) (p:Int × Int) (wr:World):Prop where
 q:Blk wr w.heap.size #[.int .i64 c] 3
 p:Blk wr (w.heap.size+1) (ptC p) 185
 b:Below w.heap.size w wr
section
variable {w wr w2:World} {c:Int} {p:Int × Int}
theorem CelW.call (h:CelW w c p wr) (hb:Below wr.heap.size wr w2):CelW w c p w2:=⟨h.q.below hb h.q.lt,h.p.below hb h.p.lt,h.b.trans (hb.mono h.b.size)⟩
theorem CelW.drew (h:CelW w c p wr):CelW w c p wr.drew:=⟨h.q.drew,h.p.drew,h.b.drew⟩
theorem CelW.drewN (h:CelW w c p wr) (n:Nat):CelW w c p (wr.drewN n):=⟨h.q.drewN n,h.p.drewN n,below_drewN h.b n⟩
theorem CelW.alloc (h:CelW w c p wr) (o:Obj):CelW w c p (wr.alloc o):=h.call ((Below.refl _ _).alloc (Nat.le_refl _) _)
theorem CelW.set (h:CelW w c p wr) (a b:Int):CelW w c (a,b) ((wr.setCell ⟨w.heap.size+1,0,none⟩ (.int .i64 a)).setCell ⟨w.heap.size+1,1,none⟩ (.int .i64 b)):=by
 have hp:=(pt_store h.p a b).1
 exact ⟨(h.q.setCell (by simp) _).setCell (by simp) _,hp,(h.b.setCell (by simp) _).setCell (by simp) _⟩
theorem cel_start (w:World) (c:Int):CelW w c (0,0) ((w.alloc (.cells #[.int .i64 c] 3)).alloc (.cells #[.int .i64 0,.int .i64 0] 185)):=by
 refine ⟨(Blk.new _ _ _).alloc _,?_,qBl⟩
 have:=Blk.new (w.alloc (.cells #[.int .i64 c] 3)) #[.int .i64 0,.int .i64 0] 185
 simpa [ptC] using this
end
theorem dist_any (d c:Int) (k:Int) (hk:k=2∨k=4) (h0:0≤d) (h1:1≤c) (h2:c≤4096) (hd:d≤(k*c)*(k*c)) (p:Nat) (w:World) (hp:Blk w p #[.int .i64 c] 3) :
  Calls Tryz.prog 190 #[.int .i64 d,.pointer (some ⟨p,0,none⟩)] w fun e w'=>e=.returned (.float .f32 (farF d c))∧∃ n,w'=w.drewN n:=by
 obtain ⟨f1,f2,f3,f4,f5,f6,f7,_⟩:=far_ok k hk h0 h1 h2 hd
 have KR:=Lib.hid (fun w=>root_any (floatOfInt .f32 d) f1 f2 w)
 have hne:Ieee.single.V (floatOfInt .f32 c)≠0:=by intro e;rw [e] at f5;exact absurd f5 (by grind)
 have kd:=fun w'=>run_float_arith (P:=Tryz.prog) w' .quo 48 .f32 _ _ _ (Ieee.Format.bits_div f3 f4 hne)
 unfold farF
 have c0:w.cell? ⟨p,0,none⟩=some (.int .i64 c):=hp.cell 0
 have l0:=hp.lt
 clear hp f1 f2 f3 f4 f5 f6 f7 hne hd hk
 generalize divF (rootF (floatOfInt .f32 d)) (floatOfInt .f32 c)=r at *
 generalize rootF (floatOfInt .f32 d)=s at *
 generalize hfd:floatOfInt .f32 d=fd at *
 generalize hfc:floatOfInt .f32 c=fc at *
 go_enter Tryz.func190,Tryz.ntmps190
 go_wp2_with fail
 go_quiet (first|(go_at_call 142;with_reducible exact Calls.quiet_of_same ((KR.out _).mono fun _ _ h=>⟨h.1,h.2.symm⟩)))
 go_wp2_with fail
 go_ret
 exact ⟨rfl,_,rfl⟩
theorem cen_off (seed x y c:Int) (h1:1≤c) (h2:c≤4096) (n:Nat) (hn:n<9) :
  (-1048576≤(cenAt seed (x / c) (y / c) c n).1-x∧(cenAt seed (x / c) (y / c) c n).1-x≤1048576)∧(-1048576≤(cenAt seed (x / c) (y / c) c n).2-y∧(cenAt seed (x / c) (y / c) c n).2-y≤1048576):=by
 have r1:=Int.emod_nonneg (hashTo seed (x / c-1+(n%3:Nat)) (y / c-1+(n / 3:Nat)) 2 3) (show c≠0 by omega)
 have r2:=Int.emod_lt_of_pos (hashTo seed (x / c-1+(n%3:Nat)) (y / c-1+(n / 3:Nat)) 2 3) (show 0<c by omega)
 have r3:=Int.emod_nonneg (hashTo seed (x / c-1+(n%3:Nat)) (y / c-1+(n / 3:Nat)) 3 3) (show c≠0 by omega)
 have r4:=Int.emod_lt_of_pos (hashTo seed (x / c-1+(n%3:Nat)) (y / c-1+(n / 3:Nat)) 3 3) (show 0<c by omega)
 obtain ⟨a1,a2,_⟩:=off_le (x:=x) (n:=n%3) h1 (by omega) r1 r2
 obtain ⟨b1,b2,_⟩:=off_le (x:=y) (n:=n / 3) h1 (by omega) r3 r4
 unfold cenAt cen cenX cenY
 simp only
 omega
theorem scanT_bd (seed x y c:Int) (h1:1≤c):∀ n,n≤9→-1≤(scanT seed x y c n).1∧(scanT seed x y c n).1≤(4*c)*(4*c)∧-1≤(scanT seed x y c n).2.1∧(scanT seed x y c n).2.1≤(4*c)*(4*c)
 | 0,_=>by
  have:=Int.mul_nonneg (show 0≤4*c by omega) (show 0≤4*c by omega)
  rw [scanT_zero]
  simp only
  omega
 | n+1,h=>by
  obtain ⟨a,b,d,e⟩:=scanT_bd seed x y c h1 n (by omega)
  have k1:=(cen_near seed x y c h1 n (by omega)).1
  have k2:=sqI_nonneg (cenAt seed (x / c) (y / c) c n) (x,y)
  rw [scanT_succ _ _ _ _ _ (by omega)]
  unfold scanStep
  split
  ·simp only;omega
  ·split
   ·simp only;omega
   ·exact ⟨a,b,d,e⟩
set_option maxRecDepth 100000 in
set_option maxHeartbeats 4000000 in
theorem cells_any (seed x y c:Int) (w:World) (hx:-8388608≤x) (hx2:x≤8388608) (hy:-8388608≤y) (hy2:y≤8388608) (h1:1≤c) (h2:c≤4096) :
  Calls Tryz.prog 175 #[.int .u32 seed,.int .i64 x,.int .i64 y,.int .i64 c] w fun e w'=>e=.returned (.tuple #[.float .f32 (nearF seed x y c),.float .f32 (nextF seed x y c),ptV (atP seed x y c)])∧Below w.heap.size w w':=by
 obtain ⟨n1,n2,n3,n4⟩:=near3_ok seed x y c h1
 have qx:=ediv_small x c 8388608 (by omega) (by omega) (by omega) (by omega)
 have qy:=ediv_small y c 8388608 (by omega) (by omega) (by omega) (by omega)
 have KL1:=Lib.hid (fun w=>lat_any x c w (by omega) (by omega) (by omega) (by omega))
 have KL2:=Lib.hid (fun w=>lat_any y c w (by omega) (by omega) (by omega) (by omega))
 have KC:=Lib.hid (fun n (hn:n<9) w=>centre_any seed (x / c-1+(n%3:Nat)) (y / c-1+(n / 3:Nat)) c w (by omega) (by omega) (by omega) (by omega) h1 h2)
 have KQ:=Lib.hid (fun n (hn:n<9) w=>square1_any (cenAt seed (x / c) (y / c) c n) (x,y) w (cen_off seed x y c h1 h2 n hn).1 (cen_off seed x y c h1 h2 n hn).2 (by simp only;omega) (by simp only;omega))
 have KS:=Lib.hid (fun n (hn:n<9)=>scanT_succ seed x y c n hn)
 have KB:=Lib.hid (fun n (hn:n≤9)=>scanT_bd seed x y c h1 n hn)
 have KD1:=Lib.hid (fun p w hp=>dist_any (near3 seed x y c).1 c 2 (.inl rfl) n1 h1 h2 n2 p w hp)
 have KD2:=Lib.hid (fun p w hp=>dist_any (near3 seed x y c).2.1 c 4 (.inr rfl) (by omega) h1 h2 n4 p w hp)
 have H9:=Lib.hid (scanT_nine seed x y c)
 have HC0:=Lib.hid (cel_start w c)
 unfold ptC at HC0
 clear n1 n2 n3 n4
 generalize x / c=qi at *
 generalize y / c=qj at *
 go_enter Tryz.func175,Tryz.ntmps175
 go_wp2_with fail
 generalize (w.alloc (.cells #[.int .i64 c] 3)).alloc (.cells #[.int .i64 0,.int .i64 0] 185)=W0 at *
 refine (KL1.out _).mono ?_
 rintro e w1 ⟨rfl,b1⟩
 have I1:=Lib.hid (HC0.out.call b1)
 have p0:=I1.out.q.cell 0
 have l0:=I1.out.q.lt
 simp at p0
 clear b1 HC0
 go_wp2_with fail
 refine (KL2.out _).mono ?_
 rintro e w2 ⟨rfl,b2⟩
 have I2:=Lib.hid (I1.out.call b2)
 clear b2 p0 l0 I1
 go_wp2_with fail
 go_loopw [15,16,17,18,19,20,60,71] (fun s1 s2 lv _ _ _ _ _ wr=>∃ a:Nat,a≤3∧lv=.int .i64 (qj-1+(a:Int))∧s1=.int .i64 (scanT seed x y c (3*a)).1∧s2=.int .i64 (scanT seed x y c (3*a)).2.1∧CelW w c (scanT seed x y c (3*a)).2.2 wr) (fun _ _ lv _ _ _ _ _ _=>(qj+2-intOf lv).toNat)
 case atStart=>exact ⟨0,by omega,by simp,rfl,rfl,I2.out⟩
 case round =>
  clear I2
  obtain ⟨a,ha,rfl,rfl,rfl,I⟩:=hrel
  have HI:=Lib.hid I
  clear I
  by_cases hlt:a<3
  ·have hle:qj-1+(a:Int)≤qj+1:=by omega
   go_wp2_with fail
   obtain ⟨wo,rfl⟩:∃ wo:World,wo=wr:=⟨_,rfl⟩
   go_loopw [15,16,18,19,20,60,71] (fun s1 s2 kv _ _ _ _ wi=>∃ b:Nat,b≤3∧kv=.int .i64 (qi-1+(b:Int))∧s1=.int .i64 (scanT seed x y c (3*a+b)).1∧s2=.int .i64 (scanT seed x y c (3*a+b)).2.1∧CelW w c (scanT seed x y c (3*a+b)).2.2 wi) (fun _ _ kv _ _ _ _ _=>(qi+2-intOf kv).toNat)
   case atStart=>exact ⟨0,by omega,by simp,rfl,rfl,HI.out⟩
   case round =>
    clear HI
    obtain ⟨b,hb,rfl,rfl,rfl,I⟩:=hrel
    have HI:=Lib.hid I
    have p0:=I.q.cell 0
    have l0:=I.q.lt
    simp at p0
    clear I
    by_cases hlt2:b<3
    ·have hn:3*a+b<9:=by omega
     have KC1:=Lib.hid (KC.out (3*a+b) hn)
     have KQ1:=Lib.hid (KQ.out (3*a+b) hn)
     have HS1:=KS.out (3*a+b) hn
     have HBd:=KB.out (3*a+b) (by omega)
     have e1:(3*a+b)%3=b:=by omega
     have e2:(3*a+b) / 3=a:=by omega
     have hcen:cenAt seed qi qj c (3*a+b)=cen seed (qi-1+(b:Int)) (qj-1+(a:Int)) c:=by unfold cenAt;rw [e1,e2]
     rw [e1,e2] at KC1
     rw [hcen] at KQ1 HS1
     clear e1 e2 hcen hn hlt
     have hle2:qi-1+(b:Int)≤qi+1:=by omega
     generalize cen seed (qi-1+(b:Int)) (qj-1+(a:Int)) c=cc at *
     generalize hd:sqI cc (x,y)=d at *
     have HS0:Hid (scanT seed x y c (3*a+(b+1))=scanStep (fun p=>sqI p (x,y)) (scanT seed x y c (3*a+b)) cc):=HS1
     clear HS1
     generalize scanT seed x y c (3*a+b)=st at *
     obtain ⟨f1,f2,pt⟩:=st
     obtain ⟨cx,cy⟩:=cc
     simp only at HBd
     unfold ptV at KC1 KQ1
     simp only at KC1 KQ1
     go_wp2_with fail
     refine (KC1.out _).mono ?_
     rintro e w3 ⟨rfl,b3⟩
     have I3:=Lib.hid ((HI.out.call b3).alloc (.cells #[.int .i64 cx,.int .i64 cy] 185))
     have P3:=Lib.hid (Blk.new w3 #[.int .i64 cx,.int .i64 cy] 185)
     clear b3 p0 l0 HI
     go_wp2_with fail
     refine (KQ1.out _).mono ?_
     rintro e w5 ⟨rfl,b5⟩
     have I5:=Lib.hid (I3.out.call b5)
     have P5:=Lib.hid (P3.out.below b5 P3.out.lt)
     clear b5 I3 P3 KC1 KQ1
     generalize w3.heap.size=k19 at *
     by_cases c1:f1<0
     ·have HS:Hid (scanT seed x y c (3*a+(b+1))=(d,f1,(cx,cy))):=by unfold Hid;rw [HS0.out];simp only [scanStep,c1,true_or,if_true,hd]
      exact qx43
     ·by_cases c2:d<f1
      ·have HS:Hid (scanT seed x y c (3*a+(b+1))=(d,f1,(cx,cy))):=by unfold Hid;rw [HS0.out];simp only [scanStep,hd,c2,or_true,if_true]
       exact qx43
      ·by_cases c3:f2<0
       ·have HS:Hid (scanT seed x y c (3*a+(b+1))=(f1,d,pt)):=by unfold Hid;rw [HS0.out];simp only [scanStep,hd,c1,c2,c3,or_self,if_false,true_or,if_true]
        exact qx49
       ·by_cases c4:d<f2
        ·have HS:Hid (scanT seed x y c (3*a+(b+1))=(f1,d,pt)):=by unfold Hid;rw [HS0.out];simp only [scanStep,hd,c1,c2,c3,c4,or_self,if_false,or_true,if_true]
         exact qx49
        ·have HS:Hid (scanT seed x y c (3*a+(b+1))=(f1,f2,pt)):=by unfold Hid;rw [HS0.out];simp only [scanStep,hd,c1,c2,c3,c4,or_self,if_false]
         exact qx49
    ·obtain rfl:b=3:=by omega
     have hgt:¬ qi-1+3≤qi+1:=by omega
     have HE:Hid (3*a+3=3*(a+1)):=by unfold Hid;omega
     rw [HE.out] at HI
     rw [HE.out]
     clear p0 l0
     go_wp2_with fail
     go_roundw
     case rel=>exact ⟨a+1,by omega,by go_num,rfl,rfl,HI.out⟩
     case measure=>simp [intOf];omega
  ·obtain rfl:a=3:=by omega
   have hgt:¬ qj-1+3≤qj+1:=by omega
   have h9:scanT seed x y c (3*3)=near3 seed x y c:=H9.out
   rw [h9] at HI
   rw [h9]
   clear h9
   have HN:Hid (farF (near3 seed x y c).1 c=nearF seed x y c):=Lib.hid rfl
   have HM:Hid (farF (near3 seed x y c).2.1 c=nextF seed x y c):=Lib.hid rfl
   have HA:Hid (ptV (near3 seed x y c).2.2=ptV (atP seed x y c)):=Lib.hid rfl
   rw [HN.out] at KD1
   rw [HM.out] at KD2
   generalize hr1:nearF seed x y c=r1 at *
   generalize hr2:nextF seed x y c=r2 at *
   have HR1:=Lib.hid hr1
   have HR2:=Lib.hid hr2
   clear hr1 hr2
   generalize (near3 seed x y c).1=f1 at *
   generalize (near3 seed x y c).2.1=f2 at *
   generalize (near3 seed x y c).2.2=pt at *
   obtain ⟨cx,cy⟩:=pt
   clear KC KQ KS KB H9 KL1 KL2
   go_wp2_with fail
   refine wp_region_noPanic ?_
   refine wp_region_heldT (CelW w c (cx,cy)) 9 (by kernel_rfl) HI.out.drew (fun hHeld=>?_)
   refine wpAnyT_takeL [2,5,7,8,9] (i:=0) (v:=?_) rfl (by kernel_rfl) (by kernel_rfl) (by kernel_rfl) (by kernel_rfl) (fun _ _ _ h=>h) (Or.inl ⟨by rfl,?_⟩) (by with_reducible assumption) ?_
   rotate_left
   ·exact qx38
   try simp only [qS,qN,qC,qD]
   refine wpAnyT_takeL [2,5,7,8,9] (i:=1) (v:=?_) rfl (by kernel_rfl) (by kernel_rfl) (by kernel_rfl) (by kernel_rfl) (fun _ _ _ h=>h) (Or.inl ⟨by rfl,?_⟩) (by with_reducible assumption) ?_
   rotate_left
   ·exact qx38
   try simp only [qS,qN,qC,qD]
   refine wpAnyT_takeL [5,7,8,9] (i:=3) (v:=?_) rfl (by kernel_rfl) (by kernel_rfl) (by kernel_rfl) (by kernel_rfl) (fun _ _ _ h=>h) (Or.inl ⟨by rfl,?_⟩) (by with_reducible assumption) ?_
   rotate_left
   ·exact qx38
   try simp only [qS,qN,qC,qD]
   refine wpAnyT_takeL [5,7,8,9] (i:=4) (v:=?_) rfl (by kernel_rfl) (by kernel_rfl) (by kernel_rfl) (by kernel_rfl) (fun _ _ _ h=>h) (Or.inl ⟨by rfl,?_⟩) (by with_reducible assumption) ?_
   rotate_left
   ·exact qx38
   try simp only [qS,qN,qC,qD]
   refine wpAnyT_takeL [9] (i:=6) (v:=?_) rfl (by kernel_rfl) (by kernel_rfl) (by kernel_rfl) (by kernel_rfl) (fun _ _ _ h=>h) (Or.inl ⟨by rfl,?_⟩) (by with_reducible assumption) ?_
   rotate_left
   ·exact qx38
   try simp only [qS,qN,qC,qD]
   refine rdA 2 rfl (fun K hK=>?_)
   go_simp
   (with_reducible refine (KD1.out _ _ hHeld.q).mono ?_)
   rintro e w2 ⟨rfl,nq,hw⟩
   have hN:CelW w c (cx,cy) w2:=hw ▸ hHeld.drewN nq
   clear hw
   go_wp2_with fail
   refine ouA hK hN (fun hHeld=>?_)
   clear hK K
   try simp only [qS,qN,qC,qD]
   refine rdA 5 rfl (fun K hK=>?_)
   go_simp
   (with_reducible refine (KD2.out _ _ hHeld.q).mono ?_)
   rintro e w2 ⟨rfl,nq,hw⟩
   have hN:CelW w c (cx,cy) w2:=hw ▸ hHeld.drewN nq
   clear hw
   go_wp2_with fail
   refine ouA hK hN (fun hHeld=>?_)
   clear hK K
   try simp only [qS,qN,qC,qD]
   refine wpAnyT_takeL [8,9] (i:=7) (v:=?_) rfl (by kernel_rfl) (by kernel_rfl) (by kernel_rfl) (by kernel_rfl) (fun _ _ _ h=>h) (Or.inl ⟨by rfl,?_⟩) (by with_reducible assumption) ?_
   rotate_left
   ·exact qx38
   try simp only [qS,qN,qC,qD]
   refine wpAnyT_takeL [9] (i:=8) (v:=?_) rfl (by kernel_rfl) (by kernel_rfl) (by kernel_rfl) (by kernel_rfl) (fun _ _ _ h=>h) (Or.inl ⟨by rfl,?_⟩) (by with_reducible assumption) ?_
   rotate_left
   ·exact qx38
   try simp only [qS,qN,qC,qD]
   refine rdA 9 rfl (fun K hK=>?_)
   have hP:=hHeld.p
   unfold ptC at hP
   have f0:=hP.frozen 0
   have g1:=hP.frozen 1
   have p0:=hP.cell 0
   have p1:=hP.cell 1
   simp at p0 p1
   have lt:=hP.lt
   have HQ:=Lib.hid (hHeld.set cx cy)
   clear hP
   go_simp
   refine ouB hK ?_
   clear hK K
   try simp only [qS,qN,qC,qD]
   refine wpAnyT_done (by kernel_rfl) ?_ _
   refine NoPanic.normal ?_
   have B0:=HQ.out.b
   have q0:=HQ.out.p.cell 0
   have q1:=HQ.out.p.cell 1
   unfold ptC at q0 q1
   simp at q0 q1
   go_wp2_with fail
   refine bodyPost_ret (v:=.tuple #[.float .f32 r1,.float .f32 r2,.agg #[.int .i64 cx,.int .i64 cy]]) (by simp [results,Tryz.results175,go_sem, *]) rfl ⟨by rw [←HA.out,HR1.out,HR2.out];rfl,B0⟩
open Ieee.Format (Wi const_0 const_1 value_wi grad_wi mix_wi near_4 near_8 mulF_spec addF_spec)
theorem ease_unit {s:Nat} (h:Share s):fin Ieee.single (easeF s)∧0≤Ieee.single.V (easeF s)∧Ieee.single.V (easeF s)≤1:=by
 obtain ⟨_,_,_,f,a,b⟩:=Ieee.Format.ease_ok h.1 h.2.1 h.2.2
 exact ⟨f,a,b⟩
theorem lat_s {x c:Int} (h1:1≤c) (h2:c≤4096):Share (latS (x%c) c):=(lat_share (Int.emod_nonneg _ (by omega)) (Int.emod_lt_of_pos _ (by omega)) h2).1
theorem latS_lt (m c:Int):latS m c<4294967296:=Ieee.Format.divF_lt _ _
theorem valF_wi (seed x y c:Int) (h1:1≤c) (h2:c≤4096):Wi (1+8*Ieee.P2 (-24)) (valF seed x y c):=by
 obtain ⟨a,b,d⟩:=ease_unit (lat_s (x:=x) h1 h2)
 obtain ⟨a',b',d'⟩:=ease_unit (lat_s (x:=y) h1 h2)
 unfold valF latF
 exact value_wi (cvF_wi ..) (cvF_wi ..) (cvF_wi ..) (cvF_wi ..) a b d a' b' d'
theorem gradF_wi (seed x y c:Int) (h1:1≤c) (h2:c≤4096):Wi (2+16*Ieee.P2 (-24)) (gradF seed x y c):=by
 have sx:=lat_s (x:=x) h1 h2
 have sy:=lat_s (x:=y) h1 h2
 obtain ⟨a,b,d⟩:=ease_unit sx
 obtain ⟨a',b',d'⟩:=ease_unit sy
 have X:=sx.dx (latS_lt _ _)
 have Y:=sy.dx (latS_lt _ _)
 unfold gradF latF cgF
 exact grad_wi (dot_wi _ X Y) (dot_wi _ sx.dx1 Y) (dot_wi _ X sy.dx1) (dot_wi _ sx.dx1 sy.dx1) a b d a' b' d'
end Go.Proofs.YtmggflgdoioajaaGreat
