import Derived.Test.YtmggflgdoioajaaGreatG03
import Derived.BigQuiet
import Derived.Deep.CutBlock
import Derived.Deep.DeepCutAuto
import Derived.Deep.QuietTactic
import Derived.StillTailTactics
import Derived.IntWalk
set_option linter.unusedSimpArgs false
set_option linter.unusedVariables false
namespace Go.Proofs.YtmggflgdoioajaaGreat
open Go.ChangeShapes Go.WideShapes Go.ChangeAt Go.RowKit
open Go.Maps
def StM {H:Type} (P:Program) (k:TypeId) (R:Value→Option (DataW H × List MemPlace)) (b n:Nat) (D:DataW H) (W w:World):Prop:=w.ownsMap P k R b n D∧Below W.heap.size W w∧(W.heap.size<b∧w.heap[W.heap.size]?=some (.cells #[.int .i64 0,.int .i64 0,.int .i64 0] 77 (0,0)))
theorem wpList_insert_st {H:Type} {P:Program} (w W:World) {ops:Array Oper} {rest:List Oper} {o:Oper} {a:Act} {Q:Exit→Act→World→Prop}
  (hg:o.guard=none) (m x v:Operand) (t:TypeId) (hop:o.op=Op.insert t m x v)
  (k e:TypeId) (K:Keyed P k) (ht:P.underlying t=some (.map k e)) (R:Value→Option (DataW H × List MemPlace)) (b n:Nat) (D:DataW H)
  (hm:a.eval m=.map (some b)) (hown:StM P k R b n D W w) (hB:W.heap.size≤b) (hn:n<maxLen) (key val:Value) (kl:Lit) (hx:a.eval x=key) (hv:a.eval v=val) (hkey:keyOf P k key=some kl)
  (d:DataW H) (ps:List MemPlace) (hval:R val=some (d,ps))
  (hK:∀ w',StM P k R b (n+1) (D.put kl d) W w'→wpList P ops Q rest (a.put o.dst undef) w') :
  wpList P ops Q (o :: rest) a w:=by
 refine wpList_plain hg fun K' hK'=>?_
 obtain ⟨w',hrun,r1,r2⟩:=hown.1.update K ht hn hkey hval
 unfold Oper.wp
 simp [execOp,hop,hm,hx,hv,hrun,Result.andThen]
 have hlt:W.heap.size<w.heap.size:=by
  rcases Nat.lt_or_ge W.heap.size w.heap.size with h|h
  ·exact h
  ·have:=hown.2.2.2;rw [Array.getElem?_eq_none h] at this;cases this
 have hne:some W.heap.size≠some b:=fun e=>by have:=hown.2.2.1;simp at e;omega
 exact hK' _ _ (hK w' ⟨r1,hown.2.1.grown r2 hown.2.1.size (fun k hk=>by cases hk;exact hB),hown.2.2.1,(r2.block _ hlt hne).trans hown.2.2.2⟩)
theorem stm_new (w:World):StM (H:=Unit) Tryz.prog 9 frmR (w.heap.size+1) 0 (.map []) w ((w.alloc (.cells #[.int .i64 0,.int .i64 0,.int .i64 0] 77)).alloc (.map #[] 0)):=by
 refine ⟨?_,qBl,by omega,?_⟩
 ·have:=World.ownsMap_made (H:=Unit) (w.alloc (.cells #[.int .i64 0,.int .i64 0,.int .i64 0] 77)) Tryz.prog 9 frmR
  simpa using this
 ·exact (Below.heap_alloc _ _ _ (by simp)).trans (heap_alloc_new w _)
theorem zeroForm (w:World):(zeroValue 77).run Tryz.prog w=.ok (.agg #[.int .i64 0,.int .i64 0,.int .i64 0]) w:=by kernel_rfl
theorem putsD_tab (z:List UInt8):(∃ ps,frmR (.agg #[.int .i64 (fmA z),.int .i64 (fmB z),.int .i64 (fmC z)])=some ((putsD tabS.reverse).atKey (.string z) (dF (0,0,0)),ps))∧Maps.has (putsD tabS.reverse) (.string z)=fmK z:=by
 rw [putsD_at,putsD_has]
 have hp:tabS.reverse.find? (fun x=>x.1 == z)=tabS.find? (fun x=>x.1 == z):=by
  by_cases h:z∈tabS.map (·.1)
  ·unfold tabS at h
   simp only [List.map_cons,List.map_nil,List.mem_cons,List.not_mem_nil,or_false] at h
   rcases h with rfl|rfl|rfl|rfl|rfl|rfl|rfl|rfl|rfl|rfl|rfl|rfl|rfl|rfl|rfl|rfl|rfl|rfl|rfl|rfl|rfl|rfl|rfl|rfl|rfl|rfl|rfl|rfl<;>rfl
  ·have e:∀ l:List (List UInt8 × (Int × Int × Int)),(∀ x∈l,x.1≠z)→l.find? (fun x=>x.1 == z)=none:=by
    intro l hl
    rw [List.find?_eq_none]
    intro x hx
    simpa using hl x hx
   have hn:∀ x∈tabS,x.1≠z:=fun x hx e=>h (e ▸ List.mem_map_of_mem hx)
   exact (e (tabS.reverse) (fun x hx=>hn x (List.mem_reverse.1 hx))).trans (e _ hn).symm
 rw [hp]
 unfold fmA fmB fmC fmK fmT
 cases tabS.find? (fun x=>x.1 == z) with
 | none=>exact ⟨⟨[],rfl⟩,rfl⟩
 | some x=>exact ⟨⟨[],rfl⟩,rfl⟩
theorem wpList_lookup_st (w W:World) (s:ByteArray) (hs:s.size≤maxLen) {ops:Array Oper} {rest:List Oper} {o:Oper} {a:Act} {Q:Exit→Act→World→Prop}
  (hg:o.guard=none) (m x:Operand) (hop:o.op=Op.lookup 124 m x true) (b:Nat) (hm:a.eval m=.map (some b)) (hx:a.eval x=.string s)
  (h:StM Tryz.prog 9 frmR b 28 (putsD tabS.reverse) W w)
  (hK:wpList Tryz.prog ops Q rest (a.put o.dst (.tuple #[.agg #[.int .i64 (fmA s.toList),.int .i64 (fmB s.toList),.int .i64 (fmC s.toList)],.bool (fmK s.toList)])) w) :
  wpList Tryz.prog ops Q (o :: rest) a w:=by
 refine wpList_lookup_own_ok w hg m x 124 hop 9 77 (string_keyed Tryz.underlying9) Tryz.underlying124 frmR (zeroForm w) (dF (0,0,0)) [] rfl b 28 _ hm h.1 (.string s) _ hx (WideMaps.keyOf_string_mk Tryz.underlying9 hs) ?_
 intro v ps hv
 rw [←bytes_toList] at hv ⊢
 obtain ⟨⟨qs,h1⟩,h2⟩:=putsD_tab s.toList
 rw [h2]
 have e:v=.agg #[.int .i64 (fmA s.toList),.int .i64 (fmB s.toList),.int .i64 (fmC s.toList)]:=by
  have h3:(putsD tabS.reverse).atKey (.string s.toList) (dF (0,0,0))=.agg [.lit (.int .i64 (fmA s.toList)),.lit (.int .i64 (fmB s.toList)),.lit (.int .i64 (fmC s.toList))]:=by
   have h4:frmR (.agg #[.int .i64 (fmA s.toList),.int .i64 (fmB s.toList),.int .i64 (fmC s.toList)])=some (.agg [.lit (.int .i64 (fmA s.toList)),.lit (.int .i64 (fmB s.toList)),.lit (.int .i64 (fmC s.toList))],[]):=rfl
   rw [h4] at h1
   exact (congrArg Prod.fst (Option.some.inj h1)).symm
  rw [h3] at hv
  exact frmR_inv hv
 rw [e]
 exact hK
set_option maxRecDepth 100000 in
set_option maxHeartbeats 1000000 in
theorem formOf_any (s:ByteArray) (hs:s.size≤maxLen) (w:World) :
  Calls Tryz.prog 48 #[.string s] w fun e w'=>e=.returned (.tuple #[.agg #[.int .i64 (fmA s.toList),.int .i64 (fmB s.toList),.int .i64 (fmC s.toList)],.bool (fmK s.toList)])∧Below w.heap.size w w':=by
 have hmm:=@run_makeMap Tryz.prog
 go_enter Tryz.func48,Tryz.ntmps48
 have h0:=stm_new w
 go_upto_region 1 with fail
 go_step
 simp only [List.append_eq,List.cons_append,List.nil_append]
 go_upto_region 2 with (first
  | (refine wpList_insert_st _ w rfl _ _ _ 124 rfl 9 77 (string_keyed Tryz.underlying9) Tryz.underlying124 frmR (w.heap.size+1) _ _ rfl (by assumption) (by omega) (by unfold maxLen;omega) _ _ _ rfl rfl (WideMaps.keyOf_string_mk Tryz.underlying9 (by decide)) _ [] rfl ?_;intro w1 h1)
  | (refine wpList_lookup_st _ w s hs rfl _ _ rfl _ rfl rfl (by assumption) ?_))
 obtain ⟨_,hb,_,hk⟩:=h1
 have d0:w1.cell? ⟨w.heap.size,0,none⟩=some (.int .i64 0):=cell_of_row w1 _ 0 _ _ _ hk
 have d1:w1.cell? ⟨w.heap.size,1,none⟩=some (.int .i64 0):=cell_of_row w1 _ 1 _ _ _ hk
 have d2:w1.cell? ⟨w.heap.size,2,none⟩=some (.int .i64 0):=cell_of_row w1 _ 2 _ _ _ hk
 have q0:w1.frozen? ⟨w.heap.size,0,none⟩=false:=frozen_of_row w1 _ 0 _ _ hk
 have q1:w1.frozen? ⟨w.heap.size,1,none⟩=false:=frozen_of_row w1 _ 1 _ _ hk
 have q2:w1.frozen? ⟨w.heap.size,2,none⟩=false:=frozen_of_row w1 _ 2 _ _ hk
 have hlt:w.heap.size<w1.heap.size:=by
  rcases Nat.lt_or_ge w.heap.size w1.heap.size with h|h
  ·exact h
  ·rw [Array.getElem?_eq_none h] at hk;cases hk
 have HB:=Lib.hid hb
 clear hb hk hs hmm
 go_wp2_with fail
 have hb:=HB.out
 exact bodyPost_ret (v:=.tuple #[.agg #[.int .i64 (fmA s.toList),.int .i64 (fmB s.toList),.int .i64 (fmC s.toList)],.bool (fmK s.toList)]) (by simp [results,Tryz.results48,go_sem, *]) rfl ⟨rfl,(qBo hb)⟩
def ndC (s:ByteArray) (ia:Option Addr) (nin cin:Nat) (la:Option Addr) (nI cI:Nat) (ra:Option Addr) (nR cR:Nat):Array Value:=#[.string s,.slice ia nin cin,.slice la nI cI,.slice ra nR cR]
abbrev ndV (s:ByteArray) (ia:Option Addr) (nin cin:Nat) (la:Option Addr) (nI cI:Nat) (ra:Option Addr) (nR cR:Nat):Value:=.agg #[.string s,.slice ia nin cin,.slice la nI cI,.slice ra nR cR]
def ZRow (w:World) (a:Option Addr) (m:List Int):Prop:=m.length≤1099511627776∧(m=[]∨∃ b o,a=some ⟨b,o,none⟩∧∀ i,i<m.length→w.cell? ⟨b,o+i,none⟩=some (.int .i64 (m.getD i 0)))
theorem ZRow.below {w w':World} {a:Option Addr} {m:List Int} (h:ZRow w a m) (hb:Below w.heap.size w w'):ZRow w' a m:=by
 obtain ⟨h1,h2⟩:=h
 refine ⟨h1,?_⟩
 rcases h2 with h2|⟨b,o,e,hc⟩
 ·exact .inl h2
 ·refine .inr ⟨b,o,e,fun i hi=>?_⟩
  rw [hb.cell (World.block_lt_of_cell? w _ (hc i hi))]
  exact hc i hi
theorem ZRow.at_ {w:World} {b o:Nat} {m:List Int} (h:ZRow w (some ⟨b,o,none⟩) m) (i:Nat) (hi:i<m.length):w.cell? ⟨b,o+i,none⟩=some (.int .i64 (m.getD i 0)):=by
 rcases h.2 with h|⟨b',o',e,hc⟩
 ·subst h;simp at hi
 ·cases e;exact hc i hi
theorem ZRow.lt {w:World} {b o:Nat} {m:List Int} (h:ZRow w (some ⟨b,o,none⟩) m) (hi:0<m.length):b<w.heap.size:=World.block_lt_of_cell? w _ (h.at_ 0 hi)
theorem ZRow.some {w:World} {a:Option Addr} {x:Int} {m:List Int} (h:ZRow w a (x :: m)):∃ b o,a=some ⟨b,o,none⟩:=by
 rcases h.2 with h|⟨b,o,e,_⟩
 ·cases h
 ·exact ⟨b,o,e⟩
abbrev kwKernel:List UInt8:=[107,101,114,110,101,108]
def sideB (k:Int):Bool:=decide (1≤k) && decide (k≤15) && (k%2 == 1)
def fmE (z:List UInt8) (ni nI nR:Nat) (k:Int):Int:=
 if fmK z=false then 1 else if (ni:Int)≠fmA z then 2 else if (nI:Int)≠fmB z then 2 else
 if (z == kwKernel)=true then (if sideB k=false then 3 else if (nR:Int)≠k*k then 2 else 0) else if (nR:Int)≠fmC z then 2 else 0
theorem side_any (k:Int) (w:World):Calls Tryz.prog 49 #[.int .i64 k] w fun e w'=>e=.returned (.bool (sideB k))∧w=w':=by
 go_enter Tryz.func49,Tryz.ntmps49
 go_wp2
 all_goals go_ret
 all_goals refine ⟨congrArg (fun b=>Ending.returned (.bool b)) ?_,rfl⟩
 all_goals unfold sideB
 all_goals (rw [Bool.eq_iff_iff];simp;try omega)
theorem fmT_all (z:List UInt8):(∃ x∈tabS,z=x.1∧fmT z=some x.2)∨(fmT z=none∧∀ x∈tabS,(z == x.1)=false):=by
 unfold fmT
 cases h:tabS.find? (fun x=>x.1 == z) with
 | some x =>
  have h1:=List.find?_some h
  have h2:=List.mem_of_find?_eq_some h
  exact .inl ⟨x,h2,by simpa using (by simpa using h1:x.1=z).symm,rfl⟩
 | none =>
  rw [List.find?_eq_none] at h
  exact .inr ⟨rfl,fun x hx=>by have:=h x hx;simp at this ⊢;exact fun e=>this e.symm⟩
theorem fm_of {z:List UInt8} {x:Int × Int × Int} (e:fmT z=some x):fmA z=x.1∧fmB z=x.2.1∧fmC z=x.2.2∧fmK z=true:=by
 unfold fmA fmB fmC fmK
 rw [e]
 exact ⟨rfl,rfl,rfl,rfl⟩
theorem fm_none {z:List UInt8} (e:fmT z=none):fmA z=0∧fmB z=0∧fmC z=0∧fmK z=false:=by
 unfold fmA fmB fmC fmK
 rw [e]
 exact ⟨rfl,rfl,rfl,rfl⟩
structure NdAt (w:World) (p:Nat) (s:ByteArray) (ia:Option Addr) (nin cin:Nat) (la:Option Addr) (nI cI:Nat) (ra:Option Addr) (nR cR:Nat):Prop where
 blk:w.heap[p]?=some (.cells (ndC s ia nin cin la nI cI ra nR cR) 61 (0,0))
section
variable {s:ByteArray} {ia la ra:Option Addr} {nin cin nI cI nR cR p:Nat} {w:World}
theorem NdAt.lt (h:NdAt w p s ia nin cin la nI cI ra nR cR):p<w.heap.size:=by
 rcases Nat.lt_or_ge p w.heap.size with hlt|hge
 ·exact hlt
 ·have:=h.blk;rw [Array.getElem?_eq_none hge] at this;cases this
theorem NdAt.below (h:NdAt w p s ia nin cin la nI cI ra nR cR) {w':World} {B:Nat} (hb:Below B w w') (hp:p<B):NdAt w' p s ia nin cin la nI cI ra nR cR:=⟨(hb.block p hp).trans h.blk⟩
theorem NdAt.new (w:World) (s:ByteArray) (ia:Option Addr) (nin cin:Nat) (la:Option Addr) (nI cI:Nat) (ra:Option Addr) (nR cR:Nat) :
  NdAt (w.alloc (.cells #[.string s,.slice ia nin cin,.slice la nI cI,.slice ra nR cR] 61)) w.heap.size s ia nin cin la nI cI ra nR cR:=⟨heap_alloc_new w _⟩
theorem NdAt.cells (h:NdAt w p s ia nin cin la nI cI ra nR cR):w.cell? ⟨p,0,none⟩=some (.string s)∧w.cell? ⟨p,1,none⟩=some (.slice ia nin cin)∧w.cell? ⟨p,2,none⟩=some (.slice la nI cI)∧w.cell? ⟨p,3,none⟩=some (.slice ra nR cR):=
 ⟨cell_of_row w p 0 _ _ _ h.blk,cell_of_row w p 1 _ _ _ h.blk,cell_of_row w p 2 _ _ _ h.blk,cell_of_row w p 3 _ _ _ h.blk⟩
end
set_option maxRecDepth 100000 in
set_option maxHeartbeats 1000000 in
theorem checkform_o (s:ByteArray) (hs:s.size≤maxLen) (ia:Option Addr) (nin cin:Nat) (la:Option Addr) (nI cI:Nat) (ra:Option Addr) (nR cR:Nat) (hz:(s.toList == kwKernel)=false) (w:World) :
  Calls Tryz.prog 39 #[ndV s ia nin cin la nI cI ra nR cR] w fun e w'=>e=.returned (.int .i64 (fmE s.toList nin nI nR 0))∧Below w.heap.size w w':=by
 have KF:=Lib.hid (fun w=>formOf_any s hs w)
 clear hs
 go_enter Tryz.func39,Tryz.ntmps39
 go_upto_region 1 with fail
 generalize hW0:w.alloc (.cells #[.string s,.slice ia nin cin,.slice la nI cI,.slice ra nR cR] 61)=W0
 have A0:NdAt W0 w.heap.size s ia nin cin la nI cI ra nR cR:=by subst hW0;exact NdAt.new _ _ _ _ _ _ _ _ _ _ _
 have b0:Below w.heap.size w W0:=by subst hW0;exact qBl
 have HB0:=Lib.hid b0
 have HA0:=Lib.hid A0
 clear b0 hW0 A0
 obtain ⟨p0,p1,p2,p3⟩:=HA0.out.cells
 go_wp2_with fail
 refine (KF.out _).mono ?_
 rintro e w1 ⟨rfl,b1⟩
 have HB1:=Lib.hid (HB0.out.trans (b1.mono HB0.out.size))
 have HA1:=Lib.hid (HA0.out.below b1 HA0.out.lt)
 clear b1 HB0 HA0 p0 p1 p2 p3
 obtain ⟨p0,p1,p2,p3⟩:=HA1.out.cells
 have l1:=HA1.out.lt
 cases hK:fmK s.toList with
 | false =>
  go_wp2_with fail
  go_ret
  have hb:=HB1.out
  refine ⟨congrArg (fun x=>Ending.returned (.int .i64 x)) ?_,(qBo hb)⟩
  simp [fmE, *]
 | true =>
  go_wp2_with fail
  all_goals go_ret
  all_goals have hb:=HB1.out
  all_goals refine ⟨congrArg (fun x=>Ending.returned (.int .i64 x)) ?_,(qBo hb)⟩
  all_goals simp_all [fmE]
theorem kern_fm:fmA kwKernel=1∧fmB kwKernel=1∧fmC kwKernel=0∧fmK kwKernel=true:=⟨rfl,rfl,rfl,rfl⟩
set_option maxRecDepth 100000 in
set_option maxHeartbeats 1000000 in
theorem checkform_k (s:ByteArray) (hs:s.size≤maxLen) (ia:Option Addr) (nin cin:Nat) (la:Option Addr) (nI cI:Nat) (ra:Option Addr) (nR cR:Nat) (hz:s.toList=kwKernel) (hn:nI≠1) (k:Int) (w:World) :
  Calls Tryz.prog 39 #[ndV s ia nin cin la nI cI ra nR cR] w fun e w'=>e=.returned (.int .i64 (fmE s.toList nin nI nR k))∧Below w.heap.size w w':=by
 have hC:fmE kwKernel nin nI nR k=2:=by
  obtain ⟨f1,f2,f3,f4⟩:=kern_fm
  unfold fmE
  rw [f1,f2,f4,if_neg (by decide)]
  by_cases h:(nin:Int)=1
  ·rw [if_neg (by omega),if_pos (by omega)]
  ·rw [if_pos h]
 rw [hz,hC]
 clear hC
 have KF:=Lib.hid (fun w=>formOf_any s hs w)
 rw [hz] at KF
 obtain ⟨f1,f2,f3,f4⟩:=kern_fm
 rw [f1,f2,f3,f4] at KF
 clear hs f1 f2 f3 f4
 go_enter Tryz.func39,Tryz.ntmps39
 go_upto_region 1 with fail
 generalize hW0:w.alloc (.cells #[.string s,.slice ia nin cin,.slice la nI cI,.slice ra nR cR] 61)=W0
 have A0:NdAt W0 w.heap.size s ia nin cin la nI cI ra nR cR:=by subst hW0;exact NdAt.new _ _ _ _ _ _ _ _ _ _ _
 have b0:Below w.heap.size w W0:=by subst hW0;exact qBl
 have HB0:=Lib.hid b0
 have HA0:=Lib.hid A0
 clear b0 hW0 A0
 obtain ⟨p0,p1,p2,p3⟩:=HA0.out.cells
 go_wp2_with fail
 refine (KF.out _).mono ?_
 rintro e w1 ⟨rfl,b1⟩
 have HB1:=Lib.hid (HB0.out.trans (b1.mono HB0.out.size))
 have HA1:=Lib.hid (HA0.out.below b1 HA0.out.lt)
 clear b1 HB0 HA0 p0 p1 p2 p3
 obtain ⟨p0,p1,p2,p3⟩:=HA1.out.cells
 have l1:=HA1.out.lt
 have hn2:((nI:Int) != 1)=true:=by simp;omega
 by_cases hq:(nin:Int)=1
 ·go_wp2_with fail
  go_ret
  have hb:=HB1.out
  exact ⟨rfl,(qBo hb)⟩
 ·go_wp2_with fail
  go_ret
  have hb:=HB1.out
  exact ⟨rfl,(qBo hb)⟩
set_option maxRecDepth 100000 in
set_option maxHeartbeats 1000000 in
theorem checkform_k1 (s:ByteArray) (hs:s.size≤maxLen) (ia:Option Addr) (nin cin:Nat) (b o cI:Nat) (ra:Option Addr) (nR cR:Nat) (hz:s.toList=kwKernel) (k:Int) (w:World) (hI:ZRow w (some ⟨b,o,none⟩) [k]) :
  Calls Tryz.prog 39 #[ndV s ia nin cin (some ⟨b,o,none⟩) 1 cI ra nR cR] w fun e w'=>e=.returned (.int .i64 (fmE s.toList nin 1 nR k))∧Below w.heap.size w w':=by
 have HI0:=Lib.hid hI
 have KS:=Lib.hid (fun w=>side_any k w)
 clear hI
 rw [hz]
 have KF:=Lib.hid (fun w=>formOf_any s hs w)
 rw [hz] at KF
 obtain ⟨f1,f2,f3,f4⟩:=kern_fm
 rw [f1,f2,f3,f4] at KF
 clear hs f1 f2 f3 f4
 go_enter Tryz.func39,Tryz.ntmps39
 go_upto_region 1 with fail
 obtain ⟨la,hla⟩:∃ la,la=some (Addr.mk b o none):=⟨_,rfl⟩
 obtain ⟨nI,hnI⟩:∃ nI,nI=1:=⟨_,rfl⟩
 generalize hW0:w.alloc (.cells #[.string s,.slice ia nin cin,.slice (some ⟨b,o,none⟩) 1 cI,.slice ra nR cR] 61)=W0
 rw [←hla,←hnI] at hW0
 have A0:NdAt W0 w.heap.size s ia nin cin la nI cI ra nR cR:=by subst hW0;exact NdAt.new _ _ _ _ _ _ _ _ _ _ _
 have b0:Below w.heap.size w W0:=by subst hW0;exact qBl
 have HB0:=Lib.hid b0
 have HA0:=Lib.hid A0
 clear b0 hW0 A0
 obtain ⟨p0,p1,p2,p3⟩:=HA0.out.cells
 go_wp2_with fail
 refine (KF.out _).mono ?_
 rintro e w1 ⟨rfl,b1⟩
 have HB1:=Lib.hid (HB0.out.trans (b1.mono HB0.out.size))
 have HA1:=Lib.hid (HA0.out.below b1 HA0.out.lt)
 have HI1:=Lib.hid ((HI0.out.below (by have:=HB0.out;exact this)).below b1)
 clear b1 HB0 HA0 p0 p1 p2 p3 HI0
 obtain ⟨p0,p1,p2,p3⟩:=HA1.out.cells
 rw [hla,hnI] at p2
 have l1:=HA1.out.lt
 have i0:w1.cell? ⟨b,o,none⟩=some (.int .i64 k):=HI1.out.at_ 0 (by simp)
 have lb:b<w1.heap.size:=HI1.out.lt (by simp)
 have HLA:=Lib.hid hla
 have HNI:=Lib.hid hnI
 clear hla hnI
 by_cases hq:(nin:Int)=1
 ·go_wp2_with fail
  refine (KS.out _).mono ?_
  rintro e w2 ⟨rfl,rfl⟩
  cases hS:sideB k with
  | false =>
   go_wp2_with fail
   go_ret
   have hb:=HB1.out
   refine ⟨congrArg (fun x=>Ending.returned (.int .i64 x)) ?_,(qBo hb)⟩
   simp_all [fmE,kern_fm]
  | true =>
   have HS:=Lib.hid hS
   go_upto_region 9 with fail
   clear hS
   generalize hW2:w1.alloc (.cells #[.int .i64 1,.int .i64 1,.int .i64 0] 77)=W2
   have B2:Below w1.heap.size w1 W2:=by subst hW2;exact qBl
   have hk:W2.heap[w1.heap.size]?=some (.cells #[.int .i64 1,.int .i64 1,.int .i64 0] 77 (0,0)):=by subst hW2;exact heap_alloc_new w1 _
   have HA2:=Lib.hid (HA1.out.below B2 HA1.out.lt)
   have HB2:=Lib.hid (HB1.out.trans (B2.mono HB1.out.size))
   have HI2:=Lib.hid (HI1.out.below B2)
   have lt2:w1.heap.size<W2.heap.size:=by subst hW2;simp
   have HL:Hid (w.heap.size<w1.heap.size):=l1
   clear hW2 B2 p0 p1 p2 p3 i0 lb l1 HB1 HA1 HI1
   generalize w1.heap.size=f at *
   obtain ⟨p0,p1,p2,p3⟩:=HA2.out.cells
   rw [HLA.out,HNI.out] at p2
   have i0:W2.cell? ⟨b,o,none⟩=some (.int .i64 k):=HI2.out.at_ 0 (by simp)
   have d2:W2.cell? ⟨f,2,none⟩=some (.int .i64 0):=cell_of_row W2 _ 2 _ _ _ hk
   have q2:W2.frozen? ⟨f,2,none⟩=false:=frozen_of_row W2 _ 2 _ _ hk
   have lf:=HA2.out.lt
   have hkk:IntKind.i64.wrap (k*k)=k*k:=by
    have hS:=HS.out
    unfold sideB at hS
    simp at hS
    have h1:=Int.mul_le_mul hS.1.2 hS.1.2 (by omega) (by omega:(0:Int)≤15)
    have h2:=Int.mul_nonneg (by omega:0≤k) (by omega:0≤k)
    exact IntWalk.i64_in _ (by omega)
   clear hk
   have hl:=HL.out
   have HK:=Lib.hid hkk
   go_still_tail 10,(by kernel_rfl)
   clear hkk
   change wpList _ _ _ _ _ W2.drew
   have HB3:Hid (Below w.heap.size w W2.drew):=HB2.out.drew
   clear HB2 HI2 i0 p0 p1 p2 HA2 HLA HNI
   change W2.drew.cell? _=_ at p3
   change W2.drew.cell? _=_ at d2
   change W2.drew.frozen? _=_ at q2
   change _<W2.drew.heap.size at lf
   change _<W2.drew.heap.size at lt2
   generalize W2.drew=W3 at *
   go_wp2_with fail
   all_goals go_ret
   all_goals have hb:=HB3.out
   all_goals refine ⟨congrArg (fun x=>Ending.returned (.int .i64 x)) ?_,(qBo hb)⟩
   all_goals have hS:=HS.out
   all_goals clear HS HB3 HK HL KS KF d2 q2 p3
   all_goals simp_all [fmE,kern_fm]
 ·go_wp2_with fail
  go_ret
  have hb:=HB1.out
  refine ⟨congrArg (fun x=>Ending.returned (.int .i64 x)) ?_,(qBo hb)⟩
  simp_all [fmE,kern_fm]
theorem SRow.cell1 {w:World} {b o:Nat} {l:List Nat} (h:SRow w (some ⟨b,o,none⟩) l) (i:Nat) (hi:i<l.length):w.cell? ⟨b,o+i,none⟩=some (.float .f32 (l.getD i 0)):=by
 rcases h.2 with h|⟨b',o',e,hc⟩
 ·subst h;simp at hi
 ·cases e;exact hc i hi
theorem SRow.lt1 {w:World} {b o:Nat} {l:List Nat} (h:SRow w (some ⟨b,o,none⟩) l) (hi:0<l.length):b<w.heap.size:=World.block_lt_of_cell? w _ (h.cell1 0 hi)
theorem st_3 {W:World} {k:Nat} {t:TypeId} {a0 a1 a2:Value} (h:W.heap[k]?=some (.cells #[a0,a1,a2] t (0,0))) (v0 v1 v2:Value) :
  ∀ W5,W5=(((W.setCell ⟨k,0,none⟩ v0).setCell ⟨k,1,none⟩ v1).setCell ⟨k,2,none⟩ v2)→W5.heap[k]?=some (.cells #[v0,v1,v2] t (0,0))∧Below k W W5:=by
 rintro _ rfl
 refine ⟨?_,qBl⟩
 have:=(heap_setCell_same _ k 2 _ _ v2 (heap_setCell_same _ k 1 _ _ v1 (heap_setCell_same _ k 0 _ _ v0 h)))
 simpa using this
theorem st_4 {W:World} {k:Nat} {t:TypeId} {a0 a1 a2 a3:Value} (h:W.heap[k]?=some (.cells #[a0,a1,a2,a3] t (0,0))) (v0 v1 v2 v3:Value) :
  ∀ W5,W5=((((W.setCell ⟨k,0,none⟩ v0).setCell ⟨k,1,none⟩ v1).setCell ⟨k,2,none⟩ v2).setCell ⟨k,3,none⟩ v3)→W5.heap[k]?=some (.cells #[v0,v1,v2,v3] t (0,0))∧Below k W W5:=by
 rintro _ rfl
 refine ⟨?_,qBl⟩
 have:=(heap_setCell_same _ k 3 _ _ v3 (heap_setCell_same _ k 2 _ _ v2 (heap_setCell_same _ k 1 _ _ v1 (heap_setCell_same _ k 0 _ _ v0 h))))
 simpa using this
theorem st_5 {W:World} {k:Nat} {t:TypeId} {a0 a1 a2 a3 a4:Value} (h:W.heap[k]?=some (.cells #[a0,a1,a2,a3,a4] t (0,0))) (v0 v1 v2 v3 v4:Value) :
  ∀ W5,W5=(((((W.setCell ⟨k,0,none⟩ v0).setCell ⟨k,1,none⟩ v1).setCell ⟨k,2,none⟩ v2).setCell ⟨k,3,none⟩ v3).setCell ⟨k,4,none⟩ v4)→W5.heap[k]?=some (.cells #[v0,v1,v2,v3,v4] t (0,0))∧Below k W W5:=by
 rintro _ rfl
 refine ⟨?_,qBl⟩
 have:=(heap_setCell_same _ k 4 _ _ v4 (heap_setCell_same _ k 3 _ _ v3 (heap_setCell_same _ k 2 _ _ v2 (heap_setCell_same _ k 1 _ _ v1 (heap_setCell_same _ k 0 _ _ v0 h)))))
 simpa using this
theorem st_6 {W:World} {k:Nat} {t:TypeId} {a0 a1 a2 a3 a4 a5:Value} (h:W.heap[k]?=some (.cells #[a0,a1,a2,a3,a4,a5] t (0,0))) (v0 v1 v2 v3 v4 v5:Value) :
  ∀ W5,W5=((((((W.setCell ⟨k,0,none⟩ v0).setCell ⟨k,1,none⟩ v1).setCell ⟨k,2,none⟩ v2).setCell ⟨k,3,none⟩ v3).setCell ⟨k,4,none⟩ v4).setCell ⟨k,5,none⟩ v5)→W5.heap[k]?=some (.cells #[v0,v1,v2,v3,v4,v5] t (0,0))∧Below k W W5:=by
 rintro _ rfl
 refine ⟨?_,qBl⟩
 have:=(heap_setCell_same _ k 5 _ _ v5 (heap_setCell_same _ k 4 _ _ v4 (heap_setCell_same _ k 3 _ _ v3 (heap_setCell_same _ k 2 _ _ v2 (heap_setCell_same _ k 1 _ _ v1 (heap_setCell_same _ k 0 _ _ v0 h))))))
 simpa using this
set_option maxRecDepth 100000 in
set_option maxHeartbeats 1000000 in
theorem mk_fractal (s:ByteArray) (ia:Option Addr) (nin cin b o cI rb ro nR cR:Nat) (i0 i1 i2 i3:Int) (r0:Nat) (l:List Nat) (w:World)
  (hI:ZRow w (some ⟨b,o,none⟩) [i0,i1,i2,i3]) (hR:SRow w (some ⟨rb,ro,none⟩) l) (hl:l=r0 :: l.drop 1) (hn:nR=l.length) :
  Calls Tryz.prog 53 #[ndV s ia nin cin (some ⟨b,o,none⟩) 4 cI (some ⟨rb,ro,none⟩) nR cR] w fun e w'=>e=.returned (.agg #[.int .i64 i0,.int .u32 (i1%4294967296),.int .i64 i2,.int .i64 i3,.float .f32 r0])∧Below w.heap.size w w':=by
 have hlen:0<l.length:=by rw [hl];simp
 have g0:l.getD 0 0=r0:=by rw [hl];rfl
 have hnr:0<nR:=by omega
 have hnr0:0<nR:=by omega
 have HN:=Lib.hid hn
 clear hl hn
 go_enter Tryz.func53,Tryz.ntmps53
 go_upto_region 1 with fail
 generalize hW0:(w.alloc (.cells #[.string s,.slice ia nin cin,.slice (some ⟨b,o,none⟩) 4 cI,.slice (some ⟨rb,ro,none⟩) nR cR] 61)).alloc (.cells #[.int .i64 0,.int .u32 0,.int .i64 0,.int .i64 0,.float .f32 0] 84)=W0
 have A0:NdAt W0 w.heap.size s ia nin cin (some ⟨b,o,none⟩) 4 cI (some ⟨rb,ro,none⟩) nR cR:=by
  exact qx36
 have bk:W0.heap[w.heap.size+1]?=some (.cells #[.int .i64 0,.int .u32 0,.int .i64 0,.int .i64 0,.float .f32 0] 84 (0,0)):=by
  subst hW0
  have:=heap_alloc_new (w.alloc (.cells #[.string s,.slice ia nin cin,.slice (some ⟨b,o,none⟩) 4 cI,.slice (some ⟨rb,ro,none⟩) nR cR] 61)) (.cells #[.int .i64 0,.int .u32 0,.int .i64 0,.int .i64 0,.float .f32 0] 84)
  simpa using this
 have b0:Below w.heap.size w W0:=by subst hW0;exact qBl
 have HB0:=Lib.hid b0
 have hI0:=hI.below b0
 have hR0:=hR.below b0
 have x0:W0.cell? ⟨b,o,none⟩=some (.int .i64 i0):=hI0.at_ 0 (by simp)
 have x1:W0.cell? ⟨b,o+1,none⟩=some (.int .i64 i1):=hI0.at_ 1 (by simp)
 have x2:W0.cell? ⟨b,o+2,none⟩=some (.int .i64 i2):=hI0.at_ 2 (by simp)
 have x3:W0.cell? ⟨b,o+3,none⟩=some (.int .i64 i3):=hI0.at_ 3 (by simp)
 have y0:W0.cell? ⟨rb,ro,none⟩=some (.float .f32 r0):=by have:=hR0.cell1 0 (by omega);rw [g0] at this;exact this
 have lb:b<W0.heap.size:=hI0.lt (by simp)
 have lrb:rb<W0.heap.size:=hR0.lt1 (by omega)
 have l0:w.heap.size<W0.heap.size:=A0.lt
 have l1:w.heap.size+1<W0.heap.size:=by subst hW0;simp
 obtain ⟨p0,p1,p2,p3⟩:=A0.cells
 clear b0 hI0 hR0 hI hR hW0 A0 hlen
 clear g0
 have q0:W0.frozen? ⟨w.heap.size+1,0,none⟩=false:=frozen_of_row W0 _ 0 _ _ bk
 have d0:W0.cell? ⟨w.heap.size+1,0,none⟩=some (.int .i64 0):=cell_of_row W0 _ 0 _ _ _ bk
 have q1:W0.frozen? ⟨w.heap.size+1,1,none⟩=false:=frozen_of_row W0 _ 1 _ _ bk
 have d1:W0.cell? ⟨w.heap.size+1,1,none⟩=some (.int .u32 0):=cell_of_row W0 _ 1 _ _ _ bk
 have q2:W0.frozen? ⟨w.heap.size+1,2,none⟩=false:=frozen_of_row W0 _ 2 _ _ bk
 have d2:W0.cell? ⟨w.heap.size+1,2,none⟩=some (.int .i64 0):=cell_of_row W0 _ 2 _ _ _ bk
 have q3:W0.frozen? ⟨w.heap.size+1,3,none⟩=false:=frozen_of_row W0 _ 3 _ _ bk
 have d3:W0.cell? ⟨w.heap.size+1,3,none⟩=some (.int .i64 0):=cell_of_row W0 _ 3 _ _ _ bk
 have q4:W0.frozen? ⟨w.heap.size+1,4,none⟩=false:=frozen_of_row W0 _ 4 _ _ bk
 have d4:W0.cell? ⟨w.heap.size+1,4,none⟩=some (.float .f32 0):=cell_of_row W0 _ 4 _ _ _ bk
 have HK:=Lib.hid bk
 clear bk
 go_still_tail 22,(by kernel_rfl)
 change wpList _ _ _ _ _ W0.drew
 go_wp2_with fail
 obtain ⟨e5,b5⟩:=st_5 (W:=W0) HK.out (.int .i64 i0) (.int .u32 (i1%4294967296)) (.int .i64 i2) (.int .i64 i3) (.float .f32 r0) _ rfl
 have b5:=b5.drew
 change (World.drew (((((W0.setCell ⟨w.heap.size+1,0,none⟩ (.int .i64 i0)).setCell ⟨w.heap.size+1,1,none⟩ (.int .u32 (i1%4294967296))).setCell ⟨w.heap.size+1,2,none⟩ (.int .i64 i2)).setCell ⟨w.heap.size+1,3,none⟩ (.int .i64 i3)).setCell ⟨w.heap.size+1,4,none⟩ (.float .f32 r0))).heap[w.heap.size+1]?=_ at e5
 generalize World.drew (((((W0.setCell ⟨w.heap.size+1,0,none⟩ (.int .i64 i0)).setCell ⟨w.heap.size+1,1,none⟩ (.int .u32 (i1%4294967296))).setCell ⟨w.heap.size+1,2,none⟩ (.int .i64 i2)).setCell ⟨w.heap.size+1,3,none⟩ (.int .i64 i3)).setCell ⟨w.heap.size+1,4,none⟩ (.float .f32 r0))=W5 at *
 have z0:W5.cell? ⟨w.heap.size+1,0,none⟩=some (.int .i64 i0):=cell_of_row W5 _ 0 _ _ _ e5
 have z1:W5.cell? ⟨w.heap.size+1,1,none⟩=some (.int .u32 (i1%4294967296)):=cell_of_row W5 _ 1 _ _ _ e5
 have z2:W5.cell? ⟨w.heap.size+1,2,none⟩=some (.int .i64 i2):=cell_of_row W5 _ 2 _ _ _ e5
 have z3:W5.cell? ⟨w.heap.size+1,3,none⟩=some (.int .i64 i3):=cell_of_row W5 _ 3 _ _ _ e5
 have z4:W5.cell? ⟨w.heap.size+1,4,none⟩=some (.float .f32 r0):=cell_of_row W5 _ 4 _ _ _ e5
 have hb:=HB0.out.trans (b5.mono (by omega))
 clear e5 b5 d0 d1 d2 d3 d4 q0 q1 q2 q3 q4 p0 p1 p2 p3
 exact bodyPost_ret (v:=.agg #[.int .i64 i0,.int .u32 (i1%4294967296),.int .i64 i2,.int .i64 i3,.float .f32 r0]) (by simp [results,Tryz.results53,go_sem, *]) rfl ⟨rfl,hb⟩
set_option maxRecDepth 100000 in
set_option maxHeartbeats 1000000 in
theorem mk_brush (s:ByteArray) (ia:Option Addr) (nin cin b o cI rb ro nR cR:Nat) (i0 i1 i2 i3:Int) (r0:Nat) (l:List Nat) (w:World)
  (hI:ZRow w (some ⟨b,o,none⟩) [i0,i1,i2,i3]) (hR:SRow w (some ⟨rb,ro,none⟩) l) (hl:l=r0 :: l.drop 1) (hn:nR=l.length) :
  Calls Tryz.prog 57 #[ndV s ia nin cin (some ⟨b,o,none⟩) 4 cI (some ⟨rb,ro,none⟩) nR cR] w fun e w'=>e=.returned (.agg #[.int .i64 i0,.int .i64 i1,.int .i64 i2,.int .i64 i3,.float .f32 r0])∧Below w.heap.size w w':=by
 have hlen:0<l.length:=by rw [hl];simp
 have g0:l.getD 0 0=r0:=by rw [hl];rfl
 have hnr:0<nR:=by omega
 have hnr0:0<nR:=by omega
 have HN:=Lib.hid hn
 clear hl hn
 go_enter Tryz.func57,Tryz.ntmps57
 go_upto_region 1 with fail
 generalize hW0:(w.alloc (.cells #[.string s,.slice ia nin cin,.slice (some ⟨b,o,none⟩) 4 cI,.slice (some ⟨rb,ro,none⟩) nR cR] 61)).alloc (.cells #[.int .i64 0,.int .i64 0,.int .i64 0,.int .i64 0,.float .f32 0] 92)=W0
 have A0:NdAt W0 w.heap.size s ia nin cin (some ⟨b,o,none⟩) 4 cI (some ⟨rb,ro,none⟩) nR cR:=by
  exact qx36
 have bk:W0.heap[w.heap.size+1]?=some (.cells #[.int .i64 0,.int .i64 0,.int .i64 0,.int .i64 0,.float .f32 0] 92 (0,0)):=by
  subst hW0
  have:=heap_alloc_new (w.alloc (.cells #[.string s,.slice ia nin cin,.slice (some ⟨b,o,none⟩) 4 cI,.slice (some ⟨rb,ro,none⟩) nR cR] 61)) (.cells #[.int .i64 0,.int .i64 0,.int .i64 0,.int .i64 0,.float .f32 0] 92)
  simpa using this
 have b0:Below w.heap.size w W0:=by subst hW0;exact qBl
 have HB0:=Lib.hid b0
 have hI0:=hI.below b0
 have hR0:=hR.below b0
 have x0:W0.cell? ⟨b,o,none⟩=some (.int .i64 i0):=hI0.at_ 0 (by simp)
 have x1:W0.cell? ⟨b,o+1,none⟩=some (.int .i64 i1):=hI0.at_ 1 (by simp)
 have x2:W0.cell? ⟨b,o+2,none⟩=some (.int .i64 i2):=hI0.at_ 2 (by simp)
 have x3:W0.cell? ⟨b,o+3,none⟩=some (.int .i64 i3):=hI0.at_ 3 (by simp)
 have y0:W0.cell? ⟨rb,ro,none⟩=some (.float .f32 r0):=by have:=hR0.cell1 0 (by omega);rw [g0] at this;exact this
 have lb:b<W0.heap.size:=hI0.lt (by simp)
 have lrb:rb<W0.heap.size:=hR0.lt1 (by omega)
 have l0:w.heap.size<W0.heap.size:=A0.lt
 have l1:w.heap.size+1<W0.heap.size:=by subst hW0;simp
 obtain ⟨p0,p1,p2,p3⟩:=A0.cells
 clear b0 hI0 hR0 hI hR hW0 A0 hlen
 clear g0
 have q0:W0.frozen? ⟨w.heap.size+1,0,none⟩=false:=frozen_of_row W0 _ 0 _ _ bk
 have d0:W0.cell? ⟨w.heap.size+1,0,none⟩=some (.int .i64 0):=cell_of_row W0 _ 0 _ _ _ bk
 have q1:W0.frozen? ⟨w.heap.size+1,1,none⟩=false:=frozen_of_row W0 _ 1 _ _ bk
 have d1:W0.cell? ⟨w.heap.size+1,1,none⟩=some (.int .i64 0):=cell_of_row W0 _ 1 _ _ _ bk
 have q2:W0.frozen? ⟨w.heap.size+1,2,none⟩=false:=frozen_of_row W0 _ 2 _ _ bk
 have d2:W0.cell? ⟨w.heap.size+1,2,none⟩=some (.int .i64 0):=cell_of_row W0 _ 2 _ _ _ bk
 have q3:W0.frozen? ⟨w.heap.size+1,3,none⟩=false:=frozen_of_row W0 _ 3 _ _ bk
 have d3:W0.cell? ⟨w.heap.size+1,3,none⟩=some (.int .i64 0):=cell_of_row W0 _ 3 _ _ _ bk
 have q4:W0.frozen? ⟨w.heap.size+1,4,none⟩=false:=frozen_of_row W0 _ 4 _ _ bk
 have d4:W0.cell? ⟨w.heap.size+1,4,none⟩=some (.float .f32 0):=cell_of_row W0 _ 4 _ _ _ bk
 have HK:=Lib.hid bk
 clear bk
 go_still_tail 21,(by kernel_rfl)
 change wpList _ _ _ _ _ W0.drew
 go_wp2_with fail
 obtain ⟨e5,b5⟩:=st_5 (W:=W0) HK.out (.int .i64 i0) (.int .i64 i1) (.int .i64 i2) (.int .i64 i3) (.float .f32 r0) _ rfl
 have b5:=b5.drew
 change (World.drew (((((W0.setCell ⟨w.heap.size+1,0,none⟩ (.int .i64 i0)).setCell ⟨w.heap.size+1,1,none⟩ (.int .i64 i1)).setCell ⟨w.heap.size+1,2,none⟩ (.int .i64 i2)).setCell ⟨w.heap.size+1,3,none⟩ (.int .i64 i3)).setCell ⟨w.heap.size+1,4,none⟩ (.float .f32 r0))).heap[w.heap.size+1]?=_ at e5
 generalize World.drew (((((W0.setCell ⟨w.heap.size+1,0,none⟩ (.int .i64 i0)).setCell ⟨w.heap.size+1,1,none⟩ (.int .i64 i1)).setCell ⟨w.heap.size+1,2,none⟩ (.int .i64 i2)).setCell ⟨w.heap.size+1,3,none⟩ (.int .i64 i3)).setCell ⟨w.heap.size+1,4,none⟩ (.float .f32 r0))=W5 at *
 have z0:W5.cell? ⟨w.heap.size+1,0,none⟩=some (.int .i64 i0):=cell_of_row W5 _ 0 _ _ _ e5
 have z1:W5.cell? ⟨w.heap.size+1,1,none⟩=some (.int .i64 i1):=cell_of_row W5 _ 1 _ _ _ e5
 have z2:W5.cell? ⟨w.heap.size+1,2,none⟩=some (.int .i64 i2):=cell_of_row W5 _ 2 _ _ _ e5
 have z3:W5.cell? ⟨w.heap.size+1,3,none⟩=some (.int .i64 i3):=cell_of_row W5 _ 3 _ _ _ e5
 have z4:W5.cell? ⟨w.heap.size+1,4,none⟩=some (.float .f32 r0):=cell_of_row W5 _ 4 _ _ _ e5
 have hb:=HB0.out.trans (b5.mono (by omega))
 clear e5 b5 d0 d1 d2 d3 d4 q0 q1 q2 q3 q4 p0 p1 p2 p3
 exact bodyPost_ret (v:=.agg #[.int .i64 i0,.int .i64 i1,.int .i64 i2,.int .i64 i3,.float .f32 r0]) (by simp [results,Tryz.results57,go_sem, *]) rfl ⟨rfl,hb⟩
set_option maxRecDepth 100000 in
set_option maxHeartbeats 1000000 in
theorem mk_fault (s:ByteArray) (ia:Option Addr) (nin cin b o cI rb ro nR cR:Nat) (i0 i1 i2 i3:Int) (r0:Nat) (l:List Nat) (w:World)
  (hI:ZRow w (some ⟨b,o,none⟩) [i0,i1,i2,i3]) (hR:SRow w (some ⟨rb,ro,none⟩) l) (hl:l=r0 :: l.drop 1) (hn:nR=l.length) :
  Calls Tryz.prog 59 #[ndV s ia nin cin (some ⟨b,o,none⟩) 4 cI (some ⟨rb,ro,none⟩) nR cR] w fun e w'=>e=.returned (.agg #[.int .i64 i0,.int .i64 i1,.int .i64 i2,.int .i64 i3,.float .f32 r0])∧Below w.heap.size w w':=by
 have hlen:0<l.length:=by rw [hl];simp
 have g0:l.getD 0 0=r0:=by rw [hl];rfl
 have hnr:0<nR:=by omega
 have hnr0:0<nR:=by omega
 have HN:=Lib.hid hn
 clear hl hn
 go_enter Tryz.func59,Tryz.ntmps59
 go_upto_region 1 with fail
 generalize hW0:(w.alloc (.cells #[.string s,.slice ia nin cin,.slice (some ⟨b,o,none⟩) 4 cI,.slice (some ⟨rb,ro,none⟩) nR cR] 61)).alloc (.cells #[.int .i64 0,.int .i64 0,.int .i64 0,.int .i64 0,.float .f32 0] 96)=W0
 have A0:NdAt W0 w.heap.size s ia nin cin (some ⟨b,o,none⟩) 4 cI (some ⟨rb,ro,none⟩) nR cR:=by
  exact qx36
 have bk:W0.heap[w.heap.size+1]?=some (.cells #[.int .i64 0,.int .i64 0,.int .i64 0,.int .i64 0,.float .f32 0] 96 (0,0)):=by
  subst hW0
  have:=heap_alloc_new (w.alloc (.cells #[.string s,.slice ia nin cin,.slice (some ⟨b,o,none⟩) 4 cI,.slice (some ⟨rb,ro,none⟩) nR cR] 61)) (.cells #[.int .i64 0,.int .i64 0,.int .i64 0,.int .i64 0,.float .f32 0] 96)
  simpa using this
 have b0:Below w.heap.size w W0:=by subst hW0;exact qBl
 have HB0:=Lib.hid b0
 have hI0:=hI.below b0
 have hR0:=hR.below b0
 have x0:W0.cell? ⟨b,o,none⟩=some (.int .i64 i0):=hI0.at_ 0 (by simp)
 have x1:W0.cell? ⟨b,o+1,none⟩=some (.int .i64 i1):=hI0.at_ 1 (by simp)
 have x2:W0.cell? ⟨b,o+2,none⟩=some (.int .i64 i2):=hI0.at_ 2 (by simp)
 have x3:W0.cell? ⟨b,o+3,none⟩=some (.int .i64 i3):=hI0.at_ 3 (by simp)
 have y0:W0.cell? ⟨rb,ro,none⟩=some (.float .f32 r0):=by have:=hR0.cell1 0 (by omega);rw [g0] at this;exact this
 have lb:b<W0.heap.size:=hI0.lt (by simp)
 have lrb:rb<W0.heap.size:=hR0.lt1 (by omega)
 have l0:w.heap.size<W0.heap.size:=A0.lt
 have l1:w.heap.size+1<W0.heap.size:=by subst hW0;simp
 obtain ⟨p0,p1,p2,p3⟩:=A0.cells
 clear b0 hI0 hR0 hI hR hW0 A0 hlen
 clear g0
 have q0:W0.frozen? ⟨w.heap.size+1,0,none⟩=false:=frozen_of_row W0 _ 0 _ _ bk
 have d0:W0.cell? ⟨w.heap.size+1,0,none⟩=some (.int .i64 0):=cell_of_row W0 _ 0 _ _ _ bk
 have q1:W0.frozen? ⟨w.heap.size+1,1,none⟩=false:=frozen_of_row W0 _ 1 _ _ bk
 have d1:W0.cell? ⟨w.heap.size+1,1,none⟩=some (.int .i64 0):=cell_of_row W0 _ 1 _ _ _ bk
 have q2:W0.frozen? ⟨w.heap.size+1,2,none⟩=false:=frozen_of_row W0 _ 2 _ _ bk
 have d2:W0.cell? ⟨w.heap.size+1,2,none⟩=some (.int .i64 0):=cell_of_row W0 _ 2 _ _ _ bk
 have q3:W0.frozen? ⟨w.heap.size+1,3,none⟩=false:=frozen_of_row W0 _ 3 _ _ bk
 have d3:W0.cell? ⟨w.heap.size+1,3,none⟩=some (.int .i64 0):=cell_of_row W0 _ 3 _ _ _ bk
 have q4:W0.frozen? ⟨w.heap.size+1,4,none⟩=false:=frozen_of_row W0 _ 4 _ _ bk
 have d4:W0.cell? ⟨w.heap.size+1,4,none⟩=some (.float .f32 0):=cell_of_row W0 _ 4 _ _ _ bk
 have HK:=Lib.hid bk
 clear bk
 go_still_tail 21,(by kernel_rfl)
 change wpList _ _ _ _ _ W0.drew
 go_wp2_with fail
 obtain ⟨e5,b5⟩:=st_5 (W:=W0) HK.out (.int .i64 i0) (.int .i64 i1) (.int .i64 i2) (.int .i64 i3) (.float .f32 r0) _ rfl
 have b5:=b5.drew
 change (World.drew (((((W0.setCell ⟨w.heap.size+1,0,none⟩ (.int .i64 i0)).setCell ⟨w.heap.size+1,1,none⟩ (.int .i64 i1)).setCell ⟨w.heap.size+1,2,none⟩ (.int .i64 i2)).setCell ⟨w.heap.size+1,3,none⟩ (.int .i64 i3)).setCell ⟨w.heap.size+1,4,none⟩ (.float .f32 r0))).heap[w.heap.size+1]?=_ at e5
 generalize World.drew (((((W0.setCell ⟨w.heap.size+1,0,none⟩ (.int .i64 i0)).setCell ⟨w.heap.size+1,1,none⟩ (.int .i64 i1)).setCell ⟨w.heap.size+1,2,none⟩ (.int .i64 i2)).setCell ⟨w.heap.size+1,3,none⟩ (.int .i64 i3)).setCell ⟨w.heap.size+1,4,none⟩ (.float .f32 r0))=W5 at *
 have z0:W5.cell? ⟨w.heap.size+1,0,none⟩=some (.int .i64 i0):=cell_of_row W5 _ 0 _ _ _ e5
 have z1:W5.cell? ⟨w.heap.size+1,1,none⟩=some (.int .i64 i1):=cell_of_row W5 _ 1 _ _ _ e5
 have z2:W5.cell? ⟨w.heap.size+1,2,none⟩=some (.int .i64 i2):=cell_of_row W5 _ 2 _ _ _ e5
 have z3:W5.cell? ⟨w.heap.size+1,3,none⟩=some (.int .i64 i3):=cell_of_row W5 _ 3 _ _ _ e5
 have z4:W5.cell? ⟨w.heap.size+1,4,none⟩=some (.float .f32 r0):=cell_of_row W5 _ 4 _ _ _ e5
 have hb:=HB0.out.trans (b5.mono (by omega))
 clear e5 b5 d0 d1 d2 d3 d4 q0 q1 q2 q3 q4 p0 p1 p2 p3
 exact bodyPost_ret (v:=.agg #[.int .i64 i0,.int .i64 i1,.int .i64 i2,.int .i64 i3,.float .f32 r0]) (by simp [results,Tryz.results59,go_sem, *]) rfl ⟨rfl,hb⟩
set_option maxRecDepth 100000 in
set_option maxHeartbeats 1000000 in
theorem mk_fold (s:ByteArray) (ia:Option Addr) (nin cin b o cI rb ro nR cR:Nat) (i0 i1 i2:Int) (r0:Nat) (l:List Nat) (w:World)
  (hI:ZRow w (some ⟨b,o,none⟩) [i0,i1,i2]) (hR:SRow w (some ⟨rb,ro,none⟩) l) (hl:l=r0 :: l.drop 1) (hn:nR=l.length) :
  Calls Tryz.prog 61 #[ndV s ia nin cin (some ⟨b,o,none⟩) 3 cI (some ⟨rb,ro,none⟩) nR cR] w fun e w'=>e=.returned (.agg #[.int .i64 i0,.int .i64 i1,.int .i64 i2,.float .f32 r0])∧Below w.heap.size w w':=by
 have hlen:0<l.length:=by rw [hl];simp
 have g0:l.getD 0 0=r0:=by rw [hl];rfl
 have hnr:0<nR:=by omega
 have hnr0:0<nR:=by omega
 have HN:=Lib.hid hn
 clear hl hn
 go_enter Tryz.func61,Tryz.ntmps61
 go_upto_region 1 with fail
 generalize hW0:(w.alloc (.cells #[.string s,.slice ia nin cin,.slice (some ⟨b,o,none⟩) 3 cI,.slice (some ⟨rb,ro,none⟩) nR cR] 61)).alloc (.cells #[.int .i64 0,.int .i64 0,.int .i64 0,.float .f32 0] 100)=W0
 have A0:NdAt W0 w.heap.size s ia nin cin (some ⟨b,o,none⟩) 3 cI (some ⟨rb,ro,none⟩) nR cR:=by
  exact qx36
 have bk:W0.heap[w.heap.size+1]?=some (.cells #[.int .i64 0,.int .i64 0,.int .i64 0,.float .f32 0] 100 (0,0)):=by
  subst hW0
  have:=heap_alloc_new (w.alloc (.cells #[.string s,.slice ia nin cin,.slice (some ⟨b,o,none⟩) 3 cI,.slice (some ⟨rb,ro,none⟩) nR cR] 61)) (.cells #[.int .i64 0,.int .i64 0,.int .i64 0,.float .f32 0] 100)
  simpa using this
 have b0:Below w.heap.size w W0:=by subst hW0;exact qBl
 have HB0:=Lib.hid b0
 have hI0:=hI.below b0
 have hR0:=hR.below b0
 have x0:W0.cell? ⟨b,o,none⟩=some (.int .i64 i0):=hI0.at_ 0 (by simp)
 have x1:W0.cell? ⟨b,o+1,none⟩=some (.int .i64 i1):=hI0.at_ 1 (by simp)
 have x2:W0.cell? ⟨b,o+2,none⟩=some (.int .i64 i2):=hI0.at_ 2 (by simp)
 have y0:W0.cell? ⟨rb,ro,none⟩=some (.float .f32 r0):=by have:=hR0.cell1 0 (by omega);rw [g0] at this;exact this
 have lb:b<W0.heap.size:=hI0.lt (by simp)
 have lrb:rb<W0.heap.size:=hR0.lt1 (by omega)
 have l0:w.heap.size<W0.heap.size:=A0.lt
 have l1:w.heap.size+1<W0.heap.size:=by subst hW0;simp
 obtain ⟨p0,p1,p2,p3⟩:=A0.cells
 clear b0 hI0 hR0 hI hR hW0 A0 hlen
 clear g0
 have q0:W0.frozen? ⟨w.heap.size+1,0,none⟩=false:=frozen_of_row W0 _ 0 _ _ bk
 have d0:W0.cell? ⟨w.heap.size+1,0,none⟩=some (.int .i64 0):=cell_of_row W0 _ 0 _ _ _ bk
 have q1:W0.frozen? ⟨w.heap.size+1,1,none⟩=false:=frozen_of_row W0 _ 1 _ _ bk
 have d1:W0.cell? ⟨w.heap.size+1,1,none⟩=some (.int .i64 0):=cell_of_row W0 _ 1 _ _ _ bk
 have q2:W0.frozen? ⟨w.heap.size+1,2,none⟩=false:=frozen_of_row W0 _ 2 _ _ bk
 have d2:W0.cell? ⟨w.heap.size+1,2,none⟩=some (.int .i64 0):=cell_of_row W0 _ 2 _ _ _ bk
 have q3:W0.frozen? ⟨w.heap.size+1,3,none⟩=false:=frozen_of_row W0 _ 3 _ _ bk
 have d3:W0.cell? ⟨w.heap.size+1,3,none⟩=some (.float .f32 0):=cell_of_row W0 _ 3 _ _ _ bk
 have HK:=Lib.hid bk
 clear bk
 go_still_tail 17,(by kernel_rfl)
 change wpList _ _ _ _ _ W0.drew
 go_wp2_with fail
 obtain ⟨e5,b5⟩:=st_4 (W:=W0) HK.out (.int .i64 i0) (.int .i64 i1) (.int .i64 i2) (.float .f32 r0) _ rfl
 have b5:=b5.drew
 change (World.drew ((((W0.setCell ⟨w.heap.size+1,0,none⟩ (.int .i64 i0)).setCell ⟨w.heap.size+1,1,none⟩ (.int .i64 i1)).setCell ⟨w.heap.size+1,2,none⟩ (.int .i64 i2)).setCell ⟨w.heap.size+1,3,none⟩ (.float .f32 r0))).heap[w.heap.size+1]?=_ at e5
 generalize World.drew ((((W0.setCell ⟨w.heap.size+1,0,none⟩ (.int .i64 i0)).setCell ⟨w.heap.size+1,1,none⟩ (.int .i64 i1)).setCell ⟨w.heap.size+1,2,none⟩ (.int .i64 i2)).setCell ⟨w.heap.size+1,3,none⟩ (.float .f32 r0))=W5 at *
 have z0:W5.cell? ⟨w.heap.size+1,0,none⟩=some (.int .i64 i0):=cell_of_row W5 _ 0 _ _ _ e5
 have z1:W5.cell? ⟨w.heap.size+1,1,none⟩=some (.int .i64 i1):=cell_of_row W5 _ 1 _ _ _ e5
 have z2:W5.cell? ⟨w.heap.size+1,2,none⟩=some (.int .i64 i2):=cell_of_row W5 _ 2 _ _ _ e5
 have z3:W5.cell? ⟨w.heap.size+1,3,none⟩=some (.float .f32 r0):=cell_of_row W5 _ 3 _ _ _ e5
 have hb:=HB0.out.trans (b5.mono (by omega))
 clear e5 b5 d0 d1 d2 d3 q0 q1 q2 q3 p0 p1 p2 p3
 exact bodyPost_ret (v:=.agg #[.int .i64 i0,.int .i64 i1,.int .i64 i2,.float .f32 r0]) (by simp [results,Tryz.results61,go_sem, *]) rfl ⟨rfl,hb⟩
set_option maxRecDepth 100000 in
set_option maxHeartbeats 1000000 in
theorem mk_wear (s:ByteArray) (ia:Option Addr) (nin cin b o cI rb ro nR cR:Nat) (i0:Int) (r0 r1:Nat) (l:List Nat) (w:World)
  (hI:ZRow w (some ⟨b,o,none⟩) [i0]) (hR:SRow w (some ⟨rb,ro,none⟩) l) (hl:l=r0 :: r1 :: l.drop 2) (hn:nR=l.length) :
  Calls Tryz.prog 63 #[ndV s ia nin cin (some ⟨b,o,none⟩) 1 cI (some ⟨rb,ro,none⟩) nR cR] w fun e w'=>e=.returned (.agg #[.float .f32 r0,.float .f32 r1,.int .i64 i0])∧Below w.heap.size w w':=by
 have hlen:1<l.length:=by rw [hl];simp
 have g0:l.getD 0 0=r0:=by rw [hl];rfl
 have g1:l.getD 1 0=r1:=by rw [hl];rfl
 have hnr:1<nR:=by omega
 have hnr0:0<nR:=by omega
 have HN:=Lib.hid hn
 clear hl hn
 go_enter Tryz.func63,Tryz.ntmps63
 go_upto_region 1 with fail
 generalize hW0:(w.alloc (.cells #[.string s,.slice ia nin cin,.slice (some ⟨b,o,none⟩) 1 cI,.slice (some ⟨rb,ro,none⟩) nR cR] 61)).alloc (.cells #[.float .f32 0,.float .f32 0,.int .i64 0] 104)=W0
 have A0:NdAt W0 w.heap.size s ia nin cin (some ⟨b,o,none⟩) 1 cI (some ⟨rb,ro,none⟩) nR cR:=by
  exact qx36
 have bk:W0.heap[w.heap.size+1]?=some (.cells #[.float .f32 0,.float .f32 0,.int .i64 0] 104 (0,0)):=by
  subst hW0
  have:=heap_alloc_new (w.alloc (.cells #[.string s,.slice ia nin cin,.slice (some ⟨b,o,none⟩) 1 cI,.slice (some ⟨rb,ro,none⟩) nR cR] 61)) (.cells #[.float .f32 0,.float .f32 0,.int .i64 0] 104)
  simpa using this
 have b0:Below w.heap.size w W0:=by subst hW0;exact qBl
 have HB0:=Lib.hid b0
 have hI0:=hI.below b0
 have hR0:=hR.below b0
 have hnri:(1:Int)<(nR:Int):=by omega
 have x0:W0.cell? ⟨b,o,none⟩=some (.int .i64 i0):=hI0.at_ 0 (by simp)
 have y0:W0.cell? ⟨rb,ro,none⟩=some (.float .f32 r0):=by have:=hR0.cell1 0 (by omega);rw [g0] at this;exact this
 have y1:W0.cell? ⟨rb,ro+1,none⟩=some (.float .f32 r1):=by have:=hR0.cell1 1 (by omega);rw [g1] at this;exact this
 have lb:b<W0.heap.size:=hI0.lt (by simp)
 have lrb:rb<W0.heap.size:=hR0.lt1 (by omega)
 have l0:w.heap.size<W0.heap.size:=A0.lt
 have l1:w.heap.size+1<W0.heap.size:=by subst hW0;simp
 obtain ⟨p0,p1,p2,p3⟩:=A0.cells
 clear b0 hI0 hR0 hI hR hW0 A0 hlen
 clear g0
 clear g1
 have q0:W0.frozen? ⟨w.heap.size+1,0,none⟩=false:=frozen_of_row W0 _ 0 _ _ bk
 have d0:W0.cell? ⟨w.heap.size+1,0,none⟩=some (.float .f32 0):=cell_of_row W0 _ 0 _ _ _ bk
 have q1:W0.frozen? ⟨w.heap.size+1,1,none⟩=false:=frozen_of_row W0 _ 1 _ _ bk
 have d1:W0.cell? ⟨w.heap.size+1,1,none⟩=some (.float .f32 0):=cell_of_row W0 _ 1 _ _ _ bk
 have q2:W0.frozen? ⟨w.heap.size+1,2,none⟩=false:=frozen_of_row W0 _ 2 _ _ bk
 have d2:W0.cell? ⟨w.heap.size+1,2,none⟩=some (.int .i64 0):=cell_of_row W0 _ 2 _ _ _ bk
 have HK:=Lib.hid bk
 clear bk
 go_still_tail 13,(by kernel_rfl)
 change wpList _ _ _ _ _ W0.drew
 go_wp2_with fail
 obtain ⟨e5,b5⟩:=st_3 (W:=W0) HK.out (.float .f32 r0) (.float .f32 r1) (.int .i64 i0) _ rfl
 have b5:=b5.drew
 change (World.drew (((W0.setCell ⟨w.heap.size+1,0,none⟩ (.float .f32 r0)).setCell ⟨w.heap.size+1,1,none⟩ (.float .f32 r1)).setCell ⟨w.heap.size+1,2,none⟩ (.int .i64 i0))).heap[w.heap.size+1]?=_ at e5
 generalize World.drew (((W0.setCell ⟨w.heap.size+1,0,none⟩ (.float .f32 r0)).setCell ⟨w.heap.size+1,1,none⟩ (.float .f32 r1)).setCell ⟨w.heap.size+1,2,none⟩ (.int .i64 i0))=W5 at *
 have z0:W5.cell? ⟨w.heap.size+1,0,none⟩=some (.float .f32 r0):=cell_of_row W5 _ 0 _ _ _ e5
 have z1:W5.cell? ⟨w.heap.size+1,1,none⟩=some (.float .f32 r1):=cell_of_row W5 _ 1 _ _ _ e5
 have z2:W5.cell? ⟨w.heap.size+1,2,none⟩=some (.int .i64 i0):=cell_of_row W5 _ 2 _ _ _ e5
 have hb:=HB0.out.trans (b5.mono (by omega))
 clear e5 b5 d0 d1 d2 q0 q1 q2 p0 p1 p2 p3
 exact bodyPost_ret (v:=.agg #[.float .f32 r0,.float .f32 r1,.int .i64 i0]) (by simp [results,Tryz.results63,go_sem, *]) rfl ⟨rfl,hb⟩
end Go.Proofs.YtmggflgdoioajaaGreat
namespace Ieee
namespace Format
open Go
theorem mid_le {f:Format} {v:Rat} {a:Nat}:2*v≤f.rv a+f.rv (a+1) ↔ v≤((2*f.rmag a+1:Nat):Rat)*P2 (f.rplace a-1):=by
 rw [mid_form];constructor<;>intro h<;>grind
theorem mid_lt {f:Format} {v:Rat} {a:Nat}:2*v<f.rv a+f.rv (a+1) ↔ v<((2*f.rmag a+1:Nat):Rat)*P2 (f.rplace a-1):=by
 rw [mid_form];constructor<;>intro h<;>grind
theorem mid_ge {f:Format} {v:Rat} {a:Nat}:f.rv a+f.rv (a+1)≤2*v ↔ ((2*f.rmag a+1:Nat):Rat)*P2 (f.rplace a-1)≤v:=by
 rw [mid_form];constructor<;>intro h<;>grind
theorem mid_gt {f:Format} {v:Rat} {a:Nat}:f.rv a+f.rv (a+1)<2*v ↔ ((2*f.rmag a+1:Nat):Rat)*P2 (f.rplace a-1)<v:=by
 rw [mid_form];constructor<;>intro h<;>grind
def Alike (v w:Rat) (p:Int):Prop:=∀ z:Nat,(w≤(z:Rat)*P2 p→v≤(z:Rat)*P2 p)∧(w<(z:Rat)*P2 p→v<(z:Rat)*P2 p)∧((z:Rat)*P2 p≤w→(z:Rat)*P2 p≤v)∧((z:Rat)*P2 p<w→(z:Rat)*P2 p<v)
theorem alike_between {v w:Rat} {q:Nat} {p:Int} (h1:(q:Rat)*P2 p<v) (h2:v<((q+1:Nat):Rat)*P2 p) (h3:(q:Rat)*P2 p<w) (h4:w<((q+1:Nat):Rat)*P2 p):Alike v w p:=by
 intro z
 have hp:=P2_pos p
 by_cases hz:z≤q
 ·have e:(z:Rat)*P2 p≤(q:Rat)*P2 p:=Rat.mul_le_mul_of_nonneg_right (by exact_mod_cast hz) (Rat.le_of_lt hp)
  refine ⟨fun h=>?_,fun h=>?_,fun _=>?_,fun _=>?_⟩<;>grind
 ·have e:((q+1:Nat):Rat)*P2 p≤(z:Rat)*P2 p:=Rat.mul_le_mul_of_nonneg_right (by exact_mod_cast (show q+1≤z by omega)) (Rat.le_of_lt hp)
  refine ⟨fun _=>?_,fun _=>?_,fun h=>?_,fun h=>?_⟩<;>grind
theorem mult_up (m:Nat) {p e:Int} (h:p≤e):∃ z:Nat,(m:Rat)*P2 e=(z:Rat)*P2 p:=by
 refine ⟨m*2 ^ (e-p).toNat,?_⟩
 have:P2 e=P2 ((e-p).toNat:Int)*P2 p:=by rw [←P2_add];congr 1;omega
 rw [this,P2_nat,Rat.natCast_mul];grind
theorem Near.sticky {f:Format} {v w:Rat} {q r:Nat} {p:Int} (hq:2*f.binade≤q) (h1:(q:Rat)*P2 p≤v) (h2:(q:Rat)*P2 p≤w) (ha:Alike v w p) (h:f.Near w r):f.Near v r:=by
 have hp:=P2_pos p
 have hb:((2*f.binade:Nat):Rat)*P2 p≤(q:Rat)*P2 p:=Rat.mul_le_mul_of_nonneg_right (by exact_mod_cast hq) (Rat.le_of_lt hp)
 have key:∀ a,f.rplace a≤p→f.rv (a+1)≤((2*f.binade:Nat):Rat)*P2 p:=by
  intro a hpa
  have e:f.rv (a+1)=((f.rmag a+1:Nat):Rat)*P2 (f.rplace a):=by
   rw [f.rv_succ];unfold rv;rw [Rat.natCast_add];grind
  rw [e]
  have a1:=Rat.mul_le_mul_of_nonneg_right (show ((f.rmag a+1:Nat):Rat)≤((2*f.binade:Nat):Rat) from by exact_mod_cast (show f.rmag a+1≤2*f.binade from f.rmag_lt a)) (Rat.le_of_lt (P2_pos (f.rplace a)))
  have a2:=Rat.mul_le_mul_of_nonneg_left (P2_mono hpa) (show (0:Rat)≤((2*f.binade:Nat):Rat) from Rat.natCast_nonneg)
  exact Rat.le_trans a1 a2
 have hpr:p≤f.rplace r-1:=by
  by_cases hc:f.rplace r≤p
  ·exfalso
   have k:=key r hc
   have u:=h.up
   have l:=f.rv_lt_succ r
   grind
  ·omega
 obtain ⟨z,hz⟩:=mult_up (2*f.rmag r+1) hpr
 obtain ⟨g1,g2,g3⟩:=h
 refine ⟨?_,?_,?_⟩
 ·split at g1
  ·rename_i hr;rw [if_pos hr]
   rw [mid_le,hz] at g1 ⊢
   exact (ha z).1 g1
  ·rename_i hr;rw [if_neg hr]
   rw [mid_lt,hz] at g1 ⊢
   exact (ha z).2.1 g1
 ·rcases g2 with g2|g2
  ·exact .inl g2
  ·by_cases hr0:r=0
   ·exact .inl hr0
   refine .inr ?_
   obtain ⟨r',rfl⟩:∃ r',r=r'+1:=⟨r-1,by omega⟩
   simp only [Nat.add_sub_cancel] at g2 ⊢
   by_cases hc:p≤f.rplace r'-1
   ·obtain ⟨z',hz'⟩:=mult_up (2*f.rmag r'+1) hc
    split at g2
    ·rename_i hr;rw [if_pos hr]
     rw [mid_ge,hz'] at g2 ⊢
     exact (ha z').2.2.1 g2
    ·rename_i hr;rw [if_neg hr]
     rw [mid_gt,hz'] at g2 ⊢
     exact (ha z').2.2.2 g2
   ·have k:=key r' (by omega)
    have l:=f.rv_lt_succ r'
    split<;>grind
 ·have:(0:Rat)≤(q:Rat)*P2 p:=Rat.mul_nonneg Rat.natCast_nonneg (Rat.le_of_lt hp)
  grind
theorem lt_or_eq {a b:Rat} (h:a≤b):a<b∨a=b:=by
 by_cases e:a=b
 ·exact .inr e
 ·exact .inl (by grind)
theorem le_or_le (a b:Rat):a≤b∨b≤a:=Rat.le_total
theorem quot_floor (a n:Nat) (hn:0<n) (p:Int) (v:Rat) (hv:v*(n:Rat)=(a:Rat)*P2 p) :
  ((a / n:Nat):Rat)*P2 p≤v∧v<((a / n+1:Nat):Rat)*P2 p∧(a%n=0→v=((a / n:Nat):Rat)*P2 p)∧(a%n≠0→((a / n:Nat):Rat)*P2 p<v):=by
 have hp:=P2_pos p
 have hn':(0:Rat)<(n:Rat):=by exact_mod_cast hn
 have e:a=n*(a / n)+a%n:=(Nat.div_add_mod a n).symm
 have e':(a:Rat)=(n:Rat)*((a / n:Nat):Rat)+((a%n:Nat):Rat):=by
  rw [←Rat.natCast_mul,←Rat.natCast_add,←e]
 have hm:((a%n:Nat):Rat)<(n:Rat):=by exact_mod_cast Nat.mod_lt a hn
 have hm0:(0:Rat)≤((a%n:Nat):Rat):=Rat.natCast_nonneg
 generalize hme:((a%n:Nat):Rat)=m at *
 have hmn:((a / n+1:Nat):Rat)=((a / n:Nat):Rat)+1:=by rw [Rat.natCast_add];rfl
 rw [hmn]
 generalize hqq:((a / n:Nat):Rat)=q at *
 have hmp:0≤m*P2 p:=Rat.mul_nonneg hm0 (Rat.le_of_lt hp)
 have hmp2:m*P2 p<(n:Rat)*P2 p:=Rat.mul_lt_mul_of_pos_right hm hp
 rw [e'] at hv
 have le:q*P2 p≤v:=mul_le_cancel hn' (by grind)
 refine ⟨le,?_,?_,?_⟩
 ·rcases le_or_le ((q+1)*P2 p) v with h|h
  ·have:=Rat.mul_le_mul_of_nonneg_right h (Rat.le_of_lt hn')
   grind
  ·rcases lt_or_eq h with h|h
   ·exact h
   ·rw [h] at hv;grind
 ·intro h0
  have hm0':m=0:=by rw [←hme,h0];rfl
  subst hm0'
  exact Rat.le_antisymm (mul_le_cancel hn' (by grind)) le
 ·intro h0
  rcases lt_or_eq le with h|h
  ·exact h
  ·exfalso
   have hmp3:0<m:=by rw [←hme];exact_mod_cast (show 0<a%n by omega)
   have:=Rat.mul_pos hmp3 hp
   rw [←h] at hv;grind
theorem binade_two (f:Format):2*f.binade=2 ^ (f.fractionBits+1):=by unfold binade;rw [Nat.pow_succ];omega
theorem div_rounds (f:Format) (hf:1≤f.fractionBits) {x y:Nat} (hx:f.fin x) (hy:f.fin y) (h0:f.V y≠0) :
  ∃ w,f.div x y=some w∧f.Rounds (f.V x / f.V y) (f.sgn x ^^ f.sgn y) w:=by
 unfold div
 rw [f.read_fin hx,f.read_fin hy]
 have hn:f.rmag (f.rung y)≠0:=by
  intro e;apply h0;unfold V rv;rw [e];simp
 have hml:=f.rmag_lt (f.rung x)
 have hvx:sg (f.sgn x ^^ f.sgn y)*(f.V x / f.V y)=((f.rmag (f.rung x):Rat)*P2 (f.rplace (f.rung x))) / ((f.rmag (f.rung y):Rat)*P2 (f.rplace (f.rung y))):=by
  rw [sg_xor]
  have e1:f.V x=sg (f.sgn x)*((f.rmag (f.rung x):Rat)*P2 (f.rplace (f.rung x))):=rfl
  have e2:f.V y=sg (f.sgn y)*((f.rmag (f.rung y):Rat)*P2 (f.rplace (f.rung y))):=rfl
  rw [e2] at h0
  rw [e1,e2]
  generalize (f.rmag (f.rung x):Rat)*P2 (f.rplace (f.rung x))=A at *
  generalize (f.rmag (f.rung y):Rat)*P2 (f.rplace (f.rung y))=B at *
  have hB:B≠0:=by intro e;apply h0;rw [e];simp
  cases f.sgn x<;>cases f.sgn y<;>simp [sg]<;>grind
 unfold Datum.quotient
 simp only [if_neg hn,Option.map_some]
 refine ⟨_,rfl,?_⟩
 generalize f.rmag (f.rung x)=m at *
 generalize f.rmag (f.rung y)=n at *
 generalize f.rplace (f.rung x)=i at *
 generalize f.rplace (f.rung y)=j at *
 obtain ⟨more,hmore⟩:∃ more,more=f.fractionBits+2+n.log2-m.log2:=⟨_,rfl⟩
 rw [←hmore]
 obtain ⟨r,e1,e2⟩:=f.write_number hf (f.sgn x ^^ f.sgn y) (2*(m <<< more / n)+(m <<< more%n != 0).toNat) (i-j-more-1)
 refine ⟨r,e1,?_⟩
 rw [hvx]
 clear hvx e1 h0
 have hn':(0:Rat)<(n:Rat):=by exact_mod_cast (show 0<n by omega)
 have hv:((m:Rat)*P2 i / ((n:Rat)*P2 j))*(n:Rat)=((m <<< more:Nat):Rat)*P2 (i-j-more):=by
  have hj:=P2_pos j
  have hD:(n:Rat)*P2 j≠0:=by have:=Rat.mul_pos hn' hj;intro e;rw [e] at this;exact absurd this (by grind)
  have h1:(m:Rat)*P2 i / ((n:Rat)*P2 j)*((n:Rat)*P2 j)=(m:Rat)*P2 i:=Rat.div_mul_cancel hD
  have h2:((m <<< more:Nat):Rat)*P2 (i-j-more)*P2 j=(m:Rat)*P2 i:=by
   rw [Nat.shiftLeft_eq,Rat.natCast_mul,←P2_nat,Rat.mul_assoc,Rat.mul_assoc,←P2_add,←P2_add];congr 2;omega
  generalize (m:Rat)*P2 i / ((n:Rat)*P2 j)=v at *
  have h3:v*(n:Rat)*P2 j=((m <<< more:Nat):Rat)*P2 (i-j-more)*P2 j:=by rw [h2,←h1];grind
  exact Rat.le_antisymm (mul_le_cancel hj (by rw [h3];exact Rat.le_refl)) (mul_le_cancel hj (by rw [h3];exact Rat.le_refl))
 generalize (m:Rat)*P2 i / ((n:Rat)*P2 j)=v at *
 obtain ⟨p,hp⟩:∃ p,p=i-j-more:=⟨_,rfl⟩
 rw [←hp] at hv e2
 obtain ⟨q1,q2,q3,q4⟩:=quot_floor (m <<< more) n (by omega) p v hv
 have hpp:=P2_double p
 have hp0:=P2_pos (p-1)
 by_cases hr:m <<< more%n=0
 ·rw [q3 hr]
  rw [hr] at e2
  have:((2*(m <<< more / n)+(0 != 0).toNat:Nat):Rat)*P2 (p-1)=((m <<< more / n:Nat):Rat)*P2 p:=by
   simp only [bne_self_eq_false,Bool.toNat_false,Nat.add_zero]
   rw [Rat.natCast_mul,hpp];grind
  rw [this] at e2
  exact e2
 ·have hm0:m≠0:=by
   intro e;apply hr;subst e;simp
  have hb:(m <<< more%n != 0).toNat=1:=by simp [hr]
  rw [hb] at e2
  have hlm:m.log2≤f.fractionBits:=by
   have:m.log2<f.fractionBits+1:=(Nat.log2_lt hm0).2 (by rw [←binade_two];exact hml)
   omega
  have hq:2*f.binade≤m <<< more / n:=by
   rw [binade_two,Nat.le_div_iff_mul_le (by omega),Nat.shiftLeft_eq]
   have g1:n<2 ^ (n.log2+1):=Nat.lt_log2_self
   have g2:2 ^ m.log2≤m:=Nat.log2_self_le hm0
   calc 2 ^ (f.fractionBits+1)*n≤2 ^ (f.fractionBits+1)*2 ^ (n.log2+1):=Nat.mul_le_mul_left _ (by omega)
    _=2 ^ m.log2*2 ^ more:=by rw [←Nat.pow_add,←Nat.pow_add];congr 1;omega
    _≤m*2 ^ more:=Nat.mul_le_mul_right _ g2
  have w1:((m <<< more / n:Nat):Rat)*P2 p<((2*(m <<< more / n)+1:Nat):Rat)*P2 (p-1):=by
   rw [Rat.natCast_add,Rat.natCast_mul,hpp];grind
  have w2:((2*(m <<< more / n)+1:Nat):Rat)*P2 (p-1)<((m <<< more / n+1:Nat):Rat)*P2 p:=by
   rw [Rat.natCast_add,Rat.natCast_mul,Rat.natCast_add,hpp];grind
  exact Near.sticky hq q1 (Rat.le_of_lt w1) (alike_between (q4 hr) q2 w1 w2) e2
end Format
end Ieee
namespace Ieee
namespace Format
open Go
def divF (x y:Nat):Nat:=(single.div x y).getD 0
theorem divF_lt (x y:Nat):divF x y<4294967296:=some_lt fun r h=>single.div_lt h
theorem divF_spec {x y:Nat} (hx:single.fin x) (hy:single.fin y) (h0:single.V y≠0):single.div x y=some (divF x y)∧single.Rounds (single.V x / single.V y) (single.sgn x ^^ single.sgn y) (divF x y):=by
 obtain ⟨w,h1,h2⟩:=div_rounds single single_fb hx hy h0
 have:divF x y=w:=by unfold divF;rw [h1];rfl
 rw [this];exact ⟨h1,h2⟩
theorem bits_div {x y:Nat} (hx:single.fin x) (hy:single.fin y) (h0:single.V y≠0):floatBits .quo .f32 x y=some (divF x y):=(divF_spec hx hy h0).1
theorem div_bound {x y c:Nat} (hx:single.fin x) (hy:single.fin y) (h0:0<single.V y) (fc:single.fin c) (hc:single.sgn c=false)
  (h1:single.V x≤single.V c*single.V y) (h2:-(single.V c*single.V y)≤single.V x):single.fin (divF x y)∧single.V (divF x y)≤single.V c∧-single.V c≤single.V (divF x y):=by
 have hr:=(divF_spec hx hy (by intro e;rw [e] at h0;exact absurd h0 (by grind))).2
 have e:single.V x / single.V y*single.V y=single.V x:=Rat.div_mul_cancel (by grind)
 have:=hr.bound fc hc (mul_le_cancel h0 (by rw [e];exact h1)) (mul_le_cancel h0 (by rw [e];grind))
 exact ⟨this.1,this.2.1,this.2.2.1⟩
theorem div_nonneg {x y:Nat} (hx:single.fin x) (hy:single.fin y) (h0:0<single.V y) (fd:single.fin (divF x y)) (h1:0≤single.V x):0≤single.V (divF x y):=by
 have hr:=(divF_spec hx hy (by intro e;rw [e] at h0;exact absurd h0 (by grind))).2
 have e:single.V x / single.V y*single.V y=single.V x:=Rat.div_mul_cancel (by grind)
 exact hr.nonneg fd (mul_le_cancel h0 (by rw [e];grind))
theorem Bd.div {k j x y:Nat} (hx:Bd k x) (fy:single.fin y) (hy:P2 (-(j:Int))≤single.V y) (hk:k+j≤100):Bd (k+j) (divF x y):=by
 obtain ⟨c,fc,vc,sc⟩:=const_pow (k+j) hk
 have hp:=P2_pos (-(j:Int))
 have e:P2 k=single.V c*P2 (-(j:Int)):=by rw [vc,←P2_add];congr 1;omega
 have m:single.V c*P2 (-(j:Int))≤single.V c*single.V y:=Rat.mul_le_mul_of_nonneg_left hy (by rw [vc];exact Rat.le_of_lt (P2_pos _))
 obtain ⟨h1,h2,h3⟩:=hx
 have:=div_bound h1 fy (by grind) fc sc (by grind) (by grind)
 rw [vc] at this
 exact ⟨this.1,this.2.2,this.2.1⟩
theorem narrow_of {Z w:Nat} (hz:double.fin Z) (hr:single.Rounds (double.V Z) (double.sgn Z) w) (fw:single.fin w):floatToFloatBits .f64 Z .f32=some w:=by
 have hr2:=single.write_rounds single_fb (double.sgn Z) (double.rmag (double.rung Z)) (double.rplace (double.rung Z)) (double.V_read Z).symm
 have he:single.write (.number (double.sgn Z) (double.rmag (double.rung Z)) (double.rplace (double.rung Z)))=w:=hr2.unique hr
 have hd:FloatKind.decode .f64 Z=.number (double.sgn Z) (double.rmag (double.rung Z)) (double.rplace (double.rung Z)):=double.read_fin hz
 have he':FloatKind.encode .f32 (.number (double.sgn Z) (double.rmag (double.rung Z)) (double.rplace (double.rung Z)))=w:=he
 unfold floatToFloatBits
 rw [if_neg (by decide),hd]
 dsimp only
 rw [he']
 have hd2:FloatKind.decode .f32 w=.number _ _ _:=single.read_fin fw
 rw [hd2];rfl
theorem narrow_any {Z:Nat} (hz:double.fin Z) (h1:double.V Z≤P2 100) (h2:-P2 100≤double.V Z) :
  ∃ w,floatToFloatBits .f64 Z .f32=some w∧single.fin w∧single.Rounds (double.V Z) (double.sgn Z) w:=by
 have hr:=single.write_rounds single_fb (double.sgn Z) (double.rmag (double.rung Z)) (double.rplace (double.rung Z)) (double.V_read Z).symm
 have fw:=(hr.bd (Nat.le_refl 100) h1 h2).1
 exact ⟨_,narrow_of hz hr fw,fw,hr⟩
theorem Rounds.self {x:Nat} (hx:single.fin x) (hl:x<4294967296):single.Rounds (single.V x) (single.sgn x) x:=by
 refine ⟨single.rung x,?_,?_⟩
 ·have h:single.rung x<single.infRung:=hx
  rw [Nat.min_eq_left (by omega),single.word_eta (by rw [single_sw];omega)]
 ·unfold V
  rw [←Rat.mul_assoc,sg_sq,Rat.one_mul]
  exact single.near_rv _
theorem f64f32_lt {Z r:Nat} (h:floatToFloatBits .f64 Z .f32=some r):r<4294967296:=by
 unfold floatToFloatBits at h
 rw [if_neg (by decide)] at h
 split at h
 ·cases h
 ·cases h;exact single.write_lt _
 ·split at h
  ·cases h
  ·cases h;exact single.write_lt _
theorem rootFrom_spec (n:Nat):∀ todo root,root*root≤n→n<(root+2 ^ todo)*(root+2 ^ todo) →
  Datum.rootFrom n todo root*Datum.rootFrom n todo root≤n∧n<(Datum.rootFrom n todo root+1)*(Datum.rootFrom n todo root+1)
 | 0,root,h1,h2=>⟨h1,h2⟩
 | todo+1,root,h1,h2=>by
  unfold Datum.rootFrom
  simp only [Nat.shiftLeft_eq,Nat.one_mul]
  split
  ·rename_i h
   refine rootFrom_spec n todo _ h ?_
   rw [Nat.pow_succ] at h2
   rw [show root+2 ^ todo+2 ^ todo=root+2 ^ todo*2 from by omega];exact h2
  ·rename_i h
   exact rootFrom_spec n todo _ h1 (by omega)
theorem whole_root (n:Nat) (hn:n≠0):∀ q,q=Datum.rootFrom n (n.log2 / 2+1) 0→q*q≤n∧n<(q+1)*(q+1):=by
 rintro q rfl
 refine rootFrom_spec n _ 0 (by omega) ?_
 rw [Nat.zero_add,←Nat.pow_add]
 have h:=@Nat.lt_log2_self n
 exact Nat.lt_of_lt_of_le h (Nat.pow_le_pow_right (by omega) (by omega))
theorem double_pow_fin {b:Nat} (h:double.rv b≤P2 128):b<double.infRung:=by
 have d:double.rv (double.infRung-1)=(9007199254740991:Nat)*P2 971:=by
  have:=double.rv_at 2045 9007199254740991 (.inr (by decide)) (by decide)
  rw [show 2045*double.binade+9007199254740991=double.infRung-1 from by decide] at this
  rw [this,double_least];rfl
 have g:P2 128<double.rv (double.infRung-1):=by
  rw [d]
  have:=P2_lt (show (128:Int)<971 by omega)
  have:=P2_pos 971
  have e1:=Rat.mul_le_mul_of_nonneg_right (show ((1:Nat):Rat)≤((9007199254740991:Nat):Rat) from by exact_mod_cast (show 1≤9007199254740991 by omega)) (Rat.le_of_lt this)
  have e2:((1:Nat):Rat)=1:=rfl
  grind
 have:=double.rv_lt_iff.1 (show double.rv b<double.rv (double.infRung-1) by grind)
 have:0<double.infRung:=by decide
 omega
theorem sq_le_cancel {a b:Rat} (ha:0≤a) (hb:0≤b) (h:a*a≤b*b):a≤b:=by
 rcases le_or_le a b with h1|h1
 ·exact h1
 ·rcases lt_or_eq h1 with h2|h2
  ·exfalso
   have e1:=Rat.mul_le_mul_of_nonneg_left h1 hb
   have e2:b*a<a*a:=Rat.mul_lt_mul_of_pos_right h2 (by grind)
   grind
  ·rw [h2];exact Rat.le_refl
structure RootAt (n:Nat) (h:Int) (x v:Rat):Prop where
 big:324518553658426726783156020576256≤n
 at_:x=(n:Rat)*(P2 h*P2 h)
 q:∃ q:Nat,q*q≤n∧n<(q+1)*(q+1)∧(q:Rat)*P2 h≤v∧v<((q+1:Nat):Rat)*P2 h∧(q*q=n→v=(q:Rat)*P2 h)
theorem RootAt.le {n:Nat} {h:Int} {x v:Rat} (hr:RootAt n h x v) (k:Nat) (e:Int) (hk:k≤16777216) (hx:x≤((k:Rat)*P2 e)*((k:Rat)*P2 e)):v≤(k:Rat)*P2 e:=by
 obtain ⟨big,at_,q,q1,q2,q3,q4,q5⟩:=hr
 have hp:=P2_pos h
 have hpp:0<P2 h*P2 h:=Rat.mul_pos hp hp
 by_cases he:h≤e
 ·obtain ⟨z,hz⟩:=mult_up k he
  rw [hz] at hx ⊢
  have n1:(n:Rat)≤((z*z:Nat):Rat):=by
   rw [at_] at hx
   refine mul_le_cancel hpp ?_
   rw [Rat.natCast_mul];grind
  have n2:n≤z*z:=by exact_mod_cast n1
  by_cases hq:q<z
  ·have:=Rat.mul_le_mul_of_nonneg_right (show ((q+1:Nat):Rat)≤(z:Rat) from by exact_mod_cast hq) (Rat.le_of_lt hp)
   grind
  ·have hzq:z*z≤q*q:=Nat.mul_le_mul (by omega) (by omega)
   have e2:q*q=n:=by omega
   have hq2:q≤z:=by
    apply Nat.le_of_not_lt
    intro hc
    have:=Nat.mul_lt_mul_of_lt_of_lt hc hc
    omega
   have:=Rat.mul_le_mul_of_nonneg_right (show (q:Rat)≤(z:Rat) from by exact_mod_cast hq2) (Rat.le_of_lt hp)
   rw [q5 e2];exact this
 ·exfalso
  have c1:=P2_mono (show e≤h by omega)
  have k0:(0:Rat)≤(k:Rat):=Rat.natCast_nonneg
  have a1:=Rat.mul_le_mul_of_nonneg_left c1 k0
  have a2:=Rat.mul_le_mul_of_nonneg_right (show (k:Rat)≤((16777216:Nat):Rat) from by exact_mod_cast hk) (Rat.le_of_lt hp)
  have a0:0≤(k:Rat)*P2 e:=Rat.mul_nonneg k0 (Rat.le_of_lt (P2_pos e))
  have a3:(k:Rat)*P2 e≤((16777216:Nat):Rat)*P2 h:=Rat.le_trans a1 a2
  have a4:=sq_le a0 a3
  have a5:(((16777216:Nat):Rat)*P2 h)*(((16777216:Nat):Rat)*P2 h)=((281474976710656:Nat):Rat)*(P2 h*P2 h):=by
   rw [show (281474976710656:Nat)=16777216*16777216 from rfl,Rat.natCast_mul];grind
  have a6:((281474976710656:Nat):Rat)*(P2 h*P2 h)<(n:Rat)*(P2 h*P2 h):=Rat.mul_lt_mul_of_pos_right (by exact_mod_cast (show 281474976710656<n by omega)) hpp
  grind
theorem RootAt.ge {n:Nat} {h:Int} {x v:Rat} (hr:RootAt n h x v) (k:Nat) (e:Int) (hk:k≤16777216) (hx:((k:Rat)*P2 e)*((k:Rat)*P2 e)≤x):(k:Rat)*P2 e≤v:=by
 obtain ⟨big,at_,q,q1,q2,q3,q4,q5⟩:=hr
 have hp:=P2_pos h
 have hpp:0<P2 h*P2 h:=Rat.mul_pos hp hp
 by_cases he:h≤e
 ·obtain ⟨z,hz⟩:=mult_up k he
  rw [hz] at hx ⊢
  have n1:((z*z:Nat):Rat)≤(n:Rat):=by
   rw [at_] at hx
   refine mul_le_cancel hpp ?_
   rw [Rat.natCast_mul];grind
  have n2:z*z≤n:=by exact_mod_cast n1
  have hq:z≤q:=by
   apply Nat.le_of_not_lt
   intro hc
   have:=Nat.mul_le_mul (show q+1≤z from hc) (show q+1≤z from hc)
   omega
  have:=Rat.mul_le_mul_of_nonneg_right (show (z:Rat)≤(q:Rat) from by exact_mod_cast hq) (Rat.le_of_lt hp)
  grind
 ·have hq:16777216≤q:=by
   apply Nat.le_of_not_lt
   intro hc
   have:=Nat.mul_le_mul (show q+1≤16777216 from hc) (show q+1≤16777216 from hc)
   omega
  have c1:=P2_mono (show e≤h by omega)
  have k0:(0:Rat)≤(k:Rat):=Rat.natCast_nonneg
  have a1:=Rat.mul_le_mul_of_nonneg_left c1 k0
  have a2:=Rat.mul_le_mul_of_nonneg_right (show (k:Rat)≤(q:Rat) from by exact_mod_cast (show k≤q by omega)) (Rat.le_of_lt hp)
  grind
theorem sqrt_spec {X:Nat} (hX:double.fin X) (h0:0≤double.V X) (hb:double.V X≤P2 128) :
  ∃ Z,double.sqrt X=some Z∧double.fin Z∧0≤double.V Z∧double.V Z≤P2 64 ∧
   (∀ a,double.V X≤single.rv a*single.rv a→double.V Z≤single.rv a) ∧
   (∀ a,single.rv a*single.rv a≤double.V X→single.rv a≤double.V Z):=by
 have hml:=double.rmag_lt (double.rung X)
 have hV:=double.V_read X
 unfold sqrt
 rw [double.read_fin hX]
 generalize double.rmag (double.rung X)=m at *
 generalize double.rplace (double.rung X)=i at *
 generalize double.sgn X=s at *
 by_cases hm:m=0
 ·subst hm
  have hV0:double.V X=0:=by rw [hV];simp
  have e:Datum.root (double.fractionBits+2) (.number s 0 i)=some (.number s 0 i):=by unfold Datum.root;simp
  rw [e]
  have hw:double.write (.number s 0 i)=double.word s 0:=by unfold write nearest;simp
  refine ⟨double.word s 0,by rw [←hw];rfl,?_,?_⟩
  ·cases s<;>decide
  ·have z:double.V (double.word s 0)=0:=by
    have:=double.V_word (s:=s) (r:=0) (by decide)
    rw [Nat.zero_min] at this
    rw [this,rv_zero];simp
   rw [z,hV0]
   refine ⟨Rat.le_refl,Rat.le_of_lt (P2_pos 64),fun a _=>single.rv_nonneg a,fun a h=>?_⟩
   exact sq_le_cancel (single.rv_nonneg a) Rat.le_refl (by simpa using h)
 ·have hm0:(0:Rat)<(m:Rat):=by exact_mod_cast (show 0<m by omega)
  have hmp:0<(m:Rat)*P2 i:=Rat.mul_pos hm0 (P2_pos i)
  have hs:s=false:=by
   cases s
   ·rfl
   ·exfalso;rw [hV] at h0;simp [sg] at h0;grind
  subst hs
  have hVm:double.V X=(m:Rat)*P2 i:=by rw [hV];simp [sg]
  unfold Datum.root
  simp only [if_neg hm,Bool.false_eq_true,if_false,Option.map_some]
  obtain ⟨more,hmore⟩:∃ more,more=2*(double.fractionBits+2)-m.log2+((i-((2*(double.fractionBits+2)-m.log2:Nat):Int))%2).toNat:=⟨_,rfl⟩
  rw [←hmore]
  have hfb:double.fractionBits=52:=rfl
  rw [hfb] at hmore
  have hlm:m.log2≤52:=by
   have:m.log2<53:=(Nat.log2_lt hm).2 (by rw [binade_two] at hml;exact hml)
   omega
  have hmore2:108≤m.log2+more:=by omega
  have heven:(i-more)%2=0:=by omega
  obtain ⟨h,hh⟩:∃ h,h=(i-more) / 2:=⟨_,rfl⟩
  have hi:i=h+h+more:=by omega
  rw [←hh]
  have big:324518553658426726783156020576256≤m <<< more:=by
   exact qx58
  have hat:double.V X=((m <<< more:Nat):Rat)*(P2 h*P2 h):=by
   rw [hVm,hi,P2_add,P2_add,Nat.shiftLeft_eq,Rat.natCast_mul,P2_nat];grind
  generalize m <<< more=n at *
  obtain ⟨q1,q2⟩:=whole_root n (by omega) _ rfl
  generalize Datum.rootFrom n (n.log2 / 2+1) 0=q at *
  have hpp:=P2_double h
  have hp0:=P2_pos (h-1)
  have hr:=double.write_rounds double_fb false (2*q+(q*q != n).toNat) (h-1) (x:=((2*q+(q*q != n).toNat:Nat):Rat)*P2 (h-1)) (by simp [sg])
  generalize double.write (.number false (2*q+(q*q != n).toNat) (h-1))=Z at *
  have hRA:RootAt n h (double.V X) (((2*q+(q*q != n).toNat:Nat):Rat)*P2 (h-1)):=by
   refine ⟨big,hat,q,q1,q2,?_,?_,?_⟩
   ·by_cases hc:q*q=n
    ·have t:(q*q != n).toNat=0:=by simp [hc]
     rw [t,Nat.add_zero,Rat.natCast_mul,hpp];grind
    ·have t:(q*q != n).toNat=1:=by simp [hc]
     rw [t,Rat.natCast_add,Rat.natCast_mul,hpp];grind
   ·by_cases hc:q*q=n
    ·have t:(q*q != n).toNat=0:=by simp [hc]
     rw [t,Nat.add_zero,Rat.natCast_mul,Rat.natCast_add,hpp];grind
    ·have t:(q*q != n).toNat=1:=by simp [hc]
     rw [t,Rat.natCast_add,Rat.natCast_mul,Rat.natCast_add,hpp];grind
   ·intro hc
    have t:(q*q != n).toNat=0:=by simp [hc]
    rw [t,Nat.add_zero,Rat.natCast_mul,hpp];grind
  have hv0:0≤((2*q+(q*q != n).toNat:Nat):Rat)*P2 (h-1):=Rat.mul_nonneg Rat.natCast_nonneg (Rat.le_of_lt hp0)
  generalize ((2*q+(q*q != n).toNat:Nat):Rat)*P2 (h-1)=v at *
  obtain ⟨r,rfl,hN⟩:=hr
  have hN':double.Near v r:=by simpa [sg] using hN
  clear hN
  have up:∀ a,double.V X≤single.rv a*single.rv a→∃ b,double.rv b=single.rv a∧r≤b:=by
   intro a ha
   obtain ⟨b,hb⟩:=single_in_double a
   refine ⟨b,hb,hN'.le_of ?_⟩
   rw [hb]
   exact hRA.le (single.rmag a) (single.rplace a) (by have:=single.rmag_lt a;rw [single_binade] at this;omega) ha
  have dn:∀ a,single.rv a*single.rv a≤double.V X→∃ b,double.rv b=single.rv a∧b≤r:=by
   intro a ha
   obtain ⟨b,hb⟩:=single_in_double a
   refine ⟨b,hb,hN'.ge_of ?_⟩
   rw [hb]
   exact hRA.ge (single.rmag a) (single.rplace a) (by have:=single.rmag_lt a;rw [single_binade] at this;omega) ha
  obtain ⟨c,fc,vc,sc⟩:=const_pow 64 (by omega)
  have vc':single.rv (single.rung c)=P2 64:=by rw [V_pos_word sc] at vc;exact vc
  obtain ⟨b,hb1,hb2⟩:=up (single.rung c) (by rw [vc',←P2_add];exact hb)
  have hbl:b<double.infRung:=double_pow_fin (by rw [hb1,vc'];exact P2_mono (by omega))
  have lt:r<double.infRung:=by omega
  have vz:double.V (double.word false (min r double.infRung))=double.rv r:=by rw [double.V_word lt];simp [sg]
  refine ⟨_,rfl,(double.fin_word_iff _ _).2 lt,?_,?_,fun a ha=>?_,fun a ha=>?_⟩
  ·rw [vz];exact double.rv_nonneg r
  ·rw [vz,←vc',←hb1];exact double.rv_mono hb2
  ·obtain ⟨b,hb,hle⟩:=up a ha
   rw [vz,←hb];exact double.rv_mono hle
  ·obtain ⟨b,hb,hle⟩:=dn a ha
   rw [vz,←hb];exact double.rv_mono hle
def rootF (x:Nat):Nat:=((floatToFloatBits .f32 x .f64).bind fun X=>(double.sqrt X).bind fun Z=>floatToFloatBits .f64 Z .f32).getD 0
theorem root_spec {x:Nat} (hx:single.fin x) (h0:0≤single.V x) :
  ∃ X Z,floatToFloatBits .f32 x .f64=some X∧double.sqrt X=some Z∧floatToFloatBits .f64 Z .f32=some (rootF x)∧single.fin (rootF x)∧0≤single.V (rootF x) ∧
   (∀ c,single.fin c→single.sgn c=false→single.V x≤single.V c*single.V c→single.V (rootF x)≤single.V c) ∧
   (∀ c,single.fin c→single.sgn c=false→single.V c*single.V c≤single.V x→single.V c≤single.V (rootF x)):=by
 obtain ⟨X,a1,a2,a3,a4⟩:=widen hx
 have hm:single.V x≤P2 128:=by
  have:=single.rv_mono (Nat.le_of_lt hx)
  rw [rv_inf] at this
  unfold V
  have p:=single.rv_nonneg (single.rung x)
  cases single.sgn x<;>simp [sg]<;>grind
 rw [←a3] at h0 hm
 obtain ⟨Z,b1,b2,b3,b4,b5,b6⟩:=sqrt_spec a2 h0 hm
 have:=P2_mono (show (64:Int)≤100 by omega)
 have:=P2_pos 100
 obtain ⟨w,c1,c2,c3⟩:=narrow_any b2 (by grind) (by grind)
 have e:rootF x=w:=by unfold rootF;rw [a1];simp only [Option.bind_some];rw [b1];simp only [Option.bind_some];rw [c1];rfl
 have hw0:=c3.nonneg c2 b3
 refine ⟨X,Z,a1,b1,by rw [e];exact c1,by rw [e];exact c2,by rw [e];exact hw0,fun c fc sc h=>?_,fun c fc sc h=>?_⟩
 ·rw [e]
  have:=b5 (single.rung c) (by rw [←V_pos_word sc,a3];exact h)
  rw [←V_pos_word sc] at this
  exact (c3.bound fc sc this (by grind)).2.1
 ·rw [e]
  have:=b6 (single.rung c) (by rw [←V_pos_word sc,a3];exact h)
  rw [←V_pos_word sc] at this
  have n:=single.rv_nonneg (single.rung c)
  rw [←V_pos_word sc] at n
  rcases lt_or_eq n with h1|h1
  ·exact c3.ge_const c2 sc h1 this
  ·rw [←h1];exact hw0
theorem rootF_lt (x:Nat):rootF x<4294967296:=by
 unfold rootF
 refine some_lt fun r h=>?_
 obtain ⟨X,_,h⟩:=Option.bind_eq_some_iff.1 h
 obtain ⟨Z,_,h⟩:=Option.bind_eq_some_iff.1 h
 exact f64f32_lt h
end Format
end Ieee
namespace Ieee
namespace Format
open Go
theorem cut_down (neg:Bool) (n drop:Nat):Toward.down.cut neg n drop=n / 2 ^ drop+(neg && n%2 ^ drop != 0).toNat:=by
 unfold Toward.cut
 by_cases h:drop≤n.log2+2
 ·rw [Nat.min_eq_left h,Nat.one_shiftLeft]
 ·have h1:n<2 ^ (n.log2+1):=Nat.lt_log2_self
  have h2:2 ^ (n.log2+2)≤2 ^ drop:=Nat.pow_le_pow_right (by omega) (by omega)
  rw [Nat.min_eq_right (by omega),Nat.one_shiftLeft]
  have e:2 ^ (n.log2+2)=2*2 ^ (n.log2+1):=by rw [Nat.pow_succ];omega
  have a1:n / 2 ^ (n.log2+2)=0:=Nat.div_eq_of_lt (by omega)
  have a2:n%2 ^ (n.log2+2)=n:=Nat.mod_eq_of_lt (by omega)
  have b1:n / 2 ^ drop=0:=Nat.div_eq_of_lt (by omega)
  have b2:n%2 ^ drop=n:=Nat.mod_eq_of_lt (by omega)
  simp only [a1,a2,b1,b2]
def below (s:Bool) (m:Nat) (i:Int):Nat:=Toward.down.cut s (m <<< i.toNat) (-i).toNat
theorem below_spec (s:Bool) (m:Nat) (i:Int):∃ z:Int,sg s*(below s m i:Rat)=(z:Rat)∧(z:Rat)≤sg s*((m:Rat)*P2 i)∧sg s*((m:Rat)*P2 i)<(z:Rat)+1 ∧
  (0≤i→(below s m i:Rat)=(m:Rat)*P2 i)∧(i<0→below s m i≤m / 2+1):=by
 unfold below
 rw [cut_down]
 by_cases hi:0≤i
 ·have e1:(-i).toNat=0:=by omega
  obtain ⟨j,rfl⟩:=Int.eq_ofNat_of_zero_le hi
  rw [e1,Int.toNat_natCast,Nat.pow_zero,Nat.div_one,Nat.mod_one]
  simp only [bne_self_eq_false,Bool.and_false,Bool.toNat_false,Nat.add_zero]
  have e2:((m <<< j:Nat):Rat)=(m:Rat)*P2 j:=by rw [Nat.shiftLeft_eq,Rat.natCast_mul,P2_nat]
  rw [←e2]
  refine ⟨if s then -((m <<< j:Nat):Int) else ((m <<< j:Nat):Int),?_⟩
  have e3:(((m <<< j:Nat):Int):Rat)=((m <<< j:Nat):Rat):=Rat.intCast_natCast _
  have ee:sg s*((m <<< j:Nat):Rat)=((if s then -((m <<< j:Nat):Int) else ((m <<< j:Nat):Int):Int):Rat):=by
   cases s
   ·simp only [sg,Bool.false_eq_true,if_false];rw [e3];grind
   ·simp only [sg,if_true];rw [Rat.intCast_neg,e3];grind
  refine ⟨ee,?_,?_,fun _=>rfl,fun h=>by omega⟩<;>rw [ee]<;>grind
 ·obtain ⟨d,hd⟩:∃ d:Nat,(-i).toNat=d:=⟨_,rfl⟩
  have hi2:i=-(d:Int):=by omega
  have e1:i.toNat=0:=by omega
  rw [e1,hd]
  simp only [Nat.shiftLeft_zero]
  have hv:(m:Rat)*P2 i*((2 ^ d:Nat):Rat)=(m:Rat)*P2 0:=by
   rw [hi2,←P2_nat,Rat.mul_assoc,←P2_add];congr 2;omega
  obtain ⟨q1,q2,q3,q4⟩:=quot_floor m (2 ^ d) (Nat.two_pow_pos d) 0 _ hv
  generalize (m:Rat)*P2 i=v at *
  rw [P2_zero,Rat.mul_one] at *
  have hd1:1≤d:=by omega
  have hdv:m / 2 ^ d≤m / 2:=Nat.div_le_div_left (by have:=Nat.pow_le_pow_right (show 0<2 by omega) hd1;omega) (by omega)
  cases s
  ·simp only [Bool.false_and,Bool.toNat_false,Nat.add_zero]
   refine ⟨((m / 2 ^ d:Nat):Int),?_,?_,?_,fun h=>absurd h hi,fun _=>by omega⟩
   ·rw [Rat.intCast_natCast];simp only [sg,Bool.false_eq_true,if_false];grind
   ·rw [Rat.intCast_natCast];simp only [sg,Bool.false_eq_true,if_false];grind
   ·rw [Rat.intCast_natCast];simp only [sg,Bool.false_eq_true,if_false];rw [Rat.natCast_add] at q2;have:((1:Nat):Rat)=1:=rfl;grind
  ·by_cases hr:m%2 ^ d=0
   ·have q5:=q3 hr
    simp only [hr,Bool.true_and,bne_self_eq_false,Bool.toNat_false,Nat.add_zero]
    refine ⟨-((m / 2 ^ d:Nat):Int),?_,?_,?_,fun h=>absurd h hi,fun _=>by omega⟩
    ·rw [Rat.intCast_neg,Rat.intCast_natCast];simp only [sg,if_true];grind
    ·rw [Rat.intCast_neg,Rat.intCast_natCast];simp only [sg,if_true];grind
    ·rw [Rat.intCast_neg,Rat.intCast_natCast];simp only [sg,if_true];grind
   ·have q5:=q4 hr
    have hb:(true && m%2 ^ d != 0).toNat=1:=by simp [hr]
    rw [hb]
    refine ⟨-((m / 2 ^ d+1:Nat):Int),?_,?_,?_,fun h=>absurd h hi,fun _=>by omega⟩
    ·rw [Rat.intCast_neg,Rat.intCast_natCast];simp only [sg,if_true];grind
    ·rw [Rat.intCast_neg,Rat.intCast_natCast];simp only [sg,if_true];grind
    ·rw [Rat.intCast_neg,Rat.intCast_natCast];simp only [sg,if_true];rw [Rat.natCast_add];have:((1:Nat):Rat)=1:=rfl;grind
theorem P2_128_lt {x:Nat} (hx:single.fin x):single.rv (single.rung x)<P2 128:=by
 rw [←rv_inf];exact single.rv_lt hx
theorem whole_23 {z:Int} (h1:(z:Rat)≤P2 23) (h2:-P2 23-1<(z:Rat)):z≤8388608∧-8388609<z:=by
 have e23:P2 23=((8388608:Int):Rat):=P2_nat 23
 constructor
 ·rw [e23] at h1;exact Rat.intCast_le_intCast.1 h1
 ·have e:-P2 23-1=((-8388609:Int):Rat):=by
   rw [e23,←Rat.intCast_neg,show (1:Rat)=((1:Int):Rat) from rfl,←Rat.intCast_sub];rfl
  rw [e] at h2
  exact Rat.intCast_lt_intCast.1 h2
def floorF (x:Nat):Nat:=((floatToFloatBits .f32 x .f64).bind fun X=>floatToFloatBits .f64 (double.write ((double.read X).integral .down)) .f32).getD 0
theorem floor_spec {x:Nat} (hx:single.fin x) (hl:x<4294967296) :
  ∃ X s m i,floatToFloatBits .f32 x .f64=some X∧FloatKind.decode .f64 X=.number s m i∧floatToFloatBits .f64 (FloatKind.encode .f64 (Datum.integral .down (.number s m i))) .f32=some (floorF x) ∧
   single.fin (floorF x)∧single.sgn (floorF x)=single.sgn x∧∃ z:Int,single.V (floorF x)=(z:Rat)∧(z:Rat)≤single.V x∧single.V x<(z:Rat)+1:=by
 obtain ⟨X,a1,a2,a3,a4⟩:=widen hx
 have hml:=double.rmag_lt (double.rung X)
 have hrd:=double.read_fin a2
 have hV:=double.V_read X
 have hfl:floorF x=(floatToFloatBits .f64 (double.write ((double.read X).integral .down)) .f32).getD 0:=by unfold floorF;rw [a1];rfl
 refine ⟨X,_,_,_,a1,hrd,?_⟩
 rw [hrd] at hfl
 rw [a4] at hV hfl ⊢
 rw [a3] at hV
 have hrl:-1074≤double.rplace (double.rung X):=by have:=double.least_le (double.rung X);rw [double_least] at this;exact this
 generalize double.rmag (double.rung X)=m at *
 generalize double.rplace (double.rung X)=i at *
 obtain ⟨z,b1,b2,b3,b4,b5⟩:=below_spec (single.sgn x) m i
 have hint:Datum.integral .down (.number (single.sgn x) m i)=.number (single.sgn x) (below (single.sgn x) m i) 0:=rfl
 rw [hint] at hfl ⊢
 rw [←hV] at b2 b3
 generalize below (single.sgn x) m i=c at *
 have hvx:=P2_128_lt hx
 have hvx0:=single.rv_nonneg (single.rung x)
 have hvd:single.V x=sg (single.sgn x)*single.rv (single.rung x):=rfl
 have hc0:(0:Rat)≤(c:Rat):=Rat.natCast_nonneg
 have hcP:(c:Rat)≤P2 128:=by
  by_cases hi:0≤i
  ·rw [b4 hi]
   have:(m:Rat)*P2 i=single.rv (single.rung x):=by
    rw [hvd] at hV
    cases hs:single.sgn x<;>rw [hs] at hV<;>simp [sg] at hV<;>grind
   rw [this];exact Rat.le_of_lt hvx
  ·have h1:=b5 (by omega)
   rw [double_binade] at hml
   have:(c:Rat)≤((2 ^ 128:Nat):Rat):=by exact_mod_cast (show c≤2 ^ 128 by omega)
   rw [←P2_nat] at this;exact this
 obtain ⟨b,hb⟩:∃ b,double.rv b=(c:Rat)*P2 0:=by
  by_cases hi:0≤i
  ·obtain ⟨b,hb⟩:=double.rep' (m:=m) (p:=i) hml (by rw [double_least];omega)
   exact ⟨b,by rw [hb,P2_zero,Rat.mul_one,b4 hi]⟩
  ·have h1:=b5 (by omega)
   exact double.rep' (m:=c) (p:=0) (by rw [double_binade] at hml ⊢;omega) (by rw [double_least];omega)
 obtain ⟨r,e1,e2⟩:=double.write_number double_fb (single.sgn x) c 0
 rw [←hb] at e2
 obtain rfl:=e2.eq_of
 have lt:r<double.infRung:=double_pow_fin (by rw [hb,P2_zero,Rat.mul_one];exact hcP)
 have hZf:double.fin (double.word (single.sgn x) (min r double.infRung)):=(double.fin_word_iff _ _).2 lt
 have hZv:double.V (double.word (single.sgn x) (min r double.infRung))=(z:Rat):=by rw [double.V_word lt,hb,P2_zero,Rat.mul_one,b1]
 have hZs:double.sgn (double.word (single.sgn x) (min r double.infRung))=single.sgn x:=double.sgn_word _ (double.min_lt_sw r)
 have he:FloatKind.encode .f64 (.number (single.sgn x) c 0)=double.word (single.sgn x) (min r double.infRung):=e1
 rw [he]
 rw [e1] at hfl
 generalize double.word (single.sgn x) (min r double.infRung)=Z at *
 have key:∃ w,floatToFloatBits .f64 Z .f32=some w∧single.fin w∧single.V w=(z:Rat)∧single.sgn w=single.sgn x:=by
  by_cases hp:0≤single.rplace (single.rung x)
  ·-- whole already
   have hz:(z:Rat)=single.V x:=by
    obtain ⟨k,hk⟩:∃ k:Int,single.V x=(k:Rat):=by
     obtain ⟨q,hq⟩:=mult_up (single.rmag (single.rung x)) hp
     refine ⟨if single.sgn x then -(q:Int) else (q:Int),?_⟩
     have:single.rv (single.rung x)=(q:Rat):=by
      show (single.rmag (single.rung x):Rat)*P2 (single.rplace (single.rung x))=_
      rw [hq,P2_zero,Rat.mul_one]
     rw [hvd,this]
     cases single.sgn x
     ·simp only [sg,Bool.false_eq_true,if_false];rw [Rat.intCast_natCast];grind
     ·simp only [sg,if_true];rw [Rat.intCast_neg,Rat.intCast_natCast];grind
    rw [hk] at b2 b3 ⊢
    have h1:z≤k:=by exact_mod_cast b2
    have h2:k<z+1:=by
     have:(k:Rat)<((z+1:Int):Rat):=by rw [Rat.intCast_add];exact b3
     exact_mod_cast this
    have:z=k:=by omega
    rw [this]
   refine ⟨x,narrow_of hZf ?_ hx,hx,hz.symm,rfl⟩
   rw [hZv,hZs,hz]
   exact Rounds.self hx hl
  ·have hsm:=single.rmag_lt (single.rung x)
   rw [single_binade] at hsm
   have hle:single.rv (single.rung x)≤P2 23:=by
    show (single.rmag (single.rung x):Rat)*P2 (single.rplace (single.rung x))≤_
    have a1:=P2_mono (show single.rplace (single.rung x)≤-1 by omega)
    have a2:=Rat.mul_le_mul_of_nonneg_left a1 (show (0:Rat)≤(single.rmag (single.rung x):Rat) from Rat.natCast_nonneg)
    have a3:=Rat.mul_le_mul_of_nonneg_right (show (single.rmag (single.rung x):Rat)≤((2 ^ 24:Nat):Rat) from by exact_mod_cast (show single.rmag (single.rung x)≤2 ^ 24 by omega)) (Rat.le_of_lt (P2_pos (-1)))
    have a4:((2 ^ 24:Nat):Rat)*P2 (-1)=P2 23:=by rw [←P2_nat,←P2_add];rfl
    grind
   have hz1:(z:Rat)≤P2 23∧-P2 23-1<(z:Rat):=by
    rw [hvd] at b2 b3
    generalize P2 23=p at *
    cases hs:single.sgn x<;>rw [hs] at b2 b3<;>simp only [sg,if_true,Bool.false_eq_true,if_false] at b2 b3<;>constructor<;>grind
   obtain ⟨hz2,hz3⟩:=whole_23 hz1.1 hz1.2
   have hr:=single.write_rounds single_fb (double.sgn Z) (double.rmag (double.rung Z)) (double.rplace (double.rung Z)) (double.V_read Z).symm
   have:=hr.exact z 0 (by omega) (by omega) (by decide) (by decide) (by rw [hZv,P2_zero,Rat.mul_one])
   exact ⟨_,narrow_of hZf hr this.1,this.1,by rw [this.2.1,hZv],by rw [this.2.2,hZs]⟩
 obtain ⟨w,w1,w2,w3,w4⟩:=key
 rw [w1] at hfl
 have hfl':floorF x=w:=hfl
 rw [hfl']
 exact ⟨w1,w2,w4,z,w3,b2,b3⟩
end Format
end Ieee
namespace Ieee
namespace Format
open Go
def negF (x:Nat):Nat:=x ^^^ 2147483648
theorem negF_parts {x:Nat} (h:x<4294967296):single.rung (negF x)=single.rung x∧single.sgn (negF x)=!single.sgn x∧negF x<4294967296:=by
 have a1:negF x%2147483648=x%2147483648:=by
  have:=Nat.xor_mod_two_pow (a:=x) (b:=2147483648) (n:=31)
  rw [show (2 ^ 31:Nat)=2147483648 from rfl,Nat.mod_self,Nat.xor_zero] at this
  exact this
 have a2:negF x / 2147483648=x / 2147483648 ^^^ 1:=by
  have:=Nat.xor_div_two_pow (a:=x) (b:=2147483648) (n:=31)
  rw [show (2 ^ 31:Nat)=2147483648 from rfl,show (2147483648 / 2147483648:Nat)=1 from rfl] at this
  exact this
 have hq:x / 2147483648=0∨x / 2147483648=1:=by omega
 refine ⟨?_,?_,?_⟩
 ·rw [rung_lit,rung_lit,a1]
 ·rw [sgn_lit,sgn_lit,a2]
  rcases hq with h|h<;>rw [h]<;>rfl
 ·rcases hq with h|h<;>rw [h] at a2
  ·have:negF x / 2147483648=1:=a2
   omega
  ·have:negF x / 2147483648=0:=a2
   omega
theorem negF_V {x:Nat} (h:x<4294967296):single.V (negF x)=-single.V x:=by
 obtain ⟨a,b,_⟩:=negF_parts h
 unfold V
 rw [a,b,sg_not];grind
theorem negF_fin {x:Nat} (h:x<4294967296) (hx:single.fin x):single.fin (negF x):=by
 unfold fin at *;rw [(negF_parts h).1];exact hx
theorem Bd.neg {k x:Nat} (h:Bd k x) (hl:x<4294967296):Bd k (negF x):=by
 refine ⟨negF_fin hl h.1,?_⟩
 rw [negF_V hl]
 have:=h.2
 constructor<;>grind
def gradF (a b:Nat):Nat:=mulF (subF a b) 1056964608
theorem half_bd:-P2 (-((1:Nat):Int))≤single.V 1056964608∧single.V 1056964608≤P2 (-((1:Nat):Int)):=by
 rw [const_2nd.2.1]
 have:=P2_pos (-1)
 constructor<;>simp only [Int.cast_ofNat_Int]<;>grind
theorem grad_bd {k a b:Nat} (ha:Bd k a) (hb:Bd k b) (hk:k≤80):Bd (k+1) (subF a b)∧Bd k (gradF a b):=by
 have a1:=ha.sub hb (by omega)
 exact ⟨a1,Bd.less (j:=1) a1 const_2nd.1 half_bd (by omega)⟩
theorem gradF_lt (a b:Nat):gradF a b<4294967296:=mulF_lt _ _
theorem mul_nonneg {x y:Nat} (hx:single.fin x) (hy:single.fin y) (hf:single.fin (mulF x y)) (h:0≤single.V x*single.V y):0≤single.V (mulF x y):=(mulF_spec hx hy).2.nonneg hf h
theorem add_nonneg {x y:Nat} (hx:single.fin x) (hy:single.fin y) (hf:single.fin (addF x y)) (h:0≤single.V x+single.V y):0≤single.V (addF x y):=(addF_spec hx hy).2.nonneg hf h
theorem sub_nonneg {x y:Nat} (hx:single.fin x) (hy:single.fin y) (hf:single.fin (subF x y)) (h:0≤single.V x-single.V y):0≤single.V (subF x y):=(subF_spec hx hy).2.nonneg hf h
theorem sq_nonneg (a:Rat):0≤a*a:=by
 rcases le_or_le 0 a with h|h
 ·exact Rat.mul_nonneg h h
 ·have:=Rat.mul_nonneg (show 0≤-a by grind) (show 0≤-a by grind)
  grind
def hypF (x y:Nat):Nat:=addF (mulF x x) (mulF y y)
theorem hyp_bd {k x y:Nat} (hx:Bd k x) (hy:Bd k y) (hk:k≤40):Bd (k+k) (mulF x x)∧Bd (k+k) (mulF y y)∧Bd (k+k+1) (hypF x y)∧0≤single.V (hypF x y):=by
 have a:=hx.mul hx (by omega)
 have b:=hy.mul hy (by omega)
 have c:=a.add b (by omega)
 refine ⟨a,b,c,add_nonneg a.1 b.1 c.1 ?_⟩
 have:=mul_nonneg hx.1 hx.1 a.1 (sq_nonneg _)
 have:=mul_nonneg hy.1 hy.1 b.1 (sq_nonneg _)
 grind
theorem root_bd {k x:Nat} (hx:Bd (k+k) x) (h0:0≤single.V x) (hk:k≤50):Bd k (rootF x)∧0≤single.V (rootF x):=by
 obtain ⟨c,fc,vc,sc⟩:=const_pow k (by omega)
 obtain ⟨X,Z,a,b,d,f,n,u,l⟩:=root_spec hx.1 h0
 have:=u c fc sc (by rw [vc,←P2_add];exact hx.2.2)
 rw [vc] at this
 have p:=P2_pos k
 exact ⟨⟨f,by grind,this⟩,n⟩
theorem root_one {x:Nat} (hx:single.fin x) (h0:1≤single.V x):1≤single.V (rootF x):=by
 obtain ⟨X,Z,a,b,d,f,n,u,l⟩:=root_spec hx (by grind)
 have:=l 1065353216 const_1.1 const_1.2.2 (by rw [const_1.2.1];grind)
 rw [const_1.2.1] at this;exact this
theorem add_one {k x:Nat} (hx:Bd k x) (h0:0≤single.V x) (hk:k≤80):Bd (k+1) (addF x 1065353216)∧1≤single.V (addF x 1065353216):=by
 have o:Bd k 1065353216:=⟨const_1.1,by
  rw [const_1.2.1]
  have:=P2_mono (show (0:Int)≤k by omega)
  rw [P2_zero] at this
  constructor<;>grind⟩
 have a:=hx.add o (by omega)
 refine ⟨a,?_⟩
 have:=(addF_spec hx.1 o.1).2.ge_const (c:=1065353216) a.1 const_1.2.2 (by rw [const_1.2.1];decide) (by rw [const_1.2.1];grind)
 rw [const_1.2.1] at this;exact this
def slopeF (n s e w v:Nat):Nat:=rootF (hypF (gradF e w) (gradF s n))
def lenF (n s e w:Nat):Nat:=rootF (addF (hypF (gradF e w) (gradF s n)) 1065353216)
def curve1 (n s e w:Nat):Nat:=addF (addF (addF n s) e) w
def curveF (n s e w v:Nat):Nat:=subF (mulF (curve1 n s e w) 1048576000) v
theorem quarter_bd:-P2 (-((2:Nat):Int))≤single.V 1048576000∧single.V 1048576000≤P2 (-((2:Nat):Int)):=by
 rw [const_quarter.2.1]
 have e:P2 (-2)=1 / 4:=by
  have a:=P2_succ (-2)
  have b:=P2_succ (-1)
  have c:=P2_zero
  simp at a b
  grind
 rw [show (-((2:Nat):Int))=-2 from rfl,e]
 constructor<;>grind
theorem curve_bd {k n s e w v:Nat} (hn:Bd k n) (hs:Bd k s) (he:Bd k e) (hw:Bd k w) (hv:Bd k v) (hk:k≤80) :
  Bd (k+1) (addF n s)∧Bd (k+2) (addF (addF n s) e)∧Bd (k+3) (curve1 n s e w)∧Bd (k+1) (mulF (curve1 n s e w) 1048576000)∧Bd (k+2) (curveF n s e w v):=by
 have a1:=hn.add hs (by omega)
 have a2:=a1.add (he.mono (show k≤k+1 by omega)) (by omega)
 have a3:=a2.add (hw.mono (show k≤k+2 by omega)) (by omega)
 have a4:Bd (k+1) (mulF (curve1 n s e w) 1048576000):=Bd.less (j:=2) a3 const_quarter.1 quarter_bd (by omega)
 exact ⟨a1,a2,a3,a4,a4.sub (hv.mono (by omega)) (by omega)⟩
theorem slope_bd {n s e w:Nat} (hn:Bd 20 n) (hs:Bd 20 s) (he:Bd 20 e) (hw:Bd 20 w) :
  Bd 41 (hypF (gradF e w) (gradF s n))∧0≤single.V (hypF (gradF e w) (gradF s n))∧Bd 21 (rootF (hypF (gradF e w) (gradF s n))) ∧
  Bd 42 (addF (hypF (gradF e w) (gradF s n)) 1065353216)∧1≤single.V (addF (hypF (gradF e w) (gradF s n)) 1065353216)∧Bd 21 (lenF n s e w)∧1≤single.V (lenF n s e w):=by
 obtain ⟨_,a⟩:=grad_bd he hw (by omega)
 obtain ⟨_,b⟩:=grad_bd hs hn (by omega)
 obtain ⟨_,_,c,d⟩:=hyp_bd a b (by omega)
 obtain ⟨f,g⟩:=add_one c d (by omega)
 exact ⟨c,d,(root_bd (k:=21) (c.mono (by omega)) d (by omega)).1,f,g,(root_bd (k:=21) f (by grind) (by omega)).1,root_one f.1 g⟩
theorem one_Bd (k:Nat):Bd k 1065353216:=⟨const_1.1,by
  rw [const_1.2.1]
  have:=P2_mono (show (0:Int)≤k by omega)
  rw [P2_zero] at this
  constructor<;>grind⟩
def nxF (n s e w:Nat):Nat:=divF (negF (gradF e w)) (lenF n s e w)
def nyF (n s e w:Nat):Nat:=divF (negF (gradF s n)) (lenF n s e w)
def nzF (n s e w:Nat):Nat:=divF 1065353216 (lenF n s e w)
theorem div_one {k x y:Nat} (hx:Bd k x) (hy:single.fin y) (h1:1≤single.V y) (hk:k≤100):Bd k (divF x y):=by
 have:=Bd.div (j:=0) hx hy (by rw [show (-((0:Nat):Int))=0 from rfl,P2_zero];exact h1) (by omega)
 exact this
theorem normal_bd {n s e w:Nat} (hn:Bd 20 n) (hs:Bd 20 s) (he:Bd 20 e) (hw:Bd 20 w):Bd 20 (negF (gradF e w))∧Bd 20 (negF (gradF s n))∧Bd 20 (nxF n s e w)∧Bd 20 (nyF n s e w)∧Bd 0 (nzF n s e w):=by
 obtain ⟨_,a⟩:=grad_bd he hw (by omega)
 obtain ⟨_,b⟩:=grad_bd hs hn (by omega)
 obtain ⟨_,_,_,_,_,h1,h2⟩:=slope_bd hn hs he hw
 exact ⟨a.neg (gradF_lt _ _),b.neg (gradF_lt _ _),div_one (a.neg (gradF_lt _ _)) h1.1 h2 (by omega),div_one (b.neg (gradF_lt _ _)) h1.1 h2 (by omega),div_one (one_Bd 0) h1.1 h2 (by omega)⟩
def shade1 (a b c n s e w:Nat):Nat:=addF (addF (mulF (nxF n s e w) a) (mulF (nyF n s e w) b)) (mulF (nzF n s e w) c)
def shade2 (a b c m n s e w:Nat):Nat:=divF (shade1 a b c n s e w) m
theorem shade_bd {a b c m n s e w:Nat} (ha:Bd 10 a) (hb:Bd 10 b) (hc:Bd 10 c) (hm:single.fin m) (hm1:1≤single.V m) (hn:Bd 20 n) (hs:Bd 20 s) (he:Bd 20 e) (hw:Bd 20 w) :
  Bd 30 (mulF (nxF n s e w) a)∧Bd 30 (mulF (nyF n s e w) b)∧Bd 31 (addF (mulF (nxF n s e w) a) (mulF (nyF n s e w) b))∧Bd 10 (mulF (nzF n s e w) c)∧Bd 32 (shade1 a b c n s e w)∧Bd 32 (shade2 a b c m n s e w):=by
 obtain ⟨_,_,h1,h2,h3⟩:=normal_bd hn hs he hw
 have x:=h1.mul ha (by omega)
 have y:=h2.mul hb (by omega)
 have z:=h3.mul hc (by omega)
 have xy:=x.add y (by omega)
 have xyz:=xy.add (z.mono (show 0+10≤30+1 by omega)) (by omega)
 exact ⟨x,y,xy,z,xyz,div_one xyz hm hm1 (by omega)⟩
end Format
end Ieee
namespace Ieee
namespace Format
open Go
theorem cut_zero (neg:Bool) (n drop:Nat):Toward.zero.cut neg n drop=n / 2 ^ drop:=by
 unfold Toward.cut
 by_cases h:drop≤n.log2+2
 ·rw [Nat.min_eq_left h,Nat.one_shiftLeft]
  rfl
 ·have h1:n<2 ^ (n.log2+1):=Nat.lt_log2_self
  have h2:2 ^ (n.log2+2)≤2 ^ drop:=Nat.pow_le_pow_right (by omega) (by omega)
  rw [Nat.min_eq_right (by omega),Nat.one_shiftLeft]
  have e:2 ^ (n.log2+2)=2*2 ^ (n.log2+1):=by rw [Nat.pow_succ];omega
  have a1:n / 2 ^ (n.log2+2)=0:=Nat.div_eq_of_lt (by omega)
  have b1:n / 2 ^ drop=0:=Nat.div_eq_of_lt (by omega)
  simp only [a1,b1]
  rfl
theorem int_of_sg {s:Bool} {c:Nat} {z:Int} (h:sg s*(c:Rat)=(z:Rat)):signed s c 0=z:=by
 unfold signed
 simp only [Nat.shiftLeft_zero]
 cases s
 ·simp only [sg,Bool.false_eq_true,if_false,Rat.one_mul] at h ⊢
  have:((c:Int):Rat)=(z:Rat):=by rw [Rat.intCast_natCast];exact h
  exact Rat.intCast_inj.1 this
 ·simp only [sg,if_true] at h ⊢
  have:((-(c:Int):Int):Rat)=(z:Rat):=by rw [Rat.intCast_neg,Rat.intCast_natCast];grind
  exact Rat.intCast_inj.1 this
theorem whole_int {x:Nat} {z:Int} (hx:single.fin x) (hz:single.V x=(z:Rat)) (h1:-9223372036854775808≤z) (h2:z≤9223372036854775807):floatToIntVal .f32 x .i64=some z:=by
 have hd:FloatKind.decode .f32 x=.number (single.sgn x) (single.rmag (single.rung x)) (single.rplace (single.rung x)):=single.read_fin hx
 have hV:=single.V_read x
 rw [hz] at hV
 unfold floatToIntVal
 rw [hd]
 generalize single.rmag (single.rung x)=m at *
 generalize single.rplace (single.rung x)=i at *
 generalize single.sgn x=s at *
 have ht:Datum.toInt .zero (.number s m i)=some (signed s (Toward.zero.cut s (m <<< i.toNat) (-i).toNat) 0):=rfl
 rw [ht,cut_zero]
 have hc:sg s*((m <<< i.toNat / 2 ^ (-i).toNat:Nat):Rat)=(z:Rat):=by
  by_cases hi:0≤i
  ·obtain ⟨j,rfl⟩:=Int.eq_ofNat_of_zero_le hi
   rw [show (-(j:Int)).toNat=0 by omega,Int.toNat_natCast,Nat.pow_zero,Nat.div_one,Nat.shiftLeft_eq,Rat.natCast_mul,←P2_nat]
   exact hV.symm
  ·obtain ⟨d,hd⟩:∃ d:Nat,(-i).toNat=d:=⟨_,rfl⟩
   have hi2:i=-(d:Int):=by omega
   rw [show i.toNat=0 by omega,hd,Nat.shiftLeft_zero]
   have e1:(m:Rat)=((z.natAbs*2 ^ d:Nat):Rat):=by
    have hz2:sg s*(z:Rat)=(m:Rat)*P2 i:=by rw [hV,←Rat.mul_assoc,sg_sq,Rat.one_mul]
    have hm0:0≤(m:Rat)*P2 i:=Rat.mul_nonneg Rat.natCast_nonneg (Rat.le_of_lt (P2_pos i))
    have ha:((z.natAbs:Nat):Rat)=(m:Rat)*P2 i:=by
     rw [←hz2] at hm0 ⊢
     cases s
     ·simp only [sg,Bool.false_eq_true,if_false,Rat.one_mul] at hm0 ⊢
      have:=Rat.intCast_nonneg.1 hm0
      rw [←Rat.intCast_natCast,show (z.natAbs:Int)=z by omega]
     ·simp only [sg,if_true] at hm0 ⊢
      have:0≤((-z:Int):Rat):=by rw [Rat.intCast_neg];grind
      have:=Rat.intCast_nonneg.1 this
      rw [←Rat.intCast_natCast,show (z.natAbs:Int)=-z by omega,Rat.intCast_neg];grind
    rw [Rat.natCast_mul,ha,←P2_nat,Rat.mul_assoc,←P2_add,hi2,show -(d:Int)+d=0 by omega,P2_zero,Rat.mul_one]
   have e2:m=z.natAbs*2 ^ d:=Rat.natCast_inj.1 e1
   rw [e2,Nat.mul_div_cancel _ (Nat.two_pow_pos d)]
   rw [hV,e2,Rat.natCast_mul,←P2_nat,Rat.mul_assoc,←P2_add,hi2,show (d:Int)+-(d:Int)=0 by omega,P2_zero,Rat.mul_one]
 have:=int_of_sg hc
 rw [this]
 simp only
 rw [if_pos]
 exact ⟨h1,h2⟩
theorem frac_bd {x:Nat} (hx:single.fin x) (hl:x<4294967296):Bd 0 (subF x (floorF x))∧single.fin (floorF x):=by
 obtain ⟨X,s,m,i,_,_,_,hf,_,z,h1,h2,h3⟩:=floor_spec hx hl
 have hr:=(subF_spec hx hf).2
 have:=hr.bd (k:=0) (by omega) (by rw [h1];show _≤P2 0;rw [P2_zero];grind) (by rw [h1];show -P2 0≤_;rw [P2_zero];grind)
 exact ⟨this,hf⟩
theorem frac_zero {x:Nat} {n:Int} (hx:single.fin x) (hl:x<4294967296) (hn:single.V x=(n:Rat)):single.V (floorF x)=(n:Rat)∧single.V (subF x (floorF x))=0:=by
 obtain ⟨X,s,m,i,_,_,_,hf,_,z,h1,h2,h3⟩:=floor_spec hx hl
 rw [hn] at h2 h3
 have a:z≤n:=Rat.intCast_le_intCast.1 h2
 have b:n<z+1:=by
  have:(n:Rat)<((z+1:Int):Rat):=by rw [Rat.intCast_add];exact h3
  exact Rat.intCast_lt_intCast.1 this
 have:z=n:=by omega
 subst this
 refine ⟨h1,?_⟩
 have hr:=(subF_spec hx hf).2
 have:=hr.exact 0 0 (by omega) (by omega) (by omega) (by omega) (by rw [hn,h1];simp;grind)
 rw [this.2.1,hn,h1];grind
end Format
end Ieee
