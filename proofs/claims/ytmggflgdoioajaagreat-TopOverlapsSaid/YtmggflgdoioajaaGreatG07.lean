import Derived.Test.YtmggflgdoioajaaGreatG06
import Derived.Deep.RegionHeld3
import Derived.BigQuiet
import Derived.Deep.CutBlock
import Derived.Deep.QuietTactic
import Derived.Deep.DeepCutAuto
import Derived.IntWalk
set_option linter.unusedSimpArgs false
set_option linter.unusedVariables false
namespace Go.Proofs.YtmggflgdoioajaaGreat
open Go.ChangeShapes Go.WideShapes Go.ChangeAt Go.RowKit
open Ieee.Format (fin finE htE allFin allHt all_true all_false mulF subF addF Ht Bd divF rootF floorF easeF mixF)
theorem box_f2c (w:World) (X Y W H:Int) (v:Value) (c1 c2:Array Value) (t:TypeId):∀ W0,W0=(((w.alloc (.cells #[.int .i64 X,.int .i64 Y,.int .i64 W,.int .i64 H,v] 32)).alloc (.cells c1 t)).alloc (.cells c2 t)).alloc (.cells #[.int .i64 0,.int .i64 0,.int .i64 0,.int .i64 0,.slice none 0 0] 32) →
  Fld W0 w.heap.size X Y W H v∧Blk W0 (w.heap.size+1) c1 t∧Blk W0 (w.heap.size+1+1) c2 t∧Fld W0 (w.heap.size+1+1+1) 0 0 0 0 (.slice none 0 0)∧Below w.heap.size w W0:=by
 rintro _ rfl
 refine ⟨(((Fld.new w X Y W H v).alloc _).alloc _).alloc _,?_,?_,?_,qBl⟩
 ·have:=((Blk.new (w.alloc (.cells #[.int .i64 X,.int .i64 Y,.int .i64 W,.int .i64 H,v] 32)) c1 t).alloc (.cells c2 t)).alloc (.cells #[.int .i64 0,.int .i64 0,.int .i64 0,.int .i64 0,.slice none 0 0] 32)
  simpa using this
 ·have:=(Blk.new ((w.alloc (.cells #[.int .i64 X,.int .i64 Y,.int .i64 W,.int .i64 H,v] 32)).alloc (.cells c1 t)) c2 t).alloc (.cells #[.int .i64 0,.int .i64 0,.int .i64 0,.int .i64 0,.slice none 0 0] 32)
  simpa using this
 ·have:=Fld.new (((w.alloc (.cells #[.int .i64 X,.int .i64 Y,.int .i64 W,.int .i64 H,v] 32)).alloc (.cells c1 t)).alloc (.cells c2 t)) 0 0 0 0 (.slice none 0 0)
  simpa using this
set_option maxRecDepth 100000 in
set_option maxHeartbeats 1000000 in
theorem terrace_bad (X Y:Int) (Wn Hn:Nat) (b o c:Nat) (l:List Nat) (s h:Nat) (w:World) (hl:SRow w (some ⟨b,o,none⟩) l) (hr:Right X Y Wn Hn l) (h1:s<4294967296) (h2:h<4294967296) (hn:terC s h≠0) :
  Calls Tryz.prog 73 #[fldV X Y Wn Hn (some ⟨b,o,none⟩) l.length c,.float .f32 s,.float .f32 h] w fun e w'=>e=.returned (.tuple #[fldV 0 0 0 0 none 0 0,.int .i64 (terC s h)])∧Below w.heap.size w w':=by
 have K:=Lib.hid (fun w h=>check_field X Y Wn Hn (some ⟨b,o,none⟩) c l w h)
 rw [hr.chk] at K
 have HL:=Lib.hid hl
 have KH:=Lib.hid (fun W g c0 c1=>heights_two W g s h h1 h2 c0 c1)
 by_cases ha:htE [s,h]=0
 ·have hts:=Ieee.Format.allHt_iff.1 (Ieee.Format.htE_zero ha)
  have hsf:fin Ieee.single s:=(hts s (by simp)).fin
  have KC:=Lib.hid (fun w=>checkstep_any s w h1 hsf)
  have e3:terC s h=3:=by
   unfold terC at hn ⊢
   rw [if_neg (by omega)] at hn ⊢
   by_cases c1:stepC s=0
   ·rw [if_neg (by omega)] at hn ⊢
    cases c2:lss h 0 with
    | true=>rw [if_pos rfl]
    | false =>
     rw [c2,if_neg (by decide)] at hn
     rw [if_neg (by decide)]
     cases c3:gee h 1065353216 with
     | true=>rw [if_pos rfl]
     | false=>rw [c3,if_neg (by decide)] at hn;exact absurd rfl hn
   ·rw [if_pos c1]
  have hways:stepC s=3∨(stepC s=0∧lss h 0=true)∨(stepC s=0∧lss h 0=false∧gee h 1065353216=true):=by
   have hs3:stepC s=0∨stepC s=3:=by unfold stepC;split;exact .inr rfl;split;exact .inr rfl;exact .inl rfl
   rcases hs3 with c1|c1
   ·unfold terC at e3
    rw [if_neg (by omega),if_neg (by omega)] at e3
    cases c2:lss h 0 with
    | true=>exact .inr (.inl ⟨c1,rfl⟩)
    | false =>
     rw [c2,if_neg (by decide)] at e3
     cases c3:gee h 1065353216 with
     | true=>exact .inr (.inr ⟨c1,rfl,rfl⟩)
     | false=>rw [c3,if_neg (by decide)] at e3;omega
   ·exact .inl c1
  rw [e3]
  rw [ha] at KH
  clear hl hr h1 h2 hn ha hts hsf e3
  rcases hways with c1|⟨c1,c2⟩|⟨c1,c2,c3⟩
  ·rw [c1] at KC
   exact qx4
  ·rw [c1] at KC
   change (FloatKind.f32.format.order h 0 == some .lt)=true at c2
   exact qx4
  ·rw [c1] at KC
   change (FloatKind.f32.format.order h 0 == some .lt)=false at c2
   change (FloatKind.f32.format.order h 1065353216 == some .gt || FloatKind.f32.format.order h 1065353216 == some .eq)=true at c3
   exact qx4
 ·have e3:terC s h=htE [s,h]:=by unfold terC;rw [if_pos ha]
  rw [e3]
  generalize htE [s,h]=a at *
  have hb':(a != 0)=true:=by rw [bne_iff_ne];exact ha
  clear hl hr h1 h2 hn ha e3
  go_enter Tryz.func73,Tryz.ntmps73
  go_wp2_with fail
  generalize hW0:(((w.alloc (.cells #[.int .i64 X,.int .i64 Y,.int .i64 Wn,.int .i64 Hn,.slice (some ⟨b,o,none⟩) l.length c] 32)).alloc (.cells #[.float .f32 s] 48)).alloc (.cells #[.float .f32 h] 48)).alloc (.cells #[.int .i64 0,.int .i64 0,.int .i64 0,.int .i64 0,.slice none 0 0] 32)=W0 at *
  obtain ⟨E0,P0,Q0,F0,B0⟩:=box_f2c w X Y Wn Hn (.slice (some ⟨b,o,none⟩) l.length c) #[.float .f32 s] #[.float .f32 h] 48 W0 hW0.symm
  clear hW0
  refine (K.out _ (HL.out.below B0)).mono ?_
  rintro e w1 ⟨rfl,b1⟩
  have HE1:=Lib.hid (E0.below b1 E0.lt)
  have HP1:=Lib.hid (P0.below b1 P0.lt)
  have HQ1:=Lib.hid (Q0.below b1 Q0.lt)
  have HF1:=Lib.hid (F0.below b1 F0.lt)
  have HL1:=Lib.hid ((HL.out.below B0).below b1)
  have HB1:=Lib.hid (B0.trans (b1.mono B0.size))
  clear b1 B0 F0 E0 P0 Q0 K HL
  have p0:w1.cell? ⟨w.heap.size+1,0,none⟩=some (.float .f32 s):=HP1.out.cell 0
  have p1:w1.cell? ⟨w.heap.size+1+1,0,none⟩=some (.float .f32 h):=HQ1.out.cell 0
  have l3:w.heap.size+1+1+1<w1.heap.size:=HF1.out.lt
  have l2:w.heap.size+1+1<w1.heap.size:=by omega
  have l1:w.heap.size+1<w1.heap.size:=by omega
  have l0:w.heap.size<w1.heap.size:=by omega
  go_wp2_with fail
  refine (KH.out _ _ (by simp [go_sem]) (by simp [go_sem])).mono ?_
  rintro e w2 ⟨rfl,rfl⟩
  obtain ⟨d0,d1,d2,d3,d4⟩:=HF1.out.cells
  have qf0:=HF1.out.frozen 0
  have qf1:=HF1.out.frozen 1
  have qf2:=HF1.out.frozen 2
  have qf3:=HF1.out.frozen 3
  have qf4:=HF1.out.frozen 4
  go_wp2_with fail
  have B3:=HB1.out
  exact bodyPost_ret (v:=.tuple #[fldV 0 0 0 0 none 0 0,.int .i64 a]) (by simp [results,Tryz.results73,go_sem, *]) rfl ⟨rfl,(qBo B3)⟩
theorem cnt_world1 (w:World):∀ W0,W0=w.alloc (.cells #[.int .i64 (-1)] 3)→CntAt W0 w.heap.size (-1)∧Below w.heap.size w W0∧W0.heap.size=w.heap.size+1:=by
 rintro _ rfl
 exact ⟨Blk.new w _ _,qBl,by simp⟩
set_option maxRecDepth 100000 in
set_option maxHeartbeats 1000000 in
theorem terrace_ok (X Y:Int) (Wn Hn:Nat) (b o c:Nat) (l:List Nat) (s h:Nat) (w:World) (hl:SRow w (some ⟨b,o,none⟩) l) (hr:Right X Y Wn Hn l) (h1:s<4294967296) (h2:h<4294967296) (hn:terC s h=0) :
  Calls Tryz.prog 73 #[fldV X Y Wn Hn (some ⟨b,o,none⟩) l.length c,.float .f32 s,.float .f32 h] w fun e w'=>OpP (resC (l.map (terF s h))) X Y Wn Hn (l.map (terF s h)) w e w':=by
 obtain ⟨ha,hsc,c2,c3,hT⟩:=ter_zero hn
 have K:=Lib.hid (fun w h=>check_field X Y Wn Hn (some ⟨b,o,none⟩) c l w h)
 rw [hr.chk] at K
 have HL:=Lib.hid hl
 have KH:=Lib.hid (fun W g c0 c1=>heights_two W g s h h1 h2 c0 c1)
 rw [ha] at KH
 have KC:=Lib.hid (fun w=>checkstep_any s w h1 hT.st.1)
 rw [hsc] at KC
 have HBL:Hid (b<w.heap.size):=SRow.blt hl hr.pos
 have KM:=Lib.hid (fun p q pa pb w (hl:SRow w (some ⟨b,o,none⟩) l) (hq:Fld w q X Y Wn Hn (.slice (some ⟨b,o,none⟩) l.length c)) (ha:Blk w pa #[.float .f32 s] 48) (hb:Blk w pb #[.float .f32 h] 48) (hp:CntAt w p (-1)) (qp:q≠p) (bp:b≠p) (pap:pa≠p) (pbp:pb≠p) =>
  make_map 108 #[.pointer (some ⟨p,0,none⟩),.pointer (some ⟨q,0,none⟩),.pointer (some ⟨pa,0,none⟩),.pointer (some ⟨pb,0,none⟩)] p (terF s h) X Y Wn Hn l w hr (enters_of Tryz.func108 (by kernel_rfl) rfl) hp (terF_lt s h)
   (fun x y k hk W' hb' hcnt=>terracefn_any s h x y p q b o c pa pb k X Y Wn Hn l W' ⟨hcnt,hq.but hb' hq.lt qp,SRow.but hl hb' (SRow.blt hl hr.pos) bp,qp,bp,hk,by have:=hb'.size;have:=SRow.blt hl hr.pos;omega⟩ (hr.bd' k) hT (ha.but hb' ha.lt pap) (hb.but hb' hb.lt pbp) pap pbp))
 have KR:=Lib.hid (fun X1 Y1 W1 H1 g cap B w ho=>result_any X1 Y1 W1 H1 g cap B (l.map (terF s h)) w ho (by rw [List.length_map];exact hr.small))
 change (FloatKind.f32.format.order h 0 == some .lt)=false at c2
 change (FloatKind.f32.format.order h 1065353216 == some .gt || FloatKind.f32.format.order h 1065353216 == some .eq)=false at c3
 clear hl hr h1 h2 hn ha hsc hT
 generalize l.map (terF s h)=S at *
 generalize resC S=C at *
 go_enter Tryz.func73,Tryz.ntmps73
 go_wp2_with fail
 generalize hW0:(((w.alloc (.cells #[.int .i64 X,.int .i64 Y,.int .i64 Wn,.int .i64 Hn,.slice (some ⟨b,o,none⟩) l.length c] 32)).alloc (.cells #[.float .f32 s] 48)).alloc (.cells #[.float .f32 h] 48)).alloc (.cells #[.int .i64 0,.int .i64 0,.int .i64 0,.int .i64 0,.slice none 0 0] 32)=W0 at *
 obtain ⟨E0,P0,Q0,F0,B0⟩:=box_f2c w X Y Wn Hn (.slice (some ⟨b,o,none⟩) l.length c) #[.float .f32 s] #[.float .f32 h] 48 W0 hW0.symm
 clear hW0
 refine (K.out _ (HL.out.below B0)).mono ?_
 rintro e w1 ⟨rfl,b1⟩
 have HE1:=Lib.hid (E0.below b1 E0.lt)
 have HP1:=Lib.hid (P0.below b1 P0.lt)
 have HQ1:=Lib.hid (Q0.below b1 Q0.lt)
 have HF1:=Lib.hid (F0.below b1 F0.lt)
 have HL1:=Lib.hid ((HL.out.below B0).below b1)
 have HB1:=Lib.hid (B0.trans (b1.mono B0.size))
 clear b1 B0 F0 E0 P0 Q0 K HL
 have p0:w1.cell? ⟨w.heap.size+1,0,none⟩=some (.float .f32 s):=HP1.out.cell 0
 have p1:w1.cell? ⟨w.heap.size+1+1,0,none⟩=some (.float .f32 h):=HQ1.out.cell 0
 have l3:w.heap.size+1+1+1<w1.heap.size:=HF1.out.lt
 have l2:w.heap.size+1+1<w1.heap.size:=by omega
 have l1:w.heap.size+1<w1.heap.size:=by omega
 have l0:w.heap.size<w1.heap.size:=by omega
 go_wp2_with fail
 refine (KH.out _ _ (by simp [go_sem]) (by simp [go_sem])).mono ?_
 rintro e w2 ⟨rfl,rfl⟩
 go_wp2_with fail
 refine (KC.out _).mono ?_
 rintro e w2 ⟨rfl,b2⟩
 have b0:Below w1.heap.size w1 (w1.alloc (.cells #[.float .f32 s,.float .f32 h] 48)):=qBl
 have b2':=b0.trans (b2.mono b0.size)
 have HE2:=Lib.hid (HE1.out.below b2' HE1.out.lt)
 have HP2:=Lib.hid (HP1.out.below b2' HP1.out.lt)
 have HQ2:=Lib.hid (HQ1.out.below b2' HQ1.out.lt)
 have HF2:=Lib.hid (HF1.out.below b2' HF1.out.lt)
 have HL2:=Lib.hid (HL1.out.below b2')
 have HB2:=Lib.hid (HB1.out.trans (b2'.mono HB1.out.size))
 clear b0 b2 b2' p0 p1 l0 l1 l2 l3 HE1 HP1 HQ1 HF1 HL1 HB1
 have p0:w2.cell? ⟨w.heap.size+1,0,none⟩=some (.float .f32 s):=HP2.out.cell 0
 have p1:w2.cell? ⟨w.heap.size+1+1,0,none⟩=some (.float .f32 h):=HQ2.out.cell 0
 have l3:w.heap.size+1+1+1<w2.heap.size:=HF2.out.lt
 have l2:w.heap.size+1+1<w2.heap.size:=by omega
 have l1:w.heap.size+1<w2.heap.size:=by omega
 have l0:w.heap.size<w2.heap.size:=by omega
 obtain ⟨c0,c1,c4,c5,c6⟩:=HE2.out.cells
 go_wp2_with fail
 generalize hW3:w2.alloc (.cells #[.int .i64 (-1)] 3)=W3 at *
 obtain ⟨n3,B3,z3⟩:=cnt_world1 w2 W3 hW3.symm
 clear hW3
 have HN3:=Lib.hid n3
 clear n3 z3
 have HE3:=Lib.hid (HE2.out.below B3 HE2.out.lt)
 have HP3:=Lib.hid (HP2.out.below B3 HP2.out.lt)
 have HQ3:=Lib.hid (HQ2.out.below B3 HQ2.out.lt)
 have HF3:=Lib.hid (HF2.out.below B3 HF2.out.lt)
 have HL3:=Lib.hid (HL2.out.below B3)
 have HB3:=Lib.hid (HB2.out.trans (B3.mono HB2.out.size))
 have HBS:Hid (w.heap.size≤w2.heap.size):=HB2.out.size
 refine (KM.out _ _ _ _ _ HL3.out HE3.out HP3.out HQ3.out HN3.out (by omega) (by have:=HBL.out;omega) (by omega) (by omega)).mono ?_
 rintro e w4 ⟨⟨g,cap,rfl,ho⟩,b4⟩
 have HF4:=Lib.hid (HF3.out.below b4 (by omega))
 have HB4:=Lib.hid (HB3.out.trans (b4.mono (by have:=HBS.out;omega)))
 have HO4:=Lib.hid ho
 clear ho b4 KM HE3 HP3 HQ3 HL3 HB3 HE2 HP2 HQ2 HL2 HB2 B3 p0 p1 c0 c1 c4 c5 c6 HN3
 go_wp2_with fail
 refine (KR.out _ _ _ _ _ _ _ _ HO4.out).mono ?_
 rintro e w7 ⟨⟨x,y,p,q,a,m,k,rfl,o7⟩,b7⟩
 have HOZ:=Lib.hid o7
 have HFZ:=Lib.hid (HF4.out.below b7 HF4.out.lt)
 have HBZ:=Lib.hid (HB4.out.trans (b7.mono HB4.out.size))
 have HZB:Hid (w.heap.size+1+1+1<W3.heap.size):=HF3.out.lt
 have HBB:Hid (w.heap.size≤W3.heap.size):=by have:=HZB.out;unfold Hid;omega
 clear o7 b7 KR HO4 HF4 HB4 HF3 HF2 l0 l1 l2 l3
 obtain ⟨d0,d1,d2,d3,d4⟩:=HFZ.out.cells
 have qf0:=HFZ.out.frozen 0
 have qf1:=HFZ.out.frozen 1
 have qf2:=HFZ.out.frozen 2
 have qf3:=HFZ.out.frozen 3
 have qf4:=HFZ.out.frozen 4
 have lz:=HFZ.out.lt
 go_wp2_with fail
 generalize hW5:((((w7.setCell ⟨w.heap.size+1+1+1,0,none⟩ (.int .i64 x)).setCell ⟨w.heap.size+1+1+1,1,none⟩ (.int .i64 y)).setCell ⟨w.heap.size+1+1+1,2,none⟩ (.int .i64 p)).setCell ⟨w.heap.size+1+1+1,3,none⟩ (.int .i64 q)).setCell ⟨w.heap.size+1+1+1,4,none⟩ (.slice a m k)=W5 at *
 obtain ⟨f5,bb5,oo5,_,z5⟩:=fld_store w7 (w.heap.size+1+1+1) 0 0 0 0 _ x y p q (.slice a m k) HFZ.out W5 hW5.symm
 have hO5:=(HOZ.out.set oo5 HZB.out).base HBB.out
 have hB5:=HBZ.out.trans (bb5.mono (by omega))
 clear d0 d1 d2 d3 d4 qf0 qf1 qf2 qf3 qf4 hW5 oo5
 obtain ⟨d0,d1,d2,d3,d4⟩:=f5.cells
 exact bodyPost_ret (v:=.tuple #[fldV x y p q a m k,.int .i64 C]) (by simp [results,Tryz.results73,go_sem, *]) rfl ⟨⟨x,y,p,q,a,m,k,rfl,hO5⟩,hB5⟩
set_option maxRecDepth 100000 in
set_option maxHeartbeats 1000000 in
theorem addedfn_any (gn:Nat) (caps:Array Value) (z:Nat) (x y:Int) (p q b o c pm k:Nat) (X Y W1 H1:Int) (l:List Nat) (t:TypeId) (w:World) (h:CntSt w p q b o c X Y W1 H1 l k)
    (hm:Blk w pm #[.func (.func gn) #[] caps] t) (pmp:pm≠p) (eg:∀ args w,(callFunc gn args).run Tryz.prog w=.ok (.enter gn args) w)
    (hf:∀ W',But w.heap.size (fun j=>j=p) w W'→Calls Tryz.prog gn (#[.int .i64 x,.int .i64 y,.float .f32 (l.getD k 0)] ++ caps) W' fun e w'=>e=.returned (.float .f32 z)∧Below W'.heap.size W' w') :
    Calls Tryz.prog 141 #[.int .i64 x,.int .i64 y,.pointer (some ⟨p,0,none⟩),.pointer (some ⟨pm,0,none⟩),.pointer (some ⟨q,0,none⟩)] w fun e w'=>e=.returned (.float .f32 z)∧But w.heap.size (fun j=>j=p) w w'∧CntAt w' p (k:Int):=by
  have HF:=Lib.hid hf
  clear hf
  generalize hv0:l.getD k 0=v at *
  have HV0:=Lib.hid hv0
  clear hv0
  have hkc:=h.cnt
  obtain ⟨cc,hcc⟩:∃ cc:Int,cc=(k:Int)-1:=⟨_,rfl⟩
  rw [←hcc] at hkc
  have HCC:Hid (cc+1=(k:Int)):=by unfold Hid;omega
  have hk1:-1≤cc:=by omega
  have hk2:cc≤1099511627776:=by have:=h.row.1.1;have:=h.kl;omega
  have hk4:(k:Int)<l.length:=by have:=h.kl;omega
  have hk5:l.length≤1099511627776:=h.row.1.1
  clear hcc
  have c0:w.cell? ⟨p,0,none⟩=some (.int .i64 cc):=hkc.cell 0
  have cf:w.frozen? ⟨p,0,none⟩=false:=hkc.frozen 0
  have hp1:=hkc.lt
  go_enter Tryz.func141,Tryz.ntmps141
  go_wp2_with fail
  rw [HCC.out]
  have HB0:=Lib.hid (But.setq (B:=w.heap.size) (q:=fun j=>j=p) (w:=w) (p:=⟨p,0,none⟩) (.int .i64 k) rfl)
  have HC2:=Lib.hid (CntAt.setc hkc (k:Int))
  have HF2:=Lib.hid (h.fo.but HB0.out h.fo.lt h.qp)
  have HR2:=Lib.hid (h.row.but HB0.out h.bl h.bp)
  have d4:=HF2.out.cells.2.2.2.2
  have dr:=SRow.at_ HR2.out h.kl
  rw [HV0.out] at dr
  have da:=blk_cell1 hm HB0.out pmp
  have dp:(w.setCell ⟨p,0,none⟩ (.int .i64 (k:Int))).cell? ⟨p,0,none⟩=some (.int .i64 (k:Int)):=HC2.out.cell 0
  have hz:w.heap.size≤(w.setCell ⟨p,0,none⟩ (.int .i64 (k:Int))).heap.size:=HB0.out.size
  have l1:=h.fo.lt
  have l2:=h.bl
  have l3:=hm.lt
  have hpl:Hid (p<(w.setCell ⟨p,0,none⟩ (.int .i64 (k:Int))).heap.size):=HC2.out.lt
  clear h hm pmp c0 cf hkc hp1
  generalize w.setCell ⟨p,0,none⟩ (.int .i64 (k:Int))=W2 at *
  have hk6:(0:Int)≤k:=by omega
  go_region_held3 (fun w'=>w'.cell? ⟨q,4,none⟩=some (.slice (some ⟨b,o,none⟩) l.length c)∧w'.cell? ⟨p,0,none⟩=some (.int .i64 (k:Int))∧w'.cell? ⟨b,o+k,none⟩=some (.float .f32 v)∧w'.cell? ⟨pm,0,none⟩=some (.func (.func gn) #[] caps)∧Below W2.heap.size W2 w')
    (first
      | exact ⟨d4,dp,dr,da,(Below.refl _ _).drew⟩
      | (go_split_ands
         have hs:=hb.size
         have hs2:=(show Below W2.heap.size W2 _ by assumption).size
         have hpl':=hpl.out
         refine ⟨?_,?_,?_,?_,?_⟩
         all_goals first
           | (rw [hb.cell (by simp;omega)];assumption)
           | exact Below.trans (by assumption) (hb.mono (by omega)))
      | (go_split_ands;refine ⟨?_,?_,?_,?_,?_⟩<;>assumption))
    (first|(go_at_fn gn;go_split_ands;refine (HF.out _ (HB0.out.trans ((But.of (show Below W2.heap.size W2 _ by assumption)).mono hz))).mono ?_;rintro e2 w2 ⟨rfl,hb⟩))
  rename_i w3 hHeld
  obtain ⟨_,_,_,_,hB⟩:=hHeld
  go_wp2_with fail
  go_ret
  exact ⟨rfl,HB0.out.trans ((But.of hB).mono hz),HC2.out.below hB hpl.out⟩
theorem box_fm (w:World) (X Y W H:Int) (v:Value) (c1:Array Value) (t:TypeId):∀ W0,W0=((w.alloc (.cells #[.int .i64 X,.int .i64 Y,.int .i64 W,.int .i64 H,v] 32)).alloc (.cells c1 t)).alloc (.cells #[.int .i64 0,.int .i64 0,.int .i64 0,.int .i64 0,.slice none 0 0] 32) →
  Fld W0 w.heap.size X Y W H v∧Blk W0 (w.heap.size+1) c1 t∧Fld W0 (w.heap.size+1+1) 0 0 0 0 (.slice none 0 0)∧Below w.heap.size w W0:=by
 rintro _ rfl
 refine ⟨((Fld.new w X Y W H v).alloc _).alloc _,?_,?_,qBl⟩
 ·have:=(Blk.new (w.alloc (.cells #[.int .i64 X,.int .i64 Y,.int .i64 W,.int .i64 H,v] 32)) c1 t).alloc (.cells #[.int .i64 0,.int .i64 0,.int .i64 0,.int .i64 0,.slice none 0 0] 32)
  simpa using this
 ·have:=Fld.new ((w.alloc (.cells #[.int .i64 X,.int .i64 Y,.int .i64 W,.int .i64 H,v] 32)).alloc (.cells c1 t)) 0 0 0 0 (.slice none 0 0)
  simpa using this
def addL (φ:Int→Int→Nat→Nat) (X Y:Int) (Wn Hn:Nat) (l:List Nat):List Nat:=madeL (fun x y=>φ x y (l.getD (cellNo X Y Wn x y).toNat 0)) X Y Wn (Hn*Wn)
theorem addL_small (φ:Int→Int→Nat→Nat) {X Y:Int} {Wn Hn:Nat} {l:List Nat} (hr:Right X Y Wn Hn l):(addL φ X Y Wn Hn l).length≤1099511627776:=by
 unfold addL
 rw [madeL_len]
 have:=hr.small
 rw [hr.len] at this
 exact this
set_option maxRecDepth 100000 in
set_option maxHeartbeats 1000000 in
theorem added_any (gn:Nat) (caps:Array Value) (φ:Int→Int→Nat→Nat) (X Y:Int) (Wn Hn:Nat) (b o c:Nat) (l:List Nat) (w:World) (hl:SRow w (some ⟨b,o,none⟩) l) (hr:Right X Y Wn Hn l)
  (eg:∀ args w,(callFunc gn args).run Tryz.prog w=.ok (.enter gn args) w) (hφ:∀ x y v,φ x y v<4294967296)
  (hf:∀ x y v,X≤x→x<X+Wn→Y≤y→y<Y+Hn→Bd 20 v→∀ W',Below w.heap.size w W'→Calls Tryz.prog gn (#[.int .i64 x,.int .i64 y,.float .f32 v] ++ caps) W' fun e w'=>e=.returned (.float .f32 (φ x y v))∧Below W'.heap.size W' w') :
  Calls Tryz.prog 111 #[fldV X Y Wn Hn (some ⟨b,o,none⟩) l.length c,.func (.func gn) #[] caps] w fun e w'=>OpP (resC (addL φ X Y Wn Hn l)) X Y Wn Hn (addL φ X Y Wn Hn l) w e w':=by
 have HL:=Lib.hid hl
 have HBL:Hid (b<w.heap.size):=SRow.blt hl hr.pos
 have g1:=hr.w1;have g2:=hr.w2;have g3:=hr.h1;have g4:=hr.h2;have g5:=hr.x1;have g6:=hr.x2;have g7:=hr.y1;have g8:=hr.y2
 have KM:=Lib.hid (fun p q pm w1 (hl1:SRow w1 (some ⟨b,o,none⟩) l) (hq:Fld w1 q X Y Wn Hn (.slice (some ⟨b,o,none⟩) l.length c)) (hm:Blk w1 pm #[.func (.func gn) #[] caps] 141) (hp:CntAt w1 p (-1)) (qp:q≠p) (bp:b≠p) (pmp:pm≠p) (wp:w.heap.size≤p) (hB:Below w.heap.size w w1) =>
  make_cnt 141 #[.pointer (some ⟨p,0,none⟩),.pointer (some ⟨pm,0,none⟩),.pointer (some ⟨q,0,none⟩)] p (fun x y=>φ x y (l.getD (cellNo X Y Wn x y).toNat 0)) X Y Wn Hn w1 (by omega) (by omega) (by omega) (by omega) (by omega) (by omega) (by omega) (by omega)
   (enters_of Tryz.func141 (by kernel_rfl) rfl) hp (fun x y=>hφ _ _ _)
   (fun i j k hi hj hk W' hb' hcnt=>by
    have hpl:=hp.lt
    have hpl':=hcnt.lt
    have e:=cell_ij (X:=X) (Y:=Y) hk
    have hkl:k<l.length:=by rw [hr.len];exact cell_lt hi hj hk
    show Calls Tryz.prog _ _ W' fun e w'=>e=.returned (.float .f32 (φ (X+(i:Int)) (Y+(j:Int)) (l.getD (cellNo X Y Wn (X+(i:Int)) (Y+(j:Int))).toNat 0)))∧_
    rw [e]
    exact addedfn_any gn caps _ (X+(i:Int)) (Y+(j:Int)) p q b o c pm k X Y Wn Hn l _ W' ⟨hcnt,hq.but hb' hq.lt qp,SRow.but hl1 hb' (SRow.blt hl1 hr.pos) bp,qp,bp,hkl,by have:=hb'.size;have:=SRow.blt hl1 hr.pos;omega⟩
     (hm.but hb' hm.lt pmp) pmp eg (fun W'' hb''=>hf _ _ _ (by omega) (by omega) (by omega) (by omega) (hr.bd k) W'' ((hB.trans ((hb'.lowp (by omega)).mono wp)).trans ((hb''.lowp (by omega)).mono wp)))))
 have KR:=Lib.hid (fun X1 Y1 W1 H1 g cap B w ho=>result_any X1 Y1 W1 H1 g cap B (addL φ X Y Wn Hn l) w ho (addL_small φ hr))
 change Hid (∀ p q pm w1 (hl1:SRow w1 (some ⟨b,o,none⟩) l) (hq:Fld w1 q X Y Wn Hn (.slice (some ⟨b,o,none⟩) l.length c)) (hm:Blk w1 pm #[.func (.func gn) #[] caps] 141) (hp:CntAt w1 p (-1)) (qp:q≠p) (bp:b≠p) (pmp:pm≠p) (wp:w.heap.size≤p) (hB:Below w.heap.size w w1),
  Calls Tryz.prog 89 #[reg X Y Wn Hn,.func (.func 141) #[] #[.pointer (some ⟨p,0,none⟩),.pointer (some ⟨pm,0,none⟩),.pointer (some ⟨q,0,none⟩)]] w1 fun e w'=>MakeCP p X Y Wn Hn (addL φ X Y Wn Hn l) w1 e w') at KM
 clear hl hr eg hφ hf g1 g2 g3 g4 g5 g6 g7 g8
 exact qx11
def gridL (g:Int→Int→Nat) (X Y:Int) (W H:Nat):List Nat:=madeL g X Y W (H*W)
theorem gridL_len (g:Int→Int→Nat) (X Y:Int) (W H:Nat):(gridL g X Y W H).length=H*W:=madeL_len _ _ _ _ _
theorem made_get (ψ:Int→Int→Nat) (X Y:Int) (W n k:Nat) (hk:k<n):(madeL ψ X Y W n).getD k 0=ψ (X+((k%W:Nat):Int)) (Y+((k / W:Nat):Int)):=by
 unfold madeL
 simp [List.getD_eq_getElem?_getD,List.getElem?_map,List.getElem?_range hk]
theorem grid_get (g:Int→Int→Nat) (X Y:Int) (W H i j:Nat) (hi:i<W) (hj:j<H):(gridL g X Y W H).getD (j*W+i) 0=g (X+i) (Y+j):=by
 have hk:j*W+i<H*W:=by
  have:=Nat.mul_le_mul_right W (show j+1≤H by omega)
  rw [Nat.add_mul,Nat.one_mul] at this
  omega
 have h1:(j*W+i)%W=i:=by rw [Nat.mul_comm,Nat.mul_add_mod,Nat.mod_eq_of_lt hi]
 have h2:(j*W+i) / W=j:=by rw [Nat.mul_comm,Nat.mul_add_div (by omega),Nat.div_eq_of_lt hi];rfl
 unfold gridL
 rw [made_get _ _ _ _ _ _ hk,h1,h2]
theorem cellNo_num (X Y:Int) (W i j:Nat):cellNo X Y W (X+i) (Y+j)=((j*W+i:Nat):Int):=by
 unfold cellNo
 rw [show Y+(j:Int)-Y=(j:Int) by omega]
 push_cast
 omega
theorem grid_cell (g:Int→Int→Nat) (X Y:Int) (W H:Nat) (x y:Int) (hx:X≤x) (hx':x<X+W) (hy:Y≤y) (hy':y<Y+H):(gridL g X Y W H).getD (cellNo X Y W x y).toNat 0=g x y:=by
 obtain ⟨i,hi⟩:=Int.eq_ofNat_of_zero_le (show 0≤x-X by omega)
 obtain ⟨j,hj⟩:=Int.eq_ofNat_of_zero_le (show 0≤y-Y by omega)
 obtain rfl:x=X+i:=by omega
 obtain rfl:y=Y+j:=by omega
 rw [cellNo_num,Int.toNat_natCast,grid_get g X Y W H i j (by omega) (by omega)]
theorem made_congr {ψ χ:Int→Int→Nat} {X Y:Int} {W n:Nat} (h:∀ k,k<n→ψ (X+((k%W:Nat):Int)) (Y+((k / W:Nat):Int))=χ (X+((k%W:Nat):Int)) (Y+((k / W:Nat):Int))):madeL ψ X Y W n=madeL χ X Y W n:=by
 unfold madeL
 exact List.map_congr_left fun k hk=>h k (List.mem_range.1 hk)
theorem num_in {W H k:Nat} (hk:k<H*W):k%W<W∧k / W<H:=by
 have hW:0<W:=by
  rcases Nat.eq_zero_or_pos W with h|h
  ·subst h;simp at hk
  ·exact h
 exact ⟨Nat.mod_lt _ hW,Nat.div_lt_of_lt_mul (by rw [Nat.mul_comm];exact hk)⟩
theorem grid_congr {g h:Int→Int→Nat} {X Y:Int} {W H:Nat} (hh:∀ x y,X≤x→x<X+W→Y≤y→y<Y+H→g x y=h x y):gridL g X Y W H=gridL h X Y W H:=by
 unfold gridL
 refine made_congr fun k hk=>?_
 obtain ⟨h1,h2⟩:=num_in hk
 generalize k%W=i at *
 generalize k / W=j at *
 exact hh _ _ (by omega) (by omega) (by omega) (by omega)
theorem grid_mem {g:Int→Int→Nat} {X Y:Int} {W H v:Nat}:v∈gridL g X Y W H ↔ ∃ x y,(X≤x∧x<X+W∧Y≤y∧y<Y+H)∧v=g x y:=by
 unfold gridL madeL
 constructor
 ·intro h
  obtain ⟨k,hk,rfl⟩:=List.mem_map.1 h
  obtain ⟨h1,h2⟩:=num_in (List.mem_range.1 hk)
  generalize k%W=i at *
  generalize k / W=j at *
  exact ⟨_,_,⟨by omega,by omega,by omega,by omega⟩,rfl⟩
 ·rintro ⟨x,y,⟨h1,h2,h3,h4⟩,rfl⟩
  obtain ⟨i,hi⟩:=Int.eq_ofNat_of_zero_le (show 0≤x-X by omega)
  obtain ⟨j,hj⟩:=Int.eq_ofNat_of_zero_le (show 0≤y-Y by omega)
  obtain rfl:x=X+i:=by omega
  obtain rfl:y=Y+j:=by omega
  have hk:j*W+i<H*W:=by
   have:=Nat.mul_le_mul_right W (show j+1≤H by omega)
   rw [Nat.add_mul,Nat.one_mul] at this
   omega
  have e1:(j*W+i)%W=i:=by rw [Nat.mul_comm,Nat.mul_add_mod,Nat.mod_eq_of_lt (by omega)]
  have e2:(j*W+i) / W=j:=by rw [Nat.mul_comm,Nat.mul_add_div (by omega),Nat.div_eq_of_lt (by omega)];rfl
  exact List.mem_map.2 ⟨j*W+i,List.mem_range.2 hk,by rw [e1,e2]⟩
theorem grid_map (φ:Nat→Nat) (g:Int→Int→Nat) (X Y:Int) (W H:Nat):(gridL g X Y W H).map φ=gridL (fun x y=>φ (g x y)) X Y W H:=by
 unfold gridL madeL
 rw [List.map_map]
 rfl
theorem grid_add (φ:Int→Int→Nat→Nat) (g:Int→Int→Nat) (X Y:Int) (W H:Nat):addL φ X Y W H (gridL g X Y W H)=gridL (fun x y=>φ x y (g x y)) X Y W H:=by
 unfold addL
 exact grid_congr fun x y h1 h2 h3 h4=>by
  show φ x y ((gridL g X Y W H).getD (cellNo X Y W x y).toNat 0)=_
  rw [grid_cell g X Y W H x y h1 h2 h3 h4]
def nbG (φ:Nat→Nat→Nat→Nat→Nat→Nat) (g:Int→Int→Nat) (x y:Int):Nat:=φ (g x (y-1)) (g x (y+1)) (g (x+1) y) (g (x-1) y) (g x y)
theorem grid_nbr (φ:Nat→Nat→Nat→Nat→Nat→Nat) (g:Int→Int→Nat) (X Y:Int) (W H:Nat) (x y:Int) (hx:X+1≤x) (hx':x+1<X+W) (hy:Y+1≤y) (hy':y+1<Y+H) :
  nbr φ (gridL g X Y W H) W (cellNo X Y W x y).toNat=nbG φ g x y:=by
 obtain ⟨i,hi⟩:=Int.eq_ofNat_of_zero_le (show 0≤x-X by omega)
 obtain ⟨j,hj⟩:=Int.eq_ofNat_of_zero_le (show 0≤y-Y by omega)
 obtain rfl:x=X+i:=by omega
 obtain rfl:y=Y+j:=by omega
 obtain ⟨i',rfl⟩:∃ i',i=i'+1:=⟨i-1,by omega⟩
 obtain ⟨j',rfl⟩:∃ j',j=j'+1:=⟨j-1,by omega⟩
 rw [cellNo_num,Int.toNat_natCast]
 unfold nbr nbG
 have e:(j'+1)*W=j'*W+W:=by rw [Nat.add_mul,Nat.one_mul]
 have e2:(j'+1+1)*W=j'*W+W+W:=by rw [Nat.add_mul,e,Nat.one_mul]
 have n1:(j'+1)*W+(i'+1)-W=j'*W+(i'+1):=by omega
 have n2:(j'+1)*W+(i'+1)+W=(j'+1+1)*W+(i'+1):=by omega
 have n3:(j'+1)*W+(i'+1)+1=(j'+1)*W+(i'+1+1):=by omega
 have n4:(j'+1)*W+(i'+1)-1=(j'+1)*W+i':=by omega
 rw [n1,n2,n3,n4,grid_get g X Y W H _ _ (by omega) (by omega),grid_get g X Y W H _ _ (by omega) (by omega),grid_get g X Y W H _ _ (by omega) (by omega),grid_get g X Y W H _ _ (by omega) (by omega),grid_get g X Y W H _ _ (by omega) (by omega)]
 have c1:Y+((j'+1:Nat):Int)-1=Y+(j':Int):=by push_cast;omega
 have c2:Y+((j'+1:Nat):Int)+1=Y+((j'+1+1:Nat):Int):=by push_cast;omega
 have c3:X+((i'+1:Nat):Int)+1=X+((i'+1+1:Nat):Int):=by push_cast;omega
 have c4:X+((i'+1:Nat):Int)-1=X+(i':Int):=by push_cast;omega
 rw [c1,c2,c3,c4]
theorem grid_inner (φ:Nat→Nat→Nat→Nat→Nat→Nat) (g:Int→Int→Nat) (X Y:Int) (W H:Nat) (hW:3≤W) (hH:3≤H) :
  innerL φ X Y W H (gridL g X Y W H)=gridL (nbG φ g) (X+1) (Y+1) (W-2) (H-2):=by
 unfold innerL
 exact grid_congr fun x y h1 h2 h3 h4=>grid_nbr φ g X Y W H x y (by omega) (by omega) (by omega) (by omega)
structure Inp where
 X:Int
 Y:Int
 W:Nat
 H:Nat
 g:Nat
 c:Nat
 l:List Nat
def InpC (p:Inp):Array Value:=#[.int .i64 p.X,.int .i64 p.Y,.int .i64 p.W,.int .i64 p.H,.slice (some ⟨p.g,0,none⟩) p.l.length p.c]
abbrev inpV (p:Inp):Value:=fldV p.X p.Y p.W p.H (some ⟨p.g,0,none⟩) p.l.length p.c
structure InsAt (w:World) (sb:Nat) (P:List Inp):Prop where
 cell:∀ i p,P[i]?=some p→∀ j,j<5→w.cell? ⟨sb,5*i+j,none⟩=(InpC p)[j]?
 row:∀ p∈P,SRow w (some ⟨p.g,0,none⟩) p.l
 lt:sb<w.heap.size
theorem InsAt.below {w w':World} {sb:Nat} {P:List Inp} (h:InsAt w sb P) (hb:Below w.heap.size w w'):InsAt w' sb P:=
 ⟨fun i p hp j hj=>by rw [hb.cell h.lt];exact h.cell i p hp j hj,fun p hp=>(h.row p hp).below hb,Nat.lt_of_lt_of_le h.lt hb.size⟩
theorem InsAt.drew {w:World} {sb:Nat} {P:List Inp} (h:InsAt w sb P):InsAt w.drew sb P:=⟨h.cell,fun p hp=>(h.row p hp).drew,h.lt⟩
structure EvS (w:World) (s:ByteArray) (ia:Option Addr) (nin cin:Nat) (la:Option Addr) (nI cI:Nat) (ra:Option Addr) (nR cR:Nat) (I:List Int) (L:List Nat) (X Y W H:Int) (sb:Nat) (P:List Inp) (wr:World):Prop where
 nd:NdAt wr w.heap.size s ia nin cin la nI cI ra nR cR
 rg:Reg wr (w.heap.size+1) X Y W H
 rs:Fld wr (w.heap.size+2) 0 0 0 0 (.slice none 0 0)
 i:ZRow wr la I
 r:SRow wr ra L
 f:InsAt wr sb P
 b:Below w.heap.size w wr
section
variable {w wr w2:World} {s:ByteArray} {ia la ra:Option Addr} {nin cin nI cI nR cR sb:Nat} {P:List Inp} {I:List Int} {L:List Nat} {X Y W H:Int}
theorem EvS.call (h:EvS w s ia nin cin la nI cI ra nR cR I L X Y W H sb P wr) (hb:Below wr.heap.size wr w2):EvS w s ia nin cin la nI cI ra nR cR I L X Y W H sb P w2:=
 ⟨h.nd.below hb h.nd.lt,h.rg.below hb h.rg.lt,h.rs.below hb h.rs.lt,h.i.below hb,h.r.below hb,h.f.below hb,h.b.trans (hb.mono h.b.size)⟩
theorem EvS.drew (h:EvS w s ia nin cin la nI cI ra nR cR I L X Y W H sb P wr):EvS w s ia nin cin la nI cI ra nR cR I L X Y W H sb P wr.drew:=
 ⟨⟨h.nd.blk⟩,h.rg,h.rs,h.i,h.r.drew,h.f.drew,h.b.drew⟩
theorem EvS.start (hI:ZRow w la I) (hR:SRow w ra L) (hP:InsAt w sb P) :
  EvS w s ia nin cin la nI cI ra nR cR I L X Y W H sb P (((w.alloc (.cells #[.string s,.slice ia nin cin,.slice la nI cI,.slice ra nR cR] 61)).alloc (.cells #[.int .i64 X,.int .i64 Y,.int .i64 W,.int .i64 H] 26)).alloc (.cells #[.int .i64 0,.int .i64 0,.int .i64 0,.int .i64 0,.slice none 0 0] 32)):=by
 have b0:Below w.heap.size w (((w.alloc (.cells #[.string s,.slice ia nin cin,.slice la nI cI,.slice ra nR cR] 61)).alloc (.cells #[.int .i64 X,.int .i64 Y,.int .i64 W,.int .i64 H] 26)).alloc (.cells #[.int .i64 0,.int .i64 0,.int .i64 0,.int .i64 0,.slice none 0 0] 32)):=qBl
 refine ⟨?_,?_,?_,hI.below b0,hR.below b0,hP.below b0,b0⟩
 ·exact (NdAt.new _ _ _ _ _ _ _ _ _ _ _).below ((Below.refl (w.heap.size+1) _).alloc (by simp) _ |>.alloc (by simp) _) (by omega)
 ·exact qx67
 ·exact qx64
end
set_option maxRecDepth 100000 in
set_option maxHeartbeats 1000000 in
theorem ev_const (s:ByteArray) (ia:Option Addr) (nin cin cI rb ro cR sb cP:Nat) (la:Option Addr) (r0:Nat) (ai:Option Addr) (X Y W H c X2 Y2 W2 H2:Int) (m:List Nat) (w:World) (hz:s.toList=[99,111,110,115,116])
  (hI:ZRow w la []) (hR:SRow w (some ⟨rb,ro,none⟩) [r0]) (hP:InsAt w sb [])
  (KC:∀ w',InsAt w' sb []→Calls Tryz.prog 66 #[reg X Y W H,.float .f32 r0] w' (OpP c X2 Y2 W2 H2 m w')) :
  Calls Tryz.prog 45 #[ndV s ia nin cin la 0 cI (some ⟨rb,ro,none⟩) 1 cR,reg X Y W H,.slice ai 0 cP] w (OpP c X2 Y2 W2 H2 m w):=by
 have KC:=Lib.hid KC
 have HS:=Lib.hid (EvS.start (s:=s) (ia:=ia) (nin:=nin) (cin:=cin) (nI:=0) (cI:=cI) (nR:=1) (cR:=cR) (X:=X) (Y:=Y) (W:=W) (H:=H) hI hR hP)
 clear hI hR hP
 go_enter Tryz.func45,Tryz.ntmps45
 go_upto_region 1 with fail
 generalize ((w.alloc (.cells #[.string s,.slice ia nin cin,.slice la 0 cI,.slice (some ⟨rb,ro,none⟩) 1 cR] 61)).alloc (.cells #[.int .i64 X,.int .i64 Y,.int .i64 W,.int .i64 H] 26)).alloc (.cells #[.int .i64 0,.int .i64 0,.int .i64 0,.int .i64 0,.slice none 0 0] 32)=W0 at *
 have p0':=HS.out.nd.cells.1
 have l0':=HS.out.nd.lt
 go_wp2_with fail
 clear p0' l0'
 refine wp_region_noPanic ?_
 refine wp_region_heldT (EvS w s ia nin cin la 0 cI (some ⟨rb,ro,none⟩) 1 cR [] [r0] X Y W H sb []) 8 (by kernel_rfl) HS.out.drew (fun hHeld=>?_)
 refine tkA [5,6,7,8,9] 0 rfl (by
  intro w₁ hSw
  obtain ⟨f0,f1,f2,f3⟩:=hSw.rg.cells
  go_simp
  try with_reducible rfl) ?_
 try simp only [qS,qN,qC,qD]
 refine tkO [2,3,4,5,6,7,8,9] 1 rfl ?_
 try simp only [qS,qN,qC,qD]
 refine tkA [3,4,5,6,7,8,9] 2 rfl (by
  intro w₁ hSw
  have p3:=hSw.nd.cells.2.2.2
  go_simp
  try with_reducible rfl) ?_
 try simp only [qS,qN,qC,qD]
 refine tkO [4,5,6,7,8,9] 3 rfl ?_
 try simp only [qS,qN,qC,qD]
 refine tkA [5,6,7,8,9] 4 rfl (by
  intro w₁ hSw
  have y0:w₁.cell? ⟨rb,ro,none⟩=some (.float .f32 r0):=hSw.r.cell1 0 (by simp)
  go_simp
  try with_reducible rfl) ?_
 try simp only [qS,qN,qC,qD]
 refine rdA 5 rfl (fun K hK=>?_)
 go_simp
 (with_reducible refine (KC.out _ hHeld.f).mono ?_)
 rintro e w2 ⟨⟨x,y,p,q,a,n,k,rfl,ho⟩,hb⟩
 have hN:=hHeld.call hb
 have HO:=Lib.hid ho
 have HZ:=Lib.hid hHeld.rs.lt
 have HZB:=Lib.hid hHeld.b.size
 clear hb ho
 go_wp2_with fail
 refine ouA hK hN (fun hHeld=>?_)
 clear hK K
 try simp only [qS,qN,qC,qD]
 refine tkO [8,9] 6 rfl ?_
 try simp only [qS,qN,qC,qD]
 refine tkO [8,9] 7 rfl ?_
 try simp only [qS,qN,qC,qD]
 refine rdA 8 rfl (fun K hK=>?_)
 obtain ⟨qf0,qf1,qf2,qf3,qf4⟩:_∧_∧_∧_∧_:=⟨hHeld.rs.frozen 0,hHeld.rs.frozen 1,hHeld.rs.frozen 2,hHeld.rs.frozen 3,hHeld.rs.frozen 4⟩
 obtain ⟨d0,d1,d2,d3,d4⟩:=hHeld.rs.cells
 have lt:=hHeld.rs.lt
 have HB:=Lib.hid hHeld.b
 have HQ:=Lib.hid (fld_store w2 (w.heap.size+2) 0 0 0 0 _ x y p q (.slice a n k) hHeld.rs _ rfl)
 go_simp
 refine ouB hK ?_
 clear hK K
 try simp only [qS,qN,qC,qD]
 refine rdA 9 rfl (fun K hK=>?_)
 exact qx1
set_option maxRecDepth 100000 in
set_option maxHeartbeats 1000000 in
theorem ev_noise (s:ByteArray) (ia:Option Addr) (nin cin b o cI rb ro cR sb cP:Nat) (i0 i1 i2 i3:Int) (r0:Nat) (ai:Option Addr) (X Y W H c X2 Y2 W2 H2:Int) (m:List Nat) (w:World) (hz:s.toList=[110,111,105,115,101])
  (hI:ZRow w (some ⟨b,o,none⟩) [i0,i1,i2,i3]) (hR:SRow w (some ⟨rb,ro,none⟩) [r0]) (hP:InsAt w sb [])
  (KC:∀ w',InsAt w' sb []→Calls Tryz.prog 67 #[.agg #[.int .i64 i0,.int .u32 (i1%4294967296),.int .i64 i2,.int .i64 i3,.float .f32 r0],reg X Y W H] w' (OpP c X2 Y2 W2 H2 m w')) :
  Calls Tryz.prog 45 #[ndV s ia nin cin (some ⟨b,o,none⟩) 4 cI (some ⟨rb,ro,none⟩) 1 cR,reg X Y W H,.slice ai 0 cP] w (OpP c X2 Y2 W2 H2 m w):=by
 have KC:=Lib.hid KC
 have KM:=Lib.hid (fun w' hI hR=>mk_fractal s ia nin cin b o cI rb ro 1 cR i0 i1 i2 i3 r0 [r0] w' hI hR rfl rfl)
 have HS:=Lib.hid (EvS.start (s:=s) (ia:=ia) (nin:=nin) (cin:=cin) (nI:=4) (cI:=cI) (nR:=1) (cR:=cR) (X:=X) (Y:=Y) (W:=W) (H:=H) hI hR hP)
 clear hI hR hP
 go_enter Tryz.func45,Tryz.ntmps45
 go_upto_region 1 with fail
 generalize ((w.alloc (.cells #[.string s,.slice ia nin cin,.slice (some ⟨b,o,none⟩) 4 cI,.slice (some ⟨rb,ro,none⟩) 1 cR] 61)).alloc (.cells #[.int .i64 X,.int .i64 Y,.int .i64 W,.int .i64 H] 26)).alloc (.cells #[.int .i64 0,.int .i64 0,.int .i64 0,.int .i64 0,.slice none 0 0] 32)=W0 at *
 have p0':=HS.out.nd.cells.1
 have l0':=HS.out.nd.lt
 go_wp2_with fail
 clear p0' l0'
 refine wp_region_noPanic ?_
 refine wp_region_heldT (EvS w s ia nin cin (some ⟨b,o,none⟩) 4 cI (some ⟨rb,ro,none⟩) 1 cR [i0,i1,i2,i3] [r0] X Y W H sb []) 6 (by kernel_rfl) HS.out.drew (fun hHeld=>?_)
 refine tkA [1,3,4,5,6,7] 0 rfl (by
  intro w₁ hSw
  obtain ⟨p0,p1,p2,p3⟩:=hSw.nd.cells
  go_simp
  try with_reducible rfl) ?_
 try simp only [qS,qN,qC,qD]
 refine tkA [3,4,5,6,7] 2 rfl (by
  intro w₁ hSw
  obtain ⟨f0,f1,f2,f3⟩:=hSw.rg.cells
  go_simp
  try with_reducible rfl) ?_
 try simp only [qS,qN,qC,qD]
 refine rdA 1 rfl (fun K hK=>?_)
 go_simp
 (with_reducible refine (KM.out _ hHeld.i hHeld.r).mono ?_)
 rintro e wm ⟨rfl,hb⟩
 have hN:=hHeld.call hb
 clear hb
 go_wp2_with fail
 refine ouA hK hN (fun hHeld=>?_)
 clear hK K
 try simp only [qS,qN,qC,qD]
 refine rdA 3 rfl (fun K hK=>?_)
 go_simp
 (with_reducible refine (KC.out _ hHeld.f).mono ?_)
 rintro e w2 ⟨⟨x,y,p,q,a,n,k,rfl,ho⟩,hb⟩
 have hN:=hHeld.call hb
 have HO:=Lib.hid ho
 have HZ:=Lib.hid hHeld.rs.lt
 have HZB:=Lib.hid hHeld.b.size
 clear hb ho
 go_wp2_with fail
 refine ouA hK hN (fun hHeld=>?_)
 clear hK K
 try simp only [qS,qN,qC,qD]
 refine tkO [6,7] 4 rfl ?_
 try simp only [qS,qN,qC,qD]
 refine tkO [6,7] 5 rfl ?_
 try simp only [qS,qN,qC,qD]
 refine rdA 6 rfl (fun K hK=>?_)
 obtain ⟨qf0,qf1,qf2,qf3,qf4⟩:_∧_∧_∧_∧_:=⟨hHeld.rs.frozen 0,hHeld.rs.frozen 1,hHeld.rs.frozen 2,hHeld.rs.frozen 3,hHeld.rs.frozen 4⟩
 obtain ⟨d0,d1,d2,d3,d4⟩:=hHeld.rs.cells
 have lt:=hHeld.rs.lt
 have HB:=Lib.hid hHeld.b
 have HQ:=Lib.hid (fld_store w2 (w.heap.size+2) 0 0 0 0 _ x y p q (.slice a n k) hHeld.rs _ rfl)
 go_simp
 refine ouB hK ?_
 clear hK K
 try simp only [qS,qN,qC,qD]
 refine rdA 7 rfl (fun K hK=>?_)
 exact qx1
set_option maxRecDepth 100000 in
set_option maxHeartbeats 1000000 in
theorem ev_speckle (s:ByteArray) (ia:Option Addr) (nin cin b o cI rb ro cR sb cP:Nat) (i0:Int) (r0:Nat) (ai:Option Addr) (X Y W H c X2 Y2 W2 H2:Int) (m:List Nat) (w:World) (hz:s.toList=[115,112,101,99,107,108,101])
  (hI:ZRow w (some ⟨b,o,none⟩) [i0]) (hR:SRow w (some ⟨rb,ro,none⟩) [r0]) (hP:InsAt w sb [])
  (KC:∀ w',InsAt w' sb []→Calls Tryz.prog 68 #[reg X Y W H,.int .u32 (IntKind.u32.wrap i0),.float .f32 r0] w' (OpP c X2 Y2 W2 H2 m w')) :
  Calls Tryz.prog 45 #[ndV s ia nin cin (some ⟨b,o,none⟩) 1 cI (some ⟨rb,ro,none⟩) 1 cR,reg X Y W H,.slice ai 0 cP] w (OpP c X2 Y2 W2 H2 m w):=by
 have KC:=Lib.hid KC
 have HS:=Lib.hid (EvS.start (s:=s) (ia:=ia) (nin:=nin) (cin:=cin) (nI:=1) (cI:=cI) (nR:=1) (cR:=cR) (X:=X) (Y:=Y) (W:=W) (H:=H) hI hR hP)
 clear hI hR hP
 go_enter Tryz.func45,Tryz.ntmps45
 go_upto_region 1 with fail
 generalize ((w.alloc (.cells #[.string s,.slice ia nin cin,.slice (some ⟨b,o,none⟩) 1 cI,.slice (some ⟨rb,ro,none⟩) 1 cR] 61)).alloc (.cells #[.int .i64 X,.int .i64 Y,.int .i64 W,.int .i64 H] 26)).alloc (.cells #[.int .i64 0,.int .i64 0,.int .i64 0,.int .i64 0,.slice none 0 0] 32)=W0 at *
 have p0':=HS.out.nd.cells.1
 have l0':=HS.out.nd.lt
 go_wp2_with fail
 clear p0' l0'
 refine wp_region_noPanic ?_
 refine wp_region_heldT (EvS w s ia nin cin (some ⟨b,o,none⟩) 1 cI (some ⟨rb,ro,none⟩) 1 cR [i0] [r0] X Y W H sb []) 13 (by kernel_rfl) HS.out.drew (fun hHeld=>?_)
 refine tkA [10,11,12,13,14] 0 rfl (by
  intro w₁ hSw
  obtain ⟨f0,f1,f2,f3⟩:=hSw.rg.cells
  go_simp
  try with_reducible rfl) ?_
 try simp only [qS,qN,qC,qD]
 refine tkO [2,3,4,5,10,11,12,13,14] 1 rfl ?_
 try simp only [qS,qN,qC,qD]
 refine tkA [3,4,5,10,11,12,13,14] 2 rfl (by
  intro w₁ hSw
  have p2:=hSw.nd.cells.2.2.1
  go_simp
  try with_reducible rfl) ?_
 try simp only [qS,qN,qC,qD]
 refine tkO [4,5,10,11,12,13,14] 3 rfl ?_
 try simp only [qS,qN,qC,qD]
 refine tkA [5,10,11,12,13,14] 4 rfl (by
  intro w₁ hSw
  have x0:w₁.cell? ⟨b,o,none⟩=some (.int .i64 i0):=hSw.i.at_ 0 (by simp)
  go_simp
  try with_reducible rfl) ?_
 try simp only [qS,qN,qC,qD]
 refine tkO [10,11,12,13,14] 5 rfl ?_
 try simp only [qS,qN,qC,qD]
 refine tkO [7,8,9,10,11,12,13,14] 6 rfl ?_
 try simp only [qS,qN,qC,qD]
 refine tkA [8,9,10,11,12,13,14] 7 rfl (by
  intro w₁ hSw
  have p3:=hSw.nd.cells.2.2.2
  go_simp
  try with_reducible rfl) ?_
 try simp only [qS,qN,qC,qD]
 refine tkO [9,10,11,12,13,14] 8 rfl ?_
 try simp only [qS,qN,qC,qD]
 refine tkA [10,11,12,13,14] 9 rfl (by
  intro w₁ hSw
  have y0:w₁.cell? ⟨rb,ro,none⟩=some (.float .f32 r0):=hSw.r.cell1 0 (by simp)
  go_simp
  try with_reducible rfl) ?_
 try simp only [qS,qN,qC,qD]
 refine rdA 10 rfl (fun K hK=>?_)
 go_simp
 (with_reducible refine (KC.out _ hHeld.f).mono ?_)
 rintro e w2 ⟨⟨x,y,p,q,a,n,k,rfl,ho⟩,hb⟩
 have hN:=hHeld.call hb
 have HO:=Lib.hid ho
 have HZ:=Lib.hid hHeld.rs.lt
 have HZB:=Lib.hid hHeld.b.size
 clear hb ho
 go_wp2_with fail
 refine ouA hK hN (fun hHeld=>?_)
 clear hK K
 try simp only [qS,qN,qC,qD]
 refine tkO [13,14] 11 rfl ?_
 try simp only [qS,qN,qC,qD]
 refine tkO [13,14] 12 rfl ?_
 try simp only [qS,qN,qC,qD]
 refine rdA 13 rfl (fun K hK=>?_)
 obtain ⟨qf0,qf1,qf2,qf3,qf4⟩:_∧_∧_∧_∧_:=⟨hHeld.rs.frozen 0,hHeld.rs.frozen 1,hHeld.rs.frozen 2,hHeld.rs.frozen 3,hHeld.rs.frozen 4⟩
 obtain ⟨d0,d1,d2,d3,d4⟩:=hHeld.rs.cells
 have lt:=hHeld.rs.lt
 have HB:=Lib.hid hHeld.b
 have HQ:=Lib.hid (fld_store w2 (w.heap.size+2) 0 0 0 0 _ x y p q (.slice a n k) hHeld.rs _ rfl)
 go_simp
 refine ouB hK ?_
 clear hK K
 try simp only [qS,qN,qC,qD]
 refine rdA 14 rfl (fun K hK=>?_)
 exact qx1
set_option maxRecDepth 100000 in
set_option maxHeartbeats 1000000 in
theorem ev_scale (s:ByteArray) (ia:Option Addr) (nin cin cI rb ro cR sb cP:Nat) (la:Option Addr) (r0 r1:Nat) (p0:Inp) (X Y W H c X2 Y2 W2 H2:Int) (m:List Nat) (w:World) (hz:s.toList=[115,99,97,108,101])
  (hI:ZRow w la []) (hR:SRow w (some ⟨rb,ro,none⟩) [r0,r1]) (hP:InsAt w sb [p0])
  (KC:∀ w',InsAt w' sb [p0]→Calls Tryz.prog 69 #[inpV p0,.float .f32 r0,.float .f32 r1] w' (OpP c X2 Y2 W2 H2 m w')) :
  Calls Tryz.prog 45 #[ndV s ia nin cin la 0 cI (some ⟨rb,ro,none⟩) 2 cR,reg X Y W H,.slice (some ⟨sb,0,none⟩) 1 cP] w (OpP c X2 Y2 W2 H2 m w):=by
 have KC:=Lib.hid KC
 have HS:=Lib.hid (EvS.start (s:=s) (ia:=ia) (nin:=nin) (cin:=cin) (nI:=0) (cI:=cI) (nR:=2) (cR:=cR) (X:=X) (Y:=Y) (W:=W) (H:=H) hI hR hP)
 clear hI hR hP
 go_enter Tryz.func45,Tryz.ntmps45
 go_upto_region 1 with fail
 generalize ((w.alloc (.cells #[.string s,.slice ia nin cin,.slice la 0 cI,.slice (some ⟨rb,ro,none⟩) 2 cR] 61)).alloc (.cells #[.int .i64 X,.int .i64 Y,.int .i64 W,.int .i64 H] 26)).alloc (.cells #[.int .i64 0,.int .i64 0,.int .i64 0,.int .i64 0,.slice none 0 0] 32)=W0 at *
 have p0':=HS.out.nd.cells.1
 have l0':=HS.out.nd.lt
 go_wp2_with fail
 clear p0' l0'
 refine wp_region_noPanic ?_
 refine wp_region_heldT (EvS w s ia nin cin la 0 cI (some ⟨rb,ro,none⟩) 2 cR [] [r0,r1] X Y W H sb [p0]) 14 (by kernel_rfl) HS.out.drew (fun hHeld=>?_)
 refine tkO [1,2,11,12,13,14,15] 0 rfl ?_
 try simp only [qS,qN,qC,qD]
 refine tkO [2,11,12,13,14,15] 1 rfl ?_
 try simp only [qS,qN,qC,qD]
 refine tkA [11,12,13,14,15] 2 rfl (by
  intro w₁ hSw
  have f0:w₁.cell? ⟨sb,0,none⟩=some (.int .i64 p0.X):=hSw.f.cell 0 _ rfl 0 (by omega)
  have f1:w₁.cell? ⟨sb,1,none⟩=some (.int .i64 p0.Y):=hSw.f.cell 0 _ rfl 1 (by omega)
  have f2:w₁.cell? ⟨sb,2,none⟩=some (.int .i64 p0.W):=hSw.f.cell 0 _ rfl 2 (by omega)
  have f3:w₁.cell? ⟨sb,3,none⟩=some (.int .i64 p0.H):=hSw.f.cell 0 _ rfl 3 (by omega)
  have f4:w₁.cell? ⟨sb,4,none⟩=some (.slice (some ⟨p0.g,0,none⟩) p0.l.length p0.c):=hSw.f.cell 0 _ rfl 4 (by omega)
  go_simp
  try with_reducible rfl) ?_
 try simp only [qS,qN,qC,qD]
 refine tkO [4,5,6,11,12,13,14,15] 3 rfl ?_
 try simp only [qS,qN,qC,qD]
 refine tkA [5,6,11,12,13,14,15] 4 rfl (by
  intro w₁ hSw
  have p3:=hSw.nd.cells.2.2.2
  go_simp
  try with_reducible rfl) ?_
 try simp only [qS,qN,qC,qD]
 refine tkO [6,11,12,13,14,15] 5 rfl ?_
 try simp only [qS,qN,qC,qD]
 refine tkA [11,12,13,14,15] 6 rfl (by
  intro w₁ hSw
  have y0:w₁.cell? ⟨rb,ro,none⟩=some (.float .f32 r0):=hSw.r.cell1 0 (by simp)
  go_simp
  try with_reducible rfl) ?_
 try simp only [qS,qN,qC,qD]
 refine tkO [8,9,10,11,12,13,14,15] 7 rfl ?_
 try simp only [qS,qN,qC,qD]
 refine tkA [9,10,11,12,13,14,15] 8 rfl (by
  intro w₁ hSw
  have p3:=hSw.nd.cells.2.2.2
  go_simp
  try with_reducible rfl) ?_
 try simp only [qS,qN,qC,qD]
 refine tkO [10,11,12,13,14,15] 9 rfl ?_
 try simp only [qS,qN,qC,qD]
 refine tkA [11,12,13,14,15] 10 rfl (by
  intro w₁ hSw
  have y0:w₁.cell? ⟨rb,ro+1,none⟩=some (.float .f32 r1):=hSw.r.cell1 1 (by simp)
  go_simp
  try with_reducible rfl) ?_
 try simp only [qS,qN,qC,qD]
 refine rdA 11 rfl (fun K hK=>?_)
 go_simp
 (with_reducible refine (KC.out _ hHeld.f).mono ?_)
 rintro e w2 ⟨⟨x,y,p,q,a,n,k,rfl,ho⟩,hb⟩
 have hN:=hHeld.call hb
 have HO:=Lib.hid ho
 have HZ:=Lib.hid hHeld.rs.lt
 have HZB:=Lib.hid hHeld.b.size
 clear hb ho
 go_wp2_with fail
 refine ouA hK hN (fun hHeld=>?_)
 clear hK K
 try simp only [qS,qN,qC,qD]
 refine tkO [14,15] 12 rfl ?_
 try simp only [qS,qN,qC,qD]
 refine tkO [14,15] 13 rfl ?_
 try simp only [qS,qN,qC,qD]
 refine rdA 14 rfl (fun K hK=>?_)
 obtain ⟨qf0,qf1,qf2,qf3,qf4⟩:_∧_∧_∧_∧_:=⟨hHeld.rs.frozen 0,hHeld.rs.frozen 1,hHeld.rs.frozen 2,hHeld.rs.frozen 3,hHeld.rs.frozen 4⟩
 obtain ⟨d0,d1,d2,d3,d4⟩:=hHeld.rs.cells
 have lt:=hHeld.rs.lt
 have HB:=Lib.hid hHeld.b
 have HQ:=Lib.hid (fld_store w2 (w.heap.size+2) 0 0 0 0 _ x y p q (.slice a n k) hHeld.rs _ rfl)
 go_simp
 refine ouB hK ?_
 clear hK K
 try simp only [qS,qN,qC,qD]
 refine rdA 15 rfl (fun K hK=>?_)
 exact qx1
set_option maxRecDepth 100000 in
set_option maxHeartbeats 1000000 in
theorem ev_clamp (s:ByteArray) (ia:Option Addr) (nin cin cI rb ro cR sb cP:Nat) (la:Option Addr) (r0 r1:Nat) (p0:Inp) (X Y W H c X2 Y2 W2 H2:Int) (m:List Nat) (w:World) (hz:s.toList=[99,108,97,109,112])
  (hI:ZRow w la []) (hR:SRow w (some ⟨rb,ro,none⟩) [r0,r1]) (hP:InsAt w sb [p0])
  (KC:∀ w',InsAt w' sb [p0]→Calls Tryz.prog 70 #[inpV p0,.float .f32 r0,.float .f32 r1] w' (OpP c X2 Y2 W2 H2 m w')) :
  Calls Tryz.prog 45 #[ndV s ia nin cin la 0 cI (some ⟨rb,ro,none⟩) 2 cR,reg X Y W H,.slice (some ⟨sb,0,none⟩) 1 cP] w (OpP c X2 Y2 W2 H2 m w):=by
 have KC:=Lib.hid KC
 have HS:=Lib.hid (EvS.start (s:=s) (ia:=ia) (nin:=nin) (cin:=cin) (nI:=0) (cI:=cI) (nR:=2) (cR:=cR) (X:=X) (Y:=Y) (W:=W) (H:=H) hI hR hP)
 clear hI hR hP
 go_enter Tryz.func45,Tryz.ntmps45
 go_upto_region 1 with fail
 generalize ((w.alloc (.cells #[.string s,.slice ia nin cin,.slice la 0 cI,.slice (some ⟨rb,ro,none⟩) 2 cR] 61)).alloc (.cells #[.int .i64 X,.int .i64 Y,.int .i64 W,.int .i64 H] 26)).alloc (.cells #[.int .i64 0,.int .i64 0,.int .i64 0,.int .i64 0,.slice none 0 0] 32)=W0 at *
 have p0':=HS.out.nd.cells.1
 have l0':=HS.out.nd.lt
 go_wp2_with fail
 clear p0' l0'
 refine wp_region_noPanic ?_
 refine wp_region_heldT (EvS w s ia nin cin la 0 cI (some ⟨rb,ro,none⟩) 2 cR [] [r0,r1] X Y W H sb [p0]) 14 (by kernel_rfl) HS.out.drew (fun hHeld=>?_)
 refine tkO [1,2,11,12,13,14,15] 0 rfl ?_
 try simp only [qS,qN,qC,qD]
 refine tkO [2,11,12,13,14,15] 1 rfl ?_
 try simp only [qS,qN,qC,qD]
 refine tkA [11,12,13,14,15] 2 rfl (by
  intro w₁ hSw
  have f0:w₁.cell? ⟨sb,0,none⟩=some (.int .i64 p0.X):=hSw.f.cell 0 _ rfl 0 (by omega)
  have f1:w₁.cell? ⟨sb,1,none⟩=some (.int .i64 p0.Y):=hSw.f.cell 0 _ rfl 1 (by omega)
  have f2:w₁.cell? ⟨sb,2,none⟩=some (.int .i64 p0.W):=hSw.f.cell 0 _ rfl 2 (by omega)
  have f3:w₁.cell? ⟨sb,3,none⟩=some (.int .i64 p0.H):=hSw.f.cell 0 _ rfl 3 (by omega)
  have f4:w₁.cell? ⟨sb,4,none⟩=some (.slice (some ⟨p0.g,0,none⟩) p0.l.length p0.c):=hSw.f.cell 0 _ rfl 4 (by omega)
  go_simp
  try with_reducible rfl) ?_
 try simp only [qS,qN,qC,qD]
 refine tkO [4,5,6,11,12,13,14,15] 3 rfl ?_
 try simp only [qS,qN,qC,qD]
 refine tkA [5,6,11,12,13,14,15] 4 rfl (by
  intro w₁ hSw
  have p3:=hSw.nd.cells.2.2.2
  go_simp
  try with_reducible rfl) ?_
 try simp only [qS,qN,qC,qD]
 refine tkO [6,11,12,13,14,15] 5 rfl ?_
 try simp only [qS,qN,qC,qD]
 refine tkA [11,12,13,14,15] 6 rfl (by
  intro w₁ hSw
  have y0:w₁.cell? ⟨rb,ro,none⟩=some (.float .f32 r0):=hSw.r.cell1 0 (by simp)
  go_simp
  try with_reducible rfl) ?_
 try simp only [qS,qN,qC,qD]
 refine tkO [8,9,10,11,12,13,14,15] 7 rfl ?_
 try simp only [qS,qN,qC,qD]
 refine tkA [9,10,11,12,13,14,15] 8 rfl (by
  intro w₁ hSw
  have p3:=hSw.nd.cells.2.2.2
  go_simp
  try with_reducible rfl) ?_
 try simp only [qS,qN,qC,qD]
 refine tkO [10,11,12,13,14,15] 9 rfl ?_
 try simp only [qS,qN,qC,qD]
 refine tkA [11,12,13,14,15] 10 rfl (by
  intro w₁ hSw
  have y0:w₁.cell? ⟨rb,ro+1,none⟩=some (.float .f32 r1):=hSw.r.cell1 1 (by simp)
  go_simp
  try with_reducible rfl) ?_
 try simp only [qS,qN,qC,qD]
 refine rdA 11 rfl (fun K hK=>?_)
 go_simp
 (with_reducible refine (KC.out _ hHeld.f).mono ?_)
 rintro e w2 ⟨⟨x,y,p,q,a,n,k,rfl,ho⟩,hb⟩
 have hN:=hHeld.call hb
 have HO:=Lib.hid ho
 have HZ:=Lib.hid hHeld.rs.lt
 have HZB:=Lib.hid hHeld.b.size
 clear hb ho
 go_wp2_with fail
 refine ouA hK hN (fun hHeld=>?_)
 clear hK K
 try simp only [qS,qN,qC,qD]
 refine tkO [14,15] 12 rfl ?_
 try simp only [qS,qN,qC,qD]
 refine tkO [14,15] 13 rfl ?_
 try simp only [qS,qN,qC,qD]
 refine rdA 14 rfl (fun K hK=>?_)
 obtain ⟨qf0,qf1,qf2,qf3,qf4⟩:_∧_∧_∧_∧_:=⟨hHeld.rs.frozen 0,hHeld.rs.frozen 1,hHeld.rs.frozen 2,hHeld.rs.frozen 3,hHeld.rs.frozen 4⟩
 obtain ⟨d0,d1,d2,d3,d4⟩:=hHeld.rs.cells
 have lt:=hHeld.rs.lt
 have HB:=Lib.hid hHeld.b
 have HQ:=Lib.hid (fld_store w2 (w.heap.size+2) 0 0 0 0 _ x y p q (.slice a n k) hHeld.rs _ rfl)
 go_simp
 refine ouB hK ?_
 clear hK K
 try simp only [qS,qN,qC,qD]
 refine rdA 15 rfl (fun K hK=>?_)
 exact qx1
set_option maxRecDepth 100000 in
set_option maxHeartbeats 1000000 in
theorem ev_blend (s:ByteArray) (ia:Option Addr) (nin cin cI cR sb cP:Nat) (la:Option Addr) (ra:Option Addr) (p0 p1 p2:Inp) (X Y W H c X2 Y2 W2 H2:Int) (m:List Nat) (w:World) (hz:s.toList=[98,108,101,110,100])
  (hI:ZRow w la []) (hR:SRow w ra []) (hP:InsAt w sb [p0,p1,p2])
  (KC:∀ w',InsAt w' sb [p0,p1,p2]→Calls Tryz.prog 71 #[inpV p0,inpV p1,inpV p2] w' (OpP c X2 Y2 W2 H2 m w')) :
  Calls Tryz.prog 45 #[ndV s ia nin cin la 0 cI ra 0 cR,reg X Y W H,.slice (some ⟨sb,0,none⟩) 3 cP] w (OpP c X2 Y2 W2 H2 m w):=by
 have KC:=Lib.hid KC
 have HS:=Lib.hid (EvS.start (s:=s) (ia:=ia) (nin:=nin) (cin:=cin) (nI:=0) (cI:=cI) (nR:=0) (cR:=cR) (X:=X) (Y:=Y) (W:=W) (H:=H) hI hR hP)
 clear hI hR hP
 go_enter Tryz.func45,Tryz.ntmps45
 go_upto_region 1 with fail
 generalize ((w.alloc (.cells #[.string s,.slice ia nin cin,.slice la 0 cI,.slice ra 0 cR] 61)).alloc (.cells #[.int .i64 X,.int .i64 Y,.int .i64 W,.int .i64 H] 26)).alloc (.cells #[.int .i64 0,.int .i64 0,.int .i64 0,.int .i64 0,.slice none 0 0] 32)=W0 at *
 have p0':=HS.out.nd.cells.1
 have l0':=HS.out.nd.lt
 go_wp2_with fail
 clear p0' l0'
 refine wp_region_noPanic ?_
 refine wp_region_heldT (EvS w s ia nin cin la 0 cI ra 0 cR [] [] X Y W H sb [p0,p1,p2]) 12 (by kernel_rfl) HS.out.drew (fun hHeld=>?_)
 refine tkO [1,2,9,10,11,12,13] 0 rfl ?_
 try simp only [qS,qN,qC,qD]
 refine tkO [2,9,10,11,12,13] 1 rfl ?_
 try simp only [qS,qN,qC,qD]
 refine tkA [9,10,11,12,13] 2 rfl (by
  intro w₁ hSw
  have f0:w₁.cell? ⟨sb,0,none⟩=some (.int .i64 p0.X):=hSw.f.cell 0 _ rfl 0 (by omega)
  have f1:w₁.cell? ⟨sb,1,none⟩=some (.int .i64 p0.Y):=hSw.f.cell 0 _ rfl 1 (by omega)
  have f2:w₁.cell? ⟨sb,2,none⟩=some (.int .i64 p0.W):=hSw.f.cell 0 _ rfl 2 (by omega)
  have f3:w₁.cell? ⟨sb,3,none⟩=some (.int .i64 p0.H):=hSw.f.cell 0 _ rfl 3 (by omega)
  have f4:w₁.cell? ⟨sb,4,none⟩=some (.slice (some ⟨p0.g,0,none⟩) p0.l.length p0.c):=hSw.f.cell 0 _ rfl 4 (by omega)
  go_simp
  try with_reducible rfl) ?_
 try simp only [qS,qN,qC,qD]
 refine tkO [4,5,9,10,11,12,13] 3 rfl ?_
 try simp only [qS,qN,qC,qD]
 refine tkO [5,9,10,11,12,13] 4 rfl ?_
 try simp only [qS,qN,qC,qD]
 refine tkA [9,10,11,12,13] 5 rfl (by
  intro w₁ hSw
  have f0:w₁.cell? ⟨sb,5,none⟩=some (.int .i64 p1.X):=hSw.f.cell 1 _ rfl 0 (by omega)
  have f1:w₁.cell? ⟨sb,6,none⟩=some (.int .i64 p1.Y):=hSw.f.cell 1 _ rfl 1 (by omega)
  have f2:w₁.cell? ⟨sb,7,none⟩=some (.int .i64 p1.W):=hSw.f.cell 1 _ rfl 2 (by omega)
  have f3:w₁.cell? ⟨sb,8,none⟩=some (.int .i64 p1.H):=hSw.f.cell 1 _ rfl 3 (by omega)
  have f4:w₁.cell? ⟨sb,9,none⟩=some (.slice (some ⟨p1.g,0,none⟩) p1.l.length p1.c):=hSw.f.cell 1 _ rfl 4 (by omega)
  go_simp
  try with_reducible rfl) ?_
 try simp only [qS,qN,qC,qD]
 refine tkO [7,8,9,10,11,12,13] 6 rfl ?_
 try simp only [qS,qN,qC,qD]
 refine tkO [8,9,10,11,12,13] 7 rfl ?_
 try simp only [qS,qN,qC,qD]
 refine tkA [9,10,11,12,13] 8 rfl (by
  intro w₁ hSw
  have f0:w₁.cell? ⟨sb,10,none⟩=some (.int .i64 p2.X):=hSw.f.cell 2 _ rfl 0 (by omega)
  have f1:w₁.cell? ⟨sb,11,none⟩=some (.int .i64 p2.Y):=hSw.f.cell 2 _ rfl 1 (by omega)
  have f2:w₁.cell? ⟨sb,12,none⟩=some (.int .i64 p2.W):=hSw.f.cell 2 _ rfl 2 (by omega)
  have f3:w₁.cell? ⟨sb,13,none⟩=some (.int .i64 p2.H):=hSw.f.cell 2 _ rfl 3 (by omega)
  have f4:w₁.cell? ⟨sb,14,none⟩=some (.slice (some ⟨p2.g,0,none⟩) p2.l.length p2.c):=hSw.f.cell 2 _ rfl 4 (by omega)
  go_simp
  try with_reducible rfl) ?_
 try simp only [qS,qN,qC,qD]
 refine rdA 9 rfl (fun K hK=>?_)
 go_simp
 (with_reducible refine (KC.out _ hHeld.f).mono ?_)
 rintro e w2 ⟨⟨x,y,p,q,a,n,k,rfl,ho⟩,hb⟩
 have hN:=hHeld.call hb
 have HO:=Lib.hid ho
 have HZ:=Lib.hid hHeld.rs.lt
 have HZB:=Lib.hid hHeld.b.size
 clear hb ho
 go_wp2_with fail
 refine ouA hK hN (fun hHeld=>?_)
 clear hK K
 try simp only [qS,qN,qC,qD]
 refine tkO [12,13] 10 rfl ?_
 try simp only [qS,qN,qC,qD]
 refine tkO [12,13] 11 rfl ?_
 try simp only [qS,qN,qC,qD]
 refine rdA 12 rfl (fun K hK=>?_)
 obtain ⟨qf0,qf1,qf2,qf3,qf4⟩:_∧_∧_∧_∧_:=⟨hHeld.rs.frozen 0,hHeld.rs.frozen 1,hHeld.rs.frozen 2,hHeld.rs.frozen 3,hHeld.rs.frozen 4⟩
 obtain ⟨d0,d1,d2,d3,d4⟩:=hHeld.rs.cells
 have lt:=hHeld.rs.lt
 have HB:=Lib.hid hHeld.b
 have HQ:=Lib.hid (fld_store w2 (w.heap.size+2) 0 0 0 0 _ x y p q (.slice a n k) hHeld.rs _ rfl)
 go_simp
 refine ouB hK ?_
 clear hK K
 try simp only [qS,qN,qC,qD]
 refine rdA 13 rfl (fun K hK=>?_)
 exact qx1
set_option maxRecDepth 100000 in
set_option maxHeartbeats 1000000 in
theorem ev_select (s:ByteArray) (ia:Option Addr) (nin cin cI rb ro cR sb cP:Nat) (la:Option Addr) (r0 r1 r2:Nat) (p0:Inp) (X Y W H c X2 Y2 W2 H2:Int) (m:List Nat) (w:World) (hz:s.toList=[115,101,108,101,99,116])
  (hI:ZRow w la []) (hR:SRow w (some ⟨rb,ro,none⟩) [r0,r1,r2]) (hP:InsAt w sb [p0])
  (KC:∀ w',InsAt w' sb [p0]→Calls Tryz.prog 72 #[inpV p0,.float .f32 r0,.float .f32 r1,.float .f32 r2] w' (OpP c X2 Y2 W2 H2 m w')) :
  Calls Tryz.prog 45 #[ndV s ia nin cin la 0 cI (some ⟨rb,ro,none⟩) 3 cR,reg X Y W H,.slice (some ⟨sb,0,none⟩) 1 cP] w (OpP c X2 Y2 W2 H2 m w):=by
 have KC:=Lib.hid KC
 have HS:=Lib.hid (EvS.start (s:=s) (ia:=ia) (nin:=nin) (cin:=cin) (nI:=0) (cI:=cI) (nR:=3) (cR:=cR) (X:=X) (Y:=Y) (W:=W) (H:=H) hI hR hP)
 clear hI hR hP
 go_enter Tryz.func45,Tryz.ntmps45
 go_upto_region 1 with fail
 generalize ((w.alloc (.cells #[.string s,.slice ia nin cin,.slice la 0 cI,.slice (some ⟨rb,ro,none⟩) 3 cR] 61)).alloc (.cells #[.int .i64 X,.int .i64 Y,.int .i64 W,.int .i64 H] 26)).alloc (.cells #[.int .i64 0,.int .i64 0,.int .i64 0,.int .i64 0,.slice none 0 0] 32)=W0 at *
 have p0':=HS.out.nd.cells.1
 have l0':=HS.out.nd.lt
 go_wp2_with fail
 clear p0' l0'
 refine wp_region_noPanic ?_
 refine wp_region_heldT (EvS w s ia nin cin la 0 cI (some ⟨rb,ro,none⟩) 3 cR [] [r0,r1,r2] X Y W H sb [p0]) 18 (by kernel_rfl) HS.out.drew (fun hHeld=>?_)
 refine tkO [1,2,15,16,17,18,19] 0 rfl ?_
 try simp only [qS,qN,qC,qD]
 refine tkO [2,15,16,17,18,19] 1 rfl ?_
 try simp only [qS,qN,qC,qD]
 refine tkA [15,16,17,18,19] 2 rfl (by
  intro w₁ hSw
  have f0:w₁.cell? ⟨sb,0,none⟩=some (.int .i64 p0.X):=hSw.f.cell 0 _ rfl 0 (by omega)
  have f1:w₁.cell? ⟨sb,1,none⟩=some (.int .i64 p0.Y):=hSw.f.cell 0 _ rfl 1 (by omega)
  have f2:w₁.cell? ⟨sb,2,none⟩=some (.int .i64 p0.W):=hSw.f.cell 0 _ rfl 2 (by omega)
  have f3:w₁.cell? ⟨sb,3,none⟩=some (.int .i64 p0.H):=hSw.f.cell 0 _ rfl 3 (by omega)
  have f4:w₁.cell? ⟨sb,4,none⟩=some (.slice (some ⟨p0.g,0,none⟩) p0.l.length p0.c):=hSw.f.cell 0 _ rfl 4 (by omega)
  go_simp
  try with_reducible rfl) ?_
 try simp only [qS,qN,qC,qD]
 refine tkO [4,5,6,15,16,17,18,19] 3 rfl ?_
 try simp only [qS,qN,qC,qD]
 refine tkA [5,6,15,16,17,18,19] 4 rfl (by
  intro w₁ hSw
  have p3:=hSw.nd.cells.2.2.2
  go_simp
  try with_reducible rfl) ?_
 try simp only [qS,qN,qC,qD]
 refine tkO [6,15,16,17,18,19] 5 rfl ?_
 try simp only [qS,qN,qC,qD]
 refine tkA [15,16,17,18,19] 6 rfl (by
  intro w₁ hSw
  have y0:w₁.cell? ⟨rb,ro,none⟩=some (.float .f32 r0):=hSw.r.cell1 0 (by simp)
  go_simp
  try with_reducible rfl) ?_
 try simp only [qS,qN,qC,qD]
 refine tkO [8,9,10,15,16,17,18,19] 7 rfl ?_
 try simp only [qS,qN,qC,qD]
 refine tkA [9,10,15,16,17,18,19] 8 rfl (by
  intro w₁ hSw
  have p3:=hSw.nd.cells.2.2.2
  go_simp
  try with_reducible rfl) ?_
 try simp only [qS,qN,qC,qD]
 refine tkO [10,15,16,17,18,19] 9 rfl ?_
 try simp only [qS,qN,qC,qD]
 refine tkA [15,16,17,18,19] 10 rfl (by
  intro w₁ hSw
  have y0:w₁.cell? ⟨rb,ro+1,none⟩=some (.float .f32 r1):=hSw.r.cell1 1 (by simp)
  go_simp
  try with_reducible rfl) ?_
 try simp only [qS,qN,qC,qD]
 refine tkO [12,13,14,15,16,17,18,19] 11 rfl ?_
 try simp only [qS,qN,qC,qD]
 refine tkA [13,14,15,16,17,18,19] 12 rfl (by
  intro w₁ hSw
  have p3:=hSw.nd.cells.2.2.2
  go_simp
  try with_reducible rfl) ?_
 try simp only [qS,qN,qC,qD]
 refine tkO [14,15,16,17,18,19] 13 rfl ?_
 try simp only [qS,qN,qC,qD]
 refine tkA [15,16,17,18,19] 14 rfl (by
  intro w₁ hSw
  have y0:w₁.cell? ⟨rb,ro+2,none⟩=some (.float .f32 r2):=hSw.r.cell1 2 (by simp)
  go_simp
  try with_reducible rfl) ?_
 try simp only [qS,qN,qC,qD]
 refine rdA 15 rfl (fun K hK=>?_)
 go_simp
 (with_reducible refine (KC.out _ hHeld.f).mono ?_)
 rintro e w2 ⟨⟨x,y,p,q,a,n,k,rfl,ho⟩,hb⟩
 have hN:=hHeld.call hb
 have HO:=Lib.hid ho
 have HZ:=Lib.hid hHeld.rs.lt
 have HZB:=Lib.hid hHeld.b.size
 clear hb ho
 go_wp2_with fail
 refine ouA hK hN (fun hHeld=>?_)
 clear hK K
 try simp only [qS,qN,qC,qD]
 refine tkO [18,19] 16 rfl ?_
 try simp only [qS,qN,qC,qD]
 refine tkO [18,19] 17 rfl ?_
 try simp only [qS,qN,qC,qD]
 refine rdA 18 rfl (fun K hK=>?_)
 obtain ⟨qf0,qf1,qf2,qf3,qf4⟩:_∧_∧_∧_∧_:=⟨hHeld.rs.frozen 0,hHeld.rs.frozen 1,hHeld.rs.frozen 2,hHeld.rs.frozen 3,hHeld.rs.frozen 4⟩
 obtain ⟨d0,d1,d2,d3,d4⟩:=hHeld.rs.cells
 have lt:=hHeld.rs.lt
 have HB:=Lib.hid hHeld.b
 have HQ:=Lib.hid (fld_store w2 (w.heap.size+2) 0 0 0 0 _ x y p q (.slice a n k) hHeld.rs _ rfl)
 go_simp
 refine ouB hK ?_
 clear hK K
 try simp only [qS,qN,qC,qD]
 refine rdA 19 rfl (fun K hK=>?_)
 exact qx1
set_option maxRecDepth 100000 in
set_option maxHeartbeats 1000000 in
theorem ev_terrace (s:ByteArray) (ia:Option Addr) (nin cin cI rb ro cR sb cP:Nat) (la:Option Addr) (r0 r1:Nat) (p0:Inp) (X Y W H c X2 Y2 W2 H2:Int) (m:List Nat) (w:World) (hz:s.toList=[116,101,114,114,97,99,101])
  (hI:ZRow w la []) (hR:SRow w (some ⟨rb,ro,none⟩) [r0,r1]) (hP:InsAt w sb [p0])
  (KC:∀ w',InsAt w' sb [p0]→Calls Tryz.prog 73 #[inpV p0,.float .f32 r0,.float .f32 r1] w' (OpP c X2 Y2 W2 H2 m w')) :
  Calls Tryz.prog 45 #[ndV s ia nin cin la 0 cI (some ⟨rb,ro,none⟩) 2 cR,reg X Y W H,.slice (some ⟨sb,0,none⟩) 1 cP] w (OpP c X2 Y2 W2 H2 m w):=by
 have KC:=Lib.hid KC
 have HS:=Lib.hid (EvS.start (s:=s) (ia:=ia) (nin:=nin) (cin:=cin) (nI:=0) (cI:=cI) (nR:=2) (cR:=cR) (X:=X) (Y:=Y) (W:=W) (H:=H) hI hR hP)
 clear hI hR hP
 go_enter Tryz.func45,Tryz.ntmps45
 go_upto_region 1 with fail
 generalize ((w.alloc (.cells #[.string s,.slice ia nin cin,.slice la 0 cI,.slice (some ⟨rb,ro,none⟩) 2 cR] 61)).alloc (.cells #[.int .i64 X,.int .i64 Y,.int .i64 W,.int .i64 H] 26)).alloc (.cells #[.int .i64 0,.int .i64 0,.int .i64 0,.int .i64 0,.slice none 0 0] 32)=W0 at *
 have p0':=HS.out.nd.cells.1
 have l0':=HS.out.nd.lt
 go_wp2_with fail
 clear p0' l0'
 refine wp_region_noPanic ?_
 refine wp_region_heldT (EvS w s ia nin cin la 0 cI (some ⟨rb,ro,none⟩) 2 cR [] [r0,r1] X Y W H sb [p0]) 14 (by kernel_rfl) HS.out.drew (fun hHeld=>?_)
 refine tkO [1,2,11,12,13,14,15] 0 rfl ?_
 try simp only [qS,qN,qC,qD]
 refine tkO [2,11,12,13,14,15] 1 rfl ?_
 try simp only [qS,qN,qC,qD]
 refine tkA [11,12,13,14,15] 2 rfl (by
  intro w₁ hSw
  have f0:w₁.cell? ⟨sb,0,none⟩=some (.int .i64 p0.X):=hSw.f.cell 0 _ rfl 0 (by omega)
  have f1:w₁.cell? ⟨sb,1,none⟩=some (.int .i64 p0.Y):=hSw.f.cell 0 _ rfl 1 (by omega)
  have f2:w₁.cell? ⟨sb,2,none⟩=some (.int .i64 p0.W):=hSw.f.cell 0 _ rfl 2 (by omega)
  have f3:w₁.cell? ⟨sb,3,none⟩=some (.int .i64 p0.H):=hSw.f.cell 0 _ rfl 3 (by omega)
  have f4:w₁.cell? ⟨sb,4,none⟩=some (.slice (some ⟨p0.g,0,none⟩) p0.l.length p0.c):=hSw.f.cell 0 _ rfl 4 (by omega)
  go_simp
  try with_reducible rfl) ?_
 try simp only [qS,qN,qC,qD]
 refine tkO [4,5,6,11,12,13,14,15] 3 rfl ?_
 try simp only [qS,qN,qC,qD]
 refine tkA [5,6,11,12,13,14,15] 4 rfl (by
  intro w₁ hSw
  have p3:=hSw.nd.cells.2.2.2
  go_simp
  try with_reducible rfl) ?_
 try simp only [qS,qN,qC,qD]
 refine tkO [6,11,12,13,14,15] 5 rfl ?_
 try simp only [qS,qN,qC,qD]
 refine tkA [11,12,13,14,15] 6 rfl (by
  intro w₁ hSw
  have y0:w₁.cell? ⟨rb,ro,none⟩=some (.float .f32 r0):=hSw.r.cell1 0 (by simp)
  go_simp
  try with_reducible rfl) ?_
 try simp only [qS,qN,qC,qD]
 refine tkO [8,9,10,11,12,13,14,15] 7 rfl ?_
 try simp only [qS,qN,qC,qD]
 refine tkA [9,10,11,12,13,14,15] 8 rfl (by
  intro w₁ hSw
  have p3:=hSw.nd.cells.2.2.2
  go_simp
  try with_reducible rfl) ?_
 try simp only [qS,qN,qC,qD]
 refine tkO [10,11,12,13,14,15] 9 rfl ?_
 try simp only [qS,qN,qC,qD]
 refine tkA [11,12,13,14,15] 10 rfl (by
  intro w₁ hSw
  have y0:w₁.cell? ⟨rb,ro+1,none⟩=some (.float .f32 r1):=hSw.r.cell1 1 (by simp)
  go_simp
  try with_reducible rfl) ?_
 try simp only [qS,qN,qC,qD]
 refine rdA 11 rfl (fun K hK=>?_)
 go_simp
 (with_reducible refine (KC.out _ hHeld.f).mono ?_)
 rintro e w2 ⟨⟨x,y,p,q,a,n,k,rfl,ho⟩,hb⟩
 have hN:=hHeld.call hb
 have HO:=Lib.hid ho
 have HZ:=Lib.hid hHeld.rs.lt
 have HZB:=Lib.hid hHeld.b.size
 clear hb ho
 go_wp2_with fail
 refine ouA hK hN (fun hHeld=>?_)
 clear hK K
 try simp only [qS,qN,qC,qD]
 refine tkO [14,15] 12 rfl ?_
 try simp only [qS,qN,qC,qD]
 refine tkO [14,15] 13 rfl ?_
 try simp only [qS,qN,qC,qD]
 refine rdA 14 rfl (fun K hK=>?_)
 obtain ⟨qf0,qf1,qf2,qf3,qf4⟩:_∧_∧_∧_∧_:=⟨hHeld.rs.frozen 0,hHeld.rs.frozen 1,hHeld.rs.frozen 2,hHeld.rs.frozen 3,hHeld.rs.frozen 4⟩
 obtain ⟨d0,d1,d2,d3,d4⟩:=hHeld.rs.cells
 have lt:=hHeld.rs.lt
 have HB:=Lib.hid hHeld.b
 have HQ:=Lib.hid (fld_store w2 (w.heap.size+2) 0 0 0 0 _ x y p q (.slice a n k) hHeld.rs _ rfl)
 go_simp
 refine ouB hK ?_
 clear hK K
 try simp only [qS,qN,qC,qD]
 refine rdA 15 rfl (fun K hK=>?_)
 exact qx1
set_option maxRecDepth 100000 in
set_option maxHeartbeats 1000000 in
theorem ev_dither (s:ByteArray) (ia:Option Addr) (nin cin b o cI rb ro cR sb cP:Nat) (i0:Int) (r0:Nat) (p0:Inp) (X Y W H c X2 Y2 W2 H2:Int) (m:List Nat) (w:World) (hz:s.toList=[100,105,116,104,101,114])
  (hI:ZRow w (some ⟨b,o,none⟩) [i0]) (hR:SRow w (some ⟨rb,ro,none⟩) [r0]) (hP:InsAt w sb [p0])
  (KC:∀ w',InsAt w' sb [p0]→Calls Tryz.prog 74 #[inpV p0,.int .u32 (IntKind.u32.wrap i0),.float .f32 r0] w' (OpP c X2 Y2 W2 H2 m w')) :
  Calls Tryz.prog 45 #[ndV s ia nin cin (some ⟨b,o,none⟩) 1 cI (some ⟨rb,ro,none⟩) 1 cR,reg X Y W H,.slice (some ⟨sb,0,none⟩) 1 cP] w (OpP c X2 Y2 W2 H2 m w):=by
 have KC:=Lib.hid KC
 have HS:=Lib.hid (EvS.start (s:=s) (ia:=ia) (nin:=nin) (cin:=cin) (nI:=1) (cI:=cI) (nR:=1) (cR:=cR) (X:=X) (Y:=Y) (W:=W) (H:=H) hI hR hP)
 clear hI hR hP
 go_enter Tryz.func45,Tryz.ntmps45
 go_upto_region 1 with fail
 generalize ((w.alloc (.cells #[.string s,.slice ia nin cin,.slice (some ⟨b,o,none⟩) 1 cI,.slice (some ⟨rb,ro,none⟩) 1 cR] 61)).alloc (.cells #[.int .i64 X,.int .i64 Y,.int .i64 W,.int .i64 H] 26)).alloc (.cells #[.int .i64 0,.int .i64 0,.int .i64 0,.int .i64 0,.slice none 0 0] 32)=W0 at *
 have p0':=HS.out.nd.cells.1
 have l0':=HS.out.nd.lt
 go_wp2_with fail
 clear p0' l0'
 refine wp_region_noPanic ?_
 refine wp_region_heldT (EvS w s ia nin cin (some ⟨b,o,none⟩) 1 cI (some ⟨rb,ro,none⟩) 1 cR [i0] [r0] X Y W H sb [p0]) 15 (by kernel_rfl) HS.out.drew (fun hHeld=>?_)
 refine tkO [1,2,12,13,14,15,16] 0 rfl ?_
 try simp only [qS,qN,qC,qD]
 refine tkO [2,12,13,14,15,16] 1 rfl ?_
 try simp only [qS,qN,qC,qD]
 refine tkA [12,13,14,15,16] 2 rfl (by
  intro w₁ hSw
  have f0:w₁.cell? ⟨sb,0,none⟩=some (.int .i64 p0.X):=hSw.f.cell 0 _ rfl 0 (by omega)
  have f1:w₁.cell? ⟨sb,1,none⟩=some (.int .i64 p0.Y):=hSw.f.cell 0 _ rfl 1 (by omega)
  have f2:w₁.cell? ⟨sb,2,none⟩=some (.int .i64 p0.W):=hSw.f.cell 0 _ rfl 2 (by omega)
  have f3:w₁.cell? ⟨sb,3,none⟩=some (.int .i64 p0.H):=hSw.f.cell 0 _ rfl 3 (by omega)
  have f4:w₁.cell? ⟨sb,4,none⟩=some (.slice (some ⟨p0.g,0,none⟩) p0.l.length p0.c):=hSw.f.cell 0 _ rfl 4 (by omega)
  go_simp
  try with_reducible rfl) ?_
 try simp only [qS,qN,qC,qD]
 refine tkO [4,5,6,7,12,13,14,15,16] 3 rfl ?_
 try simp only [qS,qN,qC,qD]
 refine tkA [5,6,7,12,13,14,15,16] 4 rfl (by
  intro w₁ hSw
  have p2:=hSw.nd.cells.2.2.1
  go_simp
  try with_reducible rfl) ?_
 try simp only [qS,qN,qC,qD]
 refine tkO [6,7,12,13,14,15,16] 5 rfl ?_
 try simp only [qS,qN,qC,qD]
 refine tkA [7,12,13,14,15,16] 6 rfl (by
  intro w₁ hSw
  have x0:w₁.cell? ⟨b,o,none⟩=some (.int .i64 i0):=hSw.i.at_ 0 (by simp)
  go_simp
  try with_reducible rfl) ?_
 try simp only [qS,qN,qC,qD]
 refine tkO [12,13,14,15,16] 7 rfl ?_
 try simp only [qS,qN,qC,qD]
 refine tkO [9,10,11,12,13,14,15,16] 8 rfl ?_
 try simp only [qS,qN,qC,qD]
 refine tkA [10,11,12,13,14,15,16] 9 rfl (by
  intro w₁ hSw
  have p3:=hSw.nd.cells.2.2.2
  go_simp
  try with_reducible rfl) ?_
 try simp only [qS,qN,qC,qD]
 refine tkO [11,12,13,14,15,16] 10 rfl ?_
 try simp only [qS,qN,qC,qD]
 refine tkA [12,13,14,15,16] 11 rfl (by
  intro w₁ hSw
  have y0:w₁.cell? ⟨rb,ro,none⟩=some (.float .f32 r0):=hSw.r.cell1 0 (by simp)
  go_simp
  try with_reducible rfl) ?_
 try simp only [qS,qN,qC,qD]
 refine rdA 12 rfl (fun K hK=>?_)
 go_simp
 (with_reducible refine (KC.out _ hHeld.f).mono ?_)
 rintro e w2 ⟨⟨x,y,p,q,a,n,k,rfl,ho⟩,hb⟩
 have hN:=hHeld.call hb
 have HO:=Lib.hid ho
 have HZ:=Lib.hid hHeld.rs.lt
 have HZB:=Lib.hid hHeld.b.size
 clear hb ho
 go_wp2_with fail
 refine ouA hK hN (fun hHeld=>?_)
 clear hK K
 try simp only [qS,qN,qC,qD]
 refine tkO [15,16] 13 rfl ?_
 try simp only [qS,qN,qC,qD]
 refine tkO [15,16] 14 rfl ?_
 try simp only [qS,qN,qC,qD]
 refine rdA 15 rfl (fun K hK=>?_)
 obtain ⟨qf0,qf1,qf2,qf3,qf4⟩:_∧_∧_∧_∧_:=⟨hHeld.rs.frozen 0,hHeld.rs.frozen 1,hHeld.rs.frozen 2,hHeld.rs.frozen 3,hHeld.rs.frozen 4⟩
 obtain ⟨d0,d1,d2,d3,d4⟩:=hHeld.rs.cells
 have lt:=hHeld.rs.lt
 have HB:=Lib.hid hHeld.b
 have HQ:=Lib.hid (fld_store w2 (w.heap.size+2) 0 0 0 0 _ x y p q (.slice a n k) hHeld.rs _ rfl)
 go_simp
 refine ouB hK ?_
 clear hK K
 try simp only [qS,qN,qC,qD]
 refine rdA 16 rfl (fun K hK=>?_)
 exact qx1
set_option maxRecDepth 100000 in
set_option maxHeartbeats 1000000 in
theorem ev_stamp (s:ByteArray) (ia:Option Addr) (nin cin b o cI rb ro cR sb cP:Nat) (i0 i1 i2 i3:Int) (r0:Nat) (p0:Inp) (X Y W H c X2 Y2 W2 H2:Int) (m:List Nat) (w:World) (hz:s.toList=[115,116,97,109,112])
  (hI:ZRow w (some ⟨b,o,none⟩) [i0,i1,i2,i3]) (hR:SRow w (some ⟨rb,ro,none⟩) [r0]) (hP:InsAt w sb [p0])
  (KC:∀ w',InsAt w' sb [p0]→Calls Tryz.prog 75 #[inpV p0,.agg #[.int .i64 i0,.int .i64 i1,.int .i64 i2,.int .i64 i3,.float .f32 r0]] w' (OpP c X2 Y2 W2 H2 m w')) :
  Calls Tryz.prog 45 #[ndV s ia nin cin (some ⟨b,o,none⟩) 4 cI (some ⟨rb,ro,none⟩) 1 cR,reg X Y W H,.slice (some ⟨sb,0,none⟩) 1 cP] w (OpP c X2 Y2 W2 H2 m w):=by
 have KC:=Lib.hid KC
 have KM:=Lib.hid (fun w' hI hR=>mk_brush s ia nin cin b o cI rb ro 1 cR i0 i1 i2 i3 r0 [r0] w' hI hR rfl rfl)
 have HS:=Lib.hid (EvS.start (s:=s) (ia:=ia) (nin:=nin) (cin:=cin) (nI:=4) (cI:=cI) (nR:=1) (cR:=cR) (X:=X) (Y:=Y) (W:=W) (H:=H) hI hR hP)
 clear hI hR hP
 go_enter Tryz.func45,Tryz.ntmps45
 go_upto_region 1 with fail
 generalize ((w.alloc (.cells #[.string s,.slice ia nin cin,.slice (some ⟨b,o,none⟩) 4 cI,.slice (some ⟨rb,ro,none⟩) 1 cR] 61)).alloc (.cells #[.int .i64 X,.int .i64 Y,.int .i64 W,.int .i64 H] 26)).alloc (.cells #[.int .i64 0,.int .i64 0,.int .i64 0,.int .i64 0,.slice none 0 0] 32)=W0 at *
 have p0':=HS.out.nd.cells.1
 have l0':=HS.out.nd.lt
 go_wp2_with fail
 clear p0' l0'
 refine wp_region_noPanic ?_
 refine wp_region_heldT (EvS w s ia nin cin (some ⟨b,o,none⟩) 4 cI (some ⟨rb,ro,none⟩) 1 cR [i0,i1,i2,i3] [r0] X Y W H sb [p0]) 8 (by kernel_rfl) HS.out.drew (fun hHeld=>?_)
 refine tkO [1,2,5,6,7,8,9] 0 rfl ?_
 try simp only [qS,qN,qC,qD]
 refine tkO [2,5,6,7,8,9] 1 rfl ?_
 try simp only [qS,qN,qC,qD]
 refine tkA [5,6,7,8,9] 2 rfl (by
  intro w₁ hSw
  have f0:w₁.cell? ⟨sb,0,none⟩=some (.int .i64 p0.X):=hSw.f.cell 0 _ rfl 0 (by omega)
  have f1:w₁.cell? ⟨sb,1,none⟩=some (.int .i64 p0.Y):=hSw.f.cell 0 _ rfl 1 (by omega)
  have f2:w₁.cell? ⟨sb,2,none⟩=some (.int .i64 p0.W):=hSw.f.cell 0 _ rfl 2 (by omega)
  have f3:w₁.cell? ⟨sb,3,none⟩=some (.int .i64 p0.H):=hSw.f.cell 0 _ rfl 3 (by omega)
  have f4:w₁.cell? ⟨sb,4,none⟩=some (.slice (some ⟨p0.g,0,none⟩) p0.l.length p0.c):=hSw.f.cell 0 _ rfl 4 (by omega)
  go_simp
  try with_reducible rfl) ?_
 try simp only [qS,qN,qC,qD]
 refine tkA [4,5,6,7,8,9] 3 rfl (by
  intro w₁ hSw
  obtain ⟨p0,p1,p2,p3⟩:=hSw.nd.cells
  go_simp
  try with_reducible rfl) ?_
 try simp only [qS,qN,qC,qD]
 refine rdA 4 rfl (fun K hK=>?_)
 go_simp
 (with_reducible refine (KM.out _ hHeld.i hHeld.r).mono ?_)
 rintro e wm ⟨rfl,hb⟩
 have hN:=hHeld.call hb
 clear hb
 go_wp2_with fail
 refine ouA hK hN (fun hHeld=>?_)
 clear hK K
 try simp only [qS,qN,qC,qD]
 refine rdA 5 rfl (fun K hK=>?_)
 go_simp
 (with_reducible refine (KC.out _ hHeld.f).mono ?_)
 rintro e w2 ⟨⟨x,y,p,q,a,n,k,rfl,ho⟩,hb⟩
 have hN:=hHeld.call hb
 have HO:=Lib.hid ho
 have HZ:=Lib.hid hHeld.rs.lt
 have HZB:=Lib.hid hHeld.b.size
 clear hb ho
 go_wp2_with fail
 refine ouA hK hN (fun hHeld=>?_)
 clear hK K
 try simp only [qS,qN,qC,qD]
 refine tkO [8,9] 6 rfl ?_
 try simp only [qS,qN,qC,qD]
 refine tkO [8,9] 7 rfl ?_
 try simp only [qS,qN,qC,qD]
 refine rdA 8 rfl (fun K hK=>?_)
 obtain ⟨qf0,qf1,qf2,qf3,qf4⟩:_∧_∧_∧_∧_:=⟨hHeld.rs.frozen 0,hHeld.rs.frozen 1,hHeld.rs.frozen 2,hHeld.rs.frozen 3,hHeld.rs.frozen 4⟩
 obtain ⟨d0,d1,d2,d3,d4⟩:=hHeld.rs.cells
 have lt:=hHeld.rs.lt
 have HB:=Lib.hid hHeld.b
 have HQ:=Lib.hid (fld_store w2 (w.heap.size+2) 0 0 0 0 _ x y p q (.slice a n k) hHeld.rs _ rfl)
 go_simp
 refine ouB hK ?_
 clear hK K
 try simp only [qS,qN,qC,qD]
 refine rdA 9 rfl (fun K hK=>?_)
 exact qx1
set_option maxRecDepth 100000 in
set_option maxHeartbeats 1000000 in
theorem ev_fault (s:ByteArray) (ia:Option Addr) (nin cin b o cI rb ro cR sb cP:Nat) (i0 i1 i2 i3:Int) (r0:Nat) (p0:Inp) (X Y W H c X2 Y2 W2 H2:Int) (m:List Nat) (w:World) (hz:s.toList=[102,97,117,108,116])
  (hI:ZRow w (some ⟨b,o,none⟩) [i0,i1,i2,i3]) (hR:SRow w (some ⟨rb,ro,none⟩) [r0]) (hP:InsAt w sb [p0])
  (KC:∀ w' kb,InsAt w' sb [p0]→w'.heap[kb]?=some (.cells #[.int .i64 i0,.int .i64 i1,.int .i64 i2,.int .i64 i3,.float .f32 r0] 96 (0,0))→Calls Tryz.prog 76 #[inpV p0,.slice (some ⟨kb,0,none⟩) 1 1] w' (OpP c X2 Y2 W2 H2 m w')) :
  Calls Tryz.prog 45 #[ndV s ia nin cin (some ⟨b,o,none⟩) 4 cI (some ⟨rb,ro,none⟩) 1 cR,reg X Y W H,.slice (some ⟨sb,0,none⟩) 1 cP] w (OpP c X2 Y2 W2 H2 m w):=by
 have KC:=Lib.hid KC
 have KM:=Lib.hid (fun w' hI hR=>mk_fault s ia nin cin b o cI rb ro 1 cR i0 i1 i2 i3 r0 [r0] w' hI hR rfl rfl)
 have HS:=Lib.hid (EvS.start (s:=s) (ia:=ia) (nin:=nin) (cin:=cin) (nI:=4) (cI:=cI) (nR:=1) (cR:=cR) (X:=X) (Y:=Y) (W:=W) (H:=H) hI hR hP)
 clear hI hR hP
 go_enter Tryz.func45,Tryz.ntmps45
 go_upto_region 1 with fail
 generalize ((w.alloc (.cells #[.string s,.slice ia nin cin,.slice (some ⟨b,o,none⟩) 4 cI,.slice (some ⟨rb,ro,none⟩) 1 cR] 61)).alloc (.cells #[.int .i64 X,.int .i64 Y,.int .i64 W,.int .i64 H] 26)).alloc (.cells #[.int .i64 0,.int .i64 0,.int .i64 0,.int .i64 0,.slice none 0 0] 32)=W0 at *
 have p0':=HS.out.nd.cells.1
 have l0':=HS.out.nd.lt
 go_wp2_with fail
 clear p0' l0'
 refine wp_region_noPanic ?_
 refine wp_region_heldT (EvS w s ia nin cin (some ⟨b,o,none⟩) 4 cI (some ⟨rb,ro,none⟩) 1 cR [i0,i1,i2,i3] [r0] X Y W H sb [p0]) 9 (by kernel_rfl) HS.out.drew (fun hHeld=>?_)
 refine tkO [1,2,6,7,8,9,10] 0 rfl ?_
 try simp only [qS,qN,qC,qD]
 refine tkO [2,6,7,8,9,10] 1 rfl ?_
 try simp only [qS,qN,qC,qD]
 refine tkA [6,7,8,9,10] 2 rfl (by
  intro w₁ hSw
  have f0:w₁.cell? ⟨sb,0,none⟩=some (.int .i64 p0.X):=hSw.f.cell 0 _ rfl 0 (by omega)
  have f1:w₁.cell? ⟨sb,1,none⟩=some (.int .i64 p0.Y):=hSw.f.cell 0 _ rfl 1 (by omega)
  have f2:w₁.cell? ⟨sb,2,none⟩=some (.int .i64 p0.W):=hSw.f.cell 0 _ rfl 2 (by omega)
  have f3:w₁.cell? ⟨sb,3,none⟩=some (.int .i64 p0.H):=hSw.f.cell 0 _ rfl 3 (by omega)
  have f4:w₁.cell? ⟨sb,4,none⟩=some (.slice (some ⟨p0.g,0,none⟩) p0.l.length p0.c):=hSw.f.cell 0 _ rfl 4 (by omega)
  go_simp
  try with_reducible rfl) ?_
 try simp only [qS,qN,qC,qD]
 refine tkA [4,5,6,7,8,9,10] 3 rfl (by
  intro w₁ hSw
  obtain ⟨p0,p1,p2,p3⟩:=hSw.nd.cells
  go_simp
  try with_reducible rfl) ?_
 try simp only [qS,qN,qC,qD]
 refine rdA 4 rfl (fun K hK=>?_)
 go_simp
 (with_reducible refine (KM.out _ hHeld.i hHeld.r).mono ?_)
 rintro e wm ⟨rfl,hb⟩
 have hN:=hHeld.call hb
 clear hb
 go_wp2_with fail
 refine ouA hK hN (fun hHeld=>?_)
 clear hK K
 try simp only [qS,qN,qC,qD]
 refine rdA 5 rfl (fun K hK=>?_)
 go_simp
 have hb0:Below wm.heap.size wm (wm.alloc (.cells #[.int .i64 i0,.int .i64 i1,.int .i64 i2,.int .i64 i3,.float .f32 r0] 96)):=qBl
 have hN:=hHeld.call hb0
 have hbk:=heap_alloc_new wm (.cells #[.int .i64 i0,.int .i64 i1,.int .i64 i2,.int .i64 i3,.float .f32 r0] 96)
 refine ouA hK hN (fun hHeld=>?_)
 clear hK K
 try simp only [qS,qN,qC,qD]
 refine rdA 6 rfl (fun K hK=>?_)
 go_simp
 (with_reducible refine (KC.out _ _ hHeld.f hbk).mono ?_)
 rintro e w2 ⟨⟨x,y,p,q,a,n,k,rfl,ho⟩,hb⟩
 have hN:=hHeld.call hb
 have HO:=Lib.hid ho
 have HZ:=Lib.hid hHeld.rs.lt
 have HZB:=Lib.hid hHeld.b.size
 clear hb ho
 go_wp2_with fail
 refine ouA hK hN (fun hHeld=>?_)
 clear hK K
 try simp only [qS,qN,qC,qD]
 refine tkO [9,10] 7 rfl ?_
 try simp only [qS,qN,qC,qD]
 refine tkO [9,10] 8 rfl ?_
 try simp only [qS,qN,qC,qD]
 refine rdA 9 rfl (fun K hK=>?_)
 obtain ⟨qf0,qf1,qf2,qf3,qf4⟩:_∧_∧_∧_∧_:=⟨hHeld.rs.frozen 0,hHeld.rs.frozen 1,hHeld.rs.frozen 2,hHeld.rs.frozen 3,hHeld.rs.frozen 4⟩
 obtain ⟨d0,d1,d2,d3,d4⟩:=hHeld.rs.cells
 have lt:=hHeld.rs.lt
 have HB:=Lib.hid hHeld.b
 have HQ:=Lib.hid (fld_store w2 (w.heap.size+2) 0 0 0 0 _ x y p q (.slice a n k) hHeld.rs _ rfl)
 go_simp
 refine ouB hK ?_
 clear hK K
 try simp only [qS,qN,qC,qD]
 refine rdA 10 rfl (fun K hK=>?_)
 exact qx1
set_option maxRecDepth 100000 in
set_option maxHeartbeats 1000000 in
theorem ev_fold (s:ByteArray) (ia:Option Addr) (nin cin b o cI rb ro cR sb cP:Nat) (i0 i1 i2:Int) (r0:Nat) (p0:Inp) (X Y W H c X2 Y2 W2 H2:Int) (m:List Nat) (w:World) (hz:s.toList=[102,111,108,100])
  (hI:ZRow w (some ⟨b,o,none⟩) [i0,i1,i2]) (hR:SRow w (some ⟨rb,ro,none⟩) [r0]) (hP:InsAt w sb [p0])
  (KC:∀ w' kb,InsAt w' sb [p0]→w'.heap[kb]?=some (.cells #[.int .i64 i0,.int .i64 i1,.int .i64 i2,.float .f32 r0] 100 (0,0))→Calls Tryz.prog 77 #[inpV p0,.slice (some ⟨kb,0,none⟩) 1 1] w' (OpP c X2 Y2 W2 H2 m w')) :
  Calls Tryz.prog 45 #[ndV s ia nin cin (some ⟨b,o,none⟩) 3 cI (some ⟨rb,ro,none⟩) 1 cR,reg X Y W H,.slice (some ⟨sb,0,none⟩) 1 cP] w (OpP c X2 Y2 W2 H2 m w):=by
 have KC:=Lib.hid KC
 have KM:=Lib.hid (fun w' hI hR=>mk_fold s ia nin cin b o cI rb ro 1 cR i0 i1 i2 r0 [r0] w' hI hR rfl rfl)
 have HS:=Lib.hid (EvS.start (s:=s) (ia:=ia) (nin:=nin) (cin:=cin) (nI:=3) (cI:=cI) (nR:=1) (cR:=cR) (X:=X) (Y:=Y) (W:=W) (H:=H) hI hR hP)
 clear hI hR hP
 go_enter Tryz.func45,Tryz.ntmps45
 go_upto_region 1 with fail
 generalize ((w.alloc (.cells #[.string s,.slice ia nin cin,.slice (some ⟨b,o,none⟩) 3 cI,.slice (some ⟨rb,ro,none⟩) 1 cR] 61)).alloc (.cells #[.int .i64 X,.int .i64 Y,.int .i64 W,.int .i64 H] 26)).alloc (.cells #[.int .i64 0,.int .i64 0,.int .i64 0,.int .i64 0,.slice none 0 0] 32)=W0 at *
 have p0':=HS.out.nd.cells.1
 have l0':=HS.out.nd.lt
 go_wp2_with fail
 clear p0' l0'
 refine wp_region_noPanic ?_
 refine wp_region_heldT (EvS w s ia nin cin (some ⟨b,o,none⟩) 3 cI (some ⟨rb,ro,none⟩) 1 cR [i0,i1,i2] [r0] X Y W H sb [p0]) 9 (by kernel_rfl) HS.out.drew (fun hHeld=>?_)
 refine tkO [1,2,6,7,8,9,10] 0 rfl ?_
 try simp only [qS,qN,qC,qD]
 refine tkO [2,6,7,8,9,10] 1 rfl ?_
 try simp only [qS,qN,qC,qD]
 refine tkA [6,7,8,9,10] 2 rfl (by
  intro w₁ hSw
  have f0:w₁.cell? ⟨sb,0,none⟩=some (.int .i64 p0.X):=hSw.f.cell 0 _ rfl 0 (by omega)
  have f1:w₁.cell? ⟨sb,1,none⟩=some (.int .i64 p0.Y):=hSw.f.cell 0 _ rfl 1 (by omega)
  have f2:w₁.cell? ⟨sb,2,none⟩=some (.int .i64 p0.W):=hSw.f.cell 0 _ rfl 2 (by omega)
  have f3:w₁.cell? ⟨sb,3,none⟩=some (.int .i64 p0.H):=hSw.f.cell 0 _ rfl 3 (by omega)
  have f4:w₁.cell? ⟨sb,4,none⟩=some (.slice (some ⟨p0.g,0,none⟩) p0.l.length p0.c):=hSw.f.cell 0 _ rfl 4 (by omega)
  go_simp
  try with_reducible rfl) ?_
 try simp only [qS,qN,qC,qD]
 refine tkA [4,5,6,7,8,9,10] 3 rfl (by
  intro w₁ hSw
  obtain ⟨p0,p1,p2,p3⟩:=hSw.nd.cells
  go_simp
  try with_reducible rfl) ?_
 try simp only [qS,qN,qC,qD]
 refine rdA 4 rfl (fun K hK=>?_)
 go_simp
 (with_reducible refine (KM.out _ hHeld.i hHeld.r).mono ?_)
 rintro e wm ⟨rfl,hb⟩
 have hN:=hHeld.call hb
 clear hb
 go_wp2_with fail
 refine ouA hK hN (fun hHeld=>?_)
 clear hK K
 try simp only [qS,qN,qC,qD]
 refine rdA 5 rfl (fun K hK=>?_)
 go_simp
 have hb0:Below wm.heap.size wm (wm.alloc (.cells #[.int .i64 i0,.int .i64 i1,.int .i64 i2,.float .f32 r0] 100)):=qBl
 have hN:=hHeld.call hb0
 have hbk:=heap_alloc_new wm (.cells #[.int .i64 i0,.int .i64 i1,.int .i64 i2,.float .f32 r0] 100)
 refine ouA hK hN (fun hHeld=>?_)
 clear hK K
 try simp only [qS,qN,qC,qD]
 refine rdA 6 rfl (fun K hK=>?_)
 go_simp
 (with_reducible refine (KC.out _ _ hHeld.f hbk).mono ?_)
 rintro e w2 ⟨⟨x,y,p,q,a,n,k,rfl,ho⟩,hb⟩
 have hN:=hHeld.call hb
 have HO:=Lib.hid ho
 have HZ:=Lib.hid hHeld.rs.lt
 have HZB:=Lib.hid hHeld.b.size
 clear hb ho
 go_wp2_with fail
 refine ouA hK hN (fun hHeld=>?_)
 clear hK K
 try simp only [qS,qN,qC,qD]
 refine tkO [9,10] 7 rfl ?_
 try simp only [qS,qN,qC,qD]
 refine tkO [9,10] 8 rfl ?_
 try simp only [qS,qN,qC,qD]
 refine rdA 9 rfl (fun K hK=>?_)
 obtain ⟨qf0,qf1,qf2,qf3,qf4⟩:_∧_∧_∧_∧_:=⟨hHeld.rs.frozen 0,hHeld.rs.frozen 1,hHeld.rs.frozen 2,hHeld.rs.frozen 3,hHeld.rs.frozen 4⟩
 obtain ⟨d0,d1,d2,d3,d4⟩:=hHeld.rs.cells
 have lt:=hHeld.rs.lt
 have HB:=Lib.hid hHeld.b
 have HQ:=Lib.hid (fld_store w2 (w.heap.size+2) 0 0 0 0 _ x y p q (.slice a n k) hHeld.rs _ rfl)
 go_simp
 refine ouB hK ?_
 clear hK K
 try simp only [qS,qN,qC,qD]
 refine rdA 10 rfl (fun K hK=>?_)
 exact qx1
end Go.Proofs.YtmggflgdoioajaaGreat
