import Derived.Test.YtmggflgdoioajaaGreatG05
import Derived.BigQuiet
import Derived.Deep.QuietTactic
import Derived.Deep.RegionHeld3
import Derived.WalkLawsBesides
set_option linter.unusedSimpArgs false
set_option linter.unusedVariables false
namespace Go.Proofs.YtmggflgdoioajaaGreat
open Go.ChangeShapes Go.WideShapes Go.ChangeAt Go.RowKit
open Ieee.Format (fin finE htE allFin allHt all_true all_false mulF subF addF Ht Bd divF rootF floorF easeF mixF)
theorem But.setq {B:Nat} {q:Nat→Prop} {w:World} {p:Addr} (u:Value) (h:q p.block):But B q w (w.setCell p u):=by
 refine ⟨(Below.setCell (Below.refl 0 w) (Nat.zero_le _) u).os,(Below.setCell (Below.refl 0 w) (Nat.zero_le _) u).tape,(Below.setCell (Below.refl 0 w) (Nat.zero_le _) u).output,(Below.setCell (Below.refl 0 w) (Nat.zero_le _) u).size,?_⟩
 intro k _ hk
 exact Below.heap_setCell w p u k (fun e=>hk (e ▸ h))
theorem But.lowp {B p:Nat} {w w':World} (h:But B (fun k=>k=p) w w') (hp:p≤B):Below p w w':=by
 refine ⟨h.os,h.tape,h.output,h.size,fun k hk=>?_⟩
 exact h.block k (by omega) (by omega)
theorem Blk.but {w w':World} {B p k:Nat} {cs:Array Value} {t:TypeId} (h:Blk w k cs t) (hb:But B (fun j=>j=p) w w') (hk:k<B) (hp:k≠p):Blk w' k cs t:=(hb.block k hk hp).trans h
theorem Fld.but {w w':World} {B p k:Nat} {X Y W H:Int} {v:Value} (h:Fld w k X Y W H v) (hb:But B (fun j=>j=p) w w') (hk:k<B) (hp:k≠p):Fld w' k X Y W H v:=(hb.block k hk hp).trans h
theorem SRow.but {w w':World} {B p b o:Nat} {l:List Nat} (h:SRow w (some ⟨b,o,none⟩) l) (hb:But B (fun j=>j=p) w w') (hk:b<B) (hp:b≠p):SRow w' (some ⟨b,o,none⟩) l:=by
 refine ⟨h.1,?_⟩
 rcases h.2 with h0|⟨b',o',e,h1⟩
 ·exact .inl h0
 ·simp only [Option.some.injEq,Addr.mk.injEq] at e
  obtain ⟨rfl,rfl,_⟩:=e
  exact .inr ⟨b,o,rfl,fun i hi=>by rw [hb.cell hk hp];exact h1 i hi⟩
abbrev CntAt (w:World) (p:Nat) (c:Int):Prop:=Blk w p #[.int .i64 c] 3
def MakeCP (p:Nat) (X Y W H:Int) (m:List Nat) (w:World) (e:Ending) (w':World):Prop:=
 (∃ g cap,e=.returned (fldV X Y W H (some ⟨g,0,none⟩) m.length cap)∧OwnF w' w.heap.size g cap m)∧Below p w w'
theorem make_cnt (gn:Nat) (caps:Array Value) (p:Nat) (ψ:Int→Int→Nat) (X Y:Int) (Wn Hn:Nat) (w:World) (h1:1≤Wn) (h2:Wn≤512) (h3:1≤Hn) (h4:Hn≤512)
  (h5:-8388608≤X) (h6:X≤8388608) (h7:-8388608≤Y) (h8:Y≤8388608)
  (eg:∀ args w,(callFunc gn args).run Tryz.prog w=.ok (.enter gn args) w) (hp:CntAt w p (-1))
  (hψ:∀ x y,ψ x y<4294967296)
  (hf:∀ i j k:Nat,i<Wn→j<Hn→k=j*Wn+i→∀ W',But w.heap.size (fun k=>k=p) w W'→CntAt W' p ((k:Int)-1)→Calls Tryz.prog gn (#[.int .i64 (X+(i:Int)),.int .i64 (Y+(j:Int))] ++ caps) W' fun e w'=>e=.returned (.float .f32 (ψ (X+(i:Int)) (Y+(j:Int))))∧But W'.heap.size (fun k=>k=p) W' w'∧CntAt w' p (k:Int)) :
  Calls Tryz.prog 89 #[reg X Y Wn Hn,.func (.func gn) #[] caps] w fun e w'=>MakeCP p X Y Wn Hn (madeL ψ X Y Wn (Hn*Wn)) w e w':=by
 have hpl:=hp.lt
 refine (make_st gn caps (fun k=>k=p) (fun n W=>CntAt W p ((n:Int)-1)) ψ X Y Wn Hn w h1 h2 h3 h4 h5 h6 h7 h8 eg (fun k hk=>by omega) (by show CntAt w p (((0:Nat):Int)-1);rw [show (((0:Nat):Int)-1)=-1 by decide];exact hp) (fun n W W' hs h hb=>h.below hb hpl) (fun x y _ _ _ _=>hψ x y) ?_).mono ?_
 ·intro i j hi hj W' hb hJ
  refine (hf i j _ hi hj rfl W' hb hJ).mono ?_
  rintro e w' ⟨he,h9,h10⟩
  refine ⟨he,h9,?_⟩
  rw [show ((j*Wn+i+1:Nat):Int)-1=((j*Wn+i:Nat):Int) by omega]
  exact h10
 ·rintro e w' ⟨h9,h10,_⟩
  exact ⟨h9,h10.lowp (by omega)⟩
theorem cell_ij {X Y:Int} {Wn:Nat} {i j k:Nat} (h:k=j*Wn+i):(cellNo X Y Wn (X+(i:Int)) (Y+(j:Int))).toNat=k:=by
 unfold cellNo
 rw [show Y+(j:Int)-Y=(j:Int) by omega,←Int.natCast_mul]
 omega
theorem cell_lt {Wn Hn i j k:Nat} (hi:i<Wn) (hj:j<Hn) (h:k=j*Wn+i):k<Hn*Wn:=by
 have:=Nat.mul_le_mul_right Wn (show j+1≤Hn from hj)
 rw [Nat.add_mul,Nat.one_mul] at this
 omega
theorem shareE_of {t:Nat} (h:Share t):shareE t=0:=by
 refine shareE_ok h.1 ?_
 have a:lss t 0=false:=by
  have:lss t 0=decide (Ieee.single.V t<Ieee.single.V 0):=Ieee.single.order_lt h.1 Ieee.Format.const_0.1
  rw [this,Ieee.Format.const_0.2.1];have:=h.2.1;simp;grind
 have b:gtr t 1065353216=false:=by
  have:gtr t 1065353216=decide (Ieee.single.V 1065353216<Ieee.single.V t):=Ieee.single.order_gt h.1 Ieee.Format.const_1.1
  rw [this,Ieee.Format.const_1.2.1];have:=h.2.2;simp;grind
 rw [a,b];rfl
theorem shapeease_any (t:Nat) (ht:t<4294967296) (h:Share t) (w:World):Calls Tryz.prog 140 #[.float .f32 t] w fun e w'=>e=.returned (.float .f32 (easeF t))∧Below w.heap.size w w':=by
 have K:=Lib.hid (fun w=>Ease_yes t ht (shareE_of h) h w)
 clear ht h
 go_enter Tryz.func140,Tryz.ntmps140
 go_wp2_with fail
 refine (K.out _).mono ?_
 rintro e w1 ⟨rfl,b1⟩
 have HB:=Lib.hid b1
 clear b1
 go_wp2_with fail
 go_ret
 exact ⟨rfl,HB.out⟩
open Ieee.Format (negF gradF hypF slopeF lenF curve1 curveF nxF nyF nzF)
theorem run_neg (P:Program) (x:Nat) (w:World):(Op.unary .neg (.float .f32 x)).run P w=.ok (.float .f32 (negF x)) w:=by
 simp [Op.unary,Op.negFloat,negF,FloatKind.format,Ieee.single]
theorem run_sqrt (X Z:Nat) (h:Ieee.double.sqrt X=some Z) (w:World):(callFunc 192 #[.float .f64 X]).run Tryz.prog w=.ok (.value (.float .f64 Z)) w:=by
 rw [run_callFunc_extern Tryz.func192 (by kernel_rfl) (by kernel_rfl) (by kernel_rfl) (show _=some Extern.MathSqrt.sqrt by kernel_rfl)]
 have e:Extern.MathSqrt.sqrt #[.float .f64 X]=pure (.float .f64 Z):=by
  change (match Ieee.double.sqrt X with|some r=>(pure (.float .f64 r):Sem Value)|none=>_)=_
  rw [h]
 rw [e];rfl
theorem mathsqrt_any (X Z:Nat) (h:Ieee.double.sqrt X=some Z) (w:World):Calls Tryz.prog 178 #[.float .f64 X] w fun e w'=>e=.returned (.float .f64 Z)∧w=w':=by
 have K:=run_sqrt X Z h
 clear h
 go_enter Tryz.func178,Tryz.ntmps178
 go_wp2
 go_ret
 exact ⟨rfl,rfl⟩
theorem root_any (x:Nat) (hx:fin Ieee.single x) (h0:0≤Ieee.single.V x) (w:World):Calls Tryz.prog 142 #[.float .f32 x] w fun e w'=>e=.returned (.float .f32 (rootF x))∧w=w':=by
 obtain ⟨X,Z,a,b,c,_⟩:=Ieee.Format.root_spec hx h0
 have ka:=fun w=>run_convert_float_float (P:=Tryz.prog) w 48 74 .f32 .f64 x X (by kernel_rfl) Tryz.underlying74 a
 have kc:=fun w=>run_convert_float_float (P:=Tryz.prog) w 74 48 .f64 .f32 Z (rootF x) (by kernel_rfl) Tryz.underlying48 c
 have KS:=Lib.hid (fun w=>mathsqrt_any X Z b w)
 generalize rootF x=r at *
 clear a b c hx h0
 go_enter Tryz.func142,Tryz.ntmps142
 go_wp2_with fail
 refine (KS.out _).mono ?_
 rintro e w' ⟨rfl,rfl⟩
 go_wp2_with fail
 go_ret
 exact ⟨rfl,rfl⟩
theorem one_ne {y:Nat} (h:1≤Ieee.single.V y):Ieee.single.V y≠0:=by intro e;rw [e] at h;exact absurd h (by decide)
theorem inner_world (w:World) (X Y W H:Int) (v:Value):∀ W0,W0=(w.alloc (.cells #[.int .i64 X,.int .i64 Y,.int .i64 W,.int .i64 H,v] 32)).alloc (.cells #[.int .i64 0,.int .i64 0,.int .i64 0,.int .i64 0] 26) →
  Fld W0 w.heap.size X Y W H v∧Reg W0 (w.heap.size+1) 0 0 0 0∧Below w.heap.size w W0:=by
 rintro _ rfl
 refine ⟨(Fld.new w X Y W H v).alloc _,?_,qBl⟩
 have:=Reg.new (w.alloc (.cells #[.int .i64 X,.int .i64 Y,.int .i64 W,.int .i64 H,v] 32)) 0 0 0 0
 simpa using this
theorem inner_ok (X Y:Int) (Wn Hn:Nat) (b o c:Nat) (l:List Nat) (w:World) (hl:SRow w (some ⟨b,o,none⟩) l) (hr:Right X Y Wn Hn l) (hw:3≤Wn) (hh:3≤Hn) :
  Calls Tryz.prog 157 #[fldV X Y Wn Hn (some ⟨b,o,none⟩) l.length c] w fun e w'=>e=.returned (.tuple #[reg (X+1) (Y+1) ((Wn-2:Nat):Int) ((Hn-2:Nat):Int),.int .i64 0])∧Below w.heap.size w w':=by
 have K:=Lib.hid (fun w h=>check_field X Y Wn Hn (some ⟨b,o,none⟩) c l w h)
 rw [hr.chk] at K
 have HL:=Lib.hid hl
 have g1:=hr.w2;have g2:=hr.h2;have g3:=hr.x1;have g4:=hr.x2;have g5:=hr.y1;have g6:=hr.y2
 have KS:=Lib.hid (fun w=>smaller_ok X Y Wn Hn 1 w (by omega) (by omega) (by omega) (by omega) (by omega) (by omega) (by omega) (by omega) (by omega) (by omega))
 rw [show (Wn:Int)-2*1=((Wn-2:Nat):Int) from by omega,show (Hn:Int)-2*1=((Hn-2:Nat):Int) from by omega] at KS
 clear hl hr g1 g2 g3 g4 g5 g6 hw hh
 go_enter Tryz.func157,Tryz.ntmps157
 go_wp2_with fail
 generalize hW0:(w.alloc (.cells #[.int .i64 X,.int .i64 Y,.int .i64 Wn,.int .i64 Hn,.slice (some ⟨b,o,none⟩) l.length c] 32)).alloc (.cells #[.int .i64 0,.int .i64 0,.int .i64 0,.int .i64 0] 26)=W0 at *
 obtain ⟨E0,F0,B0⟩:=inner_world w X Y Wn Hn (.slice (some ⟨b,o,none⟩) l.length c) W0 hW0.symm
 clear hW0
 refine (K.out _ (HL.out.below B0)).mono ?_
 rintro e w1 ⟨rfl,b1⟩
 have E1:=E0.below b1 E0.lt
 have F1:=F0.below b1 F0.lt
 have B1:=Lib.hid (B0.trans (b1.mono B0.size))
 clear b1 B0 F0 E0 K HL
 obtain ⟨c0,c1,c2,c3,c4⟩:=E1.cells
 have l1:=F1.lt
 have HF1:=Lib.hid F1
 clear F1 E1
 go_wp2_with fail
 refine (KS.out _).mono ?_
 rintro e w2 ⟨rfl,b2⟩
 have F2:=HF1.out.below b2 HF1.out.lt
 have HB2:=Lib.hid (B1.out.trans (b2.mono B1.out.size))
 have l2:=F2.lt
 clear b2 c0 c1 c2 c3 c4 B1 HF1 KS
 obtain ⟨d0,d1,d2,d3⟩:=F2.cells
 have q0:w2.frozen? ⟨w.heap.size+1,0,none⟩=false:=frozen_of_row w2 _ 0 _ _ F2
 have q1:w2.frozen? ⟨w.heap.size+1,1,none⟩=false:=frozen_of_row w2 _ 1 _ _ F2
 have q2:w2.frozen? ⟨w.heap.size+1,2,none⟩=false:=frozen_of_row w2 _ 2 _ _ F2
 have q3:w2.frozen? ⟨w.heap.size+1,3,none⟩=false:=frozen_of_row w2 _ 3 _ _ F2
 clear F2
 go_wp2_with fail
 have B3:=HB2.out
 exact bodyPost_ret (v:=.tuple #[reg (X+1) (Y+1) ((Wn-2:Nat):Int) ((Hn-2:Nat):Int),.int .i64 0]) (by simp [results,Tryz.results157,go_sem, *]) rfl ⟨rfl,(qBo B3)⟩
def OpB (c:Int) (X Y W H:Int) (m:List Nat) (B:Nat) (w:World) (e:Ending) (w':World):Prop:=
 (∃ x y p q a n k,e=.returned (.tuple #[fldV x y p q a n k,.int .i64 c])∧OutV c X Y W H m w' B x y p q a n k)∧Below w.heap.size w w'
def resC (m:List Nat):Int:=if allHt m=true then 0 else 3
theorem result_any (X Y W H:Int) (g cap B:Nat) (m:List Nat) (w:World) (ho:OwnF w B g cap m) (hm:m.length≤1099511627776) :
  Calls Tryz.prog 91 #[fldV X Y W H (some ⟨g,0,none⟩) m.length cap] w fun e w'=>OpB (resC m) X Y W H m B w e w':=by
 unfold resC
 cases h:allHt m with
 | true =>
  rw [if_pos rfl]
  have hh:=Ieee.Format.allHt_iff.1 h
  refine (result_ok X Y W H g 0 cap m w (ho.row hm) (fun j hj=>?_)).mono ?_
  ·rw [List.getD_eq_getElem?_getD,List.getElem?_eq_getElem hj];exact hh _ (List.getElem_mem hj)
  ·rintro e w' ⟨rfl,b⟩
   exact ⟨⟨_,_,_,_,_,_,_,rfl,.inr ⟨rfl,rfl,rfl,rfl,rfl,g,rfl,rfl,ho.below b ho.lt.2⟩⟩,b⟩
 | false =>
  rw [if_neg (by decide)]
  refine (result_no X Y W H g 0 cap m w (ho.row hm) h).mono ?_
  rintro e w' ⟨rfl,b⟩
  exact ⟨⟨_,_,_,_,_,_,_,rfl,.inl ⟨by decide,rfl,rfl,rfl,rfl,rfl,rfl,rfl⟩⟩,b⟩
open Ieee.Format (const_0 const_1)
theorem select_any (lo hi soft v:Nat) (w:World) (hlo:Ht lo) (hhi:Ht hi) (hs:Ht soft) (hv:Ht v) :
  Calls Tryz.prog 106 #[.float .f32 v,.float .f32 lo,.float .f32 hi,.float .f32 soft] w fun e w'=>e=.returned (.float .f32 (selF lo hi soft v))∧Below w.heap.size w w':=by
 unfold selF
 cases h1:lss v lo with
 | true =>
  rw [if_pos rfl]
  have hS:=sel_lo (hi:=hi) soft hlo hv hs h1
  have k1:=fun w'=>run_float_arith (P:=Tryz.prog) w' .sub 48 .f32 lo v (subF lo v) (Ieee.Format.bits_sub hlo.fin hv.fin)
  change (FloatKind.f32.format.order v lo == some .lt)=true at h1
  unfold sel2
  cases hd:lss (subF lo v) soft with
  | true =>
   rw [if_pos rfl]
   have k2:=fun w'=>run_float_arith (P:=Tryz.prog) w' .quo 48 .f32 (subF lo v) soft (divF (subF lo v) soft) (Ieee.Format.bits_div hS.d hS.s (by have:=hS.pos hd;grind))
   have KE:=Lib.hid (fun w=>shapeease_any (divF (subF lo v) soft) (Ieee.Format.divF_lt _ _) (hS.sh hd) w)
   have k3:=fun w'=>run_float_arith (P:=Tryz.prog) w' .sub 48 .f32 1065353216 (easeF (divF (subF lo v) soft)) (subF 1065353216 (easeF (divF (subF lo v) soft))) (Ieee.Format.bits_sub const_1.1 (hS.e hd))
   change (FloatKind.f32.format.order (subF lo v) soft == some .lt)=true at hd
   clear hS hlo hhi hs hv
   generalize subF 1065353216 (easeF (divF (subF lo v) soft))=z at *
   generalize easeF (divF (subF lo v) soft)=y at *
   generalize divF (subF lo v) soft=t at *
   generalize (subF lo v)=d at *
   exact qx76
  | false =>
   rw [if_neg (by decide)]
   change (FloatKind.f32.format.order (subF lo v) soft == some .lt)=false at hd
   clear hS hlo hhi hs hv
   generalize subF lo v=d at *
   go_enter Tryz.func106,Tryz.ntmps106
   go_wp2
   go_ret
   exact ⟨rfl,Below.refl _ _⟩
 | false =>
  rw [if_neg (by decide)]
  cases h2:gtr v hi with
  | true =>
   rw [if_pos rfl]
   have hS:=sel_hi (lo:=lo) soft hhi hv hs h2
   have k1:=fun w'=>run_float_arith (P:=Tryz.prog) w' .sub 48 .f32 v hi (subF v hi) (Ieee.Format.bits_sub hv.fin hhi.fin)
   change (FloatKind.f32.format.order v lo == some .lt)=false at h1
   change (FloatKind.f32.format.order v hi == some .gt)=true at h2
   unfold sel2
   cases hd:lss (subF v hi) soft with
   | true =>
    rw [if_pos rfl]
    have k2:=fun w'=>run_float_arith (P:=Tryz.prog) w' .quo 48 .f32 (subF v hi) soft (divF (subF v hi) soft) (Ieee.Format.bits_div hS.d hS.s (by have:=hS.pos hd;grind))
    have KE:=Lib.hid (fun w=>shapeease_any (divF (subF v hi) soft) (Ieee.Format.divF_lt _ _) (hS.sh hd) w)
    have k3:=fun w'=>run_float_arith (P:=Tryz.prog) w' .sub 48 .f32 1065353216 (easeF (divF (subF v hi) soft)) (subF 1065353216 (easeF (divF (subF v hi) soft))) (Ieee.Format.bits_sub const_1.1 (hS.e hd))
    change (FloatKind.f32.format.order (subF v hi) soft == some .lt)=true at hd
    clear hS hlo hhi hs hv
    generalize subF 1065353216 (easeF (divF (subF v hi) soft))=z at *
    generalize easeF (divF (subF v hi) soft)=y at *
    generalize divF (subF v hi) soft=t at *
    generalize (subF v hi)=d at *
    exact qx76
   | false =>
    rw [if_neg (by decide)]
    change (FloatKind.f32.format.order (subF v hi) soft == some .lt)=false at hd
    clear hS hlo hhi hs hv
    generalize subF v hi=d at *
    go_enter Tryz.func106,Tryz.ntmps106
    go_wp2
    go_ret
    exact ⟨rfl,Below.refl _ _⟩
  | false =>
   rw [if_neg (by decide)]
   change (FloatKind.f32.format.order v lo == some .lt)=false at h1
   change (FloatKind.f32.format.order v hi == some .gt)=false at h2
   go_enter Tryz.func106,Tryz.ntmps106
   go_wp2
   go_ret
   exact ⟨rfl,Below.refl _ _⟩
open Ieee.Format (const_40 frac_bd frac_zero conv_exact)
theorem Right.bd' {X Y:Int} {Wn Hn:Nat} {l:List Nat} (h:Right X Y Wn Hn l) (i:Nat):Bd 20 (l.getD i 0):=Ieee.Format.Ht.bd (h.getD i)
abbrev mag (x:Nat):Nat:=x%2147483648
theorem mag_parts (x:Nat):Ieee.single.rung (mag x)=Ieee.single.rung x∧Ieee.single.sgn (mag x)=false:=by
 constructor
 ·rw [Ieee.Format.rung_lit,Ieee.Format.rung_lit];show x%2147483648%2147483648=_;rw [Nat.mod_mod]
 ·rw [Ieee.Format.sgn_lit]
  have:mag x / 2147483648=0:=Nat.div_eq_of_lt (Nat.mod_lt _ (by decide))
  rw [this];rfl
theorem mag_fin {x:Nat} (h:fin Ieee.single x):fin Ieee.single (mag x):=by unfold fin at *;rw [(mag_parts x).1];exact h
theorem CntAt.setc {w:World} {p:Nat} {c:Int} (h:CntAt w p c) (d:Int):CntAt (w.setCell ⟨p,0,none⟩ (.int .i64 d)) p d:=by
 exact one_setCell h
structure CntSt (W:World) (p q b o c:Nat) (X Y W1 H1:Int) (l:List Nat) (k:Nat):Prop where
 cnt:CntAt W p ((k:Int)-1)
 fo:Fld W q X Y W1 H1 (.slice (some ⟨b,o,none⟩) l.length c)
 row:SRow W (some ⟨b,o,none⟩) l
 qp:q≠p
 bp:b≠p
 kl:k<l.length
 bl:b<W.heap.size
theorem blk_cell1 {w w':World} {p k:Nat} {v:Value} {t:TypeId} (h:Blk w k #[v] t) (hb:But w.heap.size (fun j=>j=p) w w') (hp:k≠p):w'.cell? ⟨k,0,none⟩=some v:=(h.but hb h.lt hp).cell 0
set_option maxRecDepth 100000 in
set_option maxHeartbeats 1000000 in
theorem selectfn_any (lo hi soft:Nat) (x y:Int) (p q b o c pa pb pc k:Nat) (X Y W1 H1:Int) (l:List Nat) (w:World) (h:CntSt w p q b o c X Y W1 H1 l k) (hv:Ht (l.getD k 0)) (hlo:Ht lo) (hhi:Ht hi) (hs:Ht soft)
    (ha:Blk w pa #[.float .f32 lo] 48) (hb:Blk w pb #[.float .f32 hi] 48) (hc:Blk w pc #[.float .f32 soft] 48) (pap:pa≠p) (pbp:pb≠p) (pcp:pc≠p) :
    Calls Tryz.prog 105 #[.int .i64 x,.int .i64 y,.pointer (some ⟨p,0,none⟩),.pointer (some ⟨q,0,none⟩),.pointer (some ⟨pa,0,none⟩),.pointer (some ⟨pb,0,none⟩),.pointer (some ⟨pc,0,none⟩)] w fun e w'=>e=.returned (.float .f32 (selF lo hi soft (l.getD k 0)))∧But w.heap.size (fun j=>j=p) w w'∧CntAt w' p (k:Int):=by
  have KS:=Lib.hid (fun w=>select_any lo hi soft (l.getD k 0) w hlo hhi hs hv)
  clear hlo hhi hs hv
  generalize hv0:l.getD k 0=v at *
  have HV0:=Lib.hid hv0
  clear hv0
  generalize selF lo hi soft v=z at *
  have hkc:=h.cnt
  obtain ⟨cc,hcc⟩:∃ cc:Int,cc=(k:Int)-1:=⟨_,rfl⟩
  rw [←hcc] at hkc
  have HCC:Hid (cc+1=(k:Int)):=by unfold Hid;omega
  have hk1:-1≤cc:=by omega
  have hk2:cc≤1099511627776:=by have:=h.row.1.1;have:=h.kl;omega
  have hk4:(k:Int)<l.length:=by have:=h.kl;omega
  have hk5:l.length≤1099511627776:=h.row.1.1
  clear hcc
  have c0:w.cell? ⟨p,0,none⟩=some (.int .i64 cc):=hkc.cell 0
  have cf:w.frozen? ⟨p,0,none⟩=false:=hkc.frozen 0
  have hp1:=hkc.lt
  go_enter Tryz.func105,Tryz.ntmps105
  go_wp2_with fail
  rw [HCC.out]
  have HB0:=Lib.hid (But.setq (B:=w.heap.size) (q:=fun j=>j=p) (w:=w) (p:=⟨p,0,none⟩) (.int .i64 k) rfl)
  have HC2:=Lib.hid (CntAt.setc hkc (k:Int))
  have HF2:=Lib.hid (h.fo.but HB0.out h.fo.lt h.qp)
  have HR2:=Lib.hid (h.row.but HB0.out h.bl h.bp)
  have d4:=HF2.out.cells.2.2.2.2
  have dr:=SRow.at_ HR2.out h.kl
  rw [HV0.out] at dr
  have da:=blk_cell1 ha HB0.out pap
  have db:=blk_cell1 hb HB0.out pbp
  have dc:=blk_cell1 hc HB0.out pcp
  have dp:(w.setCell ⟨p,0,none⟩ (.int .i64 (k:Int))).cell? ⟨p,0,none⟩=some (.int .i64 (k:Int)):=HC2.out.cell 0
  have hz:w.heap.size≤(w.setCell ⟨p,0,none⟩ (.int .i64 (k:Int))).heap.size:=HB0.out.size
  have l1:=h.fo.lt
  have l2:=h.bl
  have l3:=ha.lt
  have l4:=hb.lt
  have l5:=hc.lt
  have hpl:Hid (p<(w.setCell ⟨p,0,none⟩ (.int .i64 (k:Int))).heap.size):=HC2.out.lt
  clear h ha hb hc pap pbp pcp c0 cf hkc hp1
  generalize w.setCell ⟨p,0,none⟩ (.int .i64 (k:Int))=W2 at *
  have hk6:(0:Int)≤k:=by omega
  go_region_held3 (fun w'=>w'.cell? ⟨q,4,none⟩=some (.slice (some ⟨b,o,none⟩) l.length c)∧w'.cell? ⟨p,0,none⟩=some (.int .i64 (k:Int))∧w'.cell? ⟨b,o+k,none⟩=some (.float .f32 v)∧w'.cell? ⟨pa,0,none⟩=some (.float .f32 lo)∧w'.cell? ⟨pb,0,none⟩=some (.float .f32 hi)∧w'.cell? ⟨pc,0,none⟩=some (.float .f32 soft)∧Below W2.heap.size W2 w')
    (first
      | exact ⟨d4,dp,dr,da,db,dc,(Below.refl _ _).drew⟩
      | (go_split_ands
         have hs:=hb.size
         have hs2:=(show Below W2.heap.size W2 _ by assumption).size
         have hpl':=hpl.out
         refine ⟨?_,?_,?_,?_,?_,?_,?_⟩
         all_goals first
           | (rw [hb.cell (by simp;omega)];assumption)
           | exact Below.trans (by assumption) (hb.mono (by omega)))
      | (go_split_ands;refine ⟨?_,?_,?_,?_,?_,?_,?_⟩<;>assumption))
    (first|(go_at_call 106;go_split_ands;refine (KS.out _).mono ?_;rintro e2 w2 ⟨rfl,hb⟩))
  rename_i w3 hHeld
  obtain ⟨_,_,_,_,_,_,hB⟩:=hHeld
  go_wp2_with fail
  go_ret
  exact ⟨rfl,HB0.out.trans ((But.of hB).mono hz),HC2.out.below hB hpl.out⟩
theorem terraced_any (step sharp v:Nat) (w:World) (h:TerOk step sharp) (hv:Bd 20 v) :
  Calls Tryz.prog 109 #[.float .f32 v,.float .f32 step,.float .f32 sharp] w fun e w'=>e=.returned (.float .f32 (terF step sharp v))∧w=w':=by
 obtain ⟨a1,a2,a3,a4,a5,a6,a7,a8,a9,a10,a11⟩:=ter_bd h hv
 have p:=Ieee.P2_pos (-10)
 have k1:=fun w'=>run_float_arith (P:=Tryz.prog) w' .quo 48 .f32 v step (ter1 step v) (Ieee.Format.bits_div hv.1 h.st.1 (by have:=h.st1;grind))
 have KF:=Lib.hid (fun w=>floor_any (ter1 step v) a1.1 a11 w)
 have k2:=fun w'=>run_float_arith (P:=Tryz.prog) w' .sub 48 .f32 (ter1 step v) (ter2 step v) (ter3 step v) (Ieee.Format.bits_sub a1.1 a2.1)
 have k3:=fun w'=>run_float_arith (P:=Tryz.prog) w' .mul 48 .f32 (ter2 step v) step (mulF (ter2 step v) step) (Ieee.Format.bits_mul a2.1 h.st.1)
 have k4:=fun w'=>run_float_arith (P:=Tryz.prog) w' .sub 48 .f32 (ter3 step v) sharp (subF (ter3 step v) sharp) (Ieee.Format.bits_sub a3.1 h.sh)
 have k5:=fun w'=>run_float_arith (P:=Tryz.prog) w' .sub 48 .f32 1065353216 sharp (subF 1065353216 sharp) (Ieee.Format.bits_sub const_1.1 h.sh)
 have k6:=fun w'=>run_float_arith (P:=Tryz.prog) w' .quo 48 .f32 (subF (ter3 step v) sharp) (subF 1065353216 sharp) (ter4 step sharp v) (Ieee.Format.bits_div a5.1 a6 a7)
 have k7:=fun w'=>run_float_arith (P:=Tryz.prog) w' .add 48 .f32 (ter2 step v) (ter4 step sharp v) (addF (ter2 step v) (ter4 step sharp v)) (Ieee.Format.bits_add a2.1 a8.1)
 have k8:=fun w'=>run_float_arith (P:=Tryz.prog) w' .mul 48 .f32 (addF (ter2 step v) (ter4 step sharp v)) step (mulF (addF (ter2 step v) (ter4 step sharp v)) step) (Ieee.Format.bits_mul a9.1 h.st.1)
 change Hid (∀ w,Calls Tryz.prog 87 #[.float .f32 (ter1 step v)] w fun e w'=>e=.returned (.float .f32 (ter2 step v))∧w=w') at KF
 clear a1 a2 a3 a4 a5 a6 a7 a8 a9 a10 a11 h hv p
 unfold terF
 generalize mulF (addF (ter2 step v) (ter4 step sharp v)) step=z8 at *
 generalize addF (ter2 step v) (ter4 step sharp v)=z7 at *
 generalize ter4 step sharp v=z6 at *
 generalize subF 1065353216 sharp=z5 at *
 generalize subF (ter3 step v) sharp=z4 at *
 generalize mulF (ter2 step v) step=z3 at *
 generalize ter3 step v=z2 at *
 generalize ter2 step v=z1 at *
 generalize ter1 step v=z0 at *
 cases hd:lss z2 sharp with
 | true =>
  rw [if_pos rfl]
  change (FloatKind.f32.format.order z2 sharp == some .lt)=true at hd
  go_enter Tryz.func109,Tryz.ntmps109
  go_wp2_with fail
  refine (KF.out _).mono ?_
  rintro en wz ⟨rfl,rfl⟩
  go_wp2_with fail
  go_ret
  exact ⟨rfl,rfl⟩
 | false =>
  rw [if_neg (by decide)]
  change (FloatKind.f32.format.order z2 sharp == some .lt)=false at hd
  go_enter Tryz.func109,Tryz.ntmps109
  go_wp2_with fail
  refine (KF.out _).mono ?_
  rintro en wz ⟨rfl,rfl⟩
  go_wp2_with fail
  go_ret
  exact ⟨rfl,rfl⟩
open Ieee.Format (negF gradF hypF slopeF lenF curve1 curveF nxF nyF nzF grad_bd hyp_bd slope_bd normal_bd curve_bd const_2nd const_quarter const_1)
abbrev nbV (n s e w v:Nat):Value:=.agg #[.float .f32 n,.float .f32 s,.float .f32 e,.float .f32 w,.float .f32 v]
theorem sgrad_any (n s e w v:Nat) (W:World) (hn:Bd 20 n) (hs:Bd 20 s) (he:Bd 20 e) (hw:Bd 20 w) :
  Calls Tryz.prog 161 #[nbV n s e w v] W fun en w'=>en=.returned (.tuple #[.float .f32 (gradF e w),.float .f32 (gradF s n)])∧Below W.heap.size W w':=by
 obtain ⟨a1,a2⟩:=grad_bd he hw (by omega)
 obtain ⟨b1,b2⟩:=grad_bd hs hn (by omega)
 have k1:=fun w'=>run_float_arith (P:=Tryz.prog) w' .sub 48 .f32 e w (subF e w) (Ieee.Format.bits_sub he.1 hw.1)
 have k2:=fun w'=>run_float_arith (P:=Tryz.prog) w' .mul 48 .f32 (subF e w) 1056964608 (gradF e w) (Ieee.Format.bits_mul a1.1 const_2nd.1)
 have k3:=fun w'=>run_float_arith (P:=Tryz.prog) w' .sub 48 .f32 s n (subF s n) (Ieee.Format.bits_sub hs.1 hn.1)
 have k4:=fun w'=>run_float_arith (P:=Tryz.prog) w' .mul 48 .f32 (subF s n) 1056964608 (gradF s n) (Ieee.Format.bits_mul b1.1 const_2nd.1)
 clear a1 a2 b1 b2 hn hs he hw
 generalize gradF e w=z2 at *
 generalize subF e w=z1 at *
 generalize gradF s n=z4 at *
 generalize subF s n=z3 at *
 go_enter Tryz.func161,Tryz.ntmps161
 go_wp2_with fail
 go_quiet (fail)
 go_wp2
 go_ret2
 exact ⟨rfl,qBl⟩
theorem length_any (x y:Nat) (W:World) (hx:Bd 20 x) (hy:Bd 20 y):Calls Tryz.prog 159 #[.float .f32 x,.float .f32 y] W fun e w'=>e=.returned (.float .f32 (rootF (hypF x y)))∧W=w':=by
 obtain ⟨a,b,c,d⟩:=hyp_bd hx hy (by omega)
 have k1:=fun w'=>run_float_arith (P:=Tryz.prog) w' .mul 48 .f32 x x (mulF x x) (Ieee.Format.bits_mul hx.1 hx.1)
 have k2:=fun w'=>run_float_arith (P:=Tryz.prog) w' .mul 48 .f32 y y (mulF y y) (Ieee.Format.bits_mul hy.1 hy.1)
 have k3:=fun w'=>run_float_arith (P:=Tryz.prog) w' .add 48 .f32 (mulF x x) (mulF y y) (hypF x y) (Ieee.Format.bits_add a.1 b.1)
 have KR:=Lib.hid (fun w'=>root_any (hypF x y) c.1 d w')
 clear a b c d hx hy
 generalize hypF x y=z3 at *
 generalize mulF x x=z1 at *
 generalize mulF y y=z2 at *
 generalize rootF z3=z at *
 go_enter Tryz.func159,Tryz.ntmps159
 go_wp2_with fail
 refine (KR.out _).mono ?_
 rintro e w' ⟨rfl,rfl⟩
 go_wp2_with fail
 go_ret
 exact ⟨rfl,rfl⟩
theorem normal_any (n s e w v:Nat) (W:World) (hn:Bd 20 n) (hs:Bd 20 s) (he:Bd 20 e) (hw:Bd 20 w) :
  Calls Tryz.prog 164 #[nbV n s e w v] W fun en w'=>en=.returned (.tuple #[.float .f32 (nxF n s e w),.float .f32 (nyF n s e w),.float .f32 (nzF n s e w)])∧Below W.heap.size W w':=by
 have KG:=Lib.hid (fun W=>sgrad_any n s e w v W hn hs he hw)
 obtain ⟨a1,a2⟩:=grad_bd he hw (by omega)
 obtain ⟨b1,b2⟩:=grad_bd hs hn (by omega)
 obtain ⟨c1,c2,c3,c4⟩:=hyp_bd a2 b2 (by omega)
 obtain ⟨d1,d2,d3,d4,d5,d6,d7⟩:=slope_bd hn hs he hw
 obtain ⟨e1,e2,e3,e4,e5⟩:=normal_bd hn hs he hw
 have k1:=fun w'=>run_float_arith (P:=Tryz.prog) w' .mul 48 .f32 (gradF e w) (gradF e w) (mulF (gradF e w) (gradF e w)) (Ieee.Format.bits_mul a2.1 a2.1)
 have k2:=fun w'=>run_float_arith (P:=Tryz.prog) w' .mul 48 .f32 (gradF s n) (gradF s n) (mulF (gradF s n) (gradF s n)) (Ieee.Format.bits_mul b2.1 b2.1)
 have k3:=fun w'=>run_float_arith (P:=Tryz.prog) w' .add 48 .f32 (mulF (gradF e w) (gradF e w)) (mulF (gradF s n) (gradF s n)) (hypF (gradF e w) (gradF s n)) (Ieee.Format.bits_add c1.1 c2.1)
 have k4:=fun w'=>run_float_arith (P:=Tryz.prog) w' .add 48 .f32 (hypF (gradF e w) (gradF s n)) 1065353216 (addF (hypF (gradF e w) (gradF s n)) 1065353216) (Ieee.Format.bits_add c3.1 const_1.1)
 have KR:=Lib.hid (fun w'=>root_any (addF (hypF (gradF e w) (gradF s n)) 1065353216) d4.1 (by have:=d5;grind) w')
 change Hid (∀ w',Calls Tryz.prog 142 #[.float .f32 (addF (hypF (gradF e w) (gradF s n)) 1065353216)] w' fun en w2=>en=.returned (.float .f32 (lenF n s e w))∧w'=w2) at KR
 have n1:=fun w'=>run_neg Tryz.prog (gradF e w) w'
 have n2:=fun w'=>run_neg Tryz.prog (gradF s n) w'
 have k5:=fun w'=>run_float_arith (P:=Tryz.prog) w' .quo 48 .f32 (negF (gradF e w)) (lenF n s e w) (nxF n s e w) (Ieee.Format.bits_div e1.1 d6.1 (one_ne d7))
 have k6:=fun w'=>run_float_arith (P:=Tryz.prog) w' .quo 48 .f32 (negF (gradF s n)) (lenF n s e w) (nyF n s e w) (Ieee.Format.bits_div e2.1 d6.1 (one_ne d7))
 have k7:=fun w'=>run_float_arith (P:=Tryz.prog) w' .quo 48 .f32 1065353216 (lenF n s e w) (nzF n s e w) (Ieee.Format.bits_div const_1.1 d6.1 (one_ne d7))
 clear a1 a2 b1 b2 c1 c2 c3 c4 d1 d2 d3 d4 d5 d6 d7 e1 e2 e3 e4 e5 hn hs he hw
 generalize nxF n s e w=y1 at *
 generalize nyF n s e w=y2 at *
 generalize nzF n s e w=y3 at *
 generalize lenF n s e w=m at *
 generalize gradF e w=g1 at *
 generalize gradF s n=g2 at *
 generalize addF (hypF g1 g2) 1065353216=z4 at *
 generalize hypF g1 g2=z3 at *
 generalize mulF g1 g1=z1 at *
 generalize mulF g2 g2=z2 at *
 generalize negF g1=n1 at *
 generalize negF g2=n2 at *
 have B0:Below W.heap.size W (W.alloc (.cells #[.float .f32 n,.float .f32 s,.float .f32 e,.float .f32 w,.float .f32 v] 175)):=qBl
 have HB0:=Lib.hid B0
 clear B0
 go_enter Tryz.func164,Tryz.ntmps164
 go_wp2_with fail
 refine (KG.out _).mono ?_
 rintro en w1 ⟨rfl,b1⟩
 have HB1:=Lib.hid (HB0.out.trans (b1.mono HB0.out.size))
 clear b1
 go_wp2_with fail
 refine (KR.out _).mono ?_
 rintro en w2 ⟨rfl,rfl⟩
 go_wp2_with fail
 go_ret3
 exact ⟨rfl,HB1.out⟩
structure InnerAt (X Y:Int) (Wn Hn:Nat) (x y:Int) (k:Nat):Prop where
 x1:X+1≤x
 x2:x<X+Wn-1
 y1:Y+1≤y
 y2:y<Y+Hn-1
 k:cellNo X Y Wn x y=(k:Int)
theorem InnerAt.of {X Y:Int} {Wn Hn:Nat} {x y:Int} (h1:X+1≤x) (h2:x<X+Wn-1) (h3:Y+1≤y) (h4:y<Y+Hn-1):InnerAt X Y Wn Hn x y (cellNo X Y Wn x y).toNat:=by
 refine ⟨h1,h2,h3,h4,?_⟩
 have e1:=Int.mul_le_mul_of_nonneg_right (show 1≤y-Y by omega) (show (0:Int)≤Wn by omega)
 unfold cellNo
 omega
theorem InnerAt.lo {X Y:Int} {Wn Hn:Nat} {x y:Int} {k:Nat} (h:InnerAt X Y Wn Hn x y k):Wn≤k:=by
 have h1:=h.y1
 have h2:=h.x1
 have e1:=Int.mul_le_mul_of_nonneg_right (show 1≤y-Y by omega) (show (0:Int)≤Wn by omega)
 have:=h.k
 unfold cellNo at this
 omega
theorem InnerAt.hi {X Y:Int} {Wn Hn:Nat} {x y:Int} {k:Nat} (h:InnerAt X Y Wn Hn x y k) (hw:1≤Wn):k+Wn<Hn*Wn:=by
 have h1:=h.y2
 have h2:=h.x2
 have h3:=h.y1
 have e1:=Int.mul_le_mul_of_nonneg_right (show y-Y+2≤Hn by omega) (show (0:Int)≤Wn by omega)
 have:=h.k
 unfold cellNo at this
 have e2:((Hn*Wn:Nat):Int)=(Hn:Int)*Wn:=Int.natCast_mul _ _
 rw [Int.add_mul] at e1
 omega
theorem Right.bd {X Y:Int} {Wn Hn:Nat} {l:List Nat} (h:Right X Y Wn Hn l) (i:Nat):Bd 20 (l.getD i 0):=Ieee.Format.Ht.bd (h.getD i)
theorem around_at (X Y:Int) (Wn Hn:Nat) (x y:Int) (b o c k:Nat) (l:List Nat) (w:World) (hl:SRow w (some ⟨b,o,none⟩) l) (hr:Right X Y Wn Hn l) (h:InnerAt X Y Wn Hn x y k) :
  Calls Tryz.prog 160 #[fldV X Y Wn Hn (some ⟨b,o,none⟩) l.length c,.int .i64 x,.int .i64 y] w fun e w'=>e=.returned (nbV (l.getD (k-Wn) 0) (l.getD (k+Wn) 0) (l.getD (k+1) 0) (l.getD (k-1) 0) (l.getD k 0))∧Below w.heap.size w w':=by
 have g1:=hr.w2;have g2:=hr.h2;have g3:=hr.x1;have g4:=hr.x2;have g5:=hr.y1;have g6:=hr.y2;have g7:=hr.w1
 have h1:=h.x1;have h2:=h.x2;have h3:=h.y1;have h4:=h.y2
 exact around_any X Y Wn Hn x y b o c k l w hl (by omega) (by omega) (by omega) (by omega) (by omega) (by omega) (by omega) (by omega) (by omega) (by omega) h.k h.lo (by rw [hr.len];exact h.hi g7)
theorem slopefn_any (X Y:Int) (Wn Hn:Nat) (x y:Int) (b o c k q:Nat) (l:List Nat) (w:World) (hl:SRow w (some ⟨b,o,none⟩) l) (hr:Right X Y Wn Hn l) (h:InnerAt X Y Wn Hn x y k) (hq:Fld w q X Y Wn Hn (.slice (some ⟨b,o,none⟩) l.length c)) :
  Calls Tryz.prog 158 #[.int .i64 x,.int .i64 y,.pointer (some ⟨q,0,none⟩)] w fun e w'=>e=.returned (.float .f32 (nbr slopeF l Wn k))∧Below w.heap.size w w':=by
 have KA:=Lib.hid (fun w' hl=>around_at X Y Wn Hn x y b o c k l w' hl hr h)
 have HL:=Lib.hid hl
 obtain ⟨c0,c1,c2,c3,c4⟩:=hq.cells
 have KG:=Lib.hid (fun W=>sgrad_any (l.getD (k-Wn) 0) (l.getD (k+Wn) 0) (l.getD (k+1) 0) (l.getD (k-1) 0) (l.getD k 0) W (hr.bd _) (hr.bd _) (hr.bd _) (hr.bd _))
 have KL:=Lib.hid (fun W=>length_any (gradF (l.getD (k+1) 0) (l.getD (k-1) 0)) (gradF (l.getD (k+Wn) 0) (l.getD (k-Wn) 0)) W (grad_bd (hr.bd _) (hr.bd _) (by omega)).2 (grad_bd (hr.bd _) (hr.bd _) (by omega)).2)
 change Hid (∀ W,Calls Tryz.prog 159 #[.float .f32 (gradF (l.getD (k+1) 0) (l.getD (k-1) 0)),.float .f32 (gradF (l.getD (k+Wn) 0) (l.getD (k-Wn) 0))] W fun e w'=>e=.returned (.float .f32 (nbr slopeF l Wn k))∧W=w') at KL
 clear hl hr h hq
 generalize nbr slopeF l Wn k=z at *
 generalize l.getD k 0=v at *
 generalize l.getD (k-Wn) 0=n at *
 generalize l.getD (k+Wn) 0=s at *
 generalize l.getD (k+1) 0=e at *
 generalize l.getD (k-1) 0=wv at *
 generalize gradF e wv=g1 at *
 generalize gradF s n=g2 at *
 go_enter Tryz.func158,Tryz.ntmps158
 go_wp2_with fail
 refine (KA.out _ (HL.out)).mono ?_
 rintro en w1 ⟨rfl,b1⟩
 have HB1:=Lib.hid b1
 clear b1
 go_wp2_with fail
 refine (KG.out _).mono ?_
 rintro en w2 ⟨rfl,b2⟩
 have HB2:=Lib.hid (HB1.out.trans (b2.mono HB1.out.size))
 clear b2
 go_wp2_with fail
 refine (KL.out _).mono ?_
 rintro en w3 ⟨rfl,rfl⟩
 go_wp2_with fail
 go_ret
 exact ⟨rfl,HB2.out⟩
theorem curvefn_any (X Y:Int) (Wn Hn:Nat) (x y:Int) (b o c k q:Nat) (l:List Nat) (w:World) (hl:SRow w (some ⟨b,o,none⟩) l) (hr:Right X Y Wn Hn l) (h:InnerAt X Y Wn Hn x y k) (hq:Fld w q X Y Wn Hn (.slice (some ⟨b,o,none⟩) l.length c)) :
  Calls Tryz.prog 162 #[.int .i64 x,.int .i64 y,.pointer (some ⟨q,0,none⟩)] w fun e w'=>e=.returned (.float .f32 (nbr curveF l Wn k))∧Below w.heap.size w w':=by
 have KA:=Lib.hid (fun w' hl=>around_at X Y Wn Hn x y b o c k l w' hl hr h)
 have HL:=Lib.hid hl
 obtain ⟨c0,c1,c2,c3,c4⟩:=hq.cells
 have hn:=hr.bd (k-Wn)
 have hs:=hr.bd (k+Wn)
 have he:=hr.bd (k+1)
 have hw:=hr.bd (k-1)
 have hv:=hr.bd k
 have HE:Hid (nbr curveF l Wn k=curveF (l.getD (k-Wn) 0) (l.getD (k+Wn) 0) (l.getD (k+1) 0) (l.getD (k-1) 0) (l.getD k 0)):=rfl
 clear hl hr h hq
 generalize nbr curveF l Wn k=z at *
 generalize l.getD k 0=v at *
 generalize l.getD (k-Wn) 0=n at *
 generalize l.getD (k+Wn) 0=s at *
 generalize l.getD (k+1) 0=e at *
 generalize l.getD (k-1) 0=wv at *
 obtain ⟨b1,b2,b3,b4,b5⟩:=curve_bd hn hs he hw hv (by omega)
 have k1:=fun w'=>run_float_arith (P:=Tryz.prog) w' .add 48 .f32 n s (addF n s) (Ieee.Format.bits_add hn.1 hs.1)
 have k2:=fun w'=>run_float_arith (P:=Tryz.prog) w' .add 48 .f32 (addF n s) e (addF (addF n s) e) (Ieee.Format.bits_add b1.1 he.1)
 have k3:=fun w'=>run_float_arith (P:=Tryz.prog) w' .add 48 .f32 (addF (addF n s) e) wv (curve1 n s e wv) (Ieee.Format.bits_add b2.1 hw.1)
 have k4:=fun w'=>run_float_arith (P:=Tryz.prog) w' .mul 48 .f32 (curve1 n s e wv) 1048576000 (mulF (curve1 n s e wv) 1048576000) (Ieee.Format.bits_mul b3.1 const_quarter.1)
 have k5:=fun w'=>run_float_arith (P:=Tryz.prog) w' .sub 48 .f32 (mulF (curve1 n s e wv) 1048576000) v (curveF n s e wv v) (Ieee.Format.bits_sub b4.1 hv.1)
 clear b1 b2 b3 b4 b5 hn hs he hw hv
 generalize curveF n s e wv v=z5 at *
 generalize mulF (curve1 n s e wv) 1048576000=z4 at *
 generalize curve1 n s e wv=z3 at *
 generalize addF (addF n s) e=z2 at *
 generalize addF n s=z1 at *
 go_enter Tryz.func162,Tryz.ntmps162
 go_wp2_with fail
 refine (KA.out _ (HL.out)).mono ?_
 rintro en w1 ⟨rfl,b1⟩
 have HB1:=Lib.hid b1
 clear b1
 go_wp2_with fail
 go_ret
 exact ⟨ret_f HE.out.symm,(by have h:=HB1.out;exact (qBo h))⟩
def shadeF (a b c m n s e w v:Nat):Nat:=if gtr (Ieee.Format.shade2 a b c m n s e w) 0=true then Ieee.Format.shade2 a b c m n s e w else 0
structure LightOk (A B C M:Nat):Prop where
 a:Bd 10 A
 b:Bd 10 B
 c:Bd 10 C
 m:fin Ieee.single M
 m1:1≤Ieee.single.V M
set_option maxRecDepth 100000 in
theorem shadefn_any (A B C M:Nat) (X Y:Int) (Wn Hn:Nat) (x y:Int) (b o c k q pa pb pc pm:Nat) (l:List Nat) (w:World) (hl:SRow w (some ⟨b,o,none⟩) l) (hr:Right X Y Wn Hn l) (h:InnerAt X Y Wn Hn x y k) (hL:LightOk A B C M) (hq:Fld w q X Y Wn Hn (.slice (some ⟨b,o,none⟩) l.length c))
  (ha:Blk w pa #[.float .f32 A] 48) (hb:Blk w pb #[.float .f32 B] 48) (hc:Blk w pc #[.float .f32 C] 48) (hm:Blk w pm #[.float .f32 M] 48) :
  Calls Tryz.prog 163 #[.int .i64 x,.int .i64 y,.pointer (some ⟨q,0,none⟩),.pointer (some ⟨pa,0,none⟩),.pointer (some ⟨pb,0,none⟩),.pointer (some ⟨pc,0,none⟩),.pointer (some ⟨pm,0,none⟩)] w fun e w'=>e=.returned (.float .f32 (nbr (shadeF A B C M) l Wn k))∧Below w.heap.size w w':=by
 have KA:=Lib.hid (fun w' hl=>around_at X Y Wn Hn x y b o c k l w' hl hr h)
 have HL:=Lib.hid hl
 obtain ⟨c0,c1,c2,c3,c4⟩:=hq.cells
 have hn:=hr.bd (k-Wn)
 have hs:=hr.bd (k+Wn)
 have he:=hr.bd (k+1)
 have hw:=hr.bd (k-1)
 have HE:Hid (nbr (shadeF A B C M) l Wn k=shadeF A B C M (l.getD (k-Wn) 0) (l.getD (k+Wn) 0) (l.getD (k+1) 0) (l.getD (k-1) 0) (l.getD k 0)):=rfl
 have HA:=Lib.hid ha
 have HB:=Lib.hid hb
 have HC:=Lib.hid hc
 have HM:=Lib.hid hm
 clear hl hr h hq ha hb hc hm
 generalize nbr (shadeF A B C M) l Wn k=z at *
 generalize l.getD k 0=v at *
 generalize l.getD (k-Wn) 0=n at *
 generalize l.getD (k+Wn) 0=s at *
 generalize l.getD (k+1) 0=e at *
 generalize l.getD (k-1) 0=wv at *
 have KN:=Lib.hid (fun W=>normal_any n s e wv v W hn hs he hw)
 obtain ⟨_,_,n1,n2,n3⟩:=normal_bd hn hs he hw
 obtain ⟨b1,b2,b3,b4,b5,b6⟩:=Ieee.Format.shade_bd hL.a hL.b hL.c hL.m hL.m1 hn hs he hw
 have k1:=fun w'=>run_float_arith (P:=Tryz.prog) w' .mul 48 .f32 (nxF n s e wv) A (mulF (nxF n s e wv) A) (Ieee.Format.bits_mul n1.1 hL.a.1)
 have k2:=fun w'=>run_float_arith (P:=Tryz.prog) w' .mul 48 .f32 (nyF n s e wv) B (mulF (nyF n s e wv) B) (Ieee.Format.bits_mul n2.1 hL.b.1)
 have k3:=fun w'=>run_float_arith (P:=Tryz.prog) w' .add 48 .f32 (mulF (nxF n s e wv) A) (mulF (nyF n s e wv) B) (addF (mulF (nxF n s e wv) A) (mulF (nyF n s e wv) B)) (Ieee.Format.bits_add b1.1 b2.1)
 have k4:=fun w'=>run_float_arith (P:=Tryz.prog) w' .mul 48 .f32 (nzF n s e wv) C (mulF (nzF n s e wv) C) (Ieee.Format.bits_mul n3.1 hL.c.1)
 have k5:=fun w'=>run_float_arith (P:=Tryz.prog) w' .add 48 .f32 (addF (mulF (nxF n s e wv) A) (mulF (nyF n s e wv) B)) (mulF (nzF n s e wv) C) (Ieee.Format.shade1 A B C n s e wv) (Ieee.Format.bits_add b3.1 b4.1)
 have k6:=fun w'=>run_float_arith (P:=Tryz.prog) w' .quo 48 .f32 (Ieee.Format.shade1 A B C n s e wv) M (Ieee.Format.shade2 A B C M n s e wv) (Ieee.Format.bits_div b5.1 hL.m (one_ne hL.m1))
 have HE2:Hid (z=if gtr (Ieee.Format.shade2 A B C M n s e wv) 0=true then Ieee.Format.shade2 A B C M n s e wv else 0):=HE.out
 clear b1 b2 b3 b4 b5 b6 n1 n2 n3 hn hs he hw hL HE
 generalize Ieee.Format.shade2 A B C M n s e wv=z6 at *
 generalize Ieee.Format.shade1 A B C n s e wv=z5 at *
 generalize addF (mulF (nxF n s e wv) A) (mulF (nyF n s e wv) B)=z3 at *
 generalize mulF (nxF n s e wv) A=z1 at *
 generalize mulF (nyF n s e wv) B=z2 at *
 generalize mulF (nzF n s e wv) C=z4 at *
 generalize nxF n s e wv=y1 at *
 generalize nyF n s e wv=y2 at *
 generalize nzF n s e wv=y3 at *
 go_enter Tryz.func163,Tryz.ntmps163
 go_wp2_with fail
 refine (KA.out _ (HL.out)).mono ?_
 rintro en w1 ⟨rfl,b1⟩
 have HB1:=Lib.hid b1
 clear b1
 go_wp2_with fail
 refine (KN.out _).mono ?_
 rintro en w2 ⟨rfl,b2⟩
 have HB2:=Lib.hid (HB1.out.trans (b2.mono HB1.out.size))
 have a0:w2.cell? ⟨pa,0,none⟩=some (.float .f32 A):=(HA.out.below HB2.out HA.out.lt).cell 0
 have a1:w2.cell? ⟨pb,0,none⟩=some (.float .f32 B):=(HB.out.below HB2.out HB.out.lt).cell 0
 have a2:w2.cell? ⟨pc,0,none⟩=some (.float .f32 C):=(HC.out.below HB2.out HC.out.lt).cell 0
 have a3:w2.cell? ⟨pm,0,none⟩=some (.float .f32 M):=(HM.out.below HB2.out HM.out.lt).cell 0
 clear b2 c0 c1 c2 c3 c4
 cases hg:gtr z6 0 with
 | true =>
  have HZ:Hid (z=z6):=by have:=HE2.out;rw [hg,if_pos rfl] at this;exact this
  change (FloatKind.f32.format.order z6 0 == some .gt)=true at hg
  clear HE2
  go_wp2_with fail
  go_ret
  exact ⟨ret_f HZ.out.symm,HB2.out⟩
 | false =>
  have HZ:Hid (z=0):=by have:=HE2.out;rw [hg,if_neg (by decide)] at this;exact this
  change (FloatKind.f32.format.order z6 0 == some .gt)=false at hg
  clear HE2
  go_wp2_with fail
  go_ret
  exact ⟨ret_f HZ.out.symm,HB2.out⟩
open Ieee.Format (slopeF curveF)
def innerL (φ:Nat→Nat→Nat→Nat→Nat→Nat) (X Y:Int) (Wn Hn:Nat) (l:List Nat):List Nat:=madeL (fun x y=>nbr φ l Wn (cellNo X Y Wn x y).toNat) (X+1) (Y+1) (Wn-2) ((Hn-2)*(Wn-2))
theorem innerL_len (φ:Nat→Nat→Nat→Nat→Nat→Nat) (X Y:Int) (Wn Hn:Nat) (l:List Nat):(innerL φ X Y Wn Hn l).length=(Hn-2)*(Wn-2):=madeL_len _ _ _ _ _
theorem innerL_small (φ:Nat→Nat→Nat→Nat→Nat→Nat) {X Y:Int} {Wn Hn:Nat} {l:List Nat} (hr:Right X Y Wn Hn l):(innerL φ X Y Wn Hn l).length≤1099511627776:=by
 rw [innerL_len]
 have:=hr.h2;have:=hr.w2
 have:=Nat.mul_le_mul (show Hn-2≤512 by omega) (show Wn-2≤512 by omega)
 omega
theorem make_inner (gn:Nat) (caps:Array Value) (φ:Nat→Nat→Nat→Nat→Nat→Nat) (X Y:Int) (Wn Hn:Nat) (l:List Nat) (w:World) (hr:Right X Y Wn Hn l) (h3:3≤Wn) (h4:3≤Hn)
  (eg:∀ args w,(callFunc gn args).run Tryz.prog w=.ok (.enter gn args) w) (hlt:∀ k,nbr φ l Wn k<4294967296)
  (hf:∀ x y k,InnerAt X Y Wn Hn x y k→∀ W',Below w.heap.size w W'→Calls Tryz.prog gn (#[.int .i64 x,.int .i64 y] ++ caps) W' fun e w'=>e=.returned (.float .f32 (nbr φ l Wn k))∧Below W'.heap.size W' w') :
  Calls Tryz.prog 89 #[reg (X+1) (Y+1) ((Wn-2:Nat):Int) ((Hn-2:Nat):Int),.func (.func gn) #[] caps] w fun e w'=>MakeP (X+1) (Y+1) ((Wn-2:Nat):Int) ((Hn-2:Nat):Int) (innerL φ X Y Wn Hn l) w e w':=by
 have g1:=hr.w2;have g2:=hr.h2;have g3:=hr.x1;have g4:=hr.x2;have g5:=hr.y1;have g6:=hr.y2
 refine make_any gn caps (fun x y=>nbr φ l Wn (cellNo X Y Wn x y).toNat) (X+1) (Y+1) (Wn-2) (Hn-2) w (by omega) (by omega) (by omega) (by omega) (by omega) (by omega) (by omega) (by omega) eg (fun x y _ _ _ _=>hlt _) ?_
 intro x y h1 h2 h5 h6 W' hb
 exact hf x y _ (InnerAt.of h1 (by omega) h5 (by omega)) W' hb
set_option maxRecDepth 100000 in
theorem slope_ok (X Y:Int) (Wn Hn:Nat) (b o c:Nat) (l:List Nat) (w:World) (hl:SRow w (some ⟨b,o,none⟩) l) (hr:Right X Y Wn Hn l) (h3:3≤Wn) (h4:3≤Hn) :
  Calls Tryz.prog 125 #[fldV X Y Wn Hn (some ⟨b,o,none⟩) l.length c] w fun e w'=>OpP (resC (innerL slopeF X Y Wn Hn l)) (X+1) (Y+1) ((Wn-2:Nat):Int) ((Hn-2:Nat):Int) (innerL slopeF X Y Wn Hn l) w e w':=by
 have KI:=Lib.hid (fun w hl=>inner_ok X Y Wn Hn b o c l w hl hr h3 h4)
 have KM:=Lib.hid (fun q w hl (hq:Fld w q X Y Wn Hn (.slice (some ⟨b,o,none⟩) l.length c))=>make_inner 158 #[.pointer (some ⟨q,0,none⟩)] slopeF X Y Wn Hn l w hr h3 h4 (enters_of Tryz.func158 (by kernel_rfl) rfl) (fun k=>Ieee.Format.rootF_lt _) (fun x y k hk W' hb=>slopefn_any X Y Wn Hn x y b o c k q l W' (SRow.below hl hb) hr hk (hq.below hb hq.lt)))
 have KR:=Lib.hid (fun X1 Y1 W1 H1 g cap B w ho=>result_any X1 Y1 W1 H1 g cap B (innerL slopeF X Y Wn Hn l) w ho (innerL_small slopeF hr))
 have HL:=Lib.hid hl
 clear hl hr h3 h4
 generalize innerL slopeF X Y Wn Hn l=S at *
 generalize resC S=C at *
 go_enter Tryz.func125,Tryz.ntmps125
 go_wp2_with fail
 generalize hW0:(w.alloc (.cells #[.int .i64 X,.int .i64 Y,.int .i64 Wn,.int .i64 Hn,.slice (some ⟨b,o,none⟩) l.length c] 32)).alloc (.cells #[.int .i64 0,.int .i64 0,.int .i64 0,.int .i64 0,.slice none 0 0] 32)=W0 at *
 obtain ⟨E0,F0,B0,z0⟩:=two_fields w X Y Wn Hn (.slice (some ⟨b,o,none⟩) l.length c) W0 hW0.symm
 clear hW0
 refine (KI.out _ (HL.out.below B0)).mono ?_
 rintro e w1 ⟨rfl,b1⟩
 have E1:=E0.below b1 E0.lt
 have F1:=F0.below b1 F0.lt
 have HL1:=Lib.hid ((HL.out.below B0).below b1)
 have B1:=Lib.hid (B0.trans (b1.mono B0.size))
 clear b1 B0 F0 E0 z0 KI HL
 have hR:=Reg.new w1 (X+1) (Y+1) ((Wn-2:Nat):Int) ((Hn-2:Nat):Int)
 have b2:Below w1.heap.size w1 (w1.alloc (.cells #[.int .i64 (X+1),.int .i64 (Y+1),.int .i64 ((Wn-2:Nat):Int),.int .i64 ((Hn-2:Nat):Int)] 26)):=qBl
 have HE2:=Lib.hid (E1.below b2 E1.lt)
 have HF2:=Lib.hid (F1.below b2 F1.lt)
 have HL2:=Lib.hid (HL1.out.below b2)
 have HB2:=Lib.hid (B1.out.trans (b2.mono B1.out.size))
 have l0:w.heap.size<w1.heap.size:=E1.lt
 have l1:w.heap.size+1<w1.heap.size:=F1.lt
 have HR2:=Lib.hid hR
 clear E1 F1 HL1 B1 b2 hR
 have HS2:Hid (w1.heap.size+1=(w1.alloc (.cells #[.int .i64 (X+1),.int .i64 (Y+1),.int .i64 ((Wn-2:Nat):Int),.int .i64 ((Hn-2:Nat):Int)] 26)).heap.size):=Lib.hid (by simp)
 go_wp2_with fail
 generalize w1.alloc (.cells #[.int .i64 (X+1),.int .i64 (Y+1),.int .i64 ((Wn-2:Nat):Int),.int .i64 ((Hn-2:Nat):Int)] 26)=w2 at *
 refine (KM.out _ _ HL2.out HE2.out).mono ?_
 rintro e w3 ⟨⟨g,cap,rfl,ho⟩,b3⟩
 have HO3:=Lib.hid ho
 have HF3:=Lib.hid (HF2.out.below b3 HF2.out.lt)
 have HB3:=Lib.hid (HB2.out.trans (b3.mono HB2.out.size))
 clear ho b3 KM HE2 HL2
 go_wp2_with fail
 refine (KR.out _ _ _ _ _ _ _ _ HO3.out).mono ?_
 rintro e w4 ⟨⟨x,y,p,q,a,m,k,rfl,o4⟩,b4⟩
 have HOZ:=Lib.hid o4
 have HFZ:=Lib.hid (HF3.out.below b4 HF3.out.lt)
 have HBZ:=Lib.hid (HB3.out.trans (b4.mono HB3.out.size))
 have HZB:Hid (w.heap.size+1<w2.heap.size):=HF2.out.lt
 have HBB:Hid (w.heap.size≤w2.heap.size):=HB2.out.size
 clear o4 b4 KR HO3 HF3 HB3 HF2 HB2 l0 l1
 obtain ⟨d0,d1,d2,d3,d4⟩:=HFZ.out.cells
 have qf0:=HFZ.out.frozen 0
 have qf1:=HFZ.out.frozen 1
 have qf2:=HFZ.out.frozen 2
 have qf3:=HFZ.out.frozen 3
 have qf4:=HFZ.out.frozen 4
 have lz:=HFZ.out.lt
 go_wp2_with fail
 generalize hW5:((((w4.setCell ⟨w.heap.size+1,0,none⟩ (.int .i64 x)).setCell ⟨w.heap.size+1,1,none⟩ (.int .i64 y)).setCell ⟨w.heap.size+1,2,none⟩ (.int .i64 p)).setCell ⟨w.heap.size+1,3,none⟩ (.int .i64 q)).setCell ⟨w.heap.size+1,4,none⟩ (.slice a m k)=W5 at *
 obtain ⟨f5,bb5,oo5,_,z5⟩:=fld_store w4 (w.heap.size+1) 0 0 0 0 _ x y p q (.slice a m k) HFZ.out W5 hW5.symm
 have hO5:=(HOZ.out.set oo5 HZB.out).base HBB.out
 have hB5:=HBZ.out.trans (bb5.mono (by omega))
 clear d0 d1 d2 d3 d4 qf0 qf1 qf2 qf3 qf4 hW5 oo5
 obtain ⟨d0,d1,d2,d3,d4⟩:=f5.cells
 exact bodyPost_ret (v:=.tuple #[fldV x y p q a m k,.int .i64 C]) (by simp [results,Tryz.results125,go_sem, *]) rfl ⟨⟨x,y,p,q,a,m,k,rfl,hO5⟩,hB5⟩
def IRow (w:World) (b:Nat) (l:List Int):Prop:=∀ i,i<l.length→w.cell? ⟨b,i,none⟩=some (.int .i64 (l.getD i 0))
def inB (m n:Int):Bool:=decide (-m≤n∧n≤m)
theorem within_yes (m:Int) (b c:Nat) (l:List Int) (w:World) (h0:0≤m) (h1:m≤1099511627776) (hn:l.length≤1000) (hc:IRow w b l) (hw:∀ i,i<l.length→-m≤l.getD i 0∧l.getD i 0≤m) :
  Calls Tryz.prog 86 #[.int .i64 m,.slice (some ⟨b,0,none⟩) l.length c] w fun e w'=>e=.returned (.bool true)∧w=w':=by
 have HC:=Lib.hid hc
 have HW:=Lib.hid hw
 clear hc hw
 go_enter Tryz.func86,Tryz.ntmps86
 go_wp2
 go_loop [9] (fun i=>∃ k:Nat,k≤l.length∧i=.int .i64 k) (fun i=>l.length-(intOf i).toNat)
 case atStart=>exact ⟨0,by omega,rfl⟩
 case round =>
  obtain ⟨k,hk,rfl⟩:=hrel
  by_cases hlt:k<l.length
  ·have hc:=HC.out k hlt
   obtain ⟨g1,g2⟩:=HW.out k hlt
   exact qx79
  ·go_wp2
   go_ret
   exact ⟨rfl,rfl⟩
theorem within_no (m:Int) (b c:Nat) (l:List Int) (w:World) (h0:0≤m) (h1:m≤1099511627776) (hn:l.length≤1000) (hc:IRow w b l) (j:Nat) (hj:j<l.length) (hw:∀ i,i<j→-m≤l.getD i 0∧l.getD i 0≤m) (hb:l.getD j 0 < -m∨m<l.getD j 0) :
  Calls Tryz.prog 86 #[.int .i64 m,.slice (some ⟨b,0,none⟩) l.length c] w fun e w'=>e=.returned (.bool false)∧w=w':=by
 have HC:=Lib.hid hc
 have HW:=Lib.hid hw
 have HB:=Lib.hid hb
 clear hc hw hb
 go_enter Tryz.func86,Tryz.ntmps86
 go_wp2
 go_loop [9] (fun i=>∃ k:Nat,k≤j∧i=.int .i64 k) (fun i=>l.length-(intOf i).toNat)
 case atStart=>exact ⟨0,by omega,rfl⟩
 case round =>
  obtain ⟨k,hk,rfl⟩:=hrel
  have hlt:k<l.length:=by omega
  have hc:=HC.out k hlt
  by_cases hkj:k<j
  ·obtain ⟨g1,g2⟩:=HW.out k hkj
   exact qx79
  ·obtain rfl:k=j:=by omega
   have hb:=HB.out
   generalize l.getD k 0=n at *
   rcases hb with hb|hb
   ·go_wp2
    go_ret
    exact ⟨rfl,rfl⟩
   ·have g3:¬ n < -m:=by omega
    go_wp2
    go_ret
    exact ⟨rfl,rfl⟩
theorem all_or_first (p:Nat→Prop) (n:Nat):(∀ i,i<n→p i)∨∃ j,j<n∧(∀ i,i<j→p i)∧¬ p j:=by
 induction n with
 | zero=>exact .inl fun i hi=>absurd hi (by omega)
 | succ n ih =>
  rcases ih with h|⟨j,hj,h1,h2⟩
  ·by_cases hp:p n
   ·exact .inl fun i hi=>by
     rcases Nat.lt_or_ge i n with c|c
     ·exact h i c
     ·rw [show i=n by omega];exact hp
   ·exact .inr ⟨n,by omega,h,hp⟩
  ·exact .inr ⟨j,by omega,h1,h2⟩
theorem within_any (m:Int) (b c:Nat) (l:List Int) (w:World) (h0:0≤m) (h1:m≤1099511627776) (hn:l.length≤1000) (hc:IRow w b l) :
  Calls Tryz.prog 86 #[.int .i64 m,.slice (some ⟨b,0,none⟩) l.length c] w fun e w'=>e=.returned (.bool (l.all (inB m)))∧w=w':=by
 rcases all_or_first (fun i=>-m≤l.getD i 0∧l.getD i 0≤m) l.length with h|⟨j,hj,h2,h3⟩
 ·have:l.all (inB m)=true:=by
   rw [List.all_eq_true]
   intro x hx
   obtain ⟨i,hi,rfl⟩:=List.getElem_of_mem hx
   have:=h i hi
   rw [List.getD_eq_getElem?_getD,List.getElem?_eq_getElem hi] at this
   exact decide_eq_true this
  rw [this]
  exact within_yes m b c l w h0 h1 hn hc h
 ·have:l.all (inB m)=false:=by
   rw [List.all_eq_false]
   refine ⟨l[j],List.getElem_mem hj,?_⟩
   rw [List.getD_eq_getElem?_getD,List.getElem?_eq_getElem hj] at h3
   unfold inB
   rw [decide_eq_true_eq]
   exact h3
  rw [this]
  exact within_no m b c l w h0 h1 hn hc j hj h2 (by omega)
theorem irow3 (w:World) (b:Nat) (x y z:Int) (h0:w.cell? ⟨b,0,none⟩=some (.int .i64 x)) (h1:w.cell? ⟨b,1,none⟩=some (.int .i64 y)) (h2:w.cell? ⟨b,2,none⟩=some (.int .i64 z)):IRow w b [x,y,z]:=by
 intro i hi
 match i,hi with
 | 0,_=>exact h0
 | 1,_=>exact h1
 | 2,_=>exact h2
theorem irow2 (w:World) (b:Nat) (x y:Int) (h0:w.cell? ⟨b,0,none⟩=some (.int .i64 x)) (h1:w.cell? ⟨b,1,none⟩=some (.int .i64 y)):IRow w b [x,y]:=by
 intro i hi
 match i,hi with
 | 0,_=>exact h0
 | 1,_=>exact h1
theorem irow1 (w:World) (b:Nat) (x:Int) (h0:w.cell? ⟨b,0,none⟩=some (.int .i64 x)):IRow w b [x]:=by
 intro i hi
 match i,hi with
 | 0,_=>exact h0
theorem within3 (m:Int) (b:Nat) (x y z:Int) (w:World) (h0:0≤m) (h1:m≤1099511627776) (c0:w.cell? ⟨b,0,none⟩=some (.int .i64 x)) (c1:w.cell? ⟨b,1,none⟩=some (.int .i64 y)) (c2:w.cell? ⟨b,2,none⟩=some (.int .i64 z)) :
  Calls Tryz.prog 86 #[.int .i64 m,.slice (some ⟨b,0,none⟩) 3 3] w fun e w'=>e=.returned (.bool (inB m x && inB m y && inB m z))∧w=w':=by
 have:=within_any m b 3 [x,y,z] w h0 h1 (by simp) (irow3 w b x y z c0 c1 c2)
 simpa [Bool.and_assoc] using this
theorem within2 (m:Int) (b:Nat) (x y:Int) (w:World) (h0:0≤m) (h1:m≤1099511627776) (c0:w.cell? ⟨b,0,none⟩=some (.int .i64 x)) (c1:w.cell? ⟨b,1,none⟩=some (.int .i64 y)) :
  Calls Tryz.prog 86 #[.int .i64 m,.slice (some ⟨b,0,none⟩) 2 2] w fun e w'=>e=.returned (.bool (inB m x && inB m y))∧w=w':=by
 have:=within_any m b 2 [x,y] w h0 h1 (by simp) (irow2 w b x y c0 c1)
 simpa using this
theorem within1 (m:Int) (b:Nat) (x:Int) (w:World) (h0:0≤m) (h1:m≤1099511627776) (c0:w.cell? ⟨b,0,none⟩=some (.int .i64 x)) :
  Calls Tryz.prog 86 #[.int .i64 m,.slice (some ⟨b,0,none⟩) 1 1] w fun e w'=>e=.returned (.bool (inB m x))∧w=w':=by
 have:=within_any m b 1 [x] w h0 h1 (by simp) (irow1 w b x c0)
 simpa using this
def lightE (x y z:Int):Int:=if (inB 1000 x && inB 1000 y && inB 1000 z)=false then 3 else if x=0∧y=0∧z=0 then 12 else 0
open Ieee.Format (conv_exact const_1)
abbrev cv (n:Int):Nat:=floatOfInt .f32 n
theorem cv_bd {n:Int} {k:Nat} (hk:k≤23) (h1:-(2 ^ k:Nat)≤n) (h2:n≤(2 ^ k:Nat)):Bd k (cv n):=by
 have hp:(2 ^ k:Nat)≤2 ^ 23:=Nat.pow_le_pow_right (by omega) hk
 have:(2:Nat) ^ 23=8388608:=by decide
 obtain ⟨a,b,_⟩:=conv_exact n (by omega) (by omega)
 refine ⟨a,?_⟩
 rw [b,Ieee.P2_nat]
 constructor
 ·rw [←Rat.intCast_natCast,←Rat.intCast_neg];exact Rat.intCast_le_intCast.2 h1
 ·rw [←Rat.intCast_natCast];exact Rat.intCast_le_intCast.2 h2
theorem sq_int (n m:Int) (h1:-m≤n) (h2:n≤m):0≤n*n∧n*n≤m*m:=by
 constructor
 ·rcases Int.le_total 0 n with h|h
  ·exact Int.mul_nonneg h h
  ·have:=Int.mul_nonneg (show 0≤-n by omega) (show 0≤-n by omega)
   rw [Int.neg_mul_neg] at this;exact this
 ·rcases Int.le_total 0 n with h|h
  ·exact Int.mul_le_mul h2 h2 h (by omega)
  ·have:=Int.mul_le_mul (show -n≤m by omega) (show -n≤m by omega) (show 0≤-n by omega) (show 0≤m by omega)
   rw [Int.neg_mul_neg] at this;exact this
theorem sq_pos {n:Int} (h:n≠0):1≤n*n:=by
 rcases Int.lt_or_gt_of_ne h with h|h
 ·have:=Int.mul_le_mul (show 1≤-n by omega) (show 1≤-n by omega) (by omega) (show 0≤-n by omega)
  rw [Int.neg_mul_neg] at this;omega
 ·have:=Int.mul_le_mul (show 1≤n by omega) (show 1≤n by omega) (by omega) (show 0≤n by omega)
  omega
theorem cv_root {n:Int} (h1:1≤n) (h2:n<16777216):fin Ieee.single (cv n)∧0≤Ieee.single.V (cv n)∧fin Ieee.single (rootF (cv n))∧1≤Ieee.single.V (rootF (cv n)):=by
 obtain ⟨a,b,_⟩:=conv_exact n h2 (by omega)
 have hb:1≤Ieee.single.V (cv n):=by
  rw [b]
  have:((1:Int):Rat)≤(n:Rat):=Rat.intCast_le_intCast.2 h1
  exact this
 have h0:0≤Ieee.single.V (cv n):=by grind
 obtain ⟨X,Z,_,_,_,f,_⟩:=Ieee.Format.root_spec a h0
 exact ⟨a,h0,f,Ieee.Format.root_one a hb⟩
theorem light_zero {x y z:Int} (h:lightE x y z=0):(-1000≤x∧x≤1000)∧(-1000≤y∧y≤1000)∧(-1000≤z∧z≤1000)∧¬ (x=0∧y=0∧z=0):=by
 unfold lightE at h
 cases hc:(inB 1000 x && inB 1000 y && inB 1000 z) with
 | false=>rw [hc,if_pos rfl] at h;omega
 | true =>
  rw [hc,if_neg (by decide)] at h
  simp only [Bool.and_eq_true,inB,decide_eq_true_eq] at hc
  refine ⟨hc.1.1,hc.1.2,hc.2,fun e=>?_⟩
  rw [if_pos e] at h;omega
theorem light_ok {x y z:Int} (h:lightE x y z=0):LightOk (cv x) (cv y) (cv z) (rootF (cv (x*x+y*y+z*z)))∧fin Ieee.single (cv (x*x+y*y+z*z))∧0≤Ieee.single.V (cv (x*x+y*y+z*z)) ∧
  (0≤x*x∧x*x≤1000000)∧(0≤y*y∧y*y≤1000000)∧(0≤z*z∧z*z≤1000000):=by
 obtain ⟨h1,h2,h3,h4⟩:=light_zero h
 have a:=sq_int x 1000 h1.1 h1.2
 have b:=sq_int y 1000 h2.1 h2.2
 have c:=sq_int z 1000 h3.1 h3.2
 have hp:1≤x*x+y*y+z*z:=by
  by_cases e1:x=0
  ·by_cases e2:y=0
   ·by_cases e3:z=0
    ·exact absurd ⟨e1,e2,e3⟩ h4
    ·have:=sq_pos e3;omega
   ·have:=sq_pos e2;omega
  ·have:=sq_pos e1;omega
 obtain ⟨r1,r2,r3,r4⟩:=cv_root hp (by omega)
 exact ⟨⟨cv_bd (by omega) (by simp;omega) (by simp;omega),cv_bd (by omega) (by simp;omega) (by simp;omega),cv_bd (by omega) (by simp;omega) (by simp;omega),r3,r4⟩,r1,r2,by omega,by omega,by omega⟩
theorem light_world (w:World) (x y z:Int) (M A B C:Nat):∀ W0,W0=((((w.alloc (.cells #[.int .i64 x,.int .i64 y,.int .i64 z] 3)).alloc (.cells #[.float .f32 M] 48)).alloc (.cells #[.float .f32 A] 48)).alloc (.cells #[.float .f32 B] 48)).alloc (.cells #[.float .f32 C] 48) →
  Blk W0 (w.heap.size+1) #[.float .f32 M] 48∧Blk W0 (w.heap.size+1+1) #[.float .f32 A] 48∧Blk W0 (w.heap.size+1+1+1) #[.float .f32 B] 48∧Blk W0 (w.heap.size+1+1+1+1) #[.float .f32 C] 48∧Below w.heap.size w W0:=by
 rintro _ rfl
 refine ⟨?_,?_,?_,?_,qBl⟩
 ·have:=(((Blk.new (w.alloc (.cells #[.int .i64 x,.int .i64 y,.int .i64 z] 3)) #[.float .f32 M] 48).alloc (.cells #[.float .f32 A] 48)).alloc (.cells #[.float .f32 B] 48)).alloc (.cells #[.float .f32 C] 48)
  simpa using this
 ·have:=((Blk.new ((w.alloc (.cells #[.int .i64 x,.int .i64 y,.int .i64 z] 3)).alloc (.cells #[.float .f32 M] 48)) #[.float .f32 A] 48).alloc (.cells #[.float .f32 B] 48)).alloc (.cells #[.float .f32 C] 48)
  simpa using this
 ·have:=(Blk.new (((w.alloc (.cells #[.int .i64 x,.int .i64 y,.int .i64 z] 3)).alloc (.cells #[.float .f32 M] 48)).alloc (.cells #[.float .f32 A] 48)) #[.float .f32 B] 48).alloc (.cells #[.float .f32 C] 48)
  simpa using this
 ·have:=Blk.new ((((w.alloc (.cells #[.int .i64 x,.int .i64 y,.int .i64 z] 3)).alloc (.cells #[.float .f32 M] 48)).alloc (.cells #[.float .f32 A] 48)).alloc (.cells #[.float .f32 B] 48)) #[.float .f32 C] 48
  simpa using this
theorem shadeF_lt (A B C M n s e w v:Nat):shadeF A B C M n s e w v<4294967296:=by
 unfold shadeF;split
 ·exact Ieee.Format.divF_lt _ _
 ·decide
theorem shade_bad (X Y:Int) (Wn Hn:Nat) (b o c:Nat) (l:List Nat) (lx ly lz:Int) (w:World) (hl:SRow w (some ⟨b,o,none⟩) l) (hr:Right X Y Wn Hn l) (h3:3≤Wn) (h4:3≤Hn) (h:lightE lx ly lz≠0) :
  Calls Tryz.prog 127 #[fldV X Y Wn Hn (some ⟨b,o,none⟩) l.length c,.int .i64 lx,.int .i64 ly,.int .i64 lz] w fun e w'=>e=.returned (.tuple #[fldV 0 0 0 0 none 0 0,.int .i64 (lightE lx ly lz)])∧Below w.heap.size w w':=by
 have KI:=Lib.hid (fun w hl=>inner_ok X Y Wn Hn b o c l w hl hr h3 h4)
 have HL:=Lib.hid hl
 have KW:=Lib.hid (fun W g c0 c1 c2=>within3 1000 g lx ly lz W (by decide) (by decide) c0 c1 c2)
 clear hl hr h3 h4
 unfold lightE at *
 cases hc:(inB 1000 lx && inB 1000 ly && inB 1000 lz) with
 | false =>
  rw [hc] at KW
  rw [if_pos rfl]
  clear hc h
  go_enter Tryz.func127,Tryz.ntmps127
  go_wp2_with fail
  generalize hW0:(w.alloc (.cells #[.int .i64 X,.int .i64 Y,.int .i64 Wn,.int .i64 Hn,.slice (some ⟨b,o,none⟩) l.length c] 32)).alloc (.cells #[.int .i64 0,.int .i64 0,.int .i64 0,.int .i64 0,.slice none 0 0] 32)=W0 at *
  obtain ⟨E0,F0,B0,z0⟩:=two_fields w X Y Wn Hn (.slice (some ⟨b,o,none⟩) l.length c) W0 hW0.symm
  clear hW0
  refine (KI.out _ (HL.out.below B0)).mono ?_
  rintro e w1 ⟨rfl,b1⟩
  have E1:=E0.below b1 E0.lt
  have F1:=F0.below b1 F0.lt
  have HL1:=Lib.hid ((HL.out.below B0).below b1)
  have B1:=Lib.hid (B0.trans (b1.mono B0.size))
  clear b1 B0 F0 E0 z0 KI HL
  have hR:=Reg.new w1 (X+1) (Y+1) ((Wn-2:Nat):Int) ((Hn-2:Nat):Int)
  have b2:Below w1.heap.size w1 (w1.alloc (.cells #[.int .i64 (X+1),.int .i64 (Y+1),.int .i64 ((Wn-2:Nat):Int),.int .i64 ((Hn-2:Nat):Int)] 26)):=qBl
  have HE2:=Lib.hid (E1.below b2 E1.lt)
  have HF2:=Lib.hid (F1.below b2 F1.lt)
  have HL2:=Lib.hid (HL1.out.below b2)
  have HB2:=Lib.hid (B1.out.trans (b2.mono B1.out.size))
  have l0:w.heap.size<w1.heap.size:=E1.lt
  have l1:w.heap.size+1<w1.heap.size:=F1.lt
  have HR2:=Lib.hid hR
  clear E1 F1 HL1 B1 b2 hR
  have HS2:Hid (w1.heap.size+1=(w1.alloc (.cells #[.int .i64 (X+1),.int .i64 (Y+1),.int .i64 ((Wn-2:Nat):Int),.int .i64 ((Hn-2:Nat):Int)] 26)).heap.size):=Lib.hid (by simp)
  go_wp2_with fail
  generalize w1.alloc (.cells #[.int .i64 (X+1),.int .i64 (Y+1),.int .i64 ((Wn-2:Nat):Int),.int .i64 ((Hn-2:Nat):Int)] 26)=w2 at *
  rw [HS2.out]
  refine (KW.out _ _ (by simp [go_sem]) (by simp [go_sem]) (by simp [go_sem])).mono ?_
  rintro e w3 ⟨rfl,rfl⟩
  obtain ⟨d0,d1,d2,d3,d4⟩:=HF2.out.cells
  have qf0:=HF2.out.frozen 0
  have qf1:=HF2.out.frozen 1
  have qf2:=HF2.out.frozen 2
  have qf3:=HF2.out.frozen 3
  have qf4:=HF2.out.frozen 4
  have l2:=HF2.out.lt
  go_wp2_with fail
  have B3:=HB2.out
  exact bodyPost_ret (v:=.tuple #[fldV 0 0 0 0 none 0 0,.int .i64 3]) (by simp [results,Tryz.results127,go_sem, *]) rfl ⟨rfl,(qBo B3)⟩
 | true =>
  rw [hc] at KW h
  rw [if_neg (by decide)] at h ⊢
  have hz:lx=0∧ly=0∧lz=0:=by
   apply Classical.byContradiction
   intro hn
   rw [if_neg hn] at h;exact h rfl
  rw [if_pos hz]
  obtain ⟨rfl,rfl,rfl⟩:=hz
  clear hc h
  go_enter Tryz.func127,Tryz.ntmps127
  go_wp2_with fail
  generalize hW0:(w.alloc (.cells #[.int .i64 X,.int .i64 Y,.int .i64 Wn,.int .i64 Hn,.slice (some ⟨b,o,none⟩) l.length c] 32)).alloc (.cells #[.int .i64 0,.int .i64 0,.int .i64 0,.int .i64 0,.slice none 0 0] 32)=W0 at *
  obtain ⟨E0,F0,B0,z0⟩:=two_fields w X Y Wn Hn (.slice (some ⟨b,o,none⟩) l.length c) W0 hW0.symm
  clear hW0
  refine (KI.out _ (HL.out.below B0)).mono ?_
  rintro e w1 ⟨rfl,b1⟩
  have E1:=E0.below b1 E0.lt
  have F1:=F0.below b1 F0.lt
  have HL1:=Lib.hid ((HL.out.below B0).below b1)
  have B1:=Lib.hid (B0.trans (b1.mono B0.size))
  clear b1 B0 F0 E0 z0 KI HL
  have hR:=Reg.new w1 (X+1) (Y+1) ((Wn-2:Nat):Int) ((Hn-2:Nat):Int)
  have b2:Below w1.heap.size w1 (w1.alloc (.cells #[.int .i64 (X+1),.int .i64 (Y+1),.int .i64 ((Wn-2:Nat):Int),.int .i64 ((Hn-2:Nat):Int)] 26)):=qBl
  have HE2:=Lib.hid (E1.below b2 E1.lt)
  have HF2:=Lib.hid (F1.below b2 F1.lt)
  have HL2:=Lib.hid (HL1.out.below b2)
  have HB2:=Lib.hid (B1.out.trans (b2.mono B1.out.size))
  have l0:w.heap.size<w1.heap.size:=E1.lt
  have l1:w.heap.size+1<w1.heap.size:=F1.lt
  have HR2:=Lib.hid hR
  clear E1 F1 HL1 B1 b2 hR
  have HS2:Hid (w1.heap.size+1=(w1.alloc (.cells #[.int .i64 (X+1),.int .i64 (Y+1),.int .i64 ((Wn-2:Nat):Int),.int .i64 ((Hn-2:Nat):Int)] 26)).heap.size):=Lib.hid (by simp)
  go_wp2_with fail
  generalize w1.alloc (.cells #[.int .i64 (X+1),.int .i64 (Y+1),.int .i64 ((Wn-2:Nat):Int),.int .i64 ((Hn-2:Nat):Int)] 26)=w2 at *
  rw [HS2.out]
  refine (KW.out _ _ (by simp [go_sem]) (by simp [go_sem]) (by simp [go_sem])).mono ?_
  rintro e w3 ⟨rfl,rfl⟩
  obtain ⟨d0,d1,d2,d3,d4⟩:=HF2.out.cells
  have qf0:=HF2.out.frozen 0
  have qf1:=HF2.out.frozen 1
  have qf2:=HF2.out.frozen 2
  have qf3:=HF2.out.frozen 3
  have qf4:=HF2.out.frozen 4
  have l2:=HF2.out.lt
  go_wp2_with fail
  have B3:=HB2.out
  exact bodyPost_ret (v:=.tuple #[fldV 0 0 0 0 none 0 0,.int .i64 12]) (by simp [results,Tryz.results127,go_sem, *]) rfl ⟨rfl,(qBo B3)⟩
set_option maxRecDepth 100000 in
set_option maxHeartbeats 1000000 in
theorem shade_ok (X Y:Int) (Wn Hn:Nat) (b o c:Nat) (l:List Nat) (lx ly lz:Int) (w:World) (hl:SRow w (some ⟨b,o,none⟩) l) (hr:Right X Y Wn Hn l) (h3:3≤Wn) (h4:3≤Hn) (h:lightE lx ly lz=0) (φ:Nat→Nat→Nat→Nat→Nat→Nat) (hφ:φ=shadeF (cv lx) (cv ly) (cv lz) (rootF (cv (lx*lx+ly*ly+lz*lz)))) :
  Calls Tryz.prog 127 #[fldV X Y Wn Hn (some ⟨b,o,none⟩) l.length c,.int .i64 lx,.int .i64 ly,.int .i64 lz] w fun e w'=>OpP (resC (innerL φ X Y Wn Hn l)) (X+1) (Y+1) ((Wn-2:Nat):Int) ((Hn-2:Nat):Int) (innerL φ X Y Wn Hn l) w e w':=by
 obtain ⟨hL,hs1,hs2,hx,hy,hz⟩:=light_ok h
 obtain ⟨bx,bY,bz,hnz⟩:=light_zero h
 have KI:=Lib.hid (fun w hl=>inner_ok X Y Wn Hn b o c l w hl hr h3 h4)
 have HL:=Lib.hid hl
 have KW:=Lib.hid (fun W g c0 c1 c2=>within3 1000 g lx ly lz W (by decide) (by decide) c0 c1 c2)
 rw [show (inB 1000 lx && inB 1000 ly && inB 1000 lz)=true from by simp [inB];omega] at KW
 have KT:Hid (∀ n,n=lx*lx+ly*ly+lz*lz→∀ w,Calls Tryz.prog 142 #[.float .f32 (floatOfInt .f32 n)] w fun e w'=>e=.returned (.float .f32 (rootF (cv (lx*lx+ly*ly+lz*lz))))∧w=w'):=by
  rintro n rfl w
  exact root_any _ hs1 hs2 w
 have KM:=Lib.hid (fun q pa pb pc pm w hl (hq:Fld w q X Y Wn Hn (.slice (some ⟨b,o,none⟩) l.length c)) ha hb hc hm=>make_inner 163 #[.pointer (some ⟨q,0,none⟩),.pointer (some ⟨pa,0,none⟩),.pointer (some ⟨pb,0,none⟩),.pointer (some ⟨pc,0,none⟩),.pointer (some ⟨pm,0,none⟩)] φ X Y Wn Hn l w hr h3 h4 (enters_of Tryz.func163 (by kernel_rfl) rfl) (fun k=>by rw [hφ];exact shadeF_lt _ _ _ _ _ _ _ _ _)
  (fun x y k hk W' hb'=>by rw [hφ];exact shadefn_any (cv lx) (cv ly) (cv lz) (rootF (cv (lx*lx+ly*ly+lz*lz))) X Y Wn Hn x y b o c k q pa pb pc pm l W' (SRow.below hl hb') hr hk hL (hq.below hb' hq.lt) (Blk.below ha hb' ha.lt) (Blk.below hb hb' hb.lt) (Blk.below hc hb' hc.lt) (Blk.below hm hb' hm.lt)))
 have KR:=Lib.hid (fun X1 Y1 W1 H1 g cap B w ho=>result_any X1 Y1 W1 H1 g cap B (innerL φ X Y Wn Hn l) w ho (innerL_small φ hr))
 clear hl hr h3 h4 hL hs1 hs2 h hφ
 generalize innerL φ X Y Wn Hn l=S at *
 generalize resC S=C at *
 generalize hM:rootF (cv (lx*lx+ly*ly+lz*lz))=M at *
 clear hM
 obtain ⟨x1,x2⟩:=hx
 obtain ⟨y1,y2⟩:=hy
 obtain ⟨z1,z2⟩:=hz
 obtain ⟨x3,x4⟩:=bx
 obtain ⟨y3,y4⟩:=bY
 obtain ⟨z3,z4⟩:=bz
 have hw:lx≠0∨(lx=0∧ly≠0)∨(lx=0∧ly=0∧lz≠0):=by omega
 rcases hw with hw|⟨rfl,hw⟩|⟨rfl,rfl,hw⟩
 ·have q1:(lx == 0)=false:=by simpa using hw
  clear hw hnz
  go_enter Tryz.func127,Tryz.ntmps127
  go_wp2_with fail
  generalize hW0:(w.alloc (.cells #[.int .i64 X,.int .i64 Y,.int .i64 Wn,.int .i64 Hn,.slice (some ⟨b,o,none⟩) l.length c] 32)).alloc (.cells #[.int .i64 0,.int .i64 0,.int .i64 0,.int .i64 0,.slice none 0 0] 32)=W0 at *
  obtain ⟨E0,F0,B0,z0⟩:=two_fields w X Y Wn Hn (.slice (some ⟨b,o,none⟩) l.length c) W0 hW0.symm
  clear hW0
  refine (KI.out _ (HL.out.below B0)).mono ?_
  rintro e w1 ⟨rfl,b1⟩
  have E1:=E0.below b1 E0.lt
  have F1:=F0.below b1 F0.lt
  have HL1:=Lib.hid ((HL.out.below B0).below b1)
  have B1:=Lib.hid (B0.trans (b1.mono B0.size))
  clear b1 B0 F0 E0 z0 KI HL
  have hR:=Reg.new w1 (X+1) (Y+1) ((Wn-2:Nat):Int) ((Hn-2:Nat):Int)
  have b2:Below w1.heap.size w1 (w1.alloc (.cells #[.int .i64 (X+1),.int .i64 (Y+1),.int .i64 ((Wn-2:Nat):Int),.int .i64 ((Hn-2:Nat):Int)] 26)):=qBl
  have HE2:=Lib.hid (E1.below b2 E1.lt)
  have HF2:=Lib.hid (F1.below b2 F1.lt)
  have HL2:=Lib.hid (HL1.out.below b2)
  have HB2:=Lib.hid (B1.out.trans (b2.mono B1.out.size))
  have l0:w.heap.size<w1.heap.size:=E1.lt
  have l1:w.heap.size+1<w1.heap.size:=F1.lt
  have HR2:=Lib.hid hR
  clear E1 F1 HL1 B1 b2 hR
  have HS2:Hid (w1.heap.size+1=(w1.alloc (.cells #[.int .i64 (X+1),.int .i64 (Y+1),.int .i64 ((Wn-2:Nat):Int),.int .i64 ((Hn-2:Nat):Int)] 26)).heap.size):=Lib.hid (by simp)
  go_wp2_with fail
  generalize w1.alloc (.cells #[.int .i64 (X+1),.int .i64 (Y+1),.int .i64 ((Wn-2:Nat):Int),.int .i64 ((Hn-2:Nat):Int)] 26)=w2 at *
  rw [HS2.out]
  obtain ⟨r0,r1,r2,r3⟩:=HR2.out.cells
  have r4:w1.heap.size<w2.heap.size:=HR2.out.lt
  have r5:w1.heap.size<w2.heap.size+1:=by omega
  have r6:w1.heap.size<w2.heap.size+1+1:=by omega
  have r7:w1.heap.size<w2.heap.size+1+1+1:=by omega
  have r8:w1.heap.size<w2.heap.size+1+1+1+1:=by omega
  have r9:w1.heap.size<w2.heap.size+1+1+1+1+1:=by omega
  refine (KW.out _ _ (by simp [go_sem]) (by simp [go_sem]) (by simp [go_sem])).mono ?_
  rintro e w3 ⟨rfl,rfl⟩
  go_wp2_with fail
  refine (KT.out _ (by first|rfl|simp) _).mono ?_
  rintro e w4 ⟨rfl,rfl⟩
  go_wp2_with fail
  generalize hW5:((((w2.alloc (.cells #[.int .i64 lx,.int .i64 ly,.int .i64 lz] 3)).alloc (.cells #[.float .f32 M] 48)).alloc (.cells #[.float .f32 (cv lx)] 48)).alloc (.cells #[.float .f32 (cv ly)] 48)).alloc (.cells #[.float .f32 (cv lz)] 48)=W5 at *
  obtain ⟨m0,a0,b0,c0,B5⟩:=light_world w2 lx ly lz M (cv lx) (cv ly) (cv lz) W5 hW5.symm
  exact qx6
 ·have q2:(ly == 0)=false:=by simpa using hw
  clear hw hnz
  go_enter Tryz.func127,Tryz.ntmps127
  go_wp2_with fail
  generalize hW0:(w.alloc (.cells #[.int .i64 X,.int .i64 Y,.int .i64 Wn,.int .i64 Hn,.slice (some ⟨b,o,none⟩) l.length c] 32)).alloc (.cells #[.int .i64 0,.int .i64 0,.int .i64 0,.int .i64 0,.slice none 0 0] 32)=W0 at *
  obtain ⟨E0,F0,B0,z0⟩:=two_fields w X Y Wn Hn (.slice (some ⟨b,o,none⟩) l.length c) W0 hW0.symm
  clear hW0
  refine (KI.out _ (HL.out.below B0)).mono ?_
  rintro e w1 ⟨rfl,b1⟩
  have E1:=E0.below b1 E0.lt
  have F1:=F0.below b1 F0.lt
  have HL1:=Lib.hid ((HL.out.below B0).below b1)
  have B1:=Lib.hid (B0.trans (b1.mono B0.size))
  clear b1 B0 F0 E0 z0 KI HL
  have hR:=Reg.new w1 (X+1) (Y+1) ((Wn-2:Nat):Int) ((Hn-2:Nat):Int)
  have b2:Below w1.heap.size w1 (w1.alloc (.cells #[.int .i64 (X+1),.int .i64 (Y+1),.int .i64 ((Wn-2:Nat):Int),.int .i64 ((Hn-2:Nat):Int)] 26)):=qBl
  have HE2:=Lib.hid (E1.below b2 E1.lt)
  have HF2:=Lib.hid (F1.below b2 F1.lt)
  have HL2:=Lib.hid (HL1.out.below b2)
  have HB2:=Lib.hid (B1.out.trans (b2.mono B1.out.size))
  have l0:w.heap.size<w1.heap.size:=E1.lt
  have l1:w.heap.size+1<w1.heap.size:=F1.lt
  have HR2:=Lib.hid hR
  clear E1 F1 HL1 B1 b2 hR
  have HS2:Hid (w1.heap.size+1=(w1.alloc (.cells #[.int .i64 (X+1),.int .i64 (Y+1),.int .i64 ((Wn-2:Nat):Int),.int .i64 ((Hn-2:Nat):Int)] 26)).heap.size):=Lib.hid (by simp)
  go_wp2_with fail
  generalize w1.alloc (.cells #[.int .i64 (X+1),.int .i64 (Y+1),.int .i64 ((Wn-2:Nat):Int),.int .i64 ((Hn-2:Nat):Int)] 26)=w2 at *
  rw [HS2.out]
  obtain ⟨r0,r1,r2,r3⟩:=HR2.out.cells
  have r4:w1.heap.size<w2.heap.size:=HR2.out.lt
  have r5:w1.heap.size<w2.heap.size+1:=by omega
  have r6:w1.heap.size<w2.heap.size+1+1:=by omega
  have r7:w1.heap.size<w2.heap.size+1+1+1:=by omega
  have r8:w1.heap.size<w2.heap.size+1+1+1+1:=by omega
  have r9:w1.heap.size<w2.heap.size+1+1+1+1+1:=by omega
  refine (KW.out _ _ (by simp [go_sem]) (by simp [go_sem]) (by simp [go_sem])).mono ?_
  rintro e w3 ⟨rfl,rfl⟩
  go_wp2_with fail
  refine (KT.out _ (by first|rfl|simp) _).mono ?_
  rintro e w4 ⟨rfl,rfl⟩
  go_wp2_with fail
  generalize hW5:((((w2.alloc (.cells #[.int .i64 0,.int .i64 ly,.int .i64 lz] 3)).alloc (.cells #[.float .f32 M] 48)).alloc (.cells #[.float .f32 (cv 0)] 48)).alloc (.cells #[.float .f32 (cv ly)] 48)).alloc (.cells #[.float .f32 (cv lz)] 48)=W5 at *
  obtain ⟨m0,a0,b0,c0,B5⟩:=light_world w2 0 ly lz M (cv 0) (cv ly) (cv lz) W5 hW5.symm
  exact qx6
 ·have q3:(lz == 0)=false:=by simpa using hw
  clear hw hnz
  go_enter Tryz.func127,Tryz.ntmps127
  go_wp2_with fail
  generalize hW0:(w.alloc (.cells #[.int .i64 X,.int .i64 Y,.int .i64 Wn,.int .i64 Hn,.slice (some ⟨b,o,none⟩) l.length c] 32)).alloc (.cells #[.int .i64 0,.int .i64 0,.int .i64 0,.int .i64 0,.slice none 0 0] 32)=W0 at *
  obtain ⟨E0,F0,B0,z0⟩:=two_fields w X Y Wn Hn (.slice (some ⟨b,o,none⟩) l.length c) W0 hW0.symm
  clear hW0
  refine (KI.out _ (HL.out.below B0)).mono ?_
  rintro e w1 ⟨rfl,b1⟩
  have E1:=E0.below b1 E0.lt
  have F1:=F0.below b1 F0.lt
  have HL1:=Lib.hid ((HL.out.below B0).below b1)
  have B1:=Lib.hid (B0.trans (b1.mono B0.size))
  clear b1 B0 F0 E0 z0 KI HL
  have hR:=Reg.new w1 (X+1) (Y+1) ((Wn-2:Nat):Int) ((Hn-2:Nat):Int)
  have b2:Below w1.heap.size w1 (w1.alloc (.cells #[.int .i64 (X+1),.int .i64 (Y+1),.int .i64 ((Wn-2:Nat):Int),.int .i64 ((Hn-2:Nat):Int)] 26)):=qBl
  have HE2:=Lib.hid (E1.below b2 E1.lt)
  have HF2:=Lib.hid (F1.below b2 F1.lt)
  have HL2:=Lib.hid (HL1.out.below b2)
  have HB2:=Lib.hid (B1.out.trans (b2.mono B1.out.size))
  have l0:w.heap.size<w1.heap.size:=E1.lt
  have l1:w.heap.size+1<w1.heap.size:=F1.lt
  have HR2:=Lib.hid hR
  clear E1 F1 HL1 B1 b2 hR
  have HS2:Hid (w1.heap.size+1=(w1.alloc (.cells #[.int .i64 (X+1),.int .i64 (Y+1),.int .i64 ((Wn-2:Nat):Int),.int .i64 ((Hn-2:Nat):Int)] 26)).heap.size):=Lib.hid (by simp)
  go_wp2_with fail
  generalize w1.alloc (.cells #[.int .i64 (X+1),.int .i64 (Y+1),.int .i64 ((Wn-2:Nat):Int),.int .i64 ((Hn-2:Nat):Int)] 26)=w2 at *
  rw [HS2.out]
  obtain ⟨r0,r1,r2,r3⟩:=HR2.out.cells
  have r4:w1.heap.size<w2.heap.size:=HR2.out.lt
  have r5:w1.heap.size<w2.heap.size+1:=by omega
  have r6:w1.heap.size<w2.heap.size+1+1:=by omega
  have r7:w1.heap.size<w2.heap.size+1+1+1:=by omega
  have r8:w1.heap.size<w2.heap.size+1+1+1+1:=by omega
  have r9:w1.heap.size<w2.heap.size+1+1+1+1+1:=by omega
  refine (KW.out _ _ (by simp [go_sem]) (by simp [go_sem]) (by simp [go_sem])).mono ?_
  rintro e w3 ⟨rfl,rfl⟩
  go_wp2_with fail
  refine (KT.out _ (by first|rfl|simp) _).mono ?_
  rintro e w4 ⟨rfl,rfl⟩
  go_wp2_with fail
  generalize hW5:((((w2.alloc (.cells #[.int .i64 0,.int .i64 0,.int .i64 lz] 3)).alloc (.cells #[.float .f32 M] 48)).alloc (.cells #[.float .f32 (cv 0)] 48)).alloc (.cells #[.float .f32 (cv 0)] 48)).alloc (.cells #[.float .f32 (cv lz)] 48)=W5 at *
  obtain ⟨m0,a0,b0,c0,B5⟩:=light_world w2 0 0 lz M (cv 0) (cv 0) (cv lz) W5 hW5.symm
  exact qx6
theorem row_three_at (W:World) (g x y z:Nat) (hx:x<4294967296) (hy:y<4294967296) (hz:z<4294967296) (h0:W.cell? ⟨g,0,none⟩=some (.float .f32 x)) (h1:W.cell? ⟨g,1,none⟩=some (.float .f32 y)) (h2:W.cell? ⟨g,2,none⟩=some (.float .f32 z)):SRow W (some ⟨g,0,none⟩) [x,y,z]:=by
 refine ⟨⟨by simp,by simp;exact ⟨hx,hy,hz⟩⟩,.inr ⟨g,0,rfl,?_⟩⟩
 intro i hi
 match i,hi with
 | 0,_=>exact h0
 | 1,_=>exact h1
 | 2,_=>exact h2
theorem heights_three (W:World) (g x y z:Nat) (hx:x<4294967296) (hy:y<4294967296) (hz:z<4294967296) (h0:W.cell? ⟨g,0,none⟩=some (.float .f32 x)) (h1:W.cell? ⟨g,1,none⟩=some (.float .f32 y)) (h2:W.cell? ⟨g,2,none⟩=some (.float .f32 z)) :
  Calls Tryz.prog 32 #[.slice (some ⟨g,0,none⟩) 3 3] W fun e w'=>e=.returned (.int .i64 (htE [x,y,z]))∧W=w':=heights_any (some ⟨g,0,none⟩) 3 [x,y,z] W (row_three_at W g x y z hx hy hz h0 h1 h2)
theorem box_f3c (w:World) (X Y W H:Int) (v:Value) (c1 c2 c3:Array Value) (t:TypeId):∀ W0,W0=((((w.alloc (.cells #[.int .i64 X,.int .i64 Y,.int .i64 W,.int .i64 H,v] 32)).alloc (.cells c1 t)).alloc (.cells c2 t)).alloc (.cells c3 t)).alloc (.cells #[.int .i64 0,.int .i64 0,.int .i64 0,.int .i64 0,.slice none 0 0] 32) →
  Fld W0 w.heap.size X Y W H v∧Blk W0 (w.heap.size+1) c1 t∧Blk W0 (w.heap.size+1+1) c2 t∧Blk W0 (w.heap.size+1+1+1) c3 t∧Fld W0 (w.heap.size+1+1+1+1) 0 0 0 0 (.slice none 0 0)∧Below w.heap.size w W0:=by
 rintro _ rfl
 refine ⟨((((Fld.new w X Y W H v).alloc _).alloc _).alloc _).alloc _,?_,?_,?_,?_,qBl⟩
 ·have:=(((Blk.new (w.alloc (.cells #[.int .i64 X,.int .i64 Y,.int .i64 W,.int .i64 H,v] 32)) c1 t).alloc (.cells c2 t)).alloc (.cells c3 t)).alloc (.cells #[.int .i64 0,.int .i64 0,.int .i64 0,.int .i64 0,.slice none 0 0] 32)
  simpa using this
 ·have:=((Blk.new ((w.alloc (.cells #[.int .i64 X,.int .i64 Y,.int .i64 W,.int .i64 H,v] 32)).alloc (.cells c1 t)) c2 t).alloc (.cells c3 t)).alloc (.cells #[.int .i64 0,.int .i64 0,.int .i64 0,.int .i64 0,.slice none 0 0] 32)
  simpa using this
 ·have:=(Blk.new (((w.alloc (.cells #[.int .i64 X,.int .i64 Y,.int .i64 W,.int .i64 H,v] 32)).alloc (.cells c1 t)).alloc (.cells c2 t)) c3 t).alloc (.cells #[.int .i64 0,.int .i64 0,.int .i64 0,.int .i64 0,.slice none 0 0] 32)
  simpa using this
 ·have:=Fld.new ((((w.alloc (.cells #[.int .i64 X,.int .i64 Y,.int .i64 W,.int .i64 H,v] 32)).alloc (.cells c1 t)).alloc (.cells c2 t)).alloc (.cells c3 t)) 0 0 0 0 (.slice none 0 0)
  simpa using this
theorem make_map (gn:Nat) (caps:Array Value) (p:Nat) (φ:Nat→Nat) (X Y:Int) (Wn Hn:Nat) (l:List Nat) (w:World) (hr:Right X Y Wn Hn l)
  (eg:∀ args w,(callFunc gn args).run Tryz.prog w=.ok (.enter gn args) w) (hp:CntAt w p (-1)) (hφ:∀ v,φ v<4294967296)
  (hf:∀ x y (k:Nat),k<l.length→∀ W',But w.heap.size (fun k=>k=p) w W'→CntAt W' p ((k:Int)-1)→Calls Tryz.prog gn (#[.int .i64 x,.int .i64 y] ++ caps) W' fun e w'=>e=.returned (.float .f32 (φ (l.getD k 0)))∧But W'.heap.size (fun k=>k=p) W' w'∧CntAt w' p (k:Int)) :
  Calls Tryz.prog 89 #[reg X Y Wn Hn,.func (.func gn) #[] caps] w fun e w'=>MakeCP p X Y Wn Hn (l.map φ) w e w':=by
 have g1:=hr.w1;have g2:=hr.w2;have g3:=hr.h1;have g4:=hr.h2;have g5:=hr.x1;have g6:=hr.x2;have g7:=hr.y1;have g8:=hr.y2
 have:=make_cnt gn caps p (fun x y=>φ (l.getD (cellNo X Y Wn x y).toNat 0)) X Y Wn Hn w (by omega) (by omega) (by omega) (by omega) (by omega) (by omega) (by omega) (by omega) eg hp (fun x y=>hφ _) ?_
 ·rw [madeL_map φ X Y Wn Hn l (by omega) hr.len] at this
  exact this
 ·intro i j k hi hj hk W' hb hc
  rw [cell_ij hk]
  exact hf _ _ k (by rw [hr.len];exact cell_lt hi hj hk) W' hb hc
def selC (lo hi soft:Nat):Int:=if htE [lo,hi,soft]≠0 then htE [lo,hi,soft] else if gtr lo hi=true then 8 else if lss soft 0=true then 3 else 0
set_option maxRecDepth 100000 in
theorem select_bad (X Y:Int) (Wn Hn:Nat) (b o c:Nat) (l:List Nat) (lo hi soft:Nat) (w:World) (hl:SRow w (some ⟨b,o,none⟩) l) (hr:Right X Y Wn Hn l) (h1:lo<4294967296) (h2:hi<4294967296) (h3:soft<4294967296) (h:selC lo hi soft≠0) :
  Calls Tryz.prog 72 #[fldV X Y Wn Hn (some ⟨b,o,none⟩) l.length c,.float .f32 lo,.float .f32 hi,.float .f32 soft] w fun e w'=>e=.returned (.tuple #[fldV 0 0 0 0 none 0 0,.int .i64 (selC lo hi soft)])∧Below w.heap.size w w':=by
 have K:=Lib.hid (fun w h=>check_field X Y Wn Hn (some ⟨b,o,none⟩) c l w h)
 rw [hr.chk] at K
 have HL:=Lib.hid hl
 have KH:=Lib.hid (fun W g c0 c1 c2=>heights_three W g lo hi soft h1 h2 h3 c0 c1 c2)
 clear hl hr h1 h2 h3
 unfold selC at *
 generalize htE [lo,hi,soft]=a at *
 by_cases ha:a=0
 ·rw [ha] at KH
  rw [if_neg (by omega)] at h ⊢
  clear ha
  cases hg:gtr lo hi with
  | true =>
   rw [if_pos rfl]
   change (FloatKind.f32.format.order lo hi == some .gt)=true at hg
   clear h
   go_enter Tryz.func72,Tryz.ntmps72
   go_wp2_with fail
   generalize hW0:((((w.alloc (.cells #[.int .i64 X,.int .i64 Y,.int .i64 Wn,.int .i64 Hn,.slice (some ⟨b,o,none⟩) l.length c] 32)).alloc (.cells #[.float .f32 lo] 48)).alloc (.cells #[.float .f32 hi] 48)).alloc (.cells #[.float .f32 soft] 48)).alloc (.cells #[.int .i64 0,.int .i64 0,.int .i64 0,.int .i64 0,.slice none 0 0] 32)=W0 at *
   obtain ⟨E0,P0,Q0,R0,F0,B0⟩:=box_f3c w X Y Wn Hn (.slice (some ⟨b,o,none⟩) l.length c) #[.float .f32 lo] #[.float .f32 hi] #[.float .f32 soft] 48 W0 hW0.symm
   clear hW0
   refine (K.out _ (HL.out.below B0)).mono ?_
   rintro e w1 ⟨rfl,b1⟩
   have HE1:=Lib.hid (E0.below b1 E0.lt)
   have HP1:=Lib.hid (P0.below b1 P0.lt)
   have HQ1:=Lib.hid (Q0.below b1 Q0.lt)
   have HC1:=Lib.hid (R0.below b1 R0.lt)
   have HF1:=Lib.hid (F0.below b1 F0.lt)
   have HL1:=Lib.hid ((HL.out.below B0).below b1)
   have HB1:=Lib.hid (B0.trans (b1.mono B0.size))
   clear b1 B0 F0 E0 P0 Q0 R0 K HL
   have p0:w1.cell? ⟨w.heap.size+1,0,none⟩=some (.float .f32 lo):=HP1.out.cell 0
   have p1:w1.cell? ⟨w.heap.size+1+1,0,none⟩=some (.float .f32 hi):=HQ1.out.cell 0
   have p2:w1.cell? ⟨w.heap.size+1+1+1,0,none⟩=some (.float .f32 soft):=HC1.out.cell 0
   have l4:w.heap.size+1+1+1+1<w1.heap.size:=HF1.out.lt
   have l3:w.heap.size+1+1+1<w1.heap.size:=by omega
   have l2:w.heap.size+1+1<w1.heap.size:=by omega
   have l1:w.heap.size+1<w1.heap.size:=by omega
   have l0:w.heap.size<w1.heap.size:=by omega
   go_wp2_with fail
   refine (KH.out _ _ (by simp [go_sem]) (by simp [go_sem]) (by simp [go_sem])).mono ?_
   rintro e w2 ⟨rfl,rfl⟩
   obtain ⟨d0,d1,d2,d3,d4⟩:=HF1.out.cells
   have qf0:=HF1.out.frozen 0
   have qf1:=HF1.out.frozen 1
   have qf2:=HF1.out.frozen 2
   have qf3:=HF1.out.frozen 3
   have qf4:=HF1.out.frozen 4
   go_wp2_with fail
   have B3:=HB1.out
   exact bodyPost_ret (v:=.tuple #[fldV 0 0 0 0 none 0 0,.int .i64 8]) (by simp [results,Tryz.results72,go_sem, *]) rfl ⟨rfl,(qBo B3)⟩
  | false =>
   rw [hg,if_neg (by decide)] at h
   rw [if_neg (by decide)]
   change (FloatKind.f32.format.order lo hi == some .gt)=false at hg
   cases hs:lss soft 0 with
   | true =>
    rw [if_pos rfl]
    change (FloatKind.f32.format.order soft 0 == some .lt)=true at hs
    clear h
    go_enter Tryz.func72,Tryz.ntmps72
    go_wp2_with fail
    generalize hW0:((((w.alloc (.cells #[.int .i64 X,.int .i64 Y,.int .i64 Wn,.int .i64 Hn,.slice (some ⟨b,o,none⟩) l.length c] 32)).alloc (.cells #[.float .f32 lo] 48)).alloc (.cells #[.float .f32 hi] 48)).alloc (.cells #[.float .f32 soft] 48)).alloc (.cells #[.int .i64 0,.int .i64 0,.int .i64 0,.int .i64 0,.slice none 0 0] 32)=W0 at *
    obtain ⟨E0,P0,Q0,R0,F0,B0⟩:=box_f3c w X Y Wn Hn (.slice (some ⟨b,o,none⟩) l.length c) #[.float .f32 lo] #[.float .f32 hi] #[.float .f32 soft] 48 W0 hW0.symm
    clear hW0
    refine (K.out _ (HL.out.below B0)).mono ?_
    rintro e w1 ⟨rfl,b1⟩
    have HE1:=Lib.hid (E0.below b1 E0.lt)
    have HP1:=Lib.hid (P0.below b1 P0.lt)
    have HQ1:=Lib.hid (Q0.below b1 Q0.lt)
    have HC1:=Lib.hid (R0.below b1 R0.lt)
    have HF1:=Lib.hid (F0.below b1 F0.lt)
    have HL1:=Lib.hid ((HL.out.below B0).below b1)
    have HB1:=Lib.hid (B0.trans (b1.mono B0.size))
    clear b1 B0 F0 E0 P0 Q0 R0 K HL
    have p0:w1.cell? ⟨w.heap.size+1,0,none⟩=some (.float .f32 lo):=HP1.out.cell 0
    have p1:w1.cell? ⟨w.heap.size+1+1,0,none⟩=some (.float .f32 hi):=HQ1.out.cell 0
    have p2:w1.cell? ⟨w.heap.size+1+1+1,0,none⟩=some (.float .f32 soft):=HC1.out.cell 0
    have l4:w.heap.size+1+1+1+1<w1.heap.size:=HF1.out.lt
    have l3:w.heap.size+1+1+1<w1.heap.size:=by omega
    have l2:w.heap.size+1+1<w1.heap.size:=by omega
    have l1:w.heap.size+1<w1.heap.size:=by omega
    have l0:w.heap.size<w1.heap.size:=by omega
    go_wp2_with fail
    refine (KH.out _ _ (by simp [go_sem]) (by simp [go_sem]) (by simp [go_sem])).mono ?_
    rintro e w2 ⟨rfl,rfl⟩
    obtain ⟨d0,d1,d2,d3,d4⟩:=HF1.out.cells
    have qf0:=HF1.out.frozen 0
    have qf1:=HF1.out.frozen 1
    have qf2:=HF1.out.frozen 2
    have qf3:=HF1.out.frozen 3
    have qf4:=HF1.out.frozen 4
    go_wp2_with fail
    have B3:=HB1.out
    exact bodyPost_ret (v:=.tuple #[fldV 0 0 0 0 none 0 0,.int .i64 3]) (by simp [results,Tryz.results72,go_sem, *]) rfl ⟨rfl,(qBo B3)⟩
   | false=>rw [hs,if_neg (by decide)] at h;exact absurd rfl h
 ·rw [if_pos ha]
  have hb':(a != 0)=true:=by rw [bne_iff_ne];exact ha
  clear h ha
  go_enter Tryz.func72,Tryz.ntmps72
  go_wp2_with fail
  generalize hW0:((((w.alloc (.cells #[.int .i64 X,.int .i64 Y,.int .i64 Wn,.int .i64 Hn,.slice (some ⟨b,o,none⟩) l.length c] 32)).alloc (.cells #[.float .f32 lo] 48)).alloc (.cells #[.float .f32 hi] 48)).alloc (.cells #[.float .f32 soft] 48)).alloc (.cells #[.int .i64 0,.int .i64 0,.int .i64 0,.int .i64 0,.slice none 0 0] 32)=W0 at *
  obtain ⟨E0,P0,Q0,R0,F0,B0⟩:=box_f3c w X Y Wn Hn (.slice (some ⟨b,o,none⟩) l.length c) #[.float .f32 lo] #[.float .f32 hi] #[.float .f32 soft] 48 W0 hW0.symm
  clear hW0
  refine (K.out _ (HL.out.below B0)).mono ?_
  rintro e w1 ⟨rfl,b1⟩
  have HE1:=Lib.hid (E0.below b1 E0.lt)
  have HP1:=Lib.hid (P0.below b1 P0.lt)
  have HQ1:=Lib.hid (Q0.below b1 Q0.lt)
  have HC1:=Lib.hid (R0.below b1 R0.lt)
  have HF1:=Lib.hid (F0.below b1 F0.lt)
  have HL1:=Lib.hid ((HL.out.below B0).below b1)
  have HB1:=Lib.hid (B0.trans (b1.mono B0.size))
  clear b1 B0 F0 E0 P0 Q0 R0 K HL
  have p0:w1.cell? ⟨w.heap.size+1,0,none⟩=some (.float .f32 lo):=HP1.out.cell 0
  have p1:w1.cell? ⟨w.heap.size+1+1,0,none⟩=some (.float .f32 hi):=HQ1.out.cell 0
  have p2:w1.cell? ⟨w.heap.size+1+1+1,0,none⟩=some (.float .f32 soft):=HC1.out.cell 0
  have l4:w.heap.size+1+1+1+1<w1.heap.size:=HF1.out.lt
  have l3:w.heap.size+1+1+1<w1.heap.size:=by omega
  have l2:w.heap.size+1+1<w1.heap.size:=by omega
  have l1:w.heap.size+1<w1.heap.size:=by omega
  have l0:w.heap.size<w1.heap.size:=by omega
  go_wp2_with fail
  refine (KH.out _ _ (by simp [go_sem]) (by simp [go_sem]) (by simp [go_sem])).mono ?_
  rintro e w2 ⟨rfl,rfl⟩
  obtain ⟨d0,d1,d2,d3,d4⟩:=HF1.out.cells
  have qf0:=HF1.out.frozen 0
  have qf1:=HF1.out.frozen 1
  have qf2:=HF1.out.frozen 2
  have qf3:=HF1.out.frozen 3
  have qf4:=HF1.out.frozen 4
  go_wp2_with fail
  have B3:=HB1.out
  exact bodyPost_ret (v:=.tuple #[fldV 0 0 0 0 none 0 0,.int .i64 a]) (by simp [results,Tryz.results72,go_sem, *]) rfl ⟨rfl,(qBo B3)⟩
theorem SRow.blt {w:World} {b o:Nat} {l:List Nat} (h:SRow w (some ⟨b,o,none⟩) l) (hn:0<l.length):b<w.heap.size:=by
 exact qx61
theorem Right.pos {X Y:Int} {Wn Hn:Nat} {l:List Nat} (h:Right X Y Wn Hn l):0<l.length:=by
 have:=Nat.mul_le_mul h.h1 h.w1
 rw [←h.len] at this;omega
theorem Right.small {X Y:Int} {Wn Hn:Nat} {l:List Nat} (h:Right X Y Wn Hn l):l.length≤1099511627776:=by
 have h1:=Nat.mul_le_mul h.h2 h.w2
 rw [←h.len] at h1;omega
theorem sel_zero {lo hi soft:Nat} (h:selC lo hi soft=0):htE [lo,hi,soft]=0∧gtr lo hi=false∧lss soft 0=false:=by
 unfold selC at h
 by_cases h1:htE [lo,hi,soft]=0
 ·rw [if_neg (by omega)] at h
  cases h2:gtr lo hi with
  | true=>rw [h2,if_pos rfl] at h;omega
  | false =>
   rw [h2,if_neg (by decide)] at h
   cases h3:lss soft 0 with
   | true=>rw [h3,if_pos rfl] at h;omega
   | false=>exact ⟨h1,rfl,rfl⟩
 ·rw [if_pos h1] at h;exact absurd h h1
theorem sel_hts {lo hi soft:Nat} (h:htE [lo,hi,soft]=0):Ht lo∧Ht hi∧Ht soft:=by
 have:=Ieee.Format.allHt_iff.1 (Ieee.Format.htE_zero h)
 exact ⟨this _ (by simp),this _ (by simp),this _ (by simp)⟩
theorem cnt_world (w:World) (cs:Array Value) (t:TypeId):∀ W0,W0=(w.alloc (.cells cs t)).alloc (.cells #[.int .i64 (-1)] 3)→CntAt W0 (w.heap.size+1) (-1)∧Below w.heap.size w W0∧W0.heap.size=w.heap.size+2:=by
 rintro _ rfl
 refine ⟨?_,qBl,by simp⟩
 have:=Blk.new (w.alloc (.cells cs t)) #[.int .i64 (-1)] 3
 simpa using this
set_option maxRecDepth 100000 in
set_option maxHeartbeats 1000000 in
theorem select_ok (X Y:Int) (Wn Hn:Nat) (b o c:Nat) (l:List Nat) (lo hi soft:Nat) (w:World) (hl:SRow w (some ⟨b,o,none⟩) l) (hr:Right X Y Wn Hn l) (h1:lo<4294967296) (h2:hi<4294967296) (h3:soft<4294967296) (h:selC lo hi soft=0) :
  Calls Tryz.prog 72 #[fldV X Y Wn Hn (some ⟨b,o,none⟩) l.length c,.float .f32 lo,.float .f32 hi,.float .f32 soft] w fun e w'=>OpP 0 X Y Wn Hn (l.map (selF lo hi soft)) w e w':=by
 obtain ⟨hh,hg,hs⟩:=sel_zero h
 obtain ⟨t1,t2,t3⟩:=sel_hts hh
 have K:=Lib.hid (fun w h=>check_field X Y Wn Hn (some ⟨b,o,none⟩) c l w h)
 rw [hr.chk] at K
 have HL:=Lib.hid hl
 have KH:=Lib.hid (fun W g c0 c1 c2=>heights_three W g lo hi soft h1 h2 h3 c0 c1 c2)
 rw [hh] at KH
 have HBL:Hid (b<w.heap.size):=SRow.blt hl hr.pos
 have KM:=Lib.hid (fun p q pa pb pc w (hl:SRow w (some ⟨b,o,none⟩) l) (hq:Fld w q X Y Wn Hn (.slice (some ⟨b,o,none⟩) l.length c)) (ha:Blk w pa #[.float .f32 lo] 48) (hb:Blk w pb #[.float .f32 hi] 48) (hc:Blk w pc #[.float .f32 soft] 48) (hp:CntAt w p (-1)) (qp:q≠p) (bp:b≠p) (pap:pa≠p) (pbp:pb≠p) (pcp:pc≠p) =>
  make_map 105 #[.pointer (some ⟨p,0,none⟩),.pointer (some ⟨q,0,none⟩),.pointer (some ⟨pa,0,none⟩),.pointer (some ⟨pb,0,none⟩),.pointer (some ⟨pc,0,none⟩)] p (selF lo hi soft) X Y Wn Hn l w hr (enters_of Tryz.func105 (by kernel_rfl) rfl) hp (selF_lt lo hi soft)
   (fun x y k hk W' hb' hcnt=>selectfn_any lo hi soft x y p q b o c pa pb pc k X Y Wn Hn l W' ⟨hcnt,hq.but hb' hq.lt qp,SRow.but hl hb' (SRow.blt hl hr.pos) bp,qp,bp,hk,by have:=hb'.size;have:=SRow.blt hl hr.pos;omega⟩ (hr.getD k) t1 t2 t3 (ha.but hb' ha.lt pap) (hb.but hb' hb.lt pbp) (hc.but hb' hc.lt pcp) pap pbp pcp))
 change (FloatKind.f32.format.order lo hi == some .gt)=false at hg
 change (FloatKind.f32.format.order soft 0 == some .lt)=false at hs
 clear hl hr h1 h2 h3 h hh t1 t2 t3
 generalize hS:l.map (selF lo hi soft)=S at *
 clear hS
 go_enter Tryz.func72,Tryz.ntmps72
 go_wp2_with fail
 generalize hW0:((((w.alloc (.cells #[.int .i64 X,.int .i64 Y,.int .i64 Wn,.int .i64 Hn,.slice (some ⟨b,o,none⟩) l.length c] 32)).alloc (.cells #[.float .f32 lo] 48)).alloc (.cells #[.float .f32 hi] 48)).alloc (.cells #[.float .f32 soft] 48)).alloc (.cells #[.int .i64 0,.int .i64 0,.int .i64 0,.int .i64 0,.slice none 0 0] 32)=W0 at *
 obtain ⟨E0,P0,Q0,R0,F0,B0⟩:=box_f3c w X Y Wn Hn (.slice (some ⟨b,o,none⟩) l.length c) #[.float .f32 lo] #[.float .f32 hi] #[.float .f32 soft] 48 W0 hW0.symm
 clear hW0
 refine (K.out _ (HL.out.below B0)).mono ?_
 rintro e w1 ⟨rfl,b1⟩
 have HE1:=Lib.hid (E0.below b1 E0.lt)
 have HP1:=Lib.hid (P0.below b1 P0.lt)
 have HQ1:=Lib.hid (Q0.below b1 Q0.lt)
 have HC1:=Lib.hid (R0.below b1 R0.lt)
 have HF1:=Lib.hid (F0.below b1 F0.lt)
 have HL1:=Lib.hid ((HL.out.below B0).below b1)
 have HB1:=Lib.hid (B0.trans (b1.mono B0.size))
 clear b1 B0 F0 E0 P0 Q0 R0 K HL
 have p0:w1.cell? ⟨w.heap.size+1,0,none⟩=some (.float .f32 lo):=HP1.out.cell 0
 have p1:w1.cell? ⟨w.heap.size+1+1,0,none⟩=some (.float .f32 hi):=HQ1.out.cell 0
 have p2:w1.cell? ⟨w.heap.size+1+1+1,0,none⟩=some (.float .f32 soft):=HC1.out.cell 0
 have l4:w.heap.size+1+1+1+1<w1.heap.size:=HF1.out.lt
 have l3:w.heap.size+1+1+1<w1.heap.size:=by omega
 have l2:w.heap.size+1+1<w1.heap.size:=by omega
 have l1:w.heap.size+1<w1.heap.size:=by omega
 have l0:w.heap.size<w1.heap.size:=by omega
 go_wp2_with fail
 refine (KH.out _ _ (by simp [go_sem]) (by simp [go_sem]) (by simp [go_sem])).mono ?_
 rintro e w2 ⟨rfl,rfl⟩
 obtain ⟨c0,c1,c2,c3,c4⟩:=HE1.out.cells
 go_wp2_with fail
 generalize hW2:(w1.alloc (.cells #[.float .f32 lo,.float .f32 hi,.float .f32 soft] 48)).alloc (.cells #[.int .i64 (-1)] 3)=W2 at *
 obtain ⟨n2,B2,z2⟩:=cnt_world w1 _ _ W2 hW2.symm
 clear hW2
 have HN2:=Lib.hid n2
 have HZ2:=Lib.hid z2
 clear n2 z2
 have HE2:=Lib.hid (HE1.out.below B2 HE1.out.lt)
 have HP2:=Lib.hid (HP1.out.below B2 HP1.out.lt)
 have HQ2:=Lib.hid (HQ1.out.below B2 HQ1.out.lt)
 have HC2:=Lib.hid (HC1.out.below B2 HC1.out.lt)
 have HF2:=Lib.hid (HF1.out.below B2 HF1.out.lt)
 have HL2:=Lib.hid (HL1.out.below B2)
 have HB2:=Lib.hid (HB1.out.trans (B2.mono HB1.out.size))
 have HBS:Hid (w.heap.size≤w1.heap.size):=HB1.out.size
 refine (KM.out _ _ _ _ _ _ HL2.out HE2.out HP2.out HQ2.out HC2.out HN2.out (by omega) (by have:=HBL.out;omega) (by omega) (by omega) (by omega)).mono ?_
 rintro e w3 ⟨⟨g,cap,rfl,ho⟩,b3⟩
 have HFZ:=Lib.hid (HF2.out.below b3 (by omega))
 have HBZ:=Lib.hid (HB2.out.trans (b3.mono (by have:=HBS.out;omega)))
 have HO3:=Lib.hid ho
 have HZB:Hid (w.heap.size+1+1+1+1<W2.heap.size):=HF2.out.lt
 have HBB:Hid (w.heap.size≤W2.heap.size):=HB2.out.size
 clear ho b3 KM HE2 HP2 HQ2 HC2 HF2 HL2 HB2 HE1 HP1 HQ1 HC1 HF1 HL1 HB1 B2 p0 p1 p2 l4 l3 l2 l1 l0 c0 c1 c2 c3 c4 HN2
 obtain ⟨d0,d1,d2,d3,d4⟩:=HFZ.out.cells
 have qf0:=HFZ.out.frozen 0
 have qf1:=HFZ.out.frozen 1
 have qf2:=HFZ.out.frozen 2
 have qf3:=HFZ.out.frozen 3
 have qf4:=HFZ.out.frozen 4
 have lz:=HFZ.out.lt
 go_wp2_with fail
 generalize hW5:((((w3.setCell ⟨w.heap.size+1+1+1+1,0,none⟩ (.int .i64 X)).setCell ⟨w.heap.size+1+1+1+1,1,none⟩ (.int .i64 Y)).setCell ⟨w.heap.size+1+1+1+1,2,none⟩ (.int .i64 Wn)).setCell ⟨w.heap.size+1+1+1+1,3,none⟩ (.int .i64 Hn)).setCell ⟨w.heap.size+1+1+1+1,4,none⟩ (.slice (some ⟨g,0,none⟩) S.length cap)=W5 at *
 obtain ⟨f5,bb5,oo5,_,z5⟩:=fld_store w3 (w.heap.size+1+1+1+1) 0 0 0 0 _ X Y Wn Hn (.slice (some ⟨g,0,none⟩) S.length cap) HFZ.out W5 hW5.symm
 have hg:g≠w.heap.size+1+1+1+1:=by have:=HO3.out.lt.1;have:=HZB.out;omega
 have hO5:=(oo5 _ _ _ _ HO3.out hg).base HBB.out
 have hB5:=HBZ.out.trans (bb5.mono (by omega))
 clear d0 d1 d2 d3 d4 qf0 qf1 qf2 qf3 qf4 hW5 oo5
 obtain ⟨d0,d1,d2,d3,d4⟩:=f5.cells
 exact bodyPost_ret (v:=.tuple #[fldV X Y Wn Hn (some ⟨g,0,none⟩) S.length cap,.int .i64 0]) (by simp [results,Tryz.results72,go_sem, *]) rfl ⟨⟨_,_,_,_,_,_,_,rfl,.inr ⟨rfl,rfl,rfl,rfl,rfl,g,rfl,rfl,hO5⟩⟩,hB5⟩
def gee (x y:Nat):Bool:=FloatKind.f32.format.order x y == some .gt || FloatKind.f32.format.order x y == some .eq
theorem const_k10:fin Ieee.single 1149239296∧Ieee.single.V 1149239296=Ieee.P2 10:=by
 have:=Ieee.Format.V_const false 136 8388608 (.inr (by decide)) (by decide) (by decide)
 rw [show Ieee.single.word false (136*8388608+8388608)=1149239296 from by decide] at this
 refine ⟨this.1,?_⟩
 rw [this.2.1,show ((136:Nat):Int)-149=-13 from rfl,show ((8388608:Nat):Rat)=Ieee.P2 23 from (Ieee.P2_nat 23).symm,←Ieee.P2_add]
 simp [Ieee.sg]
theorem const_m10:fin Ieee.single 981467136∧Ieee.single.V 981467136=Ieee.P2 (-10):=by
 have:=Ieee.Format.V_const false 116 8388608 (.inr (by decide)) (by decide) (by decide)
 rw [show Ieee.single.word false (116*8388608+8388608)=981467136 from by decide] at this
 refine ⟨this.1,?_⟩
 rw [this.2.1,show ((116:Nat):Int)-149=-33 from rfl,show ((8388608:Nat):Rat)=Ieee.P2 23 from (Ieee.P2_nat 23).symm,←Ieee.P2_add]
 simp [Ieee.sg]
def stepC (s:Nat):Int:=if lss s 981467136=true then 3 else if gtr s 1149239296=true then 3 else 0
def terC (s h:Nat):Int:=if htE [s,h]≠0 then htE [s,h] else if stepC s≠0 then 3 else if lss h 0=true then 3 else if gee h 1065353216=true then 3 else 0
theorem ter_zero {s h:Nat} (hz:terC s h=0):htE [s,h]=0∧stepC s=0∧lss h 0=false∧gee h 1065353216=false∧TerOk s h:=by
 unfold terC at hz
 by_cases h1:htE [s,h]=0
 ·rw [if_neg (by omega)] at hz
  have ht:=Ieee.Format.allHt_iff.1 (Ieee.Format.htE_zero h1)
  have hs:=ht s (by simp)
  have hh:=ht h (by simp)
  by_cases h2:stepC s=0
  ·rw [if_neg (by omega)] at hz
   cases h3:lss h 0 with
   | true=>rw [h3,if_pos rfl] at hz;omega
   | false =>
    rw [h3,if_neg (by decide)] at hz
    cases h4:gee h 1065353216 with
    | true=>rw [h4,if_pos rfl] at hz;omega
    | false =>
     refine ⟨h1,h2,rfl,rfl,?_⟩
     have h2':=h2
     unfold stepC at h2'
     cases a1:lss s 981467136 with
     | true=>rw [a1,if_pos rfl] at h2';omega
     | false =>
      rw [a1,if_neg (by decide)] at h2'
      cases a2:gtr s 1149239296 with
      | true=>rw [a2,if_pos rfl] at h2';omega
      | false =>
       rw [lss_V hs.fin const_m10.1,const_m10.2] at a1
       rw [gtr_V hs.fin const_k10.1,const_k10.2] at a2
       rw [lss_V hh.fin Ieee.Format.const_0.1,Ieee.Format.const_0.2.1] at h3
       have a1:=of_decide_eq_false a1
       have a2:=of_decide_eq_false a2
       have h3:=of_decide_eq_false h3
       unfold gee at h4
       rw [Bool.or_eq_false_iff] at h4
       have g1:(Ieee.single.order h 1065353216 == some .gt)=decide (Ieee.single.V 1065353216<Ieee.single.V h):=Ieee.single.order_gt hh.fin Ieee.Format.const_1.1
       have g2:(Ieee.single.order h 1065353216 == some .eq)=decide (Ieee.single.V h=Ieee.single.V 1065353216):=Ieee.single.order_eq hh.fin Ieee.Format.const_1.1
       have e1:=g1.symm.trans h4.1
       have e2:=g2.symm.trans h4.2
       rw [Ieee.Format.const_1.2.1] at e1 e2
       have e1:=of_decide_eq_false e1
       have e2:=of_decide_eq_false e2
       have p:=Ieee.P2_pos (-10)
       have p2:=Ieee.P2_pos 10
       exact ⟨⟨hs.fin,by show -Ieee.P2 10≤_;grind,by show _≤Ieee.P2 10;grind⟩,by grind,hh.fin,by grind,by grind⟩
  ·rw [if_pos h2] at hz;omega
 ·rw [if_pos h1] at hz;exact absurd hz h1
theorem checkstep_any (s:Nat) (w:World) (hl:s<4294967296) (hs:fin Ieee.single s):Calls Tryz.prog 107 #[.float .f32 s] w fun e w'=>e=.returned (.int .i64 (stepC s))∧Below w.heap.size w w':=by
 have KF:=Lib.hid (fun W g h=>finites_one W g s hl h)
 rw [Ieee.Format.finE_ok (by unfold allFin;simp [hs])] at KF
 clear hl hs
 unfold stepC
 cases h1:lss s 981467136 with
 | true =>
  rw [if_pos rfl]
  change (FloatKind.f32.format.order s 981467136 == some .lt)=true at h1
  exact qx41
 | false =>
  rw [if_neg (by decide)]
  change (FloatKind.f32.format.order s 981467136 == some .lt)=false at h1
  cases h2:gtr s 1149239296 with
  | true =>
   rw [if_pos rfl]
   change (FloatKind.f32.format.order s 1149239296 == some .gt)=true at h2
   exact qx41
  | false =>
   rw [if_neg (by decide)]
   change (FloatKind.f32.format.order s 1149239296 == some .gt)=false at h2
   exact qx41
set_option maxRecDepth 100000 in
set_option maxHeartbeats 1000000 in
theorem terracefn_any (s h:Nat) (x y:Int) (p q b o c pa pb k:Nat) (X Y W1 H1:Int) (l:List Nat) (w:World) (hst:CntSt w p q b o c X Y W1 H1 l k) (hv:Bd 20 (l.getD k 0)) (hT:TerOk s h)
  (ha:Blk w pa #[.float .f32 s] 48) (hb:Blk w pb #[.float .f32 h] 48) (pap:pa≠p) (pbp:pb≠p) :
  Calls Tryz.prog 108 #[.int .i64 x,.int .i64 y,.pointer (some ⟨p,0,none⟩),.pointer (some ⟨q,0,none⟩),.pointer (some ⟨pa,0,none⟩),.pointer (some ⟨pb,0,none⟩)] w fun e w'=>e=.returned (.float .f32 (terF s h (l.getD k 0)))∧But w.heap.size (fun j=>j=p) w w'∧CntAt w' p (k:Int):=by
 have KS:=Lib.hid (fun w=>terraced_any s h (l.getD k 0) w hT hv)
 clear hv hT
 generalize hv0:l.getD k 0=v at *
 have HV0:=Lib.hid hv0
 clear hv0
 generalize terF s h v=z at *
 generalize hhh:h=sharp at *
 have h:=hst
 clear hhh hst
 have hkc:=h.cnt
 obtain ⟨cc,hcc⟩:∃ cc:Int,cc=(k:Int)-1:=⟨_,rfl⟩
 rw [←hcc] at hkc
 have HCC:Hid (cc+1=(k:Int)):=by unfold Hid;omega
 have hk1:-1≤cc:=by omega
 have hk2:cc≤1099511627776:=by have:=h.row.1.1;have:=h.kl;omega
 have hk4:(k:Int)<l.length:=by have:=h.kl;omega
 have hk5:l.length≤1099511627776:=h.row.1.1
 clear hcc
 have c0:w.cell? ⟨p,0,none⟩=some (.int .i64 cc):=hkc.cell 0
 have cf:w.frozen? ⟨p,0,none⟩=false:=hkc.frozen 0
 have hp1:=hkc.lt
 go_enter Tryz.func108,Tryz.ntmps108
 go_wp2_with fail
 rw [HCC.out]
 have HB0:=Lib.hid (But.setq (B:=w.heap.size) (q:=fun j=>j=p) (w:=w) (p:=⟨p,0,none⟩) (.int .i64 k) rfl)
 have HC2:=Lib.hid (CntAt.setc hkc (k:Int))
 have HF2:=Lib.hid (h.fo.but HB0.out h.fo.lt h.qp)
 have HR2:=Lib.hid (h.row.but HB0.out h.bl h.bp)
 have d4:=HF2.out.cells.2.2.2.2
 have dr:=SRow.at_ HR2.out h.kl
 rw [HV0.out] at dr
 have da:=blk_cell1 ha HB0.out pap
 have db:=blk_cell1 hb HB0.out pbp
 have dp:(w.setCell ⟨p,0,none⟩ (.int .i64 (k:Int))).cell? ⟨p,0,none⟩=some (.int .i64 (k:Int)):=HC2.out.cell 0
 have hz:w.heap.size≤(w.setCell ⟨p,0,none⟩ (.int .i64 (k:Int))).heap.size:=HB0.out.size
 have l1:=h.fo.lt
 have l2:=h.bl
 have l3:=ha.lt
 have l4:=hb.lt
 have hpl:Hid (p<(w.setCell ⟨p,0,none⟩ (.int .i64 (k:Int))).heap.size):=HC2.out.lt
 clear h ha hb pap pbp c0 cf hkc hp1
 generalize w.setCell ⟨p,0,none⟩ (.int .i64 (k:Int))=W2 at *
 have hk6:(0:Int)≤k:=by omega
 go_region_held3 (fun w'=>w'.cell? ⟨q,4,none⟩=some (.slice (some ⟨b,o,none⟩) l.length c)∧w'.cell? ⟨p,0,none⟩=some (.int .i64 (k:Int))∧w'.cell? ⟨b,o+k,none⟩=some (.float .f32 v)∧w'.cell? ⟨pa,0,none⟩=some (.float .f32 s)∧w'.cell? ⟨pb,0,none⟩=some (.float .f32 sharp)∧Below W2.heap.size W2 w')
  (first
   | exact ⟨d4,dp,dr,da,db,(Below.refl _ _).drew⟩
   | (go_split_ands;refine ⟨?_,?_,?_,?_,?_,?_⟩<;>assumption))
  (first|(go_at_call 109;go_split_ands;refine (KS.out _).mono ?_;rintro e2 w2 ⟨rfl,rfl⟩))
 rename_i w3 hHeld
 obtain ⟨_,_,_,_,_,hB⟩:=hHeld
 go_wp2_with fail
 go_ret
 exact ⟨rfl,HB0.out.trans ((But.of hB).mono hz),HC2.out.below hB hpl.out⟩
end Go.Proofs.YtmggflgdoioajaaGreat
