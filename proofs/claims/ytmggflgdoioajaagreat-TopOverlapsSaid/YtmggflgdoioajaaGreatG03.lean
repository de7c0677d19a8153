import Derived.Test.YtmggflgdoioajaaGreatG02
import Derived.WalkSmall
import Derived.RegionTactic
import Derived.ChangeAlike
import Derived.BigRegion
import Derived.Deep.Cut
import Derived.Laws.StructEq
import Derived.OwnWalk
import Derived.Laws.OwnMore
import Derived.Deep.RegionHeld3
import Derived.Deep.RegionWith
import Derived.StillTailTactics
import Derived.Shelf.Abstract
import Derived.Deep.AppendLies
import Derived.Deep.RegionLaw
import Derived.Outline
import Derived.Laws.BitsAllLaws
import Derived.Laws.BitsLemmas
import Derived.Lib.SmallJoins
import Derived.Deep.Slices
import Derived.OpenShut
import Derived.WalkLawsBesides
import Derived.Maps.OwnSet
import Derived.BigQuiet
set_option linter.unusedSimpArgs false
set_option linter.unusedVariables false
namespace Go.Proofs.YtmggflgdoioajaaGreat
open Go.ChangeShapes Go.WideShapes Go.ChangeAt Go.RowKit
def chk (X Y W H:Int):Int:=
 if W<1∨512<W∨H<1∨512<H then 3 else if 65536<W*H then 4
 else if X < -4194304∨Y < -4194304∨4194304-W<X∨4194304-H<Y then 5 else 0
theorem side_mul {W H:Int} (h1:1≤W) (h2:W≤512) (h3:1≤H) (h4:H≤512):wrap64 (W*H)=W*H∧wrap64 (4194304-H)=4194304-H:=by
 have a:=Int.mul_le_mul h2 h4 (by omega) (by omega)
 have b:=Int.mul_le_mul h1 h3 (by omega) (by omega)
 unfold wrap64
 omega
abbrev reg (X Y W H:Int):Value:=.agg #[.int .i64 X,.int .i64 Y,.int .i64 W,.int .i64 H]
theorem check1 (X Y W H:Int) (w:World):Calls Tryz.prog 16 #[reg X Y W H] w fun e w'=>e=.returned (.int .i64 (chk X Y W H))∧Below w.heap.size w w':=by
 go_enter Tryz.func16,Tryz.ntmps16
 go_wp2
 all_goals
  go_ret
  refine ⟨ret_i64 ?_,qBl⟩
  have sm:=@side_mul W H
  show _=chk X Y W H
  unfold chk;revert sm;grind
theorem chk_zero {X Y W H:Int} (h:chk X Y W H=0):1≤W∧W≤512∧1≤H∧H≤512∧-4194304≤X∧-4194304≤Y∧X≤4194304-W∧Y≤4194304-H∧W*H≤65536:=by
 unfold chk at h;split at h
 ·omega
 ·split at h
  ·omega
  ·split at h<;>omega
def growE (X Y W H n:Int):Int:=if chk X Y W H≠0 then chk X Y W H else if n < -512∨512<n then 3 else chk (X-n) (Y-n) (W+2*n) (H+2*n)
def growR (X Y W H n:Int):Value:=if growE X Y W H n=0 then reg (X-n) (Y-n) (W+2*n) (H+2*n) else reg 0 0 0 0
theorem grow_a {X Y W H n:Int} (h:chk X Y W H≠0):growE X Y W H n=chk X Y W H∧growR X Y W H n=reg 0 0 0 0:=by
 unfold growR growE;rw [if_pos h,if_neg h];exact ⟨rfl,rfl⟩
theorem grow_b {X Y W H n:Int} (h:chk X Y W H=0) (hn:n < -512∨512<n):growE X Y W H n=3∧growR X Y W H n=reg 0 0 0 0:=by
 unfold growR growE;rw [if_neg (by simpa using h),if_pos hn];exact ⟨rfl,rfl⟩
theorem grow_c {X Y W H n:Int} (h:chk X Y W H=0) (hn:¬ (n < -512∨512<n)) (h2:chk (X-n) (Y-n) (W+2*n) (H+2*n)≠0):growE X Y W H n=chk (X-n) (Y-n) (W+2*n) (H+2*n)∧growR X Y W H n=reg 0 0 0 0:=by
 unfold growR growE;rw [if_neg (by simpa using h),if_neg hn,if_neg h2];exact ⟨rfl,rfl⟩
theorem grow_d {X Y W H n:Int} (h:chk X Y W H=0) (hn:¬ (n < -512∨512<n)) (h2:chk (X-n) (Y-n) (W+2*n) (H+2*n)=0):growE X Y W H n=0∧growR X Y W H n=reg (X-n) (Y-n) (W+2*n) (H+2*n):=by
 unfold growR growE;rw [if_neg (by simpa using h),if_neg hn,if_pos h2];exact ⟨h2,rfl⟩
theorem grow1_b (X Y W H n:Int) (w:World) (hc:chk X Y W H=0) (hn:n < -512∨512<n):Calls Tryz.prog 42 #[reg X Y W H,.int .i64 n] w fun e w'=>e=.returned (.tuple #[reg 0 0 0 0,.int .i64 3])∧Below w.heap.size w w':=by
 rcases hn with hn|hn
 all_goals
  go_enter Tryz.func42,Tryz.ntmps42
  go_wp2_with fail
  refine (check1 _ _ _ _ _).mono ?_
  rintro e w1 ⟨rfl,hb⟩
  have B1:Below w.heap.size w w1:=(((Below.refl _ _).alloc (Nat.le_refl _) _).alloc (by simp) _).trans (hb.mono (by simp;omega))
  rw [hc]
  obtain ⟨hcc,hf⟩:=bcell hb
  have hz:w.heap.size+1<w1.heap.size:=by have:=hb.size;simp at this;omega
  clear hb
  go_wp2
  exact bodyPost_ret (v:=.tuple #[reg 0 0 0 0,.int .i64 3]) (by simp [results,Tryz.results42,go_sem, *]) rfl ⟨rfl,(qBo B1)⟩
theorem grow1_d (X Y W H n:Int) (w:World) (hc:chk X Y W H=0) (b1:-512≤n) (b2:n≤512) (h2:chk (X-n) (Y-n) (W+2*n) (H+2*n)=0) :
  Calls Tryz.prog 42 #[reg X Y W H,.int .i64 n] w fun e w'=>e=.returned (.tuple #[reg (X-n) (Y-n) (W+2*n) (H+2*n),.int .i64 0])∧Below w.heap.size w w':=by
 obtain ⟨z1,z2,z3,z4,z5,z6,z7,z8,z9⟩:=chk_zero hc
 go_enter Tryz.func42,Tryz.ntmps42
 go_wp2_with fail
 refine (check1 _ _ _ _ _).mono ?_
 rintro e w1 ⟨rfl,hb⟩
 have B1:Below w.heap.size w w1:=(((Below.refl _ _).alloc (Nat.le_refl _) _).alloc (by simp) _).trans (hb.mono (by simp;omega))
 rw [hc]
 clear hc
 obtain ⟨hcc,hf⟩:=bcell hb
 have hz:w.heap.size+1<w1.heap.size:=by have:=hb.size;simp at this;omega
 clear hb
 go_wp2_with fail
 refine (check1 _ _ _ _ _).mono ?_
 rintro e w2 ⟨rfl,hb2⟩
 have B2:Below w.heap.size w w2:=(B1.alloc (by omega) _).trans (hb2.mono (by simp;omega))
 rw [h2]
 clear h2
 obtain ⟨hcc2,hf2⟩:=bcell hb2
 have hz2:w1.heap.size<w2.heap.size:=by have:=hb2.size;simp at this;omega
 clear hb2
 have hy1:w.heap.size+1<w1.heap.size+1:=by omega
 have hy2:w.heap.size<w1.heap.size+1:=by omega
 have hy3:¬ w.heap.size+1=w1.heap.size:=by omega
 have hy4:¬ w.heap.size=w1.heap.size:=by omega
 go_wp2
 exact bodyPost_ret (v:=.tuple #[reg (X-n) (Y-n) (W+2*n) (H+2*n),.int .i64 0]) (by simp [results,Tryz.results42,go_sem, *]) rfl ⟨rfl,(qBo B2)⟩
theorem grow1_c (X Y W H n:Int) (w:World) (hc:chk X Y W H=0) (b1:-512≤n) (b2:n≤512) (h2:chk (X-n) (Y-n) (W+2*n) (H+2*n)≠0) :
  Calls Tryz.prog 42 #[reg X Y W H,.int .i64 n] w fun e w'=>e=.returned (.tuple #[reg 0 0 0 0,.int .i64 (chk (X-n) (Y-n) (W+2*n) (H+2*n))])∧Below w.heap.size w w':=by
 obtain ⟨z1,z2,z3,z4,z5,z6,z7,z8,z9⟩:=chk_zero hc
 have h2b:(chk (X-n) (Y-n) (W+2*n) (H+2*n) != 0)=true:=by rw [bne_iff_ne];exact h2
 go_enter Tryz.func42,Tryz.ntmps42
 go_wp2_with fail
 refine (check1 _ _ _ _ _).mono ?_
 rintro e w1 ⟨rfl,hb⟩
 have B1:Below w.heap.size w w1:=(((Below.refl _ _).alloc (Nat.le_refl _) _).alloc (by simp) _).trans (hb.mono (by simp;omega))
 rw [hc]
 clear hc
 obtain ⟨hcc,hf⟩:=bcell hb
 have hz:w.heap.size+1<w1.heap.size:=by have:=hb.size;simp at this;omega
 clear hb
 go_wp2_with fail
 refine (check1 _ _ _ _ _).mono ?_
 rintro e w2 ⟨rfl,hb2⟩
 have B2:Below w.heap.size w w2:=(B1.alloc (by omega) _).trans (hb2.mono (by simp;omega))
 generalize hq:chk (X-n) (Y-n) (W+2*n) (H+2*n)=c at *
 have Hq:=Lib.hid hq;clear hq
 obtain ⟨hcc2,hf2⟩:=bcell hb2
 have hz2:w1.heap.size<w2.heap.size:=by have:=hb2.size;simp at this;omega
 clear hb2
 have hy1:w.heap.size+1<w1.heap.size+1:=by omega
 have hy2:w.heap.size<w1.heap.size+1:=by omega
 have hy3:¬ w.heap.size+1=w1.heap.size:=by omega
 have hy4:¬ w.heap.size=w1.heap.size:=by omega
 go_wp2
 exact bodyPost_ret (v:=.tuple #[reg 0 0 0 0,.int .i64 c]) (by simp [results,Tryz.results42,go_sem, *]) rfl ⟨by rw [Hq.out],(qBo B2)⟩
theorem grow1_a (X Y W H n:Int) (w:World) (hc:chk X Y W H≠0):Calls Tryz.prog 42 #[reg X Y W H,.int .i64 n] w fun e w'=>e=.returned (.tuple #[reg 0 0 0 0,.int .i64 (chk X Y W H)])∧Below w.heap.size w w':=by
 have h2b:(chk X Y W H != 0)=true:=by rw [bne_iff_ne];exact hc
 go_enter Tryz.func42,Tryz.ntmps42
 go_wp2_with fail
 refine (check1 _ _ _ _ _).mono ?_
 rintro e w1 ⟨rfl,hb⟩
 have B1:Below w.heap.size w w1:=(((Below.refl _ _).alloc (Nat.le_refl _) _).alloc (by simp) _).trans (hb.mono (by simp;omega))
 generalize hq:chk X Y W H=c at *
 have Hq:=Lib.hid hq;clear hq
 obtain ⟨hcc,hf⟩:=bcell hb
 have hz:w.heap.size+1<w1.heap.size:=by have:=hb.size;simp at this;omega
 clear hb
 go_wp2
 exact bodyPost_ret (v:=.tuple #[reg 0 0 0 0,.int .i64 c]) (by simp [results,Tryz.results42,go_sem, *]) rfl ⟨by rw [Hq.out],(qBo B1)⟩
theorem grow1 (X Y W H n:Int) (w:World):Calls Tryz.prog 42 #[reg X Y W H,.int .i64 n] w fun e w'=>e=.returned (.tuple #[growR X Y W H n,.int .i64 (growE X Y W H n)])∧Below w.heap.size w w':=by
 by_cases hc:chk X Y W H=0
 ·by_cases hn:n < -512∨512<n
  ·obtain ⟨e1,e2⟩:=grow_b hc hn
   rw [e1,e2];exact grow1_b X Y W H n w hc hn
  ·by_cases h2:chk (X-n) (Y-n) (W+2*n) (H+2*n)=0
   ·obtain ⟨e1,e2⟩:=grow_d hc hn h2
    rw [e1,e2];exact grow1_d X Y W H n w hc (by omega) (by omega) h2
   ·obtain ⟨e1,e2⟩:=grow_c hc hn h2
    rw [e1,e2];exact grow1_c X Y W H n w hc (by omega) (by omega) h2
 ·obtain ⟨e1,e2⟩:=grow_a (n:=n) hc
  rw [e1,e2];exact grow1_a X Y W H n w hc
end Go.Proofs.YtmggflgdoioajaaGreat
namespace Go.Proofs.YtmggflgdoioajaaGreat
open Go.ChangeShapes Go.WideShapes Go.ChangeAt Go.RowKit
end Go.Proofs.YtmggflgdoioajaaGreat
namespace Go.Proofs.YtmggflgdoioajaaGreat
open Go.ChangeShapes Go.WideShapes Go.ChangeAt Go.RowKit
def insB (a b c d e f g h:Int):Bool:=decide (e≤a∧f≤b∧a+c≤e+g∧b+d≤f+h)
theorem inside1 (a b c d e f g h:Int) (w:World) (h1:-1073741824≤a) (h1':a≤1073741824) (h2:-1073741824≤b) (h2':b≤1073741824) (h3:1≤c) (h3':c≤1073741824) (h4:1≤d) (h4':d≤1073741824)
  (k1:-1073741824≤e) (k1':e≤1073741824) (k2:-1073741824≤f) (k2':f≤1073741824) (k3:1≤g) (k3':g≤1073741824) (k4:1≤h) (k4':h≤1073741824) :
  Calls Tryz.prog 25 #[reg a b c d,reg e f g h] w fun e' w'=>e'=.returned (.bool (insB a b c d e f g h))∧Below w.heap.size w w':=by
 go_enter Tryz.func25,Tryz.ntmps25
 go_wp2
 all_goals
  go_ret
  refine ⟨ret_bool ?_,qBl⟩
  show _=insB a b c d e f g h
  unfold insB;grind
theorem inside2 (a b c d e f g h:Int) (w:World) (h1:-1073741824≤a) (h1':a≤1073741824) (h2:-1073741824≤b) (h2':b≤1073741824) (h3:1≤c) (h3':c≤1073741824) (h4:1≤d) (h4':d≤1073741824)
  (k1:-1073741824≤e) (k1':e≤1073741824) (k2:-1073741824≤f) (k2':f≤1073741824) (k3:1≤g) (k3':g≤1073741824) (k4:1≤h) (k4':h≤1073741824) :
  Calls Tryz.prog 7 #[reg a b c d,reg e f g h] w fun e' w'=>e'=.returned (.bool (insB a b c d e f g h))∧Below w.heap.size w w':=by
 go_enter Tryz.func7,Tryz.ntmps7
 go_wp2
 all_goals
  go_ret
  refine ⟨ret_bool ?_,qBl⟩
  show _=insB a b c d e f g h
  unfold insB;grind
def mn (a b:Int):Int:=if b<a then b else a
def mx (a b:Int):Int:=if a<b then b else a
def cmOk (a b c d e f g h:Int):Bool:=decide (1≤mn (a+c) (e+g)-mx a e∧1≤mn (b+d) (f+h)-mx b f)
def cmR (a b c d e f g h:Int):Value:=if cmOk a b c d e f g h then reg (mx a e) (mx b f) (mn (a+c) (e+g)-mx a e) (mn (b+d) (f+h)-mx b f) else reg 0 0 0 0
theorem cm_parts {a b c d e f g h x y p q:Int} (hx:mx a e=x) (hy:mx b f=y) (hp:mn (a+c) (e+g)-x=p) (hq:mn (b+d) (f+h)-y=q) :
  (1≤p∧1≤q→cmOk a b c d e f g h=true∧cmR a b c d e f g h=reg x y p q)∧(¬ (1≤p∧1≤q)→cmOk a b c d e f g h=false∧cmR a b c d e f g h=reg 0 0 0 0):=by
 subst hx hy hp hq
 constructor
 ·intro hh
  have:cmOk a b c d e f g h=true:=by unfold cmOk;exact decide_eq_true hh
  unfold cmR;rw [this];exact ⟨rfl,rfl⟩
 ·intro hh
  have:cmOk a b c d e f g h=false:=by unfold cmOk;exact decide_eq_false hh
  unfold cmR;rw [this];exact ⟨rfl,rfl⟩
set_option maxHeartbeats 1000000 in
theorem common1 (a b c d e f g h:Int) (w:World) (h1:-1073741824≤a) (h1':a≤1073741824) (h2:-1073741824≤b) (h2':b≤1073741824) (h3:1≤c) (h3':c≤1073741824) (h4:1≤d) (h4':d≤1073741824)
  (k1:-1073741824≤e) (k1':e≤1073741824) (k2:-1073741824≤f) (k2':f≤1073741824) (k3:1≤g) (k3':g≤1073741824) (k4:1≤h) (k4':h≤1073741824) :
  Calls Tryz.prog 13 #[reg a b c d,reg e f g h] w fun e' w'=>e'=.returned (.tuple #[cmR a b c d e f g h,.bool (cmOk a b c d e f g h)])∧Below w.heap.size w w':=by
 go_enter Tryz.func13,Tryz.ntmps13
 go_wp2
 go_quiet (fail)
 have q1:(if a<e then e else a)=mx a e:=rfl
 have q2:(if b<f then f else b)=mx b f:=rfl
 rw [q1,q2]
 clear q1 q2
 obtain ⟨m1,m2⟩:-1073741824≤mx a e∧mx a e≤1073741824:=by unfold mx;split<;>omega
 obtain ⟨m3,m4⟩:-1073741824≤mx b f∧mx b f≤1073741824:=by unfold mx;split<;>omega
 generalize hx:mx a e=x at *
 generalize hy:mx b f=y at *
 have Hx:=Lib.hid hx;clear hx
 have Hy:=Lib.hid hy;clear hy
 go_wp2
 go_quiet (fail)
 have q1:(if e+g<a+c then e+g else a+c)=mn (a+c) (e+g):=rfl
 have q2:(if f+h<b+d then f+h else b+d)=mn (b+d) (f+h):=rfl
 rw [q1,q2]
 clear q1 q2
 generalize hp:mn (a+c) (e+g)-x=p at *
 generalize hq:mn (b+d) (f+h)-y=q at *
 have Hp:=Lib.hid hp;clear hp
 have Hq:=Lib.hid hq;clear hq
 have PT:=Lib.hid (cm_parts Hx.out Hy.out Hp.out Hq.out)
 clear Hx Hy Hp Hq
 by_cases cp:p<1
 ·exact qx77
 ·have cp':1≤p:=by omega
  by_cases cq:q<1
  ·exact qx77
  ·have cq':1≤q:=by omega
   go_wp2
   exact bodyPost_ret (v:=.tuple #[reg x y p q,.bool true]) (by simp [results,Tryz.results13,go_sem]) rfl ⟨(by obtain ⟨e1,e2⟩:=PT.out.1 (by omega);rw [e1,e2]),qBl⟩
end Go.Proofs.YtmggflgdoioajaaGreat
namespace Go.Proofs.YtmggflgdoioajaaGreat
open Go.ChangeShapes Go.WideShapes Go.ChangeAt Go.RowKit
end Go.Proofs.YtmggflgdoioajaaGreat
namespace Go.Proofs.YtmggflgdoioajaaGreat
open Go.ChangeShapes Go.WideShapes Go.ChangeAt Go.RowKit
theorem eqReg (a b c d a' b' c' d':Int) (w:World):(Op.equalIn 10000 26 (reg a b c d) (reg a' b' c' d')).run Tryz.prog w=.ok (a == a' && b == b' && c == c' && d == d') w:=by
 have u3:=Tryz.underlying3
 have a3:=Tryz.isAgg3
 have z3:=Tryz.sizeOf3
 have hS:Tryz.prog.underlying 26=some (.struct (Tryz.prog.fieldsOf 26)):=by kernel_rfl
 have hp:Tryz.prog.stoodInHeld 26=false:=by kernel_rfl
 rw [show (10000:Nat)=9999+1 from rfl,run_equalIn_agg w 9999 26 _ _ hS hp]
 simp only [Program.fieldsOf,Tryz.underlying26]
 go_simp
 by_cases h1:a=a'<;>by_cases h2:b=b'<;>by_cases h3:c=c'<;>by_cases h4:d=d'<;>simp [h1,h2,h3,h4]
theorem guard30:Tryz.prog.eqGuardType Tryz.prog.depth 26=false:=by kernel_rfl
theorem eqGuardReg (op:BinOp) (x y:Operand) (a b c d a' b' c' d':Int) (w:World):(eqGuard op 26 x y (reg a b c d) (reg a' b' c' d')).run Tryz.prog w=.ok () w:=run_eqGuard_agg w op 26 x y _ _ guard30
theorem eqlReg (a b c d a' b' c' d':Int) (w:World):(binOp .eql 26 (reg a b c d) (reg a' b' c' d')).run Tryz.prog w=.ok (.bool (a == a' && b == b' && c == c' && d == d')) w:=by
 rw [run_eql_struct,eqReg];rfl
theorem neqReg (a b c d a' b' c' d':Int) (w:World):(binOp .neq 26 (reg a b c d) (reg a' b' c' d')).run Tryz.prog w=.ok (.bool (!(a == a' && b == b' && c == c' && d == d'))) w:=by
 rw [run_neq_struct,eqReg];rfl
end Go.Proofs.YtmggflgdoioajaaGreat
namespace Go.Proofs.YtmggflgdoioajaaGreat
open Go.ChangeShapes Go.WideShapes Go.ChangeAt Go.RowKit
open Ieee.Format (fin finE htE allFin allHt all_true all_false finE_ok finE_bad htE_ok htE_far htE_bad mulF subF addF)
theorem SRow.below {w w':World} {a:Option Addr} {l:List Nat} (h:SRow w a l) (hb:Below w.heap.size w w'):SRow w' a l:=by
 obtain ⟨h1,h2⟩:=h
 refine ⟨h1,?_⟩
 rcases h2 with h2|⟨b,o,rfl,hc⟩
 ·exact .inl h2
 ·refine .inr ⟨b,o,rfl,fun i hi=>?_⟩
  have:=hc i hi
  rw [hb.cell (p:=⟨b,o+i,none⟩) (World.block_lt_of_cell? w _ this)]
  exact this
abbrev fldV (X Y W H:Int) (a:Option Addr) (n c:Nat):Value:=.agg #[.int .i64 X,.int .i64 Y,.int .i64 W,.int .i64 H,.slice a n c]
def chkF (X Y W H:Int) (l:List Nat):Int:=if chk X Y W H≠0 then chk X Y W H else if (l.length:Int)≠W*H then 2 else htE l
theorem chkF_region {X Y W H:Int} {l:List Nat} (h:chk X Y W H≠0):chkF X Y W H l=chk X Y W H:=if_pos h
theorem chkF_len {X Y W H:Int} {l:List Nat} (h:chk X Y W H=0) (h2:(l.length:Int)≠W*H):chkF X Y W H l=2:=by
 unfold chkF;rw [if_neg (by simpa using h),if_pos h2]
theorem chkF_vals {X Y W H:Int} {l:List Nat} (h:chk X Y W H=0) (h2:(l.length:Int)=W*H):chkF X Y W H l=htE l:=by
 unfold chkF;rw [if_neg (by simpa using h),if_neg (by simpa using h2)]
theorem check_field (X Y W H:Int) (a:Option Addr) (c:Nat) (l:List Nat) (w:World) (hl:SRow w a l) :
  Calls Tryz.prog 24 #[fldV X Y W H a l.length c] w fun e w'=>e=.returned (.int .i64 (chkF X Y W H l))∧Below w.heap.size w w':=by
 have HL:=Lib.hid hl
 clear hl
 have hA:Below w.heap.size w (w.alloc (.cells #[.int .i64 X,.int .i64 Y,.int .i64 W,.int .i64 H,.slice a l.length c] 32)):=qBl
 have hcase:chk X Y W H≠0∨(chk X Y W H=0∧((l.length:Int)≠W*H∨(l.length:Int)=W*H)):=by omega
 rcases hcase with h1|⟨h1,h2|h2⟩
 ·have E:=Lib.hid (chkF_region (l:=l) h1)
  have hb:(chk X Y W H != 0)=true:=by rw [bne_iff_ne];exact h1
  clear h1
  have E2:Hid (chkF X Y W H l=chk X Y W H):=E.out
  have K:=Lib.hid (fun w=>check1 X Y W H w)
  generalize chk X Y W H=q at *
  generalize chkF X Y W H l=r at *
  go_enter Tryz.func24,Tryz.ntmps24
  go_wp2_with fail
  refine (K.out _).mono ?_
  rintro e w1 ⟨rfl,b1⟩
  have B1:=hA.trans (b1.mono hA.size)
  clear b1
  go_wp2
  go_ret
  exact ⟨ret_i64 E2.out.symm,B1⟩
 ·have E:=Lib.hid (chkF_len h1 h2)
  obtain ⟨z1,z2,z3,z4,z5,z6,z7,z8,z9⟩:=chk_zero h1
  have zp:1≤W*H:=by have:=Int.mul_le_mul z1 z3 (by omega) (by omega);omega
  have hb:((l.length:Int) != W*H)=true:=by rw [bne_iff_ne];exact h2
  have H1:=Lib.hid h1
  clear h1 h2
  generalize chkF X Y W H l=r at *
  go_enter Tryz.func24,Tryz.ntmps24
  go_wp2_with fail
  refine (check1 _ _ _ _ _).mono ?_
  rintro e w1 ⟨rfl,b1⟩
  rw [H1.out]
  have B1:=hA.trans (b1.mono hA.size)
  obtain ⟨hcc,hf⟩:=bcell b1
  clear b1
  go_wp2_with fail
  go_ret
  exact ⟨ret_i64 E.out.symm,B1⟩
 ·have E:=Lib.hid (chkF_vals h1 h2)
  obtain ⟨z1,z2,z3,z4,z5,z6,z7,z8,z9⟩:=chk_zero h1
  have zp:1≤W*H:=by have:=Int.mul_le_mul z1 z3 (by omega) (by omega);omega
  have hb:((l.length:Int) != W*H)=false:=by rw [bne_eq_false_iff_eq];exact h2
  have H1:=Lib.hid h1
  clear h1 h2
  have K:=Lib.hid (fun w h=>heights_any a c l w h)
  generalize chkF X Y W H l=r at *
  generalize htE l=q at *
  go_enter Tryz.func24,Tryz.ntmps24
  go_wp2_with fail
  refine (check1 _ _ _ _ _).mono ?_
  rintro e w1 ⟨rfl,b1⟩
  rw [H1.out]
  have B1:=hA.trans (b1.mono hA.size)
  obtain ⟨hcc,hf⟩:=bcell b1
  clear b1
  go_wp2_with fail
  refine (K.out _ (HL.out.below B1)).mono ?_
  rintro e w2 ⟨rfl,rfl⟩
  go_wp2_with fail
  go_ret
  exact ⟨ret_i64 E.out.symm,B1⟩
end Go.Proofs.YtmggflgdoioajaaGreat
namespace Go.Proofs.YtmggflgdoioajaaGreat
open Go.ChangeShapes Go.WideShapes Go.ChangeAt Go.RowKit
open Ieee.Format (fin finE htE allFin allHt all_true all_false finE_ok finE_bad htE_ok htE_far htE_bad mulF subF addF)
def fls (l:List Nat):List Value:=l.map (Value.float .f32)
theorem info24:(Tryz.prog.info? 48).map (fun i=>(i.zero,i.size,i.bytes))=some (some (.float .f32 0),1,4):=by kernel_rfl
def OwnF (w:World) (B g cap:Nat) (l:List Nat):Prop:=w.ownsRow B 48 1 (.slice (some ⟨g,0,none⟩) l.length cap) l.length (fls l)∧∀ x∈l,x<4294967296
theorem OwnF.lt {w:World} {B g cap:Nat} {l:List Nat} (h:OwnF w B g cap l):B≤g∧g<w.heap.size:=h.1.lt g rfl
theorem OwnF.row {w:World} {B g cap:Nat} {l:List Nat} (h:OwnF w B g cap l) (hl:l.length≤1099511627776):SRow w (some ⟨g,0,none⟩) l:=by
 refine ⟨⟨hl,h.2⟩,.inr ⟨g,0,rfl,fun i hi=>?_⟩⟩
 rw [Nat.zero_add,h.1.cellAt i (by omega)]
 unfold fls
 rw [List.getElem?_map,List.getD_eq_getElem?_getD,List.getElem?_eq_getElem hi]
 rfl
theorem OwnF.below {w w':World} {B B' g cap:Nat} {l:List Nat} (h:OwnF w B g cap l) (hb:Below B' w w') (hg:g<B'):OwnF w' B g cap l:=by
 refine ⟨?_,h.2⟩
 obtain ⟨h1,h2⟩:=h.1
 refine ⟨h1,?_⟩
 rcases h2 with h2|⟨g',cap',cur,hv,hB,hh,r⟩
 ·exact .inl h2
 ·right
  have:g'=g:=by simp at hv;exact hv.1.symm
  subst this
  exact ⟨g',cap',cur,hv,hB,(hb.block g' hg).trans hh,r⟩
theorem OwnF.base {w:World} {B B' g cap:Nat} {l:List Nat} (h:OwnF w B g cap l) (hB:B'≤B):OwnF w B' g cap l:=by
 refine ⟨⟨h.1.1,?_⟩,h.2⟩
 rcases h.1.2 with h2|⟨g',cap',cur,hv,hb,r⟩
 ·exact .inl h2
 ·exact .inr ⟨g',cap',cur,hv,Nat.le_trans hB hb,r⟩
theorem OwnF.setCell {w:World} {B g cap:Nat} {l:List Nat} (h:OwnF w B g cap l) {p:Addr} (hp:g≠p.block) (u:Value):OwnF (w.setCell p u) B g cap l:=by
 refine ⟨⟨h.1.1,?_⟩,h.2⟩
 rcases h.1.2 with h2|⟨g',cap',cur,hv,hb,hh,r⟩
 ·exact .inl h2
 ·have:g'=g:=by simp at hv;exact hv.1.symm
  subst this
  exact .inr ⟨g',cap',cur,hv,hb,(Below.heap_setCell w p u g' hp).trans hh,r⟩
theorem OwnF.drew {w:World} {B g cap:Nat} {l:List Nat} (h:OwnF w B g cap l):OwnF w.drew B g cap l:=h
theorem OwnF.alloc {w:World} {B g cap:Nat} {l:List Nat} (h:OwnF w B g cap l) (o:Obj):OwnF (w.alloc o) B g cap l:=⟨h.1.alloc o,h.2⟩
set_option maxRecDepth 100000 in
theorem clone_any (b o c:Nat) (l:List Nat) (w:World) (hl:SRow w (some ⟨b,o,none⟩) l) (h0:l≠[]) :
  Calls Tryz.prog 139 #[.slice (some ⟨b,o,none⟩) l.length c] w fun e w'=>∃ g cap,e=.returned (.slice (some ⟨g,0,none⟩) l.length cap)∧OwnF w' w.heap.size g cap l∧Below w.heap.size w w':=by
 obtain ⟨i0,hi,hz0,hz1,hz2⟩:=info_parts info24
 obtain ⟨⟨hm,hwf⟩,hc⟩:=hl
 have hcells:∀ i,i<l.length→w.cell? ⟨b,o+i,none⟩=some (.float .f32 (l.getD i 0)):=by
  rcases hc with hc|⟨b',o',e,hc⟩
  ·exact absurd hc h0
  ·cases e;exact hc
 have hlen:0<l.length:=List.length_pos_iff.2 h0
 have hown:=World.ownsRow_lit (base:=w.heap.size) (e:=48) (size:=1) w #[] 0 (Nat.le_refl _) (by decide) rfl
 have hblt:b<w.heap.size:=by have:=hcells 0 hlen;exact World.block_lt_of_cell? w _ this
 have hnews:∀ j u,(fls l)[j]?=some u→(w.alloc (.cells #[] 48)).cell? ((⟨b,o,none⟩:Addr).add j)=some u:=by
  intro j u hu
  unfold fls at hu
  rw [List.getElem?_map] at hu
  obtain ⟨x,hx,rfl⟩:=Option.map_eq_some_iff.1 hu
  obtain ⟨hj,hjx⟩:=List.getElem?_eq_some_iff.1 hx
  have hadd:(⟨b,o,none⟩:Addr).add j=⟨b,o+j,none⟩:=by
   unfold Addr.add;split
   ·rename_i hj0;subst hj0;rfl
   ·rfl
  rw [hadd,World.cell?_alloc_lt w _ ⟨b,o+j,none⟩ hblt,hcells j hj,List.getD_eq_getElem?_getD,hx]
  rfl
 have hone:∀ u∈fls l,u.oneCell'=true:=by
  intro u hu
  unfold fls at hu
  obtain ⟨x,_,rfl⟩:=List.mem_map.1 hu
  rfl
 have HC:=Lib.hid hnews
 have HO:=Lib.hid hone
 have HW:=Lib.hid hwf
 have HW2:=Lib.hid hown
 have hfl:(fls l).length=l.length*1:=by unfold fls;simp
 have HF:=Lib.hid hfl
 clear hcells hc hnews hone hwf hown h0 hfl
 have kn:=fun w=>Lib.run_eql_slice_nil (P:=Tryz.prog) w 30 48 (some ⟨b,o,none⟩) l.length c 0 0 Tryz.underlying30
 have G1:Hid (0+l.length≤maxLen):=by unfold maxLen Hid;omega
 have G2:Hid ((0+l.length)*4≤140737488355328):=by unfold Hid;omega
 have G3:Hid (w.heap.size≤(w.alloc (.cells #[] 48)).heap.size):=by unfold Hid;simp
 have hlen1:Hid (l.length≤1099511627776):=hm
 go_enter Tryz.func139,Tryz.ntmps139
 go_wp2_with (at_builtin;refine wpList_append_own _ rfl _ _ 30 rfl w.heap.size 48 i0 (.float .f32 0) 1 4 Tryz.underlying30 hi hz0 hz1 hz2 rfl (by decide) _ 0 [] rfl HW2.out ⟨b,o,none⟩ l.length c (fls l) rfl HF.out HC.out HO.out G1.out G2.out G3.out ?_;intro v' w1 hown' hgrow hnil)
 have HO1:=Lib.hid hown'
 have HG1:=Lib.hid hgrow
 have HN:=Lib.hid hnil
 clear hown' hgrow hnil
 go_wp2
 go_ret
 have hfo:w1.ownsRow w.heap.size 48 1 v' l.length (fls l):=by simpa using HO1.out
 rcases hfo.2 with ⟨_,h0⟩|⟨g,cap,cur,rfl,hg,hh,hr⟩
 ·omega
 ·refine ⟨g,cap,rfl,⟨hfo,HW.out⟩,?_⟩
  have ha:Below w.heap.size w (w.alloc (.cells #[] 48)):=qBl
  exact ha.grown HG1.out G3.out (fun k hk=>by have hk':some w.heap.size=some k:=hk;cases hk';exact Nat.le_refl _)
theorem SRow.drew {w:World} {a:Option Addr} {l:List Nat} (h:SRow w a l):SRow w.drew a l:=h
def NewF (B:Nat) (X Y W H:Int) (l:List Nat) (w:World) (e:Ending) (w':World):Prop:=
 ∃ g cap,e=.returned (fldV X Y W H (some ⟨g,0,none⟩) l.length cap)∧OwnF w' B g cap l∧Below w.heap.size w w'
set_option maxRecDepth 100000 in
theorem copy_any (X Y W H:Int) (b o c:Nat) (l:List Nat) (w:World) (hl:SRow w (some ⟨b,o,none⟩) l) (h0:l≠[]) :
  Calls Tryz.prog 103 #[fldV X Y W H (some ⟨b,o,none⟩) l.length c] w fun e w'=>NewF w.heap.size X Y W H l w e w':=by
 have K:=Lib.hid (fun w h=>clone_any b o c l w h h0)
 have HL:=Lib.hid hl
 clear hl h0
 have HBL:Below w.heap.size w ((w.alloc (.cells #[.int .i64 X,.int .i64 Y,.int .i64 W,.int .i64 H,.slice (some ⟨b,o,none⟩) l.length c] 32)).alloc (.cells #[.int .i64 0,.int .i64 0,.int .i64 0,.int .i64 0,.slice none 0 0] 32)):=qBl
 have HB:=Lib.hid HBL
 clear HBL
 go_enter Tryz.func103,Tryz.ntmps103
 go_wp2
 generalize hW0:(w.alloc (.cells #[.int .i64 X,.int .i64 Y,.int .i64 W,.int .i64 H,.slice (some ⟨b,o,none⟩) l.length c] 32)).alloc (.cells #[.int .i64 0,.int .i64 0,.int .i64 0,.int .i64 0,.slice none 0 0] 32)=W0 at *
 have c0:W0.cell? ⟨w.heap.size,0,none⟩=some (.int .i64 X):=by subst hW0;simp
 have c1:W0.cell? ⟨w.heap.size,1,none⟩=some (.int .i64 Y):=by subst hW0;simp
 have c2:W0.cell? ⟨w.heap.size,2,none⟩=some (.int .i64 W):=by subst hW0;simp
 have c3:W0.cell? ⟨w.heap.size,3,none⟩=some (.int .i64 H):=by subst hW0;simp
 have c4:W0.cell? ⟨w.heap.size,4,none⟩=some (.slice (some ⟨b,o,none⟩) l.length c):=by subst hW0;simp
 have d0:W0.cell? ⟨w.heap.size+1,0,none⟩=some (.int .i64 0):=by subst hW0;simp
 have d1:W0.cell? ⟨w.heap.size+1,1,none⟩=some (.int .i64 0):=by subst hW0;simp
 have d2:W0.cell? ⟨w.heap.size+1,2,none⟩=some (.int .i64 0):=by subst hW0;simp
 have d3:W0.cell? ⟨w.heap.size+1,3,none⟩=some (.int .i64 0):=by subst hW0;simp
 have d4:W0.cell? ⟨w.heap.size+1,4,none⟩=some (.slice none 0 0):=by subst hW0;simp
 have z:W0.heap.size=w.heap.size+2:=by subst hW0;simp
 have HL0:Hid (SRow W0 (some ⟨b,o,none⟩) l):=HL.out.below HB.out
 have FR:Hid (∀ i,W0.frozen? ⟨w.heap.size+1,i,none⟩=false):=by intro i;subst hW0;simp
 clear hW0
 have lt0:w.heap.size<W0.heap.size:=by omega
 have lt1:w.heap.size+1<W0.heap.size:=by omega
 have f0:=FR.out 0
 have f1:=FR.out 1
 have f2:=FR.out 2
 have f3:=FR.out 3
 have f4:=FR.out 4
 have HZ:=Lib.hid z
 clear z
 have TH:Hid (∀ w2,Below W0.drew.heap.size W0.drew w2→(∀ i v,W0.cell? ⟨w.heap.size,i,none⟩=some v→w2.cell? ⟨w.heap.size,i,none⟩=some v)∧(∀ i v,W0.cell? ⟨w.heap.size+1,i,none⟩=some v→w2.cell? ⟨w.heap.size+1,i,none⟩=some v)∧(∀ i,w2.frozen? ⟨w.heap.size+1,i,none⟩=false)):=by
  intro w2 hb
  have hz:=HZ.out
  refine ⟨fun i v h=>?_,fun i v h=>?_,fun i=>?_⟩
  ·exact (hb.cell (p:=⟨w.heap.size,i,none⟩) (by simp;omega)).trans h
  ·exact (hb.cell (p:=⟨w.heap.size+1,i,none⟩) (by simp;omega)).trans h
  ·exact (hb.frozen (p:=⟨w.heap.size+1,i,none⟩) (by simp;omega)).trans (FR.out i)
 have C:=Lib.hid (And.intro c0 (And.intro c1 (And.intro c2 (And.intro c3 c4))))
 have D:=Lib.hid (And.intro d0 (And.intro d1 (And.intro d2 (And.intro d3 d4))))
 go_region_with (go_at_call 139;refine (K.out _ HL0.out.drew).mono ?_;rintro e2 w2 ⟨g,cap,rfl,ho,hb⟩;obtain ⟨t1,t2,t3⟩:=TH.out _ hb;have x0:=t1 0 _ C.out.1;have x1:=t1 1 _ C.out.2.1;have x2:=t1 2 _ C.out.2.2.1;have x3:=t1 3 _ C.out.2.2.2.1;have x4:=t1 4 _ C.out.2.2.2.2;have y0:=t2 0 _ D.out.1;have y1:=t2 1 _ D.out.2.1;have y2:=t2 2 _ D.out.2.2.1;have y3:=t2 3 _ D.out.2.2.2.1;have y4:=t2 4 _ D.out.2.2.2.2;have g0:=t3 0;have g1:=t3 1;have g2:=t3 2;have g3:=t3 3;have g4:=t3 4;clear t1 t2 t3;have HBB:=Lib.hid hb;have HOO:=Lib.hid ho;clear hb ho)
 all_goals
  go_wp2
  have hz:=HZ.out
  have B2:Below w.heap.size w w2:=HB.out.trans ((Below.refl w.heap.size W0).drew.trans (HBB.out.mono (show w.heap.size≤W0.heap.size by omega)))
  have O2:OwnF w2 w.heap.size g cap l:=HOO.out.base (show w.heap.size≤W0.heap.size by omega)
  have gl:w.heap.size+1<g:=by have h:W0.heap.size≤g:=HOO.out.lt.1;omega
  exact bodyPost_ret (v:=fldV X Y W H (some ⟨g,0,none⟩) l.length cap) (by simp [results,Tryz.results103,go_sem, *]) rfl ⟨g,cap,rfl,(by have hgg:=O2.lt;repeat (first|with_reducible exact O2|with_reducible refine OwnF.drew ?_|with_reducible refine OwnF.drewN ?_ _|(with_reducible refine OwnF.setCell ?_ ?_ _;rotate_left;focus (first|omega|(simp<;>omega)))|with_reducible refine OwnF.alloc ?_ _)),(qBo B2)⟩
end Go.Proofs.YtmggflgdoioajaaGreat
namespace Go.Proofs.YtmggflgdoioajaaGreat
open Go.ChangeShapes Go.WideShapes Go.ChangeAt Go.RowKit
theorem run_store_float (P:Program) (w:World) (a:Addr) (m:Mode) (k:FloatKind) (n:Nat):(store a (.float k n) m).run P w=stored P w a (.float k n) m:=run_store P w a _ m rfl
attribute [go_sem] run_store_float
def Fld (w:World) (k:Nat) (X Y W H:Int) (v:Value):Prop:=w.heap[k]?=some (.cells #[.int .i64 X,.int .i64 Y,.int .i64 W,.int .i64 H,v] 32 (0,0))
section
variable {w w':World} {k:Nat} {X Y W H:Int} {v:Value}
theorem Fld.lt (h:Fld w k X Y W H v):k<w.heap.size:=by
 rcases Nat.lt_or_ge k w.heap.size with hlt|hge
 ·exact hlt
 ·unfold Fld at h;rw [Array.getElem?_eq_none hge] at h;cases h
theorem Fld.cell (h:Fld w k X Y W H v) (i:Nat):w.cell? ⟨k,i,none⟩=(#[.int .i64 X,.int .i64 Y,.int .i64 W,.int .i64 H,v]:Array Value)[i]?:=cell_of_row w k i _ _ _ h
theorem Fld.cells (h:Fld w k X Y W H v):w.cell? ⟨k,0,none⟩=some (.int .i64 X)∧w.cell? ⟨k,1,none⟩=some (.int .i64 Y)∧w.cell? ⟨k,2,none⟩=some (.int .i64 W)∧w.cell? ⟨k,3,none⟩=some (.int .i64 H)∧w.cell? ⟨k,4,none⟩=some v:=
 ⟨h.cell 0,h.cell 1,h.cell 2,h.cell 3,h.cell 4⟩
theorem Fld.frozen (h:Fld w k X Y W H v) (i:Nat):w.frozen? ⟨k,i,none⟩=false:=frozen_of_row w k i _ _ h
theorem Fld.below {B:Nat} (h:Fld w k X Y W H v) (hb:Below B w w') (hk:k<B):Fld w' k X Y W H v:=(hb.block k hk).trans h
theorem Fld.new (w:World) (X Y W H:Int) (v:Value):Fld (w.alloc (.cells #[.int .i64 X,.int .i64 Y,.int .i64 W,.int .i64 H,v] 32)) w.heap.size X Y W H v:=heap_alloc_new w _
theorem Fld.alloc (h:Fld w k X Y W H v) (o:Obj):Fld (w.alloc o) k X Y W H v:=(Below.heap_alloc w o k h.lt).trans h
theorem Fld.drew (h:Fld w k X Y W H v):Fld w.drew k X Y W H v:=h
theorem Fld.setCell (h:Fld w k X Y W H v) {p:Addr} (hp:k≠p.block) (u:Value):Fld (w.setCell p u) k X Y W H v:=(Below.heap_setCell w p u k hp).trans h
theorem Fld.grown {row:Option Nat} (h:Fld w k X Y W H v) (hb:w.grownBy w' row) (hg:some k≠row):Fld w' k X Y W H v:=(hb.block k h.lt hg).trans h
theorem Fld.set0 (h:Fld w k X Y W H v) (u:Int):Fld (w.setCell ⟨k,0,none⟩ (.int .i64 u)) k u Y W H v:=by
 unfold Fld at *;exact heap_setCell_same w k 0 _ _ _ h
theorem Fld.set1 (h:Fld w k X Y W H v) (u:Int):Fld (w.setCell ⟨k,1,none⟩ (.int .i64 u)) k X u W H v:=by
 unfold Fld at *;exact heap_setCell_same w k 1 _ _ _ h
theorem Fld.set2 (h:Fld w k X Y W H v) (u:Int):Fld (w.setCell ⟨k,2,none⟩ (.int .i64 u)) k X Y u H v:=by
 unfold Fld at *;exact heap_setCell_same w k 2 _ _ _ h
theorem Fld.set3 (h:Fld w k X Y W H v) (u:Int):Fld (w.setCell ⟨k,3,none⟩ (.int .i64 u)) k X Y W u v:=by
 unfold Fld at *;exact heap_setCell_same w k 3 _ _ _ h
theorem Fld.set4 (h:Fld w k X Y W H v) (u:Value):Fld (w.setCell ⟨k,4,none⟩ u) k X Y W H u:=by
 unfold Fld at *;exact heap_setCell_same w k 4 _ _ _ h
end
theorem two_fields (w:World) (X Y W H:Int) (v:Value):∀ W0,W0=(w.alloc (.cells #[.int .i64 X,.int .i64 Y,.int .i64 W,.int .i64 H,v] 32)).alloc (.cells #[.int .i64 0,.int .i64 0,.int .i64 0,.int .i64 0,.slice none 0 0] 32) →
  Fld W0 w.heap.size X Y W H v∧Fld W0 (w.heap.size+1) 0 0 0 0 (.slice none 0 0)∧Below w.heap.size w W0∧W0.heap.size=w.heap.size+2:=by
 rintro _ rfl
 refine ⟨(Fld.new w X Y W H v).alloc _,?_,qBl,by simp⟩
 have:=Fld.new (w.alloc (.cells #[.int .i64 X,.int .i64 Y,.int .i64 W,.int .i64 H,v] 32)) 0 0 0 0 (.slice none 0 0)
 simpa using this
end Go.Proofs.YtmggflgdoioajaaGreat
namespace Go.Proofs.YtmggflgdoioajaaGreat
open Go.ChangeShapes Go.WideShapes Go.ChangeAt Go.RowKit
open Ieee.Format (fin finE htE allFin allHt all_true all_false finE_ok finE_bad htE_ok htE_far htE_bad mulF subF addF)
theorem OwnF.store {w:World} {B g cap:Nat} {m:List Nat} (h:OwnF w B g cap m) (k x:Nat) (hx:x<4294967296):OwnF (w.setCell ⟨g,k,none⟩ (.float .f32 x)) B g cap (m.set k x):=by
 refine ⟨?_,fun y hy=>?_⟩
 ·have:=(h.1.stored k (.float .f32 x)).1
  rw [List.length_set]
  have e:fls (m.set k x)=(fls m).set k (.float .f32 x):=by unfold fls;rw [List.map_set]
  rw [e];exact this
 ·rcases List.mem_or_eq_of_mem_set hy with hy|hy
  ·exact h.2 y hy
  ·rw [hy];exact hx
theorem OwnF.at_ {w:World} {B g cap:Nat} {m:List Nat} (h:OwnF w B g cap m) {k:Nat} (hk:k<m.length):w.cell? ⟨g,k,none⟩=some (.float .f32 (m.getD k 0))∧w.frozen? ⟨g,k,none⟩=false:=by
 refine ⟨?_,h.1.frozenAt k⟩
 rw [h.1.cellAt k (by omega)]
 unfold fls
 rw [List.getElem?_map,List.getD_eq_getElem?_getD,List.getElem?_eq_getElem hk]
 rfl
theorem SRow.at_ {w:World} {b o:Nat} {l:List Nat} (h:SRow w (some ⟨b,o,none⟩) l) {k:Nat} (hk:k<l.length):w.cell? ⟨b,o+k,none⟩=some (.float .f32 (l.getD k 0)):=by
 rcases h.2 with h|⟨b',o',e,hc⟩
 ·subst h;simp at hk
 ·cases e;exact hc k hk
def upTo (φ:Nat→Nat) (l:List Nat) (k:Nat):List Nat:=(l.take k).map φ ++ l.drop k
theorem upTo_zero (φ:Nat→Nat) (l:List Nat):upTo φ l 0=l:=by simp [upTo]
theorem upTo_all (φ:Nat→Nat) (l:List Nat):upTo φ l l.length=l.map φ:=by simp [upTo]
theorem upTo_len (φ:Nat→Nat) (l:List Nat) (k:Nat):(upTo φ l k).length=l.length:=by
 unfold upTo;rw [List.length_append,List.length_map,List.length_take,List.length_drop];omega
theorem upTo_succ (φ:Nat→Nat) (l:List Nat) (k:Nat) (hk:k<l.length):(upTo φ l k).set k (φ (l.getD k 0))=upTo φ l (k+1):=by
 unfold upTo
 have h1:((l.take k).map φ).length=k:=by rw [List.length_map,List.length_take];omega
 have hd:=List.drop_eq_getElem_cons hk
 rw [List.set_append_right _ _ (by omega),h1,Nat.sub_self,List.take_succ_eq_append_getElem hk,List.map_append,List.append_assoc]
 rw [List.getD_eq_getElem?_getD,List.getElem?_eq_getElem hk,hd]
 rfl
structure EachInv (w wr:World) (k5 g cap:Nat) (X Y W H:Int) (n:Nat) (m:List Nat):Prop where
 fc:Fld wr k5 X Y W H (.slice (some ⟨g,0,none⟩) n cap)
 fb:Fld wr (w.heap.size+1) 0 0 0 0 (.slice none 0 0)
 own:OwnF wr w.heap.size g cap m
 below:Below w.heap.size w wr
theorem EachInv.store {w wr:World} {k5 g cap n:Nat} {X Y W H:Int} {m:List Nat} (h:EachInv w wr k5 g cap X Y W H n m) (hg:g≠k5) (hg1:w.heap.size+1<g) (k x:Nat) (hx:x<4294967296) :
  EachInv w (wr.setCell ⟨g,k,none⟩ (.float .f32 x)).drew k5 g cap X Y W H n (m.set k x):=
 ⟨(h.fc.setCell (p:=⟨g,k,none⟩) (Ne.symm hg) _).drew,(h.fb.setCell (p:=⟨g,k,none⟩) (by show w.heap.size+1≠g;omega) _).drew,(h.own.store k x hx).drew,(h.below.setCell (p:=⟨g,k,none⟩) (by show w.heap.size≤g;omega) _).drew⟩
set_option maxRecDepth 100000 in
set_option maxHeartbeats 2000000 in
theorem each_any (gn:Nat) (caps:Array Value) (φ:Nat→Nat) (X Y W H:Int) (b o c:Nat) (l:List Nat) (w:World) (hl:SRow w (some ⟨b,o,none⟩) l) (h0:l≠[])
  (eg:∀ args w,(callFunc gn args).run Tryz.prog w=.ok (.enter gn args) w) (hφ:∀ x∈l,φ x<4294967296)
  (hf:∀ x∈l,∀ W',Below w.heap.size w W'→Calls Tryz.prog gn (#[.float .f32 x] ++ caps) W' fun e w'=>e=.returned (.float .f32 (φ x))∧W'=w') :
  Calls Tryz.prog 97 #[fldV X Y W H (some ⟨b,o,none⟩) l.length c,.func (.func gn) #[] caps] w fun e w'=>NewF w.heap.size X Y W H (l.map φ) w e w':=by
 have HL:=Lib.hid hl
 have HF:=Lib.hid hf
 have HP:=Lib.hid hφ
 have H0:=Lib.hid h0
 have KC:=Lib.hid (fun w h=>copy_any X Y W H b o c l w h h0)
 clear hl hf hφ h0
 have HB0:Below w.heap.size w ((w.alloc (.cells #[.int .i64 X,.int .i64 Y,.int .i64 W,.int .i64 H,.slice (some ⟨b,o,none⟩) l.length c] 32)).alloc (.cells #[.int .i64 0,.int .i64 0,.int .i64 0,.int .i64 0,.slice none 0 0] 32)):=qBl
 have HB:=Lib.hid HB0
 clear HB0
 go_enter Tryz.func97,Tryz.ntmps97
 go_wp2_with fail
 refine (KC.out _ (HL.out.below HB.out)).mono ?_
 rintro e w1 ⟨g,cap,rfl,ho,hb⟩
 have FA:Fld w1 w.heap.size X Y W H (.slice (some ⟨b,o,none⟩) l.length c):=((Fld.new w X Y W H (.slice (some ⟨b,o,none⟩) l.length c)).alloc _).below hb (by simp;omega)
 have FB:Fld w1 (w.heap.size+1) 0 0 0 0 (.slice none 0 0):=by
  have:=(Fld.new (w.alloc (.cells #[.int .i64 X,.int .i64 Y,.int .i64 W,.int .i64 H,.slice (some ⟨b,o,none⟩) l.length c] 32)) 0 0 0 0 (.slice none 0 0)).below hb (by simp)
  simpa using this
 have B1:Below w.heap.size w w1:=HB.out.trans (hb.mono (by simp;omega))
 have O1:OwnF w1 w.heap.size g cap l:=ho.base (by simp;omega)
 have gl:w.heap.size+1<g:=by have:=ho.lt.1;simp at this;omega
 have zl:w.heap.size+1<w1.heap.size:=by have:=hb.size;simp at this;omega
 clear hb ho
 obtain ⟨a0,a1,a2,a3,a4⟩:=FA.cells
 have FAH:=Lib.hid FA
 have FBH:=Lib.hid FB
 have B1H:=Lib.hid B1
 have O1H:=Lib.hid O1
 clear FA FB B1 O1
 have ltq0:w.heap.size<w1.heap.size:=by omega
 have ltq1:w.heap.size+1<w1.heap.size:=by omega
 go_wp2_with fail
 generalize hW2:w1.alloc (.cells #[.int .i64 X,.int .i64 Y,.int .i64 W,.int .i64 H,.slice (some ⟨g,0,none⟩) l.length cap] 32)=W2 at *
 generalize hk5:w1.heap.size=k5 at *
 have FC:Fld W2 k5 X Y W H (.slice (some ⟨g,0,none⟩) l.length cap):=by subst hW2 hk5;exact Fld.new _ _ _ _ _ _
 have FB2:Fld W2 (w.heap.size+1) 0 0 0 0 (.slice none 0 0):=by subst hW2;exact FBH.out.alloc _
 have O2:OwnF W2 w.heap.size g cap l:=by subst hW2;exact O1H.out.alloc _
 have B2:Below w.heap.size w W2:=by subst hW2;exact B1H.out.alloc (by omega) _
 have gk:g≠k5:=by have:=O1H.out.lt.2;omega
 clear hW2 a0 a1 a2 a3 a4 FAH FBH B1H O1H
 have I0:EachInv w W2 k5 g cap X Y W H l.length (upTo φ l 0):=⟨FC,FB2,by rw [upTo_zero];exact O2,B2⟩
 clear FC FB2 O2 B2
 have hlen:Hid (l.length≤1099511627776):=HL.out.1.1
 have hl2:=hlen.out
 go_loopw [6,7,13] (fun _ _ i wr=>∃ k:Nat,k≤l.length∧i=.int .i64 k∧EachInv w wr k5 g cap X Y W H l.length (upTo φ l k)) (fun _ _ i _=>l.length-(intOf i).toNat)
 case atStart=>exact ⟨0,by omega,rfl,I0⟩
 case round =>
  clear I0
  obtain ⟨k,hk,rfl,I⟩:=hrel
  by_cases hlt:k<l.length
  ·have hcell:=(HL.out.below I.below).at_ hlt
   have howc:=(I.own.at_ (k:=k) (by rw [upTo_len];exact hlt))
   have hxm:Hid (l.getD k 0∈l):=by
    unfold Hid
    rw [List.getD_eq_getElem?_getD,List.getElem?_eq_getElem hlt];exact List.getElem_mem hlt
   have hst:Hid (EachInv w (wr.setCell ⟨g,k,none⟩ (.float .f32 (φ (l.getD k 0)))).drew k5 g cap X Y W H l.length (upTo φ l (k+1))):=by
    have:=I.store gk gl k (φ (l.getD k 0)) (HP.out _ hxm.out)
    rw [upTo_succ φ l k hlt] at this
    exact this
   have hcall:Hid (∀ W',Below w.heap.size w W'→Calls Tryz.prog gn (#[.float .f32 (l.getD k 0)] ++ caps) W' fun e w'=>e=.returned (.float .f32 (φ (l.getD k 0)))∧W'=w'):=HF.out _ hxm.out
   have c4:=I.fc.cells.2.2.2.2
   have IB:=Lib.hid I.below
   obtain ⟨hown,hfro⟩:=howc
   clear I hxm
   generalize l.getD k 0=x at *
   generalize φ x=y at *
   generalize (upTo φ l k).getD k 0=z at *
   go_wp2_with fail
   go_region_with (go_at_fn gn;refine (hcall.out _ IB.out.drew).mono ?_;rintro e2 w2 ⟨rfl,rfl⟩)
   all_goals
    go_wp2
    go_roundw
    case rel=>exact ⟨k+1,by omega,by go_num,hst.out⟩
    case measure=>simp [intOf];omega
  ·have hke:k=l.length:=by omega
   have FI:=Lib.hid (hke ▸ I)
   clear hke
   have FC:=FI.out.fc
   obtain ⟨c0,c1,c2,c3,c4⟩:=FC.cells
   have FB:=FI.out.fb
   obtain ⟨d0,d1,d2,d3,d4⟩:=FB.cells
   have qf0:=FB.frozen 0
   have qf1:=FB.frozen 1
   have qf2:=FB.frozen 2
   have qf3:=FB.frozen 3
   have qf4:=FB.frozen 4
   have BW:=FI.out.below
   have OW:=FI.out.own
   clear FC FB I
   have BH:=Lib.hid BW
   have OH:=Lib.hid OW
   clear BW OW
   go_wp2
   have B2:=BH.out
   have O2:=OH.out
   rw [upTo_all] at O2
   refine bodyPost_ret (v:=fldV X Y W H (some ⟨g,0,none⟩) (l.map φ).length cap) (by simp [results,Tryz.results97,go_sem, *]) rfl ⟨g,cap,rfl,(by have hgg:=O2.lt;repeat (first|with_reducible exact O2|with_reducible refine OwnF.drew ?_|with_reducible refine OwnF.drewN ?_ _|(with_reducible refine OwnF.setCell ?_ ?_ _;rotate_left;focus (first|omega|(simp<;>omega)))|with_reducible refine OwnF.alloc ?_ _)),(qBo B2)⟩
end Go.Proofs.YtmggflgdoioajaaGreat
namespace Go.Proofs.YtmggflgdoioajaaGreat
open Go.ChangeShapes Go.WideShapes Go.ChangeAt Go.RowKit
open Ieee.Format (fin finE htE allFin allHt all_true all_false finE_ok finE_bad htE_ok htE_far htE_bad mulF subF addF)
theorem result_ok (X Y W H:Int) (b o c:Nat) (l:List Nat) (w:World) (hl:SRow w (some ⟨b,o,none⟩) l) (hh:∀ j,j<l.length→(l.getD j 0)%2147483648≤1233125376) :
  Calls Tryz.prog 91 #[fldV X Y W H (some ⟨b,o,none⟩) l.length c] w fun e w'=>e=.returned (.tuple #[fldV X Y W H (some ⟨b,o,none⟩) l.length c,.int .i64 0])∧Below w.heap.size w w':=by
 have HL:=Lib.hid hl
 have HH:=Lib.hid hh
 have hlen:=hl.1.1
 clear hl hh
 go_enter Tryz.func91,Tryz.ntmps91
 go_wp2_with fail
 generalize hW0:(w.alloc (.cells #[.int .i64 X,.int .i64 Y,.int .i64 W,.int .i64 H,.slice (some ⟨b,o,none⟩) l.length c] 32)).alloc (.cells #[.int .i64 0,.int .i64 0,.int .i64 0,.int .i64 0,.slice none 0 0] 32)=W0 at *
 obtain ⟨FA,FB,B0,hz⟩:=two_fields w X Y W H (.slice (some ⟨b,o,none⟩) l.length c) W0 hW0.symm
 clear hW0
 have HFA:=Lib.hid FA
 have HFB:=Lib.hid FB
 have HB:=Lib.hid B0
 have HL0:Hid (SRow W0 (some ⟨b,o,none⟩) l):=HL.out.below B0
 clear FA FB B0 hz
 go_loop [5,9] (fun _ i=>∃ k:Nat,k≤l.length∧i=.int .i64 k) (fun _ i=>l.length-(intOf i).toNat)
 case atStart=>exact ⟨0,by omega,rfl⟩
 case round =>
  obtain ⟨k,hk,rfl⟩:=hrel
  by_cases hlt:k<l.length
  ·have hcell:=HL0.out.at_ hlt
   have hx:=HH.out k hlt
   generalize l.getD k 0=x at *
   have KH:=Lib.hid (fun w=>height_any x w)
   rw [show decide (x%2147483648≤1233125376)=true from decide_eq_true hx] at KH
   clear hx
   go_wp2_with (go_at_call 38;refine (KH.out _).mono ?_;rintro e w' ⟨rfl,rfl⟩)
   go_round
   case rel=>exact ⟨k+1,by omega,by go_num⟩
   case measure=>simp [intOf];omega
  ·have FA:=HFA.out
   have FB:=HFB.out
   obtain ⟨c0,c1,c2,c3,c4⟩:=FA.cells
   obtain ⟨d0,d1,d2,d3,d4⟩:=FB.cells
   have qf0:=FB.frozen 0
   have qf1:=FB.frozen 1
   have qf2:=FB.frozen 2
   have qf3:=FB.frozen 3
   have qf4:=FB.frozen 4
   clear FA FB
   go_wp2
   have B2:=HB.out
   exact bodyPost_ret (v:=.tuple #[fldV X Y W H (some ⟨b,o,none⟩) l.length c,.int .i64 0]) (by simp [results,Tryz.results91,go_sem, *]) rfl ⟨rfl,(qBo B2)⟩
theorem result_no (X Y W H:Int) (b o c:Nat) (l:List Nat) (w:World) (hl:SRow w (some ⟨b,o,none⟩) l) (hh:allHt l=false) :
  Calls Tryz.prog 91 #[fldV X Y W H (some ⟨b,o,none⟩) l.length c] w fun e w'=>e=.returned (.tuple #[fldV 0 0 0 0 none 0 0,.int .i64 3])∧Below w.heap.size w w':=by
 have HL:=Lib.hid hl
 have HH:=Lib.hid hh
 have hlen:=hl.1.1
 clear hl hh
 go_enter Tryz.func91,Tryz.ntmps91
 go_wp2_with fail
 generalize hW0:(w.alloc (.cells #[.int .i64 X,.int .i64 Y,.int .i64 W,.int .i64 H,.slice (some ⟨b,o,none⟩) l.length c] 32)).alloc (.cells #[.int .i64 0,.int .i64 0,.int .i64 0,.int .i64 0,.slice none 0 0] 32)=W0 at *
 obtain ⟨FA,FB,B0,hz⟩:=two_fields w X Y W H (.slice (some ⟨b,o,none⟩) l.length c) W0 hW0.symm
 clear hW0
 have HFB:=Lib.hid FB
 have HB:=Lib.hid B0
 have HL0:Hid (SRow W0 (some ⟨b,o,none⟩) l):=HL.out.below B0
 clear FA FB B0 hz
 go_loop [5,9] (fun _ i=>∃ k:Nat,k≤l.length∧i=.int .i64 k∧∀ j,j<k→(l.getD j 0)%2147483648≤1233125376) (fun _ i=>l.length-(intOf i).toNat)
 case atStart=>exact ⟨0,by omega,rfl,by omega⟩
 case round =>
  obtain ⟨k,hk,rfl,hf⟩:=hrel
  have HF:=Lib.hid hf
  clear hf
  by_cases hlt:k<l.length
  ·have hcell:=HL0.out.at_ hlt
   by_cases hx:(l.getD k 0)%2147483648≤1233125376
   ·have HX:=Lib.hid hx
    have HE:Hid (∀ j,j<k+1→(l.getD j 0)%2147483648≤1233125376):=fun j hj=>by
     by_cases c:j=k
     ·subst c;exact HX.out
     ·exact HF.out j (by omega)
    clear HX
    generalize l.getD k 0=x at *
    have KH:=Lib.hid (fun w=>height_any x w)
    rw [show decide (x%2147483648≤1233125376)=true from decide_eq_true hx] at KH
    clear hx
    go_wp2_with (go_at_call 38;refine (KH.out _).mono ?_;rintro e w' ⟨rfl,rfl⟩)
    go_round
    case rel=>exact ⟨k+1,by omega,by go_num,HE.out⟩
    case measure=>simp [intOf];omega
   ·generalize l.getD k 0=x at *
    have KH:=Lib.hid (fun w=>height_any x w)
    rw [show decide (x%2147483648≤1233125376)=false from decide_eq_false hx] at KH
    clear hx
    have FB:=HFB.out
    obtain ⟨d0,d1,d2,d3,d4⟩:=FB.cells
    have qf0:=FB.frozen 0
    have qf1:=FB.frozen 1
    have qf2:=FB.frozen 2
    have qf3:=FB.frozen 3
    have qf4:=FB.frozen 4
    clear FB
    go_wp2_with (go_at_call 38;refine (KH.out _).mono ?_;rintro e w' ⟨rfl,rfl⟩)
    have B2:=HB.out
    exact bodyPost_ret (v:=.tuple #[fldV 0 0 0 0 none 0 0,.int .i64 3]) (by simp [results,Tryz.results91,go_sem, *]) rfl ⟨rfl,(qBo B2)⟩
  ·have hke:k=l.length:=by omega
   have hall:=all_true (p:=fun x=>x%2147483648≤1233125376) (l:=l) (by rw [←hke];exact HF.out)
   have:allHt l=true:=hall
   rw [HH.out] at this
   cases this
end Go.Proofs.YtmggflgdoioajaaGreat
namespace Go.Proofs.YtmggflgdoioajaaGreat
open Go.ChangeShapes Go.WideShapes Go.ChangeAt Go.RowKit
open Ieee.Format (fin finE htE allFin allHt all_true all_false finE_ok finE_bad htE_ok htE_far htE_bad mulF subF addF)
theorem ret_f32 {a b:Nat} (h:a=b):Ending.returned (.float .f32 a)=.returned (.float .f32 b):=by rw [h]
def cellNo (X Y W x y:Int):Int:=(y-Y)*W+x-X
theorem cellNo_in {X Y W H x y:Int} (h1:1≤W) (h2:W≤512) (h3:1≤H) (h4:H≤512) (hx:X≤x) (hx':x<X+W) (hy:Y≤y) (hy':y<Y+H) :
  0≤(y-Y)*W∧(y-Y)*W≤262144∧0≤cellNo X Y W x y∧cellNo X Y W x y<W*H:=by
 have a:=Int.mul_nonneg (show 0≤y-Y by omega) (show 0≤W by omega)
 have b:=Int.mul_le_mul (show y-Y≤511 by omega) h2 (by omega) (by omega)
 have c:=Int.mul_le_mul_of_nonneg_right (show y-Y≤H-1 by omega) (show 0≤W by omega)
 have d:(H-1)*W=W*H-W:=by rw [Int.sub_mul,Int.one_mul,Int.mul_comm]
 unfold cellNo
 refine ⟨a,by omega,by omega,by omega⟩
set_option maxHeartbeats 1000000 in
theorem refat_any (X Y W H x y:Int) (b o c:Nat) (l:List Nat) (w:World) (hl:SRow w (some ⟨b,o,none⟩) l) (hn:(l.length:Int)=W*H) (h1:1≤W) (h2:W≤512) (h3:1≤H) (h4:H≤512)
  (h5:-8388608≤X) (h6:X≤8388608) (h7:-8388608≤Y) (h8:Y≤8388608) (hx:X≤x) (hx':x<X+W) (hy:Y≤y) (hy':y<Y+H) :
  Calls Tryz.prog 23 #[fldV X Y W H (some ⟨b,o,none⟩) l.length c,.int .i64 x,.int .i64 y] w fun e w'=>e=.returned (.float .f32 (l.getD (cellNo X Y W x y).toNat 0))∧Below w.heap.size w w':=by
 obtain ⟨m0,m1,m2,m3⟩:=cellNo_in h1 h2 h3 h4 hx hx' hy hy'
 have ha:Below w.heap.size w (w.alloc (.cells #[.int .i64 X,.int .i64 Y,.int .i64 W,.int .i64 H,.slice (some ⟨b,o,none⟩) l.length c] 32)):=qBl
 have hcell:=(hl.below ha).at_ (k:=(cellNo X Y W x y).toNat) (by omega)
 have e:cellNo X Y W x y=(y-Y)*W+x-X:=rfl
 have HE:Hid (l.getD (cellNo X Y W x y).toNat 0=l.getD ((y-Y)*W+x-X).toNat 0):=rfl
 rw [e] at m2 m3 hcell
 have i1:(y-Y)*W+x-X<(l.length:Int):=by omega
 have i2:0≤y-Y:=by omega
 have i3:y-Y≤512:=by omega
 have i4:x≤8389120:=by omega
 have i5:-8388608≤x:=by omega
 have i6:y≤8389120:=by omega
 have i7:-8388608≤y:=by omega
 have HA:=Lib.hid ha
 clear e hn ha hl m3
 generalize l.getD ((y-Y)*W+x-X).toNat 0=z at *
 go_enter Tryz.func23,Tryz.ntmps23
 go_wp2_with fail
 go_ret
 exact ⟨ret_f32 HE.out.symm,HA.out⟩
theorem bitsfn_any (a b:Nat) (w:World):Calls Tryz.prog 19 #[.float .f32 a,.float .f32 b] w fun e w'=>e=.returned (.bool (decide (a=b)))∧w=w':=by
 have ka:=fun w=>run_f32bits a w
 have kb:=fun w=>run_f32bits b w
 go_enter Tryz.func19,Tryz.ntmps19
 go_wp2
 go_ret
 exact ⟨congrArg (fun b=>Ending.returned (.bool b)) (beq_cast a b),rfl⟩
theorem list_eq_of {l m:List Nat} (hn:l.length=m.length) (h:∀ j,j<l.length→l.getD j 0=m.getD j 0):l=m:=by
 refine List.ext_getElem hn fun i h1 h2=>?_
 have:=h i h1
 rwa [List.getD_eq_getElem?_getD,List.getD_eq_getElem?_getD,List.getElem?_eq_getElem h1,List.getElem?_eq_getElem h2] at this
set_option maxHeartbeats 1000000 in
theorem eqfunc_any (b o c b' o' c':Nat) (l m:List Nat) (w:World) (hl:SRow w (some ⟨b,o,none⟩) l) (hm:SRow w (some ⟨b',o',none⟩) m) :
  Calls Tryz.prog 18 #[.slice (some ⟨b,o,none⟩) l.length c,.slice (some ⟨b',o',none⟩) m.length c',.func (.func 19) #[] #[]] w fun e w'=>e=.returned (.bool (decide (l=m)))∧w=w':=by
 have HL:=Lib.hid hl
 have HM:=Lib.hid hm
 have l1:=hl.1.1
 have l2:=hm.1.1
 clear hl hm
 by_cases hn:l.length=m.length
 ·have HN:=Lib.hid hn
  have hb:((l.length:Int) != (m.length:Int))=false:=by rw [bne_eq_false_iff_eq];omega
  have HR:Hid (∀ r,r=decide (l=m)→Ending.returned (.bool r)=.returned (.bool (decide (l=m)))):=fun r hr=>by rw [hr]
  have hgl:m.length≤l.length:=by omega
  have hgm:l.length≤m.length:=by omega
  clear hn
  go_enter Tryz.func18,Tryz.ntmps18
  go_wp2
  go_loop [7,8,9,17] (fun _ _ _ i=>∃ k:Nat,k≤l.length∧i=.int .i64 k∧∀ j,j<k→l.getD j 0=m.getD j 0) (fun _ _ _ i=>l.length-(intOf i).toNat)
  case atStart=>exact ⟨0,by omega,rfl,by omega⟩
  case round =>
   obtain ⟨k,hk,rfl,hf⟩:=hrel
   have HF:=Lib.hid hf
   clear hf
   by_cases hlt:k<l.length
   ·have hlt2:k<m.length:=by omega
    have hc1:=HL.out.at_ hlt
    have hc2:=HM.out.at_ hlt2
    by_cases hx:l.getD k 0=m.getD k 0
    ·have HE:Hid (∀ j,j<k+1→l.getD j 0=m.getD j 0):=by
      have HX:=hx
      intro j hj
      by_cases c:j=k
      ·subst c;exact HX
      ·exact HF.out j (by omega)
     rw [←hx] at hc2
     clear hx
     generalize l.getD k 0=x at *
     have KB:=Lib.hid (fun w=>bitsfn_any x x w)
     rw [show decide (x=x)=true from decide_eq_true rfl] at KB
     go_wp2_with (go_at_call 19;refine (KB.out _).mono ?_;rintro e w' ⟨rfl,rfl⟩)
     go_round
     case rel=>exact ⟨k+1,by omega,by go_num,HE.out⟩
     case measure=>simp [intOf];omega
    ·have HE:Hid (false=decide (l=m)):=by
      refine (decide_eq_false ?_).symm
      rintro rfl
      exact hx rfl
     have KB:=Lib.hid (fun w=>bitsfn_any (l.getD k 0) (m.getD k 0) w)
     rw [show decide (l.getD k 0=m.getD k 0)=false from decide_eq_false hx] at KB
     clear hx
     generalize l.getD k 0=x at *
     generalize m.getD k 0=y at *
     go_wp2_with (go_at_call 19;refine (KB.out _).mono ?_;rintro e w' ⟨rfl,rfl⟩)
     go_ret
     exact ⟨HR.out _ HE.out,rfl⟩
   ·exact qx69
 ·exact qx47
end Go.Proofs.YtmggflgdoioajaaGreat
namespace Go.Proofs.YtmggflgdoioajaaGreat
open Go.ChangeShapes Go.WideShapes Go.ChangeAt Go.RowKit
open Ieee.Format (fin finE htE allFin allHt all_true all_false finE_ok finE_bad htE_ok htE_far htE_bad mulF subF addF)
end Go.Proofs.YtmggflgdoioajaaGreat
namespace Go.Proofs.YtmggflgdoioajaaGreat
open Go.ChangeShapes Go.WideShapes Go.ChangeAt Go.RowKit
open Ieee.Format (fin finE htE allFin allHt all_true all_false finE_ok finE_bad htE_ok htE_far htE_bad mulF subF addF)
def Reg (w:World) (k:Nat) (X Y W H:Int):Prop:=w.heap[k]?=some (.cells #[.int .i64 X,.int .i64 Y,.int .i64 W,.int .i64 H] 26 (0,0))
section
variable {w w':World} {k:Nat} {X Y W H:Int}
theorem Reg.lt (h:Reg w k X Y W H):k<w.heap.size:=by
 rcases Nat.lt_or_ge k w.heap.size with hlt|hge
 ·exact hlt
 ·unfold Reg at h;rw [Array.getElem?_eq_none hge] at h;cases h
theorem Reg.cell (h:Reg w k X Y W H) (i:Nat):w.cell? ⟨k,i,none⟩=(#[.int .i64 X,.int .i64 Y,.int .i64 W,.int .i64 H]:Array Value)[i]?:=cell_of_row w k i _ _ _ h
theorem Reg.cells (h:Reg w k X Y W H):w.cell? ⟨k,0,none⟩=some (.int .i64 X)∧w.cell? ⟨k,1,none⟩=some (.int .i64 Y)∧w.cell? ⟨k,2,none⟩=some (.int .i64 W)∧w.cell? ⟨k,3,none⟩=some (.int .i64 H):=
 ⟨h.cell 0,h.cell 1,h.cell 2,h.cell 3⟩
theorem Reg.below {B:Nat} (h:Reg w k X Y W H) (hb:Below B w w') (hk:k<B):Reg w' k X Y W H:=(hb.block k hk).trans h
theorem Reg.new (w:World) (X Y W H:Int):Reg (w.alloc (.cells #[.int .i64 X,.int .i64 Y,.int .i64 W,.int .i64 H] 26)) w.heap.size X Y W H:=heap_alloc_new w _
theorem Reg.alloc (h:Reg w k X Y W H) (o:Obj):Reg (w.alloc o) k X Y W H:=(Below.heap_alloc w o k h.lt).trans h
theorem Reg.drew (h:Reg w k X Y W H):Reg w.drew k X Y W H:=h
theorem Reg.setCell (h:Reg w k X Y W H) {p:Addr} (hp:k≠p.block) (u:Value):Reg (w.setCell p u) k X Y W H:=(Below.heap_setCell w p u k hp).trans h
theorem Reg.grown {row:Option Nat} (h:Reg w k X Y W H) (hb:w.grownBy w' row) (hg:some k≠row):Reg w' k X Y W H:=(hb.block k h.lt hg).trans h
end
def madeL (ψ:Int→Int→Nat) (X Y:Int) (W n:Nat):List Nat:=(List.range n).map fun k=>ψ (X+((k%W:Nat):Int)) (Y+((k / W:Nat):Int))
theorem madeL_len (ψ:Int→Int→Nat) (X Y:Int) (W n:Nat):(madeL ψ X Y W n).length=n:=by simp [madeL]
theorem madeL_succ (ψ:Int→Int→Nat) (X Y:Int) (W i j:Nat) (hi:i<W):madeL ψ X Y W (j*W+i+1)=madeL ψ X Y W (j*W+i) ++ [ψ (X+(i:Int)) (Y+(j:Int))]:=by
 have h1:(j*W+i)%W=i:=by rw [Nat.mul_comm,Nat.mul_add_mod,Nat.mod_eq_of_lt hi]
 have h2:(j*W+i) / W=j:=by rw [Nat.mul_comm,Nat.mul_add_div (by omega),Nat.div_eq_of_lt hi];rfl
 unfold madeL
 rw [List.range_succ,List.map_append,List.map_singleton,h1,h2]
structure MadeInv (w wr:World) (X Y W H:Int) (v:Value) (m:List Nat):Prop where
 rg:Reg wr w.heap.size X Y W H
 rz:Fld wr (w.heap.size+1) 0 0 0 0 (.slice none 0 0)
 fo:Fld wr (w.heap.size+1+1) X Y W H v
 own:wr.ownsRow (w.heap.size+3) 48 1 v m.length (fls m)
 wf:∀ x∈m,x<4294967296
 below:Below w.heap.size w wr
theorem ownsRow_below {w w':World} {B B' size n:Nat} {e:TypeId} {v:Value} {xs:List Value} (h:w.ownsRow B e size v n xs) (hb:Below B' w w') (hg:∀ k,v.ownBlock=some k→k<B'):w'.ownsRow B e size v n xs:=by
 refine ⟨h.1,?_⟩
 rcases h.2 with h2|⟨g,cap,cur,rfl,hB,hh,r⟩
 ·exact .inl h2
 ·exact .inr ⟨g,cap,cur,rfl,hB,(hb.block g (hg g rfl)).trans hh,r⟩
theorem MadeInv.call {w wr w2:World} {X Y W H:Int} {v:Value} {m:List Nat} (h:MadeInv w wr X Y W H v m) (hb:Below wr.drew.heap.size wr.drew w2):MadeInv w w2 X Y W H v m:=
 ⟨h.rg.drew.below hb h.rg.lt,h.rz.drew.below hb h.rz.lt,h.fo.drew.below hb h.fo.lt,ownsRow_below (w:=wr.drew) h.own hb (fun k hk=>(h.own.lt k hk).2),h.wf,
  (h.below.drew).trans (hb.mono (show w.heap.size≤wr.heap.size from h.below.size))⟩
theorem MadeInv.mid {w w2 w3:World} {X Y W H:Int} {v:Value} {m:List Nat} {o:Obj} (h:MadeInv w w2 X Y W H v m) (hg:(w2.alloc o).grownBy w3 v.ownBlock) :
  Reg w3 w.heap.size X Y W H∧Fld w3 (w.heap.size+1) 0 0 0 0 (.slice none 0 0)∧Fld w3 (w.heap.size+1+1) X Y W H v∧Below w.heap.size w w3:=by
 have hne:∀ k,k<w.heap.size+3→some k≠v.ownBlock:=fun k hk e=>by
  have:=(h.own.lt k e.symm).1;omega
 refine ⟨(h.rg.alloc o).grown hg (hne _ (by omega)),(h.rz.alloc o).grown hg (hne _ (by omega)),(h.fo.alloc o).grown hg (hne _ (by omega)),?_⟩
 have hz:=h.below.size
 refine (h.below.alloc hz o).grown hg (by simp;omega) (fun k hk=>?_)
 have:=(h.own.lt k hk).1
 omega
theorem MadeInv.app {w w2 w3:World} {X Y W H:Int} {v:Value} {m:List Nat} {o:Obj} (h:MadeInv w w2 X Y W H v m) {y g cap:Nat} (hy:y<4294967296)
  (hown:w3.ownsRow (w.heap.size+3) 48 1 (.slice (some ⟨g,0,none⟩) (m.length+1) cap) (m.length+1) (fls m ++ [.float .f32 y])) (hg:(w2.alloc o).grownBy w3 v.ownBlock) :
  MadeInv w (w3.setCell ⟨w.heap.size+1+1,4,none⟩ (.slice (some ⟨g,0,none⟩) (m.length+1) cap)) X Y W H (.slice (some ⟨g,0,none⟩) (m.length+1) cap) (m ++ [y]):=by
 obtain ⟨a,b,c,d⟩:=h.mid hg
 have hgl:=(hown.lt g rfl).1
 refine ⟨a.setCell (by show w.heap.size≠w.heap.size+1+1;omega) _,b.setCell (by show w.heap.size+1≠w.heap.size+1+1;omega) _,c.set4 _,?_,?_,d.setCell (by show w.heap.size≤w.heap.size+1+1;omega) _⟩
 ·have e:fls (m ++ [y])=fls m ++ [.float .f32 y]:=by unfold fls;simp
  have e2:(m ++ [y]).length=m.length+1:=by simp
  rw [e,e2]
  refine ⟨hown.1,?_⟩
  rcases hown.2 with h2|⟨g',cap',cur,hv,hB,hh,r⟩
  ·exact .inl h2
  ·have:g'=g:=by simp at hv;exact hv.1.symm
   subst this
   exact .inr ⟨g',cap',cur,hv,hB,(Below.heap_setCell w3 _ _ g' (by show g'≠w.heap.size+1+1;omega)).trans hh,r⟩
 ·exact qx62
end Go.Proofs.YtmggflgdoioajaaGreat
namespace Go.Proofs.YtmggflgdoioajaaGreat
open Go.ChangeShapes Go.WideShapes Go.ChangeAt Go.RowKit
open Ieee.Format (fin finE htE allFin allHt all_true all_false finE_ok finE_bad htE_ok htE_far htE_bad mulF subF addF)
theorem made_start (w:World) (X Y W H:Int):∀ W0,W0=((w.alloc (.cells #[.int .i64 X,.int .i64 Y,.int .i64 W,.int .i64 H] 26)).alloc (.cells #[.int .i64 0,.int .i64 0,.int .i64 0,.int .i64 0,.slice none 0 0] 32)).alloc (.cells #[.int .i64 X,.int .i64 Y,.int .i64 W,.int .i64 H,.slice none 0 0] 32)→MadeInv w W0 X Y W H (.slice none 0 0) []:=by
 rintro _ rfl
 refine ⟨((Reg.new w X Y W H).alloc _).alloc _,?_,?_,World.ownsRow_nil _ _ _ _,by simp,qBl⟩
 ·have:=(Fld.new (w.alloc (.cells #[.int .i64 X,.int .i64 Y,.int .i64 W,.int .i64 H] 26)) 0 0 0 0 (.slice none 0 0)).alloc (.cells #[.int .i64 X,.int .i64 Y,.int .i64 W,.int .i64 H,.slice none 0 0] 32)
  simpa using this
 ·have:=Fld.new ((w.alloc (.cells #[.int .i64 X,.int .i64 Y,.int .i64 W,.int .i64 H] 26)).alloc (.cells #[.int .i64 0,.int .i64 0,.int .i64 0,.int .i64 0,.slice none 0 0] 32)) X Y W H (.slice none 0 0)
  simpa using this
def MadeP (X Y W H:Int) (m:List Nat) (w:World) (e:Ending) (w':World):Prop:=
 (outE m=0→∃ g cap,e=.returned (.tuple #[fldV X Y W H (some ⟨g,0,none⟩) m.length cap,.int .i64 0])∧OwnF w' w.heap.size g cap m) ∧
 (outE m≠0→e=.returned (.tuple #[fldV 0 0 0 0 none 0 0,.int .i64 3]))∧Below w.heap.size w w'
set_option maxRecDepth 100000 in
set_option maxHeartbeats 4000000 in
theorem made_any (gn:Nat) (caps:Array Value) (ψ:Int→Int→Nat) (X Y:Int) (Wn Hn:Nat) (w:World) (h1:1≤Wn) (h2:Wn≤512) (h3:1≤Hn) (h4:Hn≤512)
  (h5:-8388608≤X) (h6:X≤8388608) (h7:-8388608≤Y) (h8:Y≤8388608)
  (eg:∀ args w,(callFunc gn args).run Tryz.prog w=.ok (.enter gn args) w)
  (hψ:∀ x y,X≤x→x<X+Wn→Y≤y→y<Y+Hn→ψ x y<4294967296)
  (hf:∀ x y,X≤x→x<X+Wn→Y≤y→y<Y+Hn→∀ W',Below w.heap.size w W'→Calls Tryz.prog gn (#[.int .i64 x,.int .i64 y] ++ caps) W' fun e w'=>e=.returned (.float .f32 (ψ x y))∧Below W'.heap.size W' w') :
  Calls Tryz.prog 21 #[reg X Y Wn Hn,.func (.func gn) #[] caps] w fun e w'=>MadeP X Y Wn Hn (madeL ψ X Y Wn (Hn*Wn)) w e w':=by
 have HF:=Lib.hid hf
 have HP:=Lib.hid hψ
 clear hf hψ
 obtain ⟨i0,hi,hz0,hz1,hz2⟩:=info_parts info24
 go_enter Tryz.func21,Tryz.ntmps21
 go_wp2
 generalize hW0:((w.alloc (.cells #[.int .i64 X,.int .i64 Y,.int .i64 Wn,.int .i64 Hn] 26)).alloc (.cells #[.int .i64 0,.int .i64 0,.int .i64 0,.int .i64 0,.slice none 0 0] 32)).alloc (.cells #[.int .i64 X,.int .i64 Y,.int .i64 Wn,.int .i64 Hn,.slice none 0 0] 32)=W0 at *
 have I0:=made_start w X Y Wn Hn W0 hW0.symm
 clear hW0
 go_loopw [7,8] (fun vy _ wr=>∃ j:Nat,j≤Hn∧vy=.int .i64 (Y+j)∧∃ v,MadeInv w wr X Y Wn Hn v (madeL ψ X Y Wn (j*Wn))) (fun vy _ _=>(Y+Hn-intOf vy).toNat)
 case atStart=>exact ⟨0,by omega,by simp,_,by rw [Nat.zero_mul];exact I0⟩
 case round =>
  clear I0
  obtain ⟨j,hj,rfl,v,I⟩:=hrel
  have IH:=Lib.hid I
  obtain ⟨r0,r1,r2,r3⟩:=I.rg.cells
  clear I
  by_cases hlt:j<Hn
  ·have b1:(Y+j:Int)<Y+Hn:=by omega
   go_wp2
   obtain ⟨wo,rfl⟩:∃ wo:World,wo=wr:=⟨_,rfl⟩
   clear r0 r1 r2 r3 hj
   go_loopw [8] (fun vx wi=>∃ i:Nat,i≤Wn∧vx=.int .i64 (X+i)∧∃ v,MadeInv w wi X Y Wn Hn v (madeL ψ X Y Wn (j*Wn+i))) (fun vx _=>(X+Wn-intOf vx).toNat)
   case atStart=>exact ⟨0,by omega,by simp,v,by rw [Nat.add_zero];exact IH.out⟩
   case round =>
    clear IH v
    obtain ⟨i,hi',rfl,v,I⟩:=hrel
    obtain ⟨r0,r1,r2,r3⟩:=I.rg.cells
    have c4:=I.fo.cells.2.2.2.2
    have IH:=Lib.hid I
    clear I
    by_cases hlt2:i<Wn
    ·have b2:(X+i:Int)<X+Wn:=by omega
     have HC:Hid (∀ W',Below w.heap.size w W'→Calls Tryz.prog gn (#[.int .i64 (X+(i:Int)),.int .i64 (Y+(j:Int))] ++ caps) W' fun e w'=>e=.returned (.float .f32 (ψ (X+(i:Int)) (Y+(j:Int))))∧Below W'.heap.size W' w'):=HF.out _ _ (by omega) (by omega) (by omega) (by omega)
     have HY:Hid (ψ (X+(i:Int)) (Y+(j:Int))<4294967296):=HP.out _ _ (by omega) (by omega) (by omega) (by omega)
     have HM:Hid (madeL ψ X Y Wn (j*Wn+i) ++ [ψ (X+(i:Int)) (Y+(j:Int))]=madeL ψ X Y Wn (j*Wn+(i+1))):=(madeL_succ ψ X Y Wn i j hlt2).symm
     have hml:(madeL ψ X Y Wn (j*Wn+i)).length≤262656:=by
      rw [madeL_len]
      have:=Nat.mul_le_mul (show j≤512 by omega) h2
      omega
     generalize madeL ψ X Y Wn (j*Wn+i)=m at *
     generalize ψ (X+(i:Int)) (Y+(j:Int))=y0 at *
     have HB:=Lib.hid IH.out.below
     have G1:Hid (m.length+1≤maxLen):=by unfold maxLen Hid;omega
     have G2:Hid ((m.length+1)*4≤140737488355328):=by unfold Hid;omega
     go_wp2_with fail
     go_region_law (first
      | (refine step_append_lies _ (by rfl) _ _ _ (by rfl) (w.heap.size+3) 48 i0 (.float .f32 0) 1 4 Tryz.underlying30 hi hz0 hz1 hz2 rfl (by omega) v m.length (fls m) (by rfl) (I2.out.own.alloc _) ⟨w2.heap.size,0,none⟩ 1 1 [.float .f32 y0] (by rfl) (by rfl) (World.news_of_block (cs:=#[.float .f32 y0]) (t:=48) (fr:=(0,0)) (heap_alloc_new w2 _)) (by simp [Value.oneCell']) (by omega) G1.out G2.out G3.out (w2.heap.size+1) (by simp) ?_;intro gg cap w3 hown3 hgrow3 hat3 hlt3;obtain ⟨e1,e2,e3,e4⟩:=I2.out.mid hgrow3;have e5:=e3.cells.2.2.2.2;have e6:=e3.frozen 4;have M3:=Lib.hid (I2.out.app HY.out hown3 hgrow3);clear e1 e2 e3 e4 hown3 hgrow3 hat3 hlt3)
      | (go_simp;go_at_fn gn;refine (HC.out _ HB.out.drew).mono ?_;rintro e2 w2 ⟨rfl,hb⟩;have I2:=Lib.hid (IH.out.call hb);have G3:Hid (w.heap.size+3≤(w2.alloc (.cells #[.float .f32 y0] 48)).heap.size):=(by have:=I2.out.fo.lt;unfold Hid;simp;omega);have d4:=I2.out.fo.cells.2.2.2.2;have lz:w.heap.size+1+1<w2.heap.size:=I2.out.fo.lt;clear hb))
     all_goals
      go_wp2
      go_roundw
      case rel=>exact ⟨i+1,by omega,by go_num,_,HM.out ▸ M3.out⟩
      case measure=>simp [intOf];omega
    ·have HE:Hid (j*Wn+i=(j+1)*Wn):=by
      have:i=Wn:=by omega
      unfold Hid;rw [this,Nat.add_mul,Nat.one_mul]
     exact qx50
  ·have HE:Hid (j*Wn=Hn*Wn):=by
    have:j=Hn:=by omega
    unfold Hid;rw [this]
   have IH2:Hid (MadeInv w wr X Y Wn Hn v (madeL ψ X Y Wn (Hn*Wn))):=HE.out ▸ IH.out
   clear IH
   have hml:Hid ((madeL ψ X Y Wn (Hn*Wn)).length=Hn*Wn):=madeL_len _ _ _ _ _
   have hm1:Hid (1≤Hn*Wn):=Nat.mul_le_mul h3 h1
   have hm2:Hid (Hn*Wn≤262144):=Nat.mul_le_mul h4 h2
   generalize hmq:madeL ψ X Y Wn (Hn*Wn)=m at *
   have HMQ:=Lib.hid hmq
   clear hmq
   obtain ⟨g,cap,rfl,hown⟩:∃ g cap,v=.slice (some ⟨g,0,none⟩) m.length cap∧OwnF wr w.heap.size g cap m:=by
    have ho:=IH2.out.own
    rcases ho.2 with ⟨_,h0⟩|⟨g,cap,cur,rfl,hB,hh,r⟩
    ·exfalso
     have:=hml.out;have:=hm1.out;omega
    ·exact ⟨g,cap,rfl,OwnF.base ⟨ho,IH2.out.wf⟩ (by omega)⟩
   have HO:=Lib.hid hown
   have HR:Hid (SRow wr (some ⟨g,0,none⟩) m):=hown.row (by have:=hml.out;have:=hm2.out;omega)
   have hgk:Hid (w.heap.size+3≤g):=(IH2.out.own.lt g rfl).1
   clear hown
   obtain ⟨c0,c1,c2,c3,c4⟩:=IH2.out.fo.cells
   have FB:=IH2.out.rz
   obtain ⟨d0,d1,d2,d3,d4⟩:=FB.cells
   have qf0:=FB.frozen 0
   have qf1:=FB.frozen 1
   have qf2:=FB.frozen 2
   have qf3:=FB.frozen 3
   have qf4:=FB.frozen 4
   clear FB
   have HB:=Lib.hid IH2.out.below
   clear IH2
   have KO:=Lib.hid (fun w h=>out_any (some ⟨g,0,none⟩) cap m w h)
   by_cases he:outE m=0
   ·have HZ:=Lib.hid he
    rw [he] at KO
    clear he
    go_wp2_with fail
    refine (KO.out _ HR.out).mono ?_
    rintro e w2 ⟨rfl,rfl⟩
    go_wp2
    obtain rfl:=HMQ.out
    have B2:=HB.out
    have O2:=HO.out
    have hgk2:=hgk.out
    refine bodyPost_ret (v:=.tuple #[fldV X Y Wn Hn (some ⟨g,0,none⟩) (madeL ψ X Y Wn (Hn*Wn)).length cap,.int .i64 0]) (by simp [results,Tryz.results21,go_sem, *]) rfl ⟨fun _=>⟨g,cap,rfl,(by have hgg:=O2.lt;repeat (first|with_reducible exact O2|with_reducible refine OwnF.drew ?_|with_reducible refine OwnF.drewN ?_ _|(with_reducible refine OwnF.setCell ?_ ?_ _;rotate_left;focus (first|omega|(simp<;>omega)))|with_reducible refine OwnF.alloc ?_ _))⟩,fun h=>absurd HZ.out h,(qBo B2)⟩
   ·have HZ:=Lib.hid he
    have e3:outE m=3:=by
     unfold outE at he ⊢
     split
     ·rename_i h0;rw [if_pos h0] at he;exact absurd rfl he
     ·rfl
    rw [e3] at KO
    clear he e3
    go_wp2_with fail
    refine (KO.out _ HR.out).mono ?_
    rintro e w2 ⟨rfl,rfl⟩
    go_wp2
    obtain rfl:=HMQ.out
    have B2:=HB.out
    refine bodyPost_ret (v:=.tuple #[fldV 0 0 0 0 none 0 0,.int .i64 3]) (by simp [results,Tryz.results21,go_sem, *]) rfl ⟨fun h=>absurd h HZ.out,fun _=>rfl,(qBo B2)⟩
end Go.Proofs.YtmggflgdoioajaaGreat
namespace Go.Proofs.YtmggflgdoioajaaGreat
open Go.Shelf
open Go.ChangeShapes Go.WideShapes Go.ChangeAt Go.RowKit
open Ieee.Format (fin finE htE allFin allHt all_true all_false finE_ok finE_bad htE_ok htE_far htE_bad mulF subF addF Ht scaleF)
theorem madeL_map (φ:Nat→Nat) (X Y:Int) (Wn Hn:Nat) (l:List Nat) (h1:1≤Wn) (hl:l.length=Hn*Wn) :
  madeL (fun x y=>φ (l.getD (cellNo X Y Wn x y).toNat 0)) X Y Wn (Hn*Wn)=l.map φ:=by
 refine List.ext_getElem? fun k=>?_
 unfold madeL
 rw [List.getElem?_map,List.getElem?_map]
 by_cases hk:k<Hn*Wn
 ·have e:(cellNo X Y Wn (X+((k%Wn:Nat):Int)) (Y+((k / Wn:Nat):Int))).toNat=k:=by
   unfold cellNo
   have:=Nat.div_add_mod k Wn
   have h:(Y+((k / Wn:Nat):Int)-Y)*(Wn:Int)=((Wn*(k / Wn):Nat):Int):=by
    rw [show Y+((k / Wn:Nat):Int)-Y=((k / Wn:Nat):Int) from by omega,Int.natCast_mul,Int.mul_comm]
   rw [h]
   omega
  rw [List.getElem?_range hk,List.getElem?_eq_getElem (by omega),Option.map_some,Option.map_some]
  dsimp only
  rw [e,List.getD_eq_getElem?_getD,List.getElem?_eq_getElem (by omega)]
  rfl
 ·rw [List.getElem?_eq_none (by rw [List.length_range];omega),List.getElem?_eq_none (by omega)]
  rfl
def ResP (X Y W H:Int) (m:List Nat) (w:World) (e:Ending) (w':World):Prop:=
 (allHt m=true→∃ g cap,e=.returned (.tuple #[fldV X Y W H (some ⟨g,0,none⟩) m.length cap,.int .i64 0])∧OwnF w' w.heap.size g cap m) ∧
 (allHt m=false→e=.returned (.tuple #[fldV 0 0 0 0 none 0 0,.int .i64 3]))∧Below w.heap.size w w'
theorem MadeP.res {X Y W H:Int} {m:List Nat} {w:World} {e:Ending} {w':World} (h:MadeP X Y W H m w e w'):ResP X Y W H m w e w':=by
 refine ⟨fun hh=>h.1 ?_,fun hh=>h.2.1 ?_,h.2.2⟩
 ·unfold outE;rw [Ieee.Format.htE_of_ht hh];rfl
 ·unfold outE;rw [if_neg (Ieee.Format.htE_ne hh)];decide
theorem scalefn_any (x a b:Nat) (p q:Nat) (w:World) (ha:Ht a) (hb:Ht b) (hx:Ht x) (c1:w.cell? ⟨p,0,none⟩=some (.float .f32 a)) (c2:w.cell? ⟨q,0,none⟩=some (.float .f32 b)) :
  Calls Tryz.prog 98 #[.float .f32 x,.pointer (some ⟨p,0,none⟩),.pointer (some ⟨q,0,none⟩)] w fun e w'=>e=.returned (.float .f32 (scaleF a b x))∧w=w':=by
 obtain ⟨f1,f2⟩:=Ieee.Format.scale_fin ha hb hx
 have k1:=fun w=>run_float_arith (P:=Tryz.prog) w .mul 48 .f32 x a (mulF x a) (Ieee.Format.bits_mul hx.fin ha.fin)
 have k2:=fun w=>run_float_arith (P:=Tryz.prog) w .add 48 .f32 (mulF x a) b (scaleF a b x) (Ieee.Format.bits_add f1 hb.fin)
 clear f1 f2 ha hb hx
 generalize mulF x a=y at *
 generalize scaleF a b x=z at *
 go_enter Tryz.func98,Tryz.ntmps98
 go_wp2
 go_ret
 exact ⟨rfl,rfl⟩
theorem row_two (w:World) (x y:Nat) (hx:x<4294967296) (hy:y<4294967296) (t:TypeId):SRow (w.alloc (.cells #[.float .f32 x,.float .f32 y] t)) (some ⟨w.heap.size,0,none⟩) [x,y]:=by
 refine ⟨⟨by simp,by simp;exact ⟨hx,hy⟩⟩,.inr ⟨w.heap.size,0,rfl,?_⟩⟩
 intro i hi
 have:i=0∨i=1:=by simp at hi;omega
 rcases this with rfl|rfl<;>simp
set_option maxHeartbeats 1000000 in
theorem scale_no (X Y W H:Int) (a:Option Addr) (c:Nat) (l:List Nat) (x y:Nat) (w:World) (hl:SRow w a l) (h0:chkF X Y W H l=0) (hx:x<4294967296) (hy:y<4294967296) (hn:htE [x,y]≠0) :
  Calls Tryz.prog 69 #[fldV X Y W H a l.length c,.float .f32 x,.float .f32 y] w fun e w'=>e=.returned (.tuple #[fldV 0 0 0 0 none 0 0,.int .i64 (htE [x,y])])∧Below w.heap.size w w':=by
 have K:=Lib.hid (fun w h=>check_field X Y W H a c l w h)
 rw [h0] at K
 have HL:=Lib.hid hl
 have K2:=Lib.hid (fun w c=>heights_any (some ⟨w.heap.size,0,none⟩) c [x,y] (w.alloc (.cells #[.float .f32 x,.float .f32 y] 48)) (row_two w x y hx hy _))
 have hb:(htE [x,y] != 0)=true:=by rw [bne_iff_ne];exact hn
 clear hl h0 hx hy hn
 generalize htE [x,y]=q at *
 have hA:Below w.heap.size w ((((w.alloc (.cells #[.int .i64 X,.int .i64 Y,.int .i64 W,.int .i64 H,.slice a l.length c] 32)).alloc (.cells #[.float .f32 x] 48)).alloc (.cells #[.float .f32 y] 48)).alloc (.cells #[.int .i64 0,.int .i64 0,.int .i64 0,.int .i64 0,.slice none 0 0] 32)):=qBl
 have HA:=Lib.hid hA
 clear hA
 go_enter Tryz.func69,Tryz.ntmps69
 go_wp2_with fail
 refine (K.out _ (HL.out.below HA.out)).mono ?_
 rintro e w1 ⟨rfl,b1⟩
 have B1:=Lib.hid (HA.out.trans (b1.mono HA.out.size))
 obtain ⟨hcc,hf⟩:=bcell b1
 have hs:=b1.size
 simp at hs
 have lta0:w.heap.size<w1.heap.size:=by omega
 have lta1:w.heap.size+1<w1.heap.size:=by omega
 have lta2:w.heap.size+1+1<w1.heap.size:=by omega
 have lta3:w.heap.size+1+1+1<w1.heap.size:=by omega
 clear b1
 go_wp2_with fail
 refine (K2.out _ _).mono ?_
 rintro e w2 ⟨rfl,rfl⟩
 go_wp2
 have B2:=B1.out
 exact bodyPost_ret (v:=.tuple #[fldV 0 0 0 0 none 0 0,.int .i64 q]) (by simp [results,Tryz.results69,go_sem, *]) rfl ⟨rfl,(qBo B2)⟩
structure Right (X Y:Int) (Wn Hn:Nat) (l:List Nat):Prop where
 w1:1≤Wn
 w2:Wn≤512
 h1:1≤Hn
 h2:Hn≤512
 wh:Wn*Hn≤65536
 x1:-4194304≤X
 x2:X≤4194304-Wn
 y1:-4194304≤Y
 y2:Y≤4194304-Hn
 len:l.length=Hn*Wn
 ht:∀ x∈l,Ht x
theorem Right.chk {X Y:Int} {Wn Hn:Nat} {l:List Nat} (h:Right X Y Wn Hn l):chkF X Y Wn Hn l=0:=by
 have c:Go.Proofs.YtmggflgdoioajaaGreat.chk X Y Wn Hn=0:=by
  unfold Go.Proofs.YtmggflgdoioajaaGreat.chk
  have e:((Wn:Int)*(Hn:Int))=((Wn*Hn:Nat):Int):=by rw [Int.natCast_mul]
  have:=h.w1;have:=h.w2;have:=h.h1;have:=h.h2;have:=h.wh;have:=h.x1;have:=h.x2;have:=h.y1;have:=h.y2
  rw [if_neg (by omega),if_neg (by rw [e];omega),if_neg (by omega)]
 rw [chkF_vals c (by rw [h.len,Int.natCast_mul,Int.mul_comm])]
 exact Ieee.Format.htE_of_ht (Ieee.Format.allHt_iff.2 h.ht)
theorem Right.ne {X Y:Int} {Wn Hn:Nat} {l:List Nat} (h:Right X Y Wn Hn l):l≠[]:=by
 intro e
 have:=h.len
 rw [e] at this
 have:=Nat.mul_le_mul h.h1 h.w1
 simp at *;omega
set_option maxHeartbeats 1000000 in
set_option maxRecDepth 100000 in
theorem scale_yes (X Y:Int) (Wn Hn:Nat) (b o c:Nat) (l:List Nat) (x y:Nat) (w:World) (hl:SRow w (some ⟨b,o,none⟩) l) (hr:Right X Y Wn Hn l) (hx:x<4294967296) (hy:y<4294967296) (hn:htE [x,y]=0) :
  Calls Tryz.prog 69 #[fldV X Y Wn Hn (some ⟨b,o,none⟩) l.length c,.float .f32 x,.float .f32 y] w fun e w'=>ResP X Y Wn Hn (l.map (scaleF x y)) w e w':=by
 have hts:=Ieee.Format.allHt_iff.1 (Ieee.Format.htE_zero hn)
 have hax:Ht x:=hts x (by simp)
 have hay:Ht y:=hts y (by simp)
 have K:=Lib.hid (fun w h=>check_field X Y Wn Hn (some ⟨b,o,none⟩) c l w h)
 rw [hr.chk] at K
 have HL:=Lib.hid hl
 have HT:=Lib.hid hr.ht
 have H0:=Lib.hid hr.ne
 have HX:=Lib.hid hax
 have HY:=Lib.hid hay
 have K2:=Lib.hid (fun w c=>heights_any (some ⟨w.heap.size,0,none⟩) c [x,y] (w.alloc (.cells #[.float .f32 x,.float .f32 y] 48)) (row_two w x y hx hy _))
 rw [hn] at K2
 have eg:=Lib.hid (enters_of Tryz.func98 (by kernel_rfl) rfl)
 have hlen:=hl.1.1
 clear hl hx hy hn hts hax hay hr
 have hA:Below w.heap.size w ((((w.alloc (.cells #[.int .i64 X,.int .i64 Y,.int .i64 Wn,.int .i64 Hn,.slice (some ⟨b,o,none⟩) l.length c] 32)).alloc (.cells #[.float .f32 x] 48)).alloc (.cells #[.float .f32 y] 48)).alloc (.cells #[.int .i64 0,.int .i64 0,.int .i64 0,.int .i64 0,.slice none 0 0] 32)):=qBl
 have HA:=Lib.hid hA
 clear hA
 go_enter Tryz.func69,Tryz.ntmps69
 go_wp2_with fail
 refine (K.out _ (HL.out.below HA.out)).mono ?_
 rintro e w1 ⟨rfl,b1⟩
 have B1:=Lib.hid (HA.out.trans (b1.mono HA.out.size))
 have cx:Hid (w1.cell? ⟨w.heap.size+1,0,none⟩=some (.float .f32 x)):=by
  unfold Hid;exact (b1.cell (p:=⟨w.heap.size+1,0,none⟩) (by simp)).trans (by simp [go_sem])
 have cy:Hid (w1.cell? ⟨w.heap.size+1+1,0,none⟩=some (.float .f32 y)):=by
  unfold Hid;exact (b1.cell (p:=⟨w.heap.size+1+1,0,none⟩) (by simp)).trans (by simp [go_sem])
 have FZ:Hid (Fld w1 (w.heap.size+1+1+1) 0 0 0 0 (.slice none 0 0)):=by
  exact qx56
 obtain ⟨hcc,hf⟩:=bcell b1
 have hs:=b1.size
 simp at hs
 have lta0:w.heap.size<w1.heap.size:=by omega
 have lta1:w.heap.size+1<w1.heap.size:=by omega
 have lta2:w.heap.size+1+1<w1.heap.size:=by omega
 have lta3:w.heap.size+1+1+1<w1.heap.size:=by omega
 clear b1
 go_wp2_with fail
 refine (K2.out _ _).mono ?_
 rintro e w2 ⟨rfl,rfl⟩
 go_wp2_with fail
 have W3:Hid (Below w1.heap.size w1 (w1.alloc (.cells #[.float .f32 x,.float .f32 y] 48))):=by
  unfold Hid;exact qBl
 have hfn:Hid (∀ z∈l,∀ W',Below (w1.alloc (.cells #[.float .f32 x,.float .f32 y] 48)).heap.size (w1.alloc (.cells #[.float .f32 x,.float .f32 y] 48)) W'→Calls Tryz.prog 98 (#[.float .f32 z] ++ #[.pointer (some ⟨w.heap.size+1,0,none⟩),.pointer (some ⟨w.heap.size+1+1,0,none⟩)]) W' fun e w'=>e=.returned (.float .f32 (scaleF x y z))∧W'=w'):=by
  intro z hz W' hb
  have hb1:Below w1.heap.size w1 W':=W3.out.trans (hb.mono (by simp))
  exact scalefn_any z x y _ _ W' HX.out HY.out (HT.out z hz) ((hb1.cell (p:=⟨w.heap.size+1,0,none⟩) lta1).trans cx.out) ((hb1.cell (p:=⟨w.heap.size+1+1,0,none⟩) lta2).trans cy.out)
 refine (each_any 98 _ (scaleF x y) X Y Wn Hn b o c l _ (HL.out.below (B1.out.trans (W3.out.mono B1.out.size))) H0.out eg.out (fun z _=>Ieee.Format.addF_lt _ _) hfn.out).mono ?_
 rintro e w3 ⟨g,cap,rfl,ho,hb3⟩
 have B3:Below w.heap.size w w3:=(B1.out.trans (W3.out.mono B1.out.size)).trans (hb3.mono (by simp;omega))
 have F3:=(FZ.out.alloc _).below hb3 (by simp;omega)
 have O3:OwnF w3 w.heap.size g cap (l.map (scaleF x y)):=ho.base (by simp;omega)
 have hgl:w.heap.size+1+1+1<g:=by have:=ho.lt.1;simp at this;omega
 have HR3:Hid (SRow w3 (some ⟨g,0,none⟩) (l.map (scaleF x y))):=O3.row (by rw [List.length_map];exact hlen)
 have HB3:=Lib.hid B3
 have HF3:=Lib.hid F3
 have HO3:=Lib.hid O3
 have hml:Hid ((l.map (scaleF x y)).length=l.length):=List.length_map _
 clear ho hb3 B3 F3 O3 hfn W3 B1 FZ K K2 HT HX HY cx cy HA H0 eg HL hcc hf
 generalize hmq:l.map (scaleF x y)=m at *
 have HMQ:=Lib.hid hmq
 clear hmq
 cases hh:allHt m with
 | true =>
  have HH:=Lib.hid hh
  go_wp2_with fail
  rw [←hml.out]
  refine (result_ok X Y Wn Hn g 0 cap m w3 HR3.out ?_).mono ?_
  ·intro j hj
   have:=Ieee.Format.allHt_iff.1 HH.out (m.getD j 0) (by rw [List.getD_eq_getElem?_getD,List.getElem?_eq_getElem hj];exact List.getElem_mem hj)
   exact this
  rintro e w4 ⟨rfl,hb4⟩
  have F4:=HF3.out.below hb4 HF3.out.lt
  have O4:=HO3.out.below hb4 HO3.out.lt.2
  have B4:=HB3.out.trans (hb4.mono HB3.out.size)
  clear hh hb4
  obtain ⟨d0,d1,d2,d3,d4⟩:=F4.cells
  have qf0:=F4.frozen 0
  have qf1:=F4.frozen 1
  have qf2:=F4.frozen 2
  have qf3:=F4.frozen 3
  have qf4:=F4.frozen 4
  go_wp2_with fail
  obtain rfl:=HMQ.out
  refine bodyPost_ret (v:=.tuple #[fldV X Y Wn Hn (some ⟨g,0,none⟩) (l.map (scaleF x y)).length cap,.int .i64 0]) (by simp [results,Tryz.results69,go_sem, *]) rfl ⟨fun _=>⟨g,cap,rfl,(by have hgg:=O4.lt;repeat (first|with_reducible exact O4|with_reducible refine OwnF.drew ?_|with_reducible refine OwnF.drewN ?_ _|(with_reducible refine OwnF.setCell ?_ ?_ _;rotate_left;focus (first|omega|(simp<;>omega)))|with_reducible refine OwnF.alloc ?_ _))⟩,fun h=>absurd (HH.out.symm.trans h) (by decide),(qBo B4)⟩
 | false =>
  have HH:=Lib.hid hh
  go_wp2_with fail
  rw [←hml.out]
  refine (result_no X Y Wn Hn g 0 cap m w3 HR3.out hh).mono ?_
  rintro e w4 ⟨rfl,hb4⟩
  have F4:=HF3.out.below hb4 HF3.out.lt
  have B4:=HB3.out.trans (hb4.mono HB3.out.size)
  clear hh hb4
  obtain ⟨d0,d1,d2,d3,d4⟩:=F4.cells
  have qf0:=F4.frozen 0
  have qf1:=F4.frozen 1
  have qf2:=F4.frozen 2
  have qf3:=F4.frozen 3
  have qf4:=F4.frozen 4
  go_wp2_with fail
  obtain rfl:=HMQ.out
  refine bodyPost_ret (v:=.tuple #[fldV 0 0 0 0 none 0 0,.int .i64 3]) (by simp [results,Tryz.results69,go_sem, *]) rfl ⟨fun h=>absurd (HH.out.symm.trans h) (by decide),fun _=>rfl,(qBo B4)⟩
end Go.Proofs.YtmggflgdoioajaaGreat
namespace Go.Proofs.YtmggflgdoioajaaGreat
open Go.Shelf
open Go.ChangeShapes Go.WideShapes Go.ChangeAt Go.RowKit
open Ieee.Format (fin finE htE allFin allHt all_true all_false finE_ok finE_bad htE_ok htE_far htE_bad mulF subF addF Ht scaleF)
theorem Right.getD {X Y:Int} {Wn Hn:Nat} {l:List Nat} (h:Right X Y Wn Hn l) (i:Nat):Ht (l.getD i 0):=by
 rcases Nat.lt_or_ge i l.length with hlt|hge
 ·rw [List.getD_eq_getElem?_getD,List.getElem?_eq_getElem hlt];exact h.ht _ (List.getElem_mem hlt)
 ·rw [List.getD_eq_getElem?_getD,List.getElem?_eq_none hge];show (0:Nat)%2147483648≤1233125376;decide
theorem at_right (X Y:Int) (Wn Hn:Nat) (x y:Int) (b o c:Nat) (l:List Nat) (w:World) (hl:SRow w (some ⟨b,o,none⟩) l) (hr:Right X Y Wn Hn l) (hx:X≤x) (hx':x<X+Wn) (hy:Y≤y) (hy':y<Y+Hn) :
  Calls Tryz.prog 23 #[fldV X Y Wn Hn (some ⟨b,o,none⟩) l.length c,.int .i64 x,.int .i64 y] w fun e w'=>e=.returned (.float .f32 (l.getD (cellNo X Y Wn x y).toNat 0))∧Below w.heap.size w w':=by
 have:=hr.w1;have:=hr.w2;have:=hr.h1;have:=hr.h2;have:=hr.x1;have:=hr.x2;have:=hr.y1;have:=hr.y2
 exact refat_any X Y Wn Hn x y b o c l w hl (by rw [hr.len,Int.natCast_mul,Int.mul_comm]) (by omega) (by omega) (by omega) (by omega) (by omega) (by omega) (by omega) (by omega) hx hx' hy hy'
theorem row_two_at (W:World) (g x y:Nat) (hx:x<4294967296) (hy:y<4294967296) (h0:W.cell? ⟨g,0,none⟩=some (.float .f32 x)) (h1:W.cell? ⟨g,1,none⟩=some (.float .f32 y)):SRow W (some ⟨g,0,none⟩) [x,y]:=by
 refine ⟨⟨by simp,by simp;exact ⟨hx,hy⟩⟩,.inr ⟨g,0,rfl,?_⟩⟩
 intro i hi
 have:i=0∨i=1:=by simp at hi;omega
 rcases this with rfl|rfl
 ·exact h0
 ·exact h1
end Go.Proofs.YtmggflgdoioajaaGreat
namespace Go.Proofs.YtmggflgdoioajaaGreat
open Go.Shelf
open Go.ChangeShapes Go.WideShapes Go.ChangeAt Go.RowKit
open Ieee.Format (fin finE htE allFin allHt all_true all_false finE_ok finE_bad htE_ok htE_far htE_bad mulF subF addF Ht scaleF)
def clampF (a d x:Nat):Nat:=if (Ieee.single.order x a == some .lt)=true then a else if (Ieee.single.order x d == some .gt)=true then d else x
theorem clampF_ht {a d x:Nat} (ha:Ht a) (hd:Ht d) (hx:Ht x):Ht (clampF a d x):=by
 unfold clampF;split
 ·exact ha
 ·split
  ·exact hd
  ·exact hx
theorem clampF_lt {a d x:Nat} (ha:a<4294967296) (hd:d<4294967296) (hx:x<4294967296):clampF a d x<4294967296:=by
 unfold clampF;split
 ·exact ha
 ·split
  ·exact hd
  ·exact hx
theorem clampfn_any (x a d p q:Nat) (w:World) (c1:w.cell? ⟨p,0,none⟩=some (.float .f32 a)) (c2:w.cell? ⟨q,0,none⟩=some (.float .f32 d)) :
  Calls Tryz.prog 99 #[.float .f32 x,.pointer (some ⟨p,0,none⟩),.pointer (some ⟨q,0,none⟩)] w fun e w'=>e=.returned (.float .f32 (clampF a d x))∧w=w':=by
 go_enter Tryz.func99,Tryz.ntmps99
 go_wp2_with fail
 all_goals
  go_ret
  refine ⟨ret_f32 ?_,rfl⟩
  unfold clampF
  simp only [show Go.FloatKind.f32.format=Ieee.single from rfl] at *
  simp [*]
set_option maxHeartbeats 1000000 in
theorem clamp_no (X Y W H:Int) (a:Option Addr) (c:Nat) (l:List Nat) (x y:Nat) (w:World) (hl:SRow w a l) (h0:chkF X Y W H l=0) (hx:x<4294967296) (hy:y<4294967296) (hn:htE [x,y]≠0) :
  Calls Tryz.prog 70 #[fldV X Y W H a l.length c,.float .f32 x,.float .f32 y] w fun e w'=>e=.returned (.tuple #[fldV 0 0 0 0 none 0 0,.int .i64 (htE [x,y])])∧Below w.heap.size w w':=by
 have K:=Lib.hid (fun w h=>check_field X Y W H a c l w h)
 rw [h0] at K
 have HL:=Lib.hid hl
 have K2:=Lib.hid (fun w c=>heights_any (some ⟨w.heap.size,0,none⟩) c [x,y] (w.alloc (.cells #[.float .f32 x,.float .f32 y] 48)) (row_two w x y hx hy _))
 have hb:(htE [x,y] != 0)=true:=by rw [bne_iff_ne];exact hn
 clear hl h0 hx hy hn
 generalize htE [x,y]=q at *
 have hA:Below w.heap.size w ((((w.alloc (.cells #[.int .i64 X,.int .i64 Y,.int .i64 W,.int .i64 H,.slice a l.length c] 32)).alloc (.cells #[.float .f32 x] 48)).alloc (.cells #[.float .f32 y] 48)).alloc (.cells #[.int .i64 0,.int .i64 0,.int .i64 0,.int .i64 0,.slice none 0 0] 32)):=qBl
 have HA:=Lib.hid hA
 clear hA
 go_enter Tryz.func70,Tryz.ntmps70
 go_wp2_with fail
 refine (K.out _ (HL.out.below HA.out)).mono ?_
 rintro e w1 ⟨rfl,b1⟩
 have B1:=Lib.hid (HA.out.trans (b1.mono HA.out.size))
 obtain ⟨hcc,hf⟩:=bcell b1
 have hs:=b1.size
 simp at hs
 have lta0:w.heap.size<w1.heap.size:=by omega
 have lta1:w.heap.size+1<w1.heap.size:=by omega
 have lta2:w.heap.size+1+1<w1.heap.size:=by omega
 have lta3:w.heap.size+1+1+1<w1.heap.size:=by omega
 clear b1
 go_wp2_with fail
 refine (K2.out _ _).mono ?_
 rintro e w2 ⟨rfl,rfl⟩
 go_wp2
 have B2:=B1.out
 exact bodyPost_ret (v:=.tuple #[fldV 0 0 0 0 none 0 0,.int .i64 q]) (by simp [results,Tryz.results70,go_sem, *]) rfl ⟨rfl,(qBo B2)⟩
end Go.Proofs.YtmggflgdoioajaaGreat
namespace Go.Proofs.YtmggflgdoioajaaGreat
open Go.Shelf
open Go.ChangeShapes Go.WideShapes Go.ChangeAt Go.RowKit
open Ieee.Format (fin finE htE allFin allHt all_true all_false finE_ok finE_bad htE_ok htE_far htE_bad mulF subF addF Ht scaleF)
theorem map_clamp_ht {X Y:Int} {Wn Hn:Nat} {l:List Nat} {x y:Nat} (hr:Right X Y Wn Hn l) (hx:Ht x) (hy:Ht y):allHt (l.map (clampF x y))=true:=by
 refine Ieee.Format.allHt_iff.2 fun z hz=>?_
 obtain ⟨v,hv,rfl⟩:=List.mem_map.1 hz
 exact clampF_ht hx hy (hr.ht v hv)
set_option maxRecDepth 100000 in
theorem clamp_yes (X Y:Int) (Wn Hn:Nat) (b o c:Nat) (l:List Nat) (x y:Nat) (w:World) (hl:SRow w (some ⟨b,o,none⟩) l) (hr:Right X Y Wn Hn l) (hx:x<4294967296) (hy:y<4294967296) (hn:htE [x,y]=0) (hg:(Go.FloatKind.f32.format.order x y == some .gt)=false) :
  Calls Tryz.prog 70 #[fldV X Y Wn Hn (some ⟨b,o,none⟩) l.length c,.float .f32 x,.float .f32 y] w fun e w'=>ResP X Y Wn Hn (l.map (clampF x y)) w e w':=by
 have hts:=Ieee.Format.allHt_iff.1 (Ieee.Format.htE_zero hn)
 have hax:Ht x:=hts x (by simp)
 have hay:Ht y:=hts y (by simp)
 have K:=Lib.hid (fun w h=>check_field X Y Wn Hn (some ⟨b,o,none⟩) c l w h)
 rw [hr.chk] at K
 have HL:=Lib.hid hl
 have HT:=Lib.hid hr.ht
 have H0:=Lib.hid hr.ne
 have HX0:=Lib.hid hx
 have HY0:=Lib.hid hy
 have HLT:=Lib.hid hl.1.2
 have HAL:=Lib.hid (map_clamp_ht hr hax hay)
 have K2:=Lib.hid (fun w c=>heights_any (some ⟨w.heap.size,0,none⟩) c [x,y] (w.alloc (.cells #[.float .f32 x,.float .f32 y] 48)) (row_two w x y hx hy _))
 rw [hn] at K2
 have eg:=Lib.hid (enters_of Tryz.func99 (by kernel_rfl) rfl)
 have hlen:=hl.1.1
 clear hl hx hy hn hts hax hay hr
 have hA:Below w.heap.size w ((((w.alloc (.cells #[.int .i64 X,.int .i64 Y,.int .i64 Wn,.int .i64 Hn,.slice (some ⟨b,o,none⟩) l.length c] 32)).alloc (.cells #[.float .f32 x] 48)).alloc (.cells #[.float .f32 y] 48)).alloc (.cells #[.int .i64 0,.int .i64 0,.int .i64 0,.int .i64 0,.slice none 0 0] 32)):=qBl
 have HA:=Lib.hid hA
 clear hA
 go_enter Tryz.func70,Tryz.ntmps70
 go_wp2_with fail
 refine (K.out _ (HL.out.below HA.out)).mono ?_
 rintro e w1 ⟨rfl,b1⟩
 have B1:=Lib.hid (HA.out.trans (b1.mono HA.out.size))
 have cx:Hid (w1.cell? ⟨w.heap.size+1,0,none⟩=some (.float .f32 x)):=by
  unfold Hid;exact (b1.cell (p:=⟨w.heap.size+1,0,none⟩) (by simp)).trans (by simp [go_sem])
 have cy:Hid (w1.cell? ⟨w.heap.size+1+1,0,none⟩=some (.float .f32 y)):=by
  unfold Hid;exact (b1.cell (p:=⟨w.heap.size+1+1,0,none⟩) (by simp)).trans (by simp [go_sem])
 have FZ:Hid (Fld w1 (w.heap.size+1+1+1) 0 0 0 0 (.slice none 0 0)):=by
  exact qx56
 obtain ⟨hcc,hf⟩:=bcell b1
 have hs:=b1.size
 simp at hs
 have lta0:w.heap.size<w1.heap.size:=by omega
 have lta1:w.heap.size+1<w1.heap.size:=by omega
 have lta2:w.heap.size+1+1<w1.heap.size:=by omega
 have lta3:w.heap.size+1+1+1<w1.heap.size:=by omega
 clear b1
 go_wp2_with fail
 refine (K2.out _ _).mono ?_
 rintro e w2 ⟨rfl,rfl⟩
 go_wp2_with fail
 have W3:Hid (Below w1.heap.size w1 (w1.alloc (.cells #[.float .f32 x,.float .f32 y] 48))):=by
  unfold Hid;exact qBl
 have hfn:Hid (∀ z∈l,∀ W',Below (w1.alloc (.cells #[.float .f32 x,.float .f32 y] 48)).heap.size (w1.alloc (.cells #[.float .f32 x,.float .f32 y] 48)) W'→Calls Tryz.prog 99 (#[.float .f32 z] ++ #[.pointer (some ⟨w.heap.size+1,0,none⟩),.pointer (some ⟨w.heap.size+1+1,0,none⟩)]) W' fun e w'=>e=.returned (.float .f32 (clampF x y z))∧W'=w'):=by
  intro z hz W' hb
  have hb1:Below w1.heap.size w1 W':=W3.out.trans (hb.mono (by simp))
  exact clampfn_any z x y _ _ W' ((hb1.cell (p:=⟨w.heap.size+1,0,none⟩) lta1).trans cx.out) ((hb1.cell (p:=⟨w.heap.size+1+1,0,none⟩) lta2).trans cy.out)
 refine (each_any 99 _ (clampF x y) X Y Wn Hn b o c l _ (HL.out.below (B1.out.trans (W3.out.mono B1.out.size))) H0.out eg.out (fun z hz=>clampF_lt HX0.out HY0.out (HLT.out z hz)) hfn.out).mono ?_
 rintro e w3 ⟨g,cap,rfl,ho,hb3⟩
 have B3:Below w.heap.size w w3:=(B1.out.trans (W3.out.mono B1.out.size)).trans (hb3.mono (by simp;omega))
 have F3:=(FZ.out.alloc _).below hb3 (by simp;omega)
 have O3:OwnF w3 w.heap.size g cap (l.map (clampF x y)):=ho.base (by simp;omega)
 have hgl:w.heap.size+1+1+1<g:=by have:=ho.lt.1;simp at this;omega
 have HR3:Hid (SRow w3 (some ⟨g,0,none⟩) (l.map (clampF x y))):=O3.row (by rw [List.length_map];exact hlen)
 have HB3:=Lib.hid B3
 have HF3:=Lib.hid F3
 have HO3:=Lib.hid O3
 have hml:Hid ((l.map (clampF x y)).length=l.length):=List.length_map _
 clear ho hb3 B3 F3 O3 hfn W3 B1 FZ K K2 HT HX0 HY0 HLT cx cy HA H0 eg HL hcc hf
 generalize hmq:l.map (clampF x y)=m at *
 have HMQ:=Lib.hid hmq
 clear hmq
 have F4:=HF3.out
 have O4:=HO3.out
 have B4:=HB3.out
 obtain ⟨d0,d1,d2,d3,d4⟩:=F4.cells
 have qf0:=F4.frozen 0
 have qf1:=F4.frozen 1
 have qf2:=F4.frozen 2
 have qf3:=F4.frozen 3
 have qf4:=F4.frozen 4
 go_wp2_with fail
 obtain rfl:=HMQ.out
 refine bodyPost_ret (v:=.tuple #[fldV X Y Wn Hn (some ⟨g,0,none⟩) (l.map (clampF x y)).length cap,.int .i64 0]) (by simp [results,Tryz.results70,go_sem, *]) rfl ⟨fun _=>⟨g,cap,rfl,(by have hgg:=O4.lt;repeat (first|with_reducible exact O4|with_reducible refine OwnF.drew ?_|with_reducible refine OwnF.drewN ?_ _|(with_reducible refine OwnF.setCell ?_ ?_ _;rotate_left;focus (first|omega|(simp<;>omega)))|with_reducible refine OwnF.alloc ?_ _))⟩,fun h=>absurd (HAL.out.symm.trans h) (by decide),(qBo B4)⟩
set_option maxHeartbeats 1000000 in
theorem clamp_bad (X Y W H:Int) (a:Option Addr) (c:Nat) (l:List Nat) (x y:Nat) (w:World) (hl:SRow w a l) (h0:chkF X Y W H l=0) (hx:x<4294967296) (hy:y<4294967296) (hn:htE [x,y]=0) (hg:(Go.FloatKind.f32.format.order x y == some .gt)=true) :
  Calls Tryz.prog 70 #[fldV X Y W H a l.length c,.float .f32 x,.float .f32 y] w fun e w'=>e=.returned (.tuple #[fldV 0 0 0 0 none 0 0,.int .i64 8])∧Below w.heap.size w w':=by
 have K:=Lib.hid (fun w h=>check_field X Y W H a c l w h)
 rw [h0] at K
 have HL:=Lib.hid hl
 have K2:=Lib.hid (fun w c=>heights_any (some ⟨w.heap.size,0,none⟩) c [x,y] (w.alloc (.cells #[.float .f32 x,.float .f32 y] 48)) (row_two w x y hx hy _))
 rw [hn] at K2
 clear hl h0 hx hy hn
 have hA:Below w.heap.size w ((((w.alloc (.cells #[.int .i64 X,.int .i64 Y,.int .i64 W,.int .i64 H,.slice a l.length c] 32)).alloc (.cells #[.float .f32 x] 48)).alloc (.cells #[.float .f32 y] 48)).alloc (.cells #[.int .i64 0,.int .i64 0,.int .i64 0,.int .i64 0,.slice none 0 0] 32)):=qBl
 have HA:=Lib.hid hA
 clear hA
 go_enter Tryz.func70,Tryz.ntmps70
 go_wp2_with fail
 refine (K.out _ (HL.out.below HA.out)).mono ?_
 rintro e w1 ⟨rfl,b1⟩
 have B1:=Lib.hid (HA.out.trans (b1.mono HA.out.size))
 obtain ⟨hcc,hf⟩:=bcell b1
 have hs:=b1.size
 simp at hs
 have lta0:w.heap.size<w1.heap.size:=by omega
 have lta1:w.heap.size+1<w1.heap.size:=by omega
 have lta2:w.heap.size+1+1<w1.heap.size:=by omega
 have lta3:w.heap.size+1+1+1<w1.heap.size:=by omega
 clear b1
 go_wp2_with fail
 refine (K2.out _ _).mono ?_
 rintro e w2 ⟨rfl,rfl⟩
 go_wp2
 have B2:=B1.out
 exact bodyPost_ret (v:=.tuple #[fldV 0 0 0 0 none 0 0,.int .i64 8]) (by simp [results,Tryz.results70,go_sem, *]) rfl ⟨rfl,(qBo B2)⟩
end Go.Proofs.YtmggflgdoioajaaGreat
namespace Go.Proofs.YtmggflgdoioajaaGreat
open Go.Shelf
open Go.ChangeShapes Go.WideShapes Go.ChangeAt Go.RowKit
open Ieee.Format (fin finE htE allFin allHt all_true all_false finE_ok finE_bad htE_ok htE_far htE_bad mulF subF addF Ht scaleF)
end Go.Proofs.YtmggflgdoioajaaGreat
namespace Go.Proofs.YtmggflgdoioajaaGreat
open Go.ChangeShapes Go.WideShapes Go.ChangeAt Go.RowKit
end Go.Proofs.YtmggflgdoioajaaGreat
namespace Go.Proofs.YtmggflgdoioajaaGreat
open Go.Shelf
open Go.ChangeShapes Go.WideShapes Go.ChangeAt Go.RowKit
open Ieee.Format (fin finE htE allFin allHt all_true all_false finE_ok finE_bad htE_ok htE_far htE_bad mulF subF addF Ht scaleF)
def OutV (c:Int) (X Y W H:Int) (m:List Nat) (w:World) (B:Nat) (x y p q:Int) (a:Option Addr) (n k:Nat):Prop:=
 (c≠0∧x=0∧y=0∧p=0∧q=0∧a=none∧n=0∧k=0)∨(c=0∧x=X∧y=Y∧p=W∧q=H∧∃ g,a=some ⟨g,0,none⟩∧n=m.length∧OwnF w B g k m)
theorem OutV.below {c X Y W H:Int} {m:List Nat} {w w':World} {B:Nat} {x y p q:Int} {a:Option Addr} {n k:Nat} (h:OutV c X Y W H m w B x y p q a n k) (hb:Below w.heap.size w w'):OutV c X Y W H m w' B x y p q a n k:=by
 rcases h with h|⟨h0,h1,h2,h3,h4,g,h5,h6,h7⟩
 ·exact .inl h
 ·exact .inr ⟨h0,h1,h2,h3,h4,g,h5,h6,h7.below hb h7.lt.2⟩
def OpP (c:Int) (X Y W H:Int) (m:List Nat) (w:World) (e:Ending) (w':World):Prop:=
 (∃ x y p q a n k,e=.returned (.tuple #[fldV x y p q a n k,.int .i64 c])∧OutV c X Y W H m w' w.heap.size x y p q a n k)∧Below w.heap.size w w'
theorem OpP.err {c X Y W H:Int} {m:List Nat} {w:World} {e:Ending} {w':World} (hc:c≠0) (he:e=.returned (.tuple #[fldV 0 0 0 0 none 0 0,.int .i64 c])) (hb:Below w.heap.size w w'):OpP c X Y W H m w e w':=
 ⟨⟨0,0,0,0,none,0,0,he,.inl ⟨hc,rfl,rfl,rfl,rfl,rfl,rfl,rfl⟩⟩,hb⟩
theorem ResP.op {X Y W H:Int} {m:List Nat} {w:World} {e:Ending} {w':World} (h:ResP X Y W H m w e w'):OpP (if allHt m=true then 0 else 3) X Y W H m w e w':=by
 obtain ⟨h1,h2,h3⟩:=h
 by_cases hh:allHt m=true
 ·rw [if_pos hh]
  obtain ⟨g,cap,he,ho⟩:=h1 hh
  exact ⟨⟨X,Y,W,H,_,_,cap,he,.inr ⟨rfl,rfl,rfl,rfl,rfl,g,rfl,rfl,ho⟩⟩,h3⟩
 ·rw [if_neg hh]
  exact OpP.err (by decide) (h2 (by simpa using hh)) h3
def scaleC (s t:Nat) (l:List Nat):Int:=if htE [s,t]≠0 then htE [s,t] else if allHt (l.map (scaleF s t))=true then 0 else 3
def clampC (s t:Nat):Int:=if htE [s,t]≠0 then htE [s,t] else if (Go.FloatKind.f32.format.order s t == some .gt)=true then 8 else 0
theorem scale_op (X Y:Int) (Wn Hn:Nat) (b o c:Nat) (l:List Nat) (x y:Nat) (w:World) (hl:SRow w (some ⟨b,o,none⟩) l) (hr:Right X Y Wn Hn l) (hx:x<4294967296) (hy:y<4294967296) :
  Calls Tryz.prog 69 #[fldV X Y Wn Hn (some ⟨b,o,none⟩) l.length c,.float .f32 x,.float .f32 y] w fun e w'=>OpP (scaleC x y l) X Y Wn Hn (l.map (scaleF x y)) w e w':=by
 unfold scaleC
 by_cases h:htE [x,y]=0
 ·rw [if_neg (by simp [h])]
  exact (scale_yes X Y Wn Hn b o c l x y w hl hr hx hy h).mono fun e w' h=>h.op
 ·rw [if_pos h]
  exact (scale_no X Y Wn Hn _ c l x y w hl hr.chk hx hy h).mono fun e w' ⟨h1,h2⟩=>OpP.err h h1 h2
theorem clamp_c {X Y:Int} {Wn Hn:Nat} {l:List Nat} {x y:Nat} (hr:Right X Y Wn Hn l) (h:htE [x,y]=0):(if allHt (l.map (clampF x y))=true then (0:Int) else 3)=0:=by
 have hts:=Ieee.Format.allHt_iff.1 (Ieee.Format.htE_zero h)
 exact if_pos (map_clamp_ht hr (hts x (by simp)) (hts y (by simp)))
theorem clamp_op (X Y:Int) (Wn Hn:Nat) (b o c:Nat) (l:List Nat) (x y:Nat) (w:World) (hl:SRow w (some ⟨b,o,none⟩) l) (hr:Right X Y Wn Hn l) (hx:x<4294967296) (hy:y<4294967296) :
  Calls Tryz.prog 70 #[fldV X Y Wn Hn (some ⟨b,o,none⟩) l.length c,.float .f32 x,.float .f32 y] w fun e w'=>OpP (clampC x y) X Y Wn Hn (l.map (clampF x y)) w e w':=by
 unfold clampC
 by_cases h:htE [x,y]=0
 ·rw [if_neg (by simp [h])]
  by_cases hg:(Go.FloatKind.f32.format.order x y == some .gt)=true
  ·rw [if_pos hg]
   exact (clamp_bad X Y Wn Hn _ c l x y w hl hr.chk hx hy h hg).mono fun e w' ⟨h1,h2⟩=>OpP.err (by decide) h1 h2
  ·rw [if_neg hg]
   exact (clamp_yes X Y Wn Hn b o c l x y w hl hr hx hy h (by simpa using hg)).mono fun e w' h'=>by
    have:=h'.op
    rw [clamp_c hr h] at this
    exact this
 ·rw [if_pos h]
  exact (clamp_no X Y Wn Hn _ c l x y w hl hr.chk hx hy h).mono fun e w' ⟨h1,h2⟩=>OpP.err h h1 h2
end Go.Proofs.YtmggflgdoioajaaGreat
namespace Go.Proofs.YtmggflgdoioajaaGreat
open Go.Shelf
open Go.ChangeShapes Go.WideShapes Go.ChangeAt Go.RowKit
open Ieee.Format (fin finE htE allFin allHt all_true all_false finE_ok finE_bad htE_ok htE_far htE_bad mulF subF addF Ht scaleF)
theorem fld_store (w:World) (k:Nat) (X Y A B:Int) (v:Value) (x y p q:Int) (u:Value) (h:Fld w k X Y A B v) :
  ∀ W',W'=((((w.setCell ⟨k,0,none⟩ (.int .i64 x)).setCell ⟨k,1,none⟩ (.int .i64 y)).setCell ⟨k,2,none⟩ (.int .i64 p)).setCell ⟨k,3,none⟩ (.int .i64 q)).setCell ⟨k,4,none⟩ u →
  Fld W' k x y p q u∧Below k w W'∧(∀ g B cap l,OwnF w B g cap l→g≠k→OwnF W' B g cap l)∧(∀ j X Y A B v,Fld w j X Y A B v→j≠k→Fld W' j X Y A B v)∧W'.heap.size=w.heap.size:=by
 rintro _ rfl
 refine ⟨((((h.set0 x).set1 y).set2 p).set3 q).set4 u,qBl,fun g B cap l ho hg=>?_,fun j X Y A B v hj hk=>?_,by simp⟩
 ·exact ((((ho.setCell (by simpa using hg) _).setCell (by simpa using hg) _).setCell (by simpa using hg) _).setCell (by simpa using hg) _).setCell (by simpa using hg) _
 ·exact ((((hj.setCell (by simpa using hk) _).setCell (by simpa using hk) _).setCell (by simpa using hk) _).setCell (by simpa using hk) _).setCell (by simpa using hk) _
theorem OutV.set {c X Y W H:Int} {m:List Nat} {w w':World} {B j:Nat} {x y p q:Int} {a:Option Addr} {n k:Nat} (h:OutV c X Y W H m w B x y p q a n k)
  (hs:∀ g B cap l,OwnF w B g cap l→g≠j→OwnF w' B g cap l) (hj:j<B):OutV c X Y W H m w' B x y p q a n k:=by
 rcases h with h|⟨h0,h1,h2,h3,h4,g,h5,h6,h7⟩
 ·exact .inl h
 ·exact .inr ⟨h0,h1,h2,h3,h4,g,h5,h6,hs _ _ _ _ h7 (by have:=h7.lt.1;omega)⟩
theorem SRow.under {w w':World} {g B:Nat} {l:List Nat} (h:SRow w (some ⟨g,0,none⟩) l) (hb:Below B w w') (hg:g<B):SRow w' (some ⟨g,0,none⟩) l:=by
 obtain ⟨h1,h2⟩:=h
 refine ⟨h1,?_⟩
 rcases h2 with h2|⟨b,o,e,hc⟩
 ·exact .inl h2
 ·obtain ⟨rfl,rfl⟩:g=b∧0=o:=by simpa using e
  refine .inr ⟨g,0,rfl,fun i hi=>?_⟩
  rw [hb.cell (p:=⟨g,0+i,none⟩) hg]
  exact hc i hi
end Go.Proofs.YtmggflgdoioajaaGreat
namespace Go.Proofs.YtmggflgdoioajaaGreat
open Go.ChangeShapes Go.WideShapes Go.ChangeAt Go.RowKit
open Go.Maps
def tabS:List (List UInt8 × (Int × Int × Int)):=[([99,111,110,115,116],(0,0,1)),([110,111,105,115,101],(0,4,1)),([115,112,101,99,107,108,101],(0,1,1)),([97,100,100],(2,0,0)),([115,117,98],(2,0,0)),([109,117,108],(2,0,0)),([100,105,118],(2,0,0)),([108,101,115,115],(2,0,0)),([109,111,114,101],(2,0,0)),([111,118,101,114],(2,0,0)),([115,99,97,108,101],(1,0,2)),([99,108,97,109,112],(1,0,2)),([98,108,101,110,100],(3,0,0)),([115,101,108,101,99,116],(1,0,3)),([116,101,114,114,97,99,101],(1,0,2)),([100,105,116,104,101,114],(1,1,1)),([115,116,97,109,112],(1,4,1)),([102,97,117,108,116],(1,4,1)),([102,111,108,100],(1,3,1)),([115,104,105,102,116],(1,2,0)),([98,108,117,114],(1,1,0)),([107,101,114,110,101,108],(1,1,0)),([115,108,111,112,101],(1,0,0)),([99,117,114,118,101],(1,0,0)),([115,104,97,100,101],(1,3,0)),([116,104,101,114,109,97,108],(1,1,2)),([115,109,111,111,116,104],(1,1,0)),([119,97,114,112],(1,4,2))]
def fmT (z:List UInt8):Option (Int × Int × Int):=(tabS.find? (fun x=>x.1 == z)).map (·.2)
def fmA (z:List UInt8):Int:=((fmT z).getD (0,0,0)).1
def fmB (z:List UInt8):Int:=((fmT z).getD (0,0,0)).2.1
def fmC (z:List UInt8):Int:=((fmT z).getD (0,0,0)).2.2
def fmK (z:List UInt8):Bool:=(fmT z).isSome
theorem bytes_toList (s:ByteArray):s.toList=s.data.toList:=by
 exact ByteArray.toList_eq s
def frmR:Value→Option (DataW Unit × List MemPlace)
 | .agg cs=>match cs.toList with
  | [.int .i64 a,.int .i64 b,.int .i64 c]=>some (.agg [.lit (.int .i64 a),.lit (.int .i64 b),.lit (.int .i64 c)],[])
  | _=>none
 | _=>none
theorem frmR_inv {v:Value} {a b c:Int} {ps:List MemPlace} (h:frmR v=some (.agg [.lit (.int .i64 a),.lit (.int .i64 b),.lit (.int .i64 c)],ps)):v=.agg #[.int .i64 a,.int .i64 b,.int .i64 c]:=by
 unfold frmR at h
 split at h
 ·rename_i cs
  split at h
  ·rename_i x y z e
   simp at h
   obtain ⟨⟨rfl,rfl,rfl⟩,_⟩:=h
   exact congrArg Value.agg (Array.toList_inj.1 (by rw [e]))
  ·cases h
 ·cases h
def dF (x:Int × Int × Int):DataW Unit:=.agg [.lit (.int .i64 x.1),.lit (.int .i64 x.2.1),.lit (.int .i64 x.2.2)]
def putsD:List (List UInt8 × (Int × Int × Int))→DataW Unit
 | []=>.map []
 | x :: r=>(putsD r).put (.string x.1) (dF x.2)
theorem key_str {z:List UInt8}:WideAt.IsKeyLit (.string z):=by simp [WideAt.IsKeyLit]
theorem putsD_map:∀ l,IsMap (putsD l)
 | []=>isMap_empty
 | x :: r=>(putsD_map r).put _ _
theorem putsD_at (z:List UInt8) (y:DataW Unit):∀ l,(putsD l).atKey (.string z) y=((l.find? (fun x=>x.1 == z)).map (fun x=>dF x.2)).getD y
 | []=>rfl
 | x :: r=>by
  unfold putsD
  rw [List.find?_cons]
  by_cases h:x.1=z
  ·rw [h,atKey_put_same (putsD_map r) key_str]
   simp
  ·have h2:(x.1 == z)=false:=by simpa using h
   rw [atKey_put_other (by simpa using fun e=>h e.symm),putsD_at z y r,h2]
theorem putsD_has (z:List UInt8):∀ l,Maps.has (putsD l) (.string z)=(l.find? (fun x=>x.1 == z)).isSome
 | []=>rfl
 | x :: r=>by
  unfold putsD
  rw [List.find?_cons]
  by_cases h:x.1=z
  ·rw [h,has_put_same (putsD_map r) key_str]
   simp
  ·have h2:(x.1 == z)=false:=by simpa using h
   rw [has_put_other (by simpa using fun e=>h e.symm),putsD_has z r,h2]
end Go.Proofs.YtmggflgdoioajaaGreat
