import Derived.Test.YtmggflgdoioajaaGreatG08
import Derived.Lib.MinMax
import Derived.BigQuiet
import Derived.Deep.QuietTactic
import Derived.Deep.DeepCutAuto
import Derived.Deep.CutBlock
import Derived.Deep.RegionHeld3
import Derived.IntWalk
set_option linter.unusedSimpArgs false
set_option linter.unusedVariables false
namespace Ieee
namespace Format
open Go
theorem const_32:single.fin 1107296256∧single.V 1107296256=32∧single.sgn 1107296256=false:=by
 have:=V_const false 131 8388608 (.inr (by decide)) (by decide) (by decide)
 rw [show single.word false (131*8388608+8388608)=1107296256 from by decide] at this
 refine ⟨this.1,?_,this.2.2⟩
 rw [this.2.1,show ((131:Nat):Int)-149=-18 from rfl,show ((8388608:Nat):Rat)=P2 23 from (P2_nat 23).symm,←P2_add]
 simp [sg]
 exact P2_nat 5
theorem place_32:single.rplace 1107296255=-19:=by
 rw [show (1107296255:Nat)=(130+1)*8388608+8388607 from by omega,place_at _ _ (by omega)];rfl
theorem near_32:Near1 32 (P2 (-20)):=near_of (-19) (-20) 1107296255 (by omega) const_32 (by omega) place_32
def octA (g:Nat):Nat→Nat
 | 0=>1065353216
 | k+1=>mulF (octA g k) g
def octS (g:Nat) (n:Nat→Nat):Nat→Nat
 | 0=>0
 | k+1=>addF (octS g n k) (mulF (octA g k) (n k))
def reachF (g b k:Nat):Nat:=mulF (octS g (fun _=>b) k) 1065354055
theorem amp_ok {g:Nat} (hg:single.fin g) (g0:0≤single.V g) (g1:single.V g≤1):∀ k,single.fin (octA g k)∧0≤single.V (octA g k)∧single.V (octA g k)≤1
 | 0=>by unfold octA;exact ⟨const_1.1,by rw [const_1.2.1];decide,by rw [const_1.2.1];decide⟩
 | k+1=>by
  obtain ⟨f,a,b⟩:=amp_ok hg g0 g1 k
  unfold octA
  have m0:=Rat.mul_nonneg a g0
  have m1:=Rat.mul_le_mul_of_nonneg_left g1 a
  have hr:=(mulF_spec f hg).2
  have hb:=hr.bound const_1.1 const_1.2.2 (by rw [const_1.2.1];grind) (by rw [const_1.2.1];grind)
  rw [const_1.2.1] at hb
  exact ⟨hb.1,hr.nonneg hb.1 m0,hb.2.1⟩
theorem unit24:0<P2 (-24)∧P2 (-23)=2*P2 (-24)∧P2 (-20)=16*P2 (-24)∧P2 (-19)=32*P2 (-24)∧16777216*P2 (-24)=1:=by
 have q1:P2 (-23)=2*P2 (-24):=P2_double (-23)
 have q2:P2 (-22)=2*P2 (-23):=P2_double (-22)
 have q3:P2 (-21)=2*P2 (-22):=P2_double (-21)
 have q4:P2 (-20)=2*P2 (-21):=P2_double (-20)
 have q5:P2 (-19)=2*P2 (-20):=P2_double (-19)
 refine ⟨P2_pos _,q1,by grind,by grind,?_⟩
 exact qx57
def Noisy (b n:Nat):Prop:=single.fin n∧-(single.V b+P2 (-19))≤single.V n∧single.V n≤single.V b+P2 (-19)
theorem oct_step {g b n s r k:Nat} (hk:k<10) (fg:single.fin (octA g k)) (a0:0≤single.V (octA g k)) (a1:single.V (octA g k)≤1) (hb:single.fin b) (b1:1≤single.V b) (b3:single.V b≤3) (hn:Noisy b n)
  (fs:single.fin s) (fr:single.fin r) (r0:0≤single.V r) (r1:single.V r≤(k:Rat)*3+(k:Rat)*P2 (-20)) (hs1:single.V s≤single.V r+(k:Rat)*(68*P2 (-24))) (hs2:-single.V s≤single.V r+(k:Rat)*(68*P2 (-24))) :
  single.fin (mulF (octA g k) n)∧single.fin (mulF (octA g k) b)∧single.fin (addF s (mulF (octA g k) n))∧single.fin (addF r (mulF (octA g k) b))∧0≤single.V (addF r (mulF (octA g k) b))∧0≤single.V (mulF (octA g k) b) ∧
  single.V r+single.V (mulF (octA g k) b)≤single.V (addF r (mulF (octA g k) b))+P2 (-20)∧single.V (octA g k)*single.V b≤single.V (mulF (octA g k) b)+P2 (-23) ∧
  single.V (addF r (mulF (octA g k) b))≤((k+1:Nat):Rat)*3+((k+1:Nat):Rat)*P2 (-20) ∧
  single.V (addF s (mulF (octA g k) n))≤single.V (addF r (mulF (octA g k) b))+((k+1:Nat):Rat)*(68*P2 (-24)) ∧
  -single.V (addF s (mulF (octA g k) n))≤single.V (addF r (mulF (octA g k) b))+((k+1:Nat):Rat)*(68*P2 (-24)):=by
 obtain ⟨u0,u1,u2,u3,u4⟩:=unit24
 obtain ⟨fn,n1,n2⟩:=hn
 have k0:(0:Rat)≤(k:Rat):=Rat.natCast_nonneg
 have k9:(k:Rat)≤9:=by exact_mod_cast (show k≤9 by omega)
 have kc:((k+1:Nat):Rat)=(k:Rat)+1:=by push_cast;rfl
 rw [kc]
 generalize hA:single.V (octA g k)=A at *
 have d0:0≤P2 (-19):=by grind
 have m1:=Rat.mul_le_mul_of_nonneg_left n2 a0
 have m2:=Rat.mul_le_mul_of_nonneg_left n1 a0
 have m3:=Rat.mul_le_mul_of_nonneg_right a1 d0
 have m4:=Rat.mul_le_mul_of_nonneg_right a1 (show 0≤single.V b by grind)
 have m5:=Rat.mul_nonneg a0 (show 0≤single.V b by grind)
 have pn:=(mulF_spec fg fn).2
 have pb:=(mulF_spec fg hb).2
 rw [hA] at pn pb
 obtain ⟨fp,p1,p2,_,_⟩:=near_4 _ _ _ pn (by grind) (by grind)
 obtain ⟨fq,q1,q2,q3,q4⟩:=near_4 _ _ _ pb (by grind) (by grind)
 have q0:=pb.nonneg fq m5
 have q5:single.V (mulF (octA g k) b)≤3:=by
  have:=pb.bound const_3.1 const_3.2.2 (by rw [const_3.2.1];grind) (by rw [const_3.2.1];grind)
  rw [const_3.2.1] at this
  exact this.2.1
 have j1:=Rat.mul_le_mul_of_nonneg_right k9 (Rat.le_of_lt u0)
 have ps:=(addF_spec fs fp).2
 have pr:=(addF_spec fr fq).2
 have e20:((k:Rat)+1)*P2 (-20)=(k:Rat)*P2 (-20)+P2 (-20):=by rw [Rat.add_mul,Rat.one_mul]
 have e68:((k:Rat)+1)*(68*P2 (-24))=(k:Rat)*(68*P2 (-24))+68*P2 (-24):=by rw [Rat.add_mul,Rat.one_mul]
 have l20:(k:Rat)*P2 (-20)=16*((k:Rat)*P2 (-24)):=by rw [u2];grind
 have l68:(k:Rat)*(68*P2 (-24))=68*((k:Rat)*P2 (-24)):=by grind
 rw [Rat.mul_add] at m1
 rw [Rat.mul_neg,Rat.mul_add] at m2
 rw [Rat.one_mul] at m3 m4
 rw [e20,e68]
 clear e20 e68
 rw [l68] at hs1 hs2 ⊢
 rw [l20] at r1 ⊢
 clear l20 l68 n1 n2
 generalize (k:Rat)*P2 (-24)=ku at *
 obtain ⟨fS,s1,s2,_,_⟩:=near_32 _ _ _ ps (by clear ps pr pb pn;generalize A*P2 (-19)=w1 at *;generalize A*single.V b=w2 at *;generalize A*single.V n=w3 at *;grind) (by clear ps pr pb pn;generalize A*P2 (-19)=w1 at *;generalize A*single.V b=w2 at *;generalize A*single.V n=w3 at *;grind)
 obtain ⟨fR,t1,t2,_,_⟩:=near_32 _ _ _ pr (by clear ps pr pb pn;grind) (by clear ps pr pb pn;grind)
 have hr0:=pr.nonneg fR (by clear ps pr pb pn;grind)
 clear ps pr pb pn
 generalize A*P2 (-19)=w1 at *
 generalize A*single.V b=w2 at *
 generalize A*single.V n=w3 at *
 refine ⟨fp,fq,fS,fR,hr0,q0,t2,q2,?_,?_,?_⟩
 ·grind
 ·grind
 ·grind
theorem oct_all {g b:Nat} (n:Nat→Nat) (hg:single.fin g) (g0:0≤single.V g) (g1:single.V g≤1) (hb:single.fin b) (b1:1≤single.V b) (b3:single.V b≤3):∀ k,k≤10→(∀ j,j<k→Noisy b (n j)) →
  single.fin (octS g n k)∧single.fin (octS g (fun _=>b) k)∧0≤single.V (octS g (fun _=>b) k)∧single.V (octS g (fun _=>b) k)≤(k:Rat)*3+(k:Rat)*P2 (-20)∧(1≤k→1≤single.V (octS g (fun _=>b) k)+((k:Rat)+1)*P2 (-20)) ∧
  single.V (octS g n k)≤single.V (octS g (fun _=>b) k)+(k:Rat)*(68*P2 (-24))∧-single.V (octS g n k)≤single.V (octS g (fun _=>b) k)+(k:Rat)*(68*P2 (-24))
 | 0,_,_=>by
  unfold octS
  rw [const_0.2.1]
  refine ⟨const_0.1,const_0.1,by decide,by simp;grind,fun h=>absurd h (by omega),by simp;grind,by simp;grind⟩
 | k+1,hk,hn=>by
  obtain ⟨a1,a2,a3,a4,a5,a6,a7⟩:=oct_all n hg g0 g1 hb b1 b3 k (by omega) (fun j hj=>hn j (by omega))
  obtain ⟨f,p,q⟩:=amp_ok hg g0 g1 k
  obtain ⟨_,_,c3,c4,c5,c6,c7,c8,c9,c10,c11⟩:=oct_step (by omega) f p q hb b1 b3 (hn k (by omega)) a1 a2 a3 a4 a6 a7
  obtain ⟨u0,u1,u2,u3,u4⟩:=unit24
  unfold octS
  refine ⟨c3,c4,c5,c9,fun _=>?_,c10,c11⟩
  have kc:((k+1:Nat):Rat)=(k:Rat)+1:=by push_cast;rfl
  rw [kc]
  rcases Nat.eq_zero_or_pos k with rfl|h0
  ·have e:single.V (octA g 0)=1:=const_1.2.1
   rw [e] at c8
   have:((0:Nat):Rat)=0:=rfl
   grind
  ·have:=a5 h0
   grind
theorem const_reach:single.fin 1065354055∧single.V 1065354055=1+1678*P2 (-24)∧single.sgn 1065354055=false:=by
 have:=V_const false 126 8389447 (.inr (by decide)) (by decide) (by decide)
 rw [show single.word false (126*8388608+8389447)=1065354055 from by decide] at this
 refine ⟨this.1,?_,this.2.2⟩
 obtain ⟨u0,u1,u2,u3,u4⟩:=unit24
 rw [this.2.1,show ((126:Nat):Int)-149=-23 from rfl]
 have e:((8389447:Nat):Rat)=8389447:=rfl
 rw [e]
 simp [sg]
 grind
theorem reach_ok {g b k:Nat} (n:Nat→Nat) (hg:single.fin g) (g0:0≤single.V g) (g1:single.V g≤1) (hb:single.fin b) (b1:1≤single.V b) (b3:single.V b≤3) (k1:1≤k) (hk:k≤10) (hn:∀ j,j<k→Noisy b (n j)) :
  single.fin (octS g (fun _=>b) k)∧single.fin (reachF g b k)∧single.V (octS g n k)≤single.V (reachF g b k)∧-single.V (octS g n k)≤single.V (reachF g b k)∧single.V (reachF g b k)≤32∧0≤single.V (reachF g b k):=by
 obtain ⟨a1,a2,a3,a4,a5,a6,a7⟩:=oct_all n hg g0 g1 hb b1 b3 k hk hn
 have a5:=a5 k1
 obtain ⟨u0,u1,u2,u3,u4⟩:=unit24
 have k0:(0:Rat)≤(k:Rat):=Rat.natCast_nonneg
 have k9:(k:Rat)≤10:=by exact_mod_cast hk
 have j1:=Rat.mul_le_mul_of_nonneg_right k9 (Rat.le_of_lt u0)
 have hr:=(mulF_spec a2 const_reach.1).2
 unfold reachF
 rw [const_reach.2.1] at hr
 generalize single.V (octS g (fun _=>b) k)=R at *
 generalize single.V (octS g n k)=S at *
 have e20:((k:Rat)+1)*P2 (-20)=16*((k:Rat)*P2 (-24))+16*P2 (-24):=by rw [Rat.add_mul,Rat.one_mul,u2];grind
 have f20:(k:Rat)*P2 (-20)=16*((k:Rat)*P2 (-24)):=by rw [u2];grind
 have l68:(k:Rat)*(68*P2 (-24))=68*((k:Rat)*P2 (-24)):=by grind
 rw [e20] at a5
 rw [f20] at a4
 rw [l68] at a6 a7
 clear e20 f20 l68
 generalize (k:Rat)*P2 (-24)=ku at *
 have j2:(1:Rat) / 2≤R:=by clear hr;grind
 have j4:R≤31:=by clear hr;grind
 have j3:=Rat.mul_le_mul_of_nonneg_right j2 (Rat.le_of_lt u0)
 have j5:=Rat.mul_le_mul_of_nonneg_right j4 (Rat.le_of_lt u0)
 have e1:R*(1+1678*P2 (-24))=R+1678*(R*P2 (-24)):=by grind
 rw [e1] at hr
 generalize R*P2 (-24)=Ru at *
 obtain ⟨f,r1,r2,r3,r4⟩:=near_32 _ _ _ hr (by clear hr;grind) (by clear hr;grind)
 have r0:=hr.nonneg f (by clear hr;grind)
 clear hr
 exact ⟨a2,f,by grind,by grind,r3,r0⟩
end Format
end Ieee
namespace Go.Proofs.YtmggflgdoioajaaGreat
open Go.ChangeShapes Go.WideShapes Go.ChangeAt Go.RowKit
open Ieee.Format (fin finE htE allFin allHt all_true all_false mulF subF addF Ht Bd divF rootF floorF easeF mixF)
open Ieee.Format (widen widen_any dmag dmag_parts narrow_of Rounds.self)
theorem dmag_V {D x:Nat} (hD:fin Ieee.double D) (hV:Ieee.double.V D=Ieee.single.V x) (hs:Ieee.double.sgn D=Ieee.single.sgn x) :
  fin Ieee.double (dmag D)∧Ieee.double.V (dmag D)=Ieee.single.V (mag x)∧Ieee.double.sgn (dmag D)=Ieee.single.sgn (mag x):=by
 obtain ⟨p,q⟩:=dmag_parts D
 obtain ⟨r,s⟩:=mag_parts x
 refine ⟨by unfold fin at *;rw [q];exact hD,?_,by rw [p,s]⟩
 unfold Ieee.Format.V at *
 rw [p,q,r,s]
 rw [hs] at hV
 cases hx:Ieee.single.sgn x
 ·rw [hx] at hV;exact hV
 ·rw [hx] at hV;simp only [Ieee.sg,if_true] at hV;simp only [Ieee.sg];grind
theorem mag_lt (x:Nat):mag x<4294967296:=by have:=Nat.mod_lt x (show 0<2147483648 by decide);unfold mag;omega
theorem mag_wide {x:Nat} (hx:fin Ieee.single x):∃ D,floatToFloatBits .f32 x .f64=some D∧D<2 ^ 64∧floatToFloatBits .f64 (dmag D) .f32=some (mag x):=by
 obtain ⟨D,a,b,c,d⟩:=widen hx
 obtain ⟨E,a',b',_,_⟩:=widen_any (x:=x) (by
  have h:Ieee.single.rung x<Ieee.single.infRung:=hx
  rw [Ieee.Format.rung_lit] at h
  have:Ieee.single.infRung=2139095040:=by decide
  omega)
 have e:D=E:=Option.some.inj (a.symm.trans a')
 obtain ⟨f,g,h⟩:=dmag_V b c d
 refine ⟨D,a,by rw [e];exact b',narrow_of f ?_ (mag_fin hx)⟩
 rw [g,h]
 exact Rounds.self (mag_fin hx) (mag_lt x)
theorem magnitude_any (x:Nat) (hx:fin Ieee.single x) (w:World):Calls Tryz.prog 176 #[.float .f32 x] w fun e w'=>e=.returned (.float .f32 (mag x))∧w=w':=by
 obtain ⟨D,a,b,c⟩:=mag_wide hx
 have ka:=fun w=>run_convert_float_float (P:=Tryz.prog) w 48 74 .f32 .f64 x D (by kernel_rfl) Tryz.underlying74 a
 have kc:=fun w=>run_convert_float_float (P:=Tryz.prog) w 74 48 .f64 .f32 (dmag D) (mag x) (by kernel_rfl) Tryz.underlying48 c
 have KS:=Lib.hid (fun w=>mathabs_any D b w)
 generalize mag x=r at *
 generalize dmag D=E at *
 clear a b c hx
 go_enter Tryz.func176,Tryz.ntmps176
 go_wp2_with fail
 refine (KS.out _).mono ?_
 rintro e w' ⟨rfl,rfl⟩
 go_wp2_with fail
 go_ret
 exact ⟨rfl,rfl⟩
open Ieee.Format (Wi const_0 const_1 const_2 const_3 near_2 mulF_spec addF_spec subF_spec Noisy octA octS reachF reach_ok unit24)
def octC (cell:Int) (k:Nat):Int:=max (cell / 2 ^ k) 1
def octF (kd seed cell x y:Int) (k:Nat):Nat:=
 if kd=1 then valF (hashTo seed (k:Int) 0 4 3) x y (octC cell k) else if kd=2 then gradF (hashTo seed (k:Int) 0 4 3) x y (octC cell k) else if kd=3 then nearF (hashTo seed (k:Int) 0 4 3) x y (octC cell k) else subF 1065353216 (mag (gradF (hashTo seed (k:Int) 0 4 3) x y (octC cell k)))
def bndF (kd:Int):Nat:=if kd=2 then 1073741824 else if kd=3 then 1077936128 else 1065353216
def fracF (kd seed cell:Int) (n g:Nat) (x y:Int):Nat:=octS g (octF kd seed cell x y) n
theorem octC_bd {cell:Int} (h1:1≤cell) (h2:cell≤4096) (k:Nat):1≤octC cell k∧octC cell k≤4096:=by
 unfold octC
 have hp:(1:Int)≤2 ^ k:=by exact_mod_cast Nat.one_le_two_pow
 have h3:cell / 2 ^ k≤cell:=Int.ediv_le_self _ (by omega)
 omega
theorem bndF_ok (kd:Int):fin Ieee.single (bndF kd)∧1≤Ieee.single.V (bndF kd)∧Ieee.single.V (bndF kd)≤3:=by
 unfold bndF
 split
 ·exact ⟨const_2.1,by rw [const_2.2.1];decide,by rw [const_2.2.1];decide⟩
 ·split
  ·exact ⟨const_3.1,by rw [const_3.2.1];decide,by rw [const_3.2.1];decide⟩
  ·exact ⟨const_1.1,by rw [const_1.2.1];decide,by rw [const_1.2.1];decide⟩
theorem ridge_ok {g:Nat} (h:Wi (2+16*Ieee.P2 (-24)) g):fin Ieee.single (mag g)∧fin Ieee.single (subF 1065353216 (mag g))∧-(1+17*Ieee.P2 (-24))≤Ieee.single.V (subF 1065353216 (mag g))∧Ieee.single.V (subF 1065353216 (mag g))≤1+Ieee.P2 (-24):=by
 obtain ⟨f,a,b⟩:=h
 obtain ⟨u0,_,_,_,u4⟩:=unit24
 have fm:=mag_fin f
 have hv:0≤Ieee.single.V (mag g)∧Ieee.single.V (mag g)≤2+16*Ieee.P2 (-24):=by
  obtain ⟨r,s⟩:=mag_parts g
  have:Ieee.single.V (mag g)=Ieee.single.V g∨Ieee.single.V (mag g)=-Ieee.single.V g:=by
   unfold Ieee.Format.V
   rw [r,s]
   cases hx:Ieee.single.sgn g
   ·left;rfl
   ·right;simp only [Ieee.sg];grind
  have h0:0≤Ieee.single.V (mag g):=by
   unfold Ieee.Format.V
   rw [s]
   have:=Ieee.single.rv_nonneg (Ieee.single.rung (mag g))
   simp only [Ieee.sg];grind
  exact ⟨h0,by rcases this with h|h<;>rw [h]<;>grind⟩
 have hs:=(subF_spec const_1.1 fm).2
 rw [const_1.2.1] at hs
 obtain ⟨fw,p,q,_,_⟩:=near_2 _ _ _ hs (by grind) (by grind)
 exact ⟨fm,fw,by grind,by grind⟩
theorem octF_noisy (kd seed cell x y:Int) (k:Nat) (h1:1≤cell) (h2:cell≤4096):Noisy (bndF kd) (octF kd seed cell x y k):=by
 obtain ⟨c1,c2⟩:=octC_bd h1 h2 k
 obtain ⟨u0,_,_,u3,u4⟩:=unit24
 have wv:=valF_wi (hashTo seed (k:Int) 0 4 3) x y (octC cell k) c1 c2
 have wg:=gradF_wi (hashTo seed (k:Int) 0 4 3) x y (octC cell k) c1 c2
 have wn:=near_next (hashTo seed (k:Int) 0 4 3) x y (octC cell k) c1 c2
 obtain ⟨_,r1,r2,r3⟩:=ridge_ok wg
 unfold octF bndF Noisy
 rw [u3]
 by_cases k1:kd=1
 ·rw [if_pos k1,if_neg (by omega),if_neg (by omega),const_1.2.1]
  exact ⟨wv.1,by have:=wv.2.1;grind,by have:=wv.2.2;grind⟩
 ·rw [if_neg k1]
  by_cases k2:kd=2
  ·rw [if_pos k2,if_pos k2,const_2.2.1]
   exact ⟨wg.1,by have:=wg.2.1;grind,by have:=wg.2.2;grind⟩
  ·rw [if_neg k2,if_neg k2]
   by_cases k3:kd=3
   ·rw [if_pos k3,if_pos k3,const_3.2.1]
    exact ⟨wn.1,by have:=wn.2.2.1;grind,by have:=wn.2.2.2.1;grind⟩
   ·rw [if_neg k3,if_neg k3,const_1.2.1]
    exact ⟨r1,by grind,by grind⟩
open Ieee.Format (bits_sub)
def frV (kd seed cell n:Int) (g:Nat):Value:=.agg #[.int .i64 kd,.int .u32 seed,.int .i64 cell,.int .i64 n,.float .f32 g]
set_option maxRecDepth 100000 in
set_option maxHeartbeats 1000000 in
theorem octave_any (kd seed cell n x y:Int) (g k:Nat) (w:World) (hk:k<10) (h1:1≤cell) (h2:cell≤4096) (hx:-8388608≤x) (hx2:x≤8388608) (hy:-8388608≤y) (hy2:y≤8388608) :
  Calls Tryz.prog 137 #[frV kd seed cell n g,.int .i64 (k:Int),.int .i64 x,.int .i64 y] w fun e w'=>e=.returned (.float .f32 (octF kd seed cell x y k))∧Below w.heap.size w w':=by
 obtain ⟨c1,c2⟩:=octC_bd h1 h2 k
 have K0:∀ w,Calls Tryz.prog 96 #[.int .u32 seed,.int .i64 (k:Int),.int .i64 0,.int .i64 4] w fun e w'=>e=.returned (.int .u32 (hashTo seed (k:Int) 0 4 3))∧w'=w:=fun w=>(hash1 seed k 0 4 w).mono fun _ _ h=>⟨h.1,h.2.symm⟩
 have KH:=Lib.hid K0
 have KV:=Lib.hid (fun w=>nvalue_any (hashTo seed (k:Int) 0 4 3) x y (octC cell k) w hx hx2 hy hy2 c1 c2)
 have KG:=Lib.hid (fun w=>gradient_any (hashTo seed (k:Int) 0 4 3) x y (octC cell k) w hx hx2 hy hy2 c1 c2)
 have KC:=Lib.hid (fun w=>cells_any (hashTo seed (k:Int) 0 4 3) x y (octC cell k) w hx hx2 hy hy2 c1 c2)
 have KM:=Lib.hid (fun w=>magnitude_any (gradF (hashTo seed (k:Int) 0 4 3) x y (octC cell k)) (gradF_wi _ _ _ _ c1 c2).1 w)
 obtain ⟨f1,f2,_⟩:=ridge_ok (gradF_wi (hashTo seed (k:Int) 0 4 3) x y (octC cell k) c1 c2)
 have k3:=fun w'=>run_float_arith (P:=Tryz.prog) w' .sub 48 .f32 _ _ _ (bits_sub Ieee.Format.const_1.1 f1)
 have hk0:(0:Int)≤(k:Int):=by omega
 have hk1:(k:Int)≤64:=by omega
 have ht:((k:Int)).toNat=k:=by simp
 unfold octF frV
 unfold octC at *
 generalize hashTo seed (k:Int) 0 4 3=s at *
 generalize hq:cell / 2 ^ k=q at *
 clear K0 c1 c2 h1 h2 hx hx2 hy hy2 hk
 generalize valF s x y (max q 1)=v1 at *
 generalize gradF s x y (max q 1)=v2 at *
 generalize nearF s x y (max q 1)=v3 at *
 generalize nextF s x y (max q 1)=v4 at *
 generalize atP s x y (max q 1)=v5 at *
 obtain ⟨px,py⟩:=v5
 unfold ptV at KC
 generalize mag v2=v6 at *
 generalize subF 1065353216 v6=v7 at *
 clear f1 f2
 by_cases a1:kd=1
 ·rw [if_pos a1]
  subst a1
  go_enter Tryz.func137,Tryz.ntmps137
  go_wp2_with fail
  generalize hW0:w.alloc (.cells #[.int .i64 1,.int .u32 seed,.int .i64 cell,.int .i64 n,.float .f32 g] 84)=W0 at *
  have A0:Blk W0 w.heap.size #[.int .i64 1,.int .u32 seed,.int .i64 cell,.int .i64 n,.float .f32 g] 84:=by subst hW0;exact Blk.new _ _ _
  have B0:Below w.heap.size w W0:=by subst hW0;exact qBl
  clear hW0
  have p0:=A0.cell 0
  have p1:=A0.cell 1
  have p2:=A0.cell 2
  simp at p0 p1 p2
  have l0:=A0.lt
  have HB0:=Lib.hid B0
  clear B0
  go_quiet (first|(go_at_call 96;with_reducible exact Calls.quiet_of_same (KH.out _)))
  have A1:=A0.drewN nq
  have HB1:=Lib.hid (below_drewN HB0.out nq)
  clear A0 HB0 p0 p1 p2 l0
  generalize W0.drewN nq=W1 at *
  generalize max q 1=m at *
  have p0:=A1.cell 0
  simp at p0
  have l0:=A1.lt
  clear A1 KH
  go_wp2_with fail
  refine (KV.out _).mono ?_
  rintro e w1 ⟨rfl,b1⟩
  have HB2:=Lib.hid (HB1.out.trans (b1.mono HB1.out.size))
  clear b1 HB1 p0 l0
  go_wp2_with fail
  go_ret
  exact ⟨rfl,HB2.out⟩
 ·rw [if_neg a1]
  by_cases a2:kd=2
  ·rw [if_pos a2]
   subst a2
   go_enter Tryz.func137,Tryz.ntmps137
   go_wp2_with fail
   generalize hW0:w.alloc (.cells #[.int .i64 2,.int .u32 seed,.int .i64 cell,.int .i64 n,.float .f32 g] 84)=W0 at *
   have A0:Blk W0 w.heap.size #[.int .i64 2,.int .u32 seed,.int .i64 cell,.int .i64 n,.float .f32 g] 84:=by subst hW0;exact Blk.new _ _ _
   have B0:Below w.heap.size w W0:=by subst hW0;exact qBl
   clear hW0
   have p0:=A0.cell 0
   have p1:=A0.cell 1
   have p2:=A0.cell 2
   simp at p0 p1 p2
   have l0:=A0.lt
   have HB0:=Lib.hid B0
   clear B0
   go_quiet (first|(go_at_call 96;with_reducible exact Calls.quiet_of_same (KH.out _)))
   have A1:=A0.drewN nq
   have HB1:=Lib.hid (below_drewN HB0.out nq)
   clear A0 HB0 p0 p1 p2 l0
   generalize W0.drewN nq=W1 at *
   generalize max q 1=m at *
   have p0:=A1.cell 0
   simp at p0
   have l0:=A1.lt
   clear A1 KH
   go_wp2_with fail
   refine (KG.out _).mono ?_
   rintro e w1 ⟨rfl,b1⟩
   have HB2:=Lib.hid (HB1.out.trans (b1.mono HB1.out.size))
   clear b1 HB1 p0 l0
   go_wp2_with fail
   go_ret
   exact ⟨rfl,HB2.out⟩
  ·rw [if_neg a2]
   by_cases a3:kd=3
   ·rw [if_pos a3]
    subst a3
    go_enter Tryz.func137,Tryz.ntmps137
    go_wp2_with fail
    generalize hW0:w.alloc (.cells #[.int .i64 3,.int .u32 seed,.int .i64 cell,.int .i64 n,.float .f32 g] 84)=W0 at *
    have A0:Blk W0 w.heap.size #[.int .i64 3,.int .u32 seed,.int .i64 cell,.int .i64 n,.float .f32 g] 84:=by subst hW0;exact Blk.new _ _ _
    have B0:Below w.heap.size w W0:=by subst hW0;exact qBl
    clear hW0
    have p0:=A0.cell 0
    have p1:=A0.cell 1
    have p2:=A0.cell 2
    simp at p0 p1 p2
    have l0:=A0.lt
    have HB0:=Lib.hid B0
    clear B0
    go_quiet (first|(go_at_call 96;with_reducible exact Calls.quiet_of_same (KH.out _)))
    have A1:=A0.drewN nq
    have HB1:=Lib.hid (below_drewN HB0.out nq)
    clear A0 HB0 p0 p1 p2 l0
    generalize W0.drewN nq=W1 at *
    generalize max q 1=m at *
    have p0:=A1.cell 0
    simp at p0
    have l0:=A1.lt
    clear A1 KH
    go_wp2_with fail
    refine (KC.out _).mono ?_
    rintro e w1 ⟨rfl,b1⟩
    have HB2:=Lib.hid (HB1.out.trans (b1.mono HB1.out.size))
    clear b1 HB1 p0 l0
    go_upto_region 9 with fail
    have b3:Below w1.heap.size w1 (w1.alloc (.cells #[.int .i64 px,.int .i64 py] 185)):=qBl
    have HB3:=Lib.hid (HB2.out.trans (b3.mono HB2.out.size))
    clear b3 HB2
    generalize w1.alloc (.cells #[.int .i64 px,.int .i64 py] 185)=w2 at *
    go_wp2_with fail
    go_ret
    exact ⟨rfl,HB3.out⟩
   ·rw [if_neg a3]
    go_enter Tryz.func137,Tryz.ntmps137
    go_wp2_with fail
    generalize hW0:w.alloc (.cells #[.int .i64 kd,.int .u32 seed,.int .i64 cell,.int .i64 n,.float .f32 g] 84)=W0 at *
    have A0:Blk W0 w.heap.size #[.int .i64 kd,.int .u32 seed,.int .i64 cell,.int .i64 n,.float .f32 g] 84:=by subst hW0;exact Blk.new _ _ _
    have B0:Below w.heap.size w W0:=by subst hW0;exact qBl
    clear hW0
    have p0:=A0.cell 0
    have p1:=A0.cell 1
    have p2:=A0.cell 2
    simp at p0 p1 p2
    have l0:=A0.lt
    have HB0:=Lib.hid B0
    clear B0
    go_quiet (first|(go_at_call 96;with_reducible exact Calls.quiet_of_same (KH.out _)))
    have A1:=A0.drewN nq
    have HB1:=Lib.hid (below_drewN HB0.out nq)
    clear A0 HB0 p0 p1 p2 l0
    generalize W0.drewN nq=W1 at *
    generalize max q 1=m at *
    have p0:=A1.cell 0
    simp at p0
    have l0:=A1.lt
    clear A1 KH
    go_wp2_with fail
    refine (KG.out _).mono ?_
    rintro e w1 ⟨rfl,b1⟩
    have HB2:=Lib.hid (HB1.out.trans (b1.mono HB1.out.size))
    clear b1 HB1 p0 l0
    go_wp2_with fail
    refine (KM.out _).mono ?_
    rintro e w2 ⟨rfl,rfl⟩
    go_wp2_with fail
    go_ret
    exact ⟨rfl,HB2.out⟩
open Ieee.Format (bits_sub bits_mul bits_add octA octS amp_ok oct_all oct_step Noisy)
structure OctOk (g:Nat) (ψ:Nat→Nat) (n:Nat):Prop where
 fg:fin Ieee.single g
 fa:∀ k,fin Ieee.single (octA g k)
 fn:∀ k,k<n→fin Ieee.single (ψ k)
 fp:∀ k,k<n→fin Ieee.single (mulF (octA g k) (ψ k))
 fs:∀ k,k≤n→fin Ieee.single (octS g ψ k)
theorem oct_ok {g b n:Nat} (ψ:Nat→Nat) (hg:fin Ieee.single g) (g0:0≤Ieee.single.V g) (g1:Ieee.single.V g≤1) (hb:fin Ieee.single b) (b1:1≤Ieee.single.V b) (b3:Ieee.single.V b≤3) (hn:n≤10) (h:∀ j,j<n→Noisy b (ψ j)):OctOk g ψ n∧OctOk g (fun _=>b) n:=by
 have hall:=fun k (hk:k≤n)=>oct_all ψ hg g0 g1 hb b1 b3 k (by omega) (fun j hj=>h j (by omega))
 have hamp:=amp_ok hg g0 g1
 have hst:=fun k (hk:k<n)=>(by
  obtain ⟨a1,a2,a3,a4,a5,a6,a7⟩:=hall k (by omega)
  obtain ⟨f,p,q⟩:=hamp k
  exact oct_step (by omega) f p q hb b1 b3 (h k hk) a1 a2 a3 a4 a6 a7:_)
 exact ⟨⟨hg,fun k=>(hamp k).1,fun k hk=>(h k hk).1,fun k hk=>(hst k hk).1,fun k hk=>(hall k hk).1⟩,⟨hg,fun k=>(hamp k).1,fun _ _=>hb,fun k hk=>(hst k hk).2.1,fun k hk=>(hall k hk).2.1⟩⟩
set_option maxRecDepth 100000 in
set_option maxHeartbeats 1000000 in
theorem octaves_any (gn:Nat) (caps:Array Value) (ψ:Nat→Nat) (kd seed cell:Int) (n g:Nat) (w:World) (hn:n≤10) (ok:OctOk g ψ n)
  (eg:∀ args w,(callFunc gn args).run Tryz.prog w=.ok (.enter gn args) w)
  (hf:∀ k:Nat,k<n→∀ W',Below w.heap.size w W'→Calls Tryz.prog gn (#[.int .i64 (k:Int)] ++ caps) W' fun e w'=>e=.returned (.float .f32 (ψ k))∧Below W'.heap.size W' w') :
  Calls Tryz.prog 134 #[frV kd seed cell n g,.func (.func gn) #[] caps] w fun e w'=>e=.returned (.float .f32 (octS g ψ n))∧Below w.heap.size w w':=by
 have HF:=Lib.hid hf
 have HK:=Lib.hid ok
 clear hf ok
 unfold frV
 go_enter Tryz.func134,Tryz.ntmps134
 go_wp2_with fail
 have A0:=Blk.new w #[.int .i64 kd,.int .u32 seed,.int .i64 cell,.int .i64 (n:Int),.float .f32 g] 84
 have B0:Below w.heap.size w (w.alloc (.cells #[.int .i64 kd,.int .u32 seed,.int .i64 cell,.int .i64 (n:Int),.float .f32 g] 84)):=qBl
 generalize w.alloc (.cells #[.int .i64 kd,.int .u32 seed,.int .i64 cell,.int .i64 (n:Int),.float .f32 g] 84)=W0 at *
 go_loopw [5,6,7,10] (fun s a _ i wr=>∃ k:Nat,k≤n∧i=.int .i64 (k:Int)∧s=.float .f32 (octS g ψ k)∧a=.float .f32 (octA g k)∧Below w.heap.size w wr∧Blk wr w.heap.size #[.int .i64 kd,.int .u32 seed,.int .i64 cell,.int .i64 (n:Int),.float .f32 g] 84) (fun _ _ _ i _=>n-(intOf i).toNat)
 case atStart=>exact ⟨0,by omega,rfl,rfl,rfl,B0,A0⟩
 case round =>
  obtain ⟨k,hk,rfl,rfl,rfl,B,A⟩:=hrel
  have HB:=Lib.hid B
  have HA:=Lib.hid A
  clear B A A0 B0
  by_cases hlt:k<n
  ·have HC:=Lib.hid (HF.out k hlt wr HB.out)
   have k1:=fun w'=>run_float_arith (P:=Tryz.prog) w' .mul 48 .f32 _ _ _ (bits_mul (HK.out.fa k) (HK.out.fn k hlt))
   have k2:=fun w'=>run_float_arith (P:=Tryz.prog) w' .add 48 .f32 _ _ _ (bits_add (HK.out.fs k hk) (HK.out.fp k hlt))
   have k3:=fun w'=>run_float_arith (P:=Tryz.prog) w' .mul 48 .f32 _ _ _ (bits_mul (HK.out.fa k) HK.out.fg)
   have e1:octS g ψ (k+1)=addF (octS g ψ k) (mulF (octA g k) (ψ k)):=rfl
   have e2:octA g (k+1)=mulF (octA g k) g:=rfl
   rw [←e1] at k2
   rw [←e2] at k3
   clear e1 e2
   generalize hz1:octS g ψ (k+1)=z1 at *
   generalize hz2:octA g (k+1)=z2 at *
   have HZ1:=Lib.hid hz1
   have HZ2:=Lib.hid hz2
   clear hz1 hz2
   generalize octS g ψ k=z3 at *
   generalize octA g k=z4 at *
   generalize mulF z4 (ψ k)=z5 at *
   generalize ψ k=z6 at *
   have kl:(k:Int)<(n:Int):=by omega
   have kw:IntKind.i64.wrap ((k:Int)+1)=((k+1:Nat):Int):=IntWalk.i64_in _ (by omega)
   go_wp2_with fail
   refine HC.out.mono ?_
   rintro e w1 ⟨rfl,b1⟩
   have HB1:=Lib.hid (HB.out.trans (b1.mono HB.out.size))
   have HA1:=Lib.hid (HA.out.below b1 HA.out.lt)
   have p4:=HA1.out.cell 4
   simp at p4
   have l4:=HA1.out.lt
   clear b1 HB HA
   go_wp2_with fail
   go_round
   case rel=>exact ⟨k+1,hlt,by go_num,by rw [HZ1.out],by rw [HZ2.out],HB1.out,HA1.out⟩
   case measure=>simp [intOf];omega
  ·obtain rfl:k=n:=by omega
   have kl:¬ (k:Int)<(k:Int):=by omega
   go_wp2_with fail
   go_ret
   exact ⟨rfl,HB.out⟩
open Ieee.Format (octA octS Noisy)
def frC (kd seed cell n:Int) (g:Nat):Array Value:=#[.int .i64 kd,.int .u32 seed,.int .i64 cell,.int .i64 n,.float .f32 g]
set_option maxRecDepth 100000 in
set_option maxHeartbeats 1000000 in
theorem fracfn_any (kd seed cell n x y:Int) (g k:Nat) (p px py:Nat) (w:World) (hk:k<10) (h1:1≤cell) (h2:cell≤4096) (hx:-8388608≤x) (hx2:x≤8388608) (hy:-8388608≤y) (hy2:y≤8388608)
  (A:Blk w p (frC kd seed cell n g) 84) (Bx:Blk w px #[.int .i64 x] 3) (By:Blk w py #[.int .i64 y] 3) :
  Calls Tryz.prog 136 #[.int .i64 (k:Int),.pointer (some ⟨p,0,none⟩),.pointer (some ⟨px,0,none⟩),.pointer (some ⟨py,0,none⟩)] w fun e w'=>e=.returned (.float .f32 (octF kd seed cell x y k))∧Below w.heap.size w w':=by
 have KO:=Lib.hid (fun w=>octave_any kd seed cell n x y g k w hk h1 h2 hx hx2 hy hy2)
 generalize octF kd seed cell x y k=r at *
 unfold frV at KO
 unfold frC at A
 have p0:=A.cell 0
 have p1:=A.cell 1
 have p2:=A.cell 2
 have p3:=A.cell 3
 have p4:=A.cell 4
 have q0:=Bx.cell 0
 have q1:=By.cell 0
 simp at p0 p1 p2 p3 p4 q0 q1
 have l0:=A.lt
 have l1:=Bx.lt
 have l2:=By.lt
 clear A Bx By h1 h2 hx hx2 hy hy2 hk
 go_enter Tryz.func136,Tryz.ntmps136
 go_wp2_with fail
 refine (KO.out _).mono ?_
 rintro e w1 ⟨rfl,b1⟩
 have HB:=Lib.hid b1
 clear b1
 go_wp2_with fail
 go_ret
 exact ⟨rfl,HB.out⟩
set_option maxRecDepth 100000 in
set_option maxHeartbeats 1000000 in
theorem fractal_any (kd seed cell x y:Int) (n g:Nat) (w:World) (hn:n≤10) (hg:Share g) (h1:1≤cell) (h2:cell≤4096) (hx:-8388608≤x) (hx2:x≤8388608) (hy:-8388608≤y) (hy2:y≤8388608) :
  Calls Tryz.prog 93 #[frV kd seed cell n g,.int .i64 x,.int .i64 y] w fun e w'=>e=.returned (.float .f32 (fracF kd seed cell n g x y))∧Below w.heap.size w w':=by
 obtain ⟨b1,b2,b3⟩:=bndF_ok kd
 obtain ⟨ok,_⟩:=oct_ok (octF kd seed cell x y) hg.1 hg.2.1 hg.2.2 b1 b2 b3 hn (fun k _=>octF_noisy kd seed cell x y k h1 h2)
 have KF:=Lib.hid (fun p px py w (A:Blk w p (frC kd seed cell n g) 84) (Bx:Blk w px #[.int .i64 x] 3) (By:Blk w py #[.int .i64 y] 3) =>
  octaves_any 136 #[.pointer (some ⟨p,0,none⟩),.pointer (some ⟨px,0,none⟩),.pointer (some ⟨py,0,none⟩)] (octF kd seed cell x y) kd seed cell n g w hn ok (enters_of Tryz.func136 (by kernel_rfl) rfl)
   (fun k hk W' hb=>(by have h:=fracfn_any kd seed cell n x y g k p px py W' (by omega) h1 h2 hx hx2 hy hy2 (A.below hb A.lt) (Bx.below hb Bx.lt) (By.below hb By.lt);exact h)))
 clear ok b1 b2 b3 hg h1 h2 hx hx2 hy hy2 hn
 unfold fracF
 generalize octS g (octF kd seed cell x y) n=r at *
 unfold frV frC at *
 generalize hW0:((w.alloc (.cells #[.int .i64 kd,.int .u32 seed,.int .i64 cell,.int .i64 (n:Int),.float .f32 g] 84)).alloc (.cells #[.int .i64 x] 3)).alloc (.cells #[.int .i64 y] 3)=W0
 have A0:Blk W0 w.heap.size #[.int .i64 kd,.int .u32 seed,.int .i64 cell,.int .i64 (n:Int),.float .f32 g] 84:=by subst hW0;exact ((Blk.new _ _ _).alloc _).alloc _
 have A1:Blk W0 (w.heap.size+1) #[.int .i64 x] 3:=by
  subst hW0
  have:=(Blk.new (w.alloc (.cells #[.int .i64 kd,.int .u32 seed,.int .i64 cell,.int .i64 (n:Int),.float .f32 g] 84)) #[.int .i64 x] 3).alloc (.cells #[.int .i64 y] 3)
  simpa using this
 have A2:Blk W0 (w.heap.size+1+1) #[.int .i64 y] 3:=by
  subst hW0
  have:=Blk.new ((w.alloc (.cells #[.int .i64 kd,.int .u32 seed,.int .i64 cell,.int .i64 (n:Int),.float .f32 g] 84)).alloc (.cells #[.int .i64 x] 3)) #[.int .i64 y] 3
  simpa using this
 have B0:Below w.heap.size w W0:=by subst hW0;exact qBl
 have HW0:=Lib.hid hW0
 clear hW0
 have KF1:=Lib.hid (KF.out _ _ _ _ A0 A1 A2)
 have p0:=A0.cell 0
 have p1:=A0.cell 1
 have p2:=A0.cell 2
 have p3:=A0.cell 3
 have p4:=A0.cell 4
 simp at p0 p1 p2 p3 p4
 have l0:=A0.lt
 have HB0:=Lib.hid B0
 clear A0 A1 A2 B0 KF
 go_enter Tryz.func93,Tryz.ntmps93
 go_upto_region 1 with fail
 rw [HW0.out]
 go_wp2_with fail
 refine KF1.out.mono ?_
 rintro e w1 ⟨rfl,b1⟩
 have HB:=Lib.hid (HB0.out.trans (b1.mono HB0.out.size))
 clear b1
 go_wp2_with fail
 go_ret
 exact ⟨rfl,HB.out⟩
theorem shareE_two (t:Nat):shareE2 t 1065353216=shareE t:=by
 unfold shareE2 shareE
 by_cases hf:fin Ieee.single t
 ·rw [if_pos hf]
  by_cases ht:htE [t]=0
  ·rw [if_neg (by omega)]
   cases lss t 0<;>cases gtr t 1065353216<;>rfl
  ·rw [if_pos ht]
   have a1:allFin [t]=true:=by unfold allFin;simp [hf]
   have n1:¬ Ht t:=fun hc=>ht (Ieee.Format.htE_of_ht (Ieee.Format.allHt_iff.2 (by simpa using hc)))
   have h3:htE [t]=3:=Ieee.Format.htE_far a1 (by cases hh:allHt [t];rfl;exact absurd (Ieee.Format.allHt_iff.1 hh t (by simp)) n1)
   rw [h3]
   cases h:(lss t 0 || gtr t 1065353216) with
   | true=>rfl
   | false =>
    exfalso
    obtain ⟨_,b1,b2⟩:=share_of hf h
    have p:=Ieee.P2_mono (show (0:Int)≤20 by omega)
    rw [Ieee.P2_zero] at p
    exact n1 (Ieee.Format.Ht.of ⟨by grind,by grind⟩)
 ·rw [if_neg hf]
  have h0:htE [t]=2:=Ieee.Format.htE_bad (by unfold allFin;simp [hf])
  rw [h0];rfl
theorem shareE_zero {t:Nat} (h:shareE t=0):Share t:=by
 unfold shareE at h
 by_cases hf:fin Ieee.single t
 ·rw [if_pos hf] at h
  cases hl:(lss t 0 || gtr t 1065353216) with
  | true=>rw [hl] at h;simp at h
  | false=>exact share_of hf hl
 ·rw [if_neg hf] at h;omega
def frE (kd cell n:Int) (g:Nat):Int:=if kd<1∨kd > 4 then 1 else if cell<1∨cell > 4096∨n<1∨n > 10 then 3 else shareE g
theorem frE_zero {kd cell n:Int} {g:Nat} (h:frE kd cell n g=0):(1≤kd∧kd≤4)∧(1≤cell∧cell≤4096)∧(1≤n∧n≤10)∧Share g:=by
 unfold frE at h
 split at h
 ·omega
 ·split at h
  ·omega
  ·exact ⟨by omega,by omega,by omega,shareE_zero h⟩
set_option maxRecDepth 100000 in
set_option maxHeartbeats 1000000 in
theorem frcheck_any (kd seed cell n:Int) (g:Nat) (hg:g<4294967296) (w:World) :
  Calls Tryz.prog 52 #[frV kd seed cell n g] w fun e w'=>e=.returned (.int .i64 (frE kd cell n g))∧Below w.heap.size w w':=by
 have KS:=Lib.hid (fun w=>share_any g hg w)
 try rw [shareE_two] at KS
 unfold frE frV
 clear hg
 generalize shareE g=s at *
 by_cases a1:kd<1
 ·simp only [a1,true_or,if_true]
  go_enter Tryz.func52,Tryz.ntmps52
  go_wp2_with fail
  go_ret
  exact ⟨rfl,qBl⟩
 ·by_cases a2:kd > 4
  ·simp only [a1,a2,false_or,if_true]
   go_enter Tryz.func52,Tryz.ntmps52
   go_wp2_with fail
   go_ret
   exact ⟨rfl,qBl⟩
  ·simp only [a1,a2,or_self,if_false]
   by_cases a3:cell<1
   ·simp only [a3,true_or,if_true]
    go_enter Tryz.func52,Tryz.ntmps52
    go_wp2_with fail
    go_ret
    exact ⟨rfl,qBl⟩
   ·by_cases a4:cell > 4096
    ·simp only [a3,a4,false_or,true_or,if_true]
     go_enter Tryz.func52,Tryz.ntmps52
     go_wp2_with fail
     go_ret
     exact ⟨rfl,qBl⟩
    ·by_cases a5:n<1
     ·simp only [a3,a4,a5,false_or,true_or,if_true]
      go_enter Tryz.func52,Tryz.ntmps52
      go_wp2_with fail
      go_ret
      exact ⟨rfl,qBl⟩
     ·by_cases a6:n > 10
      ·simp only [a3,a4,a5,a6,false_or,if_true]
       go_enter Tryz.func52,Tryz.ntmps52
       go_wp2_with fail
       go_ret
       exact ⟨rfl,qBl⟩
      ·simp only [a3,a4,a5,a6,or_self,if_false]
       go_enter Tryz.func52,Tryz.ntmps52
       go_wp2_with fail
       have b0:Below w.heap.size w (w.alloc (.cells #[.int .i64 kd,.int .u32 seed,.int .i64 cell,.int .i64 n,.float .f32 g] 84)):=qBl
       refine (KS.out _).mono ?_
       rintro e w1 ⟨rfl,b1⟩
       have HB:=Lib.hid (b0.trans (b1.mono b0.size))
       clear b0 b1
       go_wp2_with fail
       go_ret
       exact ⟨rfl,HB.out⟩
open Ieee.Format (bits_mul octA octS reachF const_1)
theorem frE_nat {kd cell n:Int} {g:Nat} (h:frE kd cell n g=0):∃ m:Nat,n=(m:Int)∧1≤m∧m≤10:=by
 obtain ⟨_,_,h3,_⟩:=frE_zero h
 exact ⟨n.toNat,by omega,by omega,by omega⟩
set_option maxRecDepth 100000 in
theorem reachfn_any (b k:Nat) (p:Nat) (w:World) (hp:Blk w p #[.float .f32 b] 48) :
  Calls Tryz.prog 135 #[.int .i64 (k:Int),.pointer (some ⟨p,0,none⟩)] w fun e w'=>e=.returned (.float .f32 b)∧Below w.heap.size w w':=by
 have c0:=hp.cell 0
 simp at c0
 have l0:=hp.lt
 clear hp
 go_enter Tryz.func135,Tryz.ntmps135
 go_wp2_with fail
 go_ret
 exact ⟨rfl,qBl⟩
set_option maxRecDepth 100000 in
set_option maxHeartbeats 1000000 in
theorem reach_any (kd seed cell:Int) (n g:Nat) (w:World) (hn:n≤10) (h1:1≤n) (hg:Share g) :
  Calls Tryz.prog 88 #[frV kd seed cell n g] w fun e w'=>e=.returned (.float .f32 (reachF g (bndF kd) n))∧Below w.heap.size w w':=by
 obtain ⟨b1,b2,b3⟩:=bndF_ok kd
 obtain ⟨_,ok⟩:=oct_ok (b:=bndF kd) (fun _=>bndF kd) hg.1 hg.2.1 hg.2.2 b1 b2 b3 hn (fun k _=>⟨b1,by have:=(Ieee.P2_pos (-19));grind,by have:=(Ieee.P2_pos (-19));grind⟩)
 have k3:=fun w'=>run_float_arith (P:=Tryz.prog) w' .mul 48 .f32 _ _ _ (bits_mul (ok.fs n (Nat.le_refl _)) Ieee.Format.const_reach.1)
 have KF:=Lib.hid (fun p w (A:Blk w p #[.float .f32 (bndF kd)] 48) =>
  octaves_any 135 #[.pointer (some ⟨p,0,none⟩)] (fun _=>bndF kd) kd seed cell n g w hn ok (enters_of Tryz.func135 (by kernel_rfl) rfl)
   (fun k hk W' hb=>(by have h:=reachfn_any (bndF kd) k p W' (A.below hb A.lt);exact h)))
 unfold reachF
 clear ok b1 b2 b3 hg h1 hn
 generalize mulF (octS g (fun _=>bndF kd) n) 1065354055=r at *
 generalize octS g (fun _=>bndF kd) n=s at *
 unfold bndF at KF
 unfold frV at *
 by_cases a1:kd=2
 ·rw [if_pos a1] at KF
  subst a1
  go_enter Tryz.func88,Tryz.ntmps88
  go_upto_region 7 with fail
  generalize hW0:(w.alloc (.cells #[.int .i64 2,.int .u32 seed,.int .i64 cell,.int .i64 (n:Int),.float .f32 g] 84)).alloc (.cells #[.float .f32 1073741824] 48)=W0
  have A0:Blk W0 w.heap.size #[.int .i64 2,.int .u32 seed,.int .i64 cell,.int .i64 (n:Int),.float .f32 g] 84:=by subst hW0;exact (Blk.new _ _ _).alloc _
  have A1:Blk W0 (w.heap.size+1) #[.float .f32 1073741824] 48:=by
   subst hW0
   have:=Blk.new (w.alloc (.cells #[.int .i64 2,.int .u32 seed,.int .i64 cell,.int .i64 (n:Int),.float .f32 g] 84)) #[.float .f32 1073741824] 48
   simpa using this
  exact qx35
 ·rw [if_neg a1] at KF
  by_cases a2:kd=3
  ·rw [if_pos a2] at KF
   subst a2
   go_enter Tryz.func88,Tryz.ntmps88
   go_upto_region 7 with fail
   generalize hW0:(w.alloc (.cells #[.int .i64 3,.int .u32 seed,.int .i64 cell,.int .i64 (n:Int),.float .f32 g] 84)).alloc (.cells #[.float .f32 1077936128] 48)=W0
   have A0:Blk W0 w.heap.size #[.int .i64 3,.int .u32 seed,.int .i64 cell,.int .i64 (n:Int),.float .f32 g] 84:=by subst hW0;exact (Blk.new _ _ _).alloc _
   have A1:Blk W0 (w.heap.size+1) #[.float .f32 1077936128] 48:=by
    subst hW0
    have:=Blk.new (w.alloc (.cells #[.int .i64 3,.int .u32 seed,.int .i64 cell,.int .i64 (n:Int),.float .f32 g] 84)) #[.float .f32 1077936128] 48
    simpa using this
   exact qx35
  ·rw [if_neg a2] at KF
   go_enter Tryz.func88,Tryz.ntmps88
   go_upto_region 7 with fail
   generalize hW0:(w.alloc (.cells #[.int .i64 kd,.int .u32 seed,.int .i64 cell,.int .i64 (n:Int),.float .f32 g] 84)).alloc (.cells #[.float .f32 1065353216] 48)=W0
   have A0:Blk W0 w.heap.size #[.int .i64 kd,.int .u32 seed,.int .i64 cell,.int .i64 (n:Int),.float .f32 g] 84:=by subst hW0;exact (Blk.new _ _ _).alloc _
   have A1:Blk W0 (w.heap.size+1) #[.float .f32 1065353216] 48:=by
    subst hW0
    have:=Blk.new (w.alloc (.cells #[.int .i64 kd,.int .u32 seed,.int .i64 cell,.int .i64 (n:Int),.float .f32 g] 84)) #[.float .f32 1065353216] 48
    simpa using this
   exact qx35
end Go.Proofs.YtmggflgdoioajaaGreat
namespace Ieee
namespace Format
open Go
theorem Rounds.abs_mono {x y:Rat} {s:Bool} {w v:Nat} (h:single.Rounds x s w) (h':single.Rounds y false v) (fw:single.fin w) (fv:single.fin v) (h1:x≤y) (h2:-x≤y):single.V w≤single.V v∧-single.V w≤single.V v:=by
 obtain ⟨r,rfl,hr⟩:=h
 have l1:=(single.fin_word_iff s r).1 fw
 have p:=single.rv_nonneg r
 have fw':single.fin (single.word false (min r single.infRung)):=(single.fin_word_iff false r).2 l1
 have hm:single.Rounds (sg s*x) false (single.word false (min r single.infRung)):=⟨r,rfl,by simpa [sg] using hr⟩
 have k:=Rounds.mono hm h' fw' fv (by cases s<;>simp [sg]<;>grind)
 rw [single.V_word l1] at k ⊢
 cases s<;>simp [sg] at k ⊢<;>constructor<;>grind
theorem const_64:single.fin 1115684864∧single.V 1115684864=64∧single.sgn 1115684864=false:=by
 have:=V_const false 132 8388608 (.inr (by decide)) (by decide) (by decide)
 rw [show single.word false (132*8388608+8388608)=1115684864 from by decide] at this
 refine ⟨this.1,?_,this.2.2⟩
 rw [this.2.1,show ((132:Nat):Int)-149=-17 from rfl,show ((8388608:Nat):Rat)=P2 23 from (P2_nat 23).symm,←P2_add]
 simp [sg]
 exact P2_nat 6
theorem const_2048:single.fin 1157627904∧single.V 1157627904=2048∧single.sgn 1157627904=false:=by
 have:=V_const false 137 8388608 (.inr (by decide)) (by decide) (by decide)
 rw [show single.word false (137*8388608+8388608)=1157627904 from by decide] at this
 refine ⟨this.1,?_,this.2.2⟩
 rw [this.2.1,show ((137:Nat):Int)-149=-12 from rfl,show ((8388608:Nat):Rat)=P2 23 from (P2_nat 23).symm,←P2_add]
 simp [sg]
 exact P2_nat 11
theorem const_4096:single.fin 1166016512∧single.V 1166016512=4096∧single.sgn 1166016512=false:=by
 have:=V_const false 138 8388608 (.inr (by decide)) (by decide) (by decide)
 rw [show single.word false (138*8388608+8388608)=1166016512 from by decide] at this
 refine ⟨this.1,?_,this.2.2⟩
 rw [this.2.1,show ((138:Nat):Int)-149=-11 from rfl,show ((8388608:Nat):Rat)=P2 23 from (P2_nat 23).symm,←P2_add]
 simp [sg]
 exact P2_nat 12
theorem place_4096:single.rplace 1166016511=-12:=by
 rw [show (1166016511:Nat)=(137+1)*8388608+8388607 from by omega,place_at _ _ (by omega)];rfl
theorem near_4096:Near1 4096 (P2 (-13)):=near_of (-12) (-13) 1166016511 (by omega) const_4096 (by omega) place_4096
structure MoveOk (v a r:Nat):Prop where
 f1:single.fin (mulF v a)
 f2:single.fin (addF (mulF v a) 1056964608)
 p1:single.V (mulF v a)≤single.V (mulF r a)
 p2:-single.V (mulF v a)≤single.V (mulF r a)
 fr:single.fin (mulF r a)
 r0:0≤single.V (mulF r a)
 r1:single.V (mulF r a)≤2048
 q1:single.V (addF (mulF v a) 1056964608)≤single.V (mulF v a)+1 / 2+P2 (-13)
 q2:single.V (mulF v a)+1 / 2≤single.V (addF (mulF v a) 1056964608)+P2 (-13)
theorem move_ok {v a r:Nat} (fv:single.fin v) (fr:single.fin r) (fa:single.fin a) (a0:0≤single.V a) (a1:single.V a≤64) (h1:single.V v≤single.V r) (h2:-single.V v≤single.V r) (hr:single.V r≤32):MoveOk v a r:=by
 have hr0:0≤single.V r:=by grind
 have m1:=Rat.mul_le_mul_of_nonneg_right h1 a0
 have m2:=Rat.mul_le_mul_of_nonneg_right h2 a0
 have m3:=Rat.mul_le_mul_of_nonneg_right hr a0
 have m4:=Rat.mul_nonneg hr0 a0
 have sv:=(mulF_spec fv fa).2
 have sr:=(mulF_spec fr fa).2
 have e1:-single.V v*single.V a=-(single.V v*single.V a):=by grind
 rw [e1] at m2
 have bv:=sv.bound const_2048.1 const_2048.2.2 (by rw [const_2048.2.1];grind) (by rw [const_2048.2.1];grind)
 have br:=sr.bound const_2048.1 const_2048.2.2 (by rw [const_2048.2.1];grind) (by rw [const_2048.2.1];grind)
 rw [const_2048.2.1] at bv br
 have n0:=sr.nonneg br.1 m4
 have hp:single.V (mulF v a)≤single.V (mulF r a)∧-single.V (mulF v a)≤single.V (mulF r a):=by
  by_cases hz:single.V r*single.V a=0
  ·have bz:=sv.bound const_0.1 (by decide) (by rw [const_0.2.1];grind) (by rw [const_0.2.1];grind)
   rw [const_0.2.1] at bz
   exact ⟨by grind,by grind⟩
  ·have q1:0<single.V r:=by
    have:single.V r≠0:=fun h=>hz (by rw [h,Rat.zero_mul])
    grind
   have q2:0<single.V a:=by
    have:single.V a≠0:=fun h=>hz (by rw [h,Rat.mul_zero])
    grind
   rw [pos_sgn q1,pos_sgn q2] at sr
   exact Rounds.abs_mono sv sr bv.1 br.1 m1 m2
 have sa:=(addF_spec bv.1 const_half.1).2
 rw [const_half.2.1] at sa
 obtain ⟨g1,g2,g3,_,_⟩:=near_4096 _ _ _ sa (by grind) (by grind)
 exact ⟨bv.1,g1,hp.1,hp.2,br.1,n0,br.2.1,g2,g3⟩
end Format
end Ieee
namespace Go.Proofs.YtmggflgdoioajaaGreat
open Ieee.Format (fin mulF addF floorF move_ok MoveOk)
def moveF (v a:Nat):Nat:=floorF (addF (mulF v a) 1056964608)
def moveZ (v a:Nat):Int:=floorZ (addF (mulF v a) 1056964608)
def margZ (r a:Nat):Int:=floorZ (mulF r a)+1
theorem int_lt {a b:Int} (h:(a:Rat)<(b:Rat)):a<b:=Rat.intCast_lt_intCast.1 h
theorem move_in {v a r:Nat} (h:MoveOk v a r):floatToIntVal .f32 (moveF v a) .i64=some (moveZ v a)∧floatToIntVal .f32 (floorF (mulF r a)) .i64=some (floorZ (mulF r a))∧moveZ v a≤margZ r a∧-moveZ v a≤margZ r a∧margZ r a≤2049∧0≤margZ r a:=by
 obtain ⟨f1,f2,p1,p2,fr,r0,r1,q1,q2⟩:=h
 have p13:0<Ieee.P2 (-13):=Ieee.P2_pos _
 have p13':Ieee.P2 (-13)<1 / 4:=by
  have:=Ieee.P2_lt (show (-13:Int) < -2 by omega)
  have d:Ieee.P2 (-1)=2*Ieee.P2 (-2):=Ieee.Format.P2_double (-1)
  have d2:Ieee.P2 0=2*Ieee.P2 (-1):=Ieee.Format.P2_double 0
  rw [Ieee.P2_zero] at d2
  grind
 have e40:Ieee.P2 40=((1099511627776:Int):Rat):=Ieee.P2_nat 40
 have e40':(4096:Rat)≤Ieee.P2 40:=by rw [e40];decide
 have l1:addF (mulF v a) 1056964608<4294967296:=Ieee.Format.addF_lt _ _
 have l2:mulF r a<4294967296:=Ieee.Format.mulF_lt _ _
 obtain ⟨a1,_,a3,a4,_,_⟩:=floorZ_spec f2 l1 (by grind) (by grind)
 obtain ⟨b1,_,b3,b4,_,_⟩:=floorZ_spec fr l2 (by grind) (by grind)
 unfold moveF moveZ margZ
 generalize floorZ (addF (mulF v a) 1056964608)=d at *
 generalize floorZ (mulF r a)=m at *
 have c1:((1:Int):Rat)=1:=rfl
 refine ⟨a1,b1,?_,?_,?_,?_⟩
 ·have:(d:Rat)<((m+2:Int):Rat):=by
   rw [Rat.intCast_add,show ((2:Int):Rat)=2 from rfl];grind
  have:=int_lt this
  omega
 ·have:((-(m+2):Int):Rat)<(d:Rat):=by
   rw [Rat.intCast_neg,Rat.intCast_add,show ((2:Int):Rat)=2 from rfl];grind
  have:=int_lt this
  omega
 ·have:(m:Rat)<((2049:Int):Rat):=by rw [show ((2049:Int):Rat)=2049 from rfl];grind
  have:=int_lt this
  omega
 ·have:((-1:Int):Rat)<(m:Rat):=by rw [show ((-1:Int):Rat)=-1 from rfl];grind
  have:=int_lt this
  omega
end Go.Proofs.YtmggflgdoioajaaGreat
namespace Go.Proofs.YtmggflgdoioajaaGreat
open Go.ChangeShapes Go.WideShapes Go.ChangeAt Go.RowKit
open Ieee.Format (fin finE htE allFin allHt all_true all_false mulF subF addF Ht Bd divF rootF floorF easeF mixF)
open Ieee.Format (finE_ok finE_bad const_64 const_0)
def wsE (t:Nat):Int:=if fin Ieee.single t then (if lss t 0 || gtr t 1115684864 then 3 else 0) else 2
theorem wsE_zero {t:Nat} (h:wsE t=0):fin Ieee.single t∧0≤Ieee.single.V t∧Ieee.single.V t≤64:=by
 unfold wsE at h
 by_cases hf:fin Ieee.single t
 ·rw [if_pos hf] at h
  cases hl:(lss t 0 || gtr t 1115684864) with
  | true=>rw [hl] at h;simp at h
  | false =>
   rw [Bool.or_eq_false_iff] at hl
   obtain ⟨l1,l2⟩:=hl
   rw [lss_V hf const_0.1,const_0.2.1] at l1
   rw [gtr_V hf const_64.1,const_64.2.1] at l2
   have l1:=of_decide_eq_false l1
   have l2:=of_decide_eq_false l2
   exact ⟨hf,by grind,by grind⟩
 ·rw [if_neg hf] at h;omega
def wpE (kd cell n:Int) (g a:Nat):Int:=if frE kd cell n g=0 then wsE a else frE kd cell n g
def wpV (kd seed cell n:Int) (g a:Nat):Value:=.agg #[.int .i64 kd,.int .u32 seed,.int .i64 cell,.int .i64 n,.float .f32 g,.float .f32 a]
def wpC (kd seed cell n:Int) (g a:Nat):Array Value:=#[.int .i64 kd,.int .u32 seed,.int .i64 cell,.int .i64 n,.float .f32 g,.float .f32 a]
set_option maxRecDepth 100000 in
set_option maxHeartbeats 1000000 in
theorem wpcheck_any (kd seed cell n:Int) (g a:Nat) (hg:g<4294967296) (ha:a<4294967296) (w:World) :
  Calls Tryz.prog 54 #[wpV kd seed cell n g a] w fun e w'=>e=.returned (.int .i64 (wpE kd cell n g a))∧Below w.heap.size w w':=by
 have KC:=Lib.hid (fun w=>frcheck_any kd seed cell n g hg w)
 have KF:=Lib.hid (fun w c=>finites_any (some ⟨w.heap.size,0,none⟩) c [a] (w.alloc (.cells #[.float .f32 a] 48)) (row_one w a ha _))
 unfold wpE wpV
 unfold frV at *
 by_cases hE:frE kd cell n g=0
 ·rw [if_pos hE]
  rw [hE] at KC
  unfold wsE
  by_cases hf:fin Ieee.single a
  ·have e1:finE [a]=0:=finE_ok (by unfold allFin;simp [hf])
   rw [e1] at KF
   rw [if_pos hf]
   clear hf e1 hE hg ha
   cases h1:lss a 0 with
   | true =>
    change (FloatKind.f32.format.order a 0 == some .lt)=true at h1
    simp only [Bool.true_or,if_true]
    exact qx5
   | false =>
    cases h2:gtr a 1115684864 with
    | true =>
     change (FloatKind.f32.format.order a 0 == some .lt)=false at h1
     change (FloatKind.f32.format.order a 1115684864 == some .gt)=true at h2
     simp only [Bool.or_true,if_true]
     exact qx5
    | false =>
     change (FloatKind.f32.format.order a 0 == some .lt)=false at h1
     change (FloatKind.f32.format.order a 1115684864 == some .gt)=false at h2
     simp only [Bool.or_self,Bool.false_eq_true,if_false]
     exact qx5
  ·have e1:finE [a]=2:=finE_bad (by unfold allFin;simp [hf])
   rw [e1] at KF
   rw [if_neg hf]
   clear hf e1 hE hg ha
   exact qx5
 ·rw [if_neg hE]
  have hb:(frE kd cell n g != 0)=true:=by simpa using hE
  clear hE hg ha KF
  generalize frE kd cell n g=z at *
  go_enter Tryz.func54,Tryz.ntmps54
  go_upto_region 1 with fail
  generalize hW0:w.alloc (.cells #[.int .i64 kd,.int .u32 seed,.int .i64 cell,.int .i64 n,.float .f32 g,.float .f32 a] 88)=W0
  have A0:Blk W0 w.heap.size #[.int .i64 kd,.int .u32 seed,.int .i64 cell,.int .i64 n,.float .f32 g,.float .f32 a] 88:=by subst hW0;exact Blk.new _ _ _
  have b0:Below w.heap.size w W0:=by subst hW0;exact qBl
  have HB0:=Lib.hid b0
  have HA0:=Lib.hid A0
  clear b0 hW0 A0
  have p0:=HA0.out.cell 0
  have p1:=HA0.out.cell 1
  have p2:=HA0.out.cell 2
  have p3:=HA0.out.cell 3
  have p4:=HA0.out.cell 4
  have p5:=HA0.out.cell 5
  simp at p0 p1 p2 p3 p4 p5
  have l0:=HA0.out.lt
  go_wp2_with fail
  refine (KC.out _).mono ?_
  rintro e w1 ⟨rfl,b1⟩
  have HB1:=Lib.hid (HB0.out.trans (b1.mono HB0.out.size))
  have HA1:=Lib.hid (HA0.out.below b1 HA0.out.lt)
  clear b1 HB0 HA0 p0 p1 p2 p3 p4 p5 l0
  go_wp2_with fail
  go_ret
  exact ⟨rfl,HB1.out⟩
structure WrS (w:World) (s:ByteArray) (ia:Option Addr) (nin cin b o cI rb ro nR cR:Nat) (i0 i1 i2 i3:Int) (r1:Nat) (l:List Nat) (wr:World):Prop where
 a:NdAt wr w.heap.size s ia nin cin (some ⟨b,o,none⟩) 4 cI (some ⟨rb,ro,none⟩) nR cR
 k:wr.heap[w.heap.size+1]?=some (.cells #[.int .i64 0,.int .u32 0,.int .i64 0,.int .i64 0,.float .f32 0,.float .f32 0] 88 (0,0))
 i:ZRow wr (some ⟨b,o,none⟩) [i0,i1,i2,i3]
 r:SRow wr (some ⟨rb,ro,none⟩) l
 b:Below w.heap.size w wr
section
variable {w wr w2:World} {s:ByteArray} {ia:Option Addr} {nin cin b o cI rb ro nR cR:Nat} {i0 i1 i2 i3:Int} {r1:Nat} {l:List Nat}
theorem WrS.lt (h:WrS w s ia nin cin b o cI rb ro nR cR i0 i1 i2 i3 r1 l wr):w.heap.size+1<wr.heap.size:=by
 rcases Nat.lt_or_ge (w.heap.size+1) wr.heap.size with hlt|hge
 ·exact hlt
 ·have:=h.k;rw [Array.getElem?_eq_none hge] at this;cases this
theorem WrS.call (h:WrS w s ia nin cin b o cI rb ro nR cR i0 i1 i2 i3 r1 l wr) (hb:Below wr.heap.size wr w2):WrS w s ia nin cin b o cI rb ro nR cR i0 i1 i2 i3 r1 l w2:=
 ⟨h.a.below hb h.a.lt,(hb.block _ h.lt).trans h.k,h.i.below hb,h.r.below hb,h.b.trans (hb.mono h.b.size)⟩
theorem WrS.drew (h:WrS w s ia nin cin b o cI rb ro nR cR i0 i1 i2 i3 r1 l wr):WrS w s ia nin cin b o cI rb ro nR cR i0 i1 i2 i3 r1 l wr.drew:=
 ⟨⟨h.a.blk⟩,h.k,h.i,h.r.drew,h.b.drew⟩
end
set_option maxRecDepth 100000 in
set_option maxHeartbeats 1000000 in
theorem mk_warp (s:ByteArray) (ia:Option Addr) (nin cin b o cI rb ro nR cR:Nat) (i0 i1 i2 i3:Int) (r0 r1:Nat) (l:List Nat) (w:World)
  (hI:ZRow w (some ⟨b,o,none⟩) [i0,i1,i2,i3]) (hR:SRow w (some ⟨rb,ro,none⟩) l) (hl:l=r0 :: r1 :: l.drop 2) (hn:nR=l.length) :
  Calls Tryz.prog 55 #[ndV s ia nin cin (some ⟨b,o,none⟩) 4 cI (some ⟨rb,ro,none⟩) nR cR] w fun e w'=>e=.returned (wpV i0 (i1%4294967296) i2 i3 r0 r1)∧Below w.heap.size w w':=by
 have hlen:1<l.length:=by rw [hl];simp
 have g1:l.getD 1 0=r1:=by rw [hl];rfl
 have hnr:1<nR:=by omega
 have hnr0:0<nR:=by omega
 have hnri:(1:Int)<(nR:Int):=by omega
 have KM:=Lib.hid (fun w hI hR=>mk_fractal s ia nin cin b o cI rb ro nR cR i0 i1 i2 i3 r0 l w hI hR (by rw [hl];rfl) hn)
 clear hl hn
 unfold wpV
 go_enter Tryz.func55,Tryz.ntmps55
 go_upto_region 1 with fail
 generalize hW0:(w.alloc (.cells #[.string s,.slice ia nin cin,.slice (some ⟨b,o,none⟩) 4 cI,.slice (some ⟨rb,ro,none⟩) nR cR] 61)).alloc (.cells #[.int .i64 0,.int .u32 0,.int .i64 0,.int .i64 0,.float .f32 0,.float .f32 0] 88)=W0
 have b0:Below w.heap.size w W0:=by subst hW0;exact qBl
 have HS:Hid (WrS w s ia nin cin b o cI rb ro nR cR i0 i1 i2 i3 r1 l W0):=by
  refine ⟨?_,?_,hI.below b0,hR.below b0,b0⟩
  ·exact qx36
  ·subst hW0
   have:=heap_alloc_new (w.alloc (.cells #[.string s,.slice ia nin cin,.slice (some ⟨b,o,none⟩) 4 cI,.slice (some ⟨rb,ro,none⟩) nR cR] 61)) (.cells #[.int .i64 0,.int .u32 0,.int .i64 0,.int .i64 0,.float .f32 0,.float .f32 0] 88)
   simpa using this
 clear hW0 b0 hI hR
 refine wp_region_noPanic ?_
 refine wp_region_heldT (WrS w s ia nin cin b o cI rb ro nR cR i0 i1 i2 i3 r1 l) 7 (by kernel_rfl) HS.out.drew (fun hHeld=>?_)
 refine tkA [3,4,5,6,7] 2 rfl (by
  intro w₁ hSw
  have pp:=hSw.a.cells
  obtain ⟨p0,p1,p2,p3⟩:=pp
  have y1:=hSw.r.cell1 1 hlen
  rw [g1] at y1
  go_simp
  try with_reducible rfl) ?_
 try simp only [qS,qN,qC,qD]
 refine tkA [4,5,6,7] 3 rfl (by
  intro w₁ hSw
  have pp:=hSw.a.cells
  obtain ⟨p0,p1,p2,p3⟩:=pp
  have y1:=hSw.r.cell1 1 hlen
  rw [g1] at y1
  go_simp
  try with_reducible rfl) ?_
 try simp only [qS,qN,qC,qD]
 refine tkA [5,6,7] 4 rfl (by
  intro w₁ hSw
  have pp:=hSw.a.cells
  obtain ⟨p0,p1,p2,p3⟩:=pp
  have y1:=hSw.r.cell1 1 hlen
  rw [g1] at y1
  go_simp
  try with_reducible rfl) ?_
 try simp only [qS,qN,qC,qD]
 refine tkA [6,7] 5 rfl (by
  intro w₁ hSw
  have pp:=hSw.a.cells
  obtain ⟨p0,p1,p2,p3⟩:=pp
  have y1:=hSw.r.cell1 1 hlen
  rw [g1] at y1
  go_simp
  try with_reducible rfl) ?_
 try simp only [qS,qN,qC,qD]
 refine tkA [1,6,7] 0 rfl (by
  intro w₁ hSw
  have pp:=hSw.a.cells
  obtain ⟨p0,p1,p2,p3⟩:=pp
  have y1:=hSw.r.cell1 1 hlen
  rw [g1] at y1
  go_simp
  try with_reducible rfl) ?_
 try simp only [qS,qN,qC,qD]
 refine rdA 1 rfl (fun K hK=>?_)
 go_simp
 (with_reducible refine (KM.out _ hHeld.i hHeld.r).mono ?_)
 rintro e w2 ⟨rfl,hb⟩
 have hN:=hHeld.call hb
 go_wp2_with fail
 refine ouA hK hN (fun hHeld=>?_)
 clear hK K
 try simp only [qS,qN,qC,qD]
 refine tkA [7] 6 rfl (by
  intro w₁ hSw
  have pp:=hSw.a.cells
  obtain ⟨p0,p1,p2,p3⟩:=pp
  have y1:=hSw.r.cell1 1 hlen
  rw [g1] at y1
  go_simp
  try with_reducible rfl) ?_
 try simp only [qS,qN,qC,qD]
 refine rdA 7 rfl (fun K hK=>?_)
 have q0:=frozen_of_row w2 (w.heap.size+1) 0 _ _ hHeld.k
 have q1:=frozen_of_row w2 (w.heap.size+1) 1 _ _ hHeld.k
 have q2:=frozen_of_row w2 (w.heap.size+1) 2 _ _ hHeld.k
 have q3:=frozen_of_row w2 (w.heap.size+1) 3 _ _ hHeld.k
 have q4:=frozen_of_row w2 (w.heap.size+1) 4 _ _ hHeld.k
 have q5:=frozen_of_row w2 (w.heap.size+1) 5 _ _ hHeld.k
 have d0:=cell_of_row w2 (w.heap.size+1) 0 _ _ _ hHeld.k
 have d1:=cell_of_row w2 (w.heap.size+1) 1 _ _ _ hHeld.k
 have d2:=cell_of_row w2 (w.heap.size+1) 2 _ _ _ hHeld.k
 have d3:=cell_of_row w2 (w.heap.size+1) 3 _ _ _ hHeld.k
 have d4:=cell_of_row w2 (w.heap.size+1) 4 _ _ _ hHeld.k
 have d5:=cell_of_row w2 (w.heap.size+1) 5 _ _ _ hHeld.k
 have lt:=hHeld.lt
 have HB:=Lib.hid hHeld.b
 have HQ:=Lib.hid (st_6 hHeld.k (.int .i64 i0) (.int .u32 (i1%4294967296)) (.int .i64 i2) (.int .i64 i3) (.float .f32 r0) (.float .f32 r1) _ rfl)
 go_simp
 refine ouB hK ?_
 clear hK K
 try simp only [qS,qN,qC,qD]
 refine wpAnyT_done (by kernel_rfl) ?_ _
 refine NoPanic.normal ?_
 have hb:=HB.out.trans (HQ.out.2.mono (by omega))
 have e5:=HQ.out.1
 clear HQ d0 d1 d2 d3 d4 d5 q0 q1 q2 q3 q4 q5
 have lt5:w.heap.size+1<((((((w2.setCell ⟨w.heap.size+1,0,none⟩ (.int .i64 i0)).setCell ⟨w.heap.size+1,1,none⟩ (.int .u32 (i1%4294967296))).setCell ⟨w.heap.size+1,2,none⟩ (.int .i64 i2)).setCell ⟨w.heap.size+1,3,none⟩ (.int .i64 i3)).setCell ⟨w.heap.size+1,4,none⟩ (.float .f32 r0)).setCell ⟨w.heap.size+1,5,none⟩ (.float .f32 r1)).heap.size:=by simpa using lt
 generalize ((((((w2.setCell ⟨w.heap.size+1,0,none⟩ (.int .i64 i0)).setCell ⟨w.heap.size+1,1,none⟩ (.int .u32 (i1%4294967296))).setCell ⟨w.heap.size+1,2,none⟩ (.int .i64 i2)).setCell ⟨w.heap.size+1,3,none⟩ (.int .i64 i3)).setCell ⟨w.heap.size+1,4,none⟩ (.float .f32 r0)).setCell ⟨w.heap.size+1,5,none⟩ (.float .f32 r1))=W5 at *
 have z0:W5.cell? ⟨w.heap.size+1,0,none⟩=some (.int .i64 i0):=cell_of_row W5 _ 0 _ _ _ e5
 have z1:W5.cell? ⟨w.heap.size+1,1,none⟩=some (.int .u32 (i1%4294967296)):=cell_of_row W5 _ 1 _ _ _ e5
 have z2:W5.cell? ⟨w.heap.size+1,2,none⟩=some (.int .i64 i2):=cell_of_row W5 _ 2 _ _ _ e5
 have z3:W5.cell? ⟨w.heap.size+1,3,none⟩=some (.int .i64 i3):=cell_of_row W5 _ 3 _ _ _ e5
 have z4:W5.cell? ⟨w.heap.size+1,4,none⟩=some (.float .f32 r0):=cell_of_row W5 _ 4 _ _ _ e5
 have z5:W5.cell? ⟨w.heap.size+1,5,none⟩=some (.float .f32 r1):=cell_of_row W5 _ 5 _ _ _ e5
 clear e5
 go_wp2_with fail
 refine bodyPost_ret (v:=.agg #[.int .i64 i0,.int .u32 (i1%4294967296),.int .i64 i2,.int .i64 i3,.float .f32 r0,.float .f32 r1]) (by simp [results,Tryz.results55,go_sem, *]) rfl ⟨rfl,hb⟩
structure ErS (w:World) (s:ByteArray) (ia:Option Addr) (nin cin:Nat) (la:Option Addr) (nI cI:Nat) (ra:Option Addr) (nR cR:Nat) (I:List Int) (L:List Nat) (X Y W H:Int) (p0:Inp) (wr:World):Prop where
 nd:NdAt wr w.heap.size s ia nin cin la nI cI ra nR cR
 rg:Reg wr (w.heap.size+1) X Y W H
 bx:Fld wr (w.heap.size+2) p0.X p0.Y p0.W p0.H (.slice (some ⟨p0.g,0,none⟩) p0.l.length p0.c)
 rs:Fld wr (w.heap.size+3) 0 0 0 0 (.slice none 0 0)
 i:ZRow wr la I
 r:SRow wr ra L
 f:SRow wr (some ⟨p0.g,0,none⟩) p0.l
 b:Below w.heap.size w wr
section
variable {w wr w2:World} {s:ByteArray} {ia la ra:Option Addr} {nin cin nI cI nR cR:Nat} {p0:Inp} {I:List Int} {L:List Nat} {X Y W H:Int}
theorem ErS.call (h:ErS w s ia nin cin la nI cI ra nR cR I L X Y W H p0 wr) (hb:Below wr.heap.size wr w2):ErS w s ia nin cin la nI cI ra nR cR I L X Y W H p0 w2:=
 ⟨h.nd.below hb h.nd.lt,h.rg.below hb h.rg.lt,h.bx.below hb h.bx.lt,h.rs.below hb h.rs.lt,h.i.below hb,h.r.below hb,h.f.below hb,h.b.trans (hb.mono h.b.size)⟩
theorem ErS.drew (h:ErS w s ia nin cin la nI cI ra nR cR I L X Y W H p0 wr):ErS w s ia nin cin la nI cI ra nR cR I L X Y W H p0 wr.drew:=
 ⟨⟨h.nd.blk⟩,h.rg,h.bx,h.rs,h.i,h.r.drew,h.f.drew,h.b.drew⟩
theorem ErS.start (hI:ZRow w la I) (hR:SRow w ra L) (hP:SRow w (some ⟨p0.g,0,none⟩) p0.l) :
  ErS w s ia nin cin la nI cI ra nR cR I L X Y W H p0 ((((w.alloc (.cells #[.string s,.slice ia nin cin,.slice la nI cI,.slice ra nR cR] 61)).alloc (.cells #[.int .i64 X,.int .i64 Y,.int .i64 W,.int .i64 H] 26)).alloc (.cells #[.int .i64 p0.X,.int .i64 p0.Y,.int .i64 p0.W,.int .i64 p0.H,.slice (some ⟨p0.g,0,none⟩) p0.l.length p0.c] 32)).alloc (.cells #[.int .i64 0,.int .i64 0,.int .i64 0,.int .i64 0,.slice none 0 0] 32)):=by
 have b0:Below w.heap.size w ((((w.alloc (.cells #[.string s,.slice ia nin cin,.slice la nI cI,.slice ra nR cR] 61)).alloc (.cells #[.int .i64 X,.int .i64 Y,.int .i64 W,.int .i64 H] 26)).alloc (.cells #[.int .i64 p0.X,.int .i64 p0.Y,.int .i64 p0.W,.int .i64 p0.H,.slice (some ⟨p0.g,0,none⟩) p0.l.length p0.c] 32)).alloc (.cells #[.int .i64 0,.int .i64 0,.int .i64 0,.int .i64 0,.slice none 0 0] 32)):=qBl
 refine ⟨?_,?_,?_,?_,hI.below b0,hR.below b0,hP.below b0,b0⟩
 ·exact (NdAt.new _ _ _ _ _ _ _ _ _ _ _).below (((Below.refl (w.heap.size+1) _).alloc (by simp) _ |>.alloc (by simp) _) |>.alloc (by simp) _) (by omega)
 ·have:=((Reg.new (w.alloc (.cells #[.string s,.slice ia nin cin,.slice la nI cI,.slice ra nR cR] 61)) X Y W H).alloc (.cells #[.int .i64 p0.X,.int .i64 p0.Y,.int .i64 p0.W,.int .i64 p0.H,.slice (some ⟨p0.g,0,none⟩) p0.l.length p0.c] 32)).alloc (.cells #[.int .i64 0,.int .i64 0,.int .i64 0,.int .i64 0,.slice none 0 0] 32)
  simpa using this
 ·have:=(Fld.new ((w.alloc (.cells #[.string s,.slice ia nin cin,.slice la nI cI,.slice ra nR cR] 61)).alloc (.cells #[.int .i64 X,.int .i64 Y,.int .i64 W,.int .i64 H] 26)) p0.X p0.Y p0.W p0.H (.slice (some ⟨p0.g,0,none⟩) p0.l.length p0.c)).alloc (.cells #[.int .i64 0,.int .i64 0,.int .i64 0,.int .i64 0,.slice none 0 0] 32)
  simpa using this
 ·have:=Fld.new (((w.alloc (.cells #[.string s,.slice ia nin cin,.slice la nI cI,.slice ra nR cR] 61)).alloc (.cells #[.int .i64 X,.int .i64 Y,.int .i64 W,.int .i64 H] 26)).alloc (.cells #[.int .i64 p0.X,.int .i64 p0.Y,.int .i64 p0.W,.int .i64 p0.H,.slice (some ⟨p0.g,0,none⟩) p0.l.length p0.c] 32)) 0 0 0 0 (.slice none 0 0)
  simpa using this
end
set_option maxRecDepth 100000 in
set_option maxHeartbeats 1000000 in
theorem ar_blur (s:ByteArray) (ia:Option Addr) (nin cin b o cI cR:Nat) (ra:Option Addr) (i0:Int) (p0:Inp) (X Y W H c X2 Y2 W2 H2:Int) (m:List Nat) (w:World) (hz:s.toList=[98,108,117,114]) (hI:ZRow w (some ⟨b,o,none⟩) [i0]) (hR:SRow w ra []) (hP:SRow w (some ⟨p0.g,0,none⟩) p0.l)
  (KC:∀ w',SRow w' (some ⟨p0.g,0,none⟩) p0.l→Calls Tryz.prog 123 #[inpV p0,.int .i64 i0] w' (OpP c X2 Y2 W2 H2 m w')) :
  Calls Tryz.prog 80 #[ndV s ia nin cin (some ⟨b,o,none⟩) 1 cI ra 0 cR,reg X Y W H,inpV p0] w (OpP c X2 Y2 W2 H2 m w):=by
 have KC:=Lib.hid KC
 have HS:=Lib.hid (ErS.start (s:=s) (ia:=ia) (nin:=nin) (cin:=cin) (nI:=1) (cI:=cI) (nR:=0) (cR:=cR) (X:=X) (Y:=Y) (W:=W) (H:=H) (p0:=p0) hI hR hP)
 clear hI hR hP
 go_enter Tryz.func80,Tryz.ntmps80
 go_upto_region 1 with fail
 generalize (((w.alloc (.cells #[.string s,.slice ia nin cin,.slice (some ⟨b,o,none⟩) 1 cI,.slice ra 0 cR] 61)).alloc (.cells #[.int .i64 X,.int .i64 Y,.int .i64 W,.int .i64 H] 26)).alloc (.cells #[.int .i64 p0.X,.int .i64 p0.Y,.int .i64 p0.W,.int .i64 p0.H,.slice (some ⟨p0.g,0,none⟩) p0.l.length p0.c] 32)).alloc (.cells #[.int .i64 0,.int .i64 0,.int .i64 0,.int .i64 0,.slice none 0 0] 32)=W0 at *
 have p0':=HS.out.nd.cells.1
 have l0':=HS.out.nd.lt
 go_wp2_with fail
 clear p0' l0'
 refine wp_region_noPanic ?_
 refine wp_region_heldT (ErS w s ia nin cin (some ⟨b,o,none⟩) 1 cI ra 0 cR [i0] [] X Y W H p0) 8 (by kernel_rfl) HS.out.drew (fun hHeld=>?_)
 refine tkA [5,6,7,8,9] 0 rfl (by
  intro w₁ hSw
  obtain ⟨f0,f1,f2,f3,f4⟩:=hSw.bx.cells
  go_simp
  try with_reducible rfl) ?_
 try simp only [qS,qN,qC,qD]
 refine tkO [2,3,4,5,6,7,8,9] 1 rfl ?_
 try simp only [qS,qN,qC,qD]
 refine tkA [3,4,5,6,7,8,9] 2 rfl (by
  intro w₁ hSw
  have p2:=hSw.nd.cells.2.2.1
  go_simp
  try with_reducible rfl) ?_
 try simp only [qS,qN,qC,qD]
 refine tkO [4,5,6,7,8,9] 3 rfl ?_
 try simp only [qS,qN,qC,qD]
 refine tkA [5,6,7,8,9] 4 rfl (by
  intro w₁ hSw
  have x0:w₁.cell? ⟨b,o,none⟩=some (.int .i64 i0):=hSw.i.at_ 0 (by simp)
  go_simp
  try with_reducible rfl) ?_
 try simp only [qS,qN,qC,qD]
 refine rdA 5 rfl (fun K hK=>?_)
 go_simp
 (with_reducible refine (KC.out _ hHeld.f).mono ?_)
 rintro e w2 ⟨⟨x,y,p,q,a,n,k,rfl,ho⟩,hb⟩
 have hN:=hHeld.call hb
 have HO:=Lib.hid ho
 have HZ:=Lib.hid hHeld.rs.lt
 have HZB:=Lib.hid hHeld.b.size
 clear hb ho
 go_wp2_with fail
 refine ouA hK hN (fun hHeld=>?_)
 clear hK K
 try simp only [qS,qN,qC,qD]
 refine tkO [8,9] 6 rfl ?_
 try simp only [qS,qN,qC,qD]
 refine tkO [8,9] 7 rfl ?_
 try simp only [qS,qN,qC,qD]
 refine rdA 8 rfl (fun K hK=>?_)
 obtain ⟨qf0,qf1,qf2,qf3,qf4⟩:_∧_∧_∧_∧_:=⟨hHeld.rs.frozen 0,hHeld.rs.frozen 1,hHeld.rs.frozen 2,hHeld.rs.frozen 3,hHeld.rs.frozen 4⟩
 obtain ⟨d0,d1,d2,d3,d4⟩:=hHeld.rs.cells
 have lt:=hHeld.rs.lt
 have HB:=Lib.hid hHeld.b
 have HQ:=Lib.hid (fld_store w2 (w.heap.size+3) 0 0 0 0 _ x y p q (.slice a n k) hHeld.rs _ rfl)
 go_simp
 refine ouB hK ?_
 clear hK K
 try simp only [qS,qN,qC,qD]
 refine rdA 9 rfl (fun K hK=>?_)
 exact qx3
set_option maxRecDepth 100000 in
set_option maxHeartbeats 1000000 in
theorem ar_kernel (s:ByteArray) (ia:Option Addr) (nin cin b o cI nR cR:Nat) (ra:Option Addr) (i0:Int) (L:List Nat) (p0:Inp) (X Y W H c X2 Y2 W2 H2:Int) (m:List Nat) (w:World) (hz:s.toList=[107,101,114,110,101,108]) (hI:ZRow w (some ⟨b,o,none⟩) [i0]) (hR:SRow w ra L) (hP:SRow w (some ⟨p0.g,0,none⟩) p0.l)
  (KC:∀ w',SRow w' (some ⟨p0.g,0,none⟩) p0.l→SRow w' ra L→Calls Tryz.prog 124 #[inpV p0,.slice ra nR cR,.int .i64 i0] w' (OpP c X2 Y2 W2 H2 m w')) :
  Calls Tryz.prog 80 #[ndV s ia nin cin (some ⟨b,o,none⟩) 1 cI ra nR cR,reg X Y W H,inpV p0] w (OpP c X2 Y2 W2 H2 m w):=by
 have KC:=Lib.hid KC
 have HS:=Lib.hid (ErS.start (s:=s) (ia:=ia) (nin:=nin) (cin:=cin) (nI:=1) (cI:=cI) (nR:=nR) (cR:=cR) (X:=X) (Y:=Y) (W:=W) (H:=H) (p0:=p0) hI hR hP)
 clear hI hR hP
 go_enter Tryz.func80,Tryz.ntmps80
 go_upto_region 1 with fail
 generalize (((w.alloc (.cells #[.string s,.slice ia nin cin,.slice (some ⟨b,o,none⟩) 1 cI,.slice ra nR cR] 61)).alloc (.cells #[.int .i64 X,.int .i64 Y,.int .i64 W,.int .i64 H] 26)).alloc (.cells #[.int .i64 p0.X,.int .i64 p0.Y,.int .i64 p0.W,.int .i64 p0.H,.slice (some ⟨p0.g,0,none⟩) p0.l.length p0.c] 32)).alloc (.cells #[.int .i64 0,.int .i64 0,.int .i64 0,.int .i64 0,.slice none 0 0] 32)=W0 at *
 have p0':=HS.out.nd.cells.1
 have l0':=HS.out.nd.lt
 go_wp2_with fail
 clear p0' l0'
 refine wp_region_noPanic ?_
 refine wp_region_heldT (ErS w s ia nin cin (some ⟨b,o,none⟩) 1 cI ra nR cR [i0] L X Y W H p0) 10 (by kernel_rfl) HS.out.drew (fun hHeld=>?_)
 refine tkA [7,8,9,10,11] 0 rfl (by
  intro w₁ hSw
  obtain ⟨f0,f1,f2,f3,f4⟩:=hSw.bx.cells
  go_simp
  try with_reducible rfl) ?_
 try simp only [qS,qN,qC,qD]
 refine tkO [2,7,8,9,10,11] 1 rfl ?_
 try simp only [qS,qN,qC,qD]
 refine tkA [7,8,9,10,11] 2 rfl (by
  intro w₁ hSw
  have p3:=hSw.nd.cells.2.2.2
  go_simp
  try with_reducible rfl) ?_
 try simp only [qS,qN,qC,qD]
 refine tkO [4,5,6,7,8,9,10,11] 3 rfl ?_
 try simp only [qS,qN,qC,qD]
 refine tkA [5,6,7,8,9,10,11] 4 rfl (by
  intro w₁ hSw
  have p2:=hSw.nd.cells.2.2.1
  go_simp
  try with_reducible rfl) ?_
 try simp only [qS,qN,qC,qD]
 refine tkO [6,7,8,9,10,11] 5 rfl ?_
 try simp only [qS,qN,qC,qD]
 refine tkA [7,8,9,10,11] 6 rfl (by
  intro w₁ hSw
  have x0:w₁.cell? ⟨b,o,none⟩=some (.int .i64 i0):=hSw.i.at_ 0 (by simp)
  go_simp
  try with_reducible rfl) ?_
 try simp only [qS,qN,qC,qD]
 refine rdA 7 rfl (fun K hK=>?_)
 go_simp
 (with_reducible refine (KC.out _ hHeld.f hHeld.r).mono ?_)
 rintro e w2 ⟨⟨x,y,p,q,a,n,k,rfl,ho⟩,hb⟩
 have hN:=hHeld.call hb
 have HO:=Lib.hid ho
 have HZ:=Lib.hid hHeld.rs.lt
 have HZB:=Lib.hid hHeld.b.size
 clear hb ho
 go_wp2_with fail
 refine ouA hK hN (fun hHeld=>?_)
 clear hK K
 try simp only [qS,qN,qC,qD]
 refine tkO [10,11] 8 rfl ?_
 try simp only [qS,qN,qC,qD]
 refine tkO [10,11] 9 rfl ?_
 try simp only [qS,qN,qC,qD]
 refine rdA 10 rfl (fun K hK=>?_)
 obtain ⟨qf0,qf1,qf2,qf3,qf4⟩:_∧_∧_∧_∧_:=⟨hHeld.rs.frozen 0,hHeld.rs.frozen 1,hHeld.rs.frozen 2,hHeld.rs.frozen 3,hHeld.rs.frozen 4⟩
 obtain ⟨d0,d1,d2,d3,d4⟩:=hHeld.rs.cells
 have lt:=hHeld.rs.lt
 have HB:=Lib.hid hHeld.b
 have HQ:=Lib.hid (fld_store w2 (w.heap.size+3) 0 0 0 0 _ x y p q (.slice a n k) hHeld.rs _ rfl)
 go_simp
 refine ouB hK ?_
 clear hK K
 try simp only [qS,qN,qC,qD]
 refine rdA 11 rfl (fun K hK=>?_)
 exact qx3
set_option maxRecDepth 100000 in
set_option maxHeartbeats 1000000 in
theorem ar_slope (s:ByteArray) (ia:Option Addr) (nin cin cI cR:Nat) (la:Option Addr) (ra:Option Addr) (p0:Inp) (X Y W H c X2 Y2 W2 H2:Int) (m:List Nat) (w:World) (hz:s.toList=[115,108,111,112,101]) (hI:ZRow w la []) (hR:SRow w ra []) (hP:SRow w (some ⟨p0.g,0,none⟩) p0.l)
  (KC:∀ w',SRow w' (some ⟨p0.g,0,none⟩) p0.l→Calls Tryz.prog 125 #[inpV p0] w' (OpP c X2 Y2 W2 H2 m w')) :
  Calls Tryz.prog 80 #[ndV s ia nin cin la 0 cI ra 0 cR,reg X Y W H,inpV p0] w (OpP c X2 Y2 W2 H2 m w):=by
 exact qx19
set_option maxRecDepth 100000 in
set_option maxHeartbeats 1000000 in
theorem ar_curve (s:ByteArray) (ia:Option Addr) (nin cin cI cR:Nat) (la:Option Addr) (ra:Option Addr) (p0:Inp) (X Y W H c X2 Y2 W2 H2:Int) (m:List Nat) (w:World) (hz:s.toList=[99,117,114,118,101]) (hI:ZRow w la []) (hR:SRow w ra []) (hP:SRow w (some ⟨p0.g,0,none⟩) p0.l)
  (KC:∀ w',SRow w' (some ⟨p0.g,0,none⟩) p0.l→Calls Tryz.prog 126 #[inpV p0] w' (OpP c X2 Y2 W2 H2 m w')) :
  Calls Tryz.prog 80 #[ndV s ia nin cin la 0 cI ra 0 cR,reg X Y W H,inpV p0] w (OpP c X2 Y2 W2 H2 m w):=by
 exact qx19
set_option maxRecDepth 100000 in
set_option maxHeartbeats 1000000 in
theorem ar_shade (s:ByteArray) (ia:Option Addr) (nin cin b o cI cR:Nat) (ra:Option Addr) (i0 i1 i2:Int) (p0:Inp) (X Y W H c X2 Y2 W2 H2:Int) (m:List Nat) (w:World) (hz:s.toList=[115,104,97,100,101]) (hI:ZRow w (some ⟨b,o,none⟩) [i0,i1,i2]) (hR:SRow w ra []) (hP:SRow w (some ⟨p0.g,0,none⟩) p0.l)
  (KC:∀ w',SRow w' (some ⟨p0.g,0,none⟩) p0.l→Calls Tryz.prog 127 #[inpV p0,.int .i64 i0,.int .i64 i1,.int .i64 i2] w' (OpP c X2 Y2 W2 H2 m w')) :
  Calls Tryz.prog 80 #[ndV s ia nin cin (some ⟨b,o,none⟩) 3 cI ra 0 cR,reg X Y W H,inpV p0] w (OpP c X2 Y2 W2 H2 m w):=by
 have KC:=Lib.hid KC
 have HS:=Lib.hid (ErS.start (s:=s) (ia:=ia) (nin:=nin) (cin:=cin) (nI:=3) (cI:=cI) (nR:=0) (cR:=cR) (X:=X) (Y:=Y) (W:=W) (H:=H) (p0:=p0) hI hR hP)
 clear hI hR hP
 go_enter Tryz.func80,Tryz.ntmps80
 go_upto_region 1 with fail
 generalize (((w.alloc (.cells #[.string s,.slice ia nin cin,.slice (some ⟨b,o,none⟩) 3 cI,.slice ra 0 cR] 61)).alloc (.cells #[.int .i64 X,.int .i64 Y,.int .i64 W,.int .i64 H] 26)).alloc (.cells #[.int .i64 p0.X,.int .i64 p0.Y,.int .i64 p0.W,.int .i64 p0.H,.slice (some ⟨p0.g,0,none⟩) p0.l.length p0.c] 32)).alloc (.cells #[.int .i64 0,.int .i64 0,.int .i64 0,.int .i64 0,.slice none 0 0] 32)=W0 at *
 have p0':=HS.out.nd.cells.1
 have l0':=HS.out.nd.lt
 go_wp2_with fail
 clear p0' l0'
 refine wp_region_noPanic ?_
 refine wp_region_heldT (ErS w s ia nin cin (some ⟨b,o,none⟩) 3 cI ra 0 cR [i0,i1,i2] [] X Y W H p0) 16 (by kernel_rfl) HS.out.drew (fun hHeld=>?_)
 refine tkA [13,14,15,16,17] 0 rfl (by
  intro w₁ hSw
  obtain ⟨f0,f1,f2,f3,f4⟩:=hSw.bx.cells
  go_simp
  try with_reducible rfl) ?_
 try simp only [qS,qN,qC,qD]
 refine tkO [2,3,4,13,14,15,16,17] 1 rfl ?_
 try simp only [qS,qN,qC,qD]
 refine tkA [3,4,13,14,15,16,17] 2 rfl (by
  intro w₁ hSw
  have p2:=hSw.nd.cells.2.2.1
  go_simp
  try with_reducible rfl) ?_
 try simp only [qS,qN,qC,qD]
 refine tkO [4,13,14,15,16,17] 3 rfl ?_
 try simp only [qS,qN,qC,qD]
 refine tkA [13,14,15,16,17] 4 rfl (by
  intro w₁ hSw
  have x0:w₁.cell? ⟨b,o,none⟩=some (.int .i64 i0):=hSw.i.at_ 0 (by simp)
  go_simp
  try with_reducible rfl) ?_
 try simp only [qS,qN,qC,qD]
 refine tkO [6,7,8,13,14,15,16,17] 5 rfl ?_
 try simp only [qS,qN,qC,qD]
 refine tkA [7,8,13,14,15,16,17] 6 rfl (by
  intro w₁ hSw
  have p2:=hSw.nd.cells.2.2.1
  go_simp
  try with_reducible rfl) ?_
 try simp only [qS,qN,qC,qD]
 refine tkO [8,13,14,15,16,17] 7 rfl ?_
 try simp only [qS,qN,qC,qD]
 refine tkA [13,14,15,16,17] 8 rfl (by
  intro w₁ hSw
  have x0:w₁.cell? ⟨b,o+1,none⟩=some (.int .i64 i1):=hSw.i.at_ 1 (by simp)
  go_simp
  try with_reducible rfl) ?_
 try simp only [qS,qN,qC,qD]
 refine tkO [10,11,12,13,14,15,16,17] 9 rfl ?_
 try simp only [qS,qN,qC,qD]
 refine tkA [11,12,13,14,15,16,17] 10 rfl (by
  intro w₁ hSw
  have p2:=hSw.nd.cells.2.2.1
  go_simp
  try with_reducible rfl) ?_
 try simp only [qS,qN,qC,qD]
 refine tkO [12,13,14,15,16,17] 11 rfl ?_
 try simp only [qS,qN,qC,qD]
 refine tkA [13,14,15,16,17] 12 rfl (by
  intro w₁ hSw
  have x0:w₁.cell? ⟨b,o+2,none⟩=some (.int .i64 i2):=hSw.i.at_ 2 (by simp)
  go_simp
  try with_reducible rfl) ?_
 try simp only [qS,qN,qC,qD]
 refine rdA 13 rfl (fun K hK=>?_)
 go_simp
 (with_reducible refine (KC.out _ hHeld.f).mono ?_)
 rintro e w2 ⟨⟨x,y,p,q,a,n,k,rfl,ho⟩,hb⟩
 have hN:=hHeld.call hb
 have HO:=Lib.hid ho
 have HZ:=Lib.hid hHeld.rs.lt
 have HZB:=Lib.hid hHeld.b.size
 clear hb ho
 go_wp2_with fail
 refine ouA hK hN (fun hHeld=>?_)
 clear hK K
 try simp only [qS,qN,qC,qD]
 refine tkO [16,17] 14 rfl ?_
 try simp only [qS,qN,qC,qD]
 refine tkO [16,17] 15 rfl ?_
 try simp only [qS,qN,qC,qD]
 refine rdA 16 rfl (fun K hK=>?_)
 obtain ⟨qf0,qf1,qf2,qf3,qf4⟩:_∧_∧_∧_∧_:=⟨hHeld.rs.frozen 0,hHeld.rs.frozen 1,hHeld.rs.frozen 2,hHeld.rs.frozen 3,hHeld.rs.frozen 4⟩
 obtain ⟨d0,d1,d2,d3,d4⟩:=hHeld.rs.cells
 have lt:=hHeld.rs.lt
 have HB:=Lib.hid hHeld.b
 have HQ:=Lib.hid (fld_store w2 (w.heap.size+3) 0 0 0 0 _ x y p q (.slice a n k) hHeld.rs _ rfl)
 go_simp
 refine ouB hK ?_
 clear hK K
 try simp only [qS,qN,qC,qD]
 refine rdA 17 rfl (fun K hK=>?_)
 exact qx3
set_option maxRecDepth 100000 in
set_option maxHeartbeats 1000000 in
theorem ar_thermal (s:ByteArray) (ia:Option Addr) (nin cin b o cI rb ro cR:Nat) (i0:Int) (r0 r1:Nat) (p0:Inp) (X Y W H c X2 Y2 W2 H2:Int) (m:List Nat) (w:World) (hz:s.toList=[116,104,101,114,109,97,108]) (hI:ZRow w (some ⟨b,o,none⟩) [i0]) (hR:SRow w (some ⟨rb,ro,none⟩) [r0,r1]) (hP:SRow w (some ⟨p0.g,0,none⟩) p0.l)
  (KC:∀ w',SRow w' (some ⟨p0.g,0,none⟩) p0.l→Calls Tryz.prog 128 #[inpV p0,.agg #[.float .f32 r0,.float .f32 r1,.int .i64 i0]] w' (OpP c X2 Y2 W2 H2 m w')) :
  Calls Tryz.prog 80 #[ndV s ia nin cin (some ⟨b,o,none⟩) 1 cI (some ⟨rb,ro,none⟩) 2 cR,reg X Y W H,inpV p0] w (OpP c X2 Y2 W2 H2 m w):=by
 have KC:=Lib.hid KC
 have KM:=Lib.hid (fun w' hI hR=>mk_wear s ia nin cin b o cI rb ro 2 cR i0 r0 r1 [r0,r1] w' hI hR rfl rfl)
 have HS:=Lib.hid (ErS.start (s:=s) (ia:=ia) (nin:=nin) (cin:=cin) (nI:=1) (cI:=cI) (nR:=2) (cR:=cR) (X:=X) (Y:=Y) (W:=W) (H:=H) (p0:=p0) hI hR hP)
 clear hI hR hP
 go_enter Tryz.func80,Tryz.ntmps80
 go_upto_region 1 with fail
 generalize (((w.alloc (.cells #[.string s,.slice ia nin cin,.slice (some ⟨b,o,none⟩) 1 cI,.slice (some ⟨rb,ro,none⟩) 2 cR] 61)).alloc (.cells #[.int .i64 X,.int .i64 Y,.int .i64 W,.int .i64 H] 26)).alloc (.cells #[.int .i64 p0.X,.int .i64 p0.Y,.int .i64 p0.W,.int .i64 p0.H,.slice (some ⟨p0.g,0,none⟩) p0.l.length p0.c] 32)).alloc (.cells #[.int .i64 0,.int .i64 0,.int .i64 0,.int .i64 0,.slice none 0 0] 32)=W0 at *
 have p0':=HS.out.nd.cells.1
 have l0':=HS.out.nd.lt
 go_wp2_with fail
 clear p0' l0'
 refine wp_region_noPanic ?_
 refine wp_region_heldT (ErS w s ia nin cin (some ⟨b,o,none⟩) 1 cI (some ⟨rb,ro,none⟩) 2 cR [i0] [r0,r1] X Y W H p0) 6 (by kernel_rfl) HS.out.drew (fun hHeld=>?_)
 refine tkA [3,4,5,6,7] 0 rfl (by
  intro w₁ hSw
  obtain ⟨f0,f1,f2,f3,f4⟩:=hSw.bx.cells
  go_simp
  try with_reducible rfl) ?_
 try simp only [qS,qN,qC,qD]
 refine tkA [2,3,4,5,6,7] 1 rfl (by
  intro w₁ hSw
  obtain ⟨p0,p1,p2,p3⟩:=hSw.nd.cells
  go_simp
  try with_reducible rfl) ?_
 try simp only [qS,qN,qC,qD]
 refine rdA 2 rfl (fun K hK=>?_)
 go_simp
 (with_reducible refine (KM.out _ hHeld.i hHeld.r).mono ?_)
 rintro e wm ⟨rfl,hb⟩
 have hN:=hHeld.call hb
 clear hb
 go_wp2_with fail
 refine ouA hK hN (fun hHeld=>?_)
 clear hK K
 try simp only [qS,qN,qC,qD]
 refine rdA 3 rfl (fun K hK=>?_)
 go_simp
 (with_reducible refine (KC.out _ hHeld.f).mono ?_)
 rintro e w2 ⟨⟨x,y,p,q,a,n,k,rfl,ho⟩,hb⟩
 have hN:=hHeld.call hb
 have HO:=Lib.hid ho
 have HZ:=Lib.hid hHeld.rs.lt
 have HZB:=Lib.hid hHeld.b.size
 clear hb ho
 go_wp2_with fail
 refine ouA hK hN (fun hHeld=>?_)
 clear hK K
 try simp only [qS,qN,qC,qD]
 refine tkO [6,7] 4 rfl ?_
 try simp only [qS,qN,qC,qD]
 refine tkO [6,7] 5 rfl ?_
 try simp only [qS,qN,qC,qD]
 refine rdA 6 rfl (fun K hK=>?_)
 obtain ⟨qf0,qf1,qf2,qf3,qf4⟩:_∧_∧_∧_∧_:=⟨hHeld.rs.frozen 0,hHeld.rs.frozen 1,hHeld.rs.frozen 2,hHeld.rs.frozen 3,hHeld.rs.frozen 4⟩
 obtain ⟨d0,d1,d2,d3,d4⟩:=hHeld.rs.cells
 have lt:=hHeld.rs.lt
 have HB:=Lib.hid hHeld.b
 have HQ:=Lib.hid (fld_store w2 (w.heap.size+3) 0 0 0 0 _ x y p q (.slice a n k) hHeld.rs _ rfl)
 go_simp
 refine ouB hK ?_
 clear hK K
 try simp only [qS,qN,qC,qD]
 refine rdA 7 rfl (fun K hK=>?_)
 exact qx3
set_option maxRecDepth 100000 in
set_option maxHeartbeats 1000000 in
theorem ar_smooth (s:ByteArray) (ia:Option Addr) (nin cin b o cI cR:Nat) (ra:Option Addr) (i0:Int) (p0:Inp) (X Y W H c X2 Y2 W2 H2:Int) (m:List Nat) (w:World) (hz:s.toList=[115,109,111,111,116,104]) (hI:ZRow w (some ⟨b,o,none⟩) [i0]) (hR:SRow w ra []) (hP:SRow w (some ⟨p0.g,0,none⟩) p0.l)
  (KC:∀ w',SRow w' (some ⟨p0.g,0,none⟩) p0.l→Calls Tryz.prog 129 #[inpV p0,.int .i64 i0] w' (OpP c X2 Y2 W2 H2 m w')) :
  Calls Tryz.prog 80 #[ndV s ia nin cin (some ⟨b,o,none⟩) 1 cI ra 0 cR,reg X Y W H,inpV p0] w (OpP c X2 Y2 W2 H2 m w):=by
 have KC:=Lib.hid KC
 have HS:=Lib.hid (ErS.start (s:=s) (ia:=ia) (nin:=nin) (cin:=cin) (nI:=1) (cI:=cI) (nR:=0) (cR:=cR) (X:=X) (Y:=Y) (W:=W) (H:=H) (p0:=p0) hI hR hP)
 clear hI hR hP
 go_enter Tryz.func80,Tryz.ntmps80
 go_upto_region 1 with fail
 generalize (((w.alloc (.cells #[.string s,.slice ia nin cin,.slice (some ⟨b,o,none⟩) 1 cI,.slice ra 0 cR] 61)).alloc (.cells #[.int .i64 X,.int .i64 Y,.int .i64 W,.int .i64 H] 26)).alloc (.cells #[.int .i64 p0.X,.int .i64 p0.Y,.int .i64 p0.W,.int .i64 p0.H,.slice (some ⟨p0.g,0,none⟩) p0.l.length p0.c] 32)).alloc (.cells #[.int .i64 0,.int .i64 0,.int .i64 0,.int .i64 0,.slice none 0 0] 32)=W0 at *
 have p0':=HS.out.nd.cells.1
 have l0':=HS.out.nd.lt
 go_wp2_with fail
 clear p0' l0'
 refine wp_region_noPanic ?_
 refine wp_region_heldT (ErS w s ia nin cin (some ⟨b,o,none⟩) 1 cI ra 0 cR [i0] [] X Y W H p0) 8 (by kernel_rfl) HS.out.drew (fun hHeld=>?_)
 refine tkA [5,6,7,8,9] 0 rfl (by
  intro w₁ hSw
  obtain ⟨f0,f1,f2,f3,f4⟩:=hSw.bx.cells
  go_simp
  try with_reducible rfl) ?_
 try simp only [qS,qN,qC,qD]
 refine tkO [2,3,4,5,6,7,8,9] 1 rfl ?_
 try simp only [qS,qN,qC,qD]
 refine tkA [3,4,5,6,7,8,9] 2 rfl (by
  intro w₁ hSw
  have p2:=hSw.nd.cells.2.2.1
  go_simp
  try with_reducible rfl) ?_
 try simp only [qS,qN,qC,qD]
 refine tkO [4,5,6,7,8,9] 3 rfl ?_
 try simp only [qS,qN,qC,qD]
 refine tkA [5,6,7,8,9] 4 rfl (by
  intro w₁ hSw
  have x0:w₁.cell? ⟨b,o,none⟩=some (.int .i64 i0):=hSw.i.at_ 0 (by simp)
  go_simp
  try with_reducible rfl) ?_
 try simp only [qS,qN,qC,qD]
 refine rdA 5 rfl (fun K hK=>?_)
 go_simp
 (with_reducible refine (KC.out _ hHeld.f).mono ?_)
 rintro e w2 ⟨⟨x,y,p,q,a,n,k,rfl,ho⟩,hb⟩
 have hN:=hHeld.call hb
 have HO:=Lib.hid ho
 have HZ:=Lib.hid hHeld.rs.lt
 have HZB:=Lib.hid hHeld.b.size
 clear hb ho
 go_wp2_with fail
 refine ouA hK hN (fun hHeld=>?_)
 clear hK K
 try simp only [qS,qN,qC,qD]
 refine tkO [8,9] 6 rfl ?_
 try simp only [qS,qN,qC,qD]
 refine tkO [8,9] 7 rfl ?_
 try simp only [qS,qN,qC,qD]
 refine rdA 8 rfl (fun K hK=>?_)
 obtain ⟨qf0,qf1,qf2,qf3,qf4⟩:_∧_∧_∧_∧_:=⟨hHeld.rs.frozen 0,hHeld.rs.frozen 1,hHeld.rs.frozen 2,hHeld.rs.frozen 3,hHeld.rs.frozen 4⟩
 obtain ⟨d0,d1,d2,d3,d4⟩:=hHeld.rs.cells
 have lt:=hHeld.rs.lt
 have HB:=Lib.hid hHeld.b
 have HQ:=Lib.hid (fld_store w2 (w.heap.size+3) 0 0 0 0 _ x y p q (.slice a n k) hHeld.rs _ rfl)
 go_simp
 refine ouB hK ?_
 clear hK K
 try simp only [qS,qN,qC,qD]
 refine rdA 9 rfl (fun K hK=>?_)
 exact qx3
set_option maxRecDepth 100000 in
set_option maxHeartbeats 1000000 in
theorem ar_warp (s:ByteArray) (ia:Option Addr) (nin cin b o cI rb ro cR:Nat) (i0 i1 i2 i3:Int) (r0 r1:Nat) (p0:Inp) (X Y W H c X2 Y2 W2 H2:Int) (m:List Nat) (w:World) (hz:s.toList=[119,97,114,112]) (hI:ZRow w (some ⟨b,o,none⟩) [i0,i1,i2,i3]) (hR:SRow w (some ⟨rb,ro,none⟩) [r0,r1]) (hP:SRow w (some ⟨p0.g,0,none⟩) p0.l)
  (KC:∀ w',SRow w' (some ⟨p0.g,0,none⟩) p0.l→Calls Tryz.prog 130 #[inpV p0,wpV i0 (i1%4294967296) i2 i3 r0 r1,reg X Y W H] w' (OpP c X2 Y2 W2 H2 m w')) :
  Calls Tryz.prog 80 #[ndV s ia nin cin (some ⟨b,o,none⟩) 4 cI (some ⟨rb,ro,none⟩) 2 cR,reg X Y W H,inpV p0] w (OpP c X2 Y2 W2 H2 m w):=by
 have KC:=Lib.hid KC
 have KM:=Lib.hid (fun w' hI hR=>mk_warp s ia nin cin b o cI rb ro 2 cR i0 i1 i2 i3 r0 r1 [r0,r1] w' hI hR rfl rfl)
 unfold wpV at KC KM
 have HS:=Lib.hid (ErS.start (s:=s) (ia:=ia) (nin:=nin) (cin:=cin) (nI:=4) (cI:=cI) (nR:=2) (cR:=cR) (X:=X) (Y:=Y) (W:=W) (H:=H) (p0:=p0) hI hR hP)
 clear hI hR hP
 go_enter Tryz.func80,Tryz.ntmps80
 go_upto_region 1 with fail
 generalize (((w.alloc (.cells #[.string s,.slice ia nin cin,.slice (some ⟨b,o,none⟩) 4 cI,.slice (some ⟨rb,ro,none⟩) 2 cR] 61)).alloc (.cells #[.int .i64 X,.int .i64 Y,.int .i64 W,.int .i64 H] 26)).alloc (.cells #[.int .i64 p0.X,.int .i64 p0.Y,.int .i64 p0.W,.int .i64 p0.H,.slice (some ⟨p0.g,0,none⟩) p0.l.length p0.c] 32)).alloc (.cells #[.int .i64 0,.int .i64 0,.int .i64 0,.int .i64 0,.slice none 0 0] 32)=W0 at *
 have p0':=HS.out.nd.cells.1
 have l0':=HS.out.nd.lt
 go_wp2_with fail
 clear p0' l0'
 refine wp_region_noPanic ?_
 refine wp_region_heldT (ErS w s ia nin cin (some ⟨b,o,none⟩) 4 cI (some ⟨rb,ro,none⟩) 2 cR [i0,i1,i2,i3] [r0,r1] X Y W H p0) 7 (by kernel_rfl) HS.out.drew (fun hHeld=>?_)
 refine tkA [4,5,6,7,8] 0 rfl (by
  intro w₁ hSw
  obtain ⟨f0,f1,f2,f3,f4⟩:=hSw.bx.cells
  go_simp
  try with_reducible rfl) ?_
 try simp only [qS,qN,qC,qD]
 refine tkA [2,4,5,6,7,8] 1 rfl (by
  intro w₁ hSw
  obtain ⟨p0,p1,p2,p3⟩:=hSw.nd.cells
  go_simp
  try with_reducible rfl) ?_
 try simp only [qS,qN,qC,qD]
 refine tkA [4,5,6,7,8] 3 rfl (by
  intro w₁ hSw
  obtain ⟨f0,f1,f2,f3⟩:=hSw.rg.cells
  go_simp
  try with_reducible rfl) ?_
 try simp only [qS,qN,qC,qD]
 refine rdA 2 rfl (fun K hK=>?_)
 go_simp
 (with_reducible refine (KM.out _ hHeld.i hHeld.r).mono ?_)
 rintro e wm ⟨rfl,hb⟩
 have hN:=hHeld.call hb
 clear hb
 go_wp2_with fail
 refine ouA hK hN (fun hHeld=>?_)
 clear hK K
 try simp only [qS,qN,qC,qD]
 refine rdA 4 rfl (fun K hK=>?_)
 go_simp
 (with_reducible refine (KC.out _ hHeld.f).mono ?_)
 rintro e w2 ⟨⟨x,y,p,q,a,n,k,rfl,ho⟩,hb⟩
 have hN:=hHeld.call hb
 have HO:=Lib.hid ho
 have HZ:=Lib.hid hHeld.rs.lt
 have HZB:=Lib.hid hHeld.b.size
 clear hb ho
 go_wp2_with fail
 refine ouA hK hN (fun hHeld=>?_)
 clear hK K
 try simp only [qS,qN,qC,qD]
 refine tkO [7,8] 5 rfl ?_
 try simp only [qS,qN,qC,qD]
 refine tkO [7,8] 6 rfl ?_
 try simp only [qS,qN,qC,qD]
 refine rdA 7 rfl (fun K hK=>?_)
 obtain ⟨qf0,qf1,qf2,qf3,qf4⟩:_∧_∧_∧_∧_:=⟨hHeld.rs.frozen 0,hHeld.rs.frozen 1,hHeld.rs.frozen 2,hHeld.rs.frozen 3,hHeld.rs.frozen 4⟩
 obtain ⟨d0,d1,d2,d3,d4⟩:=hHeld.rs.cells
 have lt:=hHeld.rs.lt
 have HB:=Lib.hid hHeld.b
 have HQ:=Lib.hid (fld_store w2 (w.heap.size+3) 0 0 0 0 _ x y p q (.slice a n k) hHeld.rs _ rfl)
 go_simp
 refine ouB hK ?_
 clear hK K
 try simp only [qS,qN,qC,qD]
 refine rdA 8 rfl (fun K hK=>?_)
 exact qx3
abbrev Fs:=Nat→Int→Int→Nat
def InR (X Y:Int) (W H:Nat) (x y:Int):Prop:=X≤x∧x<X+W∧Y≤y∧y<Y+H
def Gd (ex:Int→Int→Prop) (g:Int→Int→Nat) (X Y:Int) (W H:Nat):Prop:=∀ x y,InR X Y W H x y→ex x y∧Ht (g x y)
structure Rg (X Y:Int) (W H:Nat):Prop where
 w1:1≤W
 w2:W≤512
 h1:1≤H
 h2:H≤512
 wh:W*H≤65536
 x1:-4194304≤X
 x2:X≤4194304-W
 y1:-4194304≤Y
 y2:Y≤4194304-H
theorem Rg.chk {X Y:Int} {W H:Nat} (h:Rg X Y W H):Go.Proofs.YtmggflgdoioajaaGreat.chk X Y W H=0:=by
 have h1:=h.w1;have h2:=h.w2;have h3:=h.h1;have h4:=h.h2;have h5:=h.x1;have h6:=h.x2;have h7:=h.y1;have h8:=h.y2
 have h9:=h.wh
 have h9':(W:Int)*(H:Int)≤65536:=by rw [←Int.natCast_mul];omega
 unfold Go.Proofs.YtmggflgdoioajaaGreat.chk
 rw [if_neg (by omega),if_neg (by omega),if_neg (by omega)]
theorem Rg.right {X Y:Int} {W H:Nat} (h:Rg X Y W H) {g:Int→Int→Nat} (hg:∀ x y,InR X Y W H x y→Ht (g x y)):Right X Y W H (gridL g X Y W H):=
 ⟨h.w1,h.w2,h.h1,h.h2,h.wh,h.x1,h.x2,h.y1,h.y2,gridL_len _ _ _ _ _,fun v hv=>by
  obtain ⟨x,y,hi,rfl⟩:=grid_mem.1 hv
  exact hg x y hi⟩
theorem resC_grid {g:Int→Int→Nat} {X Y:Int} {W H:Nat}:resC (gridL g X Y W H)=0 ↔ ∀ x y,InR X Y W H x y→Ht (g x y):=by
 unfold resC
 constructor
 ·intro h x y hi
  by_cases ha:allHt (gridL g X Y W H)=true
  ·exact Ieee.Format.allHt_iff.1 ha _ (grid_mem.2 ⟨x,y,hi,rfl⟩)
  ·rw [if_neg ha] at h;omega
 ·intro h
  rw [if_pos (Ieee.Format.allHt_iff.2 fun v hv=>by
   obtain ⟨x,y,hi,rfl⟩:=grid_mem.1 hv
   exact h x y hi)]
theorem Right.cell {g:Int→Int→Nat} {X Y:Int} {W H:Nat} (h:Right X Y W H (gridL g X Y W H)) {x y:Int} (hi:InR X Y W H x y):Ht (g x y):=h.ht _ (grid_mem.2 ⟨x,y,hi,rfl⟩)
def noEx:Fs→Int→Int→Prop:=fun _ _ _=>True
theorem gd_res {G:Fs→Int→Int→Nat} {gs:Fs} {X Y:Int} {W H:Nat}:resC (gridL (G gs) X Y W H)=0 ↔ Gd (noEx gs) (G gs) X Y W H:=by
 rw [resC_grid]
 exact ⟨fun h x y hi=>⟨trivial,h x y hi⟩,fun h x y hi=>(h x y hi).2⟩
theorem gd_all {G:Fs→Int→Int→Nat} {gs:Fs} {X Y:Int} {W H:Nat} (h:∀ x y,InR X Y W H x y→Ht (G gs x y)):(0:Int)=0 ↔ Gd (noEx gs) (G gs) X Y W H:=⟨fun _ x y hi=>⟨trivial,h x y hi⟩,fun _=>rfl⟩
theorem Gd.sub {ex:Int→Int→Prop} {g:Int→Int→Nat} {X Y X2 Y2:Int} {W H W2 H2:Nat} (h:Gd ex g X Y W H) (h1:X≤X2) (h2:X2+W2≤X+W) (h3:Y≤Y2) (h4:Y2+H2≤Y+H):Gd ex g X2 Y2 W2 H2:=
 fun x y hi=>h x y ⟨by have:=hi.1;omega,by have:=hi.2.1;omega,by have:=hi.2.2.1;omega,by have:=hi.2.2.2;omega⟩
structure InOk (gs:Fs) (X Y:Int) (W H m i:Nat) (p:Inp):Prop where
 x:p.X=X-m
 y:p.Y=Y-m
 w:p.W=W+2*m
 h:p.H=H+2*m
 l:p.l=gridL (gs i) (X-m) (Y-m) (W+2*m) (H+2*m)
 r:Right (X-m) (Y-m) (W+2*m) (H+2*m) (gridL (gs i) (X-m) (Y-m) (W+2*m) (H+2*m))
structure EvOk (w:World) (s:ByteArray) (ia:Option Addr) (nin cin:Nat) (la:Option Addr) (nI cI:Nat) (ra:Option Addr) (nR cR:Nat) (m:Nat) (G:Fs→Int→Int→Nat) (ex:Fs→Int→Int→Prop):Prop where
 run:∀ (gs:Fs) (X Y:Int) (W H:Nat) (w':World) (sb:Nat) (P:List Inp) (ai:Option Addr) (cP:Nat),Below w.heap.size w w'→1≤W→1≤H→Rg (X-m) (Y-m) (W+2*m) (H+2*m)→InsAt w' sb P→P.length=nin→(nin≠0→ai=some ⟨sb,0,none⟩) →
  (∀ i p,P[i]?=some p→InOk gs X Y W H m i p) →
  ∃ c,(c=0 ↔ Gd (ex gs) (G gs) X Y W H)∧Calls Tryz.prog 45 #[ndV s ia nin cin la nI cI ra nR cR,reg X Y W H,.slice ai nin cP] w' (OpP c X Y W H (gridL (G gs) X Y W H) w')
theorem InOk.zero {gs:Fs} {X Y:Int} {W H i:Nat} {p:Inp} (h:InOk gs X Y W H 0 i p):p.X=X∧p.Y=Y∧p.W=W∧p.H=H∧p.l=gridL (gs i) X Y W H∧Right X Y W H (gridL (gs i) X Y W H):=by
 obtain ⟨h1,h2,h3,h4,h5,h6⟩:=h
 simp only [Int.natCast_zero,Int.sub_zero,Nat.mul_zero,Nat.add_zero] at *
 exact ⟨h1,h2,h3,h4,h5,h6⟩
theorem InsAt.row0 {w:World} {sb:Nat} {p:Inp} {P:List Inp} (h:InsAt w sb P) (hp:p∈P):SRow w (some ⟨p.g,0,none⟩) p.l:=h.row p hp
theorem Rg.zero {X Y:Int} {W H:Nat} (h:Rg (X-(0:Nat)) (Y-(0:Nat)) (W+2*0) (H+2*0)):Rg X Y W H:=by
 simpa only [Int.natCast_zero,Int.sub_zero,Nat.mul_zero,Nat.add_zero] using h
theorem one_of {P:List Inp} (h:P.length=1):∃ p,P=[p]:=by
 match P,h with
 | [p],_=>exact ⟨p,rfl⟩
theorem two_of {P:List Inp} (h:P.length=2):∃ p q,P=[p,q]:=by
 match P,h with
 | [p,q],_=>exact ⟨p,q,rfl⟩
theorem three_of {P:List Inp} (h:P.length=3):∃ p q r,P=[p,q,r]:=by
 match P,h with
 | [p,q,r],_=>exact ⟨p,q,r,rfl⟩
theorem EvOk.one0 {w:World} {s:ByteArray} {ia la ra:Option Addr} {cin nI cI nR cR:Nat} {G:Fs→Int→Int→Nat} {ex:Fs→Int→Int→Prop}
  (h:∀ (gs:Fs) (X Y:Int) (W H g c:Nat) (w':World) (sb cP:Nat),Below w.heap.size w w'→Rg X Y W H→Right X Y W H (gridL (gs 0) X Y W H)→InsAt w' sb [⟨X,Y,W,H,g,c,gridL (gs 0) X Y W H⟩] →
   ∃ c,(c=0 ↔ Gd (ex gs) (G gs) X Y W H)∧Calls Tryz.prog 45 #[ndV s ia 1 cin la nI cI ra nR cR,reg X Y W H,.slice (some ⟨sb,0,none⟩) 1 cP] w' (OpP c X Y W H (gridL (G gs) X Y W H) w')) :
  EvOk w s ia 1 cin la nI cI ra nR cR 0 G ex:=by
 refine ⟨fun gs X Y W H w' sb P ai cP hb hW hH hR hP hl ha hi=>?_⟩
 obtain ⟨p,rfl⟩:=one_of hl
 obtain ⟨e1,e2,e3,e4,e5,e6⟩:=(hi 0 p rfl).zero
 rw [ha (by decide)]
 obtain ⟨pX,pY,pW,pH,pg,pc,pl⟩:=p
 simp only at e1 e2 e3 e4 e5
 subst e1 e2 e3 e4 e5
 exact h gs _ _ _ _ pg pc w' sb cP hb hR.zero e6 hP
theorem EvOk.one {w:World} {s:ByteArray} {ia la ra:Option Addr} {cin nI cI nR cR m:Nat} {G:Fs→Int→Int→Nat} {ex:Fs→Int→Int→Prop}
  (h:∀ (gs:Fs) (X Y:Int) (W H g c:Nat) (w':World) (sb cP:Nat),Below w.heap.size w w'→1≤W→1≤H→Right (X-m) (Y-m) (W+2*m) (H+2*m) (gridL (gs 0) (X-m) (Y-m) (W+2*m) (H+2*m))→InsAt w' sb [⟨X-m,Y-m,W+2*m,H+2*m,g,c,gridL (gs 0) (X-m) (Y-m) (W+2*m) (H+2*m)⟩] →
   ∃ c,(c=0 ↔ Gd (ex gs) (G gs) X Y W H)∧Calls Tryz.prog 45 #[ndV s ia 1 cin la nI cI ra nR cR,reg X Y W H,.slice (some ⟨sb,0,none⟩) 1 cP] w' (OpP c X Y W H (gridL (G gs) X Y W H) w')) :
  EvOk w s ia 1 cin la nI cI ra nR cR m G ex:=by
 refine ⟨fun gs X Y W H w' sb P ai cP hb hW hH hR hP hl ha hi=>?_⟩
 obtain ⟨p,rfl⟩:=one_of hl
 obtain ⟨e1,e2,e3,e4,e5,e6⟩:=hi 0 p rfl
 rw [ha (by decide)]
 obtain ⟨pX,pY,pW,pH,pg,pc,pl⟩:=p
 simp only at e1 e2 e3 e4 e5
 subst e1 e2 e3 e4 e5
 exact h gs X Y W H pg pc w' sb cP hb hW hH e6 hP
theorem EvOk.nil0 {w:World} {s:ByteArray} {ia la ra:Option Addr} {cin nI cI nR cR:Nat} {G:Fs→Int→Int→Nat} {ex:Fs→Int→Int→Prop}
  (h:∀ (gs:Fs) (X Y:Int) (W H:Nat) (w':World) (ai:Option Addr) (sb cP:Nat),Below w.heap.size w w'→Rg X Y W H→InsAt w' sb [] →
   ∃ c,(c=0 ↔ Gd (ex gs) (G gs) X Y W H)∧Calls Tryz.prog 45 #[ndV s ia 0 cin la nI cI ra nR cR,reg X Y W H,.slice ai 0 cP] w' (OpP c X Y W H (gridL (G gs) X Y W H) w')) :
  EvOk w s ia 0 cin la nI cI ra nR cR 0 G ex:=by
 refine ⟨fun gs X Y W H w' sb P ai cP hb hW hH hR hP hl ha hi=>?_⟩
 obtain rfl:=List.length_eq_zero_iff.1 hl
 exact h gs X Y W H w' ai sb cP hb hR.zero hP
theorem EvOk.two {w:World} {s:ByteArray} {ia la ra:Option Addr} {cin nI cI nR cR:Nat} {G:Fs→Int→Int→Nat} {ex:Fs→Int→Int→Prop}
  (h:∀ (gs:Fs) (X Y:Int) (W H g c g2 c2:Nat) (w':World) (sb cP:Nat),Below w.heap.size w w'→Rg X Y W H→Right X Y W H (gridL (gs 0) X Y W H)→Right X Y W H (gridL (gs 1) X Y W H)→InsAt w' sb [⟨X,Y,W,H,g,c,gridL (gs 0) X Y W H⟩,⟨X,Y,W,H,g2,c2,gridL (gs 1) X Y W H⟩] →
   ∃ c,(c=0 ↔ Gd (ex gs) (G gs) X Y W H)∧Calls Tryz.prog 45 #[ndV s ia 2 cin la nI cI ra nR cR,reg X Y W H,.slice (some ⟨sb,0,none⟩) 2 cP] w' (OpP c X Y W H (gridL (G gs) X Y W H) w')) :
  EvOk w s ia 2 cin la nI cI ra nR cR 0 G ex:=by
 refine ⟨fun gs X Y W H w' sb P ai cP hb hW hH hR hP hl ha hi=>?_⟩
 obtain ⟨p,q,rfl⟩:=two_of hl
 obtain ⟨e1,e2,e3,e4,e5,e6⟩:=(hi 0 p rfl).zero
 obtain ⟨f1,f2,f3,f4,f5,f6⟩:=(hi 1 q rfl).zero
 rw [ha (by decide)]
 obtain ⟨pX,pY,pW,pH,pg,pc,pl⟩:=p
 obtain ⟨qX,qY,qW,qH,qg,qc,ql⟩:=q
 simp only at e1 e2 e3 e4 e5 f1 f2 f3 f4 f5
 subst e1 e2 e3 e4 e5 f1 f2 f3 f4 f5
 exact h gs _ _ _ _ pg pc qg qc w' sb cP hb hR.zero e6 f6 hP
theorem EvOk.three {w:World} {s:ByteArray} {ia la ra:Option Addr} {cin nI cI nR cR:Nat} {G:Fs→Int→Int→Nat} {ex:Fs→Int→Int→Prop}
  (h:∀ (gs:Fs) (X Y:Int) (W H g c g2 c2 g3 c3:Nat) (w':World) (sb cP:Nat),Below w.heap.size w w'→Rg X Y W H→Right X Y W H (gridL (gs 0) X Y W H)→Right X Y W H (gridL (gs 1) X Y W H)→Right X Y W H (gridL (gs 2) X Y W H)→InsAt w' sb [⟨X,Y,W,H,g,c,gridL (gs 0) X Y W H⟩,⟨X,Y,W,H,g2,c2,gridL (gs 1) X Y W H⟩,⟨X,Y,W,H,g3,c3,gridL (gs 2) X Y W H⟩] →
   ∃ c,(c=0 ↔ Gd (ex gs) (G gs) X Y W H)∧Calls Tryz.prog 45 #[ndV s ia 3 cin la nI cI ra nR cR,reg X Y W H,.slice (some ⟨sb,0,none⟩) 3 cP] w' (OpP c X Y W H (gridL (G gs) X Y W H) w')) :
  EvOk w s ia 3 cin la nI cI ra nR cR 0 G ex:=by
 refine ⟨fun gs X Y W H w' sb P ai cP hb hW hH hR hP hl ha hi=>?_⟩
 obtain ⟨p,q,r,rfl⟩:=three_of hl
 obtain ⟨e1,e2,e3,e4,e5,e6⟩:=(hi 0 p rfl).zero
 obtain ⟨f1,f2,f3,f4,f5,f6⟩:=(hi 1 q rfl).zero
 obtain ⟨g1,g2,g3,g4,g5,g6⟩:=(hi 2 r rfl).zero
 rw [ha (by decide)]
 obtain ⟨pX,pY,pW,pH,pg,pc,pl⟩:=p
 obtain ⟨qX,qY,qW,qH,qg,qc,ql⟩:=q
 obtain ⟨rX,rY,rW,rH,rg,rc,rl⟩:=r
 simp only at e1 e2 e3 e4 e5 f1 f2 f3 f4 f5 g1 g2 g3 g4 g5
 subst e1 e2 e3 e4 e5 f1 f2 f3 f4 f5 g1 g2 g3 g4 g5
 exact h gs _ _ _ _ pg pc qg qc rg rc w' sb cP hb hR.zero e6 f6 g6 hP
structure Rn where
 J:List Nat
 m:Nat
 G:Fs→Int→Int→Nat
 ex:Fs→Int→Int→Prop
def rn0:Rn:=⟨[],0,fun _ _ _=>0,noEx⟩
def zeroG:Int→Int→Nat:=fun _ _=>0
def rnAt (R:List Rn) (k:Nat):Rn:=R.getD k rn0
def gsOf (vs:List (Int→Int→Nat)) (r:Rn):Fs:=fun i=>vs.getD (r.J.getD i 0) zeroG
def valL (R:List Rn):Nat→List (Int→Int→Nat)
 | 0=>[]
 | k+1=>valL R k ++ [(rnAt R k).G (gsOf (valL R k) (rnAt R k))]
def gsK (R:List Rn) (k:Nat):Fs:=gsOf (valL R k) (rnAt R k)
def valK (R:List Rn) (k:Nat):Int→Int→Nat:=(rnAt R k).G (gsK R k)
def exK (R:List Rn) (k:Nat):Int→Int→Prop:=(rnAt R k).ex (gsK R k)
theorem valL_len (R:List Rn):∀ k,(valL R k).length=k
 | 0=>rfl
 | k+1=>by unfold valL;rw [List.length_append,valL_len R k];rfl
theorem valL_get (R:List Rn) {j:Nat}:∀ {k},j<k→(valL R k).getD j zeroG=valK R j
 | k+1,h=>by
  unfold valL
  rcases Nat.lt_or_ge j k with c|c
  ·rw [List.getD_eq_getElem?_getD,List.getElem?_append_left (by rw [valL_len];exact c),←List.getD_eq_getElem?_getD]
   exact valL_get R c
  ·obtain rfl:j=k:=by omega
   rw [List.getD_eq_getElem?_getD,List.getElem?_append_right (by rw [valL_len];exact Nat.le_refl _),valL_len,Nat.sub_self]
   rfl
theorem gsK_get (R:List Rn) {k i:Nat} (h:(rnAt R k).J.getD i 0<k):gsK R k i=valK R ((rnAt R k).J.getD i 0):=valL_get R h
def pushL (a:Int):List Nat→List Int→List Int
 | [],o=>o
 | i :: J,o=>pushL a J (o.set i (max (o.getD i 0) a))
theorem pushL_len (a:Int):∀ J o,(pushL a J o).length=o.length
 | [],o=>rfl
 | i :: J,o=>by unfold pushL;rw [pushL_len a J];simp
theorem set_get (o:List Int) (i j:Nat) (x:Int):(o.set i x).getD j 0=if i=j∧j<o.length then x else o.getD j 0:=by
 simp only [List.getD_eq_getElem?_getD,List.getElem?_set]
 by_cases h:i=j
 ·subst h
  by_cases hl:i<o.length
  ·simp [hl]
  ·rw [if_pos rfl,if_neg hl,if_neg (by omega)]
   simp [List.getElem?_eq_none (show o.length≤i by omega)]
 ·rw [if_neg h,if_neg (by omega)]
theorem pushL_ge (a:Int):∀ J o (j:Nat),o.getD j 0≤(pushL a J o).getD j 0
 | [],o,j=>Int.le_refl _
 | i :: J,o,j=>by
  unfold pushL
  refine Int.le_trans ?_ (pushL_ge a J _ j)
  rw [set_get]
  split
  ·rename_i h;rw [h.1];exact Int.le_max_left _ _
  ·exact Int.le_refl _
theorem pushL_mem (a:Int):∀ J o (j:Nat),j∈J→j<o.length→a≤(pushL a J o).getD j 0
 | i :: J,o,j,h,hl=>by
  unfold pushL
  rcases List.mem_cons.1 h with rfl|h
  ·refine Int.le_trans ?_ (pushL_ge a J _ j)
   rw [set_get,if_pos ⟨rfl,hl⟩]
   exact Int.le_max_right _ _
  ·exact pushL_mem a J _ j h (by simpa using hl)
theorem pushL_not (a:Int):∀ J o (j:Nat),j ∉ J→(pushL a J o).getD j 0=o.getD j 0
 | [],o,j,_=>rfl
 | i :: J,o,j,h=>by
  unfold pushL
  rw [pushL_not a J _ j (fun hm=>h (List.mem_cons_of_mem _ hm)),set_get,if_neg (fun hc=>h (by rw [hc.1];exact List.mem_cons_self ..))]
theorem pushL_or (a:Int):∀ J o (j:Nat),(pushL a J o).getD j 0=o.getD j 0∨(pushL a J o).getD j 0=a
 | [],o,j=>.inl rfl
 | i :: J,o,j=>by
  unfold pushL
  rcases pushL_or a J (o.set i (max (o.getD i 0) a)) j with h|h
  ·rw [h,set_get]
   split
   ·rename_i hc
    rw [hc.1]
    omega
   ·exact .inl rfl
  ·exact .inr h
def nStep (R:List Rn) (k:Nat) (s:List Int × Int):List Int × Int:=
 if s.1.getD k 0=-1 then s else (pushL (s.1.getD k 0+(rnAt R k).m) (rnAt R k).J s.1,max s.2 (s.1.getD k 0+(rnAt R k).m))
def nRun (R:List Rn):Nat→List Int × Int→List Int × Int
 | 0,s=>s
 | t+1,s=>nRun R t (nStep R t s)
def nStart (n out:Nat):List Int × Int:=((List.replicate n (-1)).set out 0,0)
def needsL (R:List Rn) (out:Nat):List Int × Int:=nRun R (out+1) (nStart R.length out)
structure NdS (R:List Rn) (out t:Nat) (s:List Int × Int):Prop where
 len:s.1.length=R.length
 lo:∀ k,k<R.length→s.1.getD k 0=-1∨(0≤s.1.getD k 0∧s.1.getD k 0≤2049*((out+1-t:Nat):Int))
 m0:0≤s.2
 m1:s.2≤2049*((out+1-t:Nat):Int)
 top:s.1.getD out 0=0
 done:∀ k,t≤k→k≤out→s.1.getD k 0≠-1→s.1.getD k 0+(rnAt R k).m≤s.2∧∀ j∈(rnAt R k).J,s.1.getD k 0+(rnAt R k).m≤s.1.getD j 0
 far:∀ k,out<k→k<R.length→s.1.getD k 0=-1
structure RnOk (R:List Rn):Prop where
 j:∀ k,k<R.length→∀ j∈(rnAt R k).J,j<k
 m:∀ k,k<R.length→(rnAt R k).m≤2049
theorem rep_get (n k:Nat) (h:k<n):(List.replicate n (-1:Int)).getD k 0=-1:=by
 simp [List.getD_eq_getElem?_getD,List.getElem?_replicate,h]
theorem NdS.start {R:List Rn} {out:Nat} (h:out<R.length):NdS R out (out+1) (nStart R.length out):=by
 refine ⟨by simp [nStart],fun k hk=>?_,by simp [nStart],by simp [nStart],?_,fun k h1 h2=>by omega,fun k h1 h2=>?_⟩
 ·simp only [nStart]
  rw [set_get]
  split
  ·right;exact ⟨Int.le_refl _,by omega⟩
  ·left;exact rep_get _ _ hk
 ·simp only [nStart]
  rw [set_get,if_pos ⟨rfl,by simpa using h⟩]
 ·simp only [nStart]
  rw [set_get,if_neg (by omega)]
  exact rep_get _ _ h2
theorem NdS.step {R:List Rn} (hR:RnOk R) {out t:Nat} {s:List Int × Int} (ho:out<R.length) (ht:t≤out) (h:NdS R out (t+1) s):NdS R out t (nStep R t s):=by
 have e:out+1-t=(out+1-(t+1))+1:=by omega
 have hJ:=hR.j t (by omega)
 have hm:=hR.m t (by omega)
 obtain ⟨h1,h2,h3,h4,h5,h6,h7⟩:=h
 unfold nStep
 generalize out+1-(t+1)=q at *
 by_cases hn:s.1.getD t 0=-1
 ·rw [if_pos hn]
  refine ⟨h1,fun k hk=>(h2 k hk).imp id fun ⟨a,b⟩=>⟨a,by push_cast;omega⟩,h3,by push_cast;omega,h5,fun k k1 k2 k3=>?_,h7⟩
  rcases Nat.lt_or_ge t k with c|c
  ·exact h6 k c k2 k3
  ·obtain rfl:k=t:=by omega
   exact absurd hn k3
 ·rw [if_neg hn]
  obtain ⟨a0,a1⟩:=(h2 t (by omega)).resolve_left hn
  have hnot:∀ k,t≤k→k ∉ (rnAt R t).J:=fun k hk hc=>by have:=hJ k hc;omega
  refine ⟨by simp only;rw [pushL_len];exact h1,fun k hk=>?_,?_,?_,?_,fun k k1 k2 k3=>?_,fun k k1 k2=>?_⟩
  ·simp only
   rcases pushL_or (s.1.getD t 0+(rnAt R t).m) (rnAt R t).J s.1 k with hc|hc
   ·rw [hc]
    exact (h2 k hk).imp id fun ⟨a,b⟩=>⟨a,by push_cast;omega⟩
   ·rw [hc]
    right
    exact ⟨by omega,by push_cast;omega⟩
  ·simp only;omega
  ·simp only;push_cast;omega
  ·simp only
   rw [pushL_not _ _ _ _ (hnot out ht)]
   exact h5
  ·simp only at k3 ⊢
   rw [pushL_not _ _ _ _ (hnot k k1)] at k3 ⊢
   rcases Nat.lt_or_ge t k with c|c
   ·obtain ⟨b1,b2⟩:=h6 k c k2 k3
    refine ⟨by omega,fun j hj=>Int.le_trans (b2 j hj) (pushL_ge _ _ _ _)⟩
   ·obtain rfl:k=t:=by omega
    refine ⟨by omega,fun j hj=>pushL_mem _ _ _ _ hj ?_⟩
    have:=hJ j hj
    omega
  ·simp only
   rw [pushL_not _ _ _ _ (hnot k (by omega))]
   exact h7 k k1 k2
theorem NdS.run {R:List Rn} (hR:RnOk R) {out:Nat} (ho:out<R.length):∀ t,t≤out+1→∀ s,NdS R out t s→NdS R out 0 (nRun R t s)
 | 0,_,s,h=>h
 | t+1,ht,s,h=>NdS.run hR ho t (by omega) _ (h.step hR ho (by omega))
theorem needs_ok {R:List Rn} (hR:RnOk R) {out:Nat} (ho:out<R.length):NdS R out 0 (needsL R out):=NdS.run hR ho _ (Nat.le_refl _) _ (NdS.start ho)
theorem rg_mono {X Y:Int} {W H d e:Nat} (h:Rg (X-e) (Y-e) (W+2*e) (H+2*e)) (hd:d≤e) (hW:1≤W) (hH:1≤H):Rg (X-d) (Y-d) (W+2*d) (H+2*d):=by
 obtain ⟨h1,h2,h3,h4,h5,h6,h7,h8,h9⟩:=h
 refine ⟨by omega,by omega,by omega,by omega,?_,by omega,by omega,by omega,by omega⟩
 exact Nat.le_trans (Nat.mul_le_mul (by omega) (by omega)) h5
structure EvalOk (R:List Rn) (out:Nat) (X Y:Int) (W H:Nat):Prop where
 at_:Rg X Y W H
 m200:(needsL R out).2≤200
 far:Rg (X-(needsL R out).2.toNat) (Y-(needsL R out).2.toNat) (W+2*(needsL R out).2.toNat) (H+2*(needsL R out).2.toNat)
 gd:∀ k,k<R.length→∀ d:Nat,(needsL R out).1.getD k 0=d→Gd (exK R k) (valK R k) (X-d) (Y-d) (W+2*d) (H+2*d)
theorem EvalOk.sub {R:List Rn} {out:Nat} {X Y X2 Y2:Int} {W H W2 H2:Nat} (h:EvalOk R out X Y W H) (hW:1≤W2) (hH:1≤H2) (h1:X≤X2) (h2:X2+W2≤X+W) (h3:Y≤Y2) (h4:Y2+H2≤Y+H):EvalOk R out X2 Y2 W2 H2:=by
 obtain ⟨a,b,c,d⟩:=h
 have hW2:W2≤W:=by omega
 have hH2:H2≤H:=by omega
 refine ⟨?_,b,?_,fun k hk e he=>(d k hk e he).sub (by omega) (by omega) (by omega) (by omega)⟩
 ·obtain ⟨g1,g2,g3,g4,g5,g6,g7,g8,g9⟩:=a
  exact ⟨hW,by omega,hH,by omega,Nat.le_trans (Nat.mul_le_mul hW2 hH2) g5,by omega,by omega,by omega,by omega⟩
 ·generalize (needsL R out).2.toNat=e at *
  obtain ⟨g1,g2,g3,g4,g5,g6,g7,g8,g9⟩:=c
  exact ⟨by omega,by omega,by omega,by omega,Nat.le_trans (Nat.mul_le_mul (by omega) (by omega)) g5,by omega,by omega,by omega,by omega⟩
theorem EvalOk.out {R:List Rn} {out:Nat} {X Y:Int} {W H:Nat} (hR:RnOk R) (ho:out<R.length) (h:EvalOk R out X Y W H):Gd (exK R out) (valK R out) X Y W H:=by
 have:=h.gd out ho 0 (by rw [(needs_ok hR ho).top];rfl)
 simpa only [Int.natCast_zero,Int.sub_zero,Nat.mul_zero,Nat.add_zero] using this
end Go.Proofs.YtmggflgdoioajaaGreat
namespace Ieee
namespace Format
open Go
end Format
end Ieee
namespace Go.Proofs.YtmggflgdoioajaaGreat
open Go.ChangeShapes Go.WideShapes Go.ChangeAt Go.RowKit
open Ieee.Format (fin finE htE allFin allHt all_true all_false mulF subF addF Ht Bd divF rootF floorF easeF mixF)
def blL (ψ:Nat→Nat) (l:List Nat) (k:Nat):List Nat:=(List.range k).map ψ ++ l.drop k
theorem blL_zero (ψ:Nat→Nat) (l:List Nat):blL ψ l 0=l:=by simp [blL]
theorem blL_len (ψ:Nat→Nat) (l:List Nat) (k:Nat) (hk:k≤l.length):(blL ψ l k).length=l.length:=by
 unfold blL;rw [List.length_append,List.length_map,List.length_range,List.length_drop];omega
theorem blL_succ (ψ:Nat→Nat) (l:List Nat) (k:Nat) (hk:k<l.length):(blL ψ l k).set k (ψ k)=blL ψ l (k+1):=by
 unfold blL
 have h1:((List.range k).map ψ).length=k:=by simp
 have hd:=List.drop_eq_getElem_cons hk
 rw [List.set_append_right _ _ (by omega),h1,Nat.sub_self,List.range_succ,List.map_append,List.append_assoc,hd]
 rfl
def mixL (A B S:List Nat):List Nat:=(List.range A.length).map fun i=>mixF (A.getD i 0) (B.getD i 0) (S.getD i 0)
theorem mixL_len (A B S:List Nat):(mixL A B S).length=A.length:=by simp [mixL]
theorem blL_all (A B S:List Nat):blL (fun i=>mixF (A.getD i 0) (B.getD i 0) (S.getD i 0)) A A.length=mixL A B S:=by simp [blL,mixL]
def noWt (v:Nat):Bool:=lss v 0 || gtr v 1065353216
theorem wt_bd {v:Nat} (hv:fin Ieee.single v) (h:noWt v=false):Bd 0 v:=by
 have h1:lss v 0=false∧gtr v 1065353216=false:=by unfold noWt at h;simpa using h
 have a:decide (Ieee.single.V v<Ieee.single.V 0)=false:=by rw [←h1.1];exact (Ieee.single.order_lt hv Ieee.Format.const_0.1).symm
 have b:decide (Ieee.single.V 1065353216<Ieee.single.V v)=false:=by rw [←h1.2];exact (Ieee.single.order_gt hv Ieee.Format.const_1.1).symm
 rw [Ieee.Format.const_0.2.1] at a
 rw [Ieee.Format.const_1.2.1] at b
 have a':=of_decide_eq_false a
 have b':=of_decide_eq_false b
 refine ⟨hv,?_,?_⟩
 ·have:Ieee.P2 ((0:Nat):Int)=1:=Ieee.P2_zero
  rw [this];grind
 ·have:Ieee.P2 ((0:Nat):Int)=1:=Ieee.P2_zero
  rw [this];grind
end Go.Proofs.YtmggflgdoioajaaGreat
