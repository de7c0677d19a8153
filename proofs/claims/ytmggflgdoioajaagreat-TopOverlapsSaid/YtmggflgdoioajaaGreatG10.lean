import Derived.Test.YtmggflgdoioajaaGreatG09
import Derived.Deep.AppendLies
import Derived.BigQuiet
import Derived.Deep.QuietTactic
import Derived.Deep.DeepCutAuto
import Derived.Deep.RegionHeld3
set_option linter.unusedSimpArgs false
set_option linter.unusedVariables false
namespace Go.Proofs.YtmggflgdoioajaaGreat
open Go.ChangeShapes Go.WideShapes Go.ChangeAt Go.RowKit
open Ieee.Format (fin finE htE allFin allHt all_true all_false mulF subF addF Ht Bd divF rootF floorF easeF mixF)
theorem SRow.cellAt {w:World} {a:Option Addr} {l:List Nat} (h:SRow w a l) (k:Nat) (hk:k<l.length):∃ b o,a=some ⟨b,o,none⟩∧w.cell? ⟨b,o+k,none⟩=some (.float .f32 (l.getD k 0)):=by
 rcases h.2 with h0|⟨b,o,rfl,h1⟩
 ·subst h0;exact absurd hk (by simp)
 ·exact ⟨b,o,rfl,h1 k hk⟩
theorem index_no (gn:Nat) (caps:Array Value) (a:Option Addr) (c:Nat) (l:List Nat) (w:World) (hl:SRow w a l)
  (eg:∀ args w,(callFunc gn args).run Tryz.prog w=.ok (.enter gn args) w)
  (hf:∀ i,i<l.length→Calls Tryz.prog gn (#[.float .f32 (l.getD i 0)] ++ caps) w fun e w'=>e=.returned (.bool false)∧w=w') :
  Calls Tryz.prog 138 #[.slice a l.length c,.func (.func gn) #[] caps] w fun e w'=>e=.returned (.int .i64 (-1))∧w=w':=by
 have HL:=Lib.hid hl
 have HF:=Lib.hid hf
 have hn:l.length≤1099511627776:=hl.1.1
 clear hl hf
 go_enter Tryz.func138,Tryz.ntmps138
 go_wp2
 go_loop [8] (fun i=>∃ k:Nat,k≤l.length∧i=.int .i64 k) (fun i=>l.length-(intOf i).toNat)
 case atStart=>exact ⟨0,by omega,rfl⟩
 case round =>
  obtain ⟨k,hk,rfl⟩:=hrel
  by_cases hlt:k<l.length
  ·obtain ⟨b,o,rfl,hc⟩:=HL.out.cellAt k hlt
   have KF:=Lib.hid (HF.out k hlt)
   exact qx72
  ·go_wp2
   go_ret
   exact ⟨rfl,rfl⟩
theorem index_yes (gn:Nat) (caps:Array Value) (a:Option Addr) (c:Nat) (l:List Nat) (w:World) (hl:SRow w a l)
  (eg:∀ args w,(callFunc gn args).run Tryz.prog w=.ok (.enter gn args) w) (j:Nat) (hj:j<l.length)
  (hf:∀ i,i<j→Calls Tryz.prog gn (#[.float .f32 (l.getD i 0)] ++ caps) w fun e w'=>e=.returned (.bool false)∧w=w')
  (hf2:Calls Tryz.prog gn (#[.float .f32 (l.getD j 0)] ++ caps) w fun e w'=>e=.returned (.bool true)∧w=w') :
  Calls Tryz.prog 138 #[.slice a l.length c,.func (.func gn) #[] caps] w fun e w'=>e=.returned (.int .i64 j)∧w=w':=by
 have HL:=Lib.hid hl
 have HF:=Lib.hid hf
 have HT:=Lib.hid hf2
 have hn:l.length≤1099511627776:=hl.1.1
 clear hl hf hf2
 go_enter Tryz.func138,Tryz.ntmps138
 go_wp2
 go_loop [8] (fun i=>∃ k:Nat,k≤j∧i=.int .i64 k) (fun i=>l.length-(intOf i).toNat)
 case atStart=>exact ⟨0,by omega,rfl⟩
 case round =>
  obtain ⟨k,hk,rfl⟩:=hrel
  have hlt:k<l.length:=by omega
  obtain ⟨b,o,rfl,hc⟩:=HL.out.cellAt k hlt
  by_cases hkj:k<j
  ·have KF:=Lib.hid (HF.out k hkj)
   exact qx72
  ·obtain rfl:k=j:=by omega
   generalize l.getD k 0=x at *
   go_wp2_with fail
   refine (HT.out).mono ?_
   rintro e w' ⟨rfl,rfl⟩
   go_wp2_with fail
   go_ret
   exact ⟨rfl,rfl⟩
theorem first_true (p:Nat→Bool) (n:Nat):(∀ i,i<n→p i=false)∨∃ j,j<n∧(∀ i,i<j→p i=false)∧p j=true:=by
 induction n with
 | zero=>exact .inl fun i hi=>absurd hi (by omega)
 | succ n ih =>
  rcases ih with h|⟨j,hj,h1,h2⟩
  ·cases hp:p n
   ·exact .inl fun i hi=>by
     rcases Nat.lt_or_ge i n with c|c
     ·exact h i c
     ·rw [show i=n by omega];exact hp
   ·exact .inr ⟨n,by omega,h,hp⟩
  ·exact .inr ⟨j,by omega,h1,h2⟩
theorem contains_any (gn:Nat) (caps:Array Value) (φ:Nat→Bool) (a:Option Addr) (c:Nat) (l:List Nat) (w:World) (hl:SRow w a l)
  (eg:∀ args w,(callFunc gn args).run Tryz.prog w=.ok (.enter gn args) w)
  (hf:∀ x,Calls Tryz.prog gn (#[.float .f32 x] ++ caps) w fun e w'=>e=.returned (.bool (φ x))∧w=w') :
  Calls Tryz.prog 101 #[.slice a l.length c,.func (.func gn) #[] caps] w fun e w'=>e=.returned (.bool (l.any φ))∧w=w':=by
 rcases first_true (fun i=>φ (l.getD i 0)) l.length with h|⟨j,hj,h1,h2⟩
 ·have hK:=index_no gn caps a c l w hl eg (fun i hi=>by have:=hf (l.getD i 0);rw [h i hi] at this;exact this)
  have hall:l.any φ=false:=by
   exact qx70
  rw [hall]
  have K:=Lib.hid hK
  clear hK hl eg hf h hall
  go_enter Tryz.func101,Tryz.ntmps101
  go_wp2_with fail
  refine (K.out).mono ?_
  rintro e w' ⟨rfl,rfl⟩
  go_wp2_with fail
  go_ret
  exact ⟨rfl,rfl⟩
 ·have hK:=index_yes gn caps a c l w hl eg j hj (fun i hi=>by have:=hf (l.getD i 0);rw [h1 i hi] at this;exact this) (by have:=hf (l.getD j 0);rw [h2] at this;exact this)
  have hall:l.any φ=true:=by
   rw [List.any_eq_true]
   refine ⟨l[j],List.getElem_mem hj,?_⟩
   simp only [List.getD_eq_getElem?_getD,List.getElem?_eq_getElem hj,Option.getD_some] at h2
   exact h2
  rw [hall]
  have K:=Lib.hid hK
  have hjn:j≤1099511627776:=by have:=hl.1.1;omega
  clear hK hl eg hf h1 h2 hall hj
  go_enter Tryz.func101,Tryz.ntmps101
  go_wp2_with fail
  refine (K.out).mono ?_
  rintro e w' ⟨rfl,rfl⟩
  go_wp2_with fail
  go_ret
  exact ⟨rfl,rfl⟩
theorem noWtfn_any (x:Nat) (w:World):Calls Tryz.prog 102 #[.float .f32 x] w fun e w'=>e=.returned (.bool (noWt x))∧w=w':=by
 unfold noWt
 cases h:lss x 0 with
 | true =>
  have h':(FloatKind.f32.format.order x 0 == some .lt)=true:=h
  go_enter Tryz.func102,Tryz.ntmps102
  go_wp2
  go_ret
  exact ⟨rfl,rfl⟩
 | false =>
  have h':(FloatKind.f32.format.order x 0 == some .lt)=false:=h
  go_enter Tryz.func102,Tryz.ntmps102
  go_wp2
  go_ret
  exact ⟨rfl,rfl⟩
def FlAt (w:World) (b p:Nat):Prop:=∃ (X Y:Int) (Wn Hn b' o' c:Nat) (l:List Nat),Right X Y Wn Hn l∧SRow w (some ⟨b',o',none⟩) l ∧
 w.cell? ⟨b,p,none⟩=some (.int .i64 X)∧w.cell? ⟨b,p+1,none⟩=some (.int .i64 Y)∧w.cell? ⟨b,p+2,none⟩=some (.int .i64 (Wn:Int))∧w.cell? ⟨b,p+3,none⟩=some (.int .i64 (Hn:Int))∧w.cell? ⟨b,p+4,none⟩=some (.slice (some ⟨b',o',none⟩) l.length c)
set_option maxRecDepth 100000 in
set_option maxHeartbeats 1000000 in
theorem checkall_any (b o n c:Nat) (w:World) (hb:b<w.heap.size) (hn:n≤3) (hf:∀ i,i<n→FlAt w b (o+i*5)) :
  Calls Tryz.prog 100 #[.slice (some ⟨b,o,none⟩) n c] w fun e w'=>e=.returned (.int .i64 0)∧Below w.heap.size w w':=by
 have HF:=Lib.hid hf
 clear hf
 go_enter Tryz.func100,Tryz.ntmps100
 go_wp2_with fail
 go_loopw [8] (fun i wr=>∃ k:Nat,k≤n∧i=.int .i64 k∧Below w.heap.size w wr) (fun i _=>n-(intOf i).toNat)
 case atStart=>exact ⟨0,by omega,rfl,qBl⟩
 case round =>
  obtain ⟨k,hk,rfl,B⟩:=hrel
  have HB:=Lib.hid B
  by_cases hlt:k<n
  ·obtain ⟨X,Y,Wn,Hn,b',o',cc,l,hr,hl,h0,h1,h2,h3,h4⟩:=HF.out k hlt
   have m0:=(B.cell (p:=⟨b,o+k*5,none⟩) (by simpa using hb)).trans h0
   have m1:=(B.cell (p:=⟨b,o+k*5+1,none⟩) (by simpa using hb)).trans h1
   have m2:=(B.cell (p:=⟨b,o+k*5+2,none⟩) (by simpa using hb)).trans h2
   have m3:=(B.cell (p:=⟨b,o+k*5+3,none⟩) (by simpa using hb)).trans h3
   have m4:=(B.cell (p:=⟨b,o+k*5+4,none⟩) (by simpa using hb)).trans h4
   have hz:=B.size
   have l5:b<wr.heap.size:=by omega
   have B1:Below wr.heap.size wr (wr.alloc (.cells #[.int .i64 X,.int .i64 Y,.int .i64 Wn,.int .i64 Hn,.slice (some ⟨b',o',none⟩) l.length cc] 32)):=qBl
   have K:=Lib.hid (check_field X Y Wn Hn (some ⟨b',o',none⟩) cc l _ ((SRow.below hl B).below B1))
   rw [hr.chk] at K
   have HB1:=Lib.hid B1
   clear h0 h1 h2 h3 h4 B hk hl hr B1
   go_wp2_with fail
   refine (K.out).mono ?_
   rintro e w2 ⟨rfl,b2⟩
   have HB2:=Lib.hid (HB.out.trans ((HB1.out.trans (b2.mono HB1.out.size)).mono hz))
   clear b2 HB1
   go_wp2_with fail
   go_roundw
   case rel=>exact ⟨k+1,by omega,by go_num,HB2.out⟩
   case measure=>simp [intOf];omega
  ·obtain rfl:k=n:=by omega
   go_wp2_with fail
   go_ret
   exact ⟨rfl,HB.out⟩
def cutV (l:List Nat) (X Y:Int) (Wn:Nat) (x y:Int):Nat:=l.getD (cellNo X Y Wn x y).toNat 0
def cutL (l:List Nat) (X Y:Int) (Wn:Nat) (P Q:Int) (A n:Nat):List Nat:=madeL (cutV l X Y Wn) P Q A n
theorem cutL_len (l:List Nat) (X Y:Int) (Wn:Nat) (P Q:Int) (A n:Nat):(cutL l X Y Wn P Q A n).length=n:=madeL_len _ _ _ _ _
def rowAt (X Y:Int) (Wn:Nat) (P Q:Int) (j:Nat):Nat:=((Q+j-Y)*Wn+P-X).toNat
theorem cut_row (l:List Nat) (X Y:Int) (Wn Hn:Nat) (P Q:Int) (A B j:Nat) (hl:l.length=Hn*Wn) (hj:j<B) (h1:X≤P) (h2:P+A≤X+Wn) (h3:Y≤Q) (h4:Q+B≤Y+Hn) :
  cutL l X Y Wn P Q A (j*A+A)=cutL l X Y Wn P Q A (j*A) ++ (l.drop (rowAt X Y Wn P Q j)).take A:=by
 unfold cutL madeL
 rw [List.range_add,List.map_append,List.map_map]
 congr 1
 obtain ⟨q,hq⟩:∃ q:Nat,(q:Int)=Q+j-Y:=⟨(Q+j-Y).toNat,by omega⟩
 obtain ⟨p,hp⟩:∃ p:Nat,(p:Int)=P-X:=⟨(P-X).toNat,by omega⟩
 have hk:rowAt X Y Wn P Q j=q*Wn+p:=by
  unfold rowAt
  rw [←hq,←Int.natCast_mul]
  omega
 have hle:(q+1)*Wn≤Hn*Wn:=Nat.mul_le_mul_right _ (by omega)
 rw [Nat.add_mul,Nat.one_mul] at hle
 rw [hk]
 refine List.ext_getElem? fun i=>?_
 by_cases hi:i<A
 ·have hm:(j*A+i)%A=i:=by rw [Nat.mul_comm,Nat.mul_add_mod];exact Nat.mod_eq_of_lt hi
  have hd:(j*A+i) / A=j:=by
   rw [Nat.mul_comm,Nat.mul_add_div (by omega),Nat.div_eq_of_lt hi];omega
  have e:(cellNo X Y Wn (P+(i:Int)) (Q+(j:Int))).toNat=q*Wn+p+i:=by
   unfold cellNo
   rw [←hq,←Int.natCast_mul]
   omega
  rw [List.getElem?_map,List.getElem?_range hi,List.getElem?_take,if_pos hi,List.getElem?_drop]
  simp only [Option.map_some,Function.comp]
  rw [hm,hd]
  unfold cutV
  rw [e,List.getD_eq_getElem?_getD,List.getElem?_eq_getElem (by omega)]
  rfl
 ·rw [List.getElem?_eq_none (by simp;omega),List.getElem?_eq_none (by rw [List.length_take];omega)]
theorem bl_blt0 {w:World} {b o:Nat} {l:List Nat} (h:SRow w (some ⟨b,o,none⟩) l) (hn:0<l.length):b<w.heap.size:=by
 exact qx61
theorem bl_pos0 {X Y:Int} {Wn Hn:Nat} {l:List Nat} (h:Right X Y Wn Hn l):0<l.length:=by
 have:=Nat.mul_le_mul h.h1 h.w1
 rw [←h.len] at this;omega
theorem MakeInv.mid0 {w w2 w3:World} {k5:Nat} {X Y W H:Int} {v:Value} {m:List Nat} (h:MakeInv w w2 k5 X Y W H v m) (hg:w2.grownBy w3 v.ownBlock) :
  Reg w3 w.heap.size X Y W H∧Fld w3 (w.heap.size+1) 0 0 0 0 (.slice none 0 0)∧Fld w3 k5 X Y W H v∧Below w.heap.size w w3:=by
 have hne:∀ k,k<w.heap.size+2→some k≠v.ownBlock:=fun k hk e=>by
  have:=(h.own.lt k e.symm).1;omega
 refine ⟨h.rg.grown hg (hne _ (by omega)),h.rz.grown hg (hne _ (by omega)),h.fo.grown hg (fun e=>h.ne e.symm),?_⟩
 have hz:=h.below.size
 refine h.below.grown hg (by omega) (fun k hk=>?_)
 have:=(h.own.lt k hk).1
 omega
theorem MakeInv.appN {w w2 w3:World} {k5:Nat} {X Y W H:Int} {v:Value} {m:List Nat} (h:MakeInv w w2 k5 X Y W H v m) {ys:List Nat} {g cap n:Nat} (hn:ys.length=n) (hy:∀ y∈ys,y<4294967296)
  (hown:w3.ownsRow (w.heap.size+2) 48 1 (.slice (some ⟨g,0,none⟩) (m.length+n) cap) (m.length+n) (fls m ++ fls ys)) (hg:w2.grownBy w3 v.ownBlock) (hgk:g≠k5) :
  MakeInv w (w3.setCell ⟨k5,4,none⟩ (.slice (some ⟨g,0,none⟩) (m.length+n) cap)) k5 X Y W H (.slice (some ⟨g,0,none⟩) (m.length+n) cap) (m ++ ys):=by
 subst hn
 obtain ⟨a,b,c,d⟩:=h.mid0 hg
 have hgl:=(hown.lt g rfl).1
 have hk5:=h.k5g
 have hne:w.heap.size≠k5:=by omega
 have hne2:w.heap.size+1≠k5:=by omega
 refine ⟨a.setCell hne _,b.setCell hne2 _,c.set4 _,hk5,(by simp [Value.ownBlock];exact hgk),?_,?_,d.setCell (by show w.heap.size≤k5;omega) _⟩
 ·have e:fls (m ++ ys)=fls m ++ fls ys:=by unfold fls;simp
  have e2:(m ++ ys).length=m.length+ys.length:=by simp
  rw [e,e2]
  have ho:OwnF w3 (w.heap.size+2) g cap (m ++ ys):=⟨by rw [e,e2];exact hown,fun y hy'=>by
   rcases List.mem_append.1 hy' with h' | h'
   ·exact h.wf _ h'
   ·exact hy _ h'⟩
  have:=(ho.setCell (p:=⟨k5,4,none⟩) hgk (.slice (some ⟨g,0,none⟩) (m.length+ys.length) cap)).1
  rw [e,e2] at this
  exact this
 ·intro y hy'
  rcases List.mem_append.1 hy' with h' | h'
  ·exact h.wf _ h'
  ·exact hy _ h'
set_option maxRecDepth 100000 in
set_option maxHeartbeats 4000000 in
theorem part_any (X Y:Int) (Wn Hn:Nat) (b o c:Nat) (l:List Nat) (P Q:Int) (A B:Nat) (w:World) (hl:SRow w (some ⟨b,o,none⟩) l) (hc:l.length≤c) (hr:Right X Y Wn Hn l) (hA:1≤A) (hB:1≤B) (h1:X≤P) (h2:P+A≤X+Wn) (h3:Y≤Q) (h4:Q+B≤Y+Hn) :
    Calls Tryz.prog 26 #[fldV X Y Wn Hn (some ⟨b,o,none⟩) l.length c,reg P Q A B] w fun e w'=>NewF w.heap.size P Q A B (cutL l X Y Wn P Q A (B*A)) w e w':=by
  have HL:=Lib.hid hl
  have HR:=Lib.hid hr
  have g1:=hr.w2;have g2:=hr.h2;have g3:=hr.x1;have g4:=hr.x2;have g5:=hr.y1;have g6:=hr.y2
  have HLE:=Lib.hid hr.len
  have KR:=Lib.hid (fun j hj=>cut_row l X Y Wn Hn P Q A B j hr.len hj h1 h2 h3 h4)
  have KB:Hid (∀ j,j<B→(rowAt X Y Wn P Q j:Int)=(Q+j-Y)*Wn+P-X∧rowAt X Y Wn P Q j+A≤l.length∧0≤(Q+j-Y)*Wn∧(Q+j-Y)*Wn≤262144):=by
    intro j hj
    obtain ⟨q,hq⟩:∃ q:Nat,(q:Int)=Q+j-Y:=⟨(Q+j-Y).toNat,by omega⟩
    have hle:(q+1)*Wn≤Hn*Wn:=Nat.mul_le_mul_right _ (by omega)
    rw [Nat.add_mul,Nat.one_mul] at hle
    have h5:q*Wn≤512*512:=Nat.mul_le_mul (by omega) (by omega)
    unfold rowAt
    rw [←hq,←Int.natCast_mul,hr.len]
    omega
  obtain ⟨i0,hi,hz0,hz1,hz2⟩:=info_parts info24
  obtain ⟨n,hn,hn2,hn3⟩:∃ n:Nat,IntKind.i64.wrap ((A:Int)*(B:Int))=(n:Int)∧n=B*A∧n≤262144:=by
    have h3:B*A≤512*512:=Nat.mul_le_mul (by omega) (by omega)
    refine ⟨B*A,?_,rfl,by omega⟩
    rw [show (A:Int)*(B:Int)=((B*A:Nat):Int) from by rw [Int.natCast_mul,Int.mul_comm]]
    rw [IntKind.wrap_i64];omega
  have hlen2:l.length≤262144:=by have:=Nat.mul_le_mul hr.h2 hr.w2;rw [hr.len];omega
  obtain ⟨oM,hmk,hMO⟩:=make_law i0 hi hz0 hz1 hz2 n hn3
  have HMO:=Lib.hid hMO
  have bl:b<w.heap.size:=bl_blt0 hl (bl_pos0 hr)
  clear hMO hl hr hn2
  have HF1:=Lib.hid (Fld.new w X Y Wn Hn (.slice (some ⟨b,o,none⟩) l.length c))
  have b1:Below w.heap.size w (w.alloc (.cells #[.int .i64 X,.int .i64 Y,.int .i64 Wn,.int .i64 Hn,.slice (some ⟨b,o,none⟩) l.length c] 32)):=qBl
  have HB1:=Lib.hid b1
  have hs1:(w.alloc (.cells #[.int .i64 X,.int .i64 Y,.int .i64 Wn,.int .i64 Hn,.slice (some ⟨b,o,none⟩) l.length c] 32)).heap.size=w.heap.size+1:=by simp
  have HS1:=Lib.hid hs1
  clear b1 hs1
  go_enter Tryz.func26,Tryz.ntmps26
  go_wp2_with fail
  go_region
  all_goals
    first
      | (obtain ⟨W0,hW0⟩:∃ W0:World,((((w.alloc (.cells #[.int .i64 X,.int .i64 Y,.int .i64 Wn,.int .i64 Hn,.slice (some ⟨b,o,none⟩) l.length c] 32)).alloc (.cells #[.int .i64 P,.int .i64 Q,.int .i64 (A:Int),.int .i64 (B:Int)] 26)).alloc (.cells #[.int .i64 0,.int .i64 0,.int .i64 0,.int .i64 0,.slice none 0 0] 32)).alloc (.cells #[.int .i64 P,.int .i64 Q,.int .i64 A,.int .i64 B,.slice (some ⟨w.heap.size+1+1+1+1,0,none⟩) 0 n] 32)).alloc oM=W0:=⟨_,rfl⟩
         rw [hW0]
         have I0:=(make_start1 (w.alloc (.cells #[.int .i64 X,.int .i64 Y,.int .i64 Wn,.int .i64 Hn,.slice (some ⟨b,o,none⟩) l.length c] 32)) P Q A B oM n HMO.out W0 (by rw [←hW0];simp)).drew
         rw [HS1.out] at I0
         have hk5:w.heap.size+3≤w.heap.size+1+1+1:=by omega
         generalize w.heap.size+1+1+1=k5 at *)
      | (obtain ⟨W0,hW0⟩:∃ W0:World,((((w.alloc (.cells #[.int .i64 X,.int .i64 Y,.int .i64 Wn,.int .i64 Hn,.slice (some ⟨b,o,none⟩) l.length c] 32)).alloc (.cells #[.int .i64 P,.int .i64 Q,.int .i64 (A:Int),.int .i64 (B:Int)] 26)).alloc (.cells #[.int .i64 0,.int .i64 0,.int .i64 0,.int .i64 0,.slice none 0 0] 32)).alloc oM).alloc (.cells #[.int .i64 P,.int .i64 Q,.int .i64 A,.int .i64 B,.slice (some ⟨w.heap.size+1+1+1,0,none⟩) 0 n] 32)=W0:=⟨_,rfl⟩
         rw [hW0]
         have I0:=(make_start2 (w.alloc (.cells #[.int .i64 X,.int .i64 Y,.int .i64 Wn,.int .i64 Hn,.slice (some ⟨b,o,none⟩) l.length c] 32)) P Q A B oM n HMO.out W0 (by rw [←hW0];simp)).drew
         rw [HS1.out] at I0
         have hk5:w.heap.size+3≤w.heap.size+1+1+1+1:=by omega
         generalize w.heap.size+1+1+1+1=k5 at *)
    clear hW0
    generalize W0.drew=W1 at *
    clear HMO hmk hn
    generalize w.alloc (.cells #[.int .i64 X,.int .i64 Y,.int .i64 Wn,.int .i64 Hn,.slice (some ⟨b,o,none⟩) l.length c] 32)=w1 at *
    have R0:Reg W1 (w.heap.size+1) P Q A B:=by have:=I0.rg;rwa [HS1.out] at this
    obtain ⟨q0,q1,q2,q3⟩:=R0.cells
    have lr:=R0.lt
    have HI0:=Lib.hid I0
    clear R0 I0
    go_wp2_with fail
    clear q0 q1 q2 q3 lr
    go_loopw [6,7] (fun vy _ wr=>∃ j:Nat,j≤B∧vy=.int .i64 (Q+j)∧∃ v,MakeInv w1 wr k5 P Q A B v (cutL l X Y Wn P Q A (j*A))) (fun vy _ _=>(Q+B-intOf vy).toNat)
    case atStart=>exact ⟨0,by omega,by simp,_,by rw [Nat.zero_mul];exact HI0.out⟩
    case round =>
      clear HI0
      obtain ⟨j,hj,rfl,v,I⟩:=hrel
      have IH:=Lib.hid I
      have R:Reg wr (w.heap.size+1) P Q A B:=by have:=I.rg;rwa [HS1.out] at this
      have F:=HF1.out.below I.below (by have:=HS1.out;omega)
      obtain ⟨r0,r1,r2,r3⟩:=R.cells
      obtain ⟨f0,f1,f2,f3,f4⟩:=F.cells
      have c4:=I.fo.cells.2.2.2.2
      have lr:=R.lt
      have lf:=F.lt
      have lk:=I.fo.lt
      have HRG:=Lib.hid R
      clear R F I
      by_cases hlt:j<B
      · have b1:(Q+j:Int)<Q+B:=by omega
        obtain ⟨e1,e2,e3,e4⟩:=KB.out j hlt
        have HK:=Lib.hid (KR.out j hlt)
        have hml:(cutL l X Y Wn P Q A (j*A)).length≤262144:=by
          rw [cutL_len]
          have:=Nat.mul_le_mul (show j≤512 by omega) (show A≤512 by omega)
          omega
        have hwf:Hid (∀ y∈(l.drop (rowAt X Y Wn P Q j)).take A,y<4294967296):=fun y hy=>HL.out.1.2 y (List.mem_of_mem_drop (List.mem_of_mem_take hy))
        have hyl:((l.drop (rowAt X Y Wn P Q j)).take A).length=A:=by rw [List.length_take,List.length_drop];omega
        have hnews:Hid (∀ jj u,(fls ((l.drop (rowAt X Y Wn P Q j)).take A))[jj]?=some u→wr.cell? ((⟨b,o+rowAt X Y Wn P Q j,none⟩:Addr).add jj)=some u):=by
          intro jj u hu
          have hjj:jj<A:=by
            rcases Nat.lt_or_ge jj A with h|h
            · exact h
            · rw [List.getElem?_eq_none (by unfold fls;rw [List.length_map,hyl];exact h)] at hu;cases hu
          unfold fls at hu
          rw [List.getElem?_map,List.getElem?_take,if_pos hjj,List.getElem?_drop,List.getElem?_eq_getElem (by omega)] at hu
          have hcell:=(SRow.below HL.out (HB1.out.trans (IH.out.below.mono (by have:=HS1.out;omega)))).at_ (k:=rowAt X Y Wn P Q j+jj) (by omega)
          rw [List.getD_eq_getElem?_getD,List.getElem?_eq_getElem (by omega)] at hcell
          rw [Go.WideShapes.add_plain,Nat.add_assoc,hcell]
          exact hu
        have HYL:=Lib.hid hyl
        have hKe:(Q+j-Y)*Wn+P-X=(rowAt X Y Wn P Q j:Int):=e1.symm
        clear e1 hyl
        generalize hPA:(Q+(j:Int)-Y)*(Wn:Int)=PA at *
        generalize (l.drop (rowAt X Y Wn P Q j)).take A=ys at *
        generalize rowAt X Y Wn P Q j=k0 at *
        generalize hm0:cutL l X Y Wn P Q A (j*A)=m at *
        clear hm0
        have s1:IntKind.i64.wrap ((k0:Int)+(A:Int))=(k0:Int)+(A:Int):=IntWalk.i64_in _ (by omega)
        have s2:((k0:Int)+(A:Int)).toNat=k0+A:=by omega
        have s3:(0:Int)≤(k0:Int)+A:=by omega
        have s4:(k0:Int)+A≤c:=by omega
        have s5:(k0:Int)≤(k0:Int)+A:=by omega
        have s6:¬ c=k0:=by omega
        have G0:Hid ((fls ys).length=A*1):=by unfold Hid fls;rw [List.length_map,HYL.out,Nat.mul_one]
        have G1:Hid (m.length+A≤maxLen):=by unfold maxLen Hid;omega
        have G2:Hid ((m.length+A)*4≤140737488355328):=by unfold Hid;omega
        have G3:Hid (w1.heap.size+2≤wr.drew.heap.size):=by show w1.heap.size+2≤wr.heap.size;have:=IH.out.k5g;omega
        have G4:Hid (∀ u∈fls ys,u.oneCell'=true):=by
          intro u hu
          unfold fls at hu
          obtain ⟨x,_,rfl⟩:=List.mem_map.1 hu
          rfl
        have HLK:=Lib.hid lk
        have HM:Hid (m ++ ys=cutL l X Y Wn P Q A ((j+1)*A)):=by unfold Hid;rw [Nat.add_mul,Nat.one_mul];exact HK.out.symm
        go_wp2_with fail
        go_region_law (first
          | (refine step_append_lies _ (by rfl) _ _ _ (by rfl) (w1.heap.size+2) 48 i0 (.float .f32 0) 1 4 Tryz.underlying30 hi hz0 hz1 hz2 rfl (by omega) v m.length (fls m) (by rfl) IH.out.drew.own ⟨b,o+k0,none⟩ A (c-k0) (fls ys) (by rfl) G0.out hnews.out G4.out hA G1.out G2.out G3.out wr.heap.size rfl ?_;intro gg cap w3 hown3 hgrow3 hat3 hlt3;obtain ⟨e1,e2,e3,e4⟩:=IH.out.drew.mid0 hgrow3;have e5:=e3.cells.2.2.2.2;have e6:=e3.frozen 4;have hgk:gg≠k5:=(by rcases hat3 with h|h;exact (fun e=>IH.out.ne (e ▸ h));exact (fun e=>by have:=HLK.out;omega));have M3:=Lib.hid (IH.out.drew.appN HYL.out hwf.out hown3 hgrow3 hgk);clear e1 e2 e3 e4 hown3 hgrow3 hat3 hlt3 hgk))
        all_goals
          go_wp2_with fail
          go_roundw
          case rel=>exact ⟨j+1,by omega,by go_num,_,HM.out ▸ M3.out⟩
          case measure=>simp [intOf];omega
      · have HE:Hid (j*A=B*A):=by
          have:j=B:=by omega
          unfold Hid;rw [this]
        have IH2:Hid (MakeInv w1 wr k5 P Q A B v (cutL l X Y Wn P Q A (B*A))):=HE.out ▸ IH.out
        clear IH
        have hml:Hid ((cutL l X Y Wn P Q A (B*A)).length=B*A):=cutL_len _ _ _ _ _ _ _ _
        have hm1:Hid (1≤B*A):=Nat.mul_le_mul hB hA
        generalize hmq:cutL l X Y Wn P Q A (B*A)=m at *
        have HMQ:=Lib.hid hmq
        clear hmq
        obtain ⟨g,cap,rfl,hown⟩:∃ g cap,v=.slice (some ⟨g,0,none⟩) m.length cap∧OwnF wr w.heap.size g cap m:=by
          have ho:=IH2.out.own
          have hs:=HS1.out
          exact qx54
        have HO:=Lib.hid hown
        have hgk:Hid (w1.heap.size+2≤g):=(IH2.out.own.lt g rfl).1
        clear hown
        clear c4
        obtain ⟨c0,c1,c2,c3,c4⟩:=IH2.out.fo.cells
        have FB:Fld wr (w.heap.size+1+1) 0 0 0 0 (.slice none 0 0):=by have:=IH2.out.rz;rwa [HS1.out] at this
        obtain ⟨d0,d1,d2,d3,d4⟩:=FB.cells
        have qf0:=FB.frozen 0
        have qf1:=FB.frozen 1
        have qf2:=FB.frozen 2
        have qf3:=FB.frozen 3
        have qf4:=FB.frozen 4
        have lz:=FB.lt
        clear FB
        have HBX:=Lib.hid (HB1.out.trans (IH2.out.below.mono (by have:=HS1.out;omega)))
        clear IH2
        go_wp2_with fail
        obtain rfl:=HMQ.out
        have B2:=HBX.out
        have O2:=HO.out
        have hgk2:=hgk.out
        have hs1:=HS1.out
        have hje:j=B:=by omega
        subst hje
        refine bodyPost_ret (v:=fldV P Q A j (some ⟨g,0,none⟩) (cutL l X Y Wn P Q A (j*A)).length cap) (by simp [results,Tryz.results26,go_sem, *]) rfl ⟨g,cap,rfl,(by have hgg:=O2.lt;repeat (first|with_reducible exact O2|with_reducible refine OwnF.drew ?_|with_reducible refine OwnF.drewN ?_ _|(with_reducible refine OwnF.setCell ?_ ?_ _;rotate_left;focus (first|omega|(simp<;>omega)))|with_reducible refine OwnF.alloc ?_ _)),(qBo B2)⟩
theorem MakeP.outw {X Y W H:Int} {m:List Nat} {w:World} {e:Ending} {w':World} (h:MakeP X Y W H m w e w'):(∃ x y p q a n k,e=.returned (fldV x y p q a n k)∧OutV 0 X Y W H m w' w.heap.size x y p q a n k)∧Below w.heap.size w w':=by
 obtain ⟨⟨g,cap,he,ho⟩,hb⟩:=h
 exact ⟨⟨X,Y,W,H,_,_,cap,he,.inr ⟨rfl,rfl,rfl,rfl,rfl,g,rfl,rfl,ho⟩⟩,hb⟩
theorem fillfn_any (h:Nat) (x y:Int) (p:Nat) (w:World) (hp:Blk w p #[.float .f32 h] 48) :
  Calls Tryz.prog 90 #[.int .i64 x,.int .i64 y,.pointer (some ⟨p,0,none⟩)] w fun e w'=>e=.returned (.float .f32 h)∧Below w.heap.size w w':=by
 have c0:w.cell? ⟨p,0,none⟩=some (.float .f32 h):=hp.cell 0
 have l0:=hp.lt
 clear hp
 go_enter Tryz.func90,Tryz.ntmps90
 go_wp2_with fail
 go_ret
 exact ⟨rfl,qBl⟩
def fillE (X Y W H:Int) (h:Nat):Int:=if chk X Y W H≠0 then chk X Y W H else htE [h]
theorem box_rg (w:World) (X Y W H:Int) (c1:Array Value) (t1:TypeId):∀ W0,W0=((w.alloc (.cells #[.int .i64 X,.int .i64 Y,.int .i64 W,.int .i64 H] 26)).alloc (.cells c1 t1)).alloc (.cells #[.int .i64 0,.int .i64 0,.int .i64 0,.int .i64 0,.slice none 0 0] 32) →
  Reg W0 w.heap.size X Y W H∧Blk W0 (w.heap.size+1) c1 t1∧Fld W0 (w.heap.size+1+1) 0 0 0 0 (.slice none 0 0)∧Below w.heap.size w W0:=by
 rintro _ rfl
 refine ⟨((Reg.new w X Y W H).alloc _).alloc _,?_,?_,qBl⟩
 ·have:=(Blk.new (w.alloc (.cells #[.int .i64 X,.int .i64 Y,.int .i64 W,.int .i64 H] 26)) c1 t1).alloc (.cells #[.int .i64 0,.int .i64 0,.int .i64 0,.int .i64 0,.slice none 0 0] 32)
  simpa using this
 ·have:=Fld.new ((w.alloc (.cells #[.int .i64 X,.int .i64 Y,.int .i64 W,.int .i64 H] 26)).alloc (.cells c1 t1)) 0 0 0 0 (.slice none 0 0)
  simpa using this
def fillL (h:Nat) (X Y:Int) (A B:Nat):List Nat:=madeL (fun _ _=>h) X Y A (B*A)
set_option maxRecDepth 100000 in
set_option maxHeartbeats 1000000 in
theorem fill_ok (X Y:Int) (A B h:Nat) (w:World) (hh:h<4294967296) (hz:fillE X Y A B h=0) :
  Calls Tryz.prog 66 #[reg X Y A B,.float .f32 h] w fun e w'=>OpP 0 X Y A B (fillL h X Y A B) w e w':=by
 have K:=Lib.hid (fun w=>check1 X Y A B w)
 have KC:=Lib.hid (fun W g h0=>heights_one W g h hh h0)
 have hc:chk X Y A B=0:=by
  unfold fillE at hz
  split at hz
  ·exact hz
  ·omega
 have h1:htE [h]=0:=by
  unfold fillE at hz
  rwa [if_neg (by omega)] at hz
 rw [hc] at K
 rw [h1] at KC
 obtain ⟨g1,g2,g3,g4,g5,g6,g7,g8,_⟩:=chk_zero hc
 have KM:=Lib.hid (fun pa w1 (ha:Blk w1 pa #[.float .f32 h] 48)=>(make_any 90 #[.pointer (some ⟨pa,0,none⟩)] (fun _ _=>h) X Y A B w1 (by omega) (by omega) (by omega) (by omega) (by omega) (by omega) (by omega) (by omega)
  (enters_of Tryz.func90 (by kernel_rfl) rfl) (fun x y _ _ _ _=>hh) (fun x y _ _ _ _ W' hb'=>fillfn_any h x y pa W' (ha.below hb' ha.lt))).mono fun e w' h=>MakeP.outw h)
 change Hid (∀ pa w1 (ha:Blk w1 pa #[.float .f32 h] 48),Calls Tryz.prog 89 #[reg X Y A B,.func (.func 90) #[] #[.pointer (some ⟨pa,0,none⟩)]] w1 fun e w'=>(∃ x y pp q a n k,e=.returned (fldV x y pp q a n k)∧OutV 0 X Y A B (fillL h X Y A B) w' w1.heap.size x y pp q a n k)∧Below w1.heap.size w1 w') at KM
 clear hz hc h1 hh g1 g2 g3 g4 g5 g6 g7 g8
 generalize fillL h X Y A B=S at *
 go_enter Tryz.func66,Tryz.ntmps66
 go_wp2_with fail
 generalize hW0:((w.alloc (.cells #[.int .i64 X,.int .i64 Y,.int .i64 (A:Int),.int .i64 (B:Int)] 26)).alloc (.cells #[.float .f32 h] 48)).alloc (.cells #[.int .i64 0,.int .i64 0,.int .i64 0,.int .i64 0,.slice none 0 0] 32)=W0 at *
 obtain ⟨E0,P0,F0,B0⟩:=box_rg w X Y (A:Int) (B:Int) #[.float .f32 h] 48 W0 hW0.symm
 clear hW0
 refine (K.out _).mono ?_
 rintro e w1 ⟨rfl,b1⟩
 have HE1:=Lib.hid (E0.below b1 E0.lt)
 have HP1:=Lib.hid (P0.below b1 P0.lt)
 have HF1:=Lib.hid (F0.below b1 F0.lt)
 have HB1:=Lib.hid (B0.trans (b1.mono B0.size))
 clear b1 B0 F0 E0 P0 K
 have p1:w1.cell? ⟨w.heap.size+1,0,none⟩=some (.float .f32 h):=HP1.out.cell 0
 have l2:w.heap.size+1+1<w1.heap.size:=HF1.out.lt
 have l1:w.heap.size+1<w1.heap.size:=by omega
 go_wp2_with fail
 have HS:=Lib.hid ((Below.refl w1.heap.size w1).alloc (Nat.le_refl _) (.cells #[.float .f32 h] 48))
 refine (KC.out _ _ (by simp [go_sem])).mono ?_
 rintro e w2 ⟨rfl,rfl⟩
 have HE2:=Lib.hid (HE1.out.below HS.out HE1.out.lt)
 have HP2:=Lib.hid (HP1.out.below HS.out HP1.out.lt)
 have HF2:=Lib.hid (HF1.out.below HS.out HF1.out.lt)
 have HB2:=Lib.hid (HB1.out.trans (HS.out.mono HB1.out.size))
 generalize w1.alloc (.cells #[.float .f32 h] 48)=w2 at *
 clear p1 l2 l1 HE1 HP1 HF1 HB1 HS
 have l3:w.heap.size+1+1<w2.heap.size:=HF2.out.lt
 obtain ⟨c0,c1,c2,c3⟩:=HE2.out.cells
 have l0:=HE2.out.lt
 go_wp2_with fail
 generalize h=hv at *
 refine (KM.out _ _ HP2.out).mono ?_
 rintro e w7 ⟨⟨x,y,p,q,a,m,k,rfl,o7⟩,b7⟩
 have HOZ:=Lib.hid o7
 have HFZ:=Lib.hid (HF2.out.below b7 HF2.out.lt)
 have HBZ:=Lib.hid (HB2.out.trans (b7.mono HB2.out.size))
 have HZB:Hid (w.heap.size+1+1<w2.heap.size):=HF2.out.lt
 have HBB:Hid (w.heap.size≤w2.heap.size):=HB2.out.size
 clear o7 b7 KM HE2 HP2 HF2 HB2 c0 c1 c2 c3 l0 l3
 obtain ⟨d0,d1,d2,d3,d4⟩:=HFZ.out.cells
 have qf0:=HFZ.out.frozen 0
 have qf1:=HFZ.out.frozen 1
 have qf2:=HFZ.out.frozen 2
 have qf3:=HFZ.out.frozen 3
 have qf4:=HFZ.out.frozen 4
 have lz:=HFZ.out.lt
 go_wp2_with fail
 generalize hW5:((((w7.setCell ⟨w.heap.size+1+1,0,none⟩ (.int .i64 x)).setCell ⟨w.heap.size+1+1,1,none⟩ (.int .i64 y)).setCell ⟨w.heap.size+1+1,2,none⟩ (.int .i64 p)).setCell ⟨w.heap.size+1+1,3,none⟩ (.int .i64 q)).setCell ⟨w.heap.size+1+1,4,none⟩ (.slice a m k)=W5 at *
 obtain ⟨f5,bb5,oo5,_,z5⟩:=fld_store w7 (w.heap.size+1+1) 0 0 0 0 _ x y p q (.slice a m k) HFZ.out W5 hW5.symm
 have hO5:=(HOZ.out.set oo5 HZB.out).base HBB.out
 have hB5:=HBZ.out.trans (bb5.mono (by omega))
 clear d0 d1 d2 d3 d4 qf0 qf1 qf2 qf3 qf4 hW5 oo5
 obtain ⟨d0,d1,d2,d3,d4⟩:=f5.cells
 exact bodyPost_ret (v:=.tuple #[fldV x y p q a m k,.int .i64 0]) (by simp [results,Tryz.results66,go_sem, *]) rfl ⟨⟨x,y,p,q,a,m,k,rfl,hO5⟩,hB5⟩
open Ieee.Format (octS reachF)
set_option maxRecDepth 100000 in
set_option maxHeartbeats 1000000 in
theorem fracfield_fn (kd seed cell x y:Int) (n g:Nat) (p:Nat) (w:World) (hn:n≤10) (hg:Share g) (h1:1≤cell) (h2:cell≤4096) (hx:-8388608≤x) (hx2:x≤8388608) (hy:-8388608≤y) (hy2:y≤8388608)
  (A:Blk w p (frC kd seed cell n g) 84) :
  Calls Tryz.prog 92 #[.int .i64 x,.int .i64 y,.pointer (some ⟨p,0,none⟩)] w fun e w'=>e=.returned (.float .f32 (fracF kd seed cell n g x y))∧Below w.heap.size w w':=by
 have KO:=Lib.hid (fun w=>fractal_any kd seed cell x y n g w hn hg h1 h2 hx hx2 hy hy2)
 generalize fracF kd seed cell n g x y=r at *
 unfold frV at KO
 unfold frC at A
 have p0:=A.cell 0
 have p1:=A.cell 1
 have p2:=A.cell 2
 have p3:=A.cell 3
 have p4:=A.cell 4
 simp at p0 p1 p2 p3 p4
 have l0:=A.lt
 clear A h1 h2 hx hx2 hy hy2 hn hg
 go_enter Tryz.func92,Tryz.ntmps92
 go_wp2_with fail
 refine (KO.out _).mono ?_
 rintro e w1 ⟨rfl,b1⟩
 have HB:=Lib.hid b1
 clear b1
 go_wp2_with fail
 go_ret
 exact ⟨rfl,HB.out⟩
def fracL (kd seed cell:Int) (n g:Nat) (X Y:Int) (Wn Hn:Nat):List Nat:=madeL (fun x y=>fracF kd seed cell n g x y) X Y Wn (Hn*Wn)
theorem frac_within (kd seed cell x y:Int) {n g:Nat} (h1:1≤n) (hn:n≤10) (hg:Share g) (c1:1≤cell) (c2:cell≤4096) :
  fin Ieee.single (fracF kd seed cell n g x y)∧fin Ieee.single (reachF g (bndF kd) n)∧Ieee.single.V (fracF kd seed cell n g x y)≤Ieee.single.V (reachF g (bndF kd) n)∧-Ieee.single.V (fracF kd seed cell n g x y)≤Ieee.single.V (reachF g (bndF kd) n)∧Ieee.single.V (reachF g (bndF kd) n)≤32∧0≤Ieee.single.V (reachF g (bndF kd) n):=by
 obtain ⟨b1,b2,b3⟩:=bndF_ok kd
 obtain ⟨ok,_⟩:=oct_ok (octF kd seed cell x y) hg.1 hg.2.1 hg.2.2 b1 b2 b3 hn (fun k _=>octF_noisy kd seed cell x y k c1 c2)
 obtain ⟨_,f2,r1,r2,r3,r4⟩:=Ieee.Format.reach_ok (octF kd seed cell x y) hg.1 hg.2.1 hg.2.2 b1 b2 b3 h1 hn (fun k _=>octF_noisy kd seed cell x y k c1 c2)
 exact ⟨ok.fs n (Nat.le_refl _),f2,r1,r2,r3,r4⟩
theorem fracF_lt (kd seed cell x y:Int) (n g:Nat):fracF kd seed cell n g x y<4294967296:=by
 unfold fracF
 cases n with
 | zero=>unfold octS;decide
 | succ k=>unfold octS;exact Ieee.Format.addF_lt _ _
theorem frac_res (kd seed cell:Int) {n g:Nat} (X Y:Int) (Wn Hn:Nat) (h1:1≤n) (hn:n≤10) (hg:Share g) (c1:1≤cell) (c2:cell≤4096):resC (fracL kd seed cell n g X Y Wn Hn)=0:=by
 unfold resC
 rw [if_pos]
 refine Ieee.Format.allHt_iff.2 fun x hx=>?_
 unfold fracL madeL at hx
 obtain ⟨k,_,rfl⟩:=List.mem_map.1 hx
 obtain ⟨f,_,r1,r2,r3,_⟩:=frac_within kd seed cell (X+((k%Wn:Nat):Int)) (Y+((k / Wn:Nat):Int)) h1 hn hg c1 c2
 have p:(32:Rat)≤Ieee.P2 20:=by rw [show Ieee.P2 20=((2 ^ 20:Nat):Rat) from Ieee.P2_nat 20];decide
 exact Ieee.Format.Ht.of ⟨by simp only;grind,by simp only;grind⟩
theorem fracL_small (kd seed cell:Int) (n g:Nat) (X Y:Int) (Wn Hn:Nat) (h2:Wn≤512) (h4:Hn≤512):(fracL kd seed cell n g X Y Wn Hn).length≤1099511627776:=by
 unfold fracL
 rw [madeL_len]
 have:=Nat.mul_le_mul h4 h2
 omega
theorem box_frg (w:World) (c1:Array Value) (t1:TypeId) (X Y W H:Int):∀ W0,W0=((w.alloc (.cells c1 t1)).alloc (.cells #[.int .i64 X,.int .i64 Y,.int .i64 W,.int .i64 H] 26)).alloc (.cells #[.int .i64 0,.int .i64 0,.int .i64 0,.int .i64 0,.slice none 0 0] 32) →
  Blk W0 w.heap.size c1 t1∧Reg W0 (w.heap.size+1) X Y W H∧Fld W0 (w.heap.size+1+1) 0 0 0 0 (.slice none 0 0)∧Below w.heap.size w W0:=by
 rintro _ rfl
 refine ⟨((Blk.new w c1 t1).alloc _).alloc _,?_,?_,qBl⟩
 ·have:=(Reg.new (w.alloc (.cells c1 t1)) X Y W H).alloc (.cells #[.int .i64 0,.int .i64 0,.int .i64 0,.int .i64 0,.slice none 0 0] 32)
  simpa using this
 ·have:=Fld.new ((w.alloc (.cells c1 t1)).alloc (.cells #[.int .i64 X,.int .i64 Y,.int .i64 W,.int .i64 H] 26)) 0 0 0 0 (.slice none 0 0)
  simpa using this
set_option maxRecDepth 100000 in
set_option maxHeartbeats 1000000 in
theorem fracfield_ok (kd seed cell:Int) (n g:Nat) (X Y:Int) (Wn Hn:Nat) (w:World) (hg:g<4294967296) (hE:frE kd cell n g=0) (hz:chk X Y Wn Hn=0) :
  Calls Tryz.prog 67 #[frV kd seed cell n g,reg X Y Wn Hn] w fun e w'=>OpP 0 X Y Wn Hn (fracL kd seed cell n g X Y Wn Hn) w e w':=by
 have KC:=Lib.hid (fun w=>frcheck_any kd seed cell n g hg w)
 rw [hE] at KC
 have KR:=Lib.hid (fun w=>check1 X Y Wn Hn w)
 rw [hz] at KR
 obtain ⟨g1,g2,g3,g4,g5,g6,g7,g8,_⟩:=chk_zero hz
 obtain ⟨_,⟨k1,k2⟩,⟨n1,n2⟩,sg⟩:=frE_zero hE
 have KM:=Lib.hid (fun p w1 (A:Blk w1 p (frC kd seed cell n g) 84)=>make_any 92 #[.pointer (some ⟨p,0,none⟩)] (fun x y=>fracF kd seed cell n g x y) X Y Wn Hn w1 (by omega) (by omega) (by omega) (by omega) (by omega) (by omega) (by omega) (by omega)
  (enters_of Tryz.func92 (by kernel_rfl) rfl) (fun x y _ _ _ _=>fracF_lt ..) (fun x y _ _ _ _ W' hb'=>fracfield_fn kd seed cell x y n g p W' (by omega) sg k1 k2 (by omega) (by omega) (by omega) (by omega) (A.below hb' A.lt)))
 change Hid (∀ p w1 (A:Blk w1 p (frC kd seed cell n g) 84),Calls Tryz.prog 89 #[reg X Y Wn Hn,.func (.func 92) #[] #[.pointer (some ⟨p,0,none⟩)]] w1 fun e w'=>MakeP X Y Wn Hn (fracL kd seed cell n g X Y Wn Hn) w1 e w') at KM
 have KQ:=Lib.hid (fun X1 Y1 W1 H1 g' cap B w ho=>result_any X1 Y1 W1 H1 g' cap B (fracL kd seed cell n g X Y Wn Hn) w ho (fracL_small kd seed cell n g X Y Wn Hn (by omega) (by omega)))
 rw [frac_res kd seed cell X Y Wn Hn (by omega) (by omega) sg k1 k2] at KQ
 clear hE hz g1 g2 g3 g4 g5 g6 g7 g8 k1 k2 n1 n2 sg hg
 generalize fracL kd seed cell n g X Y Wn Hn=S at *
 generalize (n:Int)=n at *
 unfold frV at *
 go_enter Tryz.func67,Tryz.ntmps67
 go_upto_region 1 with fail
 generalize hW0:((w.alloc (.cells #[.int .i64 kd,.int .u32 seed,.int .i64 cell,.int .i64 n,.float .f32 g] 84)).alloc (.cells #[.int .i64 X,.int .i64 Y,.int .i64 Wn,.int .i64 Hn] 26)).alloc (.cells #[.int .i64 0,.int .i64 0,.int .i64 0,.int .i64 0,.slice none 0 0] 32)=W0 at *
 obtain ⟨A0,E0,F0,B0⟩:=box_frg w #[.int .i64 kd,.int .u32 seed,.int .i64 cell,.int .i64 n,.float .f32 g] 84 X Y Wn Hn W0 hW0.symm
 clear hW0
 have p0:=A0.cell 0
 have p1:=A0.cell 1
 have p2:=A0.cell 2
 have p3:=A0.cell 3
 have p4:=A0.cell 4
 simp at p0 p1 p2 p3 p4
 have l0:=A0.lt
 go_wp2_with fail
 refine (KC.out _).mono ?_
 rintro e w1 ⟨rfl,b1⟩
 have HA1:=Lib.hid (A0.below b1 A0.lt)
 have HE1:=Lib.hid (E0.below b1 E0.lt)
 have HF1:=Lib.hid (F0.below b1 F0.lt)
 have HB1:=Lib.hid (B0.trans (b1.mono B0.size))
 clear b1 B0 F0 E0 A0 KC p0 p1 p2 p3 p4 l0
 obtain ⟨c0,c1,c2,c3⟩:=HE1.out.cells
 have l0:=HE1.out.lt
 go_wp2_with fail
 refine (KR.out _).mono ?_
 rintro e w2 ⟨rfl,b2⟩
 have HA2:=Lib.hid (HA1.out.below b2 HA1.out.lt)
 have HE2:=Lib.hid (HE1.out.below b2 HE1.out.lt)
 have HF2:=Lib.hid (HF1.out.below b2 HF1.out.lt)
 have HB2:=Lib.hid (HB1.out.trans (b2.mono HB1.out.size))
 clear b2 HA1 HE1 HF1 HB1 KR c0 c1 c2 c3 l0
 obtain ⟨c0,c1,c2,c3⟩:=HE2.out.cells
 have l0:=HE2.out.lt
 have KM1:=Lib.hid (KM.out _ _ HA2.out)
 go_wp2_with fail
 refine KM1.out.mono ?_
 rintro e w3 ⟨⟨gg,cap,rfl,ho⟩,b3⟩
 have HF3:=Lib.hid (HF2.out.below b3 HF2.out.lt)
 have HB3:=Lib.hid (HB2.out.trans (b3.mono HB2.out.size))
 have HO3:=Lib.hid ho
 have HZ3:Hid (w.heap.size+1+1<w2.heap.size):=HF2.out.lt
 clear ho b3 KM KM1 HA2 HE2 HF2 c0 c1 c2 c3 l0
 go_wp2_with fail
 refine (KQ.out _ _ _ _ _ _ _ _ HO3.out).mono ?_
 rintro e w7 ⟨⟨x,y,p,q,a,m,k,rfl,o7⟩,b7⟩
 have HOZ:=Lib.hid o7
 have HFZ:=Lib.hid (HF3.out.below b7 HF3.out.lt)
 have HBZ:=Lib.hid (HB3.out.trans (b7.mono HB3.out.size))
 have HZB:Hid (w.heap.size+1+1<w2.heap.size):=HZ3.out
 have HBB:Hid (w.heap.size≤w2.heap.size):=by have:=HZB.out;unfold Hid;omega
 clear o7 b7 KQ HO3 HF3 HB3 HB2
 obtain ⟨d0,d1,d2,d3,d4⟩:=HFZ.out.cells
 have qf0:=HFZ.out.frozen 0
 have qf1:=HFZ.out.frozen 1
 have qf2:=HFZ.out.frozen 2
 have qf3:=HFZ.out.frozen 3
 have qf4:=HFZ.out.frozen 4
 have lz:=HFZ.out.lt
 go_wp2_with fail
 generalize hW5:((((w7.setCell ⟨w.heap.size+1+1,0,none⟩ (.int .i64 x)).setCell ⟨w.heap.size+1+1,1,none⟩ (.int .i64 y)).setCell ⟨w.heap.size+1+1,2,none⟩ (.int .i64 p)).setCell ⟨w.heap.size+1+1,3,none⟩ (.int .i64 q)).setCell ⟨w.heap.size+1+1,4,none⟩ (.slice a m k)=W5 at *
 obtain ⟨f5,bb5,oo5,_,z5⟩:=fld_store w7 (w.heap.size+1+1) 0 0 0 0 _ x y p q (.slice a m k) HFZ.out W5 hW5.symm
 have hO5:=(HOZ.out.set oo5 HZB.out).base HBB.out
 have hB5:=HBZ.out.trans (bb5.mono (by omega))
 clear d0 d1 d2 d3 d4 qf0 qf1 qf2 qf3 qf4 hW5 oo5
 obtain ⟨d0,d1,d2,d3,d4⟩:=f5.cells
 exact bodyPost_ret (v:=.tuple #[fldV x y p q a m k,.int .i64 0]) (by simp [results,Tryz.results67,go_sem, *]) rfl ⟨⟨x,y,p,q,a,m,k,rfl,hO5⟩,hB5⟩
open Ieee.Format (const_0 const_1)
def ditF (s v u:Nat):Nat:=if lss u (ter3 s v)=true then mulF (addF (ter2 s v) 1065353216) s else mulF (ter2 s v) s
theorem ditF_lt (s v u:Nat):ditF s v u<4294967296:=by unfold ditF;split<;>exact Ieee.Format.mulF_lt _ _
structure DitOk (s v:Nat):Prop where
 a1:fin Ieee.single (ter1 s v)
 a2:fin Ieee.single (ter2 s v)
 a3:fin Ieee.single (ter3 s v)
 a4:fin Ieee.single (mulF (ter2 s v) s)
 a5:fin Ieee.single (addF (ter2 s v) 1065353216)
 a6:fin Ieee.single (mulF (addF (ter2 s v) 1065353216) s)
 l1:ter1 s v<4294967296
 s0:fin Ieee.single s
 s1:Ieee.single.V s≠0
 v0:fin Ieee.single v
theorem dit_ok {s v:Nat} (h:TerOk s 0) (hv:Bd 20 v):DitOk s v:=by
 obtain ⟨b1,b2,b3,b4,_,_,_,_,_,_,l1⟩:=ter_bd h hv
 have o:=Ieee.Format.one_Bd 31
 have b5:=b2.add o (by omega)
 have b6:=b5.mul h.st (by omega)
 have p:=Ieee.P2_pos (-10)
 have:=h.st1
 exact ⟨b1.1,b2.1,b3.1,b4.1,b5.1,b6.1,l1,h.st.1,by grind,hv.1⟩
def dithE (s:Nat):Int:=if finE [s]≠0 then finE [s] else stepC s
theorem stepC_zero {s:Nat} (hf:fin Ieee.single s) (h:stepC s=0):Ieee.P2 (-10)≤Ieee.single.V s∧Ieee.single.V s≤Ieee.P2 10:=by
 unfold stepC at h
 cases a1:lss s 981467136 with
 | true=>rw [a1,if_pos rfl] at h;omega
 | false =>
  rw [a1,if_neg (by decide)] at h
  cases a2:gtr s 1149239296 with
  | true=>rw [a2,if_pos rfl] at h;omega
  | false =>
   rw [lss_V hf const_m10.1,const_m10.2] at a1
   rw [gtr_V hf const_k10.1,const_k10.2] at a2
   have a1:=of_decide_eq_false a1
   have a2:=of_decide_eq_false a2
   exact ⟨by grind,by grind⟩
theorem dith_zero {s:Nat} (h:dithE s=0):TerOk s 0:=by
 unfold dithE at h
 by_cases hf:finE [s]=0
 ·rw [if_neg (by omega)] at h
  have f:=finE_one hf
  obtain ⟨b1,b2⟩:=stepC_zero f h
  have p:=Ieee.P2_pos (-10)
  have p2:=Ieee.P2_pos 10
  exact ⟨⟨f,by show -Ieee.P2 10≤_;grind,by show _≤Ieee.P2 10;exact b2⟩,b1,const_0.1,by rw [const_0.2.1];grind,by rw [const_0.2.1];decide⟩
 ·rw [if_pos hf] at h;exact absurd h hf
def spkF (p u:Nat):Nat:=if lss u p=true then 1065353216 else 0
theorem spkF_lt (p u:Nat):spkF p u<4294967296:=by unfold spkF;split<;>decide
theorem spkF_ht (p u:Nat):Ht (spkF p u):=by
 have p:=Ieee.P2_mono (show (0:Int)≤20 by omega)
 rw [Ieee.P2_zero] at p
 unfold spkF
 split
 ·exact Ieee.Format.Ht.of ⟨by rw [const_1.2.1];grind,by rw [const_1.2.1];grind⟩
 ·exact Ieee.Format.Ht.of ⟨by rw [const_0.2.1];grind,by rw [const_0.2.1];grind⟩
def hsF (seed x y n:Int):Nat:=Ieee.Format.unitF (hashTo seed x y n 3)
theorem unit_word (seed x y n:Int) (w:World):Calls Tryz.prog 95 #[.int .u32 (hashTo seed x y n 3)] w fun e w'=>e=.returned (.float .f32 (hsF seed x y n))∧w=w':=
 unit_any _ w (hash_bounds seed x y n).1 (hash_bounds seed x y n).2
theorem checkstep_all (s:Nat) (w:World) (hl:s<4294967296):Calls Tryz.prog 107 #[.float .f32 s] w fun e w'=>e=.returned (.int .i64 (dithE s))∧Below w.heap.size w w':=by
 unfold dithE
 by_cases h:finE [s]=0
 ·rw [if_neg (by omega)]
  exact checkstep_any s w hl (finE_one h)
 ·rw [if_pos h]
  have KF:=Lib.hid (fun W g h=>finites_one W g s hl h)
  generalize finE [s]=a at *
  have hb':(a != 0)=true:=by rw [bne_iff_ne];exact h
  clear hl h
  exact qx41
theorem Below.drewN_self (w:World) (n:Nat):Below w.heap.size w (w.drewN n):=qBl
set_option maxRecDepth 100000 in
set_option maxHeartbeats 1000000 in
theorem dithfn_any (seed:Int) (s:Nat) (x y:Int) (p q b o c pa pb k:Nat) (X Y W1 H1:Int) (l:List Nat) (w:World) (hst:CntSt w p q b o c X Y W1 H1 l k) (hv:Bd 20 (l.getD k 0)) (hT:TerOk s 0)
  (ha:Blk w pa #[.float .f32 s] 48) (hb:Blk w pb #[.int .u32 seed] 49) (pap:pa≠p) (pbp:pb≠p) :
  Calls Tryz.prog 110 #[.int .i64 x,.int .i64 y,.pointer (some ⟨p,0,none⟩),.pointer (some ⟨q,0,none⟩),.pointer (some ⟨pa,0,none⟩),.pointer (some ⟨pb,0,none⟩)] w fun e w'=>e=.returned (.float .f32 (ditF s (l.getD k 0) (hsF seed x y 8)))∧But w.heap.size (fun j=>j=p) w w'∧CntAt w' p (k:Int):=by
 generalize hv0:l.getD k 0=v at *
 have HV0:=Lib.hid hv0
 clear hv0
 have hd:=dit_ok hT hv
 have KF:=Lib.hid (fun w=>floor_any (ter1 s v) hd.a1 hd.l1 w)
 change Hid (∀ w,Calls Tryz.prog 87 #[.float .f32 (ter1 s v)] w fun e w'=>e=.returned (.float .f32 (ter2 s v))∧w=w') at KF
 have KH:=Lib.hid (fun w=>hash1 seed x y 8 w)
 have KU:=Lib.hid (fun w=>unit_word seed x y 8 w)
 have k1:=fun w'=>run_float_arith (P:=Tryz.prog) w' .quo 48 .f32 v s (ter1 s v) (Ieee.Format.bits_div hd.v0 hd.s0 hd.s1)
 have k2:=fun w'=>run_float_arith (P:=Tryz.prog) w' .sub 48 .f32 (ter1 s v) (ter2 s v) (ter3 s v) (Ieee.Format.bits_sub hd.a1 hd.a2)
 have k3:=fun w'=>run_float_arith (P:=Tryz.prog) w' .add 48 .f32 (ter2 s v) 1065353216 (addF (ter2 s v) 1065353216) (Ieee.Format.bits_add hd.a2 const_1.1)
 have k4:=fun w'=>run_float_arith (P:=Tryz.prog) w' .mul 48 .f32 (addF (ter2 s v) 1065353216) s (mulF (addF (ter2 s v) 1065353216) s) (Ieee.Format.bits_mul hd.a5 hd.s0)
 have k5:=fun w'=>run_float_arith (P:=Tryz.prog) w' .mul 48 .f32 (ter2 s v) s (mulF (ter2 s v) s) (Ieee.Format.bits_mul hd.a2 hd.s0)
 clear hv hT hd
 unfold ditF
 cases hc:lss (hsF seed x y 8) (ter3 s v) with
 | true =>
  rw [if_pos rfl]
  change (FloatKind.f32.format.order (hsF seed x y 8) (ter3 s v) == some .lt)=true at hc
  exact qx14
 | false =>
  rw [if_neg (by decide)]
  change (FloatKind.f32.format.order (hsF seed x y 8) (ter3 s v) == some .lt)=false at hc
  exact qx14
open Ieee.Format (conv_exact const_1 const_0)
def wCone (d R:Int):Nat:=subF 1065353216 (divF (rootF (cv d)) (cv R))
def wBell1 (d r:Int):Nat:=subF 1065353216 (divF (cv d) (cv r))
def wBell (d r:Int):Nat:=mulF (wBell1 d r) (wBell1 d r)
def weightF (k d R:Int):Nat:=if R*R≤d then 0 else if k=1 then 1065353216 else if k=2 then wCone d R else wBell d (R*R)
def stF (H v wt:Nat):Nat:=addF v (mulF H wt)
theorem share_sub {q:Nat} (h:Share q):Share (subF 1065353216 q):=by
 obtain ⟨h1,h2,h3⟩:=h
 have hs:=(Ieee.Format.subF_spec const_1.1 h1).2
 rw [const_1.2.1] at hs
 obtain ⟨a,b,_⟩:=hs.bound (c:=1065353216) const_1.1 (by decide) (by rw [const_1.2.1];grind) (by rw [const_1.2.1];grind)
 rw [const_1.2.1] at b
 exact ⟨a,hs.nonneg a (by grind),b⟩
theorem share_mul {q:Nat} (h:Share q):Share (mulF q q):=by
 obtain ⟨h1,h2,h3⟩:=h
 have hs:=(Ieee.Format.mulF_spec h1 h1).2
 have hp:0≤Ieee.single.V q*Ieee.single.V q:=Rat.mul_nonneg h2 h2
 have hq:Ieee.single.V q*Ieee.single.V q≤1:=by
  have:=Rat.mul_le_mul_of_nonneg_left h3 h2
  grind
 obtain ⟨a,b,_⟩:=hs.bound (c:=1065353216) const_1.1 (by decide) (by rw [const_1.2.1];grind) (by rw [const_1.2.1];grind)
 rw [const_1.2.1] at b
 exact ⟨a,hs.nonneg a hp,b⟩
theorem quo_share {x y:Nat} (hx:fin Ieee.single x) (hy:fin Ieee.single y) (h0:0<Ieee.single.V y) (h1:0≤Ieee.single.V x) (h2:Ieee.single.V x≤Ieee.single.V y):Share (divF x y):=by
 obtain ⟨a,b,c⟩:=Ieee.Format.div_bound (c:=1065353216) hx hy h0 const_1.1 (by decide) (by rw [const_1.2.1];grind) (by rw [const_1.2.1];grind)
 rw [const_1.2.1] at b
 exact ⟨a,Ieee.Format.div_nonneg hx hy h0 a h1,b⟩
theorem cv_pos {n:Int} (h1:0≤n) (h2:n<16777216):fin Ieee.single (cv n)∧Ieee.single.V (cv n)=(n:Rat)∧Ieee.single.sgn (cv n)=false∧0≤Ieee.single.V (cv n):=by
 obtain ⟨a,b,c⟩:=conv_exact n h2 (by omega)
 refine ⟨a,b,by rw [c];simp;omega,?_⟩
 rw [b]
 exact Rat.intCast_le_intCast.2 h1
theorem cv_lt {n m:Int} (h1:0≤n) (h2:n≤m) (h3:m<16777216):Ieee.single.V (cv n)≤Ieee.single.V (cv m):=by
 rw [(cv_pos h1 (by omega)).2.1,(cv_pos (by omega) h3).2.1]
 exact Rat.intCast_le_intCast.2 h2
theorem cv_gt0 {n:Int} (h1:1≤n) (h2:n<16777216):0<Ieee.single.V (cv n):=by
 rw [(cv_pos (by omega) h2).2.1]
 have:((1:Int):Rat)≤(n:Rat):=Rat.intCast_le_intCast.2 h1
 have e:((1:Int):Rat)=1:=rfl
 rw [e] at this
 grind
theorem sq_rad {R:Int} (h1:1≤R) (h2:R≤256):1≤R*R∧R*R≤65536:=by
 have a:=Int.mul_le_mul h2 h2 (by omega) (by omega)
 have b:=Int.mul_le_mul h1 h1 (by omega) (by omega)
 omega
theorem cone_ok {d R:Int} (h0:0≤d) (h:d<R*R) (h1:1≤R) (h2:R≤256) :
  fin Ieee.single (cv d)∧0≤Ieee.single.V (cv d)∧fin Ieee.single (rootF (cv d))∧fin Ieee.single (cv R)∧0<Ieee.single.V (cv R)∧Share (divF (rootF (cv d)) (cv R))∧Share (wCone d R):=by
 obtain ⟨_,hr⟩:=sq_rad h1 h2
 obtain ⟨a,b,_,c⟩:=cv_pos h0 (show d<16777216 by omega)
 obtain ⟨a',b',s',c'⟩:=cv_pos (show 0≤R by omega) (show R<16777216 by omega)
 have p:=cv_gt0 h1 (show R<16777216 by omega)
 obtain ⟨X,Z,_,_,_,f,g,u,_⟩:=Ieee.Format.root_spec a c
 have hle:Ieee.single.V (rootF (cv d))≤Ieee.single.V (cv R):=by
  refine u _ a' s' ?_
  rw [b,b',←Rat.intCast_mul]
  exact Rat.intCast_le_intCast.2 (by omega)
 have hq:=quo_share f a' p g hle
 exact ⟨a,c,f,a',p,hq,share_sub hq⟩
theorem bell_ok {d r:Int} (h0:0≤d) (h:d<r) (hr:r≤65536) :
  fin Ieee.single (cv d)∧fin Ieee.single (cv r)∧0<Ieee.single.V (cv r)∧Share (divF (cv d) (cv r))∧Share (wBell1 d r)∧Share (wBell d r):=by
 obtain ⟨a,b,_,c⟩:=cv_pos h0 (show d<16777216 by omega)
 obtain ⟨a',b',s',c'⟩:=cv_pos (show 0≤r by omega) (show r<16777216 by omega)
 have p:=cv_gt0 (show 1≤r by omega) (show r<16777216 by omega)
 have hq:=quo_share a a' p c (cv_lt h0 (by omega) (by omega))
 exact ⟨a,a',p,hq,share_sub hq,share_mul (share_sub hq)⟩
theorem weight_share {k d R:Int} (h0:0≤d) (h1:1≤R) (h2:R≤256):Share (weightF k d R):=by
 unfold weightF
 split
 ·exact ⟨const_0.1,by rw [const_0.2.1];grind,by rw [const_0.2.1];decide⟩
 ·split
  ·exact ⟨const_1.1,by rw [const_1.2.1];decide,by rw [const_1.2.1];grind⟩
  ·split
   ·exact (cone_ok h0 (by omega) h1 h2).2.2.2.2.2.2
   ·exact (bell_ok h0 (by omega) (sq_rad h1 h2).2).2.2.2.2.2
theorem Share.bd {x:Nat} (h:Share x):Bd 0 x:=by
 obtain ⟨a,b,c⟩:=h
 have p:=Ieee.P2_nat 0
 have e:Ieee.P2 ((0:Nat):Int)=1:=by rw [Ieee.P2_nat];rfl
 exact ⟨a,by rw [e];grind,by rw [e];exact c⟩
theorem st_bd {H v wt:Nat} (hH:Bd 20 H) (hv:Bd 20 v) (hw:Share wt):Bd 20 (mulF H wt)∧Bd 21 (stF H v wt):=by
 have a:=hH.mul hw.bd (by omega)
 exact ⟨a,hv.add a (by omega)⟩
theorem stF_lt (H v wt:Nat):stF H v wt<4294967296:=Ieee.Format.addF_lt _ _
def sqD (x y X Y:Int):Int:=(x-X)*(x-X)+(y-Y)*(y-Y)
theorem sqD_bd {x y X Y:Int} (h1:-4194304≤X∧X≤4194304∧-4194304≤Y∧Y≤4194304) (h2:-8388608≤x∧x≤8388608∧-8388608≤y∧y≤8388608) :
  (0≤(x-X)*(x-X)∧(x-X)*(x-X)≤281474976710656)∧(0≤(y-Y)*(y-Y)∧(y-Y)*(y-Y)≤281474976710656):=by
 have a:=sq_int (x-X) 16777216 (by omega) (by omega)
 have b:=sq_int (y-Y) 16777216 (by omega) (by omega)
 omega
open Ieee.Format (const_1)
abbrev brushV (k X Y R:Int) (H:Nat):Value:=.agg #[.int .i64 k,.int .i64 X,.int .i64 Y,.int .i64 R,.float .f32 H]
def placeE (X Y:Int):Int:=if X < -4194304 then 5 else if 4194304<X then 5 else if Y < -4194304 then 5 else if 4194304<Y then 5 else 0
def brushE (k X Y R:Int) (H:Nat):Int:=if k<1 then 1 else if 3<k then 1 else if placeE X Y≠0 then 5 else if R<1 then 3 else if 256<R then 3 else htE [H]
theorem placeE_zero {X Y:Int} (h:placeE X Y=0):-4194304≤X∧X≤4194304∧-4194304≤Y∧Y≤4194304:=by
 unfold placeE at h
 repeat (split at h;omega)
 omega
theorem brush_zero {k X Y R:Int} {H:Nat} (h:brushE k X Y R H=0):1≤k∧k≤3∧(-4194304≤X∧X≤4194304∧-4194304≤Y∧Y≤4194304)∧1≤R∧R≤256∧htE [H]=0:=by
 unfold brushE at h
 by_cases h1:k<1
 ·rw [if_pos h1] at h;omega
 ·rw [if_neg h1] at h
  by_cases h2:3<k
  ·rw [if_pos h2] at h;omega
  ·rw [if_neg h2] at h
   by_cases h3:placeE X Y=0
   ·rw [if_neg (by omega)] at h
    by_cases h4:R<1
    ·rw [if_pos h4] at h;omega
    ·rw [if_neg h4] at h
     by_cases h5:256<R
     ·rw [if_pos h5] at h;omega
     ·rw [if_neg h5] at h
      exact ⟨by omega,by omega,placeE_zero h3,by omega,by omega,h⟩
   ·rw [if_pos h3] at h;omega
theorem checkplace_any (X Y:Int) (w:World):Calls Tryz.prog 85 #[.int .i64 X,.int .i64 Y] w fun e w'=>e=.returned (.int .i64 (placeE X Y))∧w=w':=by
 unfold placeE
 by_cases h1:X < -4194304
 ·rw [if_pos h1]
  go_enter Tryz.func85,Tryz.ntmps85
  go_wp2
  go_ret
  exact ⟨rfl,rfl⟩
 ·rw [if_neg h1]
  by_cases h2:4194304<X
  ·rw [if_pos h2]
   go_enter Tryz.func85,Tryz.ntmps85
   go_wp2
   go_ret
   exact ⟨rfl,rfl⟩
  ·rw [if_neg h2]
   by_cases h3:Y < -4194304
   ·rw [if_pos h3]
    go_enter Tryz.func85,Tryz.ntmps85
    go_wp2
    go_ret
    exact ⟨rfl,rfl⟩
   ·rw [if_neg h3]
    by_cases h4:4194304<Y
    ·rw [if_pos h4]
     go_enter Tryz.func85,Tryz.ntmps85
     go_wp2
     go_ret
     exact ⟨rfl,rfl⟩
    ·rw [if_neg h4]
     go_enter Tryz.func85,Tryz.ntmps85
     go_wp2
     go_ret
     exact ⟨rfl,rfl⟩
theorem check_brush (k X Y R:Int) (H:Nat) (w:World) (hH:H<4294967296) :
  Calls Tryz.prog 56 #[brushV k X Y R H] w fun e w'=>e=.returned (.int .i64 (brushE k X Y R H))∧Below w.heap.size w w':=by
 have K1:=Lib.hid (fun W g h=>heights_one W g H hH h)
 have KP:=Lib.hid (fun W=>checkplace_any X Y W)
 clear hH
 unfold brushE
 generalize htE [H]=a at *
 generalize placeE X Y=b at *
 by_cases h1:k<1
 ·rw [if_pos h1]
  exact qx32
 ·rw [if_neg h1]
  by_cases h2:3<k
  ·rw [if_pos h2]
   exact qx32
  ·rw [if_neg h2]
   by_cases h3:b=0
   ·rw [h3] at KP
    rw [if_neg (by omega)]
    clear h3
    by_cases h4:R<1
    ·rw [if_pos h4]
     exact qx32
    ·rw [if_neg h4]
     by_cases h5:256<R
     ·rw [if_pos h5]
      exact qx32
     ·rw [if_neg h5]
      exact qx32
   ·rw [if_pos h3]
    have hb':(b != 0)=true:=by rw [bne_iff_ne];exact h3
    clear h3
    exact qx32
structure BrushOk (X Y R x y:Int):Prop where
 p:-4194304≤X∧X≤4194304∧-4194304≤Y∧Y≤4194304
 q:-8388608≤x∧x≤8388608∧-8388608≤y∧y≤8388608
 r1:1≤R
 r2:R≤256
set_option maxRecDepth 100000 in
set_option maxHeartbeats 1000000 in
theorem weight_any (k X Y R x y:Int) (H:Nat) (w:World) (h:BrushOk X Y R x y) :
  Calls Tryz.prog 113 #[brushV k X Y R H,.int .i64 x,.int .i64 y] w fun e w'=>e=.returned (.float .f32 (weightF k (sqD x y X Y) R))∧Below w.heap.size w w':=by
 obtain ⟨⟨a0,a1⟩,⟨b0,b1⟩⟩:=sqD_bd h.p h.q
 obtain ⟨r1,r2⟩:=sq_rad h.r1 h.r2
 have p:=h.p
 have q:=h.q
 have q1:=h.r1
 have q2:=h.r2
 unfold sqD
 generalize hA:(x-X)*(x-X)=A at *
 generalize hB:(y-Y)*(y-Y)=B at *
 have d0:0≤A+B:=by omega
 by_cases c1:R*R≤A+B
 ·have e:weightF k (A+B) R=0:=by unfold weightF;rw [if_pos c1]
  rw [e]
  clear h e
  exact qx29
 ·by_cases c2:k=1
  ·have e:weightF k (A+B) R=1065353216:=by unfold weightF;rw [if_neg c1,if_pos c2]
   rw [e]
   subst c2
   clear h e
   generalize hR:R*R=r at *
   go_enter Tryz.func113,Tryz.ntmps113
   go_wp2_with fail
   generalize hW0:w.alloc (.cells #[.int .i64 1,.int .i64 X,.int .i64 Y,.int .i64 R,.float .f32 H] 92)=W0 at *
   have HK0:Hid (Blk W0 w.heap.size #[.int .i64 1,.int .i64 X,.int .i64 Y,.int .i64 R,.float .f32 H] 92):=by subst hW0;exact Blk.new _ _ _
   have HB0:Hid (Below w.heap.size w W0):=Lib.hid (by subst hW0;exact qBl)
   clear hW0
   have t0:W0.cell? ⟨w.heap.size,0,none⟩=some (.int .i64 1):=HK0.out.cell 0
   have t1:W0.cell? ⟨w.heap.size,1,none⟩=some (.int .i64 X):=HK0.out.cell 1
   have t2:W0.cell? ⟨w.heap.size,2,none⟩=some (.int .i64 Y):=HK0.out.cell 2
   have t3:W0.cell? ⟨w.heap.size,3,none⟩=some (.int .i64 R):=HK0.out.cell 3
   have l0:w.heap.size<W0.heap.size:=HK0.out.lt
   go_quiet (fail)
   clear t0 t1 t2 t3 l0
   generalize hW1:W0.drewN nq=W1 at *
   have HK1:Hid (Blk W1 w.heap.size #[.int .i64 1,.int .i64 X,.int .i64 Y,.int .i64 R,.float .f32 H] 92):=by subst hW1;exact HK0.out
   have HB1:Hid (Below w.heap.size w W1):=Lib.hid (by subst hW1;have h:=HB0.out;exact (qBo h))
   clear hW1 HK0 HB0
   have t0:W1.cell? ⟨w.heap.size,0,none⟩=some (.int .i64 1):=HK1.out.cell 0
   have t3:W1.cell? ⟨w.heap.size,3,none⟩=some (.int .i64 R):=HK1.out.cell 3
   have l0:w.heap.size<W1.heap.size:=HK1.out.lt
   go_wp2
   go_ret
   exact ⟨rfl,(by have h:=HB1.out;exact (qBo h))⟩
  ·by_cases c3:k=2
   ·have e:weightF k (A+B) R=wCone (A+B) R:=by unfold weightF;rw [if_neg c1,if_neg c2,if_pos c3]
    rw [e]
    subst c3
    obtain ⟨f1,f2,f3,f4,f5,f6,f7⟩:=cone_ok d0 (show A+B<R*R by omega) h.r1 h.r2
    have KR:=Lib.hid (fun w=>root_any (cv (A+B)) f1 f2 w)
    have k1:=fun w'=>run_float_arith (P:=Tryz.prog) w' .quo 48 .f32 (rootF (cv (A+B))) (cv R) (divF (rootF (cv (A+B))) (cv R)) (Ieee.Format.bits_div f3 f4 (by grind))
    have k2:=fun w'=>run_float_arith (P:=Tryz.prog) w' .sub 48 .f32 1065353216 (divF (rootF (cv (A+B))) (cv R)) (wCone (A+B) R) (Ieee.Format.bits_sub const_1.1 f6.1)
    generalize wCone (A+B) R=z3 at *
    generalize divF (rootF (cv (A+B))) (cv R)=z2 at *
    generalize rootF (cv (A+B))=z1 at *
    generalize hz0:cv (A+B)=z0 at *
    generalize hzr:cv R=zr at *
    change floatOfInt .f32 (A+B)=z0 at hz0
    change floatOfInt .f32 R=zr at hzr
    clear h e f1 f2 f3 f4 f5 f6 f7
    generalize hR:R*R=r at *
    go_enter Tryz.func113,Tryz.ntmps113
    go_wp2_with fail
    generalize hW0:w.alloc (.cells #[.int .i64 2,.int .i64 X,.int .i64 Y,.int .i64 R,.float .f32 H] 92)=W0 at *
    have HK0:Hid (Blk W0 w.heap.size #[.int .i64 2,.int .i64 X,.int .i64 Y,.int .i64 R,.float .f32 H] 92):=by subst hW0;exact Blk.new _ _ _
    have HB0:Hid (Below w.heap.size w W0):=Lib.hid (by subst hW0;exact qBl)
    clear hW0
    have t0:W0.cell? ⟨w.heap.size,0,none⟩=some (.int .i64 2):=HK0.out.cell 0
    have t1:W0.cell? ⟨w.heap.size,1,none⟩=some (.int .i64 X):=HK0.out.cell 1
    have t2:W0.cell? ⟨w.heap.size,2,none⟩=some (.int .i64 Y):=HK0.out.cell 2
    have t3:W0.cell? ⟨w.heap.size,3,none⟩=some (.int .i64 R):=HK0.out.cell 3
    have l0:w.heap.size<W0.heap.size:=HK0.out.lt
    go_quiet (fail)
    clear t0 t1 t2 t3 l0
    generalize hW1:W0.drewN nq=W1 at *
    have HK1:Hid (Blk W1 w.heap.size #[.int .i64 2,.int .i64 X,.int .i64 Y,.int .i64 R,.float .f32 H] 92):=by subst hW1;exact HK0.out
    have HB1:Hid (Below w.heap.size w W1):=Lib.hid (by subst hW1;have h:=HB0.out;exact (qBo h))
    clear hW1 HK0 HB0
    have t0:W1.cell? ⟨w.heap.size,0,none⟩=some (.int .i64 2):=HK1.out.cell 0
    have t3:W1.cell? ⟨w.heap.size,3,none⟩=some (.int .i64 R):=HK1.out.cell 3
    have l0:w.heap.size<W1.heap.size:=HK1.out.lt
    go_wp2_with fail
    go_quiet ((go_at_call 142;exact Calls.quiet_of_same ((KR.out _).mono fun _ _ h=>⟨h.1,h.2.symm⟩)))
    go_wp2
    go_ret
    exact ⟨rfl,(by have h:=HB1.out;exact (qBo h))⟩
   ·have e:weightF k (A+B) R=wBell (A+B) (R*R):=by unfold weightF;rw [if_neg c1,if_neg c2,if_neg c3]
    rw [e]
    obtain ⟨f1,f2,f3,f4,f5,f6⟩:=bell_ok d0 (show A+B<R*R by omega) r2
    have k1:=fun w'=>run_float_arith (P:=Tryz.prog) w' .quo 48 .f32 (cv (A+B)) (cv (R*R)) (divF (cv (A+B)) (cv (R*R))) (Ieee.Format.bits_div f1 f2 (by grind))
    have k2:=fun w'=>run_float_arith (P:=Tryz.prog) w' .sub 48 .f32 1065353216 (divF (cv (A+B)) (cv (R*R))) (wBell1 (A+B) (R*R)) (Ieee.Format.bits_sub const_1.1 f4.1)
    have k3:=fun w'=>run_float_arith (P:=Tryz.prog) w' .mul 48 .f32 (wBell1 (A+B) (R*R)) (wBell1 (A+B) (R*R)) (wBell (A+B) (R*R)) (Ieee.Format.bits_mul f5.1 f5.1)
    generalize wBell (A+B) (R*R)=z3 at *
    generalize wBell1 (A+B) (R*R)=z2 at *
    generalize divF (cv (A+B)) (cv (R*R))=z1 at *
    generalize hz0:cv (A+B)=z0 at *
    generalize hzr:cv (R*R)=zr at *
    change floatOfInt .f32 (A+B)=z0 at hz0
    change floatOfInt .f32 (R*R)=zr at hzr
    clear h e f1 f2 f3 f4 f5 f6
    exact qx29
abbrev brCells (k X Y R:Int) (H:Nat):Array Value:=#[.int .i64 k,.int .i64 X,.int .i64 Y,.int .i64 R,.float .f32 H]
set_option maxRecDepth 100000 in
set_option maxHeartbeats 1000000 in
theorem stampfn_any (k X Y R:Int) (H:Nat) (x y:Int) (v pb:Nat) (w:World) (hb:Blk w pb (brCells k X Y R H) 92) (h:BrushOk X Y R x y) (hH:Bd 20 H) (hv:Bd 20 v) :
    Calls Tryz.prog 112 #[.int .i64 x,.int .i64 y,.float .f32 v,.pointer (some ⟨pb,0,none⟩)] w fun e w'=>e=.returned (.float .f32 (stF H v (weightF k (sqD x y X Y) R)))∧Below w.heap.size w w':=by
  have KW:=Lib.hid (fun w=>weight_any k X Y R x y H w h)
  have hs:=weight_share (k:=k) (d:=sqD x y X Y) (R:=R) (by have:=sqD_bd h.p h.q;unfold sqD;omega) h.r1 h.r2
  obtain ⟨m1,m2⟩:=st_bd hH hv hs
  have k1:=fun w'=>run_float_arith (P:=Tryz.prog) w' .mul 48 .f32 H (weightF k (sqD x y X Y) R) (mulF H (weightF k (sqD x y X Y) R)) (Ieee.Format.bits_mul hH.1 hs.1)
  have k2:=fun w'=>run_float_arith (P:=Tryz.prog) w' .add 48 .f32 v (mulF H (weightF k (sqD x y X Y) R)) (stF H v (weightF k (sqD x y X Y) R)) (Ieee.Format.bits_add hv.1 m1.1)
  generalize stF H v (weightF k (sqD x y X Y) R)=z3 at *
  generalize mulF H (weightF k (sqD x y X Y) R)=z2 at *
  generalize weightF k (sqD x y X Y) R=z1 at *
  have t0:w.cell? ⟨pb,0,none⟩=some (.int .i64 k):=hb.cell 0
  have t1:w.cell? ⟨pb,1,none⟩=some (.int .i64 X):=hb.cell 1
  have t2:w.cell? ⟨pb,2,none⟩=some (.int .i64 Y):=hb.cell 2
  have t3:w.cell? ⟨pb,3,none⟩=some (.int .i64 R):=hb.cell 3
  have t4:w.cell? ⟨pb,4,none⟩=some (.float .f32 H):=hb.cell 4
  have l0:=hb.lt
  clear hb h hH hv hs m1 m2
  go_enter Tryz.func112,Tryz.ntmps112
  go_wp2_with fail
  go_region_held3 (fun w'=>w'.cell? ⟨pb,0,none⟩=some (.int .i64 k)∧w'.cell? ⟨pb,1,none⟩=some (.int .i64 X)∧w'.cell? ⟨pb,2,none⟩=some (.int .i64 Y)∧w'.cell? ⟨pb,3,none⟩=some (.int .i64 R)∧w'.cell? ⟨pb,4,none⟩=some (.float .f32 H)∧Below w.heap.size w w')
    (first
      | exact ⟨t0,t1,t2,t3,t4,(Below.refl _ _).drew⟩
      | (go_split_ands
         have hs:=hb.size
         have hs2:=(show Below w.heap.size w _ by assumption).size
         refine ⟨?_,?_,?_,?_,?_,?_⟩
         all_goals first
           | (rw [hb.cell (by simp;omega)];assumption)
           | exact Below.trans (by assumption) (hb.mono (by omega)))
      | (go_split_ands;refine ⟨?_,?_,?_,?_,?_,?_⟩<;>assumption))
    (first|(go_at_call 113;go_split_ands;refine (KW.out _).mono ?_;rintro e2 w2 ⟨rfl,hb⟩))
  rename_i hHeld
  have hB:=hHeld.2.2.2.2.2
  clear hHeld
  go_wp2_with fail
  go_ret
  exact ⟨rfl,hB⟩
theorem box_fb (w:World) (X Y W H:Int) (v:Value) (c1:Array Value) (t:TypeId):∀ W0,W0=((w.alloc (.cells #[.int .i64 X,.int .i64 Y,.int .i64 W,.int .i64 H,v] 32)).alloc (.cells c1 t)).alloc (.cells #[.int .i64 0,.int .i64 0,.int .i64 0,.int .i64 0,.slice none 0 0] 32) →
  Fld W0 w.heap.size X Y W H v∧Blk W0 (w.heap.size+1) c1 t∧Fld W0 (w.heap.size+1+1) 0 0 0 0 (.slice none 0 0)∧Below w.heap.size w W0:=box_fm w X Y W H v c1 t
theorem brush_at {k BX BY R:Int} {H:Nat} (hz:brushE k BX BY R H=0) {X Y x y:Int} {Wn Hn:Nat} {l:List Nat} (hr:Right X Y Wn Hn l) (h1:X≤x) (h2:x<X+Wn) (h3:Y≤y) (h4:y<Y+Hn):BrushOk BX BY R x y∧Bd 20 H:=by
 obtain ⟨_,_,p,r1,r2,hH⟩:=brush_zero hz
 have g1:=hr.w2;have g2:=hr.h2;have g3:=hr.x1;have g4:=hr.x2;have g5:=hr.y1;have g6:=hr.y2
 exact ⟨⟨p,by omega,r1,r2⟩,Ieee.Format.Ht.bd (htE_one hH)⟩
def stA (k BX BY R:Int) (H:Nat) (x y:Int) (v:Nat):Nat:=stF H v (weightF k (sqD x y BX BY) R)
set_option maxRecDepth 100000 in
set_option maxHeartbeats 1000000 in
theorem stamp_ok (X Y:Int) (Wn Hn:Nat) (b o c:Nat) (l:List Nat) (k BX BY R:Int) (H:Nat) (w:World) (hl:SRow w (some ⟨b,o,none⟩) l) (hr:Right X Y Wn Hn l) (hH:H<4294967296) (hz:brushE k BX BY R H=0) :
  Calls Tryz.prog 75 #[fldV X Y Wn Hn (some ⟨b,o,none⟩) l.length c,brushV k BX BY R H] w fun e w'=>OpP (resC (addL (stA k BX BY R H) X Y Wn Hn l)) X Y Wn Hn (addL (stA k BX BY R H) X Y Wn Hn l) w e w':=by
 have K:=Lib.hid (fun w h=>check_field X Y Wn Hn (some ⟨b,o,none⟩) c l w h)
 rw [hr.chk] at K
 have HL:=Lib.hid hl
 have KC:=Lib.hid (fun w=>check_brush k BX BY R H w hH)
 rw [hz] at KC
 have KA:=Lib.hid (fun pb w (hl:SRow w (some ⟨b,o,none⟩) l) (hb:Blk w pb (brCells k BX BY R H) 92)=>added_any 112 #[.pointer (some ⟨pb,0,none⟩)] (stA k BX BY R H) X Y Wn Hn b o c l w hl hr (enters_of Tryz.func112 (by kernel_rfl) rfl) (fun x y v=>stF_lt _ _ _)
  (fun x y v h1 h2 h3 h4 hv W' hb'=>stampfn_any k BX BY R H x y v pb W' (hb.below hb' hb.lt) (brush_at hz hr h1 h2 h3 h4).1 (brush_at hz hr h1 h2 h3 h4).2 hv))
 clear hl hr hH hz
 generalize addL (stA k BX BY R H) X Y Wn Hn l=S at *
 generalize resC S=C at *
 go_enter Tryz.func75,Tryz.ntmps75
 go_wp2_with fail
 generalize hW0:((w.alloc (.cells #[.int .i64 X,.int .i64 Y,.int .i64 Wn,.int .i64 Hn,.slice (some ⟨b,o,none⟩) l.length c] 32)).alloc (.cells #[.int .i64 k,.int .i64 BX,.int .i64 BY,.int .i64 R,.float .f32 H] 92)).alloc (.cells #[.int .i64 0,.int .i64 0,.int .i64 0,.int .i64 0,.slice none 0 0] 32)=W0 at *
 obtain ⟨E0,P0,F0,B0⟩:=box_fb w X Y Wn Hn (.slice (some ⟨b,o,none⟩) l.length c) #[.int .i64 k,.int .i64 BX,.int .i64 BY,.int .i64 R,.float .f32 H] 92 W0 hW0.symm
 clear hW0
 refine (K.out _ (HL.out.below B0)).mono ?_
 rintro e w1 ⟨rfl,b1⟩
 have HE1:=Lib.hid (E0.below b1 E0.lt)
 have HP1:=Lib.hid (P0.below b1 P0.lt)
 have HF1:=Lib.hid (F0.below b1 F0.lt)
 have HL1:=Lib.hid ((HL.out.below B0).below b1)
 have HB1:=Lib.hid (B0.trans (b1.mono B0.size))
 clear b1 B0 F0 E0 P0 K HL
 have t0:w1.cell? ⟨w.heap.size+1,0,none⟩=some (.int .i64 k):=HP1.out.cell 0
 have t1:w1.cell? ⟨w.heap.size+1,1,none⟩=some (.int .i64 BX):=HP1.out.cell 1
 have t2:w1.cell? ⟨w.heap.size+1,2,none⟩=some (.int .i64 BY):=HP1.out.cell 2
 have t3:w1.cell? ⟨w.heap.size+1,3,none⟩=some (.int .i64 R):=HP1.out.cell 3
 have t4:w1.cell? ⟨w.heap.size+1,4,none⟩=some (.float .f32 H):=HP1.out.cell 4
 have l2:w.heap.size+1+1<w1.heap.size:=HF1.out.lt
 have l1:w.heap.size+1<w1.heap.size:=by omega
 have l0:w.heap.size<w1.heap.size:=by omega
 go_wp2_with fail
 refine (KC.out _).mono ?_
 rintro e w2 ⟨rfl,b2⟩
 have HE2:=Lib.hid (HE1.out.below b2 HE1.out.lt)
 have HP2:=Lib.hid (HP1.out.below b2 HP1.out.lt)
 have HF2:=Lib.hid (HF1.out.below b2 HF1.out.lt)
 have HL2:=Lib.hid (HL1.out.below b2)
 have HB2:=Lib.hid (HB1.out.trans (b2.mono HB1.out.size))
 clear b2 t0 t1 t2 t3 t4 l0 l1 l2 HE1 HP1 HF1 HL1 HB1
 obtain ⟨c0,c1,c2,c3,c4⟩:=HE2.out.cells
 have l2:w.heap.size+1+1<w2.heap.size:=HF2.out.lt
 have l0:w.heap.size<w2.heap.size:=by omega
 go_wp2_with fail
 refine (KA.out _ _ HL2.out HP2.out).mono ?_
 rintro e w7 ⟨⟨x,y,p,q,a,m,kk,rfl,o7⟩,b7⟩
 have HOZ:=Lib.hid o7
 have HFZ:=Lib.hid (HF2.out.below b7 HF2.out.lt)
 have HBZ:=Lib.hid (HB2.out.trans (b7.mono HB2.out.size))
 have HZB:Hid (w.heap.size+1+1<w2.heap.size):=HF2.out.lt
 have HBB:Hid (w.heap.size≤w2.heap.size):=HB2.out.size
 clear o7 b7 KA HE2 HP2 HF2 HL2 HB2 c0 c1 c2 c3 c4 l0 l2
 generalize k=bk at *
 generalize kk=k at *
 obtain ⟨d0,d1,d2,d3,d4⟩:=HFZ.out.cells
 have qf0:=HFZ.out.frozen 0
 have qf1:=HFZ.out.frozen 1
 have qf2:=HFZ.out.frozen 2
 have qf3:=HFZ.out.frozen 3
 have qf4:=HFZ.out.frozen 4
 have lz:=HFZ.out.lt
 go_wp2_with fail
 generalize hW5:((((w7.setCell ⟨w.heap.size+1+1,0,none⟩ (.int .i64 x)).setCell ⟨w.heap.size+1+1,1,none⟩ (.int .i64 y)).setCell ⟨w.heap.size+1+1,2,none⟩ (.int .i64 p)).setCell ⟨w.heap.size+1+1,3,none⟩ (.int .i64 q)).setCell ⟨w.heap.size+1+1,4,none⟩ (.slice a m k)=W5 at *
 obtain ⟨f5,bb5,oo5,_,z5⟩:=fld_store w7 (w.heap.size+1+1) 0 0 0 0 _ x y p q (.slice a m k) HFZ.out W5 hW5.symm
 have hO5:=(HOZ.out.set oo5 HZB.out).base HBB.out
 have hB5:=HBZ.out.trans (bb5.mono (by omega))
 clear d0 d1 d2 d3 d4 qf0 qf1 qf2 qf3 qf4 hW5 oo5
 obtain ⟨d0,d1,d2,d3,d4⟩:=f5.cells
 exact bodyPost_ret (v:=.tuple #[fldV x y p q a m k,.int .i64 C]) (by simp [results,Tryz.results75,go_sem, *]) rfl ⟨⟨x,y,p,q,a,m,k,rfl,hO5⟩,hB5⟩
def ditA (seed:Int) (s:Nat) (x y:Int) (v:Nat):Nat:=ditF s v (hsF seed x y 8)
theorem box_fd (w:World) (X Y W H:Int) (v:Value) (c1:Array Value) (t1:TypeId) (c2:Array Value) (t2:TypeId):∀ W0,W0=(((w.alloc (.cells #[.int .i64 X,.int .i64 Y,.int .i64 W,.int .i64 H,v] 32)).alloc (.cells c1 t1)).alloc (.cells c2 t2)).alloc (.cells #[.int .i64 0,.int .i64 0,.int .i64 0,.int .i64 0,.slice none 0 0] 32) →
  Fld W0 w.heap.size X Y W H v∧Blk W0 (w.heap.size+1) c1 t1∧Blk W0 (w.heap.size+1+1) c2 t2∧Fld W0 (w.heap.size+1+1+1) 0 0 0 0 (.slice none 0 0)∧Below w.heap.size w W0:=by
 exact qx27
set_option maxRecDepth 100000 in
theorem dither_bad (X Y:Int) (Wn Hn:Nat) (b o c:Nat) (l:List Nat) (seed:Int) (s:Nat) (w:World) (hl:SRow w (some ⟨b,o,none⟩) l) (hr:Right X Y Wn Hn l) (hs:s<4294967296) (hz:dithE s≠0) :
  Calls Tryz.prog 74 #[fldV X Y Wn Hn (some ⟨b,o,none⟩) l.length c,.int .u32 seed,.float .f32 s] w fun e w'=>e=.returned (.tuple #[fldV 0 0 0 0 none 0 0,.int .i64 (dithE s)])∧Below w.heap.size w w':=by
 have K:=Lib.hid (fun w h=>check_field X Y Wn Hn (some ⟨b,o,none⟩) c l w h)
 rw [hr.chk] at K
 have HL:=Lib.hid hl
 have KC:=Lib.hid (fun w=>checkstep_all s w hs)
 clear hl hr hs
 generalize dithE s=a at *
 have hb':(a != 0)=true:=by rw [bne_iff_ne];exact hz
 clear hz
 go_enter Tryz.func74,Tryz.ntmps74
 go_wp2_with fail
 generalize hW0:(((w.alloc (.cells #[.int .i64 X,.int .i64 Y,.int .i64 Wn,.int .i64 Hn,.slice (some ⟨b,o,none⟩) l.length c] 32)).alloc (.cells #[.int .u32 seed] 49)).alloc (.cells #[.float .f32 s] 48)).alloc (.cells #[.int .i64 0,.int .i64 0,.int .i64 0,.int .i64 0,.slice none 0 0] 32)=W0 at *
 obtain ⟨E0,P0,Q0,F0,B0⟩:=box_fd w X Y Wn Hn (.slice (some ⟨b,o,none⟩) l.length c) #[.int .u32 seed] 49 #[.float .f32 s] 48 W0 hW0.symm
 clear hW0
 refine (K.out _ (HL.out.below B0)).mono ?_
 rintro e w1 ⟨rfl,b1⟩
 have HE1:=Lib.hid (E0.below b1 E0.lt)
 have HP1:=Lib.hid (P0.below b1 P0.lt)
 have HQ1:=Lib.hid (Q0.below b1 Q0.lt)
 have HF1:=Lib.hid (F0.below b1 F0.lt)
 have HL1:=Lib.hid ((HL.out.below B0).below b1)
 have HB1:=Lib.hid (B0.trans (b1.mono B0.size))
 clear b1 B0 F0 E0 P0 Q0 K HL
 have p1:w1.cell? ⟨w.heap.size+1+1,0,none⟩=some (.float .f32 s):=HQ1.out.cell 0
 have l3:w.heap.size+1+1+1<w1.heap.size:=HF1.out.lt
 have l2:w.heap.size+1+1<w1.heap.size:=by omega
 go_wp2_with fail
 refine (KC.out _).mono ?_
 rintro e w2 ⟨rfl,b2⟩
 have HE2:=Lib.hid (HE1.out.below b2 HE1.out.lt)
 have HP2:=Lib.hid (HP1.out.below b2 HP1.out.lt)
 have HQ2:=Lib.hid (HQ1.out.below b2 HQ1.out.lt)
 have HF2:=Lib.hid (HF1.out.below b2 HF1.out.lt)
 have HL2:=Lib.hid (HL1.out.below b2)
 have HB2:=Lib.hid (HB1.out.trans (b2.mono HB1.out.size))
 clear b2 p1 l3 l2 HE1 HP1 HQ1 HF1 HL1 HB1
 obtain ⟨d0,d1,d2,d3,d4⟩:=HF2.out.cells
 have qf0:=HF2.out.frozen 0
 have qf1:=HF2.out.frozen 1
 have qf2:=HF2.out.frozen 2
 have qf3:=HF2.out.frozen 3
 have qf4:=HF2.out.frozen 4
 have lz:=HF2.out.lt
 go_wp2_with fail
 have B3:=HB2.out
 exact bodyPost_ret (v:=.tuple #[fldV 0 0 0 0 none 0 0,.int .i64 a]) (by simp [results,Tryz.results74,go_sem, *]) rfl ⟨rfl,(qBo B3)⟩
set_option maxRecDepth 100000 in
set_option maxHeartbeats 1000000 in
theorem dither_ok (X Y:Int) (Wn Hn:Nat) (b o c:Nat) (l:List Nat) (seed:Int) (s:Nat) (w:World) (hl:SRow w (some ⟨b,o,none⟩) l) (hr:Right X Y Wn Hn l) (hs:s<4294967296) (hz:dithE s=0) :
  Calls Tryz.prog 74 #[fldV X Y Wn Hn (some ⟨b,o,none⟩) l.length c,.int .u32 seed,.float .f32 s] w fun e w'=>OpP (resC (addL (ditA seed s) X Y Wn Hn l)) X Y Wn Hn (addL (ditA seed s) X Y Wn Hn l) w e w':=by
 have K:=Lib.hid (fun w h=>check_field X Y Wn Hn (some ⟨b,o,none⟩) c l w h)
 rw [hr.chk] at K
 have HL:=Lib.hid hl
 have KC:=Lib.hid (fun w=>checkstep_all s w hs)
 rw [hz] at KC
 have hT:=dith_zero hz
 have HBL:Hid (b<w.heap.size):=SRow.blt hl hr.pos
 have g1:=hr.w1;have g2:=hr.w2;have g3:=hr.h1;have g4:=hr.h2;have g5:=hr.x1;have g6:=hr.x2;have g7:=hr.y1;have g8:=hr.y2
 have KM:=Lib.hid (fun p q pa pb w1 (hl1:SRow w1 (some ⟨b,o,none⟩) l) (hq:Fld w1 q X Y Wn Hn (.slice (some ⟨b,o,none⟩) l.length c)) (ha:Blk w1 pa #[.float .f32 s] 48) (hb:Blk w1 pb #[.int .u32 seed] 49) (hp:CntAt w1 p (-1)) (qp:q≠p) (bp:b≠p) (pap:pa≠p) (pbp:pb≠p) =>
  make_cnt 110 #[.pointer (some ⟨p,0,none⟩),.pointer (some ⟨q,0,none⟩),.pointer (some ⟨pa,0,none⟩),.pointer (some ⟨pb,0,none⟩)] p (fun x y=>ditA seed s x y (l.getD (cellNo X Y Wn x y).toNat 0)) X Y Wn Hn w1 (by omega) (by omega) (by omega) (by omega) (by omega) (by omega) (by omega) (by omega)
   (enters_of Tryz.func110 (by kernel_rfl) rfl) hp (fun x y=>ditF_lt _ _ _)
   (fun i j k hi hj hk W' hb' hcnt=>by
    have hpl:=hp.lt
    have hpl':=hcnt.lt
    have e:=cell_ij (X:=X) (Y:=Y) hk
    have hkl:k<l.length:=by rw [hr.len];exact cell_lt hi hj hk
    show Calls Tryz.prog _ _ W' fun e w'=>e=.returned (.float .f32 (ditA seed s (X+(i:Int)) (Y+(j:Int)) (l.getD (cellNo X Y Wn (X+(i:Int)) (Y+(j:Int))).toNat 0)))∧_
    rw [e]
    exact dithfn_any seed s (X+(i:Int)) (Y+(j:Int)) p q b o c pa pb k X Y Wn Hn l W' ⟨hcnt,hq.but hb' hq.lt qp,SRow.but hl1 hb' (SRow.blt hl1 hr.pos) bp,qp,bp,hkl,by have:=hb'.size;have:=SRow.blt hl1 hr.pos;omega⟩ (hr.bd k) hT (ha.but hb' ha.lt pap) (hb.but hb' hb.lt pbp) pap pbp))
 have KR:=Lib.hid (fun X1 Y1 W1 H1 g cap B w ho=>result_any X1 Y1 W1 H1 g cap B (addL (ditA seed s) X Y Wn Hn l) w ho (addL_small (ditA seed s) hr))
 change Hid (∀ p q pa pb w1 (hl1:SRow w1 (some ⟨b,o,none⟩) l) (hq:Fld w1 q X Y Wn Hn (.slice (some ⟨b,o,none⟩) l.length c)) (ha:Blk w1 pa #[.float .f32 s] 48) (hb:Blk w1 pb #[.int .u32 seed] 49) (hp:CntAt w1 p (-1)) (qp:q≠p) (bp:b≠p) (pap:pa≠p) (pbp:pb≠p),
  Calls Tryz.prog 89 #[reg X Y Wn Hn,.func (.func 110) #[] #[.pointer (some ⟨p,0,none⟩),.pointer (some ⟨q,0,none⟩),.pointer (some ⟨pa,0,none⟩),.pointer (some ⟨pb,0,none⟩)]] w1 fun e w'=>MakeCP p X Y Wn Hn (addL (ditA seed s) X Y Wn Hn l) w1 e w') at KM
 clear hl hr hs hz hT g1 g2 g3 g4 g5 g6 g7 g8
 generalize addL (ditA seed s) X Y Wn Hn l=S at *
 generalize resC S=C at *
 go_enter Tryz.func74,Tryz.ntmps74
 go_wp2_with fail
 generalize hW0:(((w.alloc (.cells #[.int .i64 X,.int .i64 Y,.int .i64 Wn,.int .i64 Hn,.slice (some ⟨b,o,none⟩) l.length c] 32)).alloc (.cells #[.int .u32 seed] 49)).alloc (.cells #[.float .f32 s] 48)).alloc (.cells #[.int .i64 0,.int .i64 0,.int .i64 0,.int .i64 0,.slice none 0 0] 32)=W0 at *
 obtain ⟨E0,P0,Q0,F0,B0⟩:=box_fd w X Y Wn Hn (.slice (some ⟨b,o,none⟩) l.length c) #[.int .u32 seed] 49 #[.float .f32 s] 48 W0 hW0.symm
 clear hW0
 refine (K.out _ (HL.out.below B0)).mono ?_
 rintro e w1 ⟨rfl,b1⟩
 have HE1:=Lib.hid (E0.below b1 E0.lt)
 have HP1:=Lib.hid (P0.below b1 P0.lt)
 have HQ1:=Lib.hid (Q0.below b1 Q0.lt)
 have HF1:=Lib.hid (F0.below b1 F0.lt)
 have HL1:=Lib.hid ((HL.out.below B0).below b1)
 have HB1:=Lib.hid (B0.trans (b1.mono B0.size))
 clear b1 B0 F0 E0 P0 Q0 K HL
 have p1:w1.cell? ⟨w.heap.size+1+1,0,none⟩=some (.float .f32 s):=HQ1.out.cell 0
 have l3:w.heap.size+1+1+1<w1.heap.size:=HF1.out.lt
 have l2:w.heap.size+1+1<w1.heap.size:=by omega
 go_wp2_with fail
 refine (KC.out _).mono ?_
 rintro e w2 ⟨rfl,b2⟩
 have HE2:=Lib.hid (HE1.out.below b2 HE1.out.lt)
 have HP2:=Lib.hid (HP1.out.below b2 HP1.out.lt)
 have HQ2:=Lib.hid (HQ1.out.below b2 HQ1.out.lt)
 have HF2:=Lib.hid (HF1.out.below b2 HF1.out.lt)
 have HL2:=Lib.hid (HL1.out.below b2)
 have HB2:=Lib.hid (HB1.out.trans (b2.mono HB1.out.size))
 clear b2 p1 l3 l2 HE1 HP1 HQ1 HF1 HL1 HB1
 have l3:w.heap.size+1+1+1<w2.heap.size:=HF2.out.lt
 obtain ⟨c0,c1,c2,c3,c4⟩:=HE2.out.cells
 have l0:=HE2.out.lt
 go_wp2_with fail
 generalize hW3:w2.alloc (.cells #[.int .i64 (-1)] 3)=W3 at *
 obtain ⟨n3,B3,z3⟩:=cnt_world1 w2 W3 hW3.symm
 clear hW3
 have HE3:=Lib.hid (HE2.out.below B3 HE2.out.lt)
 have HP3:=Lib.hid (HP2.out.below B3 HP2.out.lt)
 have HQ3:=Lib.hid (HQ2.out.below B3 HQ2.out.lt)
 have HF3:=Lib.hid (HF2.out.below B3 HF2.out.lt)
 have HL3:=Lib.hid (HL2.out.below B3)
 have HB3:=Lib.hid (HB2.out.trans (B3.mono HB2.out.size))
 refine (KM.out _ _ _ _ _ HL3.out HE3.out HQ3.out HP3.out n3 (by omega) (by have:=HBL.out;omega) (by omega) (by omega)).mono ?_
 rintro e w4 ⟨⟨g,cap,rfl,ho⟩,b4⟩
 have HF4:=Lib.hid (HF3.out.below b4 (by omega))
 have HB4:=Lib.hid (HB3.out.trans (b4.mono (by omega)))
 have HO4:=Lib.hid ho
 have HZ3:Hid (w.heap.size+1+1+1<W3.heap.size):=HF3.out.lt
 clear ho b4 KM HE3 HP3 HQ3 HL3 HB3 B3 n3 z3 HF3 HE2 HP2 HQ2 HF2 HL2 HB2 c0 c1 c2 c3 c4 l0 l3
 go_wp2_with fail
 refine (KR.out _ _ _ _ _ _ _ _ HO4.out).mono ?_
 rintro e w7 ⟨⟨x,y,p,q,a,m,k,rfl,o7⟩,b7⟩
 have HOZ:=Lib.hid o7
 have HFZ:=Lib.hid (HF4.out.below b7 HF4.out.lt)
 have HBZ:=Lib.hid (HB4.out.trans (b7.mono HB4.out.size))
 have HZB:Hid (w.heap.size+1+1+1<W3.heap.size):=HZ3.out
 have HBB:Hid (w.heap.size≤W3.heap.size):=by have:=HZB.out;unfold Hid;omega
 clear o7 b7 KR HO4 HF4 HB4
 obtain ⟨d0,d1,d2,d3,d4⟩:=HFZ.out.cells
 have qf0:=HFZ.out.frozen 0
 have qf1:=HFZ.out.frozen 1
 have qf2:=HFZ.out.frozen 2
 have qf3:=HFZ.out.frozen 3
 have qf4:=HFZ.out.frozen 4
 have lz:=HFZ.out.lt
 go_wp2_with fail
 generalize hW5:((((w7.setCell ⟨w.heap.size+1+1+1,0,none⟩ (.int .i64 x)).setCell ⟨w.heap.size+1+1+1,1,none⟩ (.int .i64 y)).setCell ⟨w.heap.size+1+1+1,2,none⟩ (.int .i64 p)).setCell ⟨w.heap.size+1+1+1,3,none⟩ (.int .i64 q)).setCell ⟨w.heap.size+1+1+1,4,none⟩ (.slice a m k)=W5 at *
 obtain ⟨f5,bb5,oo5,_,z5⟩:=fld_store w7 (w.heap.size+1+1+1) 0 0 0 0 _ x y p q (.slice a m k) HFZ.out W5 hW5.symm
 have hO5:=(HOZ.out.set oo5 HZB.out).base HBB.out
 have hB5:=HBZ.out.trans (bb5.mono (by omega))
 clear d0 d1 d2 d3 d4 qf0 qf1 qf2 qf3 qf4 hW5 oo5
 obtain ⟨d0,d1,d2,d3,d4⟩:=f5.cells
 exact bodyPost_ret (v:=.tuple #[fldV x y p q a m k,.int .i64 C]) (by simp [results,Tryz.results74,go_sem, *]) rfl ⟨⟨x,y,p,q,a,m,k,rfl,hO5⟩,hB5⟩
set_option maxRecDepth 100000 in
theorem specklefn_any (seed:Int) (p:Nat) (x y:Int) (pa pb:Nat) (w:World) (ha:Blk w pa #[.int .u32 seed] 49) (hb:Blk w pb #[.float .f32 p] 48) :
  Calls Tryz.prog 94 #[.int .i64 x,.int .i64 y,.pointer (some ⟨pa,0,none⟩),.pointer (some ⟨pb,0,none⟩)] w fun e w'=>e=.returned (.float .f32 (spkF p (hsF seed x y 9)))∧Below w.heap.size w w':=by
 have KH:=Lib.hid (fun w=>hash1 seed x y 9 w)
 have KU:=Lib.hid (fun w=>unit_word seed x y 9 w)
 have da:w.cell? ⟨pa,0,none⟩=some (.int .u32 seed):=ha.cell 0
 have db:w.cell? ⟨pb,0,none⟩=some (.float .f32 p):=hb.cell 0
 have l2:=ha.lt
 have l3:=hb.lt
 clear ha hb
 unfold spkF
 cases hc:lss (hsF seed x y 9) p with
 | true =>
  rw [if_pos rfl]
  change (FloatKind.f32.format.order (hsF seed x y 9) p == some .lt)=true at hc
  exact qx46
 | false =>
  rw [if_neg (by decide)]
  change (FloatKind.f32.format.order (hsF seed x y 9) p == some .lt)=false at hc
  exact qx46
def spkL (seed:Int) (p:Nat) (X Y:Int) (Wn Hn:Nat):List Nat:=madeL (fun x y=>spkF p (hsF seed x y 9)) X Y Wn (Hn*Wn)
theorem box_sp (w:World) (X Y W H:Int) (c1:Array Value) (t1:TypeId) (c2:Array Value) (t2:TypeId):∀ W0,W0=(((w.alloc (.cells #[.int .i64 X,.int .i64 Y,.int .i64 W,.int .i64 H] 26)).alloc (.cells c1 t1)).alloc (.cells c2 t2)).alloc (.cells #[.int .i64 0,.int .i64 0,.int .i64 0,.int .i64 0,.slice none 0 0] 32) →
  Reg W0 w.heap.size X Y W H∧Blk W0 (w.heap.size+1) c1 t1∧Blk W0 (w.heap.size+1+1) c2 t2∧Fld W0 (w.heap.size+1+1+1) 0 0 0 0 (.slice none 0 0)∧Below w.heap.size w W0:=by
 rintro _ rfl
 refine ⟨(((Reg.new w X Y W H).alloc _).alloc _).alloc _,?_,?_,?_,qBl⟩
 ·have:=((Blk.new (w.alloc (.cells #[.int .i64 X,.int .i64 Y,.int .i64 W,.int .i64 H] 26)) c1 t1).alloc (.cells c2 t2)).alloc (.cells #[.int .i64 0,.int .i64 0,.int .i64 0,.int .i64 0,.slice none 0 0] 32)
  simpa using this
 ·have:=(Blk.new ((w.alloc (.cells #[.int .i64 X,.int .i64 Y,.int .i64 W,.int .i64 H] 26)).alloc (.cells c1 t1)) c2 t2).alloc (.cells #[.int .i64 0,.int .i64 0,.int .i64 0,.int .i64 0,.slice none 0 0] 32)
  simpa using this
 ·have:=Fld.new (((w.alloc (.cells #[.int .i64 X,.int .i64 Y,.int .i64 W,.int .i64 H] 26)).alloc (.cells c1 t1)).alloc (.cells c2 t2)) 0 0 0 0 (.slice none 0 0)
  simpa using this
theorem chk_right {X Y:Int} {Wn Hn:Nat} {l:List Nat} (h:Right X Y Wn Hn l):chk X Y Wn Hn=0:=by
 have h1:=h.w1;have h2:=h.w2;have h3:=h.h1;have h4:=h.h2;have h5:=h.x1;have h6:=h.x2;have h7:=h.y1;have h8:=h.y2
 have h9:=h.wh
 have h9':(Wn:Int)*(Hn:Int)≤65536:=by rw [←Int.natCast_mul];omega
 unfold chk
 rw [if_neg (by omega),if_neg (by omega),if_neg (by omega)]
set_option maxRecDepth 100000 in
theorem speckle_bad (X Y:Int) (Wn Hn:Nat) (l:List Nat) (seed:Int) (p:Nat) (w:World) (hr:Right X Y Wn Hn l) (hp:p<4294967296) (hz:shareE p≠0) :
  Calls Tryz.prog 68 #[reg X Y Wn Hn,.int .u32 seed,.float .f32 p] w fun e w'=>e=.returned (.tuple #[fldV 0 0 0 0 none 0 0,.int .i64 (shareE p)])∧Below w.heap.size w w':=by
 have K:=Lib.hid (fun w=>check1 X Y Wn Hn w)
 rw [chk_right hr] at K
 have KC:=Lib.hid (fun w=>share_any p hp w)
 clear hr hp
 generalize shareE p=a at *
 have hb':(a != 0)=true:=by rw [bne_iff_ne];exact hz
 clear hz
 go_enter Tryz.func68,Tryz.ntmps68
 go_wp2_with fail
 generalize hW0:(((w.alloc (.cells #[.int .i64 X,.int .i64 Y,.int .i64 Wn,.int .i64 Hn] 26)).alloc (.cells #[.int .u32 seed] 49)).alloc (.cells #[.float .f32 p] 48)).alloc (.cells #[.int .i64 0,.int .i64 0,.int .i64 0,.int .i64 0,.slice none 0 0] 32)=W0 at *
 obtain ⟨E0,P0,Q0,F0,B0⟩:=box_sp w X Y Wn Hn #[.int .u32 seed] 49 #[.float .f32 p] 48 W0 hW0.symm
 clear hW0
 refine (K.out _).mono ?_
 rintro e w1 ⟨rfl,b1⟩
 have HE1:=Lib.hid (E0.below b1 E0.lt)
 have HP1:=Lib.hid (P0.below b1 P0.lt)
 have HQ1:=Lib.hid (Q0.below b1 Q0.lt)
 have HF1:=Lib.hid (F0.below b1 F0.lt)
 have HB1:=Lib.hid (B0.trans (b1.mono B0.size))
 clear b1 B0 F0 E0 P0 Q0 K
 have p1:w1.cell? ⟨w.heap.size+1+1,0,none⟩=some (.float .f32 p):=HQ1.out.cell 0
 have l3:w.heap.size+1+1+1<w1.heap.size:=HF1.out.lt
 have l2:w.heap.size+1+1<w1.heap.size:=by omega
 go_wp2_with fail
 refine (KC.out _).mono ?_
 rintro e w2 ⟨rfl,b2⟩
 have HE2:=Lib.hid (HE1.out.below b2 HE1.out.lt)
 have HP2:=Lib.hid (HP1.out.below b2 HP1.out.lt)
 have HQ2:=Lib.hid (HQ1.out.below b2 HQ1.out.lt)
 have HF2:=Lib.hid (HF1.out.below b2 HF1.out.lt)
 have HB2:=Lib.hid (HB1.out.trans (b2.mono HB1.out.size))
 clear b2 p1 l3 l2 HE1 HP1 HQ1 HF1 HB1
 obtain ⟨d0,d1,d2,d3,d4⟩:=HF2.out.cells
 have qf0:=HF2.out.frozen 0
 have qf1:=HF2.out.frozen 1
 have qf2:=HF2.out.frozen 2
 have qf3:=HF2.out.frozen 3
 have qf4:=HF2.out.frozen 4
 have lz:=HF2.out.lt
 go_wp2_with fail
 have B3:=HB2.out
 exact bodyPost_ret (v:=.tuple #[fldV 0 0 0 0 none 0 0,.int .i64 a]) (by simp [results,Tryz.results68,go_sem, *]) rfl ⟨rfl,(qBo B3)⟩
theorem MakeP.outv {X Y W H:Int} {m:List Nat} {w:World} {e:Ending} {w':World} (h:MakeP X Y W H m w e w'):(∃ x y p q a n k,e=.returned (fldV x y p q a n k)∧OutV 0 X Y W H m w' w.heap.size x y p q a n k)∧Below w.heap.size w w':=by
 obtain ⟨⟨g,cap,he,ho⟩,hb⟩:=h
 exact ⟨⟨X,Y,W,H,_,_,cap,he,.inr ⟨rfl,rfl,rfl,rfl,rfl,g,rfl,rfl,ho⟩⟩,hb⟩
set_option maxRecDepth 100000 in
set_option maxHeartbeats 1000000 in
theorem speckle_ok (X Y:Int) (Wn Hn:Nat) (l:List Nat) (seed:Int) (p:Nat) (w:World) (hr:Right X Y Wn Hn l) (hp:p<4294967296) (hz:shareE p=0) :
  Calls Tryz.prog 68 #[reg X Y Wn Hn,.int .u32 seed,.float .f32 p] w fun e w'=>OpP 0 X Y Wn Hn (spkL seed p X Y Wn Hn) w e w':=by
 have K:=Lib.hid (fun w=>check1 X Y Wn Hn w)
 rw [chk_right hr] at K
 have KC:=Lib.hid (fun w=>share_any p hp w)
 rw [hz] at KC
 have g1:=hr.w1;have g2:=hr.w2;have g3:=hr.h1;have g4:=hr.h2;have g5:=hr.x1;have g6:=hr.x2;have g7:=hr.y1;have g8:=hr.y2
 have KM:=Lib.hid (fun pa pb w1 (ha:Blk w1 pa #[.int .u32 seed] 49) (hb:Blk w1 pb #[.float .f32 p] 48)=>(make_any 94 #[.pointer (some ⟨pa,0,none⟩),.pointer (some ⟨pb,0,none⟩)] (fun x y=>spkF p (hsF seed x y 9)) X Y Wn Hn w1 (by omega) (by omega) (by omega) (by omega) (by omega) (by omega) (by omega) (by omega)
  (enters_of Tryz.func94 (by kernel_rfl) rfl) (fun x y _ _ _ _=>spkF_lt _ _) (fun x y _ _ _ _ W' hb'=>specklefn_any seed p x y pa pb W' (ha.below hb' ha.lt) (hb.below hb' hb.lt))).mono fun e w' h=>MakeP.outv h)
 change Hid (∀ pa pb w1 (ha:Blk w1 pa #[.int .u32 seed] 49) (hb:Blk w1 pb #[.float .f32 p] 48),Calls Tryz.prog 89 #[reg X Y Wn Hn,.func (.func 94) #[] #[.pointer (some ⟨pa,0,none⟩),.pointer (some ⟨pb,0,none⟩)]] w1 fun e w'=>(∃ x y pp q a n k,e=.returned (fldV x y pp q a n k)∧OutV 0 X Y Wn Hn (spkL seed p X Y Wn Hn) w' w1.heap.size x y pp q a n k)∧Below w1.heap.size w1 w') at KM
 clear hr hp hz g1 g2 g3 g4 g5 g6 g7 g8
 generalize spkL seed p X Y Wn Hn=S at *
 go_enter Tryz.func68,Tryz.ntmps68
 go_wp2_with fail
 generalize hW0:(((w.alloc (.cells #[.int .i64 X,.int .i64 Y,.int .i64 Wn,.int .i64 Hn] 26)).alloc (.cells #[.int .u32 seed] 49)).alloc (.cells #[.float .f32 p] 48)).alloc (.cells #[.int .i64 0,.int .i64 0,.int .i64 0,.int .i64 0,.slice none 0 0] 32)=W0 at *
 obtain ⟨E0,P0,Q0,F0,B0⟩:=box_sp w X Y Wn Hn #[.int .u32 seed] 49 #[.float .f32 p] 48 W0 hW0.symm
 clear hW0
 refine (K.out _).mono ?_
 rintro e w1 ⟨rfl,b1⟩
 have HE1:=Lib.hid (E0.below b1 E0.lt)
 have HP1:=Lib.hid (P0.below b1 P0.lt)
 have HQ1:=Lib.hid (Q0.below b1 Q0.lt)
 have HF1:=Lib.hid (F0.below b1 F0.lt)
 have HB1:=Lib.hid (B0.trans (b1.mono B0.size))
 clear b1 B0 F0 E0 P0 Q0 K
 have p1:w1.cell? ⟨w.heap.size+1+1,0,none⟩=some (.float .f32 p):=HQ1.out.cell 0
 have l3:w.heap.size+1+1+1<w1.heap.size:=HF1.out.lt
 have l2:w.heap.size+1+1<w1.heap.size:=by omega
 go_wp2_with fail
 refine (KC.out _).mono ?_
 rintro e w2 ⟨rfl,b2⟩
 have HE2:=Lib.hid (HE1.out.below b2 HE1.out.lt)
 have HP2:=Lib.hid (HP1.out.below b2 HP1.out.lt)
 have HQ2:=Lib.hid (HQ1.out.below b2 HQ1.out.lt)
 have HF2:=Lib.hid (HF1.out.below b2 HF1.out.lt)
 have HB2:=Lib.hid (HB1.out.trans (b2.mono HB1.out.size))
 clear b2 p1 l3 l2 HE1 HP1 HQ1 HF1 HB1
 have l3:w.heap.size+1+1+1<w2.heap.size:=HF2.out.lt
 obtain ⟨c0,c1,c2,c3⟩:=HE2.out.cells
 have l0:=HE2.out.lt
 go_wp2_with fail
 generalize p=part at *
 refine (KM.out _ _ _ HP2.out HQ2.out).mono ?_
 rintro e w7 ⟨⟨x,y,p,q,a,m,k,rfl,o7⟩,b7⟩
 have HOZ:=Lib.hid o7
 have HFZ:=Lib.hid (HF2.out.below b7 HF2.out.lt)
 have HBZ:=Lib.hid (HB2.out.trans (b7.mono HB2.out.size))
 have HZB:Hid (w.heap.size+1+1+1<w2.heap.size):=HF2.out.lt
 have HBB:Hid (w.heap.size≤w2.heap.size):=HB2.out.size
 clear o7 b7 KM HE2 HP2 HQ2 HF2 HB2 c0 c1 c2 c3 l0 l3
 obtain ⟨d0,d1,d2,d3,d4⟩:=HFZ.out.cells
 have qf0:=HFZ.out.frozen 0
 have qf1:=HFZ.out.frozen 1
 have qf2:=HFZ.out.frozen 2
 have qf3:=HFZ.out.frozen 3
 have qf4:=HFZ.out.frozen 4
 have lz:=HFZ.out.lt
 go_wp2_with fail
 generalize hW5:((((w7.setCell ⟨w.heap.size+1+1+1,0,none⟩ (.int .i64 x)).setCell ⟨w.heap.size+1+1+1,1,none⟩ (.int .i64 y)).setCell ⟨w.heap.size+1+1+1,2,none⟩ (.int .i64 p)).setCell ⟨w.heap.size+1+1+1,3,none⟩ (.int .i64 q)).setCell ⟨w.heap.size+1+1+1,4,none⟩ (.slice a m k)=W5 at *
 obtain ⟨f5,bb5,oo5,_,z5⟩:=fld_store w7 (w.heap.size+1+1+1) 0 0 0 0 _ x y p q (.slice a m k) HFZ.out W5 hW5.symm
 have hO5:=(HOZ.out.set oo5 HZB.out).base HBB.out
 have hB5:=HBZ.out.trans (bb5.mono (by omega))
 clear d0 d1 d2 d3 d4 qf0 qf1 qf2 qf3 qf4 hW5 oo5
 obtain ⟨d0,d1,d2,d3,d4⟩:=f5.cells
 exact bodyPost_ret (v:=.tuple #[fldV x y p q a m k,.int .i64 0]) (by simp [results,Tryz.results68,go_sem, *]) rfl ⟨⟨x,y,p,q,a,m,k,rfl,hO5⟩,hB5⟩
theorem ck_world (w:World) (X Y:Int) (Wn Hn:Nat) (ba oa ca bb ob cb bs os cs:Nat) (A B S:List Nat) (ha:SRow w (some ⟨ba,oa,none⟩) A) (hb:SRow w (some ⟨bb,ob,none⟩) B) (hs:SRow w (some ⟨bs,os,none⟩) S)
  (ra:Right X Y Wn Hn A) (rb:Right X Y Wn Hn B) (rs:Right X Y Wn Hn S):∀ W0,W0=((((w.alloc (.cells #[.int .i64 X,.int .i64 Y,.int .i64 Wn,.int .i64 Hn,.slice (some ⟨ba,oa,none⟩) A.length ca] 32)).alloc (.cells #[.int .i64 X,.int .i64 Y,.int .i64 Wn,.int .i64 Hn,.slice (some ⟨bb,ob,none⟩) B.length cb] 32)).alloc (.cells #[.int .i64 X,.int .i64 Y,.int .i64 Wn,.int .i64 Hn,.slice (some ⟨bs,os,none⟩) S.length cs] 32)).alloc (.cells #[.int .i64 0,.int .i64 0,.int .i64 0,.int .i64 0,.slice none 0 0] 32)).alloc
   (.cells #[.int .i64 X,.int .i64 Y,.int .i64 Wn,.int .i64 Hn,.slice (some ⟨ba,oa,none⟩) A.length ca,.int .i64 X,.int .i64 Y,.int .i64 Wn,.int .i64 Hn,.slice (some ⟨bb,ob,none⟩) B.length cb,.int .i64 X,.int .i64 Y,.int .i64 Wn,.int .i64 Hn,.slice (some ⟨bs,os,none⟩) S.length cs] 32) →
  Fld W0 w.heap.size X Y Wn Hn (.slice (some ⟨ba,oa,none⟩) A.length ca)∧Fld W0 (w.heap.size+1) X Y Wn Hn (.slice (some ⟨bb,ob,none⟩) B.length cb)∧Fld W0 (w.heap.size+1+1) X Y Wn Hn (.slice (some ⟨bs,os,none⟩) S.length cs)∧Fld W0 (w.heap.size+1+1+1) 0 0 0 0 (.slice none 0 0)∧Below w.heap.size w W0∧w.heap.size+1+1+1+1<W0.heap.size ∧
   (∀ i,i<3→FlAt W0 (w.heap.size+1+1+1+1) (0+i*5)):=by
 intro W0 hW
 have b0:Below w.heap.size w W0:=by subst hW;exact qBl
 have z:w.heap.size+1+1+1+1<W0.heap.size:=by subst hW;simp
 have k:Blk W0 (w.heap.size+1+1+1+1) #[.int .i64 X,.int .i64 Y,.int .i64 Wn,.int .i64 Hn,.slice (some ⟨ba,oa,none⟩) A.length ca,.int .i64 X,.int .i64 Y,.int .i64 Wn,.int .i64 Hn,.slice (some ⟨bb,ob,none⟩) B.length cb,.int .i64 X,.int .i64 Y,.int .i64 Wn,.int .i64 Hn,.slice (some ⟨bs,os,none⟩) S.length cs] 32:=by
  subst hW
  have:=Blk.new ((((w.alloc (.cells #[.int .i64 X,.int .i64 Y,.int .i64 Wn,.int .i64 Hn,.slice (some ⟨ba,oa,none⟩) A.length ca] 32)).alloc (.cells #[.int .i64 X,.int .i64 Y,.int .i64 Wn,.int .i64 Hn,.slice (some ⟨bb,ob,none⟩) B.length cb] 32)).alloc (.cells #[.int .i64 X,.int .i64 Y,.int .i64 Wn,.int .i64 Hn,.slice (some ⟨bs,os,none⟩) S.length cs] 32)).alloc (.cells #[.int .i64 0,.int .i64 0,.int .i64 0,.int .i64 0,.slice none 0 0] 32)) #[.int .i64 X,.int .i64 Y,.int .i64 Wn,.int .i64 Hn,.slice (some ⟨ba,oa,none⟩) A.length ca,.int .i64 X,.int .i64 Y,.int .i64 Wn,.int .i64 Hn,.slice (some ⟨bb,ob,none⟩) B.length cb,.int .i64 X,.int .i64 Y,.int .i64 Wn,.int .i64 Hn,.slice (some ⟨bs,os,none⟩) S.length cs] 32
  simpa using this
 refine ⟨?_,?_,?_,?_,b0,z,?_⟩
 ·subst hW;exact ((((Fld.new w X Y Wn Hn (.slice (some ⟨ba,oa,none⟩) A.length ca)).alloc _).alloc _).alloc _).alloc _
 ·subst hW
  have:=(((Fld.new (w.alloc (.cells #[.int .i64 X,.int .i64 Y,.int .i64 Wn,.int .i64 Hn,.slice (some ⟨ba,oa,none⟩) A.length ca] 32)) X Y Wn Hn (.slice (some ⟨bb,ob,none⟩) B.length cb)).alloc (.cells #[.int .i64 X,.int .i64 Y,.int .i64 Wn,.int .i64 Hn,.slice (some ⟨bs,os,none⟩) S.length cs] 32)).alloc (.cells #[.int .i64 0,.int .i64 0,.int .i64 0,.int .i64 0,.slice none 0 0] 32)).alloc (.cells #[.int .i64 X,.int .i64 Y,.int .i64 Wn,.int .i64 Hn,.slice (some ⟨ba,oa,none⟩) A.length ca,.int .i64 X,.int .i64 Y,.int .i64 Wn,.int .i64 Hn,.slice (some ⟨bb,ob,none⟩) B.length cb,.int .i64 X,.int .i64 Y,.int .i64 Wn,.int .i64 Hn,.slice (some ⟨bs,os,none⟩) S.length cs] 32)
  simpa using this
 ·subst hW
  have:=((Fld.new ((w.alloc (.cells #[.int .i64 X,.int .i64 Y,.int .i64 Wn,.int .i64 Hn,.slice (some ⟨ba,oa,none⟩) A.length ca] 32)).alloc (.cells #[.int .i64 X,.int .i64 Y,.int .i64 Wn,.int .i64 Hn,.slice (some ⟨bb,ob,none⟩) B.length cb] 32)) X Y Wn Hn (.slice (some ⟨bs,os,none⟩) S.length cs)).alloc (.cells #[.int .i64 0,.int .i64 0,.int .i64 0,.int .i64 0,.slice none 0 0] 32)).alloc (.cells #[.int .i64 X,.int .i64 Y,.int .i64 Wn,.int .i64 Hn,.slice (some ⟨ba,oa,none⟩) A.length ca,.int .i64 X,.int .i64 Y,.int .i64 Wn,.int .i64 Hn,.slice (some ⟨bb,ob,none⟩) B.length cb,.int .i64 X,.int .i64 Y,.int .i64 Wn,.int .i64 Hn,.slice (some ⟨bs,os,none⟩) S.length cs] 32)
  simpa using this
 ·subst hW
  have:=(Fld.new (((w.alloc (.cells #[.int .i64 X,.int .i64 Y,.int .i64 Wn,.int .i64 Hn,.slice (some ⟨ba,oa,none⟩) A.length ca] 32)).alloc (.cells #[.int .i64 X,.int .i64 Y,.int .i64 Wn,.int .i64 Hn,.slice (some ⟨bb,ob,none⟩) B.length cb] 32)).alloc (.cells #[.int .i64 X,.int .i64 Y,.int .i64 Wn,.int .i64 Hn,.slice (some ⟨bs,os,none⟩) S.length cs] 32)) 0 0 0 0 (.slice none 0 0)).alloc (.cells #[.int .i64 X,.int .i64 Y,.int .i64 Wn,.int .i64 Hn,.slice (some ⟨ba,oa,none⟩) A.length ca,.int .i64 X,.int .i64 Y,.int .i64 Wn,.int .i64 Hn,.slice (some ⟨bb,ob,none⟩) B.length cb,.int .i64 X,.int .i64 Y,.int .i64 Wn,.int .i64 Hn,.slice (some ⟨bs,os,none⟩) S.length cs] 32)
  simpa using this
 ·intro i hi
  clear hW
  match i,hi with
  | 0,_=>exact ⟨X,Y,Wn,Hn,ba,oa,ca,A,ra,SRow.below ha b0,k.cell 0,k.cell 1,k.cell 2,k.cell 3,k.cell 4⟩
  | 1,_=>exact ⟨X,Y,Wn,Hn,bb,ob,cb,B,rb,SRow.below hb b0,k.cell 5,k.cell 6,k.cell 7,k.cell 8,k.cell 9⟩
  | 2,_=>exact ⟨X,Y,Wn,Hn,bs,os,cs,S,rs,SRow.below hs b0,k.cell 10,k.cell 11,k.cell 12,k.cell 13,k.cell 14⟩
set_option maxRecDepth 100000 in
set_option maxHeartbeats 1000000 in
theorem blend_bad (X Y:Int) (Wn Hn:Nat) (ba oa ca bb ob cb bs os cs:Nat) (A B S:List Nat) (w:World) (ha:SRow w (some ⟨ba,oa,none⟩) A) (hb:SRow w (some ⟨bb,ob,none⟩) B) (hs:SRow w (some ⟨bs,os,none⟩) S)
  (ra:Right X Y Wn Hn A) (rb:Right X Y Wn Hn B) (rs:Right X Y Wn Hn S) (hw:S.any noWt=true) :
  Calls Tryz.prog 71 #[fldV X Y Wn Hn (some ⟨ba,oa,none⟩) A.length ca,fldV X Y Wn Hn (some ⟨bb,ob,none⟩) B.length cb,fldV X Y Wn Hn (some ⟨bs,os,none⟩) S.length cs] w fun e w'=>e=.returned (.tuple #[fldV 0 0 0 0 none 0 0,.int .i64 3])∧Below w.heap.size w w':=by
 have HS:=Lib.hid hs
 have CW:=Lib.hid (ck_world w X Y Wn Hn ba oa ca bb ob cb bs os cs A B S ha hb hs ra rb rs)
 have KC:=Lib.hid (fun w h=>contains_any 102 #[] noWt (some ⟨bs,os,none⟩) cs S w h (enters_of Tryz.func102 (by kernel_rfl) rfl) (fun x=>noWtfn_any x w))
 rw [hw] at KC
 clear ha hb hs ra rb rs hw
 go_enter Tryz.func71,Tryz.ntmps71
 go_wp2_with fail
 generalize hW0:((((w.alloc (.cells #[.int .i64 X,.int .i64 Y,.int .i64 Wn,.int .i64 Hn,.slice (some ⟨ba,oa,none⟩) A.length ca] 32)).alloc (.cells #[.int .i64 X,.int .i64 Y,.int .i64 Wn,.int .i64 Hn,.slice (some ⟨bb,ob,none⟩) B.length cb] 32)).alloc (.cells #[.int .i64 X,.int .i64 Y,.int .i64 Wn,.int .i64 Hn,.slice (some ⟨bs,os,none⟩) S.length cs] 32)).alloc (.cells #[.int .i64 0,.int .i64 0,.int .i64 0,.int .i64 0,.slice none 0 0] 32)).alloc (.cells #[.int .i64 X,.int .i64 Y,.int .i64 Wn,.int .i64 Hn,.slice (some ⟨ba,oa,none⟩) A.length ca,.int .i64 X,.int .i64 Y,.int .i64 Wn,.int .i64 Hn,.slice (some ⟨bb,ob,none⟩) B.length cb,.int .i64 X,.int .i64 Y,.int .i64 Wn,.int .i64 Hn,.slice (some ⟨bs,os,none⟩) S.length cs] 32)=W0
 obtain ⟨EA,EB,ES,EZ,B0,z0,hfl⟩:=CW.out W0 hW0.symm
 clear hW0 CW
 refine (checkall_any _ 0 3 3 _ z0 (by omega) hfl).mono ?_
 rintro e w1 ⟨rfl,b1⟩
 have HEA:=Lib.hid (EA.below b1 EA.lt)
 have HEB:=Lib.hid (EB.below b1 EB.lt)
 have HES:=Lib.hid (ES.below b1 ES.lt)
 have HEZ:=Lib.hid (EZ.below b1 EZ.lt)
 have HB1:=Lib.hid (B0.trans (b1.mono B0.size))
 clear EA EB ES EZ B0 z0 hfl b1
 obtain ⟨a0,a1,a2,a3,a4⟩:=HEA.out.cells
 obtain ⟨b0,b1,b2,b3,b4⟩:=HEB.out.cells
 obtain ⟨s0,s1,s2,s3,s4⟩:=HES.out.cells
 have l3:w.heap.size+1+1+1<w1.heap.size:=HEZ.out.lt
 have l2:w.heap.size+1+1<w1.heap.size:=by omega
 have l1:w.heap.size+1<w1.heap.size:=by omega
 have l0:w.heap.size<w1.heap.size:=by omega
 have kn:=fun w=>neqReg X Y Wn Hn X Y Wn Hn w
 have kg:=fun x y w=>eqGuardReg .neq x y X Y Wn Hn X Y Wn Hn w
 go_wp2_with fail
 refine (KC.out _ (HS.out.below HB1.out)).mono ?_
 rintro e w2 ⟨rfl,rfl⟩
 clear a0 a1 a2 a3 a4 b0 b1 b2 b3 b4 s0 s1 s2 s3 s4 kn kg
 obtain ⟨d0,d1,d2,d3,d4⟩:=HEZ.out.cells
 have qf0:=HEZ.out.frozen 0
 have qf1:=HEZ.out.frozen 1
 have qf2:=HEZ.out.frozen 2
 have qf3:=HEZ.out.frozen 3
 have qf4:=HEZ.out.frozen 4
 go_wp2_with fail
 have B3:=HB1.out
 exact bodyPost_ret (v:=.tuple #[fldV 0 0 0 0 none 0 0,.int .i64 3]) (by simp [results,Tryz.results71,go_sem, *]) rfl ⟨rfl,(qBo B3)⟩
end Go.Proofs.YtmggflgdoioajaaGreat
