import Derived.Test.YtmggflgdoioajaaGreatG04
import Derived.OwnWalk
import Derived.StillTailTactics
import Derived.Deep.RegionHeld3
import Derived.BigQuiet
import Derived.Deep.QuietTactic
import Derived.Deep.AppendLies
import Derived.WalkLawsBesides
set_option linter.unusedSimpArgs false
set_option linter.unusedVariables false
namespace Go.Proofs.YtmggflgdoioajaaGreat
open Go.ChangeShapes Go.WideShapes Go.ChangeAt Go.RowKit
open Ieee.Format (fin finE htE allFin allHt all_true all_false finE_ok finE_bad htE_ok htE_far htE_bad mulF subF addF)
structure MakeInv (w wr:World) (k5:Nat) (X Y W H:Int) (v:Value) (m:List Nat):Prop where
 rg:Reg wr w.heap.size X Y W H
 rz:Fld wr (w.heap.size+1) 0 0 0 0 (.slice none 0 0)
 fo:Fld wr k5 X Y W H v
 k5g:w.heap.size+2≤k5
 ne:v.ownBlock≠some k5
 own:wr.ownsRow (w.heap.size+2) 48 1 v m.length (fls m)
 wf:∀ x∈m,x<4294967296
 below:Below w.heap.size w wr
theorem MakeInv.call {w wr w2:World} {k5:Nat} {X Y W H:Int} {v:Value} {m:List Nat} (h:MakeInv w wr k5 X Y W H v m) (hb:Below wr.drew.heap.size wr.drew w2):MakeInv w w2 k5 X Y W H v m:=
 ⟨h.rg.drew.below hb h.rg.lt,h.rz.drew.below hb h.rz.lt,h.fo.drew.below hb h.fo.lt,h.k5g,h.ne,ownsRow_below (w:=wr.drew) h.own hb (fun k hk=>(h.own.lt k hk).2),h.wf,
  (h.below.drew).trans (hb.mono (show w.heap.size≤wr.heap.size from h.below.size))⟩
theorem MakeInv.mid {w w2 w3:World} {k5:Nat} {X Y W H:Int} {v:Value} {m:List Nat} {o:Obj} (h:MakeInv w w2 k5 X Y W H v m) (hg:(w2.alloc o).grownBy w3 v.ownBlock) :
  Reg w3 w.heap.size X Y W H∧Fld w3 (w.heap.size+1) 0 0 0 0 (.slice none 0 0)∧Fld w3 k5 X Y W H v∧Below w.heap.size w w3:=by
 have hne:∀ k,k<w.heap.size+2→some k≠v.ownBlock:=fun k hk e=>by
  have:=(h.own.lt k e.symm).1;omega
 refine ⟨(h.rg.alloc o).grown hg (hne _ (by omega)),(h.rz.alloc o).grown hg (hne _ (by omega)),(h.fo.alloc o).grown hg (fun e=>h.ne e.symm),?_⟩
 have hz:=h.below.size
 refine (h.below.alloc hz o).grown hg (by simp;omega) (fun k hk=>?_)
 have:=(h.own.lt k hk).1
 omega
theorem MakeInv.app {w w2 w3:World} {k5:Nat} {X Y W H:Int} {v:Value} {m:List Nat} {o:Obj} (h:MakeInv w w2 k5 X Y W H v m) {y g cap:Nat} (hy:y<4294967296)
  (hown:w3.ownsRow (w.heap.size+2) 48 1 (.slice (some ⟨g,0,none⟩) (m.length+1) cap) (m.length+1) (fls m ++ [.float .f32 y])) (hg:(w2.alloc o).grownBy w3 v.ownBlock) (hgk:g≠k5) :
  MakeInv w (w3.setCell ⟨k5,4,none⟩ (.slice (some ⟨g,0,none⟩) (m.length+1) cap)) k5 X Y W H (.slice (some ⟨g,0,none⟩) (m.length+1) cap) (m ++ [y]):=by
 obtain ⟨a,b,c,d⟩:=h.mid hg
 have hgl:=(hown.lt g rfl).1
 have hk5:=h.k5g
 refine ⟨a.setCell (by show w.heap.size≠k5;omega) _,b.setCell (by show w.heap.size+1≠k5;omega) _,c.set4 _,hk5,(by simp [Value.ownBlock];exact hgk),?_,?_,d.setCell (by show w.heap.size≤k5;omega) _⟩
 ·exact qx48
 ·exact qx62
end Go.Proofs.YtmggflgdoioajaaGreat
namespace Go.Proofs.YtmggflgdoioajaaGreat
open Go.ChangeShapes Go.WideShapes Go.ChangeAt Go.RowKit
open Ieee.Format (fin finE htE allFin allHt all_true all_false finE_ok finE_bad htE_ok htE_far htE_bad mulF subF addF)
set_option maxRecDepth 100000 in
theorem make_law (i0:TypeInfo) (hi:Tryz.prog.info? 48=some i0) (hz0:i0.zero=some (.float .f32 0)) (hz1:i0.size=1) (hz2:i0.bytes=4) (n:Nat) (hn:n≤262144) :
  ∃ o:Obj,(∀ w:World,(Instr.makeSlice 30 (.int .i64 0) (.int .i64 (n:Int))).run Tryz.prog w=.ok (.slice (some ⟨w.heap.size,0,none⟩) 0 n) (w.alloc o)) ∧
   ∀ (w:World) (B:Nat),B≤w.heap.size→(w.alloc o).ownsRow B 48 1 (.slice (some ⟨w.heap.size,0,none⟩) 0 n) 0 []:=by
 refine ⟨.cells (madeCells (Value.cells (.float .f32 0)) (n*i0.size)) 48,fun w=>?_,fun w B hB=>?_⟩
 ·have hr:=run_make (P:=Tryz.prog) w 30 48 i0 (.float .f32 0) (by rfl) hi hz0 .i64 .i64 0 n (Int.le_refl _) (by omega) (by rw [hz2];omega) (by omega)
  simp only [Int.toNat_zero,Int.toNat_natCast] at hr
  exact hr
 ·rw [hz1]
  exact World.ownsRow_made w _ n hB (by unfold maxLen;omega) (size_madeCells _ _)
theorem make_start1 (w:World) (X Y W H:Int) (oM:Obj) (n:Nat) (hm:∀ (w:World) (B:Nat),B≤w.heap.size→(w.alloc oM).ownsRow B 48 1 (.slice (some ⟨w.heap.size,0,none⟩) 0 n) 0 []) :
  ∀ W0,W0=((((w.alloc (.cells #[.int .i64 X,.int .i64 Y,.int .i64 W,.int .i64 H] 26)).alloc (.cells #[.int .i64 0,.int .i64 0,.int .i64 0,.int .i64 0,.slice none 0 0] 32)).alloc (.cells #[.int .i64 X,.int .i64 Y,.int .i64 W,.int .i64 H,.slice (some ⟨w.heap.size+1+1+1,0,none⟩) 0 n] 32)).alloc oM) →
  MakeInv w W0 (w.heap.size+1+1) X Y W H (.slice (some ⟨w.heap.size+1+1+1,0,none⟩) 0 n) []:=by
 rintro _ rfl
 refine ⟨(((Reg.new w X Y W H).alloc _).alloc _).alloc _,?_,?_,by omega,by simp [Value.ownBlock],?_,by simp,qBl⟩
 ·have:=((Fld.new (w.alloc (.cells #[.int .i64 X,.int .i64 Y,.int .i64 W,.int .i64 H] 26)) 0 0 0 0 (.slice none 0 0)).alloc (.cells #[.int .i64 X,.int .i64 Y,.int .i64 W,.int .i64 H,.slice (some ⟨w.heap.size+1+1+1,0,none⟩) 0 n] 32)).alloc oM
  simpa using this
 ·have:=(Fld.new ((w.alloc (.cells #[.int .i64 X,.int .i64 Y,.int .i64 W,.int .i64 H] 26)).alloc (.cells #[.int .i64 0,.int .i64 0,.int .i64 0,.int .i64 0,.slice none 0 0] 32)) X Y W H (.slice (some ⟨w.heap.size+1+1+1,0,none⟩) 0 n)).alloc oM
  simpa using this
 ·have:=hm (((w.alloc (.cells #[.int .i64 X,.int .i64 Y,.int .i64 W,.int .i64 H] 26)).alloc (.cells #[.int .i64 0,.int .i64 0,.int .i64 0,.int .i64 0,.slice none 0 0] 32)).alloc (.cells #[.int .i64 X,.int .i64 Y,.int .i64 W,.int .i64 H,.slice (some ⟨w.heap.size+1+1+1,0,none⟩) 0 n] 32)) (w.heap.size+2) (by simp)
  simpa [fls] using this
theorem make_start2 (w:World) (X Y W H:Int) (oM:Obj) (n:Nat) (hm:∀ (w:World) (B:Nat),B≤w.heap.size→(w.alloc oM).ownsRow B 48 1 (.slice (some ⟨w.heap.size,0,none⟩) 0 n) 0 []) :
  ∀ W0,W0=((((w.alloc (.cells #[.int .i64 X,.int .i64 Y,.int .i64 W,.int .i64 H] 26)).alloc (.cells #[.int .i64 0,.int .i64 0,.int .i64 0,.int .i64 0,.slice none 0 0] 32)).alloc oM).alloc (.cells #[.int .i64 X,.int .i64 Y,.int .i64 W,.int .i64 H,.slice (some ⟨w.heap.size+1+1,0,none⟩) 0 n] 32)) →
  MakeInv w W0 (w.heap.size+1+1+1) X Y W H (.slice (some ⟨w.heap.size+1+1,0,none⟩) 0 n) []:=by
 rintro _ rfl
 refine ⟨(((Reg.new w X Y W H).alloc _).alloc _).alloc _,?_,?_,by omega,by simp [Value.ownBlock],?_,by simp,qBl⟩
 ·have:=((Fld.new (w.alloc (.cells #[.int .i64 X,.int .i64 Y,.int .i64 W,.int .i64 H] 26)) 0 0 0 0 (.slice none 0 0)).alloc oM).alloc (.cells #[.int .i64 X,.int .i64 Y,.int .i64 W,.int .i64 H,.slice (some ⟨w.heap.size+1+1,0,none⟩) 0 n] 32)
  simpa using this
 ·have:=Fld.new (((w.alloc (.cells #[.int .i64 X,.int .i64 Y,.int .i64 W,.int .i64 H] 26)).alloc (.cells #[.int .i64 0,.int .i64 0,.int .i64 0,.int .i64 0,.slice none 0 0] 32)).alloc oM) X Y W H (.slice (some ⟨w.heap.size+1+1,0,none⟩) 0 n)
  simpa using this
 ·have h:=hm ((w.alloc (.cells #[.int .i64 X,.int .i64 Y,.int .i64 W,.int .i64 H] 26)).alloc (.cells #[.int .i64 0,.int .i64 0,.int .i64 0,.int .i64 0,.slice none 0 0] 32)) (w.heap.size+2) (by simp)
  have:=World.ownsRow.alloc h (.cells #[.int .i64 X,.int .i64 Y,.int .i64 W,.int .i64 H,.slice (some ⟨w.heap.size+1+1,0,none⟩) 0 n] 32)
  simpa [fls] using this
theorem MakeInv.drew {w wr:World} {k5:Nat} {X Y W H:Int} {v:Value} {m:List Nat} (h:MakeInv w wr k5 X Y W H v m):MakeInv w wr.drew k5 X Y W H v m:=
 ⟨h.rg,h.rz,h.fo,h.k5g,h.ne,h.own,h.wf,h.below.drew⟩
def MakeP (X Y W H:Int) (m:List Nat) (w:World) (e:Ending) (w':World):Prop:=
 (∃ g cap,e=.returned (fldV X Y W H (some ⟨g,0,none⟩) m.length cap)∧OwnF w' w.heap.size g cap m)∧Below w.heap.size w w'
set_option maxRecDepth 100000 in
set_option maxHeartbeats 4000000 in
theorem make_any (gn:Nat) (caps:Array Value) (ψ:Int→Int→Nat) (X Y:Int) (Wn Hn:Nat) (w:World) (h1:1≤Wn) (h2:Wn≤512) (h3:1≤Hn) (h4:Hn≤512)
    (h5:-8388608≤X) (h6:X≤8388608) (h7:-8388608≤Y) (h8:Y≤8388608)
    (eg:∀ args w,(callFunc gn args).run Tryz.prog w=.ok (.enter gn args) w)
    (hψ:∀ x y,X≤x→x<X+Wn→Y≤y→y<Y+Hn→ψ x y<4294967296)
    (hf:∀ x y,X≤x→x<X+Wn→Y≤y→y<Y+Hn→∀ W',Below w.heap.size w W'→Calls Tryz.prog gn (#[.int .i64 x,.int .i64 y] ++ caps) W' fun e w'=>e=.returned (.float .f32 (ψ x y))∧Below W'.heap.size W' w') :
    Calls Tryz.prog 89 #[reg X Y Wn Hn,.func (.func gn) #[] caps] w fun e w'=>MakeP X Y Wn Hn (madeL ψ X Y Wn (Hn*Wn)) w e w':=by
  have HF:=Lib.hid hf
  have HP:=Lib.hid hψ
  clear hf hψ
  obtain ⟨i0,hi,hz0,hz1,hz2⟩:=info_parts info24
  obtain ⟨n,hn,hn2,hn3⟩:∃ n:Nat,IntKind.i64.wrap ((Wn:Int)*(Hn:Int))=(n:Int)∧n=Hn*Wn∧n≤262144:=by
    exact qx65
  have HN:=Lib.hid hn2
  clear hn2
  obtain ⟨oM,hmk,hMO⟩:=make_law i0 hi hz0 hz1 hz2 n hn3
  have HMO:=Lib.hid hMO
  clear hMO
  go_enter Tryz.func89,Tryz.ntmps89
  go_wp2_with fail
  go_region
  all_goals
    first
      | (obtain ⟨W0,hW0⟩:∃ W0:World,(((w.alloc (.cells #[.int .i64 X,.int .i64 Y,.int .i64 (Wn:Int),.int .i64 (Hn:Int)] 26)).alloc (.cells #[.int .i64 0,.int .i64 0,.int .i64 0,.int .i64 0,.slice none 0 0] 32)).alloc (.cells #[.int .i64 X,.int .i64 Y,.int .i64 Wn,.int .i64 Hn,.slice (some ⟨w.heap.size+1+1+1,0,none⟩) 0 n] 32)).alloc oM=W0:=⟨_,rfl⟩
         rw [hW0]
         have I0:=(make_start1 w X Y Wn Hn oM n HMO.out W0 hW0.symm).drew
         have hk5:=Lib.hid I0.k5g
         generalize w.heap.size+1+1=k5 at *)
      | (obtain ⟨W0,hW0⟩:∃ W0:World,(((w.alloc (.cells #[.int .i64 X,.int .i64 Y,.int .i64 (Wn:Int),.int .i64 (Hn:Int)] 26)).alloc (.cells #[.int .i64 0,.int .i64 0,.int .i64 0,.int .i64 0,.slice none 0 0] 32)).alloc oM).alloc (.cells #[.int .i64 X,.int .i64 Y,.int .i64 Wn,.int .i64 Hn,.slice (some ⟨w.heap.size+1+1,0,none⟩) 0 n] 32)=W0:=⟨_,rfl⟩
         rw [hW0]
         have I0:=(make_start2 w X Y Wn Hn oM n HMO.out W0 hW0.symm).drew
         have hk5:=Lib.hid I0.k5g
         generalize w.heap.size+1+1+1=k5 at *)
    clear hW0
    generalize W0.drew=W1 at *
    clear HMO hmk hn
    obtain ⟨q0,q1,q2,q3⟩:=I0.rg.cells
    go_wp2_with fail
    clear q0 q1 q2 q3
    go_loopw [6,7] (fun vy _ wr=>∃ j:Nat,j≤Hn∧vy=.int .i64 (Y+j)∧∃ v,MakeInv w wr k5 X Y Wn Hn v (madeL ψ X Y Wn (j*Wn))) (fun vy _ _=>(Y+Hn-intOf vy).toNat)
    case atStart=>exact ⟨0,by omega,by simp,_,by rw [Nat.zero_mul];exact I0⟩
    case round =>
      clear I0
      obtain ⟨j,hj,rfl,v,I⟩:=hrel
      have IH:=Lib.hid I
      obtain ⟨r0,r1,r2,r3⟩:=I.rg.cells
      clear I
      by_cases hlt:j<Hn
      · have b1:(Y+j:Int)<Y+Hn:=by omega
        go_wp2
        obtain ⟨wo,rfl⟩:∃ wo:World,wo=wr:=⟨_,rfl⟩
        clear r0 r1 r2 r3 hj
        go_loopw [7] (fun vx wi=>∃ i:Nat,i≤Wn∧vx=.int .i64 (X+i)∧∃ v,MakeInv w wi k5 X Y Wn Hn v (madeL ψ X Y Wn (j*Wn+i))) (fun vx _=>(X+Wn-intOf vx).toNat)
        case atStart=>exact ⟨0,by omega,by simp,v,by rw [Nat.add_zero];exact IH.out⟩
        case round =>
          clear IH v
          obtain ⟨i,hi',rfl,v,I⟩:=hrel
          obtain ⟨r0,r1,r2,r3⟩:=I.rg.cells
          have c4:=I.fo.cells.2.2.2.2
          have IH:=Lib.hid I
          clear I
          by_cases hlt2:i<Wn
          · have b2:(X+i:Int)<X+Wn:=by omega
            have HC:Hid (∀ W',Below w.heap.size w W'→Calls Tryz.prog gn (#[.int .i64 (X+(i:Int)),.int .i64 (Y+(j:Int))] ++ caps) W' fun e w'=>e=.returned (.float .f32 (ψ (X+(i:Int)) (Y+(j:Int))))∧Below W'.heap.size W' w'):=HF.out _ _ (by omega) (by omega) (by omega) (by omega)
            have HY:Hid (ψ (X+(i:Int)) (Y+(j:Int))<4294967296):=HP.out _ _ (by omega) (by omega) (by omega) (by omega)
            have HM:Hid (madeL ψ X Y Wn (j*Wn+i) ++ [ψ (X+(i:Int)) (Y+(j:Int))]=madeL ψ X Y Wn (j*Wn+(i+1))):=(madeL_succ ψ X Y Wn i j hlt2).symm
            have hml:(madeL ψ X Y Wn (j*Wn+i)).length≤262656:=by
              rw [madeL_len]
              have:=Nat.mul_le_mul (show j≤512 by omega) h2
              omega
            generalize madeL ψ X Y Wn (j*Wn+i)=m at *
            generalize ψ (X+(i:Int)) (Y+(j:Int))=y0 at *
            have HB:=Lib.hid IH.out.below
            have G1:Hid (m.length+1≤maxLen):=by unfold maxLen Hid;omega
            have G2:Hid ((m.length+1)*4≤140737488355328):=by unfold Hid;omega
            go_wp2_with fail
            go_region_law (first
              | (refine step_append_lies _ (by rfl) _ _ _ (by rfl) (w.heap.size+2) 48 i0 (.float .f32 0) 1 4 Tryz.underlying30 hi hz0 hz1 hz2 rfl (by omega) v m.length (fls m) (by rfl) (I2.out.own.alloc _) ⟨w2.heap.size,0,none⟩ 1 1 [.float .f32 y0] (by rfl) (by rfl) (World.news_of_block (cs:=#[.float .f32 y0]) (t:=48) (fr:=(0,0)) (heap_alloc_new w2 _)) (by simp [Value.oneCell']) (by omega) G1.out G2.out G3.out (w2.heap.size+1) (by simp) ?_;intro gg cap w3 hown3 hgrow3 hat3 hlt3;obtain ⟨e1,e2,e3,e4⟩:=I2.out.mid hgrow3;have e5:=e3.cells.2.2.2.2;have e6:=e3.frozen 4;have hgk:gg≠k5:=(by rcases hat3 with h|h;exact (fun e=>I2.out.ne (e ▸ h));exact (fun e=>by have:=lzz.out;omega));have M3:=Lib.hid (I2.out.app HY.out hown3 hgrow3 hgk);clear e1 e2 e3 e4 hown3 hgrow3 hat3 hlt3 hgk)
              | (go_simp;go_at_fn gn;refine (HC.out _ HB.out.drew).mono ?_;rintro e2 w2 ⟨rfl,hb⟩;have I2:=Lib.hid (IH.out.call hb);have G3:Hid (w.heap.size+2≤(w2.alloc (.cells #[.float .f32 y0] 48)).heap.size):=(by have:=I2.out.fo.lt;have:=I2.out.k5g;unfold Hid;simp;omega);have d4:=I2.out.fo.cells.2.2.2.2;have lz:k5<w2.heap.size:=I2.out.fo.lt;have lzz:=Lib.hid lz;clear hb))
            all_goals
              go_wp2
              go_roundw
              case rel=>exact ⟨i+1,by omega,by go_num,_,HM.out ▸ M3.out⟩
              case measure=>simp [intOf];omega
          · have HE:Hid (j*Wn+i=(j+1)*Wn):=by
              have:i=Wn:=by omega
              unfold Hid;rw [this,Nat.add_mul,Nat.one_mul]
            exact qx50
      · have HE:Hid (j*Wn=Hn*Wn):=by
          have:j=Hn:=by omega
          unfold Hid;rw [this]
        have IH2:Hid (MakeInv w wr k5 X Y Wn Hn v (madeL ψ X Y Wn (Hn*Wn))):=HE.out ▸ IH.out
        clear IH
        have hml:Hid ((madeL ψ X Y Wn (Hn*Wn)).length=Hn*Wn):=madeL_len _ _ _ _ _
        have hm1:Hid (1≤Hn*Wn):=Nat.mul_le_mul h3 h1
        generalize hmq:madeL ψ X Y Wn (Hn*Wn)=m at *
        have HMQ:=Lib.hid hmq
        clear hmq
        obtain ⟨g,cap,rfl,hown⟩:∃ g cap,v=.slice (some ⟨g,0,none⟩) m.length cap∧OwnF wr w.heap.size g cap m:=by
          have ho:=IH2.out.own
          exact qx54
        have HO:=Lib.hid hown
        have hgk:Hid (w.heap.size+2≤g):=(IH2.out.own.lt g rfl).1
        clear hown
        obtain ⟨c0,c1,c2,c3,c4⟩:=IH2.out.fo.cells
        have FB:=IH2.out.rz
        obtain ⟨d0,d1,d2,d3,d4⟩:=FB.cells
        have qf0:=FB.frozen 0
        have qf1:=FB.frozen 1
        have qf2:=FB.frozen 2
        have qf3:=FB.frozen 3
        have qf4:=FB.frozen 4
        clear FB
        have HB:=Lib.hid IH2.out.below
        clear IH2
        go_wp2
        obtain rfl:=HMQ.out
        have B2:=HB.out
        have O2:=HO.out
        have hgk2:=hgk.out
        refine bodyPost_ret (v:=fldV X Y Wn Hn (some ⟨g,0,none⟩) (madeL ψ X Y Wn (Hn*Wn)).length cap) (by simp [results,Tryz.results89,go_sem, *]) rfl ⟨⟨g,cap,rfl,(by have hgg:=O2.lt;repeat (first|with_reducible exact O2|with_reducible refine OwnF.drew ?_|with_reducible refine OwnF.drewN ?_ _|(with_reducible refine OwnF.setCell ?_ ?_ _;rotate_left;focus (first|omega|(simp<;>omega)))|with_reducible refine OwnF.alloc ?_ _))⟩,(qBo B2)⟩
end Go.Proofs.YtmggflgdoioajaaGreat
namespace Go.Proofs.YtmggflgdoioajaaGreat
open Go.ChangeShapes Go.WideShapes Go.ChangeAt Go.RowKit
open Ieee.Format (fin finE htE allFin allHt all_true all_false finE_ok finE_bad htE_ok htE_far htE_bad mulF subF addF)
structure But (B:Nat) (q:Nat→Prop) (w w':World):Prop where
 os:w'.os=w.os
 tape:w'.tape=w.tape
 output:w'.output=w.output
 size:w.heap.size≤w'.heap.size
 block:∀ k,k<B→¬ q k→w'.heap[k]?=w.heap[k]?
theorem But.of {B:Nat} {q:Nat→Prop} {w w':World} (h:Below B w w'):But B q w w':=⟨h.os,h.tape,h.output,h.size,fun k hk _=>h.block k hk⟩
theorem But.trans {B:Nat} {q:Nat→Prop} {a b c:World} (h:But B q a b) (k:But B q b c):But B q a c:=
 ⟨k.os.trans h.os,k.tape.trans h.tape,k.output.trans h.output,Nat.le_trans h.size k.size,fun i hi hq=>(k.block i hi hq).trans (h.block i hi hq)⟩
theorem But.mono {B B':Nat} {q:Nat→Prop} {w w':World} (h:But B q w w') (hB:B'≤B):But B' q w w':=⟨h.os,h.tape,h.output,h.size,fun k hk hq=>h.block k (Nat.lt_of_lt_of_le hk hB) hq⟩
theorem But.cell {B:Nat} {q:Nat→Prop} {w w':World} (h:But B q w w') {p:Addr} (hp:p.block<B) (hq:¬ q p.block):w'.cell? p=w.cell? p:=by
 have hb:=h.block p.block hp hq
 exact World.cell?_of_block hb
structure MakeSt (q:Nat→Prop) (J:World→Prop) (w wr:World) (k5:Nat) (X Y W H:Int) (v:Value) (m:List Nat):Prop where
 rg:Reg wr w.heap.size X Y W H
 rz:Fld wr (w.heap.size+1) 0 0 0 0 (.slice none 0 0)
 fo:Fld wr k5 X Y W H v
 k5g:w.heap.size+2≤k5
 ne:v.ownBlock≠some k5
 own:wr.ownsRow (w.heap.size+2) 48 1 v m.length (fls m)
 wf:∀ x∈m,x<4294967296
 below:But w.heap.size q w wr
 st:J wr
theorem MakeSt.call {q:Nat→Prop} {J J':World→Prop} {w wr w2:World} {k5:Nat} {X Y W H:Int} {v:Value} {m:List Nat} (h:MakeSt q J w wr k5 X Y W H v m) (hq:∀ k,q k→k<w.heap.size) (hb:But wr.drew.heap.size q wr.drew w2) (hj:J' w2):MakeSt q J' w w2 k5 X Y W H v m:=by
 have hne:∀ k,w.heap.size≤k→¬ q k:=fun k hk e=>by have:=hq k e;omega
 have hk:=h.k5g
 refine ⟨(hb.block _ h.rg.drew.lt (hne _ (by omega))).trans h.rg,(hb.block _ h.rz.drew.lt (hne _ (by omega))).trans h.rz,(hb.block _ h.fo.drew.lt (hne _ (by omega))).trans h.fo,h.k5g,h.ne,?_,h.wf,?_,hj⟩
 ·refine ⟨h.own.1,?_⟩
  rcases h.own.2 with h2|⟨g,cap,cur,rfl,hB,hh,r⟩
  ·exact .inl h2
  ·exact .inr ⟨g,cap,cur,rfl,hB,(hb.block g (h.own.lt g rfl).2 (hne _ (by omega))).trans hh,r⟩
 ·exact h.below.trans ((But.of (Below.refl _ _).drew).trans (hb.mono (show w.heap.size≤wr.heap.size from h.below.size)))
theorem MakeSt.mid {q:Nat→Prop} {J:World→Prop} {w w2 w3:World} {k5:Nat} {X Y W H:Int} {v:Value} {m:List Nat} {o:Obj} (h:MakeSt q J w w2 k5 X Y W H v m) (hst:∀ W W',w.heap.size≤W.heap.size→J W→Below w.heap.size W W'→J W') (hg:(w2.alloc o).grownBy w3 v.ownBlock) :
  Reg w3 w.heap.size X Y W H∧Fld w3 (w.heap.size+1) 0 0 0 0 (.slice none 0 0)∧Fld w3 k5 X Y W H v∧But w.heap.size q w w3∧J w3:=by
 have hne:∀ k,k<w.heap.size+2→some k≠v.ownBlock:=fun k hk e=>by
  have:=(h.own.lt k e.symm).1;omega
 have hz:=h.below.size
 have hb:Below w.heap.size w2 w3:=by
  refine ((Below.refl w.heap.size w2).alloc hz o).grown hg (by simp;omega) (fun k hk=>?_)
  have:=(h.own.lt k hk).1
  omega
 exact ⟨(h.rg.alloc o).grown hg (hne _ (by omega)),(h.rz.alloc o).grown hg (hne _ (by omega)),(h.fo.alloc o).grown hg (fun e=>h.ne e.symm),h.below.trans (But.of hb),hst _ _ hz h.st hb⟩
theorem MakeSt.app {q:Nat→Prop} {J:World→Prop} {w w2 w3:World} {k5:Nat} {X Y W H:Int} {v:Value} {m:List Nat} {o:Obj} (h:MakeSt q J w w2 k5 X Y W H v m) (hst:∀ W W',w.heap.size≤W.heap.size→J W→Below w.heap.size W W'→J W') {y g cap:Nat} (hy:y<4294967296)
  (hown:w3.ownsRow (w.heap.size+2) 48 1 (.slice (some ⟨g,0,none⟩) (m.length+1) cap) (m.length+1) (fls m ++ [.float .f32 y])) (hg:(w2.alloc o).grownBy w3 v.ownBlock) (hgk:g≠k5) :
  MakeSt q J w (w3.setCell ⟨k5,4,none⟩ (.slice (some ⟨g,0,none⟩) (m.length+1) cap)) k5 X Y W H (.slice (some ⟨g,0,none⟩) (m.length+1) cap) (m ++ [y]):=by
 obtain ⟨a,b,c,d,e⟩:=h.mid hst hg
 have hgl:=(hown.lt g rfl).1
 have hk5:=h.k5g
 refine ⟨a.setCell (by show w.heap.size≠k5;omega) _,b.setCell (by show w.heap.size+1≠k5;omega) _,c.set4 _,hk5,(by simp [Value.ownBlock];exact hgk),?_,?_,d.trans (But.of (Below.setCell (Below.refl _ _) (by show w.heap.size≤k5;omega) _)),hst _ _ d.size e (Below.setCell (Below.refl _ _) (by show w.heap.size≤k5;omega) _)⟩
 ·exact qx48
 ·exact qx62
theorem MakeInv.state {w wr:World} {k5:Nat} {X Y W H:Int} {v:Value} {m:List Nat} (h:MakeInv w wr k5 X Y W H v m) (q:Nat→Prop) (J:World→Prop) (hj:J wr):MakeSt q J w wr k5 X Y W H v m:=
 ⟨h.rg,h.rz,h.fo,h.k5g,h.ne,h.own,h.wf,But.of h.below,hj⟩
def MakeSP (q:Nat→Prop) (J:World→Prop) (X Y W H:Int) (m:List Nat) (w:World) (e:Ending) (w':World):Prop:=
 (∃ g cap,e=.returned (fldV X Y W H (some ⟨g,0,none⟩) m.length cap)∧OwnF w' w.heap.size g cap m)∧But w.heap.size q w w'∧J w'
set_option maxRecDepth 100000 in
set_option maxHeartbeats 4000000 in
theorem make_st (gn:Nat) (caps:Array Value) (q:Nat→Prop) (J:Nat→World→Prop) (ψ:Int→Int→Nat) (X Y:Int) (Wn Hn:Nat) (w:World) (h1:1≤Wn) (h2:Wn≤512) (h3:1≤Hn) (h4:Hn≤512)
    (h5:-8388608≤X) (h6:X≤8388608) (h7:-8388608≤Y) (h8:Y≤8388608)
    (eg:∀ args w,(callFunc gn args).run Tryz.prog w=.ok (.enter gn args) w)
    (hq:∀ k,q k→k<w.heap.size) (j0:J 0 w) (hst:∀ n W W',w.heap.size≤W.heap.size→J n W→Below w.heap.size W W'→J n W')
    (hψ:∀ x y,X≤x→x<X+Wn→Y≤y→y<Y+Hn→ψ x y<4294967296)
    (hf:∀ i j:Nat,i<Wn→j<Hn→∀ W',But w.heap.size q w W'→J (j*Wn+i) W'→Calls Tryz.prog gn (#[.int .i64 (X+(i:Int)),.int .i64 (Y+(j:Int))] ++ caps) W' fun e w'=>e=.returned (.float .f32 (ψ (X+(i:Int)) (Y+(j:Int))))∧But W'.heap.size q W' w'∧J (j*Wn+i+1) w') :
    Calls Tryz.prog 89 #[reg X Y Wn Hn,.func (.func gn) #[] caps] w fun e w'=>MakeSP q (J (Hn*Wn)) X Y Wn Hn (madeL ψ X Y Wn (Hn*Wn)) w e w':=by
  have HF:=Lib.hid hf
  have HP:=Lib.hid hψ
  have HST:=Lib.hid hst
  have HQ:=Lib.hid hq
  have HJ0:=Lib.hid j0
  clear hf hψ hst hq j0
  obtain ⟨i0,hi,hz0,hz1,hz2⟩:=info_parts info24
  obtain ⟨n,hn,hn2,hn3⟩:∃ n:Nat,IntKind.i64.wrap ((Wn:Int)*(Hn:Int))=(n:Int)∧n=Hn*Wn∧n≤262144:=by
    exact qx65
  have HN:=Lib.hid hn2
  clear hn2
  obtain ⟨oM,hmk,hMO⟩:=make_law i0 hi hz0 hz1 hz2 n hn3
  have HMO:=Lib.hid hMO
  clear hMO
  go_enter Tryz.func89,Tryz.ntmps89
  go_wp2_with fail
  go_region
  all_goals
    first
      | (obtain ⟨W0,hW0⟩:∃ W0:World,(((w.alloc (.cells #[.int .i64 X,.int .i64 Y,.int .i64 (Wn:Int),.int .i64 (Hn:Int)] 26)).alloc (.cells #[.int .i64 0,.int .i64 0,.int .i64 0,.int .i64 0,.slice none 0 0] 32)).alloc (.cells #[.int .i64 X,.int .i64 Y,.int .i64 Wn,.int .i64 Hn,.slice (some ⟨w.heap.size+1+1+1,0,none⟩) 0 n] 32)).alloc oM=W0:=⟨_,rfl⟩
         rw [hW0]
         have I0':=(make_start1 w X Y Wn Hn oM n HMO.out W0 hW0.symm).drew
         have I0:=I0'.state q (J 0) (HST.out 0 _ _ (Nat.le_refl _) HJ0.out I0'.below)
         clear I0'
         have hk5:=Lib.hid I0.k5g
         generalize w.heap.size+1+1=k5 at *)
      | (obtain ⟨W0,hW0⟩:∃ W0:World,(((w.alloc (.cells #[.int .i64 X,.int .i64 Y,.int .i64 (Wn:Int),.int .i64 (Hn:Int)] 26)).alloc (.cells #[.int .i64 0,.int .i64 0,.int .i64 0,.int .i64 0,.slice none 0 0] 32)).alloc oM).alloc (.cells #[.int .i64 X,.int .i64 Y,.int .i64 Wn,.int .i64 Hn,.slice (some ⟨w.heap.size+1+1,0,none⟩) 0 n] 32)=W0:=⟨_,rfl⟩
         rw [hW0]
         have I0':=(make_start2 w X Y Wn Hn oM n HMO.out W0 hW0.symm).drew
         have I0:=I0'.state q (J 0) (HST.out 0 _ _ (Nat.le_refl _) HJ0.out I0'.below)
         clear I0'
         have hk5:=Lib.hid I0.k5g
         generalize w.heap.size+1+1+1=k5 at *)
    clear hW0
    generalize W0.drew=W1 at *
    clear HMO hmk hn
    obtain ⟨q0,q1,q2,q3⟩:=I0.rg.cells
    go_wp2_with fail
    clear q0 q1 q2 q3
    go_loopw [6,7] (fun vy _ wr=>∃ j:Nat,j≤Hn∧vy=.int .i64 (Y+j)∧∃ v,MakeSt q (J (j*Wn)) w wr k5 X Y Wn Hn v (madeL ψ X Y Wn (j*Wn))) (fun vy _ _=>(Y+Hn-intOf vy).toNat)
    case atStart=>exact ⟨0,by omega,by simp,_,by rw [Nat.zero_mul];exact I0⟩
    case round =>
      clear I0
      obtain ⟨j,hj,rfl,v,I⟩:=hrel
      have IH:=Lib.hid I
      obtain ⟨r0,r1,r2,r3⟩:=I.rg.cells
      clear I
      by_cases hlt:j<Hn
      · have b1:(Y+j:Int)<Y+Hn:=by omega
        go_wp2
        obtain ⟨wo,rfl⟩:∃ wo:World,wo=wr:=⟨_,rfl⟩
        clear r0 r1 r2 r3 hj
        go_loopw [7] (fun vx wi=>∃ i:Nat,i≤Wn∧vx=.int .i64 (X+i)∧∃ v,MakeSt q (J (j*Wn+i)) w wi k5 X Y Wn Hn v (madeL ψ X Y Wn (j*Wn+i))) (fun vx _=>(X+Wn-intOf vx).toNat)
        case atStart=>exact ⟨0,by omega,by simp,v,by rw [Nat.add_zero];exact IH.out⟩
        case round =>
          clear IH v
          obtain ⟨i,hi',rfl,v,I⟩:=hrel
          obtain ⟨r0,r1,r2,r3⟩:=I.rg.cells
          have c4:=I.fo.cells.2.2.2.2
          have IH:=Lib.hid I
          clear I
          by_cases hlt2:i<Wn
          · have b2:(X+i:Int)<X+Wn:=by omega
            have HC:Hid (∀ W',But w.heap.size q w W'→J (j*Wn+i) W'→Calls Tryz.prog gn (#[.int .i64 (X+(i:Int)),.int .i64 (Y+(j:Int))] ++ caps) W' fun e w'=>e=.returned (.float .f32 (ψ (X+(i:Int)) (Y+(j:Int))))∧But W'.heap.size q W' w'∧J (j*Wn+i+1) w'):=HF.out i j hlt2 hlt
            have HSJ:Hid (∀ W W',w.heap.size≤W.heap.size→J (j*Wn+i+1) W→Below w.heap.size W W'→J (j*Wn+i+1) W'):=HST.out _
            have HB0:=Lib.hid (IH.out.below.trans (But.of (Below.refl _ _).drew))
            have HJ1:=Lib.hid (HST.out _ _ _ IH.out.below.size IH.out.st (Below.refl _ _).drew)
            have HY:Hid (ψ (X+(i:Int)) (Y+(j:Int))<4294967296):=HP.out _ _ (by omega) (by omega) (by omega) (by omega)
            have HM:Hid (madeL ψ X Y Wn (j*Wn+i) ++ [ψ (X+(i:Int)) (Y+(j:Int))]=madeL ψ X Y Wn (j*Wn+(i+1))):=(madeL_succ ψ X Y Wn i j hlt2).symm
            have hml:(madeL ψ X Y Wn (j*Wn+i)).length≤262656:=by
              rw [madeL_len]
              have:=Nat.mul_le_mul (show j≤512 by omega) h2
              omega
            generalize madeL ψ X Y Wn (j*Wn+i)=m at *
            generalize ψ (X+(i:Int)) (Y+(j:Int))=y0 at *
            have G1:Hid (m.length+1≤maxLen):=by unfold maxLen Hid;omega
            have G2:Hid ((m.length+1)*4≤140737488355328):=by unfold Hid;omega
            go_wp2_with fail
            go_region_law (first
              | (refine step_append_lies _ (by rfl) _ _ _ (by rfl) (w.heap.size+2) 48 i0 (.float .f32 0) 1 4 Tryz.underlying30 hi hz0 hz1 hz2 rfl (by omega) v m.length (fls m) (by rfl) (I2.out.own.alloc _) ⟨w2.heap.size,0,none⟩ 1 1 [.float .f32 y0] (by rfl) (by rfl) (World.news_of_block (cs:=#[.float .f32 y0]) (t:=48) (fr:=(0,0)) (heap_alloc_new w2 _)) (by simp [Value.oneCell']) (by omega) G1.out G2.out G3.out (w2.heap.size+1) (by simp) ?_;intro gg cap w3 hown3 hgrow3 hat3 hlt3;obtain ⟨e1,e2,e3,e4,e7⟩:=I2.out.mid HSJ.out hgrow3;have e5:=e3.cells.2.2.2.2;have e6:=e3.frozen 4;have hgk:gg≠k5:=(by rcases hat3 with h|h;exact (fun e=>I2.out.ne (e ▸ h));exact (fun e=>by have:=lzz.out;omega));have M3:=Lib.hid (I2.out.app HSJ.out HY.out hown3 hgrow3 hgk);clear e1 e2 e3 e4 e7 hown3 hgrow3 hat3 hlt3 hgk)
              | (go_simp;go_at_fn gn;refine (HC.out _ HB0.out HJ1.out).mono ?_;rintro e2 w2 ⟨rfl,hb,hj2⟩;have I2:=Lib.hid (IH.out.call HQ.out hb hj2);have G3:Hid (w.heap.size+2≤(w2.alloc (.cells #[.float .f32 y0] 48)).heap.size):=(by have:=I2.out.fo.lt;have:=I2.out.k5g;unfold Hid;simp;omega);have d4:=I2.out.fo.cells.2.2.2.2;have lz:k5<w2.heap.size:=I2.out.fo.lt;have lzz:=Lib.hid lz;clear hb hj2))
            all_goals
              go_wp2
              go_roundw
              case rel=>exact ⟨i+1,by omega,by go_num,_,HM.out ▸ M3.out⟩
              case measure=>simp [intOf];omega
          · have HE:Hid (j*Wn+i=(j+1)*Wn):=by
              have:i=Wn:=by omega
              unfold Hid;rw [this,Nat.add_mul,Nat.one_mul]
            exact qx50
      · have HE:Hid (j*Wn=Hn*Wn):=by
          have:j=Hn:=by omega
          unfold Hid;rw [this]
        have IH2:Hid (MakeSt q (J (Hn*Wn)) w wr k5 X Y Wn Hn v (madeL ψ X Y Wn (Hn*Wn))):=HE.out ▸ IH.out
        clear IH
        have hml:Hid ((madeL ψ X Y Wn (Hn*Wn)).length=Hn*Wn):=madeL_len _ _ _ _ _
        have hm1:Hid (1≤Hn*Wn):=Nat.mul_le_mul h3 h1
        generalize hmq:madeL ψ X Y Wn (Hn*Wn)=m at *
        have HMQ:=Lib.hid hmq
        clear hmq
        obtain ⟨g,cap,rfl,hown⟩:∃ g cap,v=.slice (some ⟨g,0,none⟩) m.length cap∧OwnF wr w.heap.size g cap m:=by
          have ho:=IH2.out.own
          exact qx54
        have HO:=Lib.hid hown
        have hgk:Hid (w.heap.size+2≤g):=(IH2.out.own.lt g rfl).1
        clear hown
        obtain ⟨c0,c1,c2,c3,c4⟩:=IH2.out.fo.cells
        have FB:=IH2.out.rz
        obtain ⟨d0,d1,d2,d3,d4⟩:=FB.cells
        have qf0:=FB.frozen 0
        have qf1:=FB.frozen 1
        have qf2:=FB.frozen 2
        have qf3:=FB.frozen 3
        have qf4:=FB.frozen 4
        clear FB
        have HB:=Lib.hid IH2.out.below
        have HJ:=Lib.hid IH2.out.st
        clear IH2
        go_wp2
        obtain rfl:=HMQ.out
        have hz2:w.heap.size≤wr.heap.size:=HB.out.size
        have O2:=HO.out
        have hgk2:=hgk.out
        refine bodyPost_ret (v:=fldV X Y Wn Hn (some ⟨g,0,none⟩) (madeL ψ X Y Wn (Hn*Wn)).length cap) (by simp [results,Tryz.results89,go_sem, *]) rfl ⟨⟨g,cap,rfl,(by have hgg:=O2.lt;repeat (first|with_reducible exact O2|with_reducible refine OwnF.drew ?_|with_reducible refine OwnF.drewN ?_ _|(with_reducible refine OwnF.setCell ?_ ?_ _;rotate_left;focus (first|omega|(simp<;>omega)))|with_reducible refine OwnF.alloc ?_ _))⟩,?_⟩
        have key:∀ W,Below w.heap.size wr W→But w.heap.size q w W∧J (Hn*Wn) W:=fun W hb=>⟨HB.out.trans (But.of hb),HST.out _ _ _ hz2 HJ.out hb⟩
        exact key _ qBl
end Go.Proofs.YtmggflgdoioajaaGreat
namespace Go.Proofs.YtmggflgdoioajaaGreat
open Go.Shelf
open Go.ChangeShapes Go.WideShapes Go.ChangeAt Go.RowKit
open Ieee.Format (fin finE htE allFin allHt all_true all_false finE_ok finE_bad htE_ok htE_far htE_bad mulF subF addF)
end Go.Proofs.YtmggflgdoioajaaGreat
namespace Go.Proofs.YtmggflgdoioajaaGreat
open Go.ChangeShapes Go.WideShapes Go.ChangeAt Go.RowKit
theorem smaller_ok (X Y W H n:Int) (w:World) (hn:0≤n) (hn2:n≤64) (hx:-8388608≤X) (hx2:X≤8388608) (hy:-8388608≤Y) (hy2:Y≤8388608) (hw:W≤512) (hh:H≤512) (h1:1≤W-2*n) (h2:1≤H-2*n) :
  Calls Tryz.prog 179 #[reg X Y W H,.int .i64 n] w fun e w'=>e=.returned (.tuple #[reg (X+n) (Y+n) (W-2*n) (H-2*n),.int .i64 0])∧Below w.heap.size w w':=by
 go_enter Tryz.func179,Tryz.ntmps179
 go_wp2
 exact bodyPost_ret (v:=.tuple #[reg (X+n) (Y+n) (W-2*n) (H-2*n),.int .i64 0]) (by simp [results,Tryz.results179,go_sem, *]) rfl ⟨rfl,qBl⟩
theorem smaller_no (X Y W H n:Int) (w:World) (hn:0≤n) (hn2:n≤64) (hx:-8388608≤X) (hx2:X≤8388608) (hy:-8388608≤Y) (hy2:Y≤8388608) (hw0:1≤W) (hh0:1≤H) (hw:W≤512) (hh:H≤512) (h1:W-2*n<1∨H-2*n<1) :
  Calls Tryz.prog 179 #[reg X Y W H,.int .i64 n] w fun e w'=>e=.returned (.tuple #[reg 0 0 0 0,.int .i64 10])∧Below w.heap.size w w':=by
 by_cases h3:W-2*n<1
 ·exact qx81
 ·have h4:H-2*n<1:=by omega
  exact qx81
end Go.Proofs.YtmggflgdoioajaaGreat
namespace Go.Proofs.YtmggflgdoioajaaGreat
open Go.ChangeShapes Go.WideShapes Go.ChangeAt Go.RowKit
def Nb5 (w:World) (k:Nat) (a b c d e:Nat):Prop:=w.heap[k]?=some (.cells #[.float .f32 a,.float .f32 b,.float .f32 c,.float .f32 d,.float .f32 e] 175 (0,0))
theorem Nb5.cells {w:World} {k a b c d e:Nat} (h:Nb5 w k a b c d e):w.cell? ⟨k,0,none⟩=some (.float .f32 a)∧w.cell? ⟨k,1,none⟩=some (.float .f32 b)∧w.cell? ⟨k,2,none⟩=some (.float .f32 c)∧w.cell? ⟨k,3,none⟩=some (.float .f32 d)∧w.cell? ⟨k,4,none⟩=some (.float .f32 e):=
 ⟨cell_of_row w k 0 _ _ _ h,cell_of_row w k 1 _ _ _ h,cell_of_row w k 2 _ _ _ h,cell_of_row w k 3 _ _ _ h,cell_of_row w k 4 _ _ _ h⟩
theorem Nb5.frozen {w:World} {k a b c d e:Nat} (h:Nb5 w k a b c d e) (i:Nat):w.frozen? ⟨k,i,none⟩=false:=frozen_of_row w k i _ _ h
theorem around_world (w:World) (X Y W H:Int) (v:Value):∀ W0,W0=(w.alloc (.cells #[.int .i64 X,.int .i64 Y,.int .i64 W,.int .i64 H,v] 32)).alloc (.cells #[.float .f32 0,.float .f32 0,.float .f32 0,.float .f32 0,.float .f32 0] 175) →
  Fld W0 w.heap.size X Y W H v∧Nb5 W0 (w.heap.size+1) 0 0 0 0 0∧Below w.heap.size w W0∧W0.heap.size=w.heap.size+2:=by
 rintro _ rfl
 refine ⟨(Fld.new w X Y W H v).alloc _,?_,qBl,by simp⟩
 have:=heap_alloc_new (w.alloc (.cells #[.int .i64 X,.int .i64 Y,.int .i64 W,.int .i64 H,v] 32)) (.cells #[.float .f32 0,.float .f32 0,.float .f32 0,.float .f32 0,.float .f32 0] 175)
 unfold Nb5
 simpa using this
set_option maxRecDepth 100000 in
set_option maxHeartbeats 4000000 in
theorem around_any (X Y:Int) (Wn Hn:Nat) (x y:Int) (b o c k:Nat) (l:List Nat) (w:World) (hl:SRow w (some ⟨b,o,none⟩) l) (hw:1≤Wn) (hw2:Wn≤512) (hx0:-8388608≤X) (hx1:X≤8388608) (hy0:-8388608≤Y) (hy1:Y≤8388608) (hx:X≤x) (hx':x<X+512) (hy:Y≤y) (hy':y<Y+512)
  (hk:(y-Y)*Wn+x-X=(k:Int)) (k1:Wn≤k) (k2:k+Wn<l.length) :
  Calls Tryz.prog 160 #[fldV X Y Wn Hn (some ⟨b,o,none⟩) l.length c,.int .i64 x,.int .i64 y] w fun e w'=>e=.returned (.agg #[.float .f32 (l.getD (k-Wn) 0),.float .f32 (l.getD (k+Wn) 0),.float .f32 (l.getD (k+1) 0),.float .f32 (l.getD (k-1) 0),.float .f32 (l.getD k 0)])∧Below w.heap.size w w':=by
 obtain ⟨M,hM⟩:∃ M:Int,(y-Y)*(Wn:Int)=M:=⟨_,rfl⟩
 have hln:l.length≤1099511627776:=hl.1.1
 have HL:=Lib.hid hl
 have ek:=Lib.hid hk
 rw [hM] at hk
 have m0:0≤M:=by rw [←hM];exact Int.mul_nonneg (by omega) (by omega)
 have m1:M≤1099511627776+16777216:=by omega
 have t0:Hid (IntKind.i64.wrap ((k:Int)-(Wn:Int))=((k-Wn:Nat):Int)):=by unfold Hid;rw [IntKind.wrap_i64];omega
 have t1:Hid (IntKind.i64.wrap ((k:Int)+(Wn:Int))=((k+Wn:Nat):Int)):=by unfold Hid;rw [IntKind.wrap_i64];omega
 have t2:Hid (IntKind.i64.wrap ((k:Int)+1)=((k+1:Nat):Int)):=by unfold Hid;rw [IntKind.wrap_i64];omega
 have t3:Hid (IntKind.i64.wrap ((k:Int)-1)=((k-1:Nat):Int)):=by unfold Hid;rw [IntKind.wrap_i64];omega
 have t4:Hid (IntKind.i64.wrap (IntKind.i64.wrap (IntKind.i64.wrap (IntKind.i64.wrap (y-Y)*(Wn:Int))+x)-X)=(k:Int)):=by
  unfold Hid
  rw [show IntKind.i64.wrap (y-Y)=y-Y from by rw [IntKind.wrap_i64];omega,hM,show IntKind.i64.wrap M=M from by rw [IntKind.wrap_i64];omega]
  rw [show IntKind.i64.wrap (M+x)=M+x from by rw [IntKind.wrap_i64];omega,IntKind.wrap_i64];omega
 clear hl t4
 obtain ⟨kn,hkn⟩:∃ kn:Nat,k-Wn=kn:=⟨_,rfl⟩
 obtain ⟨ks,hks⟩:∃ ks:Nat,k+Wn=ks:=⟨_,rfl⟩
 obtain ⟨ke,hke⟩:∃ ke:Nat,k+1=ke:=⟨_,rfl⟩
 obtain ⟨kw,hkw⟩:∃ kw:Nat,k-1=kw:=⟨_,rfl⟩
 rw [hkn] at t0
 rw [hks] at t1
 rw [hke] at t2
 rw [hkw] at t3
 have u0:kn<l.length:=by omega
 have u1:ks<l.length:=by omega
 have u2:ke<l.length:=by omega
 have u3:kw<l.length:=by omega
 have u4:k<l.length:=by omega
 rw [hkn,hks,hke,hkw]
 go_enter Tryz.func160,Tryz.ntmps160
 go_wp2_with fail
 generalize hW0:(w.alloc (.cells #[.int .i64 X,.int .i64 Y,.int .i64 Wn,.int .i64 Hn,.slice (some ⟨b,o,none⟩) l.length c] 32)).alloc (.cells #[.float .f32 0,.float .f32 0,.float .f32 0,.float .f32 0,.float .f32 0] 175)=W0 at *
 obtain ⟨F0,N0,B0,z0⟩:=around_world w X Y Wn Hn _ W0 hW0.symm
 have HN:=Lib.hid N0
 have HB:=Lib.hid B0
 have L0:=HL.out.below B0
 have a0:=SRow.at_ L0 u0
 have a1:=SRow.at_ L0 u1
 have a2:=SRow.at_ L0 u2
 have a3:=SRow.at_ L0 u3
 have a4:=SRow.at_ L0 u4
 clear HL L0 hW0 B0 N0 hkn hks hke hkw k1 k2
 generalize hv0:l.getD kn 0=v0 at *
 have V0:=Lib.hid hv0
 clear hv0
 generalize hv1:l.getD ks 0=v1 at *
 have V1:=Lib.hid hv1
 clear hv1
 generalize hv2:l.getD ke 0=v2 at *
 have V2:=Lib.hid hv2
 clear hv2
 generalize hv3:l.getD kw 0=v3 at *
 have V3:=Lib.hid hv3
 clear hv3
 generalize hv4:l.getD k 0=v4 at *
 have V4:=Lib.hid hv4
 clear hv4
 obtain ⟨c0,c1,c2,c3,c4⟩:=F0.cells
 have lz0:w.heap.size<W0.heap.size:=by omega
 have lz1:w.heap.size+1<W0.heap.size:=by omega
 have s0:=t0.out
 have s1:=t1.out
 have s2:=t2.out
 have s3:=t3.out
 clear t0 t1 t2 t3 F0 ek hk hM
 go_still_tail 36,(by kernel_rfl)
 change wpList _ _ _ _ _ W0.drew
 have q0:=HN.out.frozen 0
 have q1:=HN.out.frozen 1
 have q2:=HN.out.frozen 2
 have q3:=HN.out.frozen 3
 have q4:=HN.out.frozen 4
 clear a0 a1 a2 a3 a4 c0 c1 c2 c3 c4 s0 s1 s2 s3
 obtain ⟨d0,d1,d2,d3,d4⟩:=HN.out.cells
 go_wp2_with fail
 have B0:=HB.out
 have E0:=V0.out
 have E1:=V1.out
 have E2:=V2.out
 have E3:=V3.out
 have E4:=V4.out
 refine bodyPost_ret (v:=.agg #[.float .f32 v0,.float .f32 v1,.float .f32 v2,.float .f32 v3,.float .f32 v4]) (by simp [results,Tryz.results160,go_sem, *]) rfl ⟨by rw [E0,E1,E2,E3,E4],(qBo B0)⟩
end Go.Proofs.YtmggflgdoioajaaGreat
namespace Go.Proofs.YtmggflgdoioajaaGreat
open Go.Shelf
open Go.ChangeShapes Go.WideShapes Go.ChangeAt Go.RowKit
open Ieee.Format (fin finE htE allFin allHt all_true all_false mulF subF addF Ht Bd)
theorem tdiv_floor (a b:Int) (hb:0<b):(a.tmod b<0→a.tdiv b-1=a / b∧a.tmod b+b=a%b)∧(¬ a.tmod b<0→a.tdiv b=a / b∧a.tmod b=a%b):=by
 have h1:=Int.mul_tdiv_add_tmod a b
 have h2:=Int.tmod_lt_of_pos a hb
 have h3:=Int.lt_tmod_of_pos a hb
 constructor
 ·intro h
  have:=(Int.ediv_emod_unique (a:=a) (b:=b) (r:=a.tmod b+b) (q:=a.tdiv b-1) hb).2 ⟨by rw [Int.mul_sub,Int.mul_one];omega,by omega,by omega⟩
  exact ⟨this.1.symm,this.2.symm⟩
 ·intro h
  have:=(Int.ediv_emod_unique (a:=a) (b:=b) (r:=a.tmod b) (q:=a.tdiv b) hb).2 ⟨by omega,by omega,h2⟩
  exact ⟨this.1.symm,this.2.symm⟩
theorem ediv_small (a b c:Int) (hb:0<b) (h1:-c≤a) (h2:a≤c) (hc:0≤c):-c≤a / b∧a / b≤c:=by
 have e:=Int.mul_ediv_add_emod a b
 have m0:=Int.emod_nonneg a (show b≠0 by omega)
 have m1:=Int.emod_lt_of_pos a hb
 constructor
 ·refine (Int.le_ediv_iff_mul_le hb).2 ?_
  have:=Int.mul_le_mul_of_nonneg_left (show 1≤b by omega) hc
  rw [Int.neg_mul];omega
 ·by_cases h:a / b≤c
  ·exact h
  ·exfalso
   have:=Int.mul_le_mul_of_nonneg_left (show c+1≤a / b by omega) (show 0≤b by omega)
   have h3:=Int.mul_le_mul_of_nonneg_right (show 1≤b by omega) (show 0≤c+1 by omega)
   omega
end Go.Proofs.YtmggflgdoioajaaGreat
namespace Go.Proofs.YtmggflgdoioajaaGreat
open Go.Shelf
open Go.ChangeShapes Go.WideShapes Go.ChangeAt Go.RowKit
open Ieee.Format (fin finE htE allFin allHt all_true all_false mulF subF addF Ht Bd mixF mix_bd shareF share_facts)
theorem mix_any (k a b s:Nat) (w:World) (ha:Bd k a) (hb:Bd k b) (hs:Bd 0 s) (hk:k≤80) :
  Calls Tryz.prog 104 #[.float .f32 a,.float .f32 b,.float .f32 s] w fun e w'=>e=.returned (.float .f32 (mixF a b s))∧w=w':=by
 obtain ⟨h1,h2,h3⟩:=mix_bd ha hb hs hk
 have k1:=fun w'=>run_float_arith (P:=Tryz.prog) w' .sub 48 .f32 b a (subF b a) (Ieee.Format.bits_sub hb.1 ha.1)
 have k2:=fun w'=>run_float_arith (P:=Tryz.prog) w' .mul 48 .f32 (subF b a) s (mulF (subF b a) s) (Ieee.Format.bits_mul h1.1 hs.1)
 have k3:=fun w'=>run_float_arith (P:=Tryz.prog) w' .add 48 .f32 a (mulF (subF b a) s) (mixF a b s) (Ieee.Format.bits_add ha.1 h2.1)
 clear h1 h2 h3 ha hb hs
 generalize mixF a b s=z at *
 generalize mulF (subF b a) s=y at *
 generalize subF b a=x at *
 go_enter Tryz.func104,Tryz.ntmps104
 go_wp2
 go_ret
 exact ⟨rfl,rfl⟩
def inR (X Y W H x y:Int):Prop:=X≤x∧x<X+W∧Y≤y∧y<Y+H
instance (X Y W H x y:Int):Decidable (inR X Y W H x y):=inferInstanceAs (Decidable (_∧_∧_∧_))
theorem place_in (X Y:Int) (Wn Hn:Nat) (x y:Int) (k:Nat) (w:World) (hw:1≤Wn) (hw2:Wn≤512) (hh:1≤Hn) (hh2:Hn≤512) (hx0:-8388608≤X) (hx1:X≤8388608) (hy0:-8388608≤Y) (hy1:Y≤8388608) (h:inR X Y Wn Hn x y) (hk:cellNo X Y Wn x y=(k:Int)) :
  Calls Tryz.prog 122 #[reg X Y Wn Hn,.int .i64 x,.int .i64 y] w fun e w'=>e=.returned (.tuple #[.int .i64 (k:Int),.bool true])∧Below w.heap.size w w':=by
 obtain ⟨a1,a2,a3,a4⟩:=h
 obtain ⟨m0,m1,m2,m3⟩:=cellNo_in (show (1:Int)≤Wn by omega) (by omega) (show (1:Int)≤Hn by omega) (by omega) a1 a2 a3 a4
 have e:(y-Y)*Wn+x-X=(k:Int):=hk
 have kb:(k:Int)≤1048576:=by omega
 clear hk m2 m3
 generalize hM:(y-Y)*(Wn:Int)=M at *
 go_enter Tryz.func122,Tryz.ntmps122
 go_wp2
 refine bodyPost_ret (v:=.tuple #[.int .i64 (k:Int),.bool true]) (by simp [results,Tryz.results122,go_sem, *]) rfl ⟨rfl,qBl⟩
theorem place_out (X Y:Int) (Wn Hn:Nat) (x y:Int) (w:World) (hw:1≤Wn) (hw2:Wn≤512) (hh:1≤Hn) (hh2:Hn≤512) (hx0:-8388608≤X) (hx1:X≤8388608) (hy0:-8388608≤Y) (hy1:Y≤8388608) (h:¬ inR X Y Wn Hn x y) :
  Calls Tryz.prog 122 #[reg X Y Wn Hn,.int .i64 x,.int .i64 y] w fun e w'=>e=.returned (.tuple #[.int .i64 0,.bool false])∧Below w.heap.size w w':=by
 unfold inR at h
 have HH:=Lib.hid h
 clear h
 by_cases h1:x<X
 ·exact qx42
 ·by_cases h2:y<Y
  ·exact qx42
  ·by_cases h3:X+Wn≤x
   ·exact qx42
   ·have h4:Y+Hn≤y:=by have:=HH.out;omega
    exact qx42
end Go.Proofs.YtmggflgdoioajaaGreat
namespace Go.Proofs.YtmggflgdoioajaaGreat
open Go.Shelf
open Go.ChangeShapes Go.WideShapes Go.ChangeAt Go.RowKit
open Ieee.Format (fin finE htE allFin allHt all_true all_false mulF subF addF Ht Bd mixF mix_bd shareF share_facts)
theorem cell_in {X Y:Int} {Wn Hn:Nat} {i y:Int} (h1:1≤Wn) (h2:Wn≤512) (h3:1≤Hn) (h4:Hn≤512) (h:inR X Y Wn Hn i y):cellNo X Y Wn i y=((cellNo X Y Wn i y).toNat:Int)∧(cellNo X Y Wn i y).toNat<Hn*Wn:=by
 obtain ⟨a1,a2,a3,a4⟩:=h
 obtain ⟨m0,m1,m2,m3⟩:=cellNo_in (show (1:Int)≤Wn by omega) (by omega) (show (1:Int)≤Hn by omega) (by omega) a1 a2 a3 a4
 refine ⟨by omega,?_⟩
 have e:((Hn*Wn:Nat):Int)=(Wn:Int)*Hn:=by rw [Int.natCast_mul,Int.mul_comm]
 omega
end Go.Proofs.YtmggflgdoioajaaGreat
namespace Go.Proofs.YtmggflgdoioajaaGreat
open Go.Shelf
open Go.ChangeShapes Go.WideShapes Go.ChangeAt Go.RowKit
open Ieee.Format (fin finE htE allFin allHt all_true all_false mulF subF addF Ht Bd mixF mix_bd shareF share_facts)
end Go.Proofs.YtmggflgdoioajaaGreat
namespace Go.Proofs.YtmggflgdoioajaaGreat
open Go.Shelf
open Go.ChangeShapes Go.WideShapes Go.ChangeAt Go.RowKit
open Ieee.Format (fin finE htE allFin allHt all_true all_false mulF subF addF Ht Bd mixF mix_bd shareF share_facts)
end Go.Proofs.YtmggflgdoioajaaGreat
namespace Go.Proofs.YtmggflgdoioajaaGreat
open Go.Shelf
open Go.ChangeShapes Go.WideShapes Go.ChangeAt Go.RowKit
open Ieee.Format (fin finE htE allFin allHt all_true all_false mulF subF addF Ht Bd mixF mix_bd shareF share_facts)
end Go.Proofs.YtmggflgdoioajaaGreat
namespace Go.Proofs.YtmggflgdoioajaaGreat
open Go.ChangeShapes Go.WideShapes Go.ChangeAt Go.RowKit
open Ieee.Format (fin finE htE allFin allHt all_true all_false finE_ok finE_bad htE_ok htE_far htE_bad easeF ease1 ease2 ease3 mulF subF addF)
def lss (x y:Nat):Bool:=FloatKind.f32.format.order x y == some .lt
def gtr (x y:Nat):Bool:=FloatKind.f32.format.order x y == some .gt
def shareE (t:Nat):Int:=if fin Ieee.single t then (if lss t 0 || gtr t 1065353216 then 3 else 0) else 2
theorem shareE_bad {t:Nat} (h:¬ fin Ieee.single t):shareE t=2:=by unfold shareE;rw [if_neg h]
theorem shareE_far {t:Nat} (h:fin Ieee.single t) (h2:(lss t 0 || gtr t 1065353216)=true):shareE t=3:=by unfold shareE;rw [if_pos h,if_pos h2]
theorem shareE_ok {t:Nat} (h:fin Ieee.single t) (h2:(lss t 0 || gtr t 1065353216)=false):shareE t=0:=by unfold shareE;rw [if_pos h,h2];rfl
theorem row_one (w:World) (x:Nat) (hx:x<4294967296) (t:TypeId):SRow (w.alloc (.cells #[.float .f32 x] t)) (some ⟨w.heap.size,0,none⟩) [x]:=by
 refine ⟨⟨by simp,by simpa using hx⟩,.inr ⟨w.heap.size,0,rfl,?_⟩⟩
 intro i hi
 have:i=0:=by simp at hi;omega
 subst this
 simp
theorem share_any (t:Nat) (ht:t<4294967296) (w:World):Calls Tryz.prog 83 #[.float .f32 t] w fun e w'=>e=.returned (.int .i64 (shareE t))∧Below w.heap.size w w':=by
 have K:=Lib.hid (fun w c=>finites_any (some ⟨w.heap.size,0,none⟩) c [t] (w.alloc (.cells #[.float .f32 t] 48)) (row_one w t ht _))
 by_cases hf:fin Ieee.single t
 ·have e1:finE [t]=0:=finE_ok (by unfold allFin;simp [hf])
  rw [e1] at K
  cases hl:lss t 0 with
  | true =>
   have hE:=Lib.hid (shareE_far hf (by rw [hl];rfl))
   change (FloatKind.f32.format.order t 0 == some .lt)=true at hl
   exact qx40
  | false =>
   cases hg:gtr t 1065353216 with
   | true =>
    have hE:=Lib.hid (shareE_far hf (by rw [hl,hg];rfl))
    change (FloatKind.f32.format.order t 0 == some .lt)=false at hl
    change (FloatKind.f32.format.order t 1065353216 == some .gt)=true at hg
    exact qx40
   | false =>
    have hE:=Lib.hid (shareE_ok hf (by rw [hl,hg];rfl))
    change (FloatKind.f32.format.order t 0 == some .lt)=false at hl
    change (FloatKind.f32.format.order t 1065353216 == some .gt)=false at hg
    exact qx40
 ·have e1:finE [t]=2:=finE_bad (by unfold allFin;simp [hf])
  rw [e1] at K
  have hE:=Lib.hid (shareE_bad hf)
  exact qx40
def Share (t:Nat):Prop:=fin Ieee.single t∧0≤Ieee.single.V t∧Ieee.single.V t≤1
theorem share_of {t:Nat} (h:fin Ieee.single t) (h2:(lss t 0 || gtr t 1065353216)=false):Share t:=by
 have a:lss t 0=decide (Ieee.single.V t<Ieee.single.V 0):=Ieee.single.order_lt h Ieee.Format.const_0.1
 have b:gtr t 1065353216=decide (Ieee.single.V 1065353216<Ieee.single.V t):=Ieee.single.order_gt h Ieee.Format.const_1.1
 rw [a,b,Ieee.Format.const_0.2.1,Ieee.Format.const_1.2.1,Bool.or_eq_false_iff] at h2
 have c:=of_decide_eq_false h2.1
 have d:=of_decide_eq_false h2.2
 exact ⟨h,by grind,by grind⟩
theorem ease_any (t:Nat) (ht:Share t) (w:World):Calls Tryz.prog 191 #[.float .f32 t] w fun e w'=>e=.returned (.float .f32 (easeF t))∧w=w':=by
 obtain ⟨h0,h1,h2⟩:=ht
 obtain ⟨a,b,c,d,_⟩:=Ieee.Format.ease_ok h0 h1 h2
 have k1:=fun w=>run_float_arith (P:=Tryz.prog) w .mul 48 .f32 t t (ease1 t) (Ieee.Format.bits_mul h0 h0)
 have k2:=fun w=>run_float_arith (P:=Tryz.prog) w .mul 48 .f32 1073741824 t (ease2 t) (Ieee.Format.bits_mul Ieee.Format.const_2.1 h0)
 have k3:=fun w=>run_float_arith (P:=Tryz.prog) w .sub 48 .f32 1077936128 (ease2 t) (ease3 t) (Ieee.Format.bits_sub Ieee.Format.const_3.1 b)
 have k4:=fun w=>run_float_arith (P:=Tryz.prog) w .mul 48 .f32 (ease1 t) (ease3 t) (easeF t) (Ieee.Format.bits_mul a c)
 clear a b c d h0 h1 h2
 generalize ease1 t=x1 at *
 generalize ease2 t=x2 at *
 generalize ease3 t=x3 at *
 generalize easeF t=x4 at *
 go_enter Tryz.func191,Tryz.ntmps191
 go_wp2
 go_ret
 exact ⟨rfl,rfl⟩
theorem Ease_yes (t:Nat) (ht:t<4294967296) (h:shareE t=0) (hs:Share t) (w:World):Calls Tryz.prog 177 #[.float .f32 t] w fun e w'=>e=.returned (.tuple #[.float .f32 (easeF t),.int .i64 0])∧Below w.heap.size w w':=by
 have K:=Lib.hid (fun w=>share_any t ht w)
 have K2:=Lib.hid (fun w=>ease_any t hs w)
 rw [h] at K
 clear h ht hs
 generalize easeF t=x at *
 go_enter Tryz.func177,Tryz.ntmps177
 go_wp2_with (first|(go_at_call 83;refine (K.out _).mono ?_;rintro e w1 ⟨rfl,hbel⟩)|(go_at_call 191;refine (K2.out _).mono ?_;rintro e w1 ⟨rfl,rfl⟩))
 go_ret2
 exact ⟨rfl,hbel⟩
open Ieee.Format (fin finE htE allFin allHt all_true all_false mulF subF addF Ht Bd divF rootF floorF easeF mixF)
theorem row_at1 (W:World) (g x:Nat) (hx:x<4294967296) (h0:W.cell? ⟨g,0,none⟩=some (.float .f32 x)):SRow W (some ⟨g,0,none⟩) [x]:=by
 refine ⟨⟨by simp,by simp;exact hx⟩,.inr ⟨g,0,rfl,?_⟩⟩
 intro i hi
 obtain rfl:i=0:=by simp at hi;omega
 exact h0
theorem heights_one (W:World) (g x:Nat) (hx:x<4294967296) (h0:W.cell? ⟨g,0,none⟩=some (.float .f32 x)) :
  Calls Tryz.prog 32 #[.slice (some ⟨g,0,none⟩) 1 1] W fun e w'=>e=.returned (.int .i64 (htE [x]))∧W=w':=heights_any (some ⟨g,0,none⟩) 1 [x] W (row_at1 W g x hx h0)
theorem finites_one (W:World) (g x:Nat) (hx:x<4294967296) (h0:W.cell? ⟨g,0,none⟩=some (.float .f32 x)) :
  Calls Tryz.prog 84 #[.slice (some ⟨g,0,none⟩) 1 1] W fun e w'=>e=.returned (.int .i64 (finE [x]))∧W=w':=finites_any (some ⟨g,0,none⟩) 1 [x] W (row_at1 W g x hx h0)
theorem heights_two (W:World) (g x y:Nat) (hx:x<4294967296) (hy:y<4294967296) (h0:W.cell? ⟨g,0,none⟩=some (.float .f32 x)) (h1:W.cell? ⟨g,1,none⟩=some (.float .f32 y)) :
  Calls Tryz.prog 32 #[.slice (some ⟨g,0,none⟩) 2 2] W fun e w'=>e=.returned (.int .i64 (htE [x,y]))∧W=w':=heights_any (some ⟨g,0,none⟩) 2 [x,y] W (row_two_at W g x y hx hy h0 h1)
theorem htE_one {t:Nat} (h:htE [t]=0):Ht t:=Ieee.Format.allHt_iff.1 (Ieee.Format.htE_zero h) t (by simp)
theorem finE_one {t:Nat} (h:finE [t]=0):fin Ieee.single t:=by
 apply Classical.byContradiction
 intro hc
 have:finE [t]=2:=Ieee.Format.finE_bad (by unfold allFin;simp [hc])
 omega
theorem lss_V {x y:Nat} (hx:fin Ieee.single x) (hy:fin Ieee.single y):lss x y=decide (Ieee.single.V x<Ieee.single.V y):=Ieee.single.order_lt hx hy
theorem gtr_V {x y:Nat} (hx:fin Ieee.single x) (hy:fin Ieee.single y):gtr x y=decide (Ieee.single.V y<Ieee.single.V x):=Ieee.single.order_gt hx hy
abbrev wearV (T R:Nat) (n:Int):Value:=.agg #[.float .f32 T,.float .f32 R,.int .i64 n]
def wearE (T R:Nat) (n:Int):Int:=
 if htE [T]≠0 then htE [T] else if lss T 0=true then 3 else if finE [R]≠0 then finE [R] else
 if lss R 0=true then 3 else if gtr R 1040187392=true then 3 else if n<0 then 3 else if 64<n then 3 else 0
theorem check_wear (T R:Nat) (n:Int) (w:World) (hT:T<4294967296) (hR:R<4294967296) :
  Calls Tryz.prog 62 #[wearV T R n] w fun e w'=>e=.returned (.int .i64 (wearE T R n))∧Below w.heap.size w w':=by
 have K1:=Lib.hid (fun W g h=>heights_one W g T hT h)
 have K2:=Lib.hid (fun W g h=>finites_one W g R hR h)
 clear hT hR
 unfold wearE
 generalize htE [T]=a at *
 generalize finE [R]=b at *
 by_cases ha:a=0
 ·rw [ha] at K1
  rw [if_neg (by omega)]
  clear ha
  cases h1:lss T 0 with
  | true =>
   change (FloatKind.f32.format.order T 0 == some .lt)=true at h1
   rw [if_pos rfl]
   exact qx22
  | false =>
   change (FloatKind.f32.format.order T 0 == some .lt)=false at h1
   rw [if_neg (by decide)]
   by_cases hb:b=0
   ·rw [hb] at K2
    rw [if_neg (by omega)]
    clear hb
    cases h2:lss R 0 with
    | true =>
     change (FloatKind.f32.format.order R 0 == some .lt)=true at h2
     rw [if_pos rfl]
     exact qx22
    | false =>
     change (FloatKind.f32.format.order R 0 == some .lt)=false at h2
     rw [if_neg (by decide)]
     cases h3:gtr R 1040187392 with
     | true =>
      change (FloatKind.f32.format.order R 1040187392 == some .gt)=true at h3
      rw [if_pos rfl]
      exact qx22
     | false =>
      change (FloatKind.f32.format.order R 1040187392 == some .gt)=false at h3
      rw [if_neg (by decide)]
      by_cases h4:n<0
      ·rw [if_pos h4]
       exact qx22
      ·rw [if_neg h4]
       by_cases h5:64<n
       ·rw [if_pos h5]
        exact qx22
       ·rw [if_neg h5]
        exact qx22
   ·rw [if_pos hb]
    have hb':(b != 0)=true:=by rw [bne_iff_ne];exact hb
    clear hb
    exact qx22
 ·rw [if_pos ha]
  have ha':(a != 0)=true:=by rw [bne_iff_ne];exact ha
  clear ha
  exact qx22
def shareE2 (t m:Nat):Int:=if htE [t]≠0 then htE [t] else if lss t 0=true then 3 else if gtr t m=true then 3 else 0
end Go.Proofs.YtmggflgdoioajaaGreat
namespace Go.Proofs.YtmggflgdoioajaaGreat
open Go.Shelf
open Go.ChangeShapes Go.WideShapes Go.ChangeAt Go.RowKit
open Ieee.Format (fin finE htE allFin allHt all_true all_false mulF subF addF Ht Bd smoothF smooth2 smooth_bd const_eighth const_2nd)
theorem smoothfn_any (j n s e w v:Nat) (W:World) (hn:Bd j n) (hs:Bd j s) (he:Bd j e) (hw:Bd j w) (hv:Bd j v) (hj:j≤80) :
  Calls Tryz.prog 168 #[.agg #[.float .f32 n,.float .f32 s,.float .f32 e,.float .f32 w,.float .f32 v]] W fun en w'=>en=.returned (.float .f32 (smoothF n s e w v))∧Below W.heap.size W w':=by
 obtain ⟨b1,b2,b3,b4,b5,b6,b7⟩:=smooth_bd hn hs he hw hv hj
 have k1:=fun w'=>run_float_arith (P:=Tryz.prog) w' .add 48 .f32 n w (addF n w) (Ieee.Format.bits_add hn.1 hw.1)
 have k2:=fun w'=>run_float_arith (P:=Tryz.prog) w' .add 48 .f32 e s (addF e s) (Ieee.Format.bits_add he.1 hs.1)
 have k3:=fun w'=>run_float_arith (P:=Tryz.prog) w' .add 48 .f32 (addF n w) (addF e s) (addF (addF n w) (addF e s)) (Ieee.Format.bits_add b1.1 b2.1)
 have k4:=fun w'=>run_float_arith (P:=Tryz.prog) w' .mul 48 .f32 (addF (addF n w) (addF e s)) 1040187392 (smooth2 n s e w) (Ieee.Format.bits_mul b3.1 const_eighth.1)
 have k5:=fun w'=>run_float_arith (P:=Tryz.prog) w' .add 48 .f32 v (smooth2 n s e w) (addF v (smooth2 n s e w)) (Ieee.Format.bits_add hv.1 b4.1)
 have k6:=fun w'=>run_float_arith (P:=Tryz.prog) w' .mul 48 .f32 v 1056964608 (mulF v 1056964608) (Ieee.Format.bits_mul hv.1 const_2nd.1)
 have k7:=fun w'=>run_float_arith (P:=Tryz.prog) w' .sub 48 .f32 (addF v (smooth2 n s e w)) (mulF v 1056964608) (smoothF n s e w v) (Ieee.Format.bits_sub b5.1 b6.1)
 clear b1 b2 b3 b4 b5 b6 b7 hn hs he hw hv
 generalize smoothF n s e w v=z7 at *
 generalize addF v (smooth2 n s e w)=z5 at *
 generalize smooth2 n s e w=z4 at *
 generalize mulF v 1056964608=z6 at *
 generalize addF (addF n w) (addF e s)=z3 at *
 generalize addF n w=z1 at *
 generalize addF e s=z2 at *
 go_enter Tryz.func168,Tryz.ntmps168
 go_wp2
 go_ret
 exact ⟨rfl,qBl⟩
def nbr (φ:Nat→Nat→Nat→Nat→Nat→Nat) (l:List Nat) (Wn k:Nat):Nat:=φ (l.getD (k-Wn) 0) (l.getD (k+Wn) 0) (l.getD (k+1) 0) (l.getD (k-1) 0) (l.getD k 0)
end Go.Proofs.YtmggflgdoioajaaGreat
namespace Go.Proofs.YtmggflgdoioajaaGreat
open Go.Shelf
open Go.ChangeShapes Go.WideShapes Go.ChangeAt Go.RowKit
set_option maxRecDepth 100000 in
theorem stepfn_any (fn:Nat) (caps:Array Value) (φ:Nat→Nat→Nat→Nat→Nat→Nat) (X Y:Int) (Wn Hn:Nat) (x y:Int) (b o c k p q:Nat) (l:List Nat) (w:World) (hl:SRow w (some ⟨b,o,none⟩) l) (hw:1≤Wn) (hw2:Wn≤512) (hx0:-8388608≤X) (hx1:X≤8388608) (hy0:-8388608≤Y) (hy1:Y≤8388608) (hx:X≤x) (hx':x<X+512) (hy:Y≤y) (hy':y<Y+512)
    (hk:cellNo X Y Wn x y=(k:Int)) (k1:Wn≤k) (k2:k+Wn<l.length)
    (eg:∀ args w,(callFunc fn args).run Tryz.prog w=.ok (.enter fn args) w)
    (hq:Fld w q X Y Wn Hn (.slice (some ⟨b,o,none⟩) l.length c)) (hp:w.cell? ⟨p,0,none⟩=some (.func (.func fn) #[] caps)) (pl:p<w.heap.size)
    (hf:∀ W',Below w.heap.size w W'→Calls Tryz.prog fn (#[.agg #[.float .f32 (l.getD (k-Wn) 0),.float .f32 (l.getD (k+Wn) 0),.float .f32 (l.getD (k+1) 0),.float .f32 (l.getD (k-1) 0),.float .f32 (l.getD k 0)]] ++ caps) W' fun e w'=>e=.returned (.float .f32 (nbr φ l Wn k))∧Below W'.heap.size W' w') :
    Calls Tryz.prog 180 #[.int .i64 x,.int .i64 y,.pointer (some ⟨p,0,none⟩),.pointer (some ⟨q,0,none⟩)] w fun e w'=>e=.returned (.float .f32 (nbr φ l Wn k))∧Below w.heap.size w w':=by
  have K1:=Lib.hid (fun w' hl=>around_any X Y Wn Hn x y b o c k l w' hl hw hw2 hx0 hx1 hy0 hy1 hx hx' hy hy' hk k1 k2)
  have HF:=Lib.hid hf
  have HL:=Lib.hid hl
  have ql:=hq.lt
  obtain ⟨c0,c1,c2,c3,c4⟩:=hq.cells
  clear hf hl hq hk hx hx' hy hy' k1 k2
  generalize nbr φ l Wn k=z at *
  generalize l.getD k 0=v at *
  generalize l.getD (k-Wn) 0=n at *
  generalize l.getD (k+Wn) 0=s at *
  generalize l.getD (k+1) 0=e at *
  generalize l.getD (k-1) 0=wv at *
  go_enter Tryz.func180,Tryz.ntmps180
  go_wp2_with fail
  go_region_held3 (fun w'=>w'.cell? ⟨q,0,none⟩=some (.int .i64 X)∧w'.cell? ⟨q,1,none⟩=some (.int .i64 Y)∧w'.cell? ⟨q,2,none⟩=some (.int .i64 Wn)∧w'.cell? ⟨q,3,none⟩=some (.int .i64 Hn)∧w'.cell? ⟨q,4,none⟩=some (.slice (some ⟨b,o,none⟩) l.length c)∧w'.cell? ⟨p,0,none⟩=some (.func (.func fn) #[] caps)∧Below w.heap.size w w')
    (first
      | exact ⟨c0,c1,c2,c3,c4,hp,(Below.refl _ _).drew⟩
      | (go_split_ands
         have hs:=(show Below w.heap.size w _ by assumption).size
         refine ⟨?_,?_,?_,?_,?_,?_,?_⟩
         all_goals first
           | (rw [hb.cell (by simp;omega)];assumption)
           | exact Below.trans (by assumption) (hb.mono (by omega)))
      | (go_split_ands;refine ⟨?_,?_,?_,?_,?_,?_,?_⟩<;>assumption))
    (first
      | (go_at_call 160;go_split_ands;refine (K1.out _ (HL.out.below (by assumption))).mono ?_;rintro e2 w2 ⟨rfl,hb⟩)
      | (go_at_fn fn;go_split_ands;refine (HF.out _ (by assumption)).mono ?_;rintro e2 w2 ⟨rfl,hb⟩))
  rename_i hHeld
  obtain ⟨_,_,_,_,_,_,hB⟩:=hHeld
  go_wp2_with fail
  go_ret
  exact ⟨rfl,hB⟩
end Go.Proofs.YtmggflgdoioajaaGreat
namespace Go.Proofs.YtmggflgdoioajaaGreat
open Go.Shelf
open Go.ChangeShapes Go.WideShapes Go.ChangeAt Go.RowKit
open Ieee.Format (fin finE htE allFin allHt all_true all_false mulF subF addF Ht)
def stepsL (φ:Nat→Nat→Nat→Nat→Nat→Nat) (X Y:Int) (Wn Hn:Nat) (l:List Nat):Nat→List Nat
 | 0=>l
 | i+1=>madeL (fun x y=>nbr φ (stepsL φ X Y Wn Hn l i) (Wn-2*i) (cellNo (X+i) (Y+i) ((Wn-2*i:Nat):Int) x y).toNat) (X+i+1) (Y+i+1) (Wn-2*i-2) ((Hn-2*i-2)*(Wn-2*i-2))
theorem stepsL_len (φ:Nat→Nat→Nat→Nat→Nat→Nat) (X Y:Int) (Wn Hn:Nat) (l:List Nat) (hn:l.length=Hn*Wn) (i:Nat):(stepsL φ X Y Wn Hn l i).length=(Hn-2*i)*(Wn-2*i):=by
 cases i with
 | zero=>simpa [stepsL] using hn
 | succ i =>
  show (madeL _ _ _ _ _).length=_
  rw [madeL_len,show Hn-2*(i+1)=Hn-2*i-2 from by omega,show Wn-2*(i+1)=Wn-2*i-2 from by omega]
theorem getD_all {P:Nat→Prop} (h0:P 0) {l:List Nat} (h:∀ x∈l,P x) (j:Nat):P (l.getD j 0):=by
 rcases Nat.lt_or_ge j l.length with hlt|hge
 ·rw [List.getD_eq_getElem?_getD,List.getElem?_eq_getElem hlt];exact h _ (List.getElem_mem hlt)
 ·rw [List.getD_eq_getElem?_getD,List.getElem?_eq_none hge];exact h0
theorem stepsL_all (P:Nat→Nat→Prop) (φ:Nat→Nat→Nat→Nat→Nat→Nat) (X Y:Int) (Wn Hn:Nat) (l:List Nat) (N:Nat) (h0:∀ i,P i 0) (hl:∀ x∈l,P 0 x)
  (hφ:∀ i,i<N→∀ n s e w v,P i n→P i s→P i e→P i w→P i v→P (i+1) (φ n s e w v)):∀ i,i≤N→∀ x∈stepsL φ X Y Wn Hn l i,P i x:=by
 intro i
 induction i with
 | zero=>exact fun _=>hl
 | succ i ih =>
  intro hi x hx
  have H:=getD_all (h0 i) (ih (by omega))
  change x∈madeL _ _ _ _ _ at hx
  unfold madeL at hx
  obtain ⟨k,_,rfl⟩:=List.mem_map.1 hx
  exact hφ i (by omega) _ _ _ _ _ (H _) (H _) (H _) (H _) (H _)
theorem steps_world (w:World) (X Y W H:Int) (v u:Value):∀ W0,W0=((w.alloc (.cells #[.int .i64 X,.int .i64 Y,.int .i64 W,.int .i64 H,v] 32)).alloc (.cells #[u] 183)).alloc (.cells #[.int .i64 0,.int .i64 0,.int .i64 0,.int .i64 0,.slice none 0 0] 32) →
  Fld W0 w.heap.size X Y W H v∧W0.cell? ⟨w.heap.size+1,0,none⟩=some u∧Fld W0 (w.heap.size+1+1) 0 0 0 0 (.slice none 0 0)∧Below w.heap.size w W0∧W0.heap.size=w.heap.size+3:=by
 rintro _ rfl
 refine ⟨((Fld.new w X Y W H v).alloc _).alloc _,by simp [go_sem],?_,qBl,by simp⟩
 have:=Fld.new ((w.alloc (.cells #[.int .i64 X,.int .i64 Y,.int .i64 W,.int .i64 H,v] 32)).alloc (.cells #[u] 183)) 0 0 0 0 (.slice none 0 0)
 simpa using this
set_option maxRecDepth 100000 in
theorem steps_no (N:Nat) (X Y:Int) (Wn Hn:Nat) (a:Option Addr) (n c:Nat) (w:World) (hw:1≤Wn) (hw2:Wn≤512) (hh:1≤Hn) (hh2:Hn≤512) (hN:N≤64) (hx0:-8388608≤X) (hx1:X≤8388608) (hy0:-8388608≤Y) (hy1:Y≤8388608)
  (h:Wn<1+2*N∨Hn<1+2*N) (fn:Nat) (caps:Array Value) :
  Calls Tryz.prog 165 #[fldV X Y Wn Hn a n c,.int .i64 N,.func (.func fn) #[] caps] w fun e w'=>e=.returned (.tuple #[fldV 0 0 0 0 none 0 0,.int .i64 10])∧Below w.heap.size w w':=by
 have K:=Lib.hid (fun w'=>smaller_no X Y Wn Hn N w' (by omega) (by omega) hx0 hx1 hy0 hy1 (by omega) (by omega) (by omega) (by omega) (by omega))
 clear h hx0 hx1 hy0 hy1 hw hh
 go_enter Tryz.func165,Tryz.ntmps165
 go_wp2_with fail
 generalize hW0:((w.alloc (.cells #[.int .i64 X,.int .i64 Y,.int .i64 Wn,.int .i64 Hn,.slice a n c] 32)).alloc (.cells #[.func (.func fn) #[] caps] 183)).alloc (.cells #[.int .i64 0,.int .i64 0,.int .i64 0,.int .i64 0,.slice none 0 0] 32)=W0 at *
 obtain ⟨_,_,F0,B0,z0⟩:=steps_world w X Y Wn Hn (.slice a n c) (.func (.func fn) #[] caps) W0 hW0.symm
 clear hW0
 refine (K.out _).mono ?_
 rintro e w1 ⟨rfl,b1⟩
 have F1:=F0.below b1 F0.lt
 have B1:=Lib.hid (B0.trans (b1.mono B0.size))
 clear b1 B0 F0
 obtain ⟨d0,d1,d2,d3,d4⟩:=F1.cells
 have qf0:=F1.frozen 0
 have qf1:=F1.frozen 1
 have qf2:=F1.frozen 2
 have qf3:=F1.frozen 3
 have qf4:=F1.frozen 4
 have l1:=F1.lt
 clear F1
 go_wp2_with fail
 have B2:=B1.out
 exact bodyPost_ret (v:=.tuple #[fldV 0 0 0 0 none 0 0,.int .i64 10]) (by simp [results,Tryz.results165,go_sem, *]) rfl ⟨rfl,(qBo B2)⟩
structure StepInv (w wr:World) (kt:Nat) (u:Value) (X Y W H:Int) (m:List Nat) (g cap:Nat):Prop where
 fo:Fld wr kt X Y W H (.slice (some ⟨g,0,none⟩) m.length cap)
 rz:Fld wr (w.heap.size+1+1) 0 0 0 0 (.slice none 0 0)
 fc:wr.cell? ⟨w.heap.size+1,0,none⟩=some u
 own:OwnF wr w.heap.size g cap m
 kg:w.heap.size+1+1<kt
 ne:g≠kt
 gr:w.heap.size+1+1<g
 below:Below w.heap.size w wr
theorem StepInv.upto {w wr w2:World} {kt:Nat} {u:Value} {X Y W H:Int} {m:List Nat} {g cap:Nat} (h:StepInv w wr kt u X Y W H m g cap) (hb:Below wr.heap.size wr w2):StepInv w w2 kt u X Y W H m g cap:=by
 have hk:=h.fo.lt
 have hg:=h.kg
 exact ⟨h.fo.below hb h.fo.lt,h.rz.below hb h.rz.lt,(hb.cell (p:=⟨w.heap.size+1,0,none⟩) (by simp;omega)).trans h.fc,h.own.below hb h.own.lt.2,h.kg,h.ne,h.gr,h.below.trans (hb.mono h.below.size)⟩
theorem StepInv.next {w wr:World} {kt:Nat} {u:Value} {X Y W H:Int} {m:List Nat} {g cap:Nat} (h:StepInv w wr kt u X Y W H m g cap) {X' Y' W' H':Int} {m':List Nat} {g' cap':Nat} (ho:OwnF wr w.heap.size g' cap' m') (hg:g'≠kt) (hr:w.heap.size+1+1<g') :
  ∀ W6,W6=((((wr.setCell ⟨kt,0,none⟩ (.int .i64 X')).setCell ⟨kt,1,none⟩ (.int .i64 Y')).setCell ⟨kt,2,none⟩ (.int .i64 W')).setCell ⟨kt,3,none⟩ (.int .i64 H')).setCell ⟨kt,4,none⟩ (.slice (some ⟨g',0,none⟩) m'.length cap') →
  StepInv w W6 kt u X' Y' W' H' m' g' cap':=by
 intro W6 e
 obtain ⟨f,b,oo,ff,z⟩:=fld_store wr kt X Y W H _ X' Y' W' H' (.slice (some ⟨g',0,none⟩) m'.length cap') h.fo W6 e
 have hk:=h.kg
 refine ⟨f,ff _ _ _ _ _ _ h.rz (by omega),?_,oo _ _ _ _ ho hg,hk,hg,hr,h.below.trans (b.mono (by omega))⟩
 exact (b.cell (p:=⟨w.heap.size+1,0,none⟩) (by simp;omega)).trans h.fc
set_option maxRecDepth 100000 in
set_option maxHeartbeats 4000000 in
theorem steps_yes (fn:Nat) (caps:Array Value) (φ:Nat→Nat→Nat→Nat→Nat→Nat) (P:Nat→Nat→Prop) (N:Nat) (X Y:Int) (Wn Hn:Nat) (b o c:Nat) (l:List Nat) (w:World) (hl:SRow w (some ⟨b,o,none⟩) l) (hn:l.length=Hn*Wn) (hw:1+2*N≤Wn) (hw2:Wn≤512) (hh:1+2*N≤Hn) (hh2:Hn≤512) (hN:N≤64) (hx0:-8388000≤X) (hx1:X≤8388000) (hy0:-8388000≤Y) (hy1:Y≤8388000)
  (eg:∀ args w,(callFunc fn args).run Tryz.prog w=.ok (.enter fn args) w)
  (h0:∀ i,P i 0) (hl0:∀ x∈l,P 0 x) (hφ:∀ i,i<N→∀ n s e w v,P i n→P i s→P i e→P i w→P i v→P (i+1) (φ n s e w v)) (hlt:∀ i x,P i x→x<4294967296)
  (hf:∀ i,i<N→∀ n s e wv v,P i n→P i s→P i e→P i wv→P i v→∀ W',Below w.heap.size w W'→Calls Tryz.prog fn (#[.agg #[.float .f32 n,.float .f32 s,.float .f32 e,.float .f32 wv,.float .f32 v]] ++ caps) W' fun e' w'=>e'=.returned (.float .f32 (φ n s e wv v))∧Below W'.heap.size W' w') :
  Calls Tryz.prog 165 #[fldV X Y Wn Hn (some ⟨b,o,none⟩) l.length c,.int .i64 N,.func (.func fn) #[] caps] w fun e w'=>ResP (X+N) (Y+N) (Wn-2*N:Nat) (Hn-2*N:Nat) (stepsL φ X Y Wn Hn l N) w e w':=by
 have K:=Lib.hid (fun w'=>smaller_ok X Y Wn Hn N w' (by omega) (by omega) (by omega) (by omega) (by omega) (by omega) (by omega) (by omega) (by omega) (by omega))
 have HF:=Lib.hid hf
 have HL:=Lib.hid hl
 have HP:=Lib.hid (stepsL_all P φ X Y Wn Hn l N h0 hl0 hφ)
 have HQ:=Lib.hid (stepsL_len φ X Y Wn Hn l hn)
 have HH:=Lib.hid hlt
 have HZ:=Lib.hid h0
 have ne:l≠[]:=by
  rintro rfl
  have:=Nat.mul_le_mul (show 1≤Hn by omega) (show 1≤Wn by omega)
  simp at hn;omega
 have KC:=Lib.hid (fun w' hl=>copy_any X Y Wn Hn b o c l w' hl ne)
 have HS:=Lib.hid hφ
 have hll:l.length≤1099511627776:=hl.1.1
 clear hf hl hl0 hφ hlt h0 ne hn
 go_enter Tryz.func165,Tryz.ntmps165
 go_wp2_with fail
 generalize hW0:((w.alloc (.cells #[.int .i64 X,.int .i64 Y,.int .i64 Wn,.int .i64 Hn,.slice (some ⟨b,o,none⟩) l.length c] 32)).alloc (.cells #[.func (.func fn) #[] caps] 183)).alloc (.cells #[.int .i64 0,.int .i64 0,.int .i64 0,.int .i64 0,.slice none 0 0] 32)=W0 at *
 obtain ⟨E0,c0,F0,B0,z0⟩:=steps_world w X Y Wn Hn (.slice (some ⟨b,o,none⟩) l.length c) (.func (.func fn) #[] caps) W0 hW0.symm
 clear hW0
 refine (K.out _).mono ?_
 rintro e w1 ⟨rfl,b1⟩
 have E1:=E0.below b1 E0.lt
 have F1:=Lib.hid (F0.below b1 F0.lt)
 have FC:=Lib.hid ((b1.cell (p:=⟨w.heap.size+1,0,none⟩) (by simp;omega)).trans c0)
 have B1:=Lib.hid (B0.trans (b1.mono B0.size))
 have l1:=E1.lt
 have z1:W0.heap.size≤w1.heap.size:=b1.size
 clear b1 B0 F0 E0 c0
 obtain ⟨d0,d1,d2,d3,d4⟩:=E1.cells
 clear E1
 go_wp2_with fail
 generalize hW2:w1.alloc (.cells #[.int .i64 (X+N),.int .i64 (Y+N),.int .i64 (Wn-2*N),.int .i64 (Hn-2*N)] 26)=W2 at *
 have B2:Below w1.heap.size w1 W2:=by subst hW2;exact qBl
 have F2:=F1.out.below B2 F1.out.lt
 have FC2:=Lib.hid ((B2.cell (p:=⟨w.heap.size+1,0,none⟩) (by simp;omega)).trans FC.out)
 have HB2:=Lib.hid (B1.out.trans (B2.mono B1.out.size))
 have z2:w1.heap.size≤W2.heap.size:=B2.size
 clear hW2 B2 F1 FC B1 d0 d1 d2 d3 d4
 refine (KC.out _ (HL.out.below HB2.out)).mono ?_
 rintro e w3 ⟨g,cap,rfl,ho,b3⟩
 have F3:=F2.below b3 F2.lt
 have FC3:=Lib.hid ((b3.cell (p:=⟨w.heap.size+1,0,none⟩) (by simp;omega)).trans FC2.out)
 have HB3:=Lib.hid (HB2.out.trans (b3.mono HB2.out.size))
 have z3:W2.heap.size≤w3.heap.size:=b3.size
 have HO3:=Lib.hid ho
 have HF3:=Lib.hid F3
 clear F3 F2 FC2 HB2 b3 ho KC HL K
 go_wp2_with fail
 generalize hW4:w3.alloc (.cells #[.int .i64 X,.int .i64 Y,.int .i64 Wn,.int .i64 Hn,.slice (some ⟨g,0,none⟩) l.length cap] 32)=W4 at *
 have I0:StepInv w W4 w3.heap.size (.func (.func fn) #[] caps) X Y Wn Hn l g cap:=by
  subst hW4
  have h1:=HO3.out.lt
  have hb:=HB3.out
  exact ⟨Fld.new _ _ _ _ _ _,HF3.out.alloc _,((show Below w3.heap.size w3 (w3.alloc (.cells #[.int .i64 X,.int .i64 Y,.int .i64 Wn,.int .i64 Hn,.slice (some ⟨g,0,none⟩) l.length cap] 32)) from qBl).cell (p:=⟨w.heap.size+1,0,none⟩) (by simp;omega)).trans FC3.out,(HO3.out.base (by omega)).alloc _,by omega,by omega,by omega,(qBo hb)⟩
 clear hW4 HO3 HB3 HF3 FC3
 have J0:=Lib.hid I0
 have hk0:Hid (w.heap.size+1+1<w3.heap.size):=I0.kg
 clear I0
 clear z0 z1 z2 z3 l1
 generalize w3.heap.size=kt at *
 generalize w1.heap.size=kr at *
 go_loopw [28] (fun vi wr=>∃ i:Nat,i≤N∧vi=.int .i64 i∧∃ g cap,StepInv w wr kt (.func (.func fn) #[] caps) (X+i) (Y+i) (Wn-2*i:Nat) (Hn-2*i:Nat) (stepsL φ X Y Wn Hn l i) g cap) (fun vi _=>(N-intOf vi).toNat)
 case atStart=>exact ⟨0,by omega,rfl,g,cap,by simpa [stepsL] using J0.out⟩
 case round =>
  obtain ⟨i,hi,rfl,g,cap,I⟩:=hrel
  clear J0
  by_cases hlt:i<N
  ·have hm1:Hid ((stepsL φ X Y Wn Hn l i).length=(Hn-2*i)*(Wn-2*i)):=HQ.out i
   have hP:Hid (∀ j,P i ((stepsL φ X Y Wn Hn l i).getD j 0)):=getD_all (HZ.out i) (HP.out i hi)
   have hsu:Hid (stepsL φ X Y Wn Hn l (i+1)=madeL (fun x y=>nbr φ (stepsL φ X Y Wn Hn l i) (Wn-2*i) (cellNo (X+i) (Y+i) ((Wn-2*i:Nat):Int) x y).toNat) (X+i+1) (Y+i+1) (Wn-2*i-2) ((Hn-2*i-2)*(Wn-2*i-2))):=rfl
   have hw1:Hid (Wn-2*(i+1)=Wn-2*i-2∧Hn-2*(i+1)=Hn-2*i-2∧X+((i+1:Nat):Int)=X+i+1∧Y+((i+1:Nat):Int)=Y+i+1):=⟨by omega,by omega,by omega,by omega⟩
   have x0:-8388000≤X+(i:Int):=by omega
   have x1:X+(i:Int)≤8388100:=by omega
   have y0:-8388000≤Y+(i:Int):=by omega
   have y1:Y+(i:Int)≤8388100:=by omega
   have w1:3≤Wn-2*i:=by omega
   have w2:Wn-2*i≤512:=by omega
   have h1:3≤Hn-2*i:=by omega
   have h2:Hn-2*i≤512:=by omega
   generalize hm2:stepsL φ X Y Wn Hn l (i+1)=m2 at *
   have HM2:=Lib.hid hm2
   clear hm2
   generalize stepsL φ X Y Wn Hn l i=m at *
   generalize X+(i:Int)=Xi at *
   generalize Y+(i:Int)=Yi at *
   generalize Wn-2*i=Wi at *
   generalize Hn-2*i=Hi at *
   have hml:m.length≤1099511627776:=by rw [hm1.out];have:=Nat.mul_le_mul h2 w2;omega
   have KS:Hid (∀ w',Calls Tryz.prog 179 #[reg Xi Yi Wi Hi,.int .i64 1] w' fun e w''=>e=.returned (.tuple #[reg (Xi+1) (Yi+1) ((Wi-2:Nat):Int) ((Hi-2:Nat):Int),.int .i64 0])∧Below w'.heap.size w' w''):=by
    intro w'
    have:=smaller_ok Xi Yi Wi Hi 1 w' (by omega) (by omega) (by omega) (by omega) (by omega) (by omega) (by omega) (by omega) (by omega) (by omega)
    rw [show (Wi:Int)-2*1=((Wi-2:Nat):Int) from by omega,show (Hi:Int)-2*1=((Hi-2:Nat):Int) from by omega] at this
    exact this
   obtain ⟨c0,c1,c2,c3,c4⟩:=I.fo.cells
   have kl:=I.fo.lt
   have HI:=Lib.hid I
   clear I
   go_wp2_with fail
   generalize hWR:wr.alloc (.cells #[.int .i64 Xi,.int .i64 Yi,.int .i64 Wi,.int .i64 Hi,.slice (some ⟨g,0,none⟩) m.length cap] 32)=WR at *
   have BR:Below wr.heap.size wr WR:=by subst hWR;exact qBl
   have FR:Fld WR wr.heap.size Xi Yi Wi Hi (.slice (some ⟨g,0,none⟩) m.length cap):=by subst hWR;exact Fld.new _ _ _ _ _ _
   have HI1:=Lib.hid (HI.out.upto BR)
   clear hWR BR HI c0 c1 c2 c3 c4
   have kl1:Hid (kt<wr.heap.size):=kl
   generalize wr.heap.size=kf at *
   refine (KS.out _).mono ?_
   rintro e w5 ⟨rfl,b5⟩
   have HI2:=Lib.hid (HI1.out.upto b5)
   have F5:=FR.below b5 FR.lt
   have HF5:=Lib.hid F5
   have lf5:kf<w5.heap.size:=F5.lt
   clear b5 FR F5 HI1
   obtain ⟨c0,c1,c2,c3,c4⟩:=HF5.out.cells
   go_wp2_with fail
   generalize hW6:w5.alloc (.cells #[.int .i64 (Xi+1),.int .i64 (Yi+1),.int .i64 ((Wi-2:Nat):Int),.int .i64 ((Hi-2:Nat):Int)] 26)=W6 at *
   have B6:Below w5.heap.size w5 W6:=by subst hW6;exact qBl
   have HI3:=Lib.hid (HI2.out.upto B6)
   have HF6:=Lib.hid (HF5.out.below B6 lf5)
   clear hW6 B6 HI2 HF5 c0 c1 c2 c3 c4
   have hrow:Hid (SRow W6 (some ⟨g,0,none⟩) m):=HI3.out.own.row hml
   refine (make_any 180 #[.pointer (some ⟨w.heap.size+1,0,none⟩),.pointer (some ⟨kf,0,none⟩)] (fun x y=>nbr φ m Wi (cellNo Xi Yi Wi x y).toNat) (Xi+1) (Yi+1) (Wi-2) (Hi-2) W6 (by omega) (by omega) (by omega) (by omega) (by omega) (by omega) (by omega) (by omega) (enters_of Tryz.func180 (by kernel_rfl) rfl) ?_ ?_).mono ?_
   ·intro x y _ _ _ _
    exact HH.out (i+1) _ (HS.out i hlt _ _ _ _ _ (hP.out _) (hP.out _) (hP.out _) (hP.out _) (hP.out _))
   ·intro x y g1 g2 g3 g4 W' hb
    have hk0:cellNo Xi Yi Wi x y=((cellNo Xi Yi Wi x y).toNat:Int)∧Wi≤(cellNo Xi Yi Wi x y).toNat∧(cellNo Xi Yi Wi x y).toNat+Wi<m.length:=by
     have e1:=Int.mul_le_mul_of_nonneg_right (show 1≤y-Yi by omega) (show (0:Int)≤Wi by omega)
     have e2:=Int.mul_le_mul_of_nonneg_right (show y-Yi≤(Hi:Int)-2 by omega) (show (0:Int)≤Wi by omega)
     have e3:(m.length:Int)=(Hi:Int)*Wi:=by rw [hm1.out,Int.natCast_mul]
     have e4:((Hi:Int)-2)*(Wi:Int)=(Hi:Int)*Wi-2*Wi:=Int.sub_mul _ _ _
     unfold cellNo
     omega
    obtain ⟨hk,hk1,hk2⟩:=hk0
    have I':=HI3.out.upto hb
    exact stepfn_any fn caps φ Xi Yi Wi Hi x y g 0 cap (cellNo Xi Yi Wi x y).toNat (w.heap.size+1) kf m W' (hrow.out.below hb) (by omega) (by omega) (by omega) (by omega) (by omega) (by omega) (by omega) (by omega) (by omega) (by omega) hk hk1 hk2 eg (HF6.out.below hb HF6.out.lt) I'.fc (by have:=I'.rz.lt;omega)
     (fun W'' hb2=>HF.out i hlt _ _ _ _ _ (hP.out _) (hP.out _) (hP.out _) (hP.out _) (hP.out _) W'' (I'.below.trans (hb2.mono I'.below.size)))
   rintro e w7 hM
   rw [←hsu.out] at hM
   obtain ⟨⟨g',cap',rfl,ho'⟩,b7⟩:=hM
   have I7:=HI3.out.upto b7
   have HI7:=Lib.hid I7
   have hgz:kt<W6.heap.size:=HI3.out.fo.lt
   have hbz:w.heap.size≤W6.heap.size:=HI3.out.below.size
   have hgk:Hid (g'≠kt∧w.heap.size+1+1<g'):=by have:=ho'.lt;have:=HI3.out.kg;unfold Hid;omega
   have HO7:=Lib.hid (ho'.base hbz)
   clear b7 ho' HI3 HF6 hrow KS lf5
   have F7:=I7.fo
   clear I7
   obtain ⟨c0,c1,c2,c3,c4⟩:=F7.cells
   have qf0:=F7.frozen 0
   have qf1:=F7.frozen 1
   have qf2:=F7.frozen 2
   have qf3:=F7.frozen 3
   have qf4:=F7.frozen 4
   have kl7:=F7.lt
   clear F7
   go_wp2_with fail
   go_roundw
   case rel =>
    refine ⟨i+1,by omega,by go_num,g',cap',?_⟩
    obtain ⟨e1,e2,e3,e4⟩:=hw1.out
    rw [e1,e2,e3,e4]
    rw [HM2.out]
    exact HI7.out.next HO7.out hgk.out.1 hgk.out.2 _ rfl
   case measure=>simp [intOf];omega
  ·obtain rfl:i=N:=by omega
   have hm1:=HQ.out i
   have hml:(stepsL φ X Y Wn Hn l i).length≤1099511627776:=by
    rw [hm1];have:=Nat.mul_le_mul (show Hn-2*i≤512 by omega) (show Wn-2*i≤512 by omega);omega
   clear hm1 HP HQ HS HF HH HZ
   generalize hmq:stepsL φ X Y Wn Hn l i=m at *
   have HMQ:=Lib.hid hmq
   clear hmq
   have ey:=Lib.hid (rfl:X+(i:Int)=X+(i:Int))
   obtain ⟨Xi,hXi⟩:∃ Xi:Int,X+(i:Int)=Xi:=⟨_,rfl⟩
   obtain ⟨Yi,hYi⟩:∃ Yi:Int,Y+(i:Int)=Yi:=⟨_,rfl⟩
   obtain ⟨Wi,hWi⟩:∃ Wi:Nat,Wn-2*i=Wi:=⟨_,rfl⟩
   obtain ⟨Hi,hHi⟩:∃ Hi:Nat,Hn-2*i=Hi:=⟨_,rfl⟩
   rw [hXi,hYi,hWi,hHi] at I
   have HXE:Hid (X+(i:Int)=Xi∧Y+(i:Int)=Yi∧Wn-2*i=Wi∧Hn-2*i=Hi):=⟨hXi,hYi,hWi,hHi⟩
   clear hXi hYi hWi hHi ey
   obtain ⟨c0,c1,c2,c3,c4⟩:=I.fo.cells
   have kl:=I.fo.lt
   have HR3:=Lib.hid (I.own.row hml)
   have HI:=Lib.hid I
   clear I
   cases hh:allHt m with
   | true =>
    have HH:=Lib.hid hh
    go_wp2_with fail
    refine (result_ok Xi Yi Wi Hi g 0 cap m wr HR3.out ?_).mono ?_
    ·intro j hj
     have:=Ieee.Format.allHt_iff.1 HH.out (m.getD j 0) (by rw [List.getD_eq_getElem?_getD,List.getElem?_eq_getElem hj];exact List.getElem_mem hj)
     exact this
    rintro e w4 ⟨rfl,hb4⟩
    have I4:=HI.out.upto hb4
    have F4:=I4.rz
    have O4:=I4.own
    have gr4:=I4.gr
    have B4:=I4.below
    clear hh hb4 I4 c0 c1 c2 c3 c4
    obtain ⟨d0,d1,d2,d3,d4⟩:=F4.cells
    have qf0:=F4.frozen 0
    have qf1:=F4.frozen 1
    have qf2:=F4.frozen 2
    have qf3:=F4.frozen 3
    have qf4:=F4.frozen 4
    go_wp2_with fail
    obtain rfl:=HMQ.out
    obtain ⟨x1,x2,x3,x4⟩:=HXE.out
    refine bodyPost_ret (v:=.tuple #[fldV Xi Yi Wi Hi (some ⟨g,0,none⟩) (stepsL φ X Y Wn Hn l i).length cap,.int .i64 0]) (by simp [results,Tryz.results165,go_sem, *]) rfl ⟨fun _=>⟨g,cap,by rw [x1,x2,x3,x4],(by have hgg:=O4.lt;repeat (first|with_reducible exact O4|with_reducible refine OwnF.drew ?_|with_reducible refine OwnF.drewN ?_ _|(with_reducible refine OwnF.setCell ?_ ?_ _;rotate_left;focus (first|omega|(simp<;>omega)))|with_reducible refine OwnF.alloc ?_ _))⟩,fun h=>absurd (HH.out.symm.trans h) (by decide),(qBo B4)⟩
   | false =>
    have HH:=Lib.hid hh
    go_wp2_with fail
    refine (result_no Xi Yi Wi Hi g 0 cap m wr HR3.out hh).mono ?_
    rintro e w4 ⟨rfl,hb4⟩
    have I4:=HI.out.upto hb4
    have F4:=I4.rz
    have B4:=I4.below
    clear hh hb4 I4 c0 c1 c2 c3 c4
    obtain ⟨d0,d1,d2,d3,d4⟩:=F4.cells
    have qf0:=F4.frozen 0
    have qf1:=F4.frozen 1
    have qf2:=F4.frozen 2
    have qf3:=F4.frozen 3
    have qf4:=F4.frozen 4
    go_wp2_with fail
    obtain rfl:=HMQ.out
    refine bodyPost_ret (v:=.tuple #[fldV 0 0 0 0 none 0 0,.int .i64 3]) (by simp [results,Tryz.results165,go_sem, *]) rfl ⟨fun h=>absurd (HH.out.symm.trans h) (by decide),fun _=>rfl,(qBo B4)⟩
end Go.Proofs.YtmggflgdoioajaaGreat
namespace Go.Proofs.YtmggflgdoioajaaGreat
open Go.Shelf
open Go.ChangeShapes Go.WideShapes Go.ChangeAt Go.RowKit
open Ieee.Format (fin finE htE allFin allHt all_true all_false mulF subF addF Ht)
end Go.Proofs.YtmggflgdoioajaaGreat
namespace Go.Proofs.YtmggflgdoioajaaGreat
open Go.Shelf
open Go.ChangeShapes Go.WideShapes Go.ChangeAt Go.RowKit
open Ieee.Format (fin finE htE allFin allHt all_true all_false mulF subF addF Ht)
end Go.Proofs.YtmggflgdoioajaaGreat
namespace Go.Proofs.YtmggflgdoioajaaGreat
open Go.ChangeShapes Go.WideShapes Go.ChangeAt Go.RowKit
open Ieee.Format (fin finE htE allFin allHt all_true all_false mulF subF addF Ht Bd divF rootF floorF easeF mixF)
def movedF (T R a b:Nat):Nat:=if gtr (subF a b) T=true then mulF (subF (subF a b) T) R else 0
structure WearOk (T R:Nat):Prop where
 t:Bd 20 T
 t0:0≤Ieee.single.V T
 r:fin Ieee.single R
 r0:0≤Ieee.single.V R
 r1:Ieee.single.V R≤Ieee.P2 (-3)
theorem WearOk.of {T R:Nat} {n:Int} (h:wearE T R n=0):WearOk T R∧0≤n∧n≤64:=by
 unfold wearE at h
 by_cases h1:htE [T]=0
 ·rw [if_neg (by omega)] at h
  have ht:=htE_one h1
  cases h2:lss T 0 with
  | true=>rw [h2,if_pos rfl] at h;omega
  | false =>
   rw [h2,if_neg (by decide)] at h
   by_cases h3:finE [R]=0
   ·rw [if_neg (by omega)] at h
    have hr:=finE_one h3
    cases h4:lss R 0 with
    | true=>rw [h4,if_pos rfl] at h;omega
    | false =>
     rw [h4,if_neg (by decide)] at h
     cases h5:gtr R 1040187392 with
     | true=>rw [h5,if_pos rfl] at h;omega
     | false =>
      rw [h5,if_neg (by decide)] at h
      rw [lss_V ht.fin Ieee.Format.const_0.1,Ieee.Format.const_0.2.1] at h2
      rw [lss_V hr Ieee.Format.const_0.1,Ieee.Format.const_0.2.1] at h4
      rw [gtr_V hr Ieee.Format.const_eighth.1,Ieee.Format.const_eighth.2.1] at h5
      have g2:=of_decide_eq_false h2
      have g4:=of_decide_eq_false h4
      have g5:=of_decide_eq_false h5
      refine ⟨⟨Ieee.Format.Ht.bd ht,by grind,hr,by grind,by grind⟩,?_⟩
      by_cases h6:n<0
      ·rw [if_pos h6] at h;omega
      ·by_cases h7:64<n
       ·rw [if_neg h6,if_pos h7] at h;omega
       ·omega
   ·rw [if_pos h3] at h;omega
 ·rw [if_pos h1] at h;omega
theorem moved_bd {k T R a b:Nat} (hw:WearOk T R) (ha:Bd k a) (hb:Bd k b) (hk:20≤k) (hk2:k≤80) :
  Bd (k+1) (subF a b)∧Bd (k+2) (subF (subF a b) T)∧fin Ieee.single (mulF (subF (subF a b) T) R)∧Bd k (movedF T R a b):=by
 have a1:=ha.sub hb (by omega)
 have a2:=a1.sub (hw.t.mono (show 20≤k+1 by omega)) (by omega)
 have p3:=Ieee.P2_pos (-3)
 have a3:Bd (k-1) (mulF (subF (subF a b) T) R):=Ieee.Format.Bd.less (j:=3) (by rw [show k-1+3=k+2 by omega];exact a2) hw.r ⟨by have:=hw.r0;simp only [Int.cast_ofNat_Int];grind,hw.r1⟩ (by omega)
 refine ⟨a1,a2,a3.1,?_⟩
 unfold movedF
 split
 ·exact a3.mono (by omega)
 ·exact (Ieee.Format.Ht.bd (show Ht 0 by decide)).mono hk
theorem moved_any (k T R a b:Nat) (n:Int) (w:World) (hw:WearOk T R) (ha:Bd k a) (hb:Bd k b) (hk:20≤k) (hk2:k≤80) :
  Calls Tryz.prog 167 #[wearV T R n,.float .f32 a,.float .f32 b] w fun e w'=>e=.returned (.float .f32 (movedF T R a b))∧Below w.heap.size w w':=by
 obtain ⟨b1,b2,b3,b4⟩:=moved_bd hw ha hb hk hk2
 have k1:=fun w'=>run_float_arith (P:=Tryz.prog) w' .sub 48 .f32 a b (subF a b) (Ieee.Format.bits_sub ha.1 hb.1)
 have k2:=fun w'=>run_float_arith (P:=Tryz.prog) w' .sub 48 .f32 (subF a b) T (subF (subF a b) T) (Ieee.Format.bits_sub b1.1 hw.t.1)
 have k3:=fun w'=>run_float_arith (P:=Tryz.prog) w' .mul 48 .f32 (subF (subF a b) T) R (mulF (subF (subF a b) T) R) (Ieee.Format.bits_mul b2.1 hw.r)
 clear b1 b2 b3 b4 ha hb hw hk hk2
 unfold movedF
 generalize mulF (subF (subF a b) T) R=z3 at *
 generalize subF (subF a b) T=z2 at *
 generalize subF a b=z1 at *
 cases h:gtr z1 T with
 | true =>
  change (FloatKind.f32.format.order z1 T == some .gt)=true at h
  rw [if_pos rfl]
  go_enter Tryz.func167,Tryz.ntmps167
  go_wp2
  go_ret
  exact ⟨rfl,qBl⟩
 | false =>
  change (FloatKind.f32.format.order z1 T == some .gt)=false at h
  rw [if_neg (by decide)]
  go_enter Tryz.func167,Tryz.ntmps167
  go_wp2
  go_ret
  exact ⟨rfl,qBl⟩
def pick4 (n w e s:Nat):Nat→Nat
 | 0=>n
 | 1=>w
 | 2=>e
 | _=>s
def subT (T R v n w e s:Nat):Nat→Nat
 | 0=>v
 | k+1=>subF (subT T R v n w e s k) (movedF T R v (pick4 n w e s k))
def addT (T R v n w e s:Nat):Nat→Nat
 | 0=>subT T R v n w e s 4
 | k+1=>addF (addT T R v n w e s k) (movedF T R (pick4 n w e s k) v)
def thermalF (T R n s e w v:Nat):Nat:=addT T R v n w e s 4
theorem pick4_bd {K n w e s:Nat} (hn:Bd K n) (hw:Bd K w) (he:Bd K e) (hs:Bd K s) (k:Nat):Bd K (pick4 n w e s k):=by
 match k with
 | 0=>exact hn
 | 1=>exact hw
 | 2=>exact he
 | _+3=>exact hs
theorem subT_bd {K T R v n w e s:Nat} (hW:WearOk T R) (hn:Bd K n) (hs:Bd K s) (he:Bd K e) (hw:Bd K w) (hv:Bd K v) (hk:20≤K) (hk2:K≤76):∀ k,k≤4→Bd (K+k) (subT T R v n w e s k)
 | 0,_=>hv
 | k+1,h=>by
  have a:=subT_bd hW hn hs he hw hv hk hk2 k (by omega)
  have b:=(moved_bd hW hv (pick4_bd hn hw he hs k) hk (by omega)).2.2.2
  exact a.sub (b.mono (by omega)) (by omega)
theorem addT_bd {K T R v n w e s:Nat} (hW:WearOk T R) (hn:Bd K n) (hs:Bd K s) (he:Bd K e) (hw:Bd K w) (hv:Bd K v) (hk:20≤K) (hk2:K≤76):∀ k,k≤4→Bd (K+4+k) (addT T R v n w e s k)
 | 0,_=>subT_bd hW hn hs he hw hv hk hk2 4 (by omega)
 | k+1,h=>by
  have a:=addT_bd hW hn hs he hw hv hk hk2 k (by omega)
  have b:=(moved_bd hW (pick4_bd hn hw he hs k) hv hk (by omega)).2.2.2
  exact a.add (b.mono (by omega)) (by omega)
def Blk (w:World) (k:Nat) (cs:Array Value) (t:TypeId):Prop:=w.heap[k]?=some (.cells cs t (0,0))
theorem Blk.lt {w:World} {k:Nat} {cs:Array Value} {t:TypeId} (h:Blk w k cs t):k<w.heap.size:=by
 rcases Nat.lt_or_ge k w.heap.size with hlt|hge
 ·exact hlt
 ·unfold Blk at h;rw [Array.getElem?_eq_none hge] at h;cases h
theorem Blk.cell {w:World} {k:Nat} {cs:Array Value} {t:TypeId} (h:Blk w k cs t) (i:Nat):w.cell? ⟨k,i,none⟩=cs[i]?:=cell_of_row w k i _ _ _ h
theorem Blk.frozen {w:World} {k:Nat} {cs:Array Value} {t:TypeId} (h:Blk w k cs t) (i:Nat):w.frozen? ⟨k,i,none⟩=false:=frozen_of_row w k i _ _ h
theorem Blk.below {w w':World} {B k:Nat} {cs:Array Value} {t:TypeId} (h:Blk w k cs t) (hb:Below B w w') (hk:k<B):Blk w' k cs t:=(hb.block k hk).trans h
theorem Blk.new (w:World) (cs:Array Value) (t:TypeId):Blk (w.alloc (.cells cs t)) w.heap.size cs t:=heap_alloc_new w _
theorem Blk.alloc {w:World} {k:Nat} {cs:Array Value} {t:TypeId} (h:Blk w k cs t) (o:Obj):Blk (w.alloc o) k cs t:=(Below.heap_alloc w o k h.lt).trans h
theorem Blk.drew {w:World} {k:Nat} {cs:Array Value} {t:TypeId} (h:Blk w k cs t):Blk w.drew k cs t:=h
theorem Blk.drewN {w:World} {k:Nat} {cs:Array Value} {t:TypeId} (h:Blk w k cs t) (n:Nat):Blk (w.drewN n) k cs t:=h
theorem Blk.setCell {w:World} {k:Nat} {cs:Array Value} {t:TypeId} (h:Blk w k cs t) {p:Addr} (hp:k≠p.block) (u:Value):Blk (w.setCell p u) k cs t:=(Below.heap_setCell w p u k hp).trans h
abbrev WearAt (w:World) (p:Nat) (T R:Nat) (n:Int):Prop:=Blk w p #[.float .f32 T,.float .f32 R,.int .i64 n] 104
theorem WearAt.cells {w:World} {p T R:Nat} {n:Int} (h:WearAt w p T R n):w.cell? ⟨p,0,none⟩=some (.float .f32 T)∧w.cell? ⟨p,1,none⟩=some (.float .f32 R)∧w.cell? ⟨p,2,none⟩=some (.int .i64 n):=⟨h.cell 0,h.cell 1,h.cell 2⟩
theorem ret_f {x y:Nat} (h:x=y):Ending.returned (.float .f32 x)=.returned (.float .f32 y):=by rw [h]
set_option maxRecDepth 100000 in
set_option maxHeartbeats 2000000 in
theorem thermfn_any (K T R n s e w v p:Nat) (st:Int) (W:World) (hW:WearOk T R) (hn:Bd K n) (hs:Bd K s) (he:Bd K e) (hw:Bd K w) (hv:Bd K v) (hk:20≤K) (hk2:K≤76) (hp:WearAt W p T R st) :
  Calls Tryz.prog 166 #[.agg #[.float .f32 n,.float .f32 s,.float .f32 e,.float .f32 w,.float .f32 v],.pointer (some ⟨p,0,none⟩)] W fun en w'=>en=.returned (.float .f32 (thermalF T R n s e w v))∧Below W.heap.size W w':=by
 have KM1:=Lib.hid (fun k w'=>moved_any K T R v (pick4 n w e s k) st w' hW hv (pick4_bd hn hw he hs k) hk (by omega))
 have KM2:=Lib.hid (fun k w'=>moved_any K T R (pick4 n w e s k) v st w' hW (pick4_bd hn hw he hs k) hv hk (by omega))
 have KA1:=Lib.hid (fun k (h:k<4) w'=>run_float_arith (P:=Tryz.prog) w' .sub 48 .f32 (subT T R v n w e s k) (movedF T R v (pick4 n w e s k)) (subT T R v n w e s (k+1)) (Ieee.Format.bits_sub (subT_bd hW hn hs he hw hv hk hk2 k (by omega)).1 (moved_bd hW hv (pick4_bd hn hw he hs k) hk (by omega)).2.2.2.1))
 have KA2:=Lib.hid (fun k (h:k<4) w'=>run_float_arith (P:=Tryz.prog) w' .add 48 .f32 (addT T R v n w e s k) (movedF T R (pick4 n w e s k) v) (addT T R v n w e s (k+1)) (Ieee.Format.bits_add (addT_bd hW hn hs he hw hv hk hk2 k (by omega)).1 (moved_bd hW (pick4_bd hn hw he hs k) hv hk (by omega)).2.2.2.1))
 have HP:=Lib.hid (hp.alloc (.cells #[.float .f32 n,.float .f32 s,.float .f32 e,.float .f32 w,.float .f32 v] 175))
 have B0:Below W.heap.size W (W.alloc (.cells #[.float .f32 n,.float .f32 s,.float .f32 e,.float .f32 w,.float .f32 v] 175)):=qBl
 have HB0:=Lib.hid B0
 have hNb:=Blk.new W #[.float .f32 n,.float .f32 s,.float .f32 e,.float .f32 w,.float .f32 v] 175
 have HN:=Lib.hid hNb
 have HZ:Hid (thermalF T R n s e w v=addT T R v n w e s 4):=rfl
 have HS4:Hid (addT T R v n w e s 0=subT T R v n w e s 4):=rfl
 have HS0:Hid (subT T R v n w e s 0=v):=rfl
 generalize thermalF T R n s e w v=z at *
 have idx0:∀ w',(Instr.index 181 (.agg #[.float .f32 n,.float .f32 w,.float .f32 e,.float .f32 s]) (.int .i64 0)).run Tryz.prog w'=.ok (.float .f32 n) w':=fun _=>by kernel_rfl
 have idx1:∀ w',(Instr.index 181 (.agg #[.float .f32 n,.float .f32 w,.float .f32 e,.float .f32 s]) (.int .i64 1)).run Tryz.prog w'=.ok (.float .f32 w) w':=fun _=>by kernel_rfl
 have idx2:∀ w',(Instr.index 181 (.agg #[.float .f32 n,.float .f32 w,.float .f32 e,.float .f32 s]) (.int .i64 2)).run Tryz.prog w'=.ok (.float .f32 e) w':=fun _=>by kernel_rfl
 have idx3:∀ w',(Instr.index 181 (.agg #[.float .f32 n,.float .f32 w,.float .f32 e,.float .f32 s]) (.int .i64 3)).run Tryz.prog w'=.ok (.float .f32 s) w':=fun _=>by kernel_rfl
 clear hn hs he hw hv hW hp B0 hNb
 go_enter Tryz.func166,Tryz.ntmps166
 go_wp2_with fail
 have HQ:Hid (subT T R v n w e s 0=v):=rfl
 generalize W.alloc (.cells #[.float .f32 n,.float .f32 s,.float .f32 e,.float .f32 w,.float .f32 v] 175)=W0 at *
 go_loopw [4,20] (fun acc i wr=>∃ k:Nat,k≤4∧i=.int .i64 k∧acc=.float .f32 (subT T R v n w e s k)∧Below W.heap.size W wr∧WearAt wr p T R st∧Blk wr W.heap.size #[.float .f32 n,.float .f32 s,.float .f32 e,.float .f32 w,.float .f32 v] 175) (fun _ i _=>4-(intOf i).toNat)
 case atStart=>exact ⟨0,by omega,rfl,by rw [HQ.out],HB0.out,HP.out,HN.out⟩
 case round =>
  clear HP HN HB0
  obtain ⟨k,hk4,rfl,rfl,hB,hP,hN⟩:=hrel
  obtain ⟨p0,p1,p2⟩:=hP.cells
  obtain ⟨n0,n1,n2,n3,n4⟩:=Nb5.cells hN
  have HB:=Lib.hid hB
  have HP:=Lib.hid hP
  have HN:=Lib.hid hN
  clear hB hP hN
  by_cases hlt:k<4
  ·have KM:=Lib.hid (KM1.out k)
   have KA:=KA1.out k hlt
   have hidx:∀ w',(Instr.index 181 (.agg #[.float .f32 n,.float .f32 w,.float .f32 e,.float .f32 s]) (.int .i64 (k:Int))).run Tryz.prog w'=.ok (.float .f32 (pick4 n w e s k)) w':=by
    match k,hlt with
    | 0,_=>exact idx0
    | 1,_=>exact idx1
    | 2,_=>exact idx2
    | 3,_=>exact idx3
   generalize pick4 n w e s k=o at *
   go_wp2_with fail
   refine (KM.out _).mono ?_
   rintro en w2 ⟨rfl,b2⟩
   have P2:=HP.out.below b2 HP.out.lt
   have N2:=HN.out.below b2 HN.out.lt
   have B2:=HB.out.trans (b2.mono HB.out.size)
   have HP2:=Lib.hid P2
   have HN2:=Lib.hid N2
   have HB2:=Lib.hid B2
   clear P2 N2 B2 b2
   go_wp2_with fail
   go_roundw
   case rel=>exact ⟨k+1,by omega,by go_num,rfl,HB2.out,HP2.out,HN2.out⟩
   case measure=>simp [intOf];omega
  ·obtain rfl:k=4:=by omega
   clear KM1 KA1
   generalize hq4:subT T R v n w e s 4=q4 at *
   have HQ4:=Lib.hid hq4
   clear hq4 hlt hk4
   go_wp2_with fail
   go_loopw [4,40] (fun acc i wr=>∃ k:Nat,k≤4∧i=.int .i64 k∧acc=.float .f32 (addT T R v n w e s k)∧Below W.heap.size W wr∧WearAt wr p T R st∧Blk wr W.heap.size #[.float .f32 n,.float .f32 s,.float .f32 e,.float .f32 w,.float .f32 v] 175) (fun _ i _=>4-(intOf i).toNat)
   case atStart=>exact ⟨0,by omega,rfl,by rw [HS4.out],HB.out,HP.out,HN.out⟩
   case round =>
    clear HP HN HB p0 p1 p2 n0 n1 n2 n3 n4
    obtain ⟨k,hk4,rfl,rfl,hB,hP,hN⟩:=hrel
    obtain ⟨p0,p1,p2⟩:=hP.cells
    obtain ⟨n0,n1,n2,n3,n4⟩:=Nb5.cells hN
    have HB:=Lib.hid hB
    have HP:=Lib.hid hP
    have HN:=Lib.hid hN
    clear hB hP hN
    by_cases hlt:k<4
    ·have KM:=Lib.hid (KM2.out k)
     have KA:=KA2.out k hlt
     have hidx:∀ w',(Instr.index 181 (.agg #[.float .f32 n,.float .f32 w,.float .f32 e,.float .f32 s]) (.int .i64 (k:Int))).run Tryz.prog w'=.ok (.float .f32 (pick4 n w e s k)) w':=by
      match k,hlt with
      | 0,_=>exact idx0
      | 1,_=>exact idx1
      | 2,_=>exact idx2
      | 3,_=>exact idx3
     generalize pick4 n w e s k=o at *
     go_wp2_with fail
     refine (KM.out _).mono ?_
     rintro en w2 ⟨rfl,b2⟩
     have P2:=HP.out.below b2 HP.out.lt
     have N2:=HN.out.below b2 HN.out.lt
     have B2:=HB.out.trans (b2.mono HB.out.size)
     have HP2:=Lib.hid P2
     have HN2:=Lib.hid N2
     have HB2:=Lib.hid B2
     clear P2 N2 B2 b2
     go_wp2_with fail
     go_roundw
     case rel=>first|exact ⟨k+1,by omega,by go_num,rfl,HB2.out,HP2.out,HN2.out⟩|((repeat apply Exists.intro);exact ⟨⟨k+1,by omega,by go_num,rfl,HB2.out,HP2.out,HN2.out⟩,rfl⟩)
     case measure=>simp [intOf];omega
    ·obtain rfl:k=4:=by omega
     go_wp2_with fail
     go_ret
     exact ⟨ret_f HZ.out.symm,HB.out⟩
open Ieee.Format (addF_lt)
theorem box_fbz (w:World) (X Y W H:Int) (v:Value) (cs:Array Value) (t:TypeId):∀ W0,W0=((w.alloc (.cells #[.int .i64 X,.int .i64 Y,.int .i64 W,.int .i64 H,v] 32)).alloc (.cells cs t)).alloc (.cells #[.int .i64 0,.int .i64 0,.int .i64 0,.int .i64 0,.slice none 0 0] 32) →
  Fld W0 w.heap.size X Y W H v∧Blk W0 (w.heap.size+1) cs t∧Fld W0 (w.heap.size+1+1) 0 0 0 0 (.slice none 0 0)∧Below w.heap.size w W0∧W0.heap.size=w.heap.size+3:=by
 rintro _ rfl
 refine ⟨((Fld.new w X Y W H v).alloc _).alloc _,?_,?_,qBl,by simp⟩
 ·have:=(Blk.new (w.alloc (.cells #[.int .i64 X,.int .i64 Y,.int .i64 W,.int .i64 H,v] 32)) cs t).alloc (.cells #[.int .i64 0,.int .i64 0,.int .i64 0,.int .i64 0,.slice none 0 0] 32)
  simpa using this
 ·have:=Fld.new ((w.alloc (.cells #[.int .i64 X,.int .i64 Y,.int .i64 W,.int .i64 H,v] 32)).alloc (.cells cs t)) 0 0 0 0 (.slice none 0 0)
  simpa using this
theorem OutV.base {c X Y W H:Int} {m:List Nat} {w:World} {B B':Nat} {x y p q:Int} {a:Option Addr} {n k:Nat} (h:OutV c X Y W H m w B x y p q a n k) (hb:B'≤B):OutV c X Y W H m w B' x y p q a n k:=by
 rcases h with h|⟨h0,h1,h2,h3,h4,g,h5,h6,h7⟩
 ·exact .inl h
 ·exact .inr ⟨h0,h1,h2,h3,h4,g,h5,h6,h7.base hb⟩
def thermC (T R:Nat) (X Y:Int) (Wn Hn:Nat) (l:List Nat) (N:Nat):Int:=
 if Wn<1+2*N∨Hn<1+2*N then 10 else if allHt (stepsL (thermalF T R) X Y Wn Hn l N)=true then 0 else 3
open Ieee.Format (floor_spec whole_int frac_bd frac_zero const_40)
theorem run_floor64 (X:Nat) (s:Bool) (m:Nat) (i:Int) (hd:FloatKind.decode .f64 X=.number s m i) (w:World):(callFunc 171 #[.float .f64 X]).run Tryz.prog w=.ok (.value (.float .f64 (FloatKind.encode .f64 (Ieee.Datum.integral .down (.number s m i))))) w:=by
 rw [run_callFunc_extern Tryz.func171 (by kernel_rfl) (by kernel_rfl) (by kernel_rfl) (show _=some (Extern.MathFloor.toIntegral "math.archFloor" .down) by kernel_rfl)]
 have e:Extern.MathFloor.toIntegral "math.archFloor" .down #[.float .f64 X]=pure (.float .f64 (FloatKind.encode .f64 (Ieee.Datum.integral .down (.number s m i)))):=by
  change (match FloatKind.f64.decode X with | .nan s t=>_|d=>(pure (.float .f64 (FloatKind.encode .f64 (Ieee.Datum.integral .down d))):Sem Value))=_
  rw [hd]
 rw [e];rfl
theorem mathfloor_any (X:Nat) (s:Bool) (m:Nat) (i:Int) (hd:FloatKind.decode .f64 X=.number s m i) (w:World):Calls Tryz.prog 133 #[.float .f64 X] w fun e w'=>e=.returned (.float .f64 (FloatKind.encode .f64 (Ieee.Datum.integral .down (.number s m i))))∧w=w':=by
 have K:=run_floor64 X s m i hd
 clear hd
 generalize FloatKind.encode .f64 (Ieee.Datum.integral .down (.number s m i))=Z at *
 go_enter Tryz.func133,Tryz.ntmps133
 go_wp2
 go_ret
 exact ⟨rfl,rfl⟩
theorem floor_any (x:Nat) (hx:fin Ieee.single x) (hl:x<4294967296) (w:World):Calls Tryz.prog 87 #[.float .f32 x] w fun e w'=>e=.returned (.float .f32 (floorF x))∧w=w':=by
 obtain ⟨X,s,m,i,a,b,c,_⟩:=floor_spec hx hl
 have ka:=fun w=>run_convert_float_float (P:=Tryz.prog) w 48 74 .f32 .f64 x X (by kernel_rfl) Tryz.underlying74 a
 have kc:=fun w=>run_convert_float_float (P:=Tryz.prog) w 74 48 .f64 .f32 _ (floorF x) (by kernel_rfl) Tryz.underlying48 c
 have KS:=Lib.hid (fun w=>mathfloor_any X s m i b w)
 generalize FloatKind.encode .f64 (Ieee.Datum.integral .down (.number s m i))=Z at *
 generalize floorF x=r at *
 clear a b c hx hl
 go_enter Tryz.func87,Tryz.ntmps87
 go_wp2_with fail
 refine (KS.out _).mono ?_
 rintro e w' ⟨rfl,rfl⟩
 go_wp2_with fail
 go_ret
 exact ⟨rfl,rfl⟩
def floorZ (x:Nat):Int:=(floatToIntVal .f32 (floorF x) .i64).getD 0
theorem floorZ_spec {x:Nat} (hx:fin Ieee.single x) (hl:x<4294967296) (h1:-Ieee.P2 40≤Ieee.single.V x) (h2:Ieee.single.V x≤Ieee.P2 40) :
  floatToIntVal .f32 (floorF x) .i64=some (floorZ x)∧Ieee.single.V (floorF x)=(floorZ x:Rat)∧(floorZ x:Rat)≤Ieee.single.V x∧Ieee.single.V x<(floorZ x:Rat)+1∧-1099511627776≤floorZ x∧floorZ x≤1099511627776:=by
 obtain ⟨X,s,m,i,_,_,_,hf,_,z,g1,g2,g3⟩:=floor_spec hx hl
 have e40:Ieee.P2 40=((1099511627776:Int):Rat):=Ieee.P2_nat 40
 have b1:z≤1099511627776:=by
  have:(z:Rat)≤((1099511627776:Int):Rat):=by rw [←e40];grind
  exact Rat.intCast_le_intCast.1 this
 have b2:-1099511627776<z+1:=by
  have:((-1099511627776:Int):Rat)<((z+1:Int):Rat):=by
   rw [Rat.intCast_add,show (-1099511627776:Int)=-(1099511627776:Int) from rfl,Rat.intCast_neg,←e40]
   have:((1:Int):Rat)=1:=rfl
   grind
  exact Rat.intCast_lt_intCast.1 this
 have hw:=whole_int hf g1 (by omega) (by omega)
 have e:floorZ x=z:=by unfold floorZ;rw [hw];rfl
 rw [e]
 exact ⟨hw,g1,g2,g3,by omega,b1⟩
open Ieee.Format (const_0 const_1 const_m24 frac_bd floor_spec add_nonneg sub_nonneg div_bound div_nonneg)
def sel2 (soft d:Nat):Nat:=if lss d soft=true then subF 1065353216 (easeF (divF d soft)) else 0
def selF (lo hi soft v:Nat):Nat:=if lss v lo=true then sel2 soft (subF lo v) else if gtr v hi=true then sel2 soft (subF v hi) else 1065353216
structure SelOk (soft D:Nat):Prop where
 d:fin Ieee.single D
 s:fin Ieee.single soft
 pos:lss D soft=true→0<Ieee.single.V soft
 sh:lss D soft=true→Share (divF D soft)
 e:lss D soft=true→fin Ieee.single (easeF (divF D soft))
 r:lss D soft=true→fin Ieee.single (subF 1065353216 (easeF (divF D soft)))
 ht:Ht (sel2 soft D)
theorem sel_ok {soft d:Nat} (hd:fin Ieee.single d) (d0:0≤Ieee.single.V d) (hs:fin Ieee.single soft):SelOk soft d:=by
 have key:lss d soft=true→0<Ieee.single.V soft∧Share (divF d soft)∧fin Ieee.single (easeF (divF d soft))∧fin Ieee.single (subF 1065353216 (easeF (divF d soft)))∧Ht (subF 1065353216 (easeF (divF d soft))):=by
  intro h
  rw [lss_V hd hs] at h
  have h:=of_decide_eq_true h
  have p:0<Ieee.single.V soft:=by grind
  have m1:Ieee.single.V 1065353216*Ieee.single.V soft=Ieee.single.V soft:=by rw [const_1.2.1,Rat.one_mul]
  obtain ⟨q1,q2,q3⟩:=div_bound hd hs p const_1.1 const_1.2.2 (by rw [m1];grind) (by rw [m1];grind)
  have q4:=div_nonneg hd hs p q1 d0
  rw [const_1.2.1] at q2
  obtain ⟨_,_,_,e1,e2,e3⟩:=Ieee.Format.ease_ok q1 q4 q2
  have hr:=(Ieee.Format.subF_spec const_1.1 e1).2
  have b:=hr.bd (k:=0) (by omega) (by rw [const_1.2.1];show _≤Ieee.P2 0;rw [Ieee.P2_zero];grind) (by rw [const_1.2.1];show -Ieee.P2 0≤_;rw [Ieee.P2_zero];grind)
  have hm:=Ieee.P2_mono (show (0:Int)≤20 by omega)
  have b2:=b.2
  exact ⟨p,⟨q1,q4,q2⟩,e1,b.1,Ieee.Format.Ht.of ⟨by have:=b2.1;simp only [Int.cast_ofNat_Int] at this;grind,by have:=b2.2;simp only [Int.cast_ofNat_Int] at this;grind⟩⟩
 refine ⟨hd,hs,fun h=>(key h).1,fun h=>(key h).2.1,fun h=>(key h).2.2.1,fun h=>(key h).2.2.2.1,?_⟩
 unfold sel2
 split
 ·rename_i h;exact (key h).2.2.2.2
 ·decide
theorem sel_lo {lo hi v:Nat} (soft:Nat) (hlo:Ht lo) (hv:Ht v) (hs:Ht soft) (h:lss v lo=true):SelOk soft (subF lo v):=by
 have b:=(Ieee.Format.Ht.bd hlo).sub (Ieee.Format.Ht.bd hv) (by omega)
 rw [lss_V hv.fin hlo.fin] at h
 have h:=of_decide_eq_true h
 exact sel_ok b.1 (sub_nonneg hlo.fin hv.fin b.1 (by grind)) hs.fin
theorem sel_hi {lo hi v:Nat} (soft:Nat) (hhi:Ht hi) (hv:Ht v) (hs:Ht soft) (h:gtr v hi=true):SelOk soft (subF v hi):=by
 have b:=(Ieee.Format.Ht.bd hv).sub (Ieee.Format.Ht.bd hhi) (by omega)
 rw [gtr_V hv.fin hhi.fin] at h
 have h:=of_decide_eq_true h
 exact sel_ok b.1 (sub_nonneg hv.fin hhi.fin b.1 (by grind)) hs.fin
theorem selF_ht {lo hi soft v:Nat} (hlo:Ht lo) (hhi:Ht hi) (hs:Ht soft) (hv:Ht v):Ht (selF lo hi soft v):=by
 unfold selF
 split
 ·rename_i h;exact (sel_lo (hi:=hi) soft hlo hv hs h).ht
 ·split
  ·rename_i h;exact (sel_hi (lo:=lo) soft hhi hv hs h).ht
  ·decide
theorem selF_lt (lo hi soft v:Nat):selF lo hi soft v<4294967296:=by
 have h:∀ d,sel2 soft d<4294967296:=by
  intro d;unfold sel2;split
  ·exact Ieee.Format.subF_lt _ _
  ·decide
 unfold selF
 split
 ·exact h _
 ·split
  ·exact h _
  ·decide
def ter1 (step v:Nat):Nat:=divF v step
def ter2 (step v:Nat):Nat:=floorF (ter1 step v)
def ter3 (step v:Nat):Nat:=subF (ter1 step v) (ter2 step v)
def ter4 (step sharp v:Nat):Nat:=divF (subF (ter3 step v) sharp) (subF 1065353216 sharp)
def terF (step sharp v:Nat):Nat:=if lss (ter3 step v) sharp=true then mulF (ter2 step v) step else mulF (addF (ter2 step v) (ter4 step sharp v)) step
structure TerOk (step sharp:Nat):Prop where
 st:Bd 10 step
 st1:Ieee.P2 (-10)≤Ieee.single.V step
 sh:fin Ieee.single sharp
 sh0:0≤Ieee.single.V sharp
 sh1:Ieee.single.V sharp<1
theorem sharp_gap {s:Nat} (hs:fin Ieee.single s) (h0:0≤Ieee.single.V s) (h1:Ieee.single.V s<1):Ieee.single.V s≤1-Ieee.P2 (-24):=by
 have e:Ieee.single.V s=Ieee.single.rv (Ieee.single.rung s)∨Ieee.single.V s=0:=by
  unfold Ieee.Format.V at *
  have n:=Ieee.single.rv_nonneg (Ieee.single.rung s)
  cases hh:Ieee.single.sgn s
  ·left;simp [Ieee.sg]
  ·right;rw [hh] at h0;simp only [Ieee.sg,if_true] at h0 ⊢;grind
 have p:=Ieee.P2_lt (show (-24:Int)<0 by omega)
 rw [Ieee.P2_zero] at p
 rcases e with e|e
 ·have c1:Ieee.single.rv 1065353216=1:=by
   have:=const_1.2.1
   rw [Ieee.Format.V_pos_word const_1.2.2] at this
   exact this
  rw [e,←c1] at h1
  have hr:=Ieee.single.rv_lt_iff.1 h1
  have hm:=Ieee.single.rv_mono (show Ieee.single.rung s≤1065353215 by omega)
  have c2:=Ieee.single.rv_succ 1065353215
  rw [show 1065353215+1=1065353216 from rfl,c1,show Ieee.single.rplace 1065353215=-24 from by decide] at c2
  rw [e];grind
 ·rw [e];grind
theorem ter_bd {step sharp v:Nat} (h:TerOk step sharp) (hv:Bd 20 v) :
  Bd 30 (ter1 step v)∧Bd 31 (ter2 step v)∧Bd 0 (ter3 step v)∧Bd 41 (mulF (ter2 step v) step)∧Bd 1 (subF (ter3 step v) sharp)∧fin Ieee.single (subF 1065353216 sharp)∧Ieee.single.V (subF 1065353216 sharp)≠0∧Bd 25 (ter4 step sharp v)∧Bd 32 (addF (ter2 step v) (ter4 step sharp v))∧Bd 42 (mulF (addF (ter2 step v) (ter4 step sharp v)) step)∧ter1 step v<4294967296:=by
 have a1:Bd 30 (ter1 step v):=Ieee.Format.Bd.div (j:=10) hv h.st.1 h.st1 (by omega)
 have l1:ter1 step v<4294967296:=Ieee.Format.divF_lt _ _
 have a2:Bd 31 (ter2 step v):=by
  obtain ⟨X,s,m,i,_,_,_,hf,_,z,g1,g2,g3⟩:=floor_spec a1.1 l1
  refine ⟨hf,?_⟩
  rw [show ter2 step v=floorF (ter1 step v) from rfl,g1]
  have b:=a1.2
  have p30:=Ieee.P2_succ 30
  have p0:=Ieee.P2_mono (show (0:Int)≤30 by omega)
  rw [Ieee.P2_zero] at p0
  simp only [Int.cast_ofNat_Int] at b ⊢
  rw [show (31:Int)=30+1 from rfl,p30]
  constructor<;>grind
 obtain ⟨a3,_⟩:=frac_bd a1.1 l1
 have a4:=a2.mul h.st (by omega)
 have p0:Bd 0 sharp:=⟨h.sh,by
  have:=h.sh0;have:=h.sh1
  show -Ieee.P2 0≤_∧_≤Ieee.P2 0
  rw [Ieee.P2_zero];constructor<;>grind⟩
 have a5:=Ieee.Format.Bd.sub (k:=0) a3 p0 (by omega)
 have o0:Bd 0 1065353216:=Ieee.Format.one_Bd 0
 have a6:=o0.sub p0 (by omega)
 have gap:=sharp_gap h.sh h.sh0 h.sh1
 have pp:=Ieee.P2_pos (-24)
 have a7:Ieee.P2 (-24)≤Ieee.single.V (subF 1065353216 sharp):=by
  have:=(Ieee.Format.subF_spec const_1.1 h.sh).2.ge_const (c:=864026624) a6.1 const_m24.2.2 (by rw [const_m24.2.1];exact pp) (by rw [const_m24.2.1,const_1.2.1];grind)
  rw [const_m24.2.1] at this;exact this
 have a8:Bd 25 (ter4 step sharp v):=Ieee.Format.Bd.div (j:=24) a5 a6.1 a7 (by omega)
 have a9:=a2.add (a8.mono (show 25≤31 by omega)) (by omega)
 exact ⟨a1,a2,a3,a4,a5,a6.1,by intro e;rw [e] at a7;grind,a8,a9,a9.mul h.st (by omega),l1⟩
theorem terF_lt (step sharp v:Nat):terF step sharp v<4294967296:=by
 unfold terF;split<;>exact Ieee.Format.mulF_lt _ _
end Go.Proofs.YtmggflgdoioajaaGreat
