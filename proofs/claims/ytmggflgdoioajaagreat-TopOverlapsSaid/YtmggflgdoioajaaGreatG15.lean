import Derived.Test.YtmggflgdoioajaaGreatG14
import Derived.BigQuiet
import Derived.Deep.CutBlock
import Derived.Deep.QuietTactic
import Derived.Deep.DeepCutAuto
import Derived.Lib.SmallJoins
import Derived.OpenShut
import Derived.WalkLawsBesides
import Derived.Deep.Slices
import Derived.Deep.Fields
import Derived.ChangeSame
import Derived.StillTailTactics
import Derived.IntWalk
import Derived.Lib.MinMax
set_option linter.unusedSimpArgs false
set_option linter.unusedVariables false
namespace Go.Proofs.YtmggflgdoioajaaGreat
open Go.ChangeShapes Go.WideShapes Go.ChangeAt Go.RowKit
open Ieee.Format (fin finE htE allFin allHt all_true all_false mulF subF addF Ht Bd divF rootF floorF easeF mixF)
open Ieee.Format (reachF)
theorem esd_zero {i c:Int} (h:sdE i c=0):c=0:=by
 unfold sdE at h
 split at h
 ·exact h
 ·omega
theorem eshift_zero {i j:Int} (h:shiftE i j=0):(-64≤i∧i≤64)∧(-64≤j∧j≤64):=by
 unfold shiftE wB at h
 split at h
 ·rename_i h1
  split at h
  ·rename_i h2
   simp at h1 h2
   exact ⟨h1,h2⟩
  ·omega
 ·omega
theorem rng_zero {i hi:Int} (h:rngE i hi=0):0≤i∧i≤hi:=by
 unfold rngE wB at h
 split at h
 ·rename_i h1;simpa using h1
 ·omega
theorem mxF_ub {a b c d B:Int} (ha:a≤B) (hb:b≤B) (hc:c≤B) (hd:d≤B):mxF a b c d≤B:=by
 unfold mxF
 dsimp only
 repeat' split
 all_goals omega
theorem elen1 {α:Type} {l:List α} (h:l.length=1):∃ a,l=[a]:=by
 match l,h with
 | [a],_=>exact ⟨a,rfl⟩
theorem elen2 {α:Type} {l:List α} (h:l.length=2):∃ a b,l=[a,b]:=by
 match l,h with
 | [a,b],_=>exact ⟨a,b,rfl⟩
theorem elen3 {α:Type} {l:List α} (h:l.length=3):∃ a b c,l=[a,b,c]:=by
 match l,h with
 | [a,b,c],_=>exact ⟨a,b,c,rfl⟩
theorem elen4 {α:Type} {l:List α} (h:l.length=4):∃ a b c d,l=[a,b,c,d]:=by
 match l,h with
 | [a,b,c,d],_=>exact ⟨a,b,c,d,rfl⟩
def NodeP (w:World) (s:ByteArray) (ia:Option Addr) (nin cin:Nat) (la:Option Addr) (nI cI:Nat) (ra:Option Addr) (nR cR:Nat):Prop:=
 ∃ e1 e2:Int,(∀ w',Below w.heap.size w w'→Calls Tryz.prog 39 #[ndV s ia nin cin la nI cI ra nR cR] w' fun e w''=>e=.returned (.int .i64 e1)∧Below w'.heap.size w' w'') ∧
  (e1=0→∀ w',Below w.heap.size w w'→Calls Tryz.prog 40 #[ndV s ia nin cin la nI cI ra nR cR] w' fun e w''=>e=.returned (.int .i64 e2)∧Below w'.heap.size w' w'') ∧
  (e1=0→nin≤3) ∧
  (e1=0→e2=0→∃ (m:Nat) (z:Int) (G:Fs→Int→Int→Nat) (ex:Fs→Int→Int→Prop),z=m∧m≤2049 ∧
   (∀ w',Below w.heap.size w w'→Calls Tryz.prog 44 #[ndV s ia nin cin la nI cI ra nR cR] w' fun e w''=>e=.returned (.int .i64 z)∧Below w'.heap.size w' w'')∧EvOk w s ia nin cin la nI cI ra nR cR m G ex)
set_option maxHeartbeats 4000000 in
theorem node_all (s:ByteArray) (hs:s.size≤maxLen) (ia:Option Addr) (nin cin:Nat) (la:Option Addr) (nI cI:Nat) (ra:Option Addr) (nR cR:Nat) (w:World)
  (hI:nI≤4→∃ I:List Int,I.length=nI∧ZRow w la I) (hR:nR≤225→∃ L:List Nat,L.length=nR∧SRow w ra L):NodeP w s ia nin cin la nI cI ra nR cR:=by
 by_cases hk:s.toList=kwKernel
 ·by_cases h1:nI=1
  ·obtain ⟨I,hl,hI⟩:=hI (by omega)
   subst h1
   obtain ⟨k,rfl⟩:=elen1 hl
   obtain ⟨b,o,rfl⟩:=hI.some
   by_cases he:fmE s.toList nin 1 nR k=0
   ·have hz:=hk
    have he2:=he
    rw [hk] at he2
    unfold fmE at he2
    obtain ⟨f1,f2,f3,f4⟩:=kern_fm
    rw [f1,f2,f4,if_neg (by decide)] at he2
    by_cases e1:(nin:Int)≠1
    ·rw [if_pos e1] at he2;omega
    ·rw [if_neg e1,if_neg (by simp),if_pos (by rfl)] at he2
     cases hS:sideB k with
     | false=>rw [hS,if_pos rfl] at he2;omega
     | true =>
      rw [hS,if_neg (by decide)] at he2
      have hq:(nR:Int)=k*k:=by
       by_cases hq:(nR:Int)=k*k
       ·exact hq
       ·rw [if_pos hq] at he2;omega
      have hS2:=hS
      unfold sideB at hS
      simp at hS
      have m1:=Int.mul_le_mul hS.1.2 hS.1.2 (by omega) (by omega:(0:Int)≤15)
      have m2:=Int.mul_le_mul hS.1.1 hS.1.1 (by omega) (by omega:(0:Int)≤k)
      obtain ⟨L,rfl,hR2⟩:=hR (by omega)
      obtain ⟨rb,ro,rfl⟩:∃ rb ro,ra=some (Addr.mk rb ro none):=by
       rcases hR2.2 with h|⟨rb,ro,h,_⟩
       ·rw [h] at hq;simp at hq;omega
       ·exact ⟨rb,ro,h⟩
      obtain rfl:nin=1:=by omega
      have CF:∀ w',Below w.heap.size w w'→Calls Tryz.prog 39 #[ndV s ia 1 cin (some ⟨b,o,none⟩) 1 cI (some ⟨rb,ro,none⟩) L.length cR] w' fun e w''=>e=.returned (.int .i64 0)∧Below w'.heap.size w' w'':=fun w' hb=>by
       have:=checkform_k1 s hs ia 1 cin b o cI (some ⟨rb,ro,none⟩) L.length cR hk k w' (hI.below hb)
       rw [he] at this;exact this
      have sq:=Int.tmod_eq_emod_of_nonneg (a:=k) (b:=2) (by omega)
      have sm:k=2*(((k-1) / 2).toNat:Nat)+1:=by have:=hS.2;omega
      by_cases hE:htE L=0
      ·exact ⟨0,0,CF,fun _ w' hb=>num_plain s ia 1 cin (some ⟨b,o,none⟩) 1 cI (some ⟨rb,ro,none⟩) cR L w' (by rw [hz];rfl) (by rw [hz];rfl) (by rw [hz];rfl) (by rw [hz];rfl) (by rw [hz];rfl) (by rw [hz];rfl) (by rw [hz];rfl) (by rw [hz];rfl) (by rw [hz];rfl) (by rw [hz];rfl) (by rw [hz];rfl) (by rw [hz];rfl) (by rw [hz];rfl) (by rw [hz];rfl) (by rw [hz];rfl) (hR2.below hb) hE,fun _=>by omega,fun _ _=>⟨((k-1) / 2).toNat,(k-1) / 2,_,_,by omega,by omega,fun w' hb=>mar_kernel s ia 1 cin b o cI L.length cR (some ⟨rb,ro,none⟩) k w' hk hS.1.1 hS.1.2 (hI.below hb),
        in_kernel (hz:=hz) (hI:=hI) (hR:=hR2) (hk:=sm) (hm:=by omega) (hL:=hq) (hE:=hE) ..⟩⟩
      ·exact ⟨0,htE L,CF,fun _ w' hb=>num_bad s ia 1 cin (some ⟨b,o,none⟩) 1 cI (some ⟨rb,ro,none⟩) cR L w' (hR2.below hb) hE,fun _=>by omega,fun _ hc=>absurd hc hE⟩
   ·exact ⟨_,0,fun w' hb=>checkform_k1 s hs ia nin cin b o cI ra nR cR hk k w' (hI.below hb),fun h=>absurd h he,fun h=>absurd h he,fun h=>absurd h he⟩
  ·have he:fmE s.toList nin nI nR 0≠0:=by
    rw [hk]
    obtain ⟨f1,f2,f3,f4⟩:=kern_fm
    unfold fmE
    rw [f1,f2,f4,if_neg (by decide)]
    by_cases h:(nin:Int)=1
    ·rw [if_neg (by omega),if_pos (by omega)];decide
    ·rw [if_pos h];decide
   exact ⟨_,0,fun w' hb=>checkform_k s hs ia nin cin la nI cI ra nR cR hk h1 0 w',fun h=>absurd h he,fun h=>absurd h he,fun h=>absurd h he⟩
 ·have hz0:(s.toList == kwKernel)=false:=by simpa using hk
  have CF:∀ w',Below w.heap.size w w'→Calls Tryz.prog 39 #[ndV s ia nin cin la nI cI ra nR cR] w' fun e w''=>e=.returned (.int .i64 (fmE s.toList nin nI nR 0))∧Below w'.heap.size w' w'':=fun w' hb=>checkform_o s hs ia nin cin la nI cI ra nR cR hz0 w'
  by_cases he:fmE s.toList nin nI nR 0=0
  ·rw [he] at CF
   unfold fmE at he
   rcases fmT_all s.toList with ⟨x,hx,hz,e⟩|⟨e,_⟩
   ·obtain ⟨f1,f2,f3,f4⟩:=fm_of e
    rw [f1,f2,f3,f4,hz0] at he
    have q2:(nin:Int)=x.2.1∧(nI:Int)=x.2.2.1∧(nR:Int)=x.2.2.2:=by
     rw [if_neg (by decide)] at he
     by_cases g1:(nin:Int)≠x.2.1
     ·rw [if_pos g1] at he;omega
     ·rw [if_neg g1] at he
      by_cases g2:(nI:Int)=x.2.2.1
      ·rw [if_neg (by simpa using g2),if_neg (by decide)] at he
       by_cases g3:(nR:Int)=x.2.2.2
       ·exact ⟨by omega,g2,g3⟩
       ·rw [if_pos g3] at he;omega
      ·rw [if_pos g2] at he;omega
    clear he e f1 f2 f3 f4
    simp only [tabS,List.mem_cons,List.not_mem_nil,or_false] at hx
    rcases hx with rfl|rfl|rfl|rfl|rfl|rfl|rfl|rfl|rfl|rfl|rfl|rfl|rfl|rfl|rfl|rfl|rfl|rfl|rfl|rfl|rfl|rfl|rfl|rfl|rfl|rfl|rfl|rfl
    ·dsimp only at q2 hz
     obtain rfl:nin=0:=by omega
     obtain rfl:nI=0:=by omega
     obtain rfl:nR=1:=by omega
     obtain ⟨I,hl,hI⟩:=hI (by omega)
     obtain ⟨L,hl2,hR⟩:=hR (by omega)
     obtain rfl:=List.length_eq_zero_iff.1 hl
     obtain ⟨r0,rfl⟩:=elen1 hl2
     obtain ⟨rb,ro,rfl⟩:∃ rb ro,ra=some (Addr.mk rb ro none):=by
      rcases hR.2 with h|⟨rb,ro,h,_⟩
      ·cases h
      ·exact ⟨rb,ro,h⟩
     by_cases hE:htE [r0]=0
     ·exact ⟨0,0,CF,fun _ w' hb=>num_plain s ia 0 cin la 0 cI (some ⟨rb,ro,none⟩) cR [r0] w' (by rw [hz];rfl) (by rw [hz];rfl) (by rw [hz];rfl) (by rw [hz];rfl) (by rw [hz];rfl) (by rw [hz];rfl) (by rw [hz];rfl) (by rw [hz];rfl) (by rw [hz];rfl) (by rw [hz];rfl) (by rw [hz];rfl) (by rw [hz];rfl) (by rw [hz];rfl) (by rw [hz];rfl) (by rw [hz];rfl) (hR.below hb) hE,fun _=>by omega,fun _ _=>⟨0,0,_,_,rfl,by omega,fun w' hb=>mar_none s ia 0 cin 0 cI 1 cR la (some ⟨rb,ro,none⟩) w' (by rw [hz];rfl) (by rw [hz];rfl) (by rw [hz];rfl) (by rw [hz];rfl) (by rw [hz];rfl) (by rw [hz];rfl) (by rw [hz];rfl) (by rw [hz];rfl) (by rw [hz];rfl),in_const (hz:=hz) (hI:=hI) (hR:=hR) (hE:=hE) ..⟩⟩
     ·exact ⟨0,htE [r0],CF,fun _ w' hb=>num_bad s ia 0 cin la 0 cI (some ⟨rb,ro,none⟩) cR [r0] w' (hR.below hb) hE,fun _=>by omega,fun _ hc=>absurd hc hE⟩
    ·dsimp only at q2 hz
     obtain rfl:nin=0:=by omega
     obtain rfl:nI=4:=by omega
     obtain rfl:nR=1:=by omega
     obtain ⟨I,hl,hI⟩:=hI (by omega)
     obtain ⟨L,hl2,hR⟩:=hR (by omega)
     obtain ⟨i0,i1,i2,i3,rfl⟩:=elen4 hl
     obtain ⟨b,o,rfl⟩:=hI.some
     obtain ⟨r0,rfl⟩:=elen1 hl2
     obtain ⟨rb,ro,rfl⟩:∃ rb ro,ra=some (Addr.mk rb ro none):=by
      rcases hR.2 with h|⟨rb,ro,h,_⟩
      ·cases h
      ·exact ⟨rb,ro,h⟩
     by_cases hE:htE [r0]=0
     ·refine ⟨0,sdE i1 (frE i0 i2 i3 r0),CF,fun _ w' hb=>num_noise s ia 0 cin b o cI rb ro cR i0 i1 i2 i3 r0 w' hz (hI.below hb) (hR.below hb) hE,fun _=>by omega,fun _ hc=>?_⟩
      exact ⟨0,0,_,_,rfl,by omega,fun w' hb=>mar_none s ia 0 cin 4 cI 1 cR (some ⟨b,o,none⟩) (some ⟨rb,ro,none⟩) w' (by rw [hz];rfl) (by rw [hz];rfl) (by rw [hz];rfl) (by rw [hz];rfl) (by rw [hz];rfl) (by rw [hz];rfl) (by rw [hz];rfl) (by rw [hz];rfl) (by rw [hz];rfl),in_noise (hz:=hz) (hI:=hI) (hR:=hR) (hE:=esd_zero hc) ..⟩
     ·exact ⟨0,htE [r0],CF,fun _ w' hb=>num_bad s ia 0 cin (some ⟨b,o,none⟩) 4 cI (some ⟨rb,ro,none⟩) cR [r0] w' (hR.below hb) hE,fun _=>by omega,fun _ hc=>absurd hc hE⟩
    ·dsimp only at q2 hz
     obtain rfl:nin=0:=by omega
     obtain rfl:nI=1:=by omega
     obtain rfl:nR=1:=by omega
     obtain ⟨I,hl,hI⟩:=hI (by omega)
     obtain ⟨L,hl2,hR⟩:=hR (by omega)
     obtain ⟨i0,rfl⟩:=elen1 hl
     obtain ⟨b,o,rfl⟩:=hI.some
     obtain ⟨r0,rfl⟩:=elen1 hl2
     obtain ⟨rb,ro,rfl⟩:∃ rb ro,ra=some (Addr.mk rb ro none):=by
      rcases hR.2 with h|⟨rb,ro,h,_⟩
      ·cases h
      ·exact ⟨rb,ro,h⟩
     by_cases hE:htE [r0]=0
     ·refine ⟨0,sdE i0 (shareE r0),CF,fun _ w' hb=>num_speckle s ia 0 cin b o cI rb ro cR i0 r0 w' hz (hI.below hb) (hR.below hb) hE,fun _=>by omega,fun _ hc=>?_⟩
      exact ⟨0,0,_,_,rfl,by omega,fun w' hb=>mar_none s ia 0 cin 1 cI 1 cR (some ⟨b,o,none⟩) (some ⟨rb,ro,none⟩) w' (by rw [hz];rfl) (by rw [hz];rfl) (by rw [hz];rfl) (by rw [hz];rfl) (by rw [hz];rfl) (by rw [hz];rfl) (by rw [hz];rfl) (by rw [hz];rfl) (by rw [hz];rfl),in_speckle (hz:=hz) (hI:=hI) (hR:=hR) (hE:=esd_zero hc) ..⟩
     ·exact ⟨0,htE [r0],CF,fun _ w' hb=>num_bad s ia 0 cin (some ⟨b,o,none⟩) 1 cI (some ⟨rb,ro,none⟩) cR [r0] w' (hR.below hb) hE,fun _=>by omega,fun _ hc=>absurd hc hE⟩
    ·dsimp only at q2 hz
     obtain rfl:nin=2:=by omega
     obtain rfl:nI=0:=by omega
     obtain rfl:nR=0:=by omega
     obtain ⟨I,hl,hI⟩:=hI (by omega)
     obtain ⟨L,hl2,hR⟩:=hR (by omega)
     obtain rfl:=List.length_eq_zero_iff.1 hl
     obtain rfl:=List.length_eq_zero_iff.1 hl2
     by_cases hE:htE []=0
     ·exact ⟨0,0,CF,fun _ w' hb=>num_plain s ia 2 cin la 0 cI ra cR [] w' (by rw [hz];rfl) (by rw [hz];rfl) (by rw [hz];rfl) (by rw [hz];rfl) (by rw [hz];rfl) (by rw [hz];rfl) (by rw [hz];rfl) (by rw [hz];rfl) (by rw [hz];rfl) (by rw [hz];rfl) (by rw [hz];rfl) (by rw [hz];rfl) (by rw [hz];rfl) (by rw [hz];rfl) (by rw [hz];rfl) (hR.below hb) hE,fun _=>by omega,fun _ _=>⟨0,0,_,_,rfl,by omega,fun w' hb=>mar_none s ia 2 cin 0 cI 0 cR la ra w' (by rw [hz];rfl) (by rw [hz];rfl) (by rw [hz];rfl) (by rw [hz];rfl) (by rw [hz];rfl) (by rw [hz];rfl) (by rw [hz];rfl) (by rw [hz];rfl) (by rw [hz];rfl),in_add (hz:=hz) (hI:=hI) (hR:=hR) ..⟩⟩
     ·exact qx37
    ·dsimp only at q2 hz
     obtain rfl:nin=2:=by omega
     obtain rfl:nI=0:=by omega
     obtain rfl:nR=0:=by omega
     obtain ⟨I,hl,hI⟩:=hI (by omega)
     obtain ⟨L,hl2,hR⟩:=hR (by omega)
     obtain rfl:=List.length_eq_zero_iff.1 hl
     obtain rfl:=List.length_eq_zero_iff.1 hl2
     by_cases hE:htE []=0
     ·exact ⟨0,0,CF,fun _ w' hb=>num_plain s ia 2 cin la 0 cI ra cR [] w' (by rw [hz];rfl) (by rw [hz];rfl) (by rw [hz];rfl) (by rw [hz];rfl) (by rw [hz];rfl) (by rw [hz];rfl) (by rw [hz];rfl) (by rw [hz];rfl) (by rw [hz];rfl) (by rw [hz];rfl) (by rw [hz];rfl) (by rw [hz];rfl) (by rw [hz];rfl) (by rw [hz];rfl) (by rw [hz];rfl) (hR.below hb) hE,fun _=>by omega,fun _ _=>⟨0,0,_,_,rfl,by omega,fun w' hb=>mar_none s ia 2 cin 0 cI 0 cR la ra w' (by rw [hz];rfl) (by rw [hz];rfl) (by rw [hz];rfl) (by rw [hz];rfl) (by rw [hz];rfl) (by rw [hz];rfl) (by rw [hz];rfl) (by rw [hz];rfl) (by rw [hz];rfl),in_sub (hz:=hz) (hI:=hI) (hR:=hR) ..⟩⟩
     ·exact qx37
    ·dsimp only at q2 hz
     obtain rfl:nin=2:=by omega
     obtain rfl:nI=0:=by omega
     obtain rfl:nR=0:=by omega
     obtain ⟨I,hl,hI⟩:=hI (by omega)
     obtain ⟨L,hl2,hR⟩:=hR (by omega)
     obtain rfl:=List.length_eq_zero_iff.1 hl
     obtain rfl:=List.length_eq_zero_iff.1 hl2
     by_cases hE:htE []=0
     ·exact ⟨0,0,CF,fun _ w' hb=>num_plain s ia 2 cin la 0 cI ra cR [] w' (by rw [hz];rfl) (by rw [hz];rfl) (by rw [hz];rfl) (by rw [hz];rfl) (by rw [hz];rfl) (by rw [hz];rfl) (by rw [hz];rfl) (by rw [hz];rfl) (by rw [hz];rfl) (by rw [hz];rfl) (by rw [hz];rfl) (by rw [hz];rfl) (by rw [hz];rfl) (by rw [hz];rfl) (by rw [hz];rfl) (hR.below hb) hE,fun _=>by omega,fun _ _=>⟨0,0,_,_,rfl,by omega,fun w' hb=>mar_none s ia 2 cin 0 cI 0 cR la ra w' (by rw [hz];rfl) (by rw [hz];rfl) (by rw [hz];rfl) (by rw [hz];rfl) (by rw [hz];rfl) (by rw [hz];rfl) (by rw [hz];rfl) (by rw [hz];rfl) (by rw [hz];rfl),in_mul (hz:=hz) (hI:=hI) (hR:=hR) ..⟩⟩
     ·exact qx37
    ·dsimp only at q2 hz
     obtain rfl:nin=2:=by omega
     obtain rfl:nI=0:=by omega
     obtain rfl:nR=0:=by omega
     obtain ⟨I,hl,hI⟩:=hI (by omega)
     obtain ⟨L,hl2,hR⟩:=hR (by omega)
     obtain rfl:=List.length_eq_zero_iff.1 hl
     obtain rfl:=List.length_eq_zero_iff.1 hl2
     by_cases hE:htE []=0
     ·exact ⟨0,0,CF,fun _ w' hb=>num_plain s ia 2 cin la 0 cI ra cR [] w' (by rw [hz];rfl) (by rw [hz];rfl) (by rw [hz];rfl) (by rw [hz];rfl) (by rw [hz];rfl) (by rw [hz];rfl) (by rw [hz];rfl) (by rw [hz];rfl) (by rw [hz];rfl) (by rw [hz];rfl) (by rw [hz];rfl) (by rw [hz];rfl) (by rw [hz];rfl) (by rw [hz];rfl) (by rw [hz];rfl) (hR.below hb) hE,fun _=>by omega,fun _ _=>⟨0,0,_,_,rfl,by omega,fun w' hb=>mar_none s ia 2 cin 0 cI 0 cR la ra w' (by rw [hz];rfl) (by rw [hz];rfl) (by rw [hz];rfl) (by rw [hz];rfl) (by rw [hz];rfl) (by rw [hz];rfl) (by rw [hz];rfl) (by rw [hz];rfl) (by rw [hz];rfl),in_div (hz:=hz) (hI:=hI) (hR:=hR) ..⟩⟩
     ·exact qx37
    ·dsimp only at q2 hz
     obtain rfl:nin=2:=by omega
     obtain rfl:nI=0:=by omega
     obtain rfl:nR=0:=by omega
     obtain ⟨I,hl,hI⟩:=hI (by omega)
     obtain ⟨L,hl2,hR⟩:=hR (by omega)
     obtain rfl:=List.length_eq_zero_iff.1 hl
     obtain rfl:=List.length_eq_zero_iff.1 hl2
     by_cases hE:htE []=0
     ·exact ⟨0,0,CF,fun _ w' hb=>num_plain s ia 2 cin la 0 cI ra cR [] w' (by rw [hz];rfl) (by rw [hz];rfl) (by rw [hz];rfl) (by rw [hz];rfl) (by rw [hz];rfl) (by rw [hz];rfl) (by rw [hz];rfl) (by rw [hz];rfl) (by rw [hz];rfl) (by rw [hz];rfl) (by rw [hz];rfl) (by rw [hz];rfl) (by rw [hz];rfl) (by rw [hz];rfl) (by rw [hz];rfl) (hR.below hb) hE,fun _=>by omega,fun _ _=>⟨0,0,_,_,rfl,by omega,fun w' hb=>mar_none s ia 2 cin 0 cI 0 cR la ra w' (by rw [hz];rfl) (by rw [hz];rfl) (by rw [hz];rfl) (by rw [hz];rfl) (by rw [hz];rfl) (by rw [hz];rfl) (by rw [hz];rfl) (by rw [hz];rfl) (by rw [hz];rfl),in_less (hz:=hz) (hI:=hI) (hR:=hR) ..⟩⟩
     ·exact qx37
    ·dsimp only at q2 hz
     obtain rfl:nin=2:=by omega
     obtain rfl:nI=0:=by omega
     obtain rfl:nR=0:=by omega
     obtain ⟨I,hl,hI⟩:=hI (by omega)
     obtain ⟨L,hl2,hR⟩:=hR (by omega)
     obtain rfl:=List.length_eq_zero_iff.1 hl
     obtain rfl:=List.length_eq_zero_iff.1 hl2
     by_cases hE:htE []=0
     ·exact ⟨0,0,CF,fun _ w' hb=>num_plain s ia 2 cin la 0 cI ra cR [] w' (by rw [hz];rfl) (by rw [hz];rfl) (by rw [hz];rfl) (by rw [hz];rfl) (by rw [hz];rfl) (by rw [hz];rfl) (by rw [hz];rfl) (by rw [hz];rfl) (by rw [hz];rfl) (by rw [hz];rfl) (by rw [hz];rfl) (by rw [hz];rfl) (by rw [hz];rfl) (by rw [hz];rfl) (by rw [hz];rfl) (hR.below hb) hE,fun _=>by omega,fun _ _=>⟨0,0,_,_,rfl,by omega,fun w' hb=>mar_none s ia 2 cin 0 cI 0 cR la ra w' (by rw [hz];rfl) (by rw [hz];rfl) (by rw [hz];rfl) (by rw [hz];rfl) (by rw [hz];rfl) (by rw [hz];rfl) (by rw [hz];rfl) (by rw [hz];rfl) (by rw [hz];rfl),in_more (hz:=hz) (hI:=hI) (hR:=hR) ..⟩⟩
     ·exact qx37
    ·dsimp only at q2 hz
     obtain rfl:nin=2:=by omega
     obtain rfl:nI=0:=by omega
     obtain rfl:nR=0:=by omega
     obtain ⟨I,hl,hI⟩:=hI (by omega)
     obtain ⟨L,hl2,hR⟩:=hR (by omega)
     obtain rfl:=List.length_eq_zero_iff.1 hl
     obtain rfl:=List.length_eq_zero_iff.1 hl2
     by_cases hE:htE []=0
     ·exact ⟨0,0,CF,fun _ w' hb=>num_plain s ia 2 cin la 0 cI ra cR [] w' (by rw [hz];rfl) (by rw [hz];rfl) (by rw [hz];rfl) (by rw [hz];rfl) (by rw [hz];rfl) (by rw [hz];rfl) (by rw [hz];rfl) (by rw [hz];rfl) (by rw [hz];rfl) (by rw [hz];rfl) (by rw [hz];rfl) (by rw [hz];rfl) (by rw [hz];rfl) (by rw [hz];rfl) (by rw [hz];rfl) (hR.below hb) hE,fun _=>by omega,fun _ _=>⟨0,0,_,_,rfl,by omega,fun w' hb=>mar_none s ia 2 cin 0 cI 0 cR la ra w' (by rw [hz];rfl) (by rw [hz];rfl) (by rw [hz];rfl) (by rw [hz];rfl) (by rw [hz];rfl) (by rw [hz];rfl) (by rw [hz];rfl) (by rw [hz];rfl) (by rw [hz];rfl),in_over (hz:=hz) (hI:=hI) (hR:=hR) ..⟩⟩
     ·exact qx37
    ·dsimp only at q2 hz
     obtain rfl:nin=1:=by omega
     obtain rfl:nI=0:=by omega
     obtain rfl:nR=2:=by omega
     obtain ⟨I,hl,hI⟩:=hI (by omega)
     obtain ⟨L,hl2,hR⟩:=hR (by omega)
     obtain rfl:=List.length_eq_zero_iff.1 hl
     obtain ⟨r0,r1,rfl⟩:=elen2 hl2
     obtain ⟨rb,ro,rfl⟩:∃ rb ro,ra=some (Addr.mk rb ro none):=by
      rcases hR.2 with h|⟨rb,ro,h,_⟩
      ·cases h
      ·exact ⟨rb,ro,h⟩
     by_cases hE:htE [r0,r1]=0
     ·exact ⟨0,0,CF,fun _ w' hb=>num_plain s ia 1 cin la 0 cI (some ⟨rb,ro,none⟩) cR [r0,r1] w' (by rw [hz];rfl) (by rw [hz];rfl) (by rw [hz];rfl) (by rw [hz];rfl) (by rw [hz];rfl) (by rw [hz];rfl) (by rw [hz];rfl) (by rw [hz];rfl) (by rw [hz];rfl) (by rw [hz];rfl) (by rw [hz];rfl) (by rw [hz];rfl) (by rw [hz];rfl) (by rw [hz];rfl) (by rw [hz];rfl) (hR.below hb) hE,fun _=>by omega,fun _ _=>⟨0,0,_,_,rfl,by omega,fun w' hb=>mar_none s ia 1 cin 0 cI 2 cR la (some ⟨rb,ro,none⟩) w' (by rw [hz];rfl) (by rw [hz];rfl) (by rw [hz];rfl) (by rw [hz];rfl) (by rw [hz];rfl) (by rw [hz];rfl) (by rw [hz];rfl) (by rw [hz];rfl) (by rw [hz];rfl),in_scale (hz:=hz) (hI:=hI) (hR:=hR) (hE:=hE) ..⟩⟩
     ·exact qx55
    ·dsimp only at q2 hz
     obtain rfl:nin=1:=by omega
     obtain rfl:nI=0:=by omega
     obtain rfl:nR=2:=by omega
     obtain ⟨I,hl,hI⟩:=hI (by omega)
     obtain ⟨L,hl2,hR⟩:=hR (by omega)
     obtain rfl:=List.length_eq_zero_iff.1 hl
     obtain ⟨r0,r1,rfl⟩:=elen2 hl2
     obtain ⟨rb,ro,rfl⟩:∃ rb ro,ra=some (Addr.mk rb ro none):=by
      rcases hR.2 with h|⟨rb,ro,h,_⟩
      ·cases h
      ·exact ⟨rb,ro,h⟩
     by_cases hE:htE [r0,r1]=0
     ·refine ⟨0,clampC r0 r1,CF,fun _ w' hb=>num_clamp s ia 1 cin cI rb ro cR la r0 r1 w' hz (hI.below hb) (hR.below hb) hE,fun _=>by omega,fun _ hc=>?_⟩
      exact ⟨0,0,_,_,rfl,by omega,fun w' hb=>mar_none s ia 1 cin 0 cI 2 cR la (some ⟨rb,ro,none⟩) w' (by rw [hz];rfl) (by rw [hz];rfl) (by rw [hz];rfl) (by rw [hz];rfl) (by rw [hz];rfl) (by rw [hz];rfl) (by rw [hz];rfl) (by rw [hz];rfl) (by rw [hz];rfl),in_clamp (hz:=hz) (hI:=hI) (hR:=hR) (hE:=hc) ..⟩
     ·exact qx55
    ·dsimp only at q2 hz
     obtain rfl:nin=3:=by omega
     obtain rfl:nI=0:=by omega
     obtain rfl:nR=0:=by omega
     obtain ⟨I,hl,hI⟩:=hI (by omega)
     obtain ⟨L,hl2,hR⟩:=hR (by omega)
     obtain rfl:=List.length_eq_zero_iff.1 hl
     obtain rfl:=List.length_eq_zero_iff.1 hl2
     by_cases hE:htE []=0
     ·exact ⟨0,0,CF,fun _ w' hb=>num_plain s ia 3 cin la 0 cI ra cR [] w' (by rw [hz];rfl) (by rw [hz];rfl) (by rw [hz];rfl) (by rw [hz];rfl) (by rw [hz];rfl) (by rw [hz];rfl) (by rw [hz];rfl) (by rw [hz];rfl) (by rw [hz];rfl) (by rw [hz];rfl) (by rw [hz];rfl) (by rw [hz];rfl) (by rw [hz];rfl) (by rw [hz];rfl) (by rw [hz];rfl) (hR.below hb) hE,fun _=>by omega,fun _ _=>⟨0,0,_,_,rfl,by omega,fun w' hb=>mar_none s ia 3 cin 0 cI 0 cR la ra w' (by rw [hz];rfl) (by rw [hz];rfl) (by rw [hz];rfl) (by rw [hz];rfl) (by rw [hz];rfl) (by rw [hz];rfl) (by rw [hz];rfl) (by rw [hz];rfl) (by rw [hz];rfl),in_blend (hz:=hz) (hI:=hI) (hR:=hR) ..⟩⟩
     ·exact ⟨0,htE [],CF,fun _ w' hb=>num_bad s ia 3 cin la 0 cI ra cR [] w' (hR.below hb) hE,fun _=>by omega,fun _ hc=>absurd hc hE⟩
    ·dsimp only at q2 hz
     obtain rfl:nin=1:=by omega
     obtain rfl:nI=0:=by omega
     obtain rfl:nR=3:=by omega
     obtain ⟨I,hl,hI⟩:=hI (by omega)
     obtain ⟨L,hl2,hR⟩:=hR (by omega)
     obtain rfl:=List.length_eq_zero_iff.1 hl
     obtain ⟨r0,r1,r2,rfl⟩:=elen3 hl2
     obtain ⟨rb,ro,rfl⟩:∃ rb ro,ra=some (Addr.mk rb ro none):=by
      rcases hR.2 with h|⟨rb,ro,h,_⟩
      ·cases h
      ·exact ⟨rb,ro,h⟩
     by_cases hE:htE [r0,r1,r2]=0
     ·refine ⟨0,selC r0 r1 r2,CF,fun _ w' hb=>num_select s ia 1 cin cI rb ro cR la r0 r1 r2 w' hz (hI.below hb) (hR.below hb) hE,fun _=>by omega,fun _ hc=>?_⟩
      exact ⟨0,0,_,_,rfl,by omega,fun w' hb=>mar_none s ia 1 cin 0 cI 3 cR la (some ⟨rb,ro,none⟩) w' (by rw [hz];rfl) (by rw [hz];rfl) (by rw [hz];rfl) (by rw [hz];rfl) (by rw [hz];rfl) (by rw [hz];rfl) (by rw [hz];rfl) (by rw [hz];rfl) (by rw [hz];rfl),in_select (hz:=hz) (hI:=hI) (hR:=hR) (hE:=hc) ..⟩
     ·exact ⟨0,htE [r0,r1,r2],CF,fun _ w' hb=>num_bad s ia 1 cin la 0 cI (some ⟨rb,ro,none⟩) cR [r0,r1,r2] w' (hR.below hb) hE,fun _=>by omega,fun _ hc=>absurd hc hE⟩
    ·dsimp only at q2 hz
     obtain rfl:nin=1:=by omega
     obtain rfl:nI=0:=by omega
     obtain rfl:nR=2:=by omega
     obtain ⟨I,hl,hI⟩:=hI (by omega)
     obtain ⟨L,hl2,hR⟩:=hR (by omega)
     obtain rfl:=List.length_eq_zero_iff.1 hl
     obtain ⟨r0,r1,rfl⟩:=elen2 hl2
     obtain ⟨rb,ro,rfl⟩:∃ rb ro,ra=some (Addr.mk rb ro none):=by
      rcases hR.2 with h|⟨rb,ro,h,_⟩
      ·cases h
      ·exact ⟨rb,ro,h⟩
     by_cases hE:htE [r0,r1]=0
     ·refine ⟨0,terC r0 r1,CF,fun _ w' hb=>num_terrace s ia 1 cin cI rb ro cR la r0 r1 w' hz (hI.below hb) (hR.below hb) hE,fun _=>by omega,fun _ hc=>?_⟩
      exact ⟨0,0,_,_,rfl,by omega,fun w' hb=>mar_none s ia 1 cin 0 cI 2 cR la (some ⟨rb,ro,none⟩) w' (by rw [hz];rfl) (by rw [hz];rfl) (by rw [hz];rfl) (by rw [hz];rfl) (by rw [hz];rfl) (by rw [hz];rfl) (by rw [hz];rfl) (by rw [hz];rfl) (by rw [hz];rfl),in_terrace (hz:=hz) (hI:=hI) (hR:=hR) (hE:=hc) ..⟩
     ·exact qx55
    ·dsimp only at q2 hz
     obtain rfl:nin=1:=by omega
     obtain rfl:nI=1:=by omega
     obtain rfl:nR=1:=by omega
     obtain ⟨I,hl,hI⟩:=hI (by omega)
     obtain ⟨L,hl2,hR⟩:=hR (by omega)
     obtain ⟨i0,rfl⟩:=elen1 hl
     obtain ⟨b,o,rfl⟩:=hI.some
     obtain ⟨r0,rfl⟩:=elen1 hl2
     obtain ⟨rb,ro,rfl⟩:∃ rb ro,ra=some (Addr.mk rb ro none):=by
      rcases hR.2 with h|⟨rb,ro,h,_⟩
      ·cases h
      ·exact ⟨rb,ro,h⟩
     by_cases hE:htE [r0]=0
     ·refine ⟨0,sdE i0 (dithE r0),CF,fun _ w' hb=>num_dither s ia 1 cin b o cI rb ro cR i0 r0 w' hz (hI.below hb) (hR.below hb) hE,fun _=>by omega,fun _ hc=>?_⟩
      exact ⟨0,0,_,_,rfl,by omega,fun w' hb=>mar_none s ia 1 cin 1 cI 1 cR (some ⟨b,o,none⟩) (some ⟨rb,ro,none⟩) w' (by rw [hz];rfl) (by rw [hz];rfl) (by rw [hz];rfl) (by rw [hz];rfl) (by rw [hz];rfl) (by rw [hz];rfl) (by rw [hz];rfl) (by rw [hz];rfl) (by rw [hz];rfl),in_dither (hz:=hz) (hI:=hI) (hR:=hR) (hE:=esd_zero hc) ..⟩
     ·exact ⟨0,htE [r0],CF,fun _ w' hb=>num_bad s ia 1 cin (some ⟨b,o,none⟩) 1 cI (some ⟨rb,ro,none⟩) cR [r0] w' (hR.below hb) hE,fun _=>by omega,fun _ hc=>absurd hc hE⟩
    ·dsimp only at q2 hz
     obtain rfl:nin=1:=by omega
     obtain rfl:nI=4:=by omega
     obtain rfl:nR=1:=by omega
     obtain ⟨I,hl,hI⟩:=hI (by omega)
     obtain ⟨L,hl2,hR⟩:=hR (by omega)
     obtain ⟨i0,i1,i2,i3,rfl⟩:=elen4 hl
     obtain ⟨b,o,rfl⟩:=hI.some
     obtain ⟨r0,rfl⟩:=elen1 hl2
     obtain ⟨rb,ro,rfl⟩:∃ rb ro,ra=some (Addr.mk rb ro none):=by
      rcases hR.2 with h|⟨rb,ro,h,_⟩
      ·cases h
      ·exact ⟨rb,ro,h⟩
     by_cases hE:htE [r0]=0
     ·refine ⟨0,brushE i0 i1 i2 i3 r0,CF,fun _ w' hb=>num_stamp s ia 1 cin b o cI rb ro cR i0 i1 i2 i3 r0 w' hz (hI.below hb) (hR.below hb) hE,fun _=>by omega,fun _ hc=>?_⟩
      exact ⟨0,0,_,_,rfl,by omega,fun w' hb=>mar_none s ia 1 cin 4 cI 1 cR (some ⟨b,o,none⟩) (some ⟨rb,ro,none⟩) w' (by rw [hz];rfl) (by rw [hz];rfl) (by rw [hz];rfl) (by rw [hz];rfl) (by rw [hz];rfl) (by rw [hz];rfl) (by rw [hz];rfl) (by rw [hz];rfl) (by rw [hz];rfl),in_stamp (hz:=hz) (hI:=hI) (hR:=hR) (hE:=hc) ..⟩
     ·exact qx78
    ·dsimp only at q2 hz
     obtain rfl:nin=1:=by omega
     obtain rfl:nI=4:=by omega
     obtain rfl:nR=1:=by omega
     obtain ⟨I,hl,hI⟩:=hI (by omega)
     obtain ⟨L,hl2,hR⟩:=hR (by omega)
     obtain ⟨i0,i1,i2,i3,rfl⟩:=elen4 hl
     obtain ⟨b,o,rfl⟩:=hI.some
     obtain ⟨r0,rfl⟩:=elen1 hl2
     obtain ⟨rb,ro,rfl⟩:∃ rb ro,ra=some (Addr.mk rb ro none):=by
      rcases hR.2 with h|⟨rb,ro,h,_⟩
      ·cases h
      ·exact ⟨rb,ro,h⟩
     by_cases hE:htE [r0]=0
     ·refine ⟨0,faultE i0 i1 i2 i3 r0,CF,fun _ w' hb=>num_fault s ia 1 cin b o cI rb ro cR i0 i1 i2 i3 r0 w' hz (hI.below hb) (hR.below hb) hE,fun _=>by omega,fun _ hc=>?_⟩
      exact ⟨0,0,_,_,rfl,by omega,fun w' hb=>mar_none s ia 1 cin 4 cI 1 cR (some ⟨b,o,none⟩) (some ⟨rb,ro,none⟩) w' (by rw [hz];rfl) (by rw [hz];rfl) (by rw [hz];rfl) (by rw [hz];rfl) (by rw [hz];rfl) (by rw [hz];rfl) (by rw [hz];rfl) (by rw [hz];rfl) (by rw [hz];rfl),in_fault (hz:=hz) (hI:=hI) (hR:=hR) (hE:=hc) ..⟩
     ·exact qx78
    ·dsimp only at q2 hz
     obtain rfl:nin=1:=by omega
     obtain rfl:nI=3:=by omega
     obtain rfl:nR=1:=by omega
     obtain ⟨I,hl,hI⟩:=hI (by omega)
     obtain ⟨L,hl2,hR⟩:=hR (by omega)
     obtain ⟨i0,i1,i2,rfl⟩:=elen3 hl
     obtain ⟨b,o,rfl⟩:=hI.some
     obtain ⟨r0,rfl⟩:=elen1 hl2
     obtain ⟨rb,ro,rfl⟩:∃ rb ro,ra=some (Addr.mk rb ro none):=by
      rcases hR.2 with h|⟨rb,ro,h,_⟩
      ·cases h
      ·exact ⟨rb,ro,h⟩
     by_cases hE:htE [r0]=0
     ·refine ⟨0,foldE i0 i1 i2 r0,CF,fun _ w' hb=>num_fold s ia 1 cin b o cI rb ro cR i0 i1 i2 r0 w' hz (hI.below hb) (hR.below hb) hE,fun _=>by omega,fun _ hc=>?_⟩
      exact ⟨0,0,_,_,rfl,by omega,fun w' hb=>mar_none s ia 1 cin 3 cI 1 cR (some ⟨b,o,none⟩) (some ⟨rb,ro,none⟩) w' (by rw [hz];rfl) (by rw [hz];rfl) (by rw [hz];rfl) (by rw [hz];rfl) (by rw [hz];rfl) (by rw [hz];rfl) (by rw [hz];rfl) (by rw [hz];rfl) (by rw [hz];rfl),in_fold (hz:=hz) (hI:=hI) (hR:=hR) (hE:=hc) ..⟩
     ·exact ⟨0,htE [r0],CF,fun _ w' hb=>num_bad s ia 1 cin (some ⟨b,o,none⟩) 3 cI (some ⟨rb,ro,none⟩) cR [r0] w' (hR.below hb) hE,fun _=>by omega,fun _ hc=>absurd hc hE⟩
    ·dsimp only at q2 hz
     obtain rfl:nin=1:=by omega
     obtain rfl:nI=2:=by omega
     obtain rfl:nR=0:=by omega
     obtain ⟨I,hl,hI⟩:=hI (by omega)
     obtain ⟨L,hl2,hR⟩:=hR (by omega)
     obtain ⟨i0,i1,rfl⟩:=elen2 hl
     obtain ⟨b,o,rfl⟩:=hI.some
     obtain rfl:=List.length_eq_zero_iff.1 hl2
     by_cases hE:htE []=0
     ·refine ⟨0,shiftE i0 i1,CF,fun _ w' hb=>num_shift s ia 1 cin b o cI cR ra i0 i1 w' hz (hI.below hb) (hR.below hb) hE,fun _=>by omega,fun _ hc=>?_⟩
      obtain ⟨z1,z2⟩:=eshift_zero hc
      obtain ⟨q1,q2,q3,q4⟩:=mxF_le i0 (-i0) i1 (-i1)
      have q5:mxF i0 (-i0) i1 (-i1)≤64:=mxF_ub (by omega) (by omega) (by omega) (by omega)
      obtain ⟨m,hm⟩:=Int.eq_ofNat_of_zero_le (show 0≤mxF i0 (-i0) i1 (-i1) by omega)
      exact ⟨m,mxF i0 (-i0) i1 (-i1),_,_,hm,by omega,fun w' hb=>mar_shift s ia 1 cin b o cI 0 cR ra i0 i1 w' hz z1 z2 (hI.below hb),in_shift (hz:=hz) (hI:=hI) (hR:=hR) (hm:=hm) ..⟩
     ·exact ⟨0,htE [],CF,fun _ w' hb=>num_bad s ia 1 cin (some ⟨b,o,none⟩) 2 cI ra cR [] w' (hR.below hb) hE,fun _=>by omega,fun _ hc=>absurd hc hE⟩
    ·dsimp only at q2 hz
     obtain rfl:nin=1:=by omega
     obtain rfl:nI=1:=by omega
     obtain rfl:nR=0:=by omega
     obtain ⟨I,hl,hI⟩:=hI (by omega)
     obtain ⟨L,hl2,hR⟩:=hR (by omega)
     obtain ⟨i0,rfl⟩:=elen1 hl
     obtain ⟨b,o,rfl⟩:=hI.some
     obtain rfl:=List.length_eq_zero_iff.1 hl2
     by_cases hE:htE []=0
     ·refine ⟨0,rngE i0 16,CF,fun _ w' hb=>num_blur s ia 1 cin b o cI cR ra i0 w' hz (hI.below hb) (hR.below hb) hE,fun _=>by omega,fun _ hc=>?_⟩
      obtain ⟨z1,z2⟩:=rng_zero hc
      obtain ⟨m,rfl⟩:=Int.eq_ofNat_of_zero_le z1
      exact ⟨m,m,_,_,rfl,by omega,fun w' hb=>mar_blur s ia 1 cin b o cI 0 cR ra m w' hz (hI.below hb),in_blur (hz:=hz) (hI:=hI) (hR:=hR) (hm:=by omega) ..⟩
     ·exact ⟨0,htE [],CF,fun _ w' hb=>num_bad s ia 1 cin (some ⟨b,o,none⟩) 1 cI ra cR [] w' (hR.below hb) hE,fun _=>by omega,fun _ hc=>absurd hc hE⟩
    ·exact absurd hz hk
    ·dsimp only at q2 hz
     obtain rfl:nin=1:=by omega
     obtain rfl:nI=0:=by omega
     obtain rfl:nR=0:=by omega
     obtain ⟨I,hl,hI⟩:=hI (by omega)
     obtain ⟨L,hl2,hR⟩:=hR (by omega)
     obtain rfl:=List.length_eq_zero_iff.1 hl
     obtain rfl:=List.length_eq_zero_iff.1 hl2
     by_cases hE:htE []=0
     ·exact ⟨0,0,CF,fun _ w' hb=>num_plain s ia 1 cin la 0 cI ra cR [] w' (by rw [hz];rfl) (by rw [hz];rfl) (by rw [hz];rfl) (by rw [hz];rfl) (by rw [hz];rfl) (by rw [hz];rfl) (by rw [hz];rfl) (by rw [hz];rfl) (by rw [hz];rfl) (by rw [hz];rfl) (by rw [hz];rfl) (by rw [hz];rfl) (by rw [hz];rfl) (by rw [hz];rfl) (by rw [hz];rfl) (hR.below hb) hE,fun _=>by omega,fun _ _=>⟨1,1,_,_,rfl,by omega,fun w' hb=>mar_slope s ia 1 cin 0 cI 0 cR la ra w' hz,in_slope (hz:=hz) (hI:=hI) (hR:=hR) ..⟩⟩
     ·exact ⟨0,htE [],CF,fun _ w' hb=>num_bad s ia 1 cin la 0 cI ra cR [] w' (hR.below hb) hE,fun _=>by omega,fun _ hc=>absurd hc hE⟩
    ·dsimp only at q2 hz
     obtain rfl:nin=1:=by omega
     obtain rfl:nI=0:=by omega
     obtain rfl:nR=0:=by omega
     obtain ⟨I,hl,hI⟩:=hI (by omega)
     obtain ⟨L,hl2,hR⟩:=hR (by omega)
     obtain rfl:=List.length_eq_zero_iff.1 hl
     obtain rfl:=List.length_eq_zero_iff.1 hl2
     by_cases hE:htE []=0
     ·exact ⟨0,0,CF,fun _ w' hb=>num_plain s ia 1 cin la 0 cI ra cR [] w' (by rw [hz];rfl) (by rw [hz];rfl) (by rw [hz];rfl) (by rw [hz];rfl) (by rw [hz];rfl) (by rw [hz];rfl) (by rw [hz];rfl) (by rw [hz];rfl) (by rw [hz];rfl) (by rw [hz];rfl) (by rw [hz];rfl) (by rw [hz];rfl) (by rw [hz];rfl) (by rw [hz];rfl) (by rw [hz];rfl) (hR.below hb) hE,fun _=>by omega,fun _ _=>⟨1,1,_,_,rfl,by omega,fun w' hb=>mar_curve s ia 1 cin 0 cI 0 cR la ra w' hz,in_curve (hz:=hz) (hI:=hI) (hR:=hR) ..⟩⟩
     ·exact ⟨0,htE [],CF,fun _ w' hb=>num_bad s ia 1 cin la 0 cI ra cR [] w' (hR.below hb) hE,fun _=>by omega,fun _ hc=>absurd hc hE⟩
    ·dsimp only at q2 hz
     obtain rfl:nin=1:=by omega
     obtain rfl:nI=3:=by omega
     obtain rfl:nR=0:=by omega
     obtain ⟨I,hl,hI⟩:=hI (by omega)
     obtain ⟨L,hl2,hR⟩:=hR (by omega)
     obtain ⟨i0,i1,i2,rfl⟩:=elen3 hl
     obtain ⟨b,o,rfl⟩:=hI.some
     obtain rfl:=List.length_eq_zero_iff.1 hl2
     by_cases hE:htE []=0
     ·refine ⟨0,lightE i0 i1 i2,CF,fun _ w' hb=>num_shade s ia 1 cin b o cI cR ra i0 i1 i2 w' hz (hI.below hb) (hR.below hb) hE,fun _=>by omega,fun _ hc=>?_⟩
      exact ⟨1,1,_,_,rfl,by omega,fun w' hb=>mar_shade s ia 1 cin 3 cI 0 cR (some ⟨b,o,none⟩) ra w' hz,in_shade (hz:=hz) (hI:=hI) (hR:=hR) (hE:=hc) ..⟩
     ·exact ⟨0,htE [],CF,fun _ w' hb=>num_bad s ia 1 cin (some ⟨b,o,none⟩) 3 cI ra cR [] w' (hR.below hb) hE,fun _=>by omega,fun _ hc=>absurd hc hE⟩
    ·dsimp only at q2 hz
     obtain rfl:nin=1:=by omega
     obtain rfl:nI=1:=by omega
     obtain rfl:nR=2:=by omega
     obtain ⟨I,hl,hI⟩:=hI (by omega)
     obtain ⟨L,hl2,hR⟩:=hR (by omega)
     obtain ⟨i0,rfl⟩:=elen1 hl
     obtain ⟨b,o,rfl⟩:=hI.some
     obtain ⟨r0,r1,rfl⟩:=elen2 hl2
     obtain ⟨rb,ro,rfl⟩:∃ rb ro,ra=some (Addr.mk rb ro none):=by
      rcases hR.2 with h|⟨rb,ro,h,_⟩
      ·cases h
      ·exact ⟨rb,ro,h⟩
     by_cases hE:htE [r0,r1]=0
     ·refine ⟨0,wearE r0 r1 i0,CF,fun _ w' hb=>num_thermal s ia 1 cin b o cI rb ro cR i0 r0 r1 w' hz (hI.below hb) (hR.below hb) hE,fun _=>by omega,fun _ hc=>?_⟩
      obtain ⟨_,z1,z2⟩:=WearOk.of hc
      obtain ⟨m,rfl⟩:=Int.eq_ofNat_of_zero_le z1
      exact ⟨m,m,_,_,rfl,by omega,fun w' hb=>mar_thermal s ia 1 cin b o cI 2 cR (some ⟨rb,ro,none⟩) m w' hz (hI.below hb),in_thermal (hz:=hz) (hI:=hI) (hR:=hR) (hE:=hc) ..⟩
     ·exact ⟨0,htE [r0,r1],CF,fun _ w' hb=>num_bad s ia 1 cin (some ⟨b,o,none⟩) 1 cI (some ⟨rb,ro,none⟩) cR [r0,r1] w' (hR.below hb) hE,fun _=>by omega,fun _ hc=>absurd hc hE⟩
    ·dsimp only at q2 hz
     obtain rfl:nin=1:=by omega
     obtain rfl:nI=1:=by omega
     obtain rfl:nR=0:=by omega
     obtain ⟨I,hl,hI⟩:=hI (by omega)
     obtain ⟨L,hl2,hR⟩:=hR (by omega)
     obtain ⟨i0,rfl⟩:=elen1 hl
     obtain ⟨b,o,rfl⟩:=hI.some
     obtain rfl:=List.length_eq_zero_iff.1 hl2
     by_cases hE:htE []=0
     ·refine ⟨0,rngE i0 64,CF,fun _ w' hb=>num_smooth s ia 1 cin b o cI cR ra i0 w' hz (hI.below hb) (hR.below hb) hE,fun _=>by omega,fun _ hc=>?_⟩
      obtain ⟨z1,z2⟩:=rng_zero hc
      obtain ⟨m,rfl⟩:=Int.eq_ofNat_of_zero_le z1
      exact ⟨m,m,_,_,rfl,by omega,fun w' hb=>mar_smooth s ia 1 cin b o cI 0 cR ra m w' hz (hI.below hb),in_smooth (hz:=hz) (hI:=hI) (hR:=hR) (hm:=by omega) ..⟩
     ·exact ⟨0,htE [],CF,fun _ w' hb=>num_bad s ia 1 cin (some ⟨b,o,none⟩) 1 cI ra cR [] w' (hR.below hb) hE,fun _=>by omega,fun _ hc=>absurd hc hE⟩
    ·dsimp only at q2 hz
     obtain rfl:nin=1:=by omega
     obtain rfl:nI=4:=by omega
     obtain rfl:nR=2:=by omega
     obtain ⟨I,hl,hI⟩:=hI (by omega)
     obtain ⟨L,hl2,hR⟩:=hR (by omega)
     obtain ⟨i0,i1,i2,i3,rfl⟩:=elen4 hl
     obtain ⟨b,o,rfl⟩:=hI.some
     obtain ⟨r0,r1,rfl⟩:=elen2 hl2
     obtain ⟨rb,ro,rfl⟩:∃ rb ro,ra=some (Addr.mk rb ro none):=by
      rcases hR.2 with h|⟨rb,ro,h,_⟩
      ·cases h
      ·exact ⟨rb,ro,h⟩
     by_cases hE:htE [r0,r1]=0
     ·refine ⟨0,sdE i1 (wpE i0 i2 i3 r0 r1),CF,fun _ w' hb=>num_warp s ia 1 cin b o cI rb ro cR i0 i1 i2 i3 r0 r1 w' hz (hI.below hb) (hR.below hb) hE,fun _=>by omega,fun _ hc=>?_⟩
      have hw:=esd_zero hc
      obtain ⟨n,hn,n1,n2⟩:=frE_nat (wpE_zero hw).1
      have hw2:=hw
      rw [hn] at hw2
      obtain ⟨z1,z2,_⟩:=warp_in (seed:=0) hw2 0 0
      have en:i3.toNat=n:=by omega
      rw [←en] at z1 z2
      obtain ⟨m,hm⟩:=Int.eq_ofNat_of_zero_le z1
      exact ⟨m,margZ (reachF r0 (bndF i0) i3.toNat) r1,_,_,hm,by omega,fun w' hb=>mar_warp s ia 1 cin b o cI rb ro cR i0 i1 i2 i3 r0 r1 w' hz (hI.below hb) (hR.below hb) hw,in_warp (hz:=hz) (hI:=hI) (hR:=hR) (hE:=hw) (hm:=hm) ..⟩
     ·exact ⟨0,htE [r0,r1],CF,fun _ w' hb=>num_bad s ia 1 cin (some ⟨b,o,none⟩) 4 cI (some ⟨rb,ro,none⟩) cR [r0,r1] w' (hR.below hb) hE,fun _=>by omega,fun _ hc=>absurd hc hE⟩
   ·obtain ⟨f1,f2,f3,f4⟩:=fm_none e
    rw [f4,if_pos rfl] at he
    omega
  ·exact ⟨_,0,CF,fun h=>absurd h he,fun h=>absurd h he,fun h=>absurd h he⟩
open Go.Joins Go.Deep
theorem single_of {H:Type} {enc:TypeId × Value→H} {W:World} {fuel:Nat} {v:Value} {y:DataW H × List MemPlace}
  (h:DataW.trod enc Tryz.prog W 0 (fun _=>true) true fuel 48 [v]=some y):∃ b,v=.float .f32 b∧b<4294967296:=by
 cases fuel with
 | zero=>simp [DataW.trod] at h
 | succ n =>
  simp only [DataW.trod,Tryz.underlying48] at h
  cases v with
  | float k b =>
   by_cases hk:k=.f32∧(Lit.float .f32 b).wf=true
   ·obtain ⟨rfl,hw⟩:=hk
    refine ⟨b,rfl,?_⟩
    unfold Lit.wf at hw
    have:=of_decide_eq_true hw
    simpa using this
   ·simp [hk] at h
  | _=>simp at h
theorem singles_of {H:Type} {enc:TypeId × Value→H} {W:World} {fuel:Nat} {v:Value} {y:DataW H × List MemPlace}
  (h:DataW.trod enc Tryz.prog W 0 (fun _=>true) true fuel 30 [v]=some y):∃ a n cap,v=.slice a n cap∧(n≤225→∃ L:List Nat,L.length=n∧SRow W a L):=by
 rcases Go.Deep.open_slice1 Tryz.underlying30 (by kernel_rfl) h with ⟨hcs,_⟩|⟨a,len,cap,m,n,V,D,Pl,hcs,_,hl,hm,hmm,hx,hc⟩
 ·simp at hcs
  subst hcs
  exact ⟨none,0,0,rfl,fun _=>⟨[],rfl,⟨by simp,by simp⟩,.inl rfl⟩⟩
 ·simp at hcs
  subst hcs
  obtain rfl:m=cap:=by simpa using hmm
  have hf:∀ i,i<m→∃ b,V i=.float .f32 b∧b<4294967296:=fun i hi=>single_of (hc i hi).2
  let g:Nat→Nat:=fun i=>match V i with | .float _ b=>b|_=>0
  have hg:∀ i,i<m→V i=.float .f32 (g i)∧g i<4294967296:=by
   intro i hi
   obtain ⟨b,hb,hlt⟩:=hf i hi
   refine ⟨?_,?_⟩<;>(show _)<;>simp only [g,hb]<;>first|rfl|exact hlt
  have hlen:((List.range len).map g).length=len:=by simp
  refine ⟨some a,len,m,rfl,fun h225=>⟨(List.range len).map g,hlen,⟨by rw [hlen];omega,?_⟩,?_⟩⟩
  ·intro x hx
   obtain ⟨i,hi,rfl⟩:=List.mem_map.1 hx
   exact (hg i (by have:=List.mem_range.1 hi;omega)).2
  ·by_cases h0:len=0
   ·subst h0;exact .inl rfl
   ·right
    obtain ⟨b,off,spot⟩:=a
    have hspot:spot=none:=by simpa [Addr.add] using World.cell?_spot (hc 0 (by omega)).1
    subst hspot
    refine ⟨b,off,rfl,fun i hi=>?_⟩
    rw [hlen] at hi
    have h1:=(hc i (by omega)).1
    rw [Go.WideShapes.add_plain,(hg i (by omega)).1] at h1
    rw [h1]
    simp [List.getD_eq_getElem?_getD,List.getElem?_map,List.getElem?_range hi]
theorem ints_of {H:Type} {enc:TypeId × Value→H} {W:World} {fuel:Nat} {v:Value} {y:DataW H × List MemPlace}
  (h:DataW.trod enc Tryz.prog W 0 (fun _=>true) true fuel 59 [v]=some y):∃ a n cap,v=.slice a n cap∧(n≤4→∃ I:List Int,I.length=n∧ZRow W a I):=by
 rcases Go.Deep.open_slice1 Tryz.underlying59 (by kernel_rfl) h with ⟨hcs,_⟩|⟨a,len,cap,m,n,V,D,Pl,hcs,_,hl,hm,hmm,hx,hc⟩
 ·simp at hcs
  subst hcs
  exact ⟨none,0,0,rfl,fun _=>⟨[],rfl,by simp,.inl rfl⟩⟩
 ·simp at hcs
  subst hcs
  obtain rfl:m=cap:=by simpa using hmm
  have hf:∀ i,i<m→∃ b,V i=.int .i64 b:=fun i hi=>by
   obtain ⟨b,hb,_⟩:=DataW.trod_int Tryz.underlying3 (hc i hi).2
   exact ⟨b,by simpa using hb⟩
  let g:Nat→Int:=fun i=>match V i with | .int _ b=>b|_=>0
  have hg:∀ i,i<m→V i=.int .i64 (g i):=by
   intro i hi
   obtain ⟨b,hb⟩:=hf i hi
   show V i=_
   simp only [g,hb]
  have hlen:((List.range len).map g).length=len:=by simp
  refine ⟨some a,len,m,rfl,fun h4=>⟨(List.range len).map g,hlen,by rw [hlen];omega,?_⟩⟩
  by_cases h0:len=0
  ·subst h0;exact .inl rfl
  ·right
   obtain ⟨b,off,spot⟩:=a
   have hspot:spot=none:=by simpa [Addr.add] using World.cell?_spot (hc 0 (by omega)).1
   subst hspot
   refine ⟨b,off,rfl,fun i hi=>?_⟩
   rw [hlen] at hi
   have h1:=(hc i (by omega)).1
   rw [Go.WideShapes.add_plain,hg i (by omega)] at h1
   rw [h1]
   simp [List.getD_eq_getElem?_getD,List.getElem?_map,List.getElem?_range hi]
structure Nd where
 s:ByteArray
 ia:Option Addr
 nin:Nat
 cin:Nat
 la:Option Addr
 nI:Nat
 cI:Nat
 ra:Option Addr
 nR:Nat
 cR:Nat
def ndD (d:Nd):Array Value:=#[.string d.s,.slice d.ia d.nin d.cin,.slice d.la d.nI d.cI,.slice d.ra d.nR d.cR]
abbrev Nd.val (d:Nd):Value:=ndV d.s d.ia d.nin d.cin d.la d.nI d.cI d.ra d.nR d.cR
def NdRow (w:World) (a:Option Addr) (N:List Nd):Prop:=
 N.length≤maxLen∧(N=[]∨∃ b o,a=some ⟨b,o,none⟩∧b<w.heap.size∧∀ i d,N[i]?=some d→∀ j,j<4→w.cell? ⟨b,o+i*4+j,none⟩=(ndD d)[j]?)
theorem NdRow.below {w w':World} {a:Option Addr} {N:List Nd} (h:NdRow w a N) (hb:Below w.heap.size w w'):NdRow w' a N:=by
 obtain ⟨h1,h2⟩:=h
 refine ⟨h1,h2.imp id fun ⟨b,o,e,hl,hc⟩=>⟨b,o,e,Nat.lt_of_lt_of_le hl hb.size,fun i d hd j hj=>?_⟩⟩
 rw [hb.cell hl]
 exact hc i d hd j hj
structure NdIn (w:World) (d:Nd):Prop where
 sz:d.s.size≤maxLen
 j:d.nin≤4→∃ J:List Int,J.length=d.nin∧ZRow w d.ia J
 i:d.nI≤4→∃ I:List Int,I.length=d.nI∧ZRow w d.la I
 r:d.nR≤225→∃ L:List Nat,L.length=d.nR∧SRow w d.ra L
theorem NdIn.node {w:World} {d:Nd} (h:NdIn w d):NodeP w d.s d.ia d.nin d.cin d.la d.nI d.cI d.ra d.nR d.cR:=node_all d.s h.sz d.ia d.nin d.cin d.la d.nI d.cI d.ra d.nR d.cR w h.i h.r
theorem cellsSt1:Tryz.prog.cellsOf 9=1:=by kernel_rfl
theorem cellsIs1:Tryz.prog.cellsOf 59=1:=by kernel_rfl
theorem cellsFs1:Tryz.prog.cellsOf 30=1:=by kernel_rfl
theorem cellsGr:Tryz.prog.cellsOf 24=2:=by kernel_rfl
set_option maxRecDepth 100000 in
theorem open_nd_cells {H:Type} {enc:TypeId × Value→H} {W:World} {fuel:Nat} {cs:List Value} {x:DataW H × List MemPlace} (hl:cs.length=4)
  (h:DataW.trod enc Tryz.prog W 0 (fun _=>true) true fuel 61 cs=some x):∃ d:Nd,cs=(ndD d).toList∧NdIn W d:=by
 match cs,hl with
 | [c0,c1,c2,c3],_ =>
  obtain ⟨xs,m,_,_,_,hlen,hg⟩:=DataW.trod_struct Tryz.underlying61 h
  match xs,hlen with
  | [z0,z1,z2,z3],_ =>
   have g0:=hg 0 _ rfl
   have g1:=hg 1 _ rfl
   have g2:=hg 2 _ rfl
   have g3:=hg 3 _ rfl
   simp only [List.getElem_toArray,List.getElem_cons_zero,List.getElem_cons_succ,cellsSt1,cellsIs1,cellsFs1,List.drop_zero,List.take_succ_cons,List.take_zero,List.drop_succ_cons,List.getElem?_cons_zero,List.getElem?_cons_succ] at g0 g1 g2 g3
   obtain ⟨s,e0,_,hs⟩:=DataW.trod_string Tryz.underlying9 g0
   obtain ⟨ia,nin,cin,rfl,hJ⟩:=ints_of g1
   obtain ⟨la,nI,cI,rfl,hI⟩:=ints_of g2
   obtain ⟨ra,nR,cR,rfl,hR⟩:=singles_of g3
   simp at e0
   subst e0
   exact ⟨⟨s,ia,nin,cin,la,nI,cI,ra,nR,cR⟩,rfl,⟨hs,hJ,hI,hR⟩⟩
def nd0:Nd:=⟨⟨#[]⟩,none,0,0,none,0,0,none,0,0⟩
theorem cellsNd:Tryz.prog.cellsOf 61=4:=by kernel_rfl
set_option maxRecDepth 100000 in
theorem open_nodes {H:Type} {enc:TypeId × Value→H} {W:World} {fuel:Nat} {v:Value} {y:DataW H × List MemPlace}
  (h:DataW.trod enc Tryz.prog W 0 (fun _=>true) true fuel 22 [v]=some y) :
  ∃ (a:Option Addr) (N:List Nd) (cap:Nat),v=.slice a N.length cap∧NdRow W a N∧∀ d∈N,NdIn W d:=by
 rcases Go.Deep.open_slice Tryz.underlying22 h with ⟨hcs,_⟩|⟨a',len',cap',m,n,D,Pl,hcs,_,hl,hm,hmm,_,hc⟩
 ·simp at hcs
  subst hcs
  exact ⟨none,[],0,rfl,⟨Nat.zero_le _,.inl rfl⟩,fun d hd=>absurd hd List.not_mem_nil⟩
 ·simp at hcs
  subst hcs
  obtain rfl:m=cap':=by simpa using hmm
  have hg:∀ i,∃ d:Nd,i<len'→(NdIn W d∧∀ j,j<4→W.cell? ((a'.add (i*4)).add j)=(ndD d)[j]?):=by
   intro i
   by_cases hi:i<len'
   ·obtain ⟨cs',c1,c2⟩:=hc i (by omega)
    rw [cellsNd] at c1
    obtain ⟨_,hcl,hce⟩:=World.cells?_some c1
    obtain ⟨d,rfl,hd⟩:=open_nd_cells hcl c2
    refine ⟨d,fun _=>⟨hd,fun j hj=>?_⟩⟩
    rw [hce j hj]
    simp
   ·exact ⟨nd0,fun h=>absurd h hi⟩
  obtain ⟨g,hgs⟩:=Classical.axiomOfChoice hg
  have hlen:((List.range len').map g).length=len':=by simp
  refine ⟨some a',(List.range len').map g,m,by rw [hlen],⟨by rw [hlen];omega,?_⟩,?_⟩
  ·by_cases h0:len'=0
   ·subst h0;exact .inl rfl
   ·right
    obtain ⟨b,off,spot⟩:=a'
    have z:=(hgs 0 (by omega)).2 0 (by omega)
    have hspot:spot=none:=by simpa [Addr.add] using World.cell?_spot z
    subst hspot
    simp only [Go.WideShapes.add_plain] at z hgs
    refine ⟨b,off,rfl,?_,fun i d hd j hj=>?_⟩
    ·rcases Nat.lt_or_ge b W.heap.size with hlt|hge
     ·exact hlt
     ·simp [World.cell?,Array.getElem?_eq_none hge,ndD] at z
    ·rw [List.getElem?_map] at hd
     by_cases hi:i<len'
     ·rw [List.getElem?_range hi] at hd
      obtain rfl:g i=d:=by simpa using hd
      exact (hgs i hi).2 j hj
     ·rw [List.getElem?_eq_none (by simpa using Nat.le_of_not_lt hi)] at hd
      cases hd
  ·intro d hd
   obtain ⟨i,hi,rfl⟩:=List.mem_map.1 hd
   exact (hgs i (List.mem_range.1 hi)).1
set_option maxRecDepth 100000 in
theorem open_graph {H:Type} {enc:TypeId × Value→H} {W:World} {r:Reach} {b0:Nat} {v:Value} {d:DataW H} {p:List MemPlace}
  (hv:Value.okWide Tryz.prog W r b0 24 v) (h:DataW.Trod enc Tryz.prog W 0 (fun _=>true) true 24 v d p) :
  ∃ (a:Option Addr) (N:List Nd) (cap:Nat) (out:Int),v=.agg #[.slice a N.length cap,.int .i64 out]∧NdRow W a N∧∀ d∈N,NdIn W d:=by
 obtain ⟨c0,c1,y0,y1,m,rfl,_,_,h0,h1⟩:=Joins.open_agg2 Tryz.underlying24 (by kernel_rfl) cellsGr hv h
 obtain ⟨a,N,cap,rfl,hN,hd⟩:=open_nodes h0
 obtain ⟨out,e1,_⟩:=DataW.trod_int Tryz.underlying3 h1
 simp at e1
 subst e1
 exact ⟨a,N,cap,out,rfl,hN,hd⟩
theorem Tryz.infoFd:(Tryz.prog.info? 32).map (fun i=>(i.zero,i.size,i.bytes))=some (some (.agg #[.int .i64 0,.int .i64 0,.int .i64 0,.int .i64 0,.slice none 0 0]),5,56):=by kernel_rfl
def inL (P:List Inp):List Value:=P.flatMap fun p=>(InpC p).toList
theorem inL_append (l m:List Inp):inL (l ++ m)=inL l ++ inL m:=by unfold inL;simp
theorem inL_one (r:Inp):inL [r]=(InpC r).toList:=by unfold inL;simp
theorem inL_get:∀ (P:List Inp) (i:Nat) (p:Inp),P[i]?=some p→∀ t,t<5→(inL P)[i*5+t]?=(InpC p)[t]?
 | a :: P,0,p,h,t,ht=>by
  have e:inL (a :: P)=(InpC a).toList ++ inL P:=rfl
  have hl:(InpC a).toList.length=5:=rfl
  obtain rfl:a=p:=by simpa using h
  rw [e,Nat.zero_mul,Nat.zero_add,List.getElem?_append_left (by rw [hl];exact ht),Array.getElem?_toList]
 | a :: P,i+1,p,h,t,ht=>by
  have e:inL (a :: P)=(InpC a).toList ++ inL P:=rfl
  have hl:(InpC a).toList.length=5:=rfl
  rw [e,List.getElem?_append_right (by rw [hl];omega),hl,show (i+1)*5+t-5=i*5+t by omega]
  exact inL_get P i p (by simpa using h) t ht
theorem SRow.grownI {w w':World} {row:Option Nat} {b:Nat} {l:List Nat} (h:SRow w (some ⟨b,0,none⟩) l) (hg:w.grownBy w' row) (hb:some b≠row):SRow w' (some ⟨b,0,none⟩) l:=by
 obtain ⟨h1,h2⟩:=h
 refine ⟨h1,?_⟩
 rcases h2 with h2|⟨b',o',e,h2⟩
 ·exact .inl h2
 ·cases e
  exact .inr ⟨b,0,rfl,fun i hi=>hg.cell (h2 i hi) hb⟩
def InRow (w:World) (p:Inp):Prop:=p.l≠[]∧p.g<w.heap.size∧SRow w (some ⟨p.g,0,none⟩) p.l
theorem InRow.below {w w':World} {p:Inp} (h:InRow w p) (hb:Below w.heap.size w w'):InRow w' p:=⟨h.1,Nat.lt_of_lt_of_le h.2.1 hb.size,h.2.2.below hb⟩
structure InInv (w wr:World) (B:Nat) (v:Value) (P:List Inp):Prop where
 own:wr.ownsRow B 32 5 v P.length (inL P)
 rows:∀ p∈P,InRow wr p
 nil:P=[]→v=.slice none 0 0
 bz:B≤wr.heap.size
 lb:w.heap.size≤B
 below:Below w.heap.size w wr
section
variable {w wr w2 w3:World} {B:Nat} {v v':Value} {P:List Inp}
theorem InInv.call (h:InInv w wr B v P) (hb:Below wr.heap.size wr w2):InInv w w2 B v P:=
 ⟨ownsRow_below h.own hb (fun k hk=>(h.own.lt k hk).2),fun p hp=>(h.rows p hp).below hb,h.nil,Nat.le_trans h.bz hb.size,h.lb,h.below.trans (hb.mono h.below.size)⟩
theorem InInv.alloc (h:InInv w wr B v P) (o:Obj):InInv w (wr.alloc o) B v P:=h.call ((Below.refl _ _).alloc (Nat.le_refl _) _)
theorem InInv.drew (h:InInv w wr B v P):InInv w wr.drew B v P:=h.call (Below.refl _ _).drew
theorem InInv.start (hb:Below w.heap.size w wr) (hB:w.heap.size≤B) (hB1:B≤wr.heap.size):InInv w wr B (.slice none 0 0) []:=
 ⟨World.ownsRow_nil ..,fun p hp=>absurd hp List.not_mem_nil,fun _=>rfl,hB1,hB,hb⟩
theorem InInv.val (h:InInv w wr B v P) (p:P≠[]):∃ g cap,v=.slice (some ⟨g,0,none⟩) P.length cap∧B≤g∧g<wr.heap.size:=by
 rcases h.own.2 with ⟨_,h0⟩|⟨g,cap,cur,he,_⟩
 ·exact absurd (List.length_eq_zero_iff.1 (by omega)) p
 ·subst he
  exact ⟨g,cap,rfl,h.own.lt g rfl⟩
theorem InInv.get (h:InInv w wr B v P) {g cap:Nat} (hv:v=.slice (some ⟨g,0,none⟩) P.length cap) {i:Nat} {p:Inp} (hi:P[i]?=some p) (t:Nat) (ht:t<5):wr.cell? ⟨g,i*5+t,none⟩=(InpC p)[t]?:=by
 have ho:=h.own
 rw [hv] at ho
 have hl:i<P.length:=(List.getElem?_eq_some_iff.1 hi).1
 rw [ho.cellAt (i*5+t) (by omega)]
 exact inL_get P i p hi t ht
theorem InInv.ne (h:InInv w wr B v P):∀ e:Inp,InRow wr e→some e.g≠v.ownBlock:=by
 intro e ⟨he,_,hr⟩ hc
 by_cases hP:P=[]
 ·rw [h.nil hP] at hc;simp [Value.ownBlock] at hc
 ·obtain ⟨g,cap,hv,_⟩:=h.val hP
  obtain ⟨p,hp⟩:∃ p,P[0]?=some p:=by
   cases P with
   | nil=>exact absurd rfl hP
   | cons a P=>exact ⟨a,rfl⟩
  have c0:=h.get hv hp 0 (by omega)
  have c1:=hr.at_ (List.length_pos_iff.2 he)
  rw [hv] at hc
  have:e.g=g:=Option.some.inj hc
  rw [this] at c1
  simp only [Nat.zero_mul,Nat.add_zero] at c0 c1
  rw [c0] at c1
  simp [InpC] at c1
theorem InInv.app {r:Inp} {o:Obj} (h:InInv w w2 B v P) (hr:InRow w2 r) (hown:w3.ownsRow B 32 5 v' (P.length+1) (inL P ++ (InpC r).toList)) (hg:(w2.alloc o).grownBy w3 v.ownBlock):InInv w w3 B v' (P ++ [r]):=by
 have hA:=h.alloc o
 have bA:Below w2.heap.size w2 (w2.alloc o):=(Below.refl _ _).alloc (Nat.le_refl _) _
 refine ⟨?_,?_,fun h=>absurd h (by simp),Nat.le_trans hA.bz hg.size,h.lb,?_⟩
 ·rw [inL_append,inL_one];simpa using hown
 ·intro e he
  have:InRow w2 e:=by
   rcases List.mem_append.1 he with he|he
   ·exact h.rows e he
   ·rw [List.mem_singleton.1 he];exact hr
  have cA:=this.below bA
  exact ⟨cA.1,Nat.lt_of_lt_of_le cA.2.1 hg.size,cA.2.2.grownI hg (hA.ne e cA)⟩
 ·refine hA.below.grown hg (by have:=hA.below.size;exact this) (fun k hk=>?_)
  have:=(h.own.lt k hk).1
  have:=h.lb
  omega
theorem InInv.ins (h:InInv w wr B v P) {g cap:Nat} (hv:v=.slice (some ⟨g,0,none⟩) P.length cap) (hg:g<wr.heap.size):InsAt wr g P:=
 ⟨fun i p hp j hj=>by rw [Nat.mul_comm];exact h.get hv hp j hj,fun p hp=>(h.rows p hp).2.2,hg⟩
end
structure RnOf (w:World) (d:Nd) (k:Nat) (r:Rn):Prop where
 jl:r.J.length=d.nin
 n3:d.nin≤3
 jr:ZRow w d.ia (r.J.map fun j:Nat=>(j:Int))
 jk:∀ j∈r.J,j<k
 m:r.m≤2049
 mar:∀ w',Below w.heap.size w w'→Calls Tryz.prog 44 #[d.val] w' fun e w''=>e=.returned (.int .i64 (r.m:Int))∧Below w'.heap.size w' w''
 ev:EvOk w d.s d.ia d.nin d.cin d.la d.nI d.cI d.ra d.nR d.cR r.m r.G r.ex
def inE (J:List Int) (k:Nat):Int:=if ∀ j∈J,0≤j∧j<(k:Int) then 0 else 6
def ckC (e1 e2:Int) (J:List Int) (k:Nat):Int:=if e1≠0 then e1 else if inE J k≠0 then 6 else e2
theorem inE_ok {J:List Int} {k:Nat} (h:∀ i,i<J.length→0≤J.getD i 0∧J.getD i 0<(k:Int)):inE J k=0:=by
 unfold inE
 rw [if_pos]
 intro j hj
 obtain ⟨i,hi,rfl⟩:=List.getElem_of_mem hj
 have:=h i hi
 rwa [List.getD_eq_getElem?_getD,List.getElem?_eq_getElem hi] at this
theorem inE_no {J:List Int} {k i:Nat} (hi:i<J.length) (h:¬ (0≤J.getD i 0∧J.getD i 0<(k:Int))):inE J k=6:=by
 unfold inE
 rw [if_neg]
 intro hc
 apply h
 rw [List.getD_eq_getElem?_getD,List.getElem?_eq_getElem hi]
 exact hc _ (List.getElem_mem hi)
set_option maxRecDepth 100000 in
set_option maxHeartbeats 1000000 in
theorem checknode_walk (s:ByteArray) (ia:Option Addr) (nin cin:Nat) (la:Option Addr) (nI cI:Nat) (ra:Option Addr) (nR cR:Nat) (k:Nat) (J:List Int) (e1 e2:Int) (w:World)
  (KF:∀ w',Below w.heap.size w w'→Calls Tryz.prog 39 #[ndV s ia nin cin la nI cI ra nR cR] w' fun e w''=>e=.returned (.int .i64 e1)∧Below w'.heap.size w' w'')
  (KN:e1=0→∀ w',Below w.heap.size w w'→Calls Tryz.prog 40 #[ndV s ia nin cin la nI cI ra nR cR] w' fun e w''=>e=.returned (.int .i64 e2)∧Below w'.heap.size w' w'')
  (hJ:e1=0→J.length=nin∧ZRow w ia J) :
  Calls Tryz.prog 33 #[ndV s ia nin cin la nI cI ra nR cR,.int .i64 (k:Int)] w fun e w'=>e=.returned (.int .i64 (ckC e1 e2 J k))∧Below w.heap.size w w':=by
 have KF:=Lib.hid KF
 by_cases h1:e1=0
 ·subst h1
  obtain ⟨rfl,hz⟩:=hJ rfl
  have KN':=Lib.hid (KN rfl)
  clear KN
  have HS:Hid (∃ b o,J≠[]→ia=some ⟨b,o,none⟩):=by
   rcases hz.2 with h|⟨b,o,h,_⟩
   ·exact ⟨0,0,fun hc=>absurd h hc⟩
   ·exact ⟨b,o,fun _=>h⟩
  have HZ:=Lib.hid hz
  have hml:=hz.1
  clear hz hJ
  go_enter Tryz.func33,Tryz.ntmps33
  go_upto_region 1 with fail
  generalize hW0:w.alloc (.cells #[.string s,.slice ia J.length cin,.slice la nI cI,.slice ra nR cR] 61)=W0
  have A0:NdAt W0 w.heap.size s ia J.length cin la nI cI ra nR cR:=by subst hW0;exact NdAt.new _ _ _ _ _ _ _ _ _ _ _
  have b0:Below w.heap.size w W0:=by subst hW0;exact qBl
  have HB0:=Lib.hid b0
  have HA0:=Lib.hid A0
  clear b0 hW0 A0
  obtain ⟨p0,p1,p2,p3⟩:=HA0.out.cells
  have l0:=HA0.out.lt
  go_wp2_with fail
  refine (KF.out _ HB0.out).mono ?_
  rintro e w1 ⟨rfl,b1⟩
  have HB1:=Lib.hid (HB0.out.trans (b1.mono HB0.out.size))
  have HA1:=Lib.hid (HA0.out.below b1 HA0.out.lt)
  clear b1 HB0 HA0 p0 p1 p2 p3 l0
  obtain ⟨p0,p1,p2,p3⟩:=HA1.out.cells
  have l1:=HA1.out.lt
  go_upto_region 5 with fail
  go_loopw [7,16] (fun _ iv wr=>∃ t:Nat,t≤J.length∧iv=.int .i64 (t:Int)∧(∀ i,i<t→0≤J.getD i 0∧J.getD i 0<(k:Int))∧Below w1.heap.size w1 wr) (fun _ iv _=>J.length-(intOf iv).toNat)
  case atStart=>exact ⟨0,by omega,rfl,fun i hi=>absurd hi (by omega),Below.refl _ _⟩
  case round =>
   obtain ⟨t,ht,rfl,hE,hb⟩:=hrel
   have HB:=Lib.hid (HB1.out.trans (hb.mono HB1.out.size))
   have HA2:=Lib.hid (HA1.out.below hb HA1.out.lt)
   have HEE:=Lib.hid hE
   have HBB:=Lib.hid hb
   clear hE hb p0 p1 p2 p3
   by_cases hlt:t<J.length
   ·obtain ⟨b,o,hs⟩:=HS.out
    obtain rfl:=hs (by intro h;rw [h] at hlt;simp at hlt)
    have hZ:=HZ.out.below HB.out
    have cz:=hZ.at_ t hlt
    have hi':(t:Int)<(J.length:Int):=by omega
    have HQ:Hid (∀ i,i<t+1→0≤J.getD t 0∧J.getD t 0<(k:Int)→0≤J.getD i 0∧J.getD i 0<(k:Int)):=Lib.hid (fun i hi hq=>by
     rcases Nat.lt_or_ge i t with h|h
     ·exact HEE.out i h
     ·obtain rfl:i=t:=by omega
      exact hq)
    have HN:=Lib.hid (fun h=>inE_no (k:=k) hlt h)
    clear hZ
    generalize J.getD t 0=x at *
    by_cases hx:0≤x∧x<(k:Int)
    ·obtain ⟨x0,x1⟩:=hx
     go_wp2_with fail
     go_roundw
     case rel=>exact ⟨t+1,by omega,by go_num,fun i hi=>HQ.out i hi ⟨x0,x1⟩,HBB.out⟩
     case measure=>simp [intOf];omega
    ·have h6:=HN.out hx
     have HC:Hid (ckC 0 e2 J k=6):=by unfold ckC Hid;rw [if_neg (by omega),h6,if_pos (by omega)]
     clear HN
     have hx':x<0∨0≤x∧(k:Int)≤x:=by omega
     clear hx
     rcases hx' with hx|⟨hx,hx2⟩
     all_goals
      go_wp2_with fail
      go_ret
      exact ⟨ret_i64 HC.out.symm,HB.out⟩
   ·obtain rfl:t=J.length:=by omega
    have h0:=inE_ok HEE.out
    have HC:Hid (ckC 0 e2 J k=e2):=by unfold ckC Hid;rw [if_neg (by omega),h0,if_neg (by omega)]
    obtain ⟨p0,p1,p2,p3⟩:=HA2.out.cells
    have l2:=HA2.out.lt
    go_wp2_with fail
    refine (KN'.out _ HB.out).mono ?_
    rintro e w2 ⟨rfl,b2⟩
    go_wp2_with fail
    go_ret
    exact ⟨ret_i64 HC.out.symm,HB.out.trans (b2.mono HB.out.size)⟩
 ·clear KN hJ
  have hne:(e1 != 0)=true:=by simpa using h1
  have HC:Hid (ckC e1 e2 J k=e1):=by unfold ckC Hid;rw [if_pos h1]
  go_enter Tryz.func33,Tryz.ntmps33
  go_upto_region 1 with fail
  generalize hW0:w.alloc (.cells #[.string s,.slice ia nin cin,.slice la nI cI,.slice ra nR cR] 61)=W0
  have A0:NdAt W0 w.heap.size s ia nin cin la nI cI ra nR cR:=by subst hW0;exact NdAt.new _ _ _ _ _ _ _ _ _ _ _
  have b0:Below w.heap.size w W0:=by subst hW0;exact qBl
  have HB0:=Lib.hid b0
  have HA0:=Lib.hid A0
  clear b0 hW0 A0
  obtain ⟨p0,p1,p2,p3⟩:=HA0.out.cells
  have l0:=HA0.out.lt
  go_wp2_with fail
  refine (KF.out _ HB0.out).mono ?_
  rintro e w1 ⟨rfl,b1⟩
  have HB1:=Lib.hid (HB0.out.trans (b1.mono HB0.out.size))
  have HA1:=Lib.hid (HA0.out.below b1 HA0.out.lt)
  clear b1 HB0 HA0 p0 p1 p2 p3 l0
  go_wp2_with fail
  go_ret
  exact ⟨ret_i64 HC.out.symm,HB1.out⟩
theorem checknode_any {w:World} {d:Nd} (h:NdIn w d) (k:Nat) :
  ∃ c:Int,(∀ w',Below w.heap.size w w'→Calls Tryz.prog 33 #[d.val,.int .i64 (k:Int)] w' fun e w''=>e=.returned (.int .i64 c)∧Below w'.heap.size w' w'')∧(c=0→∃ r:Rn,RnOf w d k r):=by
 obtain ⟨e1,e2,KF,KN,h3,hg⟩:=h.node
 have hJ:∃ J:List Int,e1=0→J.length=d.nin∧ZRow w d.ia J:=by
  by_cases he:e1=0
  ·obtain ⟨J,j1,j2⟩:=h.j (by have:=h3 he;omega)
   exact ⟨J,fun _=>⟨j1,j2⟩⟩
  ·exact ⟨[],fun h=>absurd h he⟩
 obtain ⟨J,hJ⟩:=hJ
 refine ⟨ckC e1 e2 J k,fun w' hb=>?_,fun hc=>?_⟩
 ·refine checknode_walk d.s d.ia d.nin d.cin d.la d.nI d.cI d.ra d.nR d.cR k J e1 e2 w' (fun w2 b2=>KF w2 (hb.trans (b2.mono hb.size))) (fun he w2 b2=>KN he w2 (hb.trans (b2.mono hb.size))) (fun he=>⟨(hJ he).1,(hJ he).2.below hb⟩)
 ·unfold ckC at hc
  by_cases he:e1=0
  ·rw [if_neg (by omega)] at hc
   by_cases hi:inE J k=0
   ·rw [if_neg (by omega)] at hc
    obtain ⟨m,z,G,ex,rfl,hm,hmar,hev⟩:=hg he hc
    obtain ⟨j1,j2⟩:=hJ he
    have hin:∀ j∈J,0≤j∧j<(k:Int):=by
     unfold inE at hi
     by_cases hq:∀ j∈J,0≤j∧j<(k:Int)
     ·exact hq
     ·rw [if_neg hq] at hi;omega
    have e:(J.map Int.toNat).map (fun j:Nat=>(j:Int))=J:=by
     rw [List.map_map]
     conv=>rhs;rw [←List.map_id J]
     refine List.map_congr_left fun j hj=>?_
     have:=(hin j hj).1
     simp only [Function.comp,id]
     omega
    refine ⟨⟨J.map Int.toNat,m,G,ex⟩,⟨by simpa using j1,h3 he,by rw [e];exact j2,fun j hj=>?_,hm,hmar,hev⟩⟩
    obtain ⟨i,hi,rfl⟩:=List.mem_map.1 hj
    have:=hin i hi
    omega
   ·rw [if_pos hi] at hc;omega
  ·rw [if_pos he] at hc;exact absurd hc he
def fstE (cs:Nat→Int):Nat→Int
 | 0=>0
 | n+1=>if fstE cs n≠0 then fstE cs n else cs n
theorem fstE_zero {cs:Nat→Int}:∀ {n},(∀ i,i<n→cs i=0)→fstE cs n=0
 | 0,_=>rfl
 | n+1,h=>by
  unfold fstE
  rw [if_neg (by rw [fstE_zero fun i hi=>h i (by omega)];omega)]
  exact h n (by omega)
theorem fstE_all {cs:Nat→Int}:∀ {n},fstE cs n=0→∀ i,i<n→cs i=0
 | n+1,h,i,hi=>by
  unfold fstE at h
  by_cases hn:fstE cs n=0
  ·rw [if_neg (by omega)] at h
   rcases Nat.lt_or_ge i n with c|c
   ·exact fstE_all hn i c
   ·obtain rfl:i=n:=by omega
    exact h
  ·rw [if_pos hn] at h;exact absurd h hn
theorem fstE_at {cs:Nat→Int} {t:Nat} (h:∀ i,i<t→cs i=0) (ht:cs t≠0):∀ {n},t<n→fstE cs n=cs t
 | n+1,hn=>by
  unfold fstE
  rcases Nat.lt_or_ge t n with c|c
  ·rw [fstE_at h ht c,if_pos ht]
  ·obtain rfl:n=t:=by omega
   rw [fstE_zero h,if_neg (by omega)]
def graphC (cs:Nat→Int) (n:Nat) (out:Int):Int:=if n=0 then 10 else if 200<n then 4 else if fstE cs n≠0 then fstE cs n else if out<0 then 6 else if (n:Int)≤out then 6 else 0
theorem NdRow.four {w:World} {a:Option Addr} {N:List Nd} (h:NdRow w a N):∃ b o,N≠[]→a=some ⟨b,o,none⟩∧b<w.heap.size:=by
 rcases h.2 with h|⟨b,o,h,hl,_⟩
 ·exact ⟨0,0,fun hc=>absurd h hc⟩
 ·exact ⟨b,o,fun _=>⟨h,hl⟩⟩
def ndAt (N:List Nd) (k:Nat):Nd:=N.getD k nd0
theorem ndAt_eq {N:List Nd} {k:Nat} (h:k<N.length):N[k]?=some (ndAt N k):=by unfold ndAt;rw [List.getD_eq_getElem?_getD,List.getElem?_eq_getElem h];rfl
theorem ndAt_mem {N:List Nd} {k:Nat} (h:k<N.length):ndAt N k∈N:=List.mem_of_getElem? (ndAt_eq h)
theorem NdRow.cells {w:World} {b o:Nat} {N:List Nd} (h:NdRow w (some ⟨b,o,none⟩) N) {k:Nat} (hk:k<N.length) :
  w.cell? ⟨b,o+k*4,none⟩=some (.string (ndAt N k).s)∧w.cell? ⟨b,o+k*4+1,none⟩=some (.slice (ndAt N k).ia (ndAt N k).nin (ndAt N k).cin)∧w.cell? ⟨b,o+k*4+2,none⟩=some (.slice (ndAt N k).la (ndAt N k).nI (ndAt N k).cI)∧w.cell? ⟨b,o+k*4+3,none⟩=some (.slice (ndAt N k).ra (ndAt N k).nR (ndAt N k).cR):=by
 rcases h.2 with h|⟨b',o',e,_,hc⟩
 ·subst h;simp at hk
 ·cases e
  have:=hc k _ (ndAt_eq hk)
  exact ⟨this 0 (by omega),this 1 (by omega),this 2 (by omega),this 3 (by omega)⟩
theorem bot2 {w w1:World} (h:Below w.heap.size w w1) {w2:World} (h2:Below w1.heap.size w1 w2):Below w.heap.size w w2:=h.trans (h2.mono h.size)
set_option maxRecDepth 100000 in
set_option maxHeartbeats 1000000 in
theorem checkgraph_walk (a:Option Addr) (N:List Nd) (cap:Nat) (out:Int) (cs:Nat→Int) (w:World) (hN:NdRow w a N)
  (KC:∀ k,k<N.length→∀ w',Below w.heap.size w w'→Calls Tryz.prog 33 #[(ndAt N k).val,.int .i64 (k:Int)] w' fun e w''=>e=.returned (.int .i64 (cs k))∧Below w'.heap.size w' w'') :
  Calls Tryz.prog 29 #[.agg #[.slice a N.length cap,.int .i64 out]] w fun e w'=>e=.returned (.int .i64 (graphC cs N.length out))∧Below w.heap.size w w':=by
 have hml:N.length≤maxLen:=hN.1
 have KC:=Lib.hid KC
 have HN:=Lib.hid hN
 have HS:=Lib.hid hN.four
 clear hN
 unfold maxLen at hml
 by_cases h0:N.length=0
 ·have HC:Hid (graphC cs N.length out=10):=by unfold graphC Hid;rw [if_pos h0]
  rw [h0] at *
  clear h0
  go_enter Tryz.func29,Tryz.ntmps29
  go_upto_region 1 with fail
  have G0:=Blk.new w #[.slice a 0 cap,.int .i64 out] 24
  have b0:Below w.heap.size w (w.alloc (.cells #[.slice a 0 cap,.int .i64 out] 24)):=qBl
  generalize w.alloc (.cells #[.slice a 0 cap,.int .i64 out] 24)=W0 at *
  have HG0:=Lib.hid G0
  have HB0:=Lib.hid b0
  have g0:W0.cell? ⟨w.heap.size,0,none⟩=some (.slice a 0 cap):=HG0.out.cell 0
  exact qx73
 ·by_cases h2:200<N.length
  ·have HC:Hid (graphC cs N.length out=4):=by unfold graphC Hid;rw [if_neg h0,if_pos h2]
   go_enter Tryz.func29,Tryz.ntmps29
   go_upto_region 1 with fail
   have G0:=Blk.new w #[.slice a N.length cap,.int .i64 out] 24
   have b0:Below w.heap.size w (w.alloc (.cells #[.slice a N.length cap,.int .i64 out] 24)):=qBl
   generalize w.alloc (.cells #[.slice a N.length cap,.int .i64 out] 24)=W0 at *
   have HG0:=Lib.hid G0
   have HB0:=Lib.hid b0
   have g0:W0.cell? ⟨w.heap.size,0,none⟩=some (.slice a N.length cap):=HG0.out.cell 0
   exact qx73
  ·have HD:Hid (graphC cs N.length out=if fstE cs N.length≠0 then fstE cs N.length else if out<0 then 6 else if (N.length:Int)≤out then 6 else 0):=by unfold graphC Hid;rw [if_neg h0,if_neg h2]
   have hb0:((N.length:Int) == 0)=false:=beq_eq_false_iff_ne.2 (by omega)
   obtain ⟨b,o,hs⟩:=HS.out
   obtain ⟨rfl,hlb⟩:=hs (by intro h;rw [h] at h0;exact h0 rfl)
   clear hs HS
   go_enter Tryz.func29,Tryz.ntmps29
   go_upto_region 1 with fail
   generalize ha:(some (Addr.mk b o none))=a at *
   have G0:=Blk.new w #[.slice a N.length cap,.int .i64 out] 24
   have b0:Below w.heap.size w (w.alloc (.cells #[.slice a N.length cap,.int .i64 out] 24)):=qBl
   generalize w.alloc (.cells #[.slice a N.length cap,.int .i64 out] 24)=W0 at *
   have HG0:=Lib.hid G0
   have HB0:=Lib.hid b0
   have g0:W0.cell? ⟨w.heap.size,0,none⟩=some (.slice a N.length cap):=HG0.out.cell 0
   have g1:W0.cell? ⟨w.heap.size,1,none⟩=some (.int .i64 out):=HG0.out.cell 1
   have l0:w.heap.size<W0.heap.size:=HG0.out.lt
   clear b0 G0
   subst ha
   go_upto_region 6 with fail
   go_loopw [19] (fun iv wr=>∃ t:Nat,t≤N.length∧iv=.int .i64 (t:Int)∧(∀ i,i<t→cs i=0)∧Below W0.heap.size W0 wr) (fun iv _=>N.length-(intOf iv).toNat)
   case atStart=>exact ⟨0,by omega,rfl,fun i hi=>absurd hi (by omega),Below.refl _ _⟩
   case round =>
    obtain ⟨t,ht,rfl,hE,hb⟩:=hrel
    have HB:=Lib.hid (bot2 HB0.out hb)
    have HG2:=Lib.hid (HG0.out.below hb HG0.out.lt)
    have HEE:=Lib.hid hE
    have HBB:=Lib.hid hb
    clear hE hb g0 g1
    by_cases hlt:t<N.length
    ·obtain ⟨c0,c1,c2,c3⟩:=(HN.out.below HB.out).cells hlt
     have hlb2:b<wr.heap.size:=Nat.lt_of_lt_of_le hlb HB.out.size
     have hi':(t:Int)<(N.length:Int):=by omega
     have KC1:=Lib.hid (KC.out t hlt)
     have HF:=Lib.hid (fun h=>fstE_at HEE.out h hlt)
     have HQ:Hid (cs t=0→∀ i,i<t+1→cs i=0):=Lib.hid (fun hq i hi=>by
      rcases Nat.lt_or_ge i t with h|h
      ·exact HEE.out i h
      ·obtain rfl:i=t:=by omega
       exact hq)
     generalize ndAt N t=d at *
     obtain ⟨s,ia,nin,cin,la,nI,cI,ra,nR,cR⟩:=d
     unfold Nd.val at KC1
     simp only at *
     have b1:Below wr.heap.size wr (wr.alloc (.cells #[.string s,.slice ia nin cin,.slice la nI cI,.slice ra nR cR] 61)):=qBl
     have HB1:=Lib.hid (bot2 HB.out b1)
     have HBB1:=Lib.hid (bot2 HBB.out b1)
     clear b1
     go_wp2_with fail
     refine (KC1.out _ HB1.out).mono ?_
     rintro en w2 ⟨rfl,b2⟩
     have HB2:=Lib.hid (bot2 HB1.out b2)
     have HBB2:=Lib.hid (bot2 HBB1.out b2)
     clear b2
     by_cases hq:cs t=0
     ·have hq':=HQ.out hq
      rw [hq]
      have HQ':=Lib.hid hq'
      clear hq' HF HQ
      go_wp2_with fail
      go_roundw
      case rel=>exact ⟨t+1,by omega,by go_num,HQ'.out,HBB2.out⟩
      case measure=>simp [intOf];omega
     ·have HF':=HF.out hq
      have HC:Hid (graphC cs N.length out=cs t):=by unfold Hid;rw [HD.out,HF',if_pos hq]
      clear HF HQ HF'
      generalize cs t=q at *
      have hb':(q != 0)=true:=by rw [bne_iff_ne];exact hq
      go_wp2_with fail
      go_ret
      exact ⟨ret_i64 HC.out.symm,HB2.out⟩
    ·obtain rfl:t=N.length:=by omega
     have hf:=fstE_zero HEE.out
     have hd:=HD.out
     rw [hf,if_neg (by omega)] at hd
     have HC:=Lib.hid hd
     clear hd HD hf
     have g0:wr.cell? ⟨w.heap.size,0,none⟩=some (.slice (some ⟨b,o,none⟩) N.length cap):=HG2.out.cell 0
     have g1:wr.cell? ⟨w.heap.size,1,none⟩=some (.int .i64 out):=HG2.out.cell 1
     have l2:w.heap.size<wr.heap.size:=HG2.out.lt
     by_cases q1:out<0
     ·have hc:=HC.out
      rw [if_pos q1] at hc
      have HC2:=Lib.hid hc
      clear hc HC
      go_wp2_with fail
      go_ret
      exact ⟨ret_i64 HC2.out.symm,HB.out⟩
     ·by_cases q2:(N.length:Int)≤out
      ·have hc:=HC.out
       rw [if_neg q1,if_pos q2] at hc
       have HC2:=Lib.hid hc
       clear hc HC
       go_wp2_with fail
       go_ret
       exact ⟨ret_i64 HC2.out.symm,HB.out⟩
      ·have hc:=HC.out
       rw [if_neg q1,if_neg q2] at hc
       have HC2:=Lib.hid hc
       clear hc HC
       go_wp2_with fail
       go_ret
       exact ⟨ret_i64 HC2.out.symm,HB.out⟩
structure GrOk (w:World) (N:List Nd) (R:List Rn):Prop where
 n1:1≤N.length
 n2:N.length≤200
 len:R.length=N.length
 at_:∀ k,k<N.length→RnOf w (ndAt N k) k (rnAt R k)
theorem GrOk.ok {w:World} {N:List Nd} {R:List Rn} (h:GrOk w N R):RnOk R:=⟨fun k hk=>(h.at_ k (by rw [←h.len];exact hk)).jk,fun k hk=>(h.at_ k (by rw [←h.len];exact hk)).m⟩
theorem checkgraph_any (a:Option Addr) (N:List Nd) (cap:Nat) (out:Int) (w:World) (hN:NdRow w a N) (hd:∀ d∈N,NdIn w d) :
  ∃ c:Int,(∀ w',Below w.heap.size w w'→Calls Tryz.prog 29 #[.agg #[.slice a N.length cap,.int .i64 out]] w' fun e w''=>e=.returned (.int .i64 c)∧Below w'.heap.size w' w'') ∧
   (c=0→∃ (R:List Rn) (t:Nat),GrOk w N R∧out=(t:Int)∧t<R.length):=by
 have hC:∀ k,∃ c:Int,k<N.length→(∀ w',Below w.heap.size w w'→Calls Tryz.prog 33 #[(ndAt N k).val,.int .i64 (k:Int)] w' fun e w''=>e=.returned (.int .i64 c)∧Below w'.heap.size w' w'')∧(c=0→∃ r:Rn,RnOf w (ndAt N k) k r):=fun k=>by
  by_cases hk:k<N.length
  ·obtain ⟨c,h1,h2⟩:=checknode_any (hd _ (ndAt_mem hk)) k
   exact ⟨c,fun _=>⟨h1,h2⟩⟩
  ·exact ⟨0,fun h=>absurd h hk⟩
 obtain ⟨cs,hcs⟩:=Classical.axiomOfChoice hC
 refine ⟨graphC cs N.length out,fun w' hb=>checkgraph_walk a N cap out cs w' (hN.below hb) fun k hk w2 b2=>(hcs k hk).1 w2 (bot2 hb b2),fun hc=>?_⟩
 unfold graphC at hc
 by_cases h0:N.length=0
 ·rw [if_pos h0] at hc;omega
 rw [if_neg h0] at hc
 by_cases h2:200<N.length
 ·rw [if_pos h2] at hc;omega
 rw [if_neg h2] at hc
 by_cases hf:fstE cs N.length=0
 ·rw [if_neg (by omega)] at hc
  by_cases q1:out<0
  ·rw [if_pos q1] at hc;omega
  rw [if_neg q1] at hc
  by_cases q2:(N.length:Int)≤out
  ·rw [if_pos q2] at hc;omega
  have hr:∀ k,∃ r:Rn,k<N.length→RnOf w (ndAt N k) k r:=fun k=>by
   by_cases hk:k<N.length
   ·obtain ⟨r,h⟩:=(hcs k hk).2 (fstE_all hf k hk)
    exact ⟨r,fun _=>h⟩
   ·exact ⟨rn0,fun h=>absurd h hk⟩
  obtain ⟨rf,hrf⟩:=Classical.axiomOfChoice hr
  have hl:((List.range N.length).map rf).length=N.length:=by simp
  refine ⟨(List.range N.length).map rf,out.toNat,⟨by omega,by omega,hl,fun k hk=>?_⟩,by omega,by rw [hl];omega⟩
  have:rnAt ((List.range N.length).map rf) k=rf k:=by
   unfold rnAt
   rw [List.getD_eq_getElem?_getD,List.getElem?_map,List.getElem?_range hk]
   rfl
  rw [this]
  exact hrf k hk
 ·rw [if_pos hf] at hc;exact absurd hc hf
def zv (o:List Int):Array Value:=(o.map (Value.int .i64)).toArray
theorem zv_get {o:List Int} {i:Nat} (h:i<o.length):(zv o)[i]?=some (.int .i64 (o.getD i 0)):=by
 unfold zv
 rw [List.getElem?_toArray,List.getElem?_map,List.getD_eq_getElem?_getD,List.getElem?_eq_getElem h]
 rfl
theorem zv_set (o:List Int) (i:Nat) (x:Int):(zv o).setIfInBounds i (.int .i64 x)=zv (o.set i x):=by
 unfold zv
 rw [List.setIfInBounds_toArray,List.map_set]
theorem Blk.setz {w:World} {g:Nat} {o:List Int} (h:Blk w g (zv o) 3) (i:Nat) (x:Int):Blk (w.setCell ⟨g,i,none⟩ (.int .i64 x)) g (zv (o.set i x)) 3:=by
 have:=Go.heap_setCell_same w g i _ _ (.int .i64 x) h
 rw [zv_set] at this
 exact this
theorem infoIn1:(Tryz.prog.info? 3).map (fun i=>(i.zero,i.size,i.bytes))=some (some (.int .i64 0),1,8):=by kernel_rfl
set_option maxRecDepth 10000 in
theorem make_ints (n:Nat) (hn:n≤4294967296):∀ w:World,(Instr.makeSlice 59 (.int .i64 (n:Int)) (.int .i64 (n:Int))).run Tryz.prog w=.ok (.slice (some ⟨w.heap.size,0,none⟩) n n) (w.alloc (.cells (zv (List.replicate n 0)) 3)):=by
 obtain ⟨i0,hi,hz0,hz1,hz2⟩:=info_parts infoIn1
 intro w
 have hr:=run_make (P:=Tryz.prog) w 59 3 i0 (.int .i64 0) (by rfl) hi hz0 .i64 .i64 (n:Int) (n:Int) (by omega) (Int.le_refl _) (by rw [hz2];omega) (by omega)
 simp only [Int.toNat_natCast] at hr
 rw [hr,hz1]
 have e:madeCells (Value.cells (.int .i64 0)) (n*1)=zv (List.replicate n 0):=by
  apply Array.toList_inj.1
  unfold madeCells zv
  refine List.ext_getElem? fun k=>?_
  by_cases hk:k<n
  ·simp [Value.cells,hk,Nat.mod_one]
  ·simp [Value.cells,hk]
 rw [e]
theorem pushL_append (a:Int):∀ (J K:List Nat) (o:List Int),pushL a (J ++ K) o=pushL a K (pushL a J o)
 | [],K,o=>rfl
 | i :: J,K,o=>by
  show pushL a (J ++ K) _=pushL a K (pushL a J _)
  exact pushL_append a J K _
theorem pushL_take (a:Int) {J:List Nat} {o:List Int} {i:Nat} (h:i<J.length):pushL a (J.take (i+1)) o=(pushL a (J.take i) o).set (J.getD i 0) (max ((pushL a (J.take i) o).getD (J.getD i 0) 0) a):=by
 rw [List.take_add_one,pushL_append,List.getElem?_eq_getElem h,List.getD_eq_getElem?_getD,List.getElem?_eq_getElem h]
 rfl
structure NdInv (w:World) (a:Option Addr) (n cap:Nat) (out:Int) (o:List Int) (wr:World):Prop where
 gr:Blk wr w.heap.size #[.slice a n cap,.int .i64 out] 24
 row:Blk wr (w.heap.size+1) (zv o) 3
 b:Below w.heap.size w wr
section
variable {w wr w2:World} {a:Option Addr} {n cap:Nat} {out:Int} {o:List Int}
theorem NdInv.call (h:NdInv w a n cap out o wr) (hb:Below wr.heap.size wr w2):NdInv w a n cap out o w2:=⟨h.gr.below hb h.gr.lt,h.row.below hb h.row.lt,bot2 h.b hb⟩
theorem NdInv.drew (h:NdInv w a n cap out o wr):NdInv w a n cap out o wr.drew:=⟨h.gr,h.row,h.b.drew⟩
theorem NdInv.set (h:NdInv w a n cap out o wr) (i:Nat) (x:Int):NdInv w a n cap out (o.set i x) (wr.setCell ⟨w.heap.size+1,i,none⟩ (.int .i64 x)):=
 ⟨h.gr.setCell (by show w.heap.size≠w.heap.size+1;omega) _,h.row.setz i x,h.b.setCell (by show w.heap.size≤w.heap.size+1;omega) _⟩
theorem NdInv.fro (h:NdInv w a n cap out o wr) (i:Nat):wr.frozen? ⟨w.heap.size+1,i,none⟩=false:=h.row.frozen i
theorem NdInv.get (h:NdInv w a n cap out o wr) {i:Nat} (hi:i<o.length):wr.cell? ⟨w.heap.size+1,i,none⟩=some (.int .i64 (o.getD i 0)):=by
 rw [h.row.cell];exact zv_get hi
theorem NdInv.getv (h:NdInv w a n cap out o wr) {i:Nat} {v:Int} (hi:i<o.length) (hv:o.getD i 0=v):wr.cell? ⟨w.heap.size+1,i,none⟩=some (.int .i64 v):=by rw [←hv];exact h.get hi
theorem NdInv.lt (h:NdInv w a n cap out o wr):w.heap.size+1<wr.heap.size:=h.row.lt
end
theorem NdInv.start (w:World) (a:Option Addr) (n cap:Nat) (out:Int):NdInv w a n cap out (List.replicate n 0) ((w.alloc (.cells #[.slice a n cap,.int .i64 out] 24)).alloc (.cells (zv (List.replicate n 0)) 3)):=by
 refine ⟨(Blk.new _ _ _).alloc _,?_,qBl⟩
 have:=Blk.new (w.alloc (.cells #[.slice a n cap,.int .i64 out] 24)) (zv (List.replicate n 0)) 3
 simpa using this
def NeP (R:List Rn) (t:Nat) (w:World) (e:Ending) (w':World):Prop:=
 ∃ g cap,e=.returned (.tuple #[.slice (some ⟨g,0,none⟩) R.length cap,.int .i64 (needsL R t).2])∧w.heap.size≤g∧Blk w' g (zv (needsL R t).1) 3∧Below w.heap.size w w'
set_option maxRecDepth 100000 in
set_option maxHeartbeats 2000000 in
theorem needs_walk (b o:Nat) (N:List Nd) (cap:Nat) (R:List Rn) (t:Nat) (W0 w:World) (hN:NdRow W0 (some ⟨b,o,none⟩) N) (hb0:b<W0.heap.size) (hG:GrOk W0 N R) (ht:t<R.length) (hW:Below W0.heap.size W0 w) :
  Calls Tryz.prog 41 #[.agg #[.slice (some ⟨b,o,none⟩) N.length cap,.int .i64 (t:Int)]] w (NeP R t w):=by
 have hlen:=hG.len
 have h200:=hG.n2
 have HR:=hG.ok
 have KA:=Lib.hid hG.at_
 have KST:=Lib.hid (fun q (hq:q≤t) s (h:NdS R t (q+1) s)=>h.step HR ht hq)
 have KS0:Hid (NdS R t (t+1) (nStart R.length t)):=NdS.start ht
 have HN:=Lib.hid hN
 have HW:=Lib.hid hW
 have HNE:Hid (needsL R t=nRun R (t+1) (nStart R.length t)):=rfl
 have KM:=make_ints N.length (by omega)
 have HM0:=Lib.hid (NdInv.start w (some ⟨b,o,none⟩) N.length cap (t:Int))
 have hJ:=Lib.hid (fun k hk=>HR.j k hk)
 have hm:=Lib.hid (fun k hk=>HR.m k hk)
 have htN:(t:Int)<(N.length:Int):=by omega
 have G0:=Blk.new w #[.slice (some ⟨b,o,none⟩) N.length cap,.int .i64 (t:Int)] 24
 have g0:(w.alloc (.cells #[.slice (some ⟨b,o,none⟩) N.length cap,.int .i64 (t:Int)] 24)).cell? ⟨w.heap.size,0,none⟩=some (.slice (some ⟨b,o,none⟩) N.length cap):=G0.cell 0
 have g1:(w.alloc (.cells #[.slice (some ⟨b,o,none⟩) N.length cap,.int .i64 (t:Int)] 24)).cell? ⟨w.heap.size,1,none⟩=some (.int .i64 (t:Int)):=G0.cell 1
 clear hN hG hW HR G0
 go_enter Tryz.func41,Tryz.ntmps41
 go_upto_region 1 with fail
 go_upto_region 3 with fail
 have hz0:(w.alloc (.cells #[.slice (some ⟨b,o,none⟩) N.length cap,.int .i64 (t:Int)] 24)).heap.size=w.heap.size+1:=by simp
 try rw [hz0]
 generalize (w.alloc (.cells #[.slice (some ⟨b,o,none⟩) N.length cap,.int .i64 (t:Int)] 24)).alloc (.cells (zv (List.replicate N.length 0)) 3)=W1 at *
 clear g0 g1 hz0 KM
 go_loopw [6,17] (fun _ iv wr=>∃ (i:Nat) (z:List Int),i≤N.length∧iv=.int .i64 (i:Int)∧z.length=N.length∧(∀ j,j<i→z.getD j 0=-1)∧NdInv w (some ⟨b,o,none⟩) N.length cap (t:Int) z wr) (fun _ iv _=>N.length-(intOf iv).toNat)
 case atStart=>exact ⟨0,_,by omega,rfl,by simp,fun j hj=>absurd hj (by omega),HM0.out⟩
 case round =>
  obtain ⟨i,z,hi,rfl,hz,hm1,hI⟩:=hrel
  have HI:=Lib.hid hI
  have hlt0:=hI.lt
  have hf:=hI.fro i
  by_cases hlt:i<N.length
  ·have hg:=hI.get (i:=i) (by omega)
   have hi':(i:Int)<(N.length:Int):=by omega
   have HZ:Hid (∀ j,j<i+1→(z.set i (-1)).getD j 0=-1):=Lib.hid (fun j hj=>by
    rw [set_get]
    split
    ·rfl
    ·rename_i hc
     exact hm1 j (by omega))
   clear hI hm1
   go_wp2_with fail
   go_roundw
   case rel=>exact ⟨i+1,z.set i (-1),by omega,by go_num,by simpa using hz,HZ.out,HI.out.set i (-1)⟩
   case measure=>simp [intOf];omega
  ·obtain rfl:i=N.length:=by omega
   have e:z=List.replicate R.length (-1):=by
    refine List.ext_getElem? fun j=>?_
    rw [List.getElem?_replicate]
    by_cases hj:j<N.length
    ·rw [if_pos (by omega)]
     have:=hm1 j hj
     rw [List.getD_eq_getElem?_getD,List.getElem?_eq_getElem (by omega)] at this
     rw [List.getElem?_eq_getElem (by omega)]
     simpa using this
    ·rw [if_neg (by omega),List.getElem?_eq_none (by omega)]
   clear hm1 hf
   have hg:=hI.get (i:=t) (by omega)
   have hf:=hI.fro t
   have p0:wr.cell? ⟨w.heap.size,0,none⟩=some (.slice (some ⟨b,o,none⟩) N.length cap):=hI.gr.cell 0
   have p1:wr.cell? ⟨w.heap.size,1,none⟩=some (.int .i64 (t:Int)):=hI.gr.cell 1
   have HI2:=Lib.hid (hI.set t 0)
   have HQ:Hid (z.set t 0=(nStart R.length t).1):=Lib.hid (by rw [e];rfl)
   clear hI HI e
   go_upto_region 9 with fail
   generalize wr.setCell ⟨w.heap.size+1,t,none⟩ (.int .i64 0)=W2 at *
   rw [HQ.out] at HI2
   clear hg hf p0 p1 HM0 HQ
   go_loopw [5,7,8,10,60] (fun mv kv _ _ _ wq=>∃ (r:Nat) (s:List Int × Int),r≤t+1∧kv=.int .i64 ((r:Int)-1)∧mv=.int .i64 s.2∧NdInv w (some ⟨b,o,none⟩) N.length cap (t:Int) s.1 wq∧NdS R t r s∧nRun R r s=needsL R t) (fun _ kv _ _ _ _=>(intOf kv+1).toNat)
   case atStart=>exact ⟨t+1,nStart R.length t,by omega,by simp,rfl,HI2.out,KS0.out,HNE.out.symm⟩
   case round =>
    clear HI2 KS0 HNE hlt0 hlt hz hi
    obtain ⟨r,s,hr,rfl,rfl,hI,hS,hE⟩:=hrel
    have hlt0:=hI.lt
    cases r with
    | zero =>
     have hE2:s=needsL R t:=hE
     have HI:=Lib.hid hI
     have HE:=Lib.hid hE2
     clear hE hE2 hI hS
     go_wp2_with fail
     have hI:=HI.out
     rw [HE.out] at hI ⊢
     refine bodyPost_ret (v:=.tuple #[.slice (some ⟨w.heap.size+1,0,none⟩) N.length N.length,.int .i64 (needsL R t).2]) (by simp [results,Tryz.results41,go_sem, *]) rfl ?_
     rw [←hlen]
     exact ⟨_,_,rfl,by omega,hI.row,hI.b⟩
    | succ q =>
     have hqN:(q:Int)<(N.length:Int):=by omega
     have hkr:(((q+1:Nat):Int)-1)=(q:Int):=by omega
     have hsl:s.1.length=N.length:=by rw [hS.len];exact hlen
     have hg:=hI.get (i:=q) (by omega)
     have hlo:=hS.lo q (by omega)
     have hm0:=hS.m0
     have hm1:=hS.m1
     have hmq:=hm.out q (by omega)
     have HI:=Lib.hid hI
     have KS:=Lib.hid (KST.out q (by omega) s hS)
     have HE:Hid (nRun R q (nStep R q s)=needsL R t):=hE
     have wb:((t+1-(q+1):Nat):Int)≤200:=by omega
     rw [hkr]
     obtain ⟨so,sm⟩:=s
     simp only at hsl hg hlo hm0 hm1
     clear hS hE hkr
     by_cases hn:so.getD q 0=-1
     ·rw [hn] at hg
      have hst:nStep R q (so,sm)=(so,sm):=by unfold nStep;rw [if_pos hn]
      rw [hst] at KS HE
      clear hI hst hn hlo
      go_wp2_with fail
      go_roundw
      case rel=>exact ⟨q,(so,sm),by omega,by go_num,rfl,HI.out,KS.out,HE.out⟩
      case measure=>simp [intOf]
     ·have hne:(so.getD q 0 == -1)=false:=by simpa using hn
      have hlo2:=hlo.resolve_left hn
      have hst:nStep R q (so,sm)=(pushL (so.getD q 0+(rnAt R q).m) (rnAt R q).J so,max sm (so.getD q 0+(rnAt R q).m)):=by unfold nStep;rw [if_neg hn]
      rw [hst] at KS HE
      have KAq:=KA.out q (by omega)
      have hJq:=hJ.out q (by omega)
      have KMq:=Lib.hid (fun w' h=>KAq.mar w' h)
      have hadd:IntKind.i64.wrap (so.getD q 0+((rnAt R q).m:Int))=so.getD q 0+((rnAt R q).m:Int):=IntWalk.i64_in _ (by omega)
      have hadd2:wrap64 (so.getD q 0+((rnAt R q).m:Int))=so.getD q 0+((rnAt R q).m:Int):=by unfold wrap64;omega
      have hJr:=KAq.jr
      have hJl:=KAq.jl
      clear KAq hst hn hlo hlo2
      generalize hdd:ndAt N q=d at *
      generalize hrr:rnAt R q=rq at *
      generalize hv:so.getD q 0=v at *
      have HV:=Lib.hid hv
      clear hv
      obtain ⟨ds,ia,nin,cin,la,nI,cI,ra,nR,cR⟩:=d
      unfold Nd.val at KMq
      simp only at KMq hJr hJl
      obtain rfl:=hJl
      have HZ:=Lib.hid hJr
      have HC:=Lib.hid (fun W (h:NdInv w (some ⟨b,o,none⟩) N.length cap (t:Int) so W)=>show W.cell? ⟨b,o+q*4,none⟩=some (.string ds)∧W.cell? ⟨b,o+q*4+1,none⟩=some (.slice ia rq.J.length cin)∧W.cell? ⟨b,o+q*4+2,none⟩=some (.slice la nI cI)∧W.cell? ⟨b,o+q*4+3,none⟩=some (.slice ra nR cR) from by
       have:=(HN.out.below (bot2 HW.out h.b)).cells (k:=q) (by omega)
       rw [hdd] at this
       exact this)
      clear hJr hJ hm KA KST HN hdd
      go_upto_region 12 with fail
      refine wp_region_noPanic ?_
      refine wp_region_heldT (NdInv w (some ⟨b,o,none⟩) N.length cap (t:Int) so) 12 (by kernel_rfl) HI.out.drew (fun hHeld=>?_)
      refine tkO [] 0 rfl ?_
      try simp only [qS,qN,qC,qD]
      refine tkO [] 1 rfl ?_
      try simp only [qS,qN,qC,qD]
      refine tkO [] 2 rfl ?_
      try simp only [qS,qN,qC,qD]
      refine tkA [] 3 rfl (by
       intro w₁ hSw
       have hgq:=hSw.getv (i:=q) (by omega) HV.out
       go_simp
       try with_reducible rfl) ?_
      try simp only [qS,qN,qC,qD]
      refine tkO [] 4 rfl ?_
      try simp only [qS,qN,qC,qD]
      refine tkA [] 5 rfl (by
       intro w₁ hSw
       have g0:w₁.cell? ⟨w.heap.size,0,none⟩=some (.slice (some ⟨b,o,none⟩) N.length cap):=hSw.gr.cell 0
       go_simp
       try with_reducible rfl) ?_
      try simp only [qS,qN,qC,qD]
      refine tkO [] 6 rfl ?_
      try simp only [qS,qN,qC,qD]
      refine tkO [] 7 rfl ?_
      try simp only [qS,qN,qC,qD]
      refine tkA [] 8 rfl (by
       intro w₁ hSw
       obtain ⟨c0,c1,c2,c3⟩:=HC.out _ hSw
       go_simp
       try with_reducible rfl) ?_
      try simp only [qS,qN,qC,qD]
      refine rdA 9 rfl (fun K hK=>?_)
      go_simp
      (with_reducible refine (KMq.out _ (bot2 HW.out hHeld.b)).mono ?_)
      rintro e w2 ⟨rfl,hb⟩
      have hN:=hHeld.call hb
      clear hb
      go_wp2_with fail
      refine ouA hK hN (fun hHeld=>?_)
      clear hK K
      try simp only [qS,qN,qC,qD]
      refine tkO [] 10 rfl ?_
      try simp only [qS,qN,qC,qD]
      refine rdA 11 rfl (fun K hK=>?_)
      go_simp
      refine ouA hK hHeld (fun hHeld=>?_)
      clear hK K
      try simp only [qS,qN,qC,qD]
      refine wpAnyT_done (by kernel_rfl) ?_ _
      refine NoPanic.normal ?_
      have HI3:=Lib.hid hHeld
      have g0:w2.cell? ⟨w.heap.size,0,none⟩=some (.slice (some ⟨b,o,none⟩) N.length cap):=hHeld.gr.cell 0
      obtain ⟨c0,c1,c2,c3⟩:=HC.out _ hHeld
      have l3:=hHeld.lt
      have HS:Hid (∃ jb jo,rq.J≠[]→ia=some ⟨jb,jo,none⟩):=by
       rcases HZ.out.2 with h|⟨jb,jo,h,_⟩
       ·exact ⟨0,0,fun hc=>absurd (List.map_eq_nil_iff.1 h) hc⟩
       ·exact ⟨jb,jo,fun _=>h⟩
      have hml:rq.J.length≤1099511627776:=by have:=HZ.out.1;rwa [List.length_map] at this
      clear hHeld HI hI hg HC
      go_upto_region 15 with fail
      clear g0 c0 c1 c2 c3
      clear hadd hadd2
      generalize v+(rq.m:Int)=aa at *
      go_loopw [10,60] (fun _ iv wi=>∃ i:Nat,i≤rq.J.length∧iv=.int .i64 (i:Int)∧NdInv w (some ⟨b,o,none⟩) N.length cap (t:Int) (pushL aa (rq.J.take i) so) wi) (fun _ iv _=>rq.J.length-(intOf iv).toNat)
      case atStart=>exact ⟨0,by omega,rfl,HI3.out⟩
      case round =>
       clear HI3 l3
       obtain ⟨i,hi2,rfl,hI⟩:=hrel
       have HI:=Lib.hid hI
       have l3:=hI.lt
       by_cases hlt:i<rq.J.length
       ·have hi':(i:Int)<(rq.J.length:Int):=by omega
        obtain ⟨jb,jo,hs⟩:=HS.out
        obtain rfl:=hs (by intro h;rw [h] at hlt;simp at hlt)
        have hZ:=(HZ.out.below (bot2 HW.out hI.b)).at_ i (by simpa using hlt)
        have hzz:(rq.J.map fun j:Nat=>(j:Int)).getD i 0=((rq.J.getD i 0:Nat):Int):=by
         rw [List.getD_eq_getElem?_getD,List.getElem?_map,List.getD_eq_getElem?_getD,List.getElem?_eq_getElem hlt]
         rfl
        rw [hzz] at hZ
        have hjm:=hJq (rq.J.getD i 0) (by rw [List.getD_eq_getElem?_getD,List.getElem?_eq_getElem hlt];exact List.getElem_mem hlt)
        have HP:=Lib.hid (pushL_take aa (o:=so) hlt)
        have hOl:(pushL aa (rq.J.take i) so).length=N.length:=by rw [pushL_len];exact hsl
        generalize rq.J.getD i 0=j at *
        generalize pushL aa (rq.J.take i) so=O at *
        have hgj:=hI.get (i:=j) (by omega)
        have hfj:=hI.fro j
        have hjN:(j:Int)<(N.length:Int):=by omega
        have HI4:=Lib.hid (hI.set j (max (O.getD j 0) aa))
        rw [←HP.out] at HI4
        clear hI hs hzz HP
        generalize O.getD j 0=oj at *
        go_wp2_with fail
        go_roundw
        case rel=>exact ⟨i+1,by omega,by go_num,HI4.out⟩
        case measure=>simp [intOf];omega
       ·obtain rfl:i=rq.J.length:=by omega
        rw [List.take_length] at HI
        clear hI
        go_wp2_with fail
        go_roundw
        case rel=>exact ⟨q,(pushL aa rq.J so,max sm aa),by omega,by go_num,rfl,HI.out,KS.out,HE.out⟩
        case measure=>simp [intOf]
def optC:Option Inp→List Value
 | none=>[.int .i64 0,.int .i64 0,.int .i64 0,.int .i64 0,.slice none 0 0]
 | some p=>(InpC p).toList
theorem optC_five (x:Option Inp):∃ a b c d e,optC x=[a,b,c,d,e]:=by
 cases x with
 | none=>exact ⟨_,_,_,_,_,rfl⟩
 | some p=>exact ⟨_,_,_,_,_,rfl⟩
def ocL (fo:List (Option Inp)):List Value:=fo.flatMap optC
def oc (fo:List (Option Inp)):Array Value:=(ocL fo).toArray
theorem ocL_cons (x:Option Inp) (fo:List (Option Inp)):ocL (x :: fo)=optC x ++ ocL fo:=rfl
theorem ocL_get:∀ (fo:List (Option Inp)) (i:Nat) (x:Option Inp),fo[i]?=some x→∀ t,t<5→(ocL fo)[i*5+t]?=(optC x)[t]?
 | y :: fo,0,x,h,t,ht=>by
  obtain rfl:y=x:=by simpa using h
  obtain ⟨a,b,c,d,e,hx⟩:=optC_five y
  rw [ocL_cons,Nat.zero_mul,Nat.zero_add,List.getElem?_append_left (by rw [hx];exact ht)]
 | y :: fo,i+1,x,h,t,ht=>by
  obtain ⟨a,b,c,d,e,hx⟩:=optC_five y
  rw [ocL_cons,List.getElem?_append_right (by rw [hx];simp;omega),hx,show (i+1)*5+t-[a,b,c,d,e].length=i*5+t by simp;omega]
  exact ocL_get fo i x (by simpa using h) t ht
theorem ocL_set (p:Inp):∀ (fo:List (Option Inp)) (i:Nat),i<fo.length →
  (((((ocL fo).set (i*5) (.int .i64 p.X)).set (i*5+1) (.int .i64 p.Y)).set (i*5+2) (.int .i64 (p.W:Int))).set (i*5+3) (.int .i64 (p.H:Int))).set (i*5+4) (.slice (some ⟨p.g,0,none⟩) p.l.length p.c)=ocL (fo.set i (some p))
 | y :: fo,0,_=>by
  obtain ⟨a,b,c,d,e,hx⟩:=optC_five y
  rw [ocL_cons,hx]
  rfl
 | y :: fo,i+1,h=>by
  obtain ⟨a,b,c,d,e,hx⟩:=optC_five y
  have ih:=ocL_set p fo i (by simpa using h)
  rw [List.set_cons_succ,ocL_cons,ocL_cons,hx,←ih,show (i+1)*5=i*5+5 by omega]
  rfl
theorem oc_set (p:Inp) (fo:List (Option Inp)) (i:Nat) (h:i<fo.length) :
  (((((oc fo).setIfInBounds (i*5) (.int .i64 p.X)).setIfInBounds (i*5+1) (.int .i64 p.Y)).setIfInBounds (i*5+2) (.int .i64 (p.W:Int))).setIfInBounds (i*5+3) (.int .i64 (p.H:Int))).setIfInBounds (i*5+4) (.slice (some ⟨p.g,0,none⟩) p.l.length p.c)=oc (fo.set i (some p)):=by
 unfold oc
 simp only [List.setIfInBounds_toArray]
 rw [ocL_set p fo i h]
theorem ocL_none (n:Nat):∀ k,(ocL (List.replicate n none))[k]?=if k<n*5 then (optC none)[k%5]? else none:=by
 induction n with
 | zero=>intro k;simp [ocL]
 | succ n ih =>
  intro k
  rw [List.replicate_succ,ocL_cons]
  rcases Nat.lt_or_ge k 5 with h|h
  ·rw [List.getElem?_append_left (by simpa [optC] using h),if_pos (by omega),Nat.mod_eq_of_lt h]
  ·rw [List.getElem?_append_right (by simpa [optC] using h),show k-(optC none).length=k-5 from rfl,ih (k-5)]
   have e:k%5=(k-5)%5:=by omega
   by_cases hk:k-5<n*5
   ·rw [if_pos hk,if_pos (by omega),e]
   ·rw [if_neg hk,if_neg (by omega)]
set_option maxRecDepth 10000 in
theorem make_fields (n:Nat) (hn:n≤4294967):∀ w:World,(Instr.makeSlice 44 (.int .i64 (n:Int)) (.int .i64 (n:Int))).run Tryz.prog w=.ok (.slice (some ⟨w.heap.size,0,none⟩) n n) (w.alloc (.cells (oc (List.replicate n none)) 32)):=by
 obtain ⟨i0,hi,hz0,hz1,hz2⟩:=info_parts Tryz.infoFd
 intro w
 have hr:=run_make (P:=Tryz.prog) w 44 32 i0 (.agg #[.int .i64 0,.int .i64 0,.int .i64 0,.int .i64 0,.slice none 0 0]) (by rfl) hi hz0 .i64 .i64 (n:Int) (n:Int) (by omega) (Int.le_refl _) (by rw [hz2];omega) (by omega)
 simp only [Int.toNat_natCast] at hr
 rw [hr,hz1]
 have e:madeCells (Value.cells (.agg #[.int .i64 0,.int .i64 0,.int .i64 0,.int .i64 0,.slice none 0 0])) (n*5)=oc (List.replicate n none):=by
  apply Array.toList_inj.1
  refine List.ext_getElem? fun k=>?_
  have hm:k%5<5:=Nat.mod_lt _ (by omega)
  rw [show (oc (List.replicate n none)).toList=ocL (List.replicate n none) from rfl,ocL_none]
  unfold madeCells
  by_cases hk:k<n*5
  ·rw [if_pos hk]
   rcases (show k%5=0∨k%5=1∨k%5=2∨k%5=3∨k%5=4 by omega) with h|h|h|h|h<;>simp [Value.cells,hk,h,optC]
  ·rw [if_neg hk]
   simp [Value.cells,hk]
 rw [e]
theorem own_cap {w:World} {B g cap:Nat} {l:List Nat} (h:OwnF w B g cap l):l.length≤cap:=by
 rcases h.1.2 with ⟨hv,_⟩|⟨g',cap',cur,hv,hB,hh,hn,r⟩
 ·simp at hv
 ·simp only [Value.slice.injEq] at hv
  omega
structure AlS (w:World) (a:Option Addr) (n cap:Nat) (out X Y:Int) (W H gn go:Nat) (need:List Int) (fo:List (Option Inp)) (wr:World):Prop where
 gr:Blk wr w.heap.size #[.slice a n cap,.int .i64 out] 24
 rg:Reg wr (w.heap.size+1) X Y W H
 nd:Blk wr gn (zv need) 3
 ou:Blk wr go (oc fo) 32
 ln:w.heap.size+1<gn
 lo:gn<go
 rows:∀ p,some p∈fo→go<p.g∧OwnF wr w.heap.size p.g p.c p.l
 b:Below w.heap.size w wr
section
variable {w wr w2:World} {a:Option Addr} {n cap gn go:Nat} {out X Y:Int} {W H:Nat} {need:List Int} {fo:List (Option Inp)}
theorem AlS.call (h:AlS w a n cap out X Y W H gn go need fo wr) (hb:Below wr.heap.size wr w2):AlS w a n cap out X Y W H gn go need fo w2:=
 ⟨h.gr.below hb h.gr.lt,h.rg.below hb h.rg.lt,h.nd.below hb h.nd.lt,h.ou.below hb h.ou.lt,h.ln,h.lo,fun p hp=>⟨(h.rows p hp).1,(h.rows p hp).2.below hb (h.rows p hp).2.lt.2⟩,bot2 h.b hb⟩
theorem AlS.fld (h:AlS w a n cap out X Y W H gn go need fo wr) {i:Nat} {p:Inp} (hi:fo[i]?=some (some p)) :
  wr.cell? ⟨go,i*5,none⟩=some (.int .i64 p.X)∧wr.cell? ⟨go,i*5+1,none⟩=some (.int .i64 p.Y)∧wr.cell? ⟨go,i*5+2,none⟩=some (.int .i64 (p.W:Int))∧wr.cell? ⟨go,i*5+3,none⟩=some (.int .i64 (p.H:Int))∧wr.cell? ⟨go,i*5+4,none⟩=some (.slice (some ⟨p.g,0,none⟩) p.l.length p.c):=by
 have hc:=fun t (ht:t<5)=>(h.ou.cell (i*5+t)).trans ((show (oc fo)[i*5+t]?=(ocL fo)[i*5+t]? by unfold oc;simp).trans (ocL_get fo i _ hi t ht))
 exact ⟨hc 0 (by omega),hc 1 (by omega),hc 2 (by omega),hc 3 (by omega),hc 4 (by omega)⟩
theorem AlS.old (h:AlS w a n cap out X Y W H gn go need fo wr) {i:Nat} (hi:i<fo.length):∃ a b c d e,
  wr.cell? ⟨go,i*5,none⟩=some a∧wr.cell? ⟨go,i*5+1,none⟩=some b∧wr.cell? ⟨go,i*5+2,none⟩=some c∧wr.cell? ⟨go,i*5+3,none⟩=some d∧wr.cell? ⟨go,i*5+4,none⟩=some e:=by
 have hc:=fun t (ht:t<5)=>(h.ou.cell (i*5+t)).trans ((show (oc fo)[i*5+t]?=(ocL fo)[i*5+t]? by unfold oc;simp).trans (ocL_get fo i _ (List.getElem?_eq_getElem hi) t ht))
 obtain ⟨a,b,c,d,e,hx⟩:=optC_five fo[i]
 rw [hx] at hc
 exact ⟨a,b,c,d,e,hc 0 (by omega),hc 1 (by omega),hc 2 (by omega),hc 3 (by omega),hc 4 (by omega)⟩
theorem AlS.get (h:AlS w a n cap out X Y W H gn go need fo wr) {i:Nat} {v:Int} (hi:i<need.length) (hv:need.getD i 0=v):wr.cell? ⟨gn,i,none⟩=some (.int .i64 v):=by
 rw [h.nd.cell,zv_get hi,hv]
theorem AlS.store (h:AlS w a n cap out X Y W H gn go need fo wr) {i:Nat} {p:Inp} (hi:i<fo.length) (hg:go<p.g) (ho:OwnF wr w.heap.size p.g p.c p.l):∀ W5,
  W5=((((wr.setCell ⟨go,i*5,none⟩ (.int .i64 p.X)).setCell ⟨go,i*5+1,none⟩ (.int .i64 p.Y)).setCell ⟨go,i*5+2,none⟩ (.int .i64 (p.W:Int))).setCell ⟨go,i*5+3,none⟩ (.int .i64 (p.H:Int))).setCell ⟨go,i*5+4,none⟩ (.slice (some ⟨p.g,0,none⟩) p.l.length p.c) →
  AlS w a n cap out X Y W H gn go need (fo.set i (some p)) W5:=by
 intro W5 e
 have ln:=h.ln
 have lo:=h.lo
 have k1:w.heap.size≠go:=by omega
 have k2:w.heap.size+1≠go:=by omega
 have k3:gn≠go:=by omega
 subst e
 refine ⟨?_,?_,?_,?_,ln,lo,fun q hq=>?_,?_⟩
 ·exact ((((h.gr.setCell k1 _).setCell k1 _).setCell k1 _).setCell k1 _).setCell k1 _
 ·exact ((((h.rg.setCell k2 _).setCell k2 _).setCell k2 _).setCell k2 _).setCell k2 _
 ·exact ((((h.nd.setCell k3 _).setCell k3 _).setCell k3 _).setCell k3 _).setCell k3 _
 ·unfold Blk
  have h0:=h.ou
  unfold Blk at h0
  have h1:=Go.heap_setCell_same wr go (i*5) _ _ (.int .i64 p.X) h0
  have h2:=Go.heap_setCell_same _ go (i*5+1) _ _ (.int .i64 p.Y) h1
  have h3:=Go.heap_setCell_same _ go (i*5+2) _ _ (.int .i64 (p.W:Int)) h2
  have h4:=Go.heap_setCell_same _ go (i*5+3) _ _ (.int .i64 (p.H:Int)) h3
  have h5:=Go.heap_setCell_same _ go (i*5+4) _ _ (.slice (some ⟨p.g,0,none⟩) p.l.length p.c) h4
  rw [oc_set p fo i hi] at h5
  exact h5
 ·have hq':go<q.g∧OwnF wr w.heap.size q.g q.c q.l:=by
   rcases List.mem_or_eq_of_mem_set hq with hm|hm
   ·exact h.rows q hm
   ·obtain rfl:q=p:=by injection hm
    exact ⟨hg,ho⟩
  have kq:q.g≠go:=by omega
  exact ⟨hq'.1,((((hq'.2.setCell kq _).setCell kq _).setCell kq _).setCell kq _).setCell kq _⟩
 ·have kb:w.heap.size≤go:=by omega
  exact ((((h.b.setCell kb _).setCell kb _).setCell kb _).setCell kb _).setCell kb _
end
def FoOk (R:List Rn) (X Y:Int) (W H:Nat) (need:List Int) (fo:List (Option Inp)) (k:Nat):Prop:=
 fo.length=R.length∧∀ j,j<k→∀ d:Nat,need.getD j 0=d→∃ p,fo[j]?=some (some p)∧p.X=X-d∧p.Y=Y-d∧p.W=W+2*d∧p.H=H+2*d∧p.l=gridL (valK R j) (X-d) (Y-d) (W+2*d) (H+2*d)∧Right (X-d) (Y-d) (W+2*d) (H+2*d) (gridL (valK R j) (X-d) (Y-d) (W+2*d) (H+2*d))
def GdUp (R:List Rn) (X Y:Int) (W H:Nat) (need:List Int) (k:Nat):Prop:=
 ∀ j,j<k→∀ d:Nat,need.getD j 0=d→Gd (exK R j) (valK R j) (X-d) (Y-d) (W+2*d) (H+2*d)
theorem FoOk.skip {R:List Rn} {X Y:Int} {W H:Nat} {need:List Int} {fo:List (Option Inp)} {k:Nat} (h:FoOk R X Y W H need fo k) (hk:need.getD k 0=-1):FoOk R X Y W H need fo (k+1):=by
 refine ⟨h.1,fun j hj d hd=>?_⟩
 rcases Nat.lt_or_ge j k with c|c
 ·exact h.2 j c d hd
 ·obtain rfl:j=k:=by omega
  omega
theorem GdUp.skip {R:List Rn} {X Y:Int} {W H:Nat} {need:List Int} {k:Nat} (h:GdUp R X Y W H need k) (hk:need.getD k 0=-1):GdUp R X Y W H need (k+1):=by
 intro j hj d hd
 rcases Nat.lt_or_ge j k with c|c
 ·exact h j c d hd
 ·obtain rfl:j=k:=by omega
  omega
theorem GdUp.next {R:List Rn} {X Y:Int} {W H:Nat} {need:List Int} {k d:Nat} (h:GdUp R X Y W H need k) (hk:need.getD k 0=d) (hg:Gd (exK R k) (valK R k) (X-d) (Y-d) (W+2*d) (H+2*d)):GdUp R X Y W H need (k+1):=by
 intro j hj e he
 rcases Nat.lt_or_ge j k with c|c
 ·exact h j c e he
 ·obtain rfl:j=k:=by omega
  obtain rfl:e=d:=by omega
  exact hg
theorem GdUp.no {R:List Rn} {X Y:Int} {W H:Nat} {need:List Int} {k d n:Nat} (hn:k<n) (hk:need.getD k 0=d) (hg:¬ Gd (exK R k) (valK R k) (X-d) (Y-d) (W+2*d) (H+2*d)):¬ GdUp R X Y W H need n:=fun h=>hg (h k hn d hk)
theorem FoOk.next {R:List Rn} {X Y:Int} {W H:Nat} {need:List Int} {fo:List (Option Inp)} {k d g c:Nat} (h:FoOk R X Y W H need fo k) (hk:k<R.length) (hd:need.getD k 0=d)
  (hr:Right (X-d) (Y-d) (W+2*d) (H+2*d) (gridL (valK R k) (X-d) (Y-d) (W+2*d) (H+2*d))) :
  FoOk R X Y W H need (fo.set k (some ⟨X-d,Y-d,W+2*d,H+2*d,g,c,gridL (valK R k) (X-d) (Y-d) (W+2*d) (H+2*d)⟩)) (k+1):=by
 have hl:=h.1
 refine ⟨by rw [List.length_set];exact hl,fun j hj e he=>?_⟩
 rcases Nat.lt_or_ge j k with q|q
 ·obtain ⟨p,hp,r⟩:=h.2 j q e he
  exact ⟨p,by rw [List.getElem?_set_ne (by omega)];exact hp,r⟩
 ·obtain rfl:j=k:=by omega
  obtain rfl:e=d:=by omega
  exact ⟨_,by rw [List.getElem?_set_self (by omega)],rfl,rfl,rfl,rfl,rfl,hr⟩
theorem cut_grid (g:Int→Int→Nat) (X Y:Int) (W H:Nat) (P Q:Int) (A B:Nat) (h1:X≤P) (h2:P+A≤X+W) (h3:Y≤Q) (h4:Q+B≤Y+H):cutL (gridL g X Y W H) X Y W P Q A (B*A)=gridL g P Q A B:=by
 show gridL (cutV (gridL g X Y W H) X Y W) P Q A B=gridL g P Q A B
 exact grid_congr fun x y a b c d=>grid_cell g X Y W H x y (by omega) (by omega) (by omega) (by omega)
theorem part_grid (p:Inp) (g:Int→Int→Nat) (hl:p.l=gridL g p.X p.Y p.W p.H) (P Q:Int) (A B:Nat) (w:World) {b0:Nat} (ho:OwnF w b0 p.g p.c p.l) (hr:Right p.X p.Y p.W p.H p.l) (hA:1≤A) (hB:1≤B) (h1:p.X≤P) (h2:P+A≤p.X+p.W) (h3:p.Y≤Q) (h4:Q+B≤p.Y+p.H) :
  Calls Tryz.prog 26 #[inpV p,reg P Q A B] w fun e w'=>NewF w.heap.size P Q A B (gridL g P Q A B) w e w':=by
 have hll:p.l.length≤262144:=by have:=hr.len;have:=Nat.mul_le_mul hr.h2 hr.w2;omega
 have:=part_any p.X p.Y p.W p.H p.g 0 p.c p.l P Q A B w (ho.row (by omega)) (own_cap ho) hr hA hB h1 h2 h3 h4
 have e:=cut_grid g p.X p.Y p.W p.H P Q A B h1 h2 h3 h4
 rw [←hl] at e
 rwa [e] at this
set_option maxRecDepth 100000 in
theorem rgrown_any (X Y:Int) (W H n:Nat) (w:World) (h1:-8388608≤X) (h2:X≤8388608) (h3:-8388608≤Y) (h4:Y≤8388608) (h5:W≤8388608) (h6:H≤8388608) (h7:n≤8388608) :
  Calls Tryz.prog 43 #[reg X Y W H,.int .i64 (n:Int)] w fun e w'=>e=.returned (reg (X-n) (Y-n) ((W+2*n:Nat):Int) ((H+2*n:Nat):Int))∧Below w.heap.size w w':=by
 have e1:IntKind.i64.wrap (X-(n:Int))=X-n:=IntWalk.i64_in _ (by omega)
 have e2:IntKind.i64.wrap (Y-(n:Int))=Y-n:=IntWalk.i64_in _ (by omega)
 have e3:IntKind.i64.wrap (2*(n:Int))=((2*n:Nat):Int):=by rw [IntWalk.i64_in _ (by omega)];push_cast;rfl
 have e4:IntKind.i64.wrap ((W:Int)+((2*n:Nat):Int))=((W+2*n:Nat):Int):=by rw [IntWalk.i64_in _ (by omega)];push_cast;rfl
 have e5:IntKind.i64.wrap ((H:Int)+((2*n:Nat):Int))=((H+2*n:Nat):Int):=by rw [IntWalk.i64_in _ (by omega)];push_cast;rfl
 go_enter Tryz.func43,Tryz.ntmps43
 go_wp2_with fail
 exact bodyPost_ret (v:=reg (X-n) (Y-n) ((W+2*n:Nat):Int) ((H+2*n:Nat):Int)) (by simp [results,Tryz.results43,go_sem, *]) rfl ⟨rfl,qBl⟩
end Go.Proofs.YtmggflgdoioajaaGreat
