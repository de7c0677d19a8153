import Derived.Test.YtmggflgdoioajaaGreatG15
import Derived.BigQuiet
import Derived.Deep.CutBlock
import Derived.Deep.QuietTactic
import Derived.Deep.DeepCutAuto
import Derived.Deep.AppendLies
import Derived.StillTailTactics
import Derived.IntWalk
import Derived.Deep.RegionHeld3
set_option linter.unusedSimpArgs false
set_option linter.unusedVariables false
namespace Go.Proofs.YtmggflgdoioajaaGreat
open Go.ChangeShapes Go.WideShapes Go.ChangeAt Go.RowKit
open Ieee.Format (fin finE htE allFin allHt all_true all_false mulF subF addF Ht Bd divF rootF floorF easeF mixF)
theorem inok_of {gs:Fs} {X Y:Int} {W H m i:Nat} {p:Inp} {g:Int→Int→Nat} (hg:gs i=g) (hx:p.X=X-m) (hy:p.Y=Y-m) (hw:p.W=W+2*m) (hh:p.H=H+2*m) (hl:p.l=gridL g p.X p.Y p.W p.H) (hr:Right p.X p.Y p.W p.H p.l):InOk gs X Y W H m i p:=by
 obtain ⟨pX,pY,pW,pH,pg,pc,pl⟩:=p
 simp only at hx hy hw hh hl hr
 subst hx hy hw hh hg hl
 exact ⟨rfl,rfl,rfl,rfl,rfl,hr⟩
theorem InInv.form {w wr:World} {B:Nat} {v:Value} {P:List Inp} (h:InInv w wr B v P) (h0:0<wr.heap.size) :
  ∃ ai sb cP,v=.slice ai P.length cP∧(P.length≠0→ai=some ⟨sb,0,none⟩)∧InsAt wr sb P:=by
 by_cases hP:P=[]
 ·subst hP
  exact ⟨none,0,0,h.nil rfl,fun hc=>absurd rfl hc,⟨fun i p hp=>by simp at hp,fun p hp=>absurd hp List.not_mem_nil,h0⟩⟩
 ·obtain ⟨g,cap,hv,h1,h2⟩:=h.val hP
  exact ⟨some ⟨g,0,none⟩,g,cap,hv,fun _=>rfl,h.ins hv h2⟩
def AlP (R:List Rn) (t:Nat) (X Y:Int) (W H:Nat) (w:World) (e:Ending) (w':World):Prop:=
 (GdUp R X Y W H (needsL R t).1 R.length∧∃ go cap fo,e=.returned (.tuple #[.slice (some ⟨go,0,none⟩) R.length cap,.int .i64 0])∧FoOk R X Y W H (needsL R t).1 fo R.length∧∃ a n cp out gn,AlS w a n cp out X Y W H gn go (needsL R t).1 fo w') ∨
 (¬ GdUp R X Y W H (needsL R t).1 R.length∧∃ c:Int,c≠0∧e=.returned (.tuple #[.slice none 0 0,.int .i64 c])∧Below w.heap.size w w')
structure NdF (R:List Rn) (need:List Int) (X Y:Int) (W H k d:Nat):Prop where
 rd:Rg (X-d) (Y-d) (W+2*d) (H+2*d)
 rm:Rg (X-(d+(rnAt R k).m:Nat)) (Y-(d+(rnAt R k).m:Nat)) (W+2*(d+(rnAt R k).m)) (H+2*(d+(rnAt R k).m))
 dm:d+(rnAt R k).m≤200
 inp:∀ i,i<(rnAt R k).J.length→(rnAt R k).J.getD i 0<k∧∃ e:Nat,need.getD ((rnAt R k).J.getD i 0) 0=e∧d+(rnAt R k).m≤e
theorem ndf_of {R:List Rn} (hR:RnOk R) {t:Nat} (ht:t<R.length) {X Y:Int} {W H:Nat} (hX:Rg X Y W H) (hM:(needsL R t).2≤200) (hF:Rg (X-(needsL R t).2.toNat) (Y-(needsL R t).2.toNat) (W+2*(needsL R t).2.toNat) (H+2*(needsL R t).2.toNat)) {k:Nat} (hk:k<R.length) (hn:(needsL R t).1.getD k 0≠-1) :
  ∃ d:Nat,(needsL R t).1.getD k 0=d∧NdF R (needsL R t).1 X Y W H k d:=by
 have hS:=needs_ok hR ht
 obtain ⟨h0,_⟩:=(hS.lo k hk).resolve_left hn
 obtain ⟨d,hd⟩:=Int.eq_ofNat_of_zero_le h0
 have hkt:k≤t:=by
  rcases Nat.lt_or_ge t k with c|c
  ·exact absurd (hS.far k c hk) hn
  ·exact c
 obtain ⟨q1,q2⟩:=hS.done k (Nat.zero_le _) hkt hn
 rw [hd] at q1 q2
 have hm0:=hS.m0
 have hle:d+(rnAt R k).m≤(needsL R t).2.toNat:=by omega
 refine ⟨d,hd,rg_mono hF (by omega) hX.w1 hX.h1,rg_mono hF hle hX.w1 hX.h1,by omega,fun i hi=>?_⟩
 have hmem:(rnAt R k).J.getD i 0∈(rnAt R k).J:=by rw [List.getD_eq_getElem?_getD,List.getElem?_eq_getElem hi];exact List.getElem_mem hi
 refine ⟨hR.j k hk _ hmem,((needsL R t).1.getD ((rnAt R k).J.getD i 0) 0).toNat,?_,?_⟩
 ·have:=q2 _ hmem;omega
 ·have:=q2 _ hmem;omega
structure PtF (R:List Rn) (X Y:Int) (W H k d m M i j:Nat) (p:Inp) (pl:List Nat):Prop where
 part:∀ W' b0,OwnF W' b0 p.g p.c p.l→Calls Tryz.prog 26 #[inpV p,reg (X-(M:Int)) (Y-(M:Int)) ((W:Int)+2*(M:Int)) ((H:Int)+2*(M:Int))] W' fun e w'=>NewF W'.heap.size (X-(M:Int)) (Y-(M:Int)) ((W:Int)+2*(M:Int)) ((H:Int)+2*(M:Int)) pl W' e w'
 ne:pl≠[]
 len:pl.length≤262144
 ok:∀ g c,InOk (gsK R k) (X-d) (Y-d) (W+2*d) (H+2*d) m i ⟨X-(M:Int),Y-(M:Int),W+2*M,H+2*M,g,c,pl⟩
 cs:∀ g c,(InpC ⟨X-(M:Int),Y-(M:Int),W+2*M,H+2*M,g,c,pl⟩).toList=[.int .i64 (X-(M:Int)),.int .i64 (Y-(M:Int)),.int .i64 ((W:Int)+2*(M:Int)),.int .i64 ((H:Int)+2*(M:Int)),.slice (some ⟨g,0,none⟩) pl.length c]
theorem rgrown_in {X Y:Int} {W H n:Nat} (h:Rg X Y W H) (hn:n≤200) (w:World):Calls Tryz.prog 43 #[reg X Y W H,.int .i64 (n:Int)] w fun e w'=>e=.returned (reg (X-n) (Y-n) ((W:Int)+2*(n:Int)) ((H:Int)+2*(n:Int)))∧Below w.heap.size w w':=by
 obtain ⟨h1,h2,h3,h4,_,h6,h7,h8,h9⟩:=h
 have:=rgrown_any X Y W H n w (by omega) (by omega) (by omega) (by omega) (by omega) (by omega) (by omega)
 rwa [show ((W+2*n:Nat):Int)=(W:Int)+2*(n:Int) from by push_cast;rfl,show ((H+2*n:Nat):Int)=(H:Int)+2*(n:Int) from by push_cast;rfl] at this
theorem wraps {d m M:Nat} (h:M=d+m) (hM:M≤200):IntKind.i64.wrap ((d:Int)+(m:Int))=(M:Int)∧wrap64 ((d:Int)+(m:Int))=(M:Int)∧(d:Int)+(m:Int)=(M:Int)∧IntKind.i64.wrap (M:Int)=(M:Int)∧wrap64 (M:Int)=(M:Int):=by
 have e:(d:Int)+(m:Int)=(M:Int):=by omega
 have e1:IntKind.i64.wrap (M:Int)=(M:Int):=IntWalk.i64_in _ (by omega)
 have e2:wrap64 (M:Int)=(M:Int):=by unfold wrap64;omega
 rw [e]
 exact ⟨e1,e2,rfl,e1,e2⟩
theorem rin_grow {X Y:Int} {W H a e:Nat} (h:a≤e) {x y:Int} (hi:InR (X-a) (Y-a) (W+2*a) (H+2*a) x y):InR (X-e) (Y-e) (W+2*e) (H+2*e) x y:=by
 obtain ⟨h1,h2,h3,h4⟩:=hi
 refine ⟨by omega,?_,by omega,?_⟩
 ·clear h3 h4;omega
 ·clear h1 h2;omega
theorem ptf_of {R:List Rn} {need:List Int} {X Y:Int} {W H k d:Nat} {fo:List (Option Inp)} (nf:NdF R need X Y W H k d) (hFo:FoOk R X Y W H need fo k) {rq:Rn} (hrr:rnAt R k=rq) {M:Nat} (hM:M=d+rq.m) {i:Nat} (hi:i<rq.J.length) :
  rq.J.getD i 0<k∧∃ p pl,fo[rq.J.getD i 0]?=some (some p)∧some p∈fo∧PtF R X Y W H k d rq.m M i (rq.J.getD i 0) p pl:=by
 subst hrr
 obtain ⟨hjk,e,hje,hde⟩:=nf.inp i hi
 have hrm:=nf.rm
 have hgs:=gsK_get R (k:=k) (i:=i) hjk
 refine ⟨hjk,?_⟩
 rw [←hM] at hrm hde
 obtain ⟨p,hpj,px,py,pw,ph,pl,pr⟩:=hFo.2 _ hjk e hje
 generalize (rnAt R k).J.getD i 0=j at *
 generalize (rnAt R k).m=m at *
 clear nf hFo hje hi
 have hright:Right p.X p.Y p.W p.H p.l:=by rw [px,py,pw,ph,pl];exact pr
 have hpll:p.l=gridL (valK R j) p.X p.Y p.W p.H:=by rw [px,py,pw,ph,pl]
 have hrp:Right (X-(M:Int)) (Y-(M:Int)) (W+2*M) (H+2*M) (gridL (valK R j) (X-(M:Int)) (Y-(M:Int)) (W+2*M) (H+2*M)):=
  hrm.right (fun x y hxy=>pr.cell (rin_grow hde hxy))
 have e1:=hrp.len
 have e2:=Nat.mul_le_mul hrp.h2 hrp.w2
 have w1:=hrm.w1
 have h1:=hrm.h1
 generalize hq:gridL (valK R j) (X-(M:Int)) (Y-(M:Int)) (W+2*M) (H+2*M)=q at *
 clear pr hrm
 refine ⟨p,q,hpj,List.mem_of_getElem? hpj,fun W' b0 ho=>?_,hrp.ne,by omega,fun g c=>?_,fun g c=>?_⟩
 ·have:=part_grid p (valK R j) hpll (X-(M:Int)) (Y-(M:Int)) (W+2*M) (H+2*M) W' ho hright w1 h1 (by rw [px];clear e1 e2 hpll hright hrp;omega) (by rw [px,pw];clear e1 e2 hpll hright hrp;omega) (by rw [py];clear e1 e2 hpll hright hrp;omega) (by rw [py,ph];clear e1 e2 hpll hright hrp;omega)
  rw [hq,show ((W+2*M:Nat):Int)=(W:Int)+2*(M:Int) from by push_cast;rfl,show ((H+2*M:Nat):Int)=(H:Int)+2*(M:Int) from by push_cast;rfl] at this
  exact this
 ·exact inok_of hgs (by show X-(M:Int)=_;clear e1 e2 hpll hright hrp hq;omega) (by show Y-(M:Int)=_;clear e1 e2 hpll hright hrp hq;omega) (by show W+2*M=_;omega) (by show H+2*M=_;omega) hq.symm hrp
 ·unfold InpC
  simp
theorem apply_of {R:List Rn} {X Y:Int} {W H k d M:Nat} {rq:Rn} (hrr:rnAt R k=rq) (hM:M=d+rq.m) (rd:Rg (X-d) (Y-d) (W+2*d) (H+2*d)) (rm:Rg (X-M) (Y-M) (W+2*M) (H+2*M)) {W0 wi:World} {s:ByteArray} {ia la ra:Option Addr} {cin nI cI nR cR:Nat}
  (ev:EvOk W0 s ia rq.J.length cin la nI cI ra nR cR rq.m rq.G rq.ex) {P:List Inp} {ai:Option Addr} {sb cP:Nat} (hb:Below W0.heap.size W0 wi) (hins:InsAt wi sb P) (hPl:P.length=rq.J.length) (hai:rq.J.length≠0→ai=some ⟨sb,0,none⟩)
  (hP:∀ i p,P[i]?=some p→InOk (gsK R k) (X-d) (Y-d) (W+2*d) (H+2*d) rq.m i p):∀ W',Below wi.heap.size wi W'→∃ c,(c=0 ↔ Gd (exK R k) (valK R k) (X-d) (Y-d) (W+2*d) (H+2*d)) ∧
   Calls Tryz.prog 45 #[ndV s ia rq.J.length cin la nI cI ra nR cR,reg (X-d) (Y-d) ((W:Int)+2*(d:Int)) ((H:Int)+2*(d:Int)),.slice ai rq.J.length cP] W' (OpP c (X-d) (Y-d) ((W:Int)+2*(d:Int)) ((H:Int)+2*(d:Int)) (gridL (valK R k) (X-d) (Y-d) (W+2*d) (H+2*d)) W'):=by
 intro W' hb2
 have hv:valK R k=rq.G (gsK R k)∧exK R k=rq.ex (gsK R k):=by unfold valK exK;rw [hrr];exact ⟨rfl,rfl⟩
 have rm2:Rg (X-(d:Int)-rq.m) (Y-(d:Int)-rq.m) (W+2*d+2*rq.m) (H+2*d+2*rq.m):=by
  rw [show X-(d:Int)-(rq.m:Int)=X-M by omega,show Y-(d:Int)-(rq.m:Int)=Y-M by omega,show W+2*d+2*rq.m=W+2*M by omega,show H+2*d+2*rq.m=H+2*M by omega]
  exact rm
 have:=ev.run (gsK R k) (X-d) (Y-d) (W+2*d) (H+2*d) W' sb P ai cP (bot2 hb hb2) rd.w1 rd.h1 rm2 (hins.below hb2) hPl hai hP
 rw [hv.1,hv.2]
 rw [show ((W+2*d:Nat):Int)=(W:Int)+2*(d:Int) from by push_cast;rfl,show ((H+2*d:Nat):Int)=(H:Int)+2*(d:Int) from by push_cast;rfl] at this
 exact this
set_option maxRecDepth 100000 in
set_option maxHeartbeats 4000000 in
theorem all_walk (b o:Nat) (N:List Nd) (cap:Nat) (R:List Rn) (t:Nat) (X Y:Int) (W H:Nat) (W0 w:World) (hN:NdRow W0 (some ⟨b,o,none⟩) N) (hb0:b<W0.heap.size) (hG:GrOk W0 N R) (ht:t<R.length) (hW:Below W0.heap.size W0 w)
  (hX:Rg X Y W H) (hM:(needsL R t).2≤200) (hF:Rg (X-(needsL R t).2.toNat) (Y-(needsL R t).2.toNat) (W+2*(needsL R t).2.toNat) (H+2*(needsL R t).2.toNat)) :
  Calls Tryz.prog 35 #[.agg #[.slice (some ⟨b,o,none⟩) N.length cap,.int .i64 (t:Int)],reg X Y W H] w (AlP R t X Y W H w):=by
 have hlen:=hG.len
 have h200:=hG.n2
 have HR:=Lib.hid hG.ok
 have KA:=Lib.hid hG.at_
 have HN:=Lib.hid hN
 have HW:=Lib.hid hW
 have HX:=Lib.hid hX
 have hnl:=(needs_ok HR.out ht).len
 have NF:=Lib.hid (fun k (hk:k<R.length) hn=>ndf_of HR.out ht hX hM hF hk hn)
 have KNE:=Lib.hid (fun W (h:Below W0.heap.size W0 W)=>needs_walk b o N cap R t W0 W hN hb0 hG ht h)
 have KM:=make_fields N.length (by omega)
 obtain ⟨i0,hi,hz0,hz1,hz2⟩:=info_parts Tryz.infoFd
 unfold AlP
 generalize hnd:(needsL R t).1=need at *
 clear hN hG hW hX hM hF
 go_enter Tryz.func35,Tryz.ntmps35
 go_upto_region 1 with fail
 have G0:=(Blk.new w #[.slice (some ⟨b,o,none⟩) N.length cap,.int .i64 (t:Int)] 24).alloc (.cells #[.int .i64 X,.int .i64 Y,.int .i64 W,.int .i64 H] 26)
 have R0:=Reg.new (w.alloc (.cells #[.slice (some ⟨b,o,none⟩) N.length cap,.int .i64 (t:Int)] 24)) X Y W H
 have B0:Below w.heap.size w ((w.alloc (.cells #[.slice (some ⟨b,o,none⟩) N.length cap,.int .i64 (t:Int)] 24)).alloc (.cells #[.int .i64 X,.int .i64 Y,.int .i64 W,.int .i64 H] 26)):=qBl
 have hs0:(w.alloc (.cells #[.slice (some ⟨b,o,none⟩) N.length cap,.int .i64 (t:Int)] 24)).heap.size=w.heap.size+1:=by simp
 have hs1:((w.alloc (.cells #[.slice (some ⟨b,o,none⟩) N.length cap,.int .i64 (t:Int)] 24)).alloc (.cells #[.int .i64 X,.int .i64 Y,.int .i64 W,.int .i64 H] 26)).heap.size=w.heap.size+2:=by simp
 rw [hs0] at R0
 try rw [hs0]
 generalize (w.alloc (.cells #[.slice (some ⟨b,o,none⟩) N.length cap,.int .i64 (t:Int)] 24)).alloc (.cells #[.int .i64 X,.int .i64 Y,.int .i64 W,.int .i64 H] 26)=W1 at *
 have g0:W1.cell? ⟨w.heap.size,0,none⟩=some (.slice (some ⟨b,o,none⟩) N.length cap):=G0.cell 0
 have g1:W1.cell? ⟨w.heap.size,1,none⟩=some (.int .i64 (t:Int)):=G0.cell 1
 have HG0:=Lib.hid G0
 have HR0:=Lib.hid R0
 have HB0:=Lib.hid B0
 clear G0 R0 B0 hs0
 go_wp2_with fail
 refine (KNE.out _ (bot2 HW.out HB0.out)).mono ?_
 rintro e w2 ⟨gn,capn,rfl,hgn,hnb,b2⟩
 rw [hnd] at hnb
 have HG2:=Lib.hid (HG0.out.below b2 HG0.out.lt)
 have HR2:=Lib.hid (HR0.out.below b2 HR0.out.lt)
 have HB2:=Lib.hid (bot2 HB0.out b2)
 have HNB:=Lib.hid hnb
 clear HG0 HR0 HB0 b2 hnb g0 g1
 have g0:w2.cell? ⟨w.heap.size,0,none⟩=some (.slice (some ⟨b,o,none⟩) N.length cap):=HG2.out.cell 0
 have gl:=HG2.out.lt
 generalize (needsL R t).2=most at *
 have A0:AlS w (some ⟨b,o,none⟩) N.length cap t X Y W H gn w2.heap.size need (List.replicate N.length none) (w2.alloc (.cells (oc (List.replicate N.length none)) 32)):=
  ⟨HG2.out.alloc _,HR2.out.alloc _,HNB.out.alloc _,Blk.new _ _ _,by omega,HNB.out.lt,fun p hp=>absurd hp (by simp [List.mem_replicate]),HB2.out.alloc HB2.out.size _⟩
 have F0:FoOk R X Y W H need (List.replicate N.length none) 0:=⟨by rw [List.length_replicate];exact hlen.symm,fun j hj=>absurd hj (by omega)⟩
 have D0:GdUp R X Y W H need 0:=fun j hj=>absurd hj (by omega)
 have HA0:=Lib.hid A0
 have HF0:=Lib.hid F0
 have HD0:=Lib.hid D0
 clear A0 F0 D0
 go_upto_region 4 with fail
 clear KM g0 gl
 generalize w2.alloc (.cells (oc (List.replicate N.length none)) 32)=W2 at *
 generalize w2.heap.size=go at *
 clear HG2 HR2 HB2 HNB
 go_loopw [28] (fun iv wr=>∃ (k:Nat) (fo:List (Option Inp)),k≤N.length∧iv=.int .i64 (k:Int)∧AlS w (some ⟨b,o,none⟩) N.length cap t X Y W H gn go need fo wr∧FoOk R X Y W H need fo k∧GdUp R X Y W H need k) (fun iv _=>N.length-(intOf iv).toNat)
 case atStart=>exact ⟨0,_,by omega,rfl,HA0.out,HF0.out,HD0.out⟩
 case round =>
  clear HA0 HF0 HD0
  obtain ⟨k,fo,hk,rfl,hA,hFo,hGd⟩:=hrel
  have HA:=Lib.hid hA
  have HFO:=Lib.hid hFo
  have HGD:=Lib.hid hGd
  clear hA hFo hGd
  by_cases hlt:k<N.length
  ·have hkN:(k:Int)<(N.length:Int):=by omega
   have hkR:(k:Int)<(R.length:Int):=by omega
   obtain ⟨c0,c1,c2,c3⟩:=(HN.out.below (bot2 HW.out HA.out.b)).cells hlt
   have KAk:=KA.out k hlt
   have NFk:=NF.out k (by omega)
   have hkl:k<need.length:=by omega
   have hkl2:k<R.length:=by omega
   have hgk:=HA.out.get (i:=k) hkl rfl
   have hln:=HA.out.nd.lt
   have HGN:=Lib.hid (fun d h h2=>HGD.out.next (k:=k) (d:=d) h h2)
   have HGX:=Lib.hid (fun d h h2=>GdUp.no (R:=R) (X:=X) (Y:=Y) (W:=W) (H:=H) (need:=need) (k:=k) (d:=d) (n:=R.length) (by omega) h h2)
   have HFN:=Lib.hid (fun d g c h h2=>HFO.out.next (k:=k) (d:=d) (g:=g) (c:=c) (by omega) h h2)
   have HSK:=Lib.hid (fun h=>And.intro (HFO.out.skip (k:=k) h) (HGD.out.skip (k:=k) h))
   generalize hvk:need.getD k 0=v at *
   have HVV:=Lib.hid hvk
   clear hvk
   generalize hdd:ndAt N k=nd at *
   obtain ⟨ds,ia,nin,cin,la,nI,cI,ra,nR,cR⟩:=nd
   simp only at c0 c1 c2 c3
   by_cases hn:v=-1
   ·subst hn
    obtain ⟨s1,s2⟩:=HSK.out rfl
    have HS1:=Lib.hid s1
    have HS2:=Lib.hid s2
    have HA2:=Lib.hid (HA.out.call (w2:=wr.alloc (.cells #[.string ds,.slice ia nin cin,.slice la nI cI,.slice ra nR cR] 61)) qBl)
    have hgk2:=(Below.cell (show Below wr.heap.size wr (wr.alloc (.cells #[.string ds,.slice ia nin cin,.slice la nI cI,.slice ra nR cR] 61)) from qBl) (p:=⟨gn,k,none⟩) hln).trans hgk
    clear KAk NFk HGN HGX HFN HSK s1 s2 hdd
    go_wp2_with fail
    go_roundw
    case rel=>exact ⟨k+1,fo,by omega,by go_num,HA2.out,HS1.out,HS2.out⟩
    case measure=>simp [intOf];omega
   ·obtain ⟨d,rfl,nf⟩:=NFk hn
    have HDK:Hid (need.getD k 0=(d:Int)):=HVV
    have hne:((d:Int) == -1)=false:=by simp
    clear NFk HSK hn
    have hJl:=KAk.jl
    have hJr:=KAk.jr
    have KMq:=Lib.hid (fun w' h=>KAk.mar w' h)
    have KEV:=Lib.hid KAk.ev
    have hrd:=nf.rd
    have nrm:=nf.rm
    have hdm:=nf.dm
    obtain ⟨M,hMM⟩:∃ M,M=d+(rnAt R k).m:=⟨_,rfl⟩
    have HPT:=Lib.hid (fun i hi=>ptf_of nf HFO.out rfl hMM (i:=i) hi)
    rw [←hMM] at nrm hdm
    clear KAk nf
    generalize hrr:rnAt R k=rq at *
    have HRD:=Lib.hid hrd
    have HRM:=Lib.hid nrm
    clear hrd nrm
    unfold Nd.val at KMq
    simp only at hJl hJr KMq KEV
    obtain rfl:=hJl
    have HZ:=Lib.hid hJr
    have HS:Hid (∃ jb jo,rq.J≠[]→ia=some ⟨jb,jo,none⟩):=by
     rcases hJr.2 with h|⟨jb,jo,h,_⟩
     ·exact ⟨0,0,fun hc=>absurd (List.map_eq_nil_iff.1 h) hc⟩
     ·exact ⟨jb,jo,fun _=>h⟩
    have hml:rq.J.length≤1099511627776:=by have:=hJr.1;rwa [List.length_map] at this
    have KG:=Lib.hid (fun (n:Nat) (hn:n≤200) W'=>rgrown_in HX.out hn W')
    obtain ⟨hadd,hadd2,hadd3,hadd4,hadd5⟩:=wraps hMM hdm
    have HMM:=Lib.hid hMM
    clear hMM
    have HVK:Hid (valK R k=rq.G (gsK R k)∧exK R k=rq.ex (gsK R k)):=Lib.hid (by unfold valK exK;rw [hrr];exact ⟨rfl,rfl⟩)
    clear hJr
    go_upto_region 6 with fail
    have HND:Hid (NdAt (wr.alloc (.cells #[.string ds,.slice ia rq.J.length cin,.slice la nI cI,.slice ra nR cR] 61)) wr.heap.size ds ia rq.J.length cin la nI cI ra nR cR):=Lib.hid (NdAt.new _ _ _ _ _ _ _ _ _ _ _)
    have HA2:=Lib.hid (HA.out.call (w2:=wr.alloc (.cells #[.string ds,.slice ia rq.J.length cin,.slice la nI cI,.slice ra nR cR] 61)) qBl)
    have hgk2:=(Below.cell (show Below wr.heap.size wr (wr.alloc (.cells #[.string ds,.slice ia rq.J.length cin,.slice la nI cI,.slice ra nR cR] 61)) from qBl) (p:=⟨gn,k,none⟩) hln).trans hgk
    generalize wr.alloc (.cells #[.string ds,.slice ia rq.J.length cin,.slice la nI cI,.slice ra nR cR] 61)=wn at *
    generalize wr.heap.size=kn at *
    clear c0 c1 c2 c3 hgk HA hln
    obtain ⟨p0,p1,p2,p3⟩:=HND.out.cells
    have hkn:=HND.out.lt
    go_upto_region 9 with fail
    clear hgk2 p0 p1 p2 p3
    go_loopw [11,41] (fun vv iv wi=>∃ (i:Nat) (P:List Inp),i≤rq.J.length∧iv=.int .i64 (i:Int)∧P.length=i∧InInv wn wi wn.heap.size vv P∧∀ i' p,P[i']?=some p→InOk (gsK R k) (X-d) (Y-d) (W+2*d) (H+2*d) rq.m i' p) (fun _ iv _=>rq.J.length-(intOf iv).toNat)
    case atStart=>exact ⟨0,[],by omega,rfl,rfl,InInv.start (Below.refl _ _) (Nat.le_refl _) (Nat.le_refl _),fun i p h=>by simp at h⟩
    case round =>
     obtain ⟨i,P,hi2,rfl,hPl,hI,hP⟩:=hrel
     have HI:=Lib.hid hI
     have HP:=Lib.hid hP
     have HBN:=Lib.hid hI.below
     clear hI hP
     have HG1:Hid (P.length+1≤maxLen):=by unfold maxLen Hid;clear KG;omega
     have HG2:Hid ((P.length+1)*56≤140737488355328):=by unfold Hid;clear KG;omega
     by_cases hlt2:i<rq.J.length
     ·have hi':(i:Int)<(rq.J.length:Int):=by omega
      obtain ⟨jb,jo,hs⟩:=HS.out
      obtain rfl:=hs (by intro h;rw [h] at hlt2;simp at hlt2)
      have hZ:=(HZ.out.below (bot2 HW.out (bot2 HA2.out.b HBN.out))).at_ i (by simpa using hlt2)
      have hzz:(rq.J.map fun j:Nat=>(j:Int)).getD i 0=((rq.J.getD i 0:Nat):Int):=by
       rw [List.getD_eq_getElem?_getD,List.getElem?_map,List.getD_eq_getElem?_getD,List.getElem?_eq_getElem hlt2]
       rfl
      rw [hzz] at hZ
      obtain ⟨hjk,p,pl2,hpj,hpm,hpt⟩:=HPT.out i hlt2
      generalize rq.J.getD i 0=j at *
      have hjN:(j:Int)<(N.length:Int):=by omega
      have HPJ:=Lib.hid hpj
      have HPT2:=Lib.hid hpt
      have HOW:=Lib.hid (fun W' (h:Below wn.heap.size wn W')=>((HA2.out.call h).rows p hpm).2)
      clear hzz hjk hpj hpm hpt HS HPT
      go_upto_region 11 with fail
      have hI:=HI.out.drew
      refine wp_region_noPanic ?_
      refine wp_region_heldT (fun W'=>Below wn.heap.size wn W') 18 (by kernel_rfl) HBN.out.drew (fun hHeld=>?_)
      clear hZ
      refine tkO [] 0 rfl ?_
      try simp only [qS,qN,qC,qD]
      refine tkO [] 1 rfl ?_
      try simp only [qS,qN,qC,qD]
      refine tkO [] 2 rfl ?_
      try simp only [qS,qN,qC,qD]
      refine tkO [] 3 rfl ?_
      try simp only [qS,qN,qC,qD]
      refine tkA [] 4 rfl (by
       intro w₁ hSw
       obtain ⟨f0,f1,f2,f3,f4⟩:=(HA2.out.call hSw).fld HPJ.out
       go_simp
       try with_reducible rfl) ?_
      try simp only [qS,qN,qC,qD]
      refine tkA [] 5 rfl (by
       intro w₁ hSw
       obtain ⟨r0,r1,r2,r3⟩:=(HA2.out.call hSw).rg.cells
       go_simp
       try with_reducible rfl) ?_
      try simp only [qS,qN,qC,qD]
      refine tkO [] 6 rfl ?_
      try simp only [qS,qN,qC,qD]
      refine tkO [] 7 rfl ?_
      try simp only [qS,qN,qC,qD]
      refine tkO [] 8 rfl ?_
      try simp only [qS,qN,qC,qD]
      refine tkA [] 9 rfl (by
       intro w₁ hSw
       have hgk:=(HA2.out.call hSw).get (i:=k) (v:=(d:Int)) hkl HDK.out
       go_simp
       try with_reducible rfl) ?_
      try simp only [qS,qN,qC,qD]
      refine tkA [] 10 rfl (by
       intro w₁ hSw
       obtain ⟨n0,n1,n2,n3⟩:=(HND.out.below hSw HND.out.lt).cells
       go_simp
       try with_reducible rfl) ?_
      try simp only [qS,qN,qC,qD]
      refine rdA 11 rfl (fun K hK=>?_)
      go_simp
      (with_reducible refine (KMq.out _ (bot2 (bot2 HW.out HA2.out.b) hHeld)).mono ?_)
      rintro e w2 ⟨rfl,hb⟩
      have hI:=hI.call hb
      have hN:=hI.below
      clear hb
      go_wp2_with fail
      refine ouA hK hN (fun hHeld=>?_)
      clear hK K
      try simp only [qS,qN,qC,qD]
      refine tkO [] 12 rfl ?_
      try simp only [qS,qN,qC,qD]
      refine rdA 13 rfl (fun K hK=>?_)
      go_simp
      (with_reducible refine (KG.out M hdm _).mono ?_)
      rintro e w3 ⟨rfl,hb⟩
      have hI:=hI.call hb
      have hN:=hI.below
      clear hb
      go_wp2_with fail
      refine ouA hK hN (fun hHeld=>?_)
      clear hK K
      try simp only [qS,qN,qC,qD]
      refine rdA 14 rfl (fun K hK=>?_)
      go_simp
      (with_reducible refine (HPT2.out.part _ _ (HOW.out _ hHeld)).mono ?_)
      rintro e w4 ⟨gp,cp,rfl,ho4,hb⟩
      have hI:=hI.call hb
      have hN:=hI.below
      clear hb
      have HRW:Hid (InRow w4 ⟨X-(M:Int),Y-(M:Int),W+2*M,H+2*M,gp,cp,pl2⟩):=⟨HPT2.out.ne,ho4.lt.2,ho4.row (by have:=HPT2.out.len;omega)⟩
      clear ho4
      go_wp2_with fail
      refine ouA hK hN (fun hHeld=>?_)
      clear hK K
      try simp only [qS,qN,qC,qD]
      refine rdA 15 rfl (fun K hK=>?_)
      go_simp
      have hA:=hI.alloc (.cells #[.int .i64 (X-(M:Int)),.int .i64 (Y-(M:Int)),.int .i64 ((W:Int)+2*(M:Int)),.int .i64 ((H:Int)+2*(M:Int)),.slice (some ⟨gp,0,none⟩) pl2.length cp] 32)
      refine ouA hK hA.below (fun hHeld=>?_)
      clear hK K
      try simp only [qS,qN,qC,qD]
      refine rdA 16 rfl (fun K hK=>?_)
      refine step_append_lies _ rfl _ _ 44 rfl wn.heap.size 32 i0 (.agg #[.int .i64 0,.int .i64 0,.int .i64 0,.int .i64 0,.slice none 0 0]) 5 56 Tryz.underlying44 hi hz0 hz1 hz2 rfl (by decide) _ P.length (inL P) rfl hA.own ⟨w4.heap.size,0,none⟩ 1 1 [.int .i64 (X-(M:Int)),.int .i64 (Y-(M:Int)),.int .i64 ((W:Int)+2*(M:Int)),.int .i64 ((H:Int)+2*(M:Int)),.slice (some ⟨gp,0,none⟩) pl2.length cp] rfl rfl (World.news_of_block (heap_alloc_new w4 _)) (by simp [Value.oneCell']) (by decide) HG1.out HG2.out hA.bz _ rfl ?_
      intro g5 c5 w5 ho5 hg5 _ _
      rw [←HPT2.out.cs gp cp] at ho5
      have hI:=hI.app HRW.out ho5 hg5
      clear ho5 hg5 hA
      refine ouA hK hI.below (fun hHeld=>?_)
      clear hK K
      try simp only [qS,qN,qC,qD]
      refine rdA 17 rfl (fun K hK=>?_)
      go_simp
      refine ouA hK hHeld (fun hHeld=>?_)
      clear hK K
      try simp only [qS,qN,qC,qD]
      refine wpAnyT_done (by kernel_rfl) ?_ _
      refine NoPanic.normal ?_
      have HI5:=Lib.hid hI
      have HPN:Hid (∀ i' p',(P ++ [⟨X-(M:Int),Y-(M:Int),W+2*M,H+2*M,gp,cp,pl2⟩])[i']?=some p'→InOk (gsK R k) (X-d) (Y-d) (W+2*d) (H+2*d) rq.m i' p'):=fun i' p' hp'=>by
       rcases Nat.lt_or_ge i' P.length with q|q
       ·rw [List.getElem?_append_left q] at hp'
        exact HP.out i' p' hp'
       ·have hl:i'=P.length:=by
         have:=(List.getElem?_eq_some_iff.1 hp').1
         simp at this
         omega
        rw [hl,List.getElem?_append_right (Nat.le_refl _),Nat.sub_self] at hp'
        obtain rfl:_=p':=by simpa using hp'
        rw [hl,hPl]
        exact HPT2.out.ok gp cp
      clear hI hHeld HRW HPT2 HPJ HOW HP HI
      go_wp2_with fail
      go_roundw
      case rel=>exact ⟨i+1,P ++ [_],by omega,by go_num,by simp [hPl],(by have h:=HI5.out;rw [hPl] at h;exact h),HPN.out⟩
      case measure=>simp [intOf];omega
     ·obtain rfl:i=rq.J.length:=by omega
      have hzi:0<wr.heap.size:=Nat.lt_of_lt_of_le (Nat.zero_lt_of_lt hkn) HBN.out.size
      obtain ⟨ai,sb,cP,hv,hai,hins⟩:=HI.out.form hzi
      rw [hPl] at hv hai
      subst hv
      have hd2:d≤200:=Nat.le_trans (Nat.le_add_right d rq.m) (HMM.out ▸ hdm)
      have KAP:=Lib.hid (apply_of (cP:=cP) hrr HMM.out HRD.out HRM.out KEV.out (bot2 (bot2 HW.out HA2.out.b) HBN.out) hins hPl hai HP.out)
      have hlg:go<wn.heap.size:=HA2.out.ou.lt
      have hkf:k<fo.length:=by rw [HFO.out.1];exact hkl2
      have hWw:w.heap.size≤wn.heap.size:=HA2.out.b.size
      clear hins hai HP HI HG1 HG2 HPT HZ HS KMq hadd hadd2 hadd3 hadd4 hadd5
      generalize hgl:gridL (valK R k) (X-d) (Y-d) (W+2*d) (H+2*d)=gl at *
      go_upto_region 13 with fail
      refine wp_region_noPanic ?_
      refine wp_region_heldT (fun W'=>Below wn.heap.size wn W') 15 (by kernel_rfl) HBN.out.drew (fun hHeld=>?_)
      have hL:Below wr.heap.size wr wr.drew:=(Below.refl _ _).drew
      refine tkA [] 0 rfl (by
       intro w₁ hSw
       obtain ⟨n0,n1,n2,n3⟩:=(HND.out.below hSw HND.out.lt).cells
       go_simp
       try with_reducible rfl) ?_
      try simp only [qS,qN,qC,qD]
      refine tkA [] 1 rfl (by
       intro w₁ hSw
       obtain ⟨r0,r1,r2,r3⟩:=(HA2.out.call hSw).rg.cells
       go_simp
       try with_reducible rfl) ?_
      try simp only [qS,qN,qC,qD]
      refine tkO [] 2 rfl ?_
      try simp only [qS,qN,qC,qD]
      refine tkO [] 3 rfl ?_
      try simp only [qS,qN,qC,qD]
      refine tkO [] 4 rfl ?_
      try simp only [qS,qN,qC,qD]
      refine tkA [] 5 rfl (by
       intro w₁ hSw
       have hgk:=(HA2.out.call hSw).get (i:=k) (v:=(d:Int)) hkl HDK.out
       go_simp
       try with_reducible rfl) ?_
      try simp only [qS,qN,qC,qD]
      refine tkO [] 7 rfl ?_
      try simp only [qS,qN,qC,qD]
      refine wpAnyT_ready (rs:=[6,12]) (by kernel_rfl) (by simp) ?_
      refine AllReadyT.cons rfl (fun K hK=>?_) (AllReadyT.cons rfl (fun K hK=>?_) AllReadyT.nil)
      ·go_simp
       (with_reducible refine (KG.out d hd2 _).mono ?_)
       rintro e w2 ⟨rfl,hb⟩
       have hL:=bot2 hL hb
       have hN:=bot2 hHeld hb
       go_wp2_with fail
       refine ouA hK hN (fun hHeld=>?_)
       clear hK K
       try simp only [qS,qN,qC,qD]
       refine wpAnyT_ready (rs:=[8,12]) (by kernel_rfl) (by simp) ?_
       refine AllReadyT.cons rfl (fun K hK=>?_) (AllReadyT.cons rfl (fun K hK=>?_) AllReadyT.nil)
       ·go_simp
        have hLs:=hL
        have hBg:wn.heap.size≤_:=Nat.le_trans HBN.out.size hL.size
        have hWB:w.heap.size≤_:=Nat.le_trans hWw hBg
        obtain ⟨c,hcg,KC⟩:=KAP.out _ hL
        (with_reducible refine KC.mono ?_)
        rintro e w4 ⟨⟨x,y,pp,qq,aa,n1,k1,rfl,ho⟩,hb⟩
        have hN:=bot2 hHeld hb
        go_wp2_with fail
        refine ouA hK hN (fun hHeld=>?_)
        clear hK K
        try simp only [qS,qN,qC,qD]
        refine tkO [] 9 rfl ?_
        try simp only [qS,qN,qC,qD]
        refine tkO [] 10 rfl ?_
        try simp only [qS,qN,qC,qD]
        refine tkO [] 11 rfl ?_
        try simp only [qS,qN,qC,qD]
        refine rdA 12 rfl (fun K hK=>?_)
        go_simp
        have hF:Fld (w4.alloc (.cells #[.int .i64 0,.int .i64 0,.int .i64 0,.int .i64 0,.slice none 0 0] 32)) w4.heap.size 0 0 0 0 (.slice none 0 0):=Fld.new _ _ _ _ _ _
        have hq:wn.heap.size≤w4.heap.size:=hHeld.size
        have hH4:=hHeld
        have hN:=hHeld.alloc hHeld.size (.cells #[.int .i64 0,.int .i64 0,.int .i64 0,.int .i64 0,.slice none 0 0] 32)
        have hL:=hL.alloc hL.size (.cells #[.int .i64 0,.int .i64 0,.int .i64 0,.int .i64 0,.slice none 0 0] 32)
        refine ouA hK hN (fun hHeld=>?_)
        clear hK K
        try simp only [qS,qN,qC,qD]
        refine rdA 13 rfl (fun K hK=>?_)
        obtain ⟨d0,d1,d2,d3,d4⟩:=hF.cells
        have qf0:=hF.frozen 0
        have qf1:=hF.frozen 1
        have qf2:=hF.frozen 2
        have qf3:=hF.frozen 3
        have qf4:=hF.frozen 4
        have lz:=hF.lt
        go_simp
        have f5:Fld (w4.alloc (.cells #[.int .i64 x,.int .i64 y,.int .i64 pp,.int .i64 qq,.slice aa n1 k1] 32)) w4.heap.size x y pp qq (.slice aa n1 k1):=Fld.new _ _ _ _ _ _
        have hN:=hH4.alloc hH4.size (.cells #[.int .i64 x,.int .i64 y,.int .i64 pp,.int .i64 qq,.slice aa n1 k1] 32)
        replace ho:=ho.below (w':=w4.alloc (.cells #[.int .i64 x,.int .i64 y,.int .i64 pp,.int .i64 qq,.slice aa n1 k1] 32)) qBl
        clear d0 d1 d2 d3 d4 qf0 qf1 qf2 qf3 qf4 lz hF hHeld hH4 hL
        generalize w4.alloc (.cells #[.int .i64 x,.int .i64 y,.int .i64 pp,.int .i64 qq,.slice aa n1 k1] 32)=w5 at *
        exact qx8
       ·go_simp
        have hF:Fld (w2.alloc (.cells #[.int .i64 0,.int .i64 0,.int .i64 0,.int .i64 0,.slice none 0 0] 32)) w2.heap.size 0 0 0 0 (.slice none 0 0):=Fld.new _ _ _ _ _ _
        have hq:wn.heap.size≤w2.heap.size:=hHeld.size
        have hH4:=hHeld
        have hN:=hHeld.alloc hHeld.size (.cells #[.int .i64 0,.int .i64 0,.int .i64 0,.int .i64 0,.slice none 0 0] 32)
        have hL:=hL.alloc hL.size (.cells #[.int .i64 0,.int .i64 0,.int .i64 0,.int .i64 0,.slice none 0 0] 32)
        refine ouA hK hN (fun hHeld=>?_)
        clear hK K
        try simp only [qS,qN,qC,qD]
        have hlq:=hF.lt
        refine rdA 8 rfl (fun K hK=>?_)
        go_simp
        have hLs:=hL
        have hBg:wn.heap.size≤_:=Nat.le_trans HBN.out.size hL.size
        have hWB:w.heap.size≤_:=Nat.le_trans hWw hBg
        obtain ⟨c,hcg,KC⟩:=KAP.out _ hL
        (with_reducible refine KC.mono ?_)
        rintro e w4 ⟨⟨x,y,pp,qq,aa,n1,k1,rfl,ho⟩,hb⟩
        have hN:=bot2 hHeld hb
        go_wp2_with fail
        refine ouA hK hN (fun hHeld=>?_)
        clear hK K
        try simp only [qS,qN,qC,qD]
        refine tkO [] 9 rfl ?_
        try simp only [qS,qN,qC,qD]
        refine tkO [] 10 rfl ?_
        try simp only [qS,qN,qC,qD]
        refine tkO [] 11 rfl ?_
        try simp only [qS,qN,qC,qD]
        have hF:=hF.below hb hlq
        refine rdA 13 rfl (fun K hK=>?_)
        obtain ⟨d0,d1,d2,d3,d4⟩:=hF.cells
        have qf0:=hF.frozen 0
        have qf1:=hF.frozen 1
        have qf2:=hF.frozen 2
        have qf3:=hF.frozen 3
        have qf4:=hF.frozen 4
        have lz:=hF.lt
        go_simp
        obtain ⟨f5,b5,oo5,_,z5⟩:=fld_store w4 (w2.heap.size) 0 0 0 0 _ x y pp qq (.slice aa n1 k1) hF _ rfl
        have hN:=hHeld.trans (b5.mono hq)
        replace ho:=ho.set oo5 hlq
        clear d0 d1 d2 d3 d4 qf0 qf1 qf2 qf3 qf4 lz hF b5 z5 oo5 hHeld hH4 hL
        generalize ((((w4.setCell ⟨w2.heap.size,0,none⟩ (.int .i64 x)).setCell ⟨w2.heap.size,1,none⟩ (.int .i64 y)).setCell ⟨w2.heap.size,2,none⟩ (.int .i64 pp)).setCell ⟨w2.heap.size,3,none⟩ (.int .i64 qq)).setCell ⟨w2.heap.size,4,none⟩ (.slice aa n1 k1)=w5 at *
        exact qx8
      ·go_simp
       have hF:Fld (wr.drew.alloc (.cells #[.int .i64 0,.int .i64 0,.int .i64 0,.int .i64 0,.slice none 0 0] 32)) wr.heap.size 0 0 0 0 (.slice none 0 0):=Fld.new _ _ _ _ _ _
       have hq:wn.heap.size≤wr.heap.size:=hHeld.size
       have hH4:=hHeld
       have hN:=hHeld.alloc hHeld.size (.cells #[.int .i64 0,.int .i64 0,.int .i64 0,.int .i64 0,.slice none 0 0] 32)
       have hL:=hL.alloc hL.size (.cells #[.int .i64 0,.int .i64 0,.int .i64 0,.int .i64 0,.slice none 0 0] 32)
       refine ouA hK hN (fun hHeld=>?_)
       clear hK K
       try simp only [qS,qN,qC,qD]
       have hlq0:=hF.lt
       refine rdA 6 rfl (fun K hK=>?_)
       go_simp
       (with_reducible refine (KG.out d hd2 _).mono ?_)
       rintro e w2 ⟨rfl,hb⟩
       have hL:=bot2 hL hb
       have hN:=bot2 hHeld hb
       go_wp2_with fail
       refine ouA hK hN (fun hHeld=>?_)
       clear hK K
       try simp only [qS,qN,qC,qD]
       have hF:=hF.below hb hlq0
       have hlq:=hF.lt
       refine rdA 8 rfl (fun K hK=>?_)
       go_simp
       have hLs:=hL
       have hBg:wn.heap.size≤_:=Nat.le_trans HBN.out.size hL.size
       have hWB:w.heap.size≤_:=Nat.le_trans hWw hBg
       obtain ⟨c,hcg,KC⟩:=KAP.out _ hL
       (with_reducible refine KC.mono ?_)
       rintro e w4 ⟨⟨x,y,pp,qq,aa,n1,k1,rfl,ho⟩,hb⟩
       have hN:=bot2 hHeld hb
       go_wp2_with fail
       refine ouA hK hN (fun hHeld=>?_)
       clear hK K
       try simp only [qS,qN,qC,qD]
       refine tkO [] 9 rfl ?_
       try simp only [qS,qN,qC,qD]
       refine tkO [] 10 rfl ?_
       try simp only [qS,qN,qC,qD]
       refine tkO [] 11 rfl ?_
       try simp only [qS,qN,qC,qD]
       have hF:=hF.below hb hlq
       refine rdA 13 rfl (fun K hK=>?_)
       obtain ⟨d0,d1,d2,d3,d4⟩:=hF.cells
       have qf0:=hF.frozen 0
       have qf1:=hF.frozen 1
       have qf2:=hF.frozen 2
       have qf3:=hF.frozen 3
       have qf4:=hF.frozen 4
       have lz:=hF.lt
       go_simp
       obtain ⟨f5,b5,oo5,_,z5⟩:=fld_store w4 (wr.heap.size) 0 0 0 0 _ x y pp qq (.slice aa n1 k1) hF _ rfl
       have hN:=hHeld.trans (b5.mono hq)
       replace ho:=ho.set oo5 hlq
       clear d0 d1 d2 d3 d4 qf0 qf1 qf2 qf3 qf4 lz hF b5 z5 oo5 hHeld hH4 hL
       generalize ((((w4.setCell ⟨wr.heap.size,0,none⟩ (.int .i64 x)).setCell ⟨wr.heap.size,1,none⟩ (.int .i64 y)).setCell ⟨wr.heap.size,2,none⟩ (.int .i64 pp)).setCell ⟨wr.heap.size,3,none⟩ (.int .i64 qq)).setCell ⟨wr.heap.size,4,none⟩ (.slice aa n1 k1)=w5 at *
       exact qx8
  ·obtain rfl:k=N.length:=by omega
   have hl:=HA.out.ou.lt
   clear hk
   go_wp2_with fail
   refine bodyPost_ret (v:=.tuple #[.slice (some ⟨go,0,none⟩) N.length N.length,.int .i64 0]) (by simp [results,Tryz.results35,go_sem, *]) rfl ?_
   rw [←hlen] at HGD HFO ⊢
   exact .inl ⟨HGD.out,go,_,fo,rfl,HFO.out,_,_,_,_,_,HA.out⟩
theorem rg_of {X Y:Int} {W H:Nat} (h:chk X Y W H=0):Rg X Y W H:=by
 obtain ⟨h1,h2,h3,h4,h5,h6,h7,h8,h9⟩:=chk_zero h
 refine ⟨by omega,by omega,by omega,by omega,?_,h5,h7,h6,h8⟩
 rw [←Int.natCast_mul] at h9
 omega
def ceE (most X Y:Int) (W H:Nat):Int:=if chk X Y W H≠0 then chk X Y W H else if 200<most then 3 else chk (X-most) (Y-most) (W+2*most) (H+2*most)
theorem ceE_zero {most X Y:Int} {W H:Nat} (h0:0≤most):ceE most X Y W H=0 ↔ Rg X Y W H∧most≤200∧Rg (X-most.toNat) (Y-most.toNat) (W+2*most.toNat) (H+2*most.toNat):=by
 obtain ⟨m,rfl⟩:=Int.eq_ofNat_of_zero_le h0
 rw [Int.toNat_natCast]
 have e1:((W+2*m:Nat):Int)=(W:Int)+2*(m:Int):=by push_cast;rfl
 have e2:((H+2*m:Nat):Int)=(H:Int)+2*(m:Int):=by push_cast;rfl
 unfold ceE
 constructor
 ·intro h
  by_cases c:chk X Y W H=0
  ·rw [if_neg (by omega)] at h
   by_cases m2:(200:Int)<m
   ·rw [if_pos m2] at h;omega
   ·rw [if_neg m2,←e1,←e2] at h
    exact ⟨rg_of c,by omega,rg_of h⟩
  ·rw [if_pos c] at h;exact absurd h c
 ·rintro ⟨a,b,c⟩
  have c2:=c.chk
  rw [e1,e2] at c2
  rw [a.chk,if_neg (by omega),if_neg (by omega)]
  exact c2
section
variable {b o:Nat} {N:List Nd} {cap:Nat} {R:List Rn} {t:Nat} {W0:World}
set_option maxRecDepth 100000 in
set_option maxHeartbeats 1000000 in
theorem checkeval_walk (hN:NdRow W0 (some ⟨b,o,none⟩) N) (hb0:b<W0.heap.size) (hG:GrOk W0 N R) (ht:t<R.length) (X Y:Int) (W H:Nat) (w:World) (hW:Below W0.heap.size W0 w) :
  Calls Tryz.prog 34 #[.agg #[.slice (some ⟨b,o,none⟩) N.length cap,.int .i64 (t:Int)],reg X Y W H] w fun e w'=>e=.returned (.int .i64 (ceE (needsL R t).2 X Y W H))∧Below w.heap.size w w':=by
 have KN:=Lib.hid (fun W h=>needs_walk b o N cap R t W0 W hN hb0 hG ht h)
 have hm0:=(needs_ok hG.ok ht).m0
 have KC:=Lib.hid (fun w=>check1 X Y W H w)
 have HW:=Lib.hid hW
 clear hN hb0 hG hW
 unfold ceE
 by_cases hc:chk X Y W H=0
 ·rw [hc] at KC ⊢
  rw [if_neg (by omega)]
  by_cases hm:200<(needsL R t).2
  ·rw [if_pos hm]
   go_enter Tryz.func34,Tryz.ntmps34
   go_upto_region 1 with fail
   have b0:Below w.heap.size w ((w.alloc (.cells #[.slice (some ⟨b,o,none⟩) N.length cap,.int .i64 (t:Int)] 24)).alloc (.cells #[.int .i64 X,.int .i64 Y,.int .i64 W,.int .i64 H] 26)):=qBl
   have G0:=(Blk.new w #[.slice (some ⟨b,o,none⟩) N.length cap,.int .i64 (t:Int)] 24).alloc (.cells #[.int .i64 X,.int .i64 Y,.int .i64 W,.int .i64 H] 26)
   have R0:=Reg.new (w.alloc (.cells #[.slice (some ⟨b,o,none⟩) N.length cap,.int .i64 (t:Int)] 24)) X Y W H
   rw [show (w.alloc (.cells #[.slice (some ⟨b,o,none⟩) N.length cap,.int .i64 (t:Int)] 24)).heap.size=w.heap.size+1 from by simp] at R0
   generalize (w.alloc (.cells #[.slice (some ⟨b,o,none⟩) N.length cap,.int .i64 (t:Int)] 24)).alloc (.cells #[.int .i64 X,.int .i64 Y,.int .i64 W,.int .i64 H] 26)=W1 at *
   have HG0:=Lib.hid G0
   have HR0:=Lib.hid R0
   have HB0:=Lib.hid b0
   clear G0 R0 b0
   have g0:W1.cell? ⟨w.heap.size,0,none⟩=some (.slice (some ⟨b,o,none⟩) N.length cap):=HG0.out.cell 0
   have g1:W1.cell? ⟨w.heap.size,1,none⟩=some (.int .i64 (t:Int)):=HG0.out.cell 1
   have gl:=HG0.out.lt
   obtain ⟨r0,r1,r2,r3⟩:=HR0.out.cells
   have rl:=HR0.out.lt
   go_wp2_with fail
   refine (KC.out _).mono ?_
   rintro e w2 ⟨rfl,hb⟩
   replace HG0:=Lib.hid (HG0.out.below hb HG0.out.lt)
   replace HR0:=Lib.hid (HR0.out.below hb HR0.out.lt)
   replace HB0:=Lib.hid (bot2 HB0.out hb)
   clear g0 g1 gl r0 r1 r2 r3 rl
   have g0:w2.cell? ⟨w.heap.size,0,none⟩=some (.slice (some ⟨b,o,none⟩) N.length cap):=HG0.out.cell 0
   have g1:w2.cell? ⟨w.heap.size,1,none⟩=some (.int .i64 (t:Int)):=HG0.out.cell 1
   have gl:=HG0.out.lt
   obtain ⟨r0,r1,r2,r3⟩:=HR0.out.cells
   have rl:=HR0.out.lt
   clear hb
   go_wp2_with fail
   refine (KN.out _ (bot2 HW.out HB0.out)).mono ?_
   rintro e w3 ⟨gn,capn,rfl,_,_,hb⟩
   replace HG0:=Lib.hid (HG0.out.below hb HG0.out.lt)
   replace HR0:=Lib.hid (HR0.out.below hb HR0.out.lt)
   replace HB0:=Lib.hid (bot2 HB0.out hb)
   clear g0 g1 gl r0 r1 r2 r3 rl
   have g0:w3.cell? ⟨w.heap.size,0,none⟩=some (.slice (some ⟨b,o,none⟩) N.length cap):=HG0.out.cell 0
   have g1:w3.cell? ⟨w.heap.size,1,none⟩=some (.int .i64 (t:Int)):=HG0.out.cell 1
   have gl:=HG0.out.lt
   obtain ⟨r0,r1,r2,r3⟩:=HR0.out.cells
   have rl:=HR0.out.lt
   clear hb
   generalize (needsL R t).2=m at *
   go_wp2_with fail
   go_ret
   exact ⟨rfl,HB0.out⟩
  ·rw [if_neg hm]
   have KG:=Lib.hid (fun w=>grow1 X Y W H (needsL R t).2 w)
   have hge:growE X Y W H (needsL R t).2=chk (X-(needsL R t).2) (Y-(needsL R t).2) (W+2*(needsL R t).2) (H+2*(needsL R t).2):=by unfold growE;rw [if_neg (by omega),if_neg (by omega)]
   rw [hge] at KG
   have hgr:∃ a b c d:Int,growR X Y W H (needsL R t).2=reg a b c d:=by
    unfold growR
    split
    ·exact ⟨_,_,_,_,rfl⟩
    ·exact ⟨_,_,_,_,rfl⟩
   obtain ⟨ga,gb,gc,gd,hgr⟩:=hgr
   rw [hgr] at KG
   clear hge hgr
   generalize chk (X-(needsL R t).2) (Y-(needsL R t).2) (W+2*(needsL R t).2) (H+2*(needsL R t).2)=q at *
   go_enter Tryz.func34,Tryz.ntmps34
   go_upto_region 1 with fail
   have b0:Below w.heap.size w ((w.alloc (.cells #[.slice (some ⟨b,o,none⟩) N.length cap,.int .i64 (t:Int)] 24)).alloc (.cells #[.int .i64 X,.int .i64 Y,.int .i64 W,.int .i64 H] 26)):=qBl
   have G0:=(Blk.new w #[.slice (some ⟨b,o,none⟩) N.length cap,.int .i64 (t:Int)] 24).alloc (.cells #[.int .i64 X,.int .i64 Y,.int .i64 W,.int .i64 H] 26)
   have R0:=Reg.new (w.alloc (.cells #[.slice (some ⟨b,o,none⟩) N.length cap,.int .i64 (t:Int)] 24)) X Y W H
   rw [show (w.alloc (.cells #[.slice (some ⟨b,o,none⟩) N.length cap,.int .i64 (t:Int)] 24)).heap.size=w.heap.size+1 from by simp] at R0
   generalize (w.alloc (.cells #[.slice (some ⟨b,o,none⟩) N.length cap,.int .i64 (t:Int)] 24)).alloc (.cells #[.int .i64 X,.int .i64 Y,.int .i64 W,.int .i64 H] 26)=W1 at *
   have HG0:=Lib.hid G0
   have HR0:=Lib.hid R0
   have HB0:=Lib.hid b0
   clear G0 R0 b0
   have g0:W1.cell? ⟨w.heap.size,0,none⟩=some (.slice (some ⟨b,o,none⟩) N.length cap):=HG0.out.cell 0
   have g1:W1.cell? ⟨w.heap.size,1,none⟩=some (.int .i64 (t:Int)):=HG0.out.cell 1
   have gl:=HG0.out.lt
   obtain ⟨r0,r1,r2,r3⟩:=HR0.out.cells
   have rl:=HR0.out.lt
   go_wp2_with fail
   refine (KC.out _).mono ?_
   rintro e w2 ⟨rfl,hb⟩
   replace HG0:=Lib.hid (HG0.out.below hb HG0.out.lt)
   replace HR0:=Lib.hid (HR0.out.below hb HR0.out.lt)
   replace HB0:=Lib.hid (bot2 HB0.out hb)
   clear g0 g1 gl r0 r1 r2 r3 rl
   have g0:w2.cell? ⟨w.heap.size,0,none⟩=some (.slice (some ⟨b,o,none⟩) N.length cap):=HG0.out.cell 0
   have g1:w2.cell? ⟨w.heap.size,1,none⟩=some (.int .i64 (t:Int)):=HG0.out.cell 1
   have gl:=HG0.out.lt
   obtain ⟨r0,r1,r2,r3⟩:=HR0.out.cells
   have rl:=HR0.out.lt
   clear hb
   go_wp2_with fail
   refine (KN.out _ (bot2 HW.out HB0.out)).mono ?_
   rintro e w3 ⟨gn,capn,rfl,_,_,hb⟩
   replace HG0:=Lib.hid (HG0.out.below hb HG0.out.lt)
   replace HR0:=Lib.hid (HR0.out.below hb HR0.out.lt)
   replace HB0:=Lib.hid (bot2 HB0.out hb)
   clear g0 g1 gl r0 r1 r2 r3 rl
   have g0:w3.cell? ⟨w.heap.size,0,none⟩=some (.slice (some ⟨b,o,none⟩) N.length cap):=HG0.out.cell 0
   have g1:w3.cell? ⟨w.heap.size,1,none⟩=some (.int .i64 (t:Int)):=HG0.out.cell 1
   have gl:=HG0.out.lt
   obtain ⟨r0,r1,r2,r3⟩:=HR0.out.cells
   have rl:=HR0.out.lt
   clear hb
   generalize (needsL R t).2=m at *
   go_wp2_with fail
   refine (KG.out _).mono ?_
   rintro e w4 ⟨rfl,hb⟩
   replace HG0:=Lib.hid (HG0.out.below hb HG0.out.lt)
   replace HR0:=Lib.hid (HR0.out.below hb HR0.out.lt)
   replace HB0:=Lib.hid (bot2 HB0.out hb)
   clear g0 g1 gl r0 r1 r2 r3 rl
   have g0:w4.cell? ⟨w.heap.size,0,none⟩=some (.slice (some ⟨b,o,none⟩) N.length cap):=HG0.out.cell 0
   have g1:w4.cell? ⟨w.heap.size,1,none⟩=some (.int .i64 (t:Int)):=HG0.out.cell 1
   have gl:=HG0.out.lt
   obtain ⟨r0,r1,r2,r3⟩:=HR0.out.cells
   have rl:=HR0.out.lt
   clear hb
   go_wp2_with fail
   go_ret
   have hb:=HB0.out
   exact ⟨rfl,(qBo hb)⟩
 ·rw [if_pos hc]
  have hb':(chk X Y W H != 0)=true:=by rw [bne_iff_ne];exact hc
  clear hc
  generalize chk X Y W H=q at *
  go_enter Tryz.func34,Tryz.ntmps34
  go_upto_region 1 with fail
  have b0:Below w.heap.size w ((w.alloc (.cells #[.slice (some ⟨b,o,none⟩) N.length cap,.int .i64 (t:Int)] 24)).alloc (.cells #[.int .i64 X,.int .i64 Y,.int .i64 W,.int .i64 H] 26)):=qBl
  have G0:=(Blk.new w #[.slice (some ⟨b,o,none⟩) N.length cap,.int .i64 (t:Int)] 24).alloc (.cells #[.int .i64 X,.int .i64 Y,.int .i64 W,.int .i64 H] 26)
  have R0:=Reg.new (w.alloc (.cells #[.slice (some ⟨b,o,none⟩) N.length cap,.int .i64 (t:Int)] 24)) X Y W H
  rw [show (w.alloc (.cells #[.slice (some ⟨b,o,none⟩) N.length cap,.int .i64 (t:Int)] 24)).heap.size=w.heap.size+1 from by simp] at R0
  generalize (w.alloc (.cells #[.slice (some ⟨b,o,none⟩) N.length cap,.int .i64 (t:Int)] 24)).alloc (.cells #[.int .i64 X,.int .i64 Y,.int .i64 W,.int .i64 H] 26)=W1 at *
  have HG0:=Lib.hid G0
  have HR0:=Lib.hid R0
  have HB0:=Lib.hid b0
  clear G0 R0 b0
  have g0:W1.cell? ⟨w.heap.size,0,none⟩=some (.slice (some ⟨b,o,none⟩) N.length cap):=HG0.out.cell 0
  have g1:W1.cell? ⟨w.heap.size,1,none⟩=some (.int .i64 (t:Int)):=HG0.out.cell 1
  have gl:=HG0.out.lt
  obtain ⟨r0,r1,r2,r3⟩:=HR0.out.cells
  have rl:=HR0.out.lt
  go_wp2_with fail
  refine (KC.out _).mono ?_
  rintro e w2 ⟨rfl,hb⟩
  replace HG0:=Lib.hid (HG0.out.below hb HG0.out.lt)
  replace HR0:=Lib.hid (HR0.out.below hb HR0.out.lt)
  replace HB0:=Lib.hid (bot2 HB0.out hb)
  clear g0 g1 gl r0 r1 r2 r3 rl
  have g0:w2.cell? ⟨w.heap.size,0,none⟩=some (.slice (some ⟨b,o,none⟩) N.length cap):=HG0.out.cell 0
  have g1:w2.cell? ⟨w.heap.size,1,none⟩=some (.int .i64 (t:Int)):=HG0.out.cell 1
  have gl:=HG0.out.lt
  obtain ⟨r0,r1,r2,r3⟩:=HR0.out.cells
  have rl:=HR0.out.lt
  clear hb
  go_wp2_with fail
  go_ret
  exact ⟨rfl,HB0.out⟩
def AllP (R:List Rn) (t:Nat) (X Y:Int) (W H:Nat) (w:World) (e:Ending) (w':World):Prop:=
 (EvalOk R t X Y W H∧∃ go cap fo,e=.returned (.tuple #[.slice (some ⟨go,0,none⟩) R.length cap,.int .i64 0])∧FoOk R X Y W H (needsL R t).1 fo R.length∧(∃ w1 a n cp out gn,w.heap.size≤w1.heap.size∧AlS w1 a n cp out X Y W H gn go (needsL R t).1 fo w')∧Below w.heap.size w w') ∨
 (¬ EvalOk R t X Y W H∧∃ c:Int,c≠0∧e=.returned (.tuple #[.slice none 0 0,.int .i64 c])∧Below w.heap.size w w')
theorem evalok_iff (hG:GrOk W0 N R) (ht:t<R.length) {X Y:Int} {W H:Nat} (h:ceE (needsL R t).2 X Y W H=0):EvalOk R t X Y W H ↔ GdUp R X Y W H (needsL R t).1 R.length:=by
 obtain ⟨a,b,c⟩:=(ceE_zero (needs_ok hG.ok ht).m0).1 h
 exact ⟨fun h k hk d hd=>h.gd k hk d hd,fun h=>⟨a,b,c,fun k hk d hd=>h k hk d hd⟩⟩
theorem evalok_no (hG:GrOk W0 N R) (ht:t<R.length) {X Y:Int} {W H:Nat} (h:ceE (needsL R t).2 X Y W H≠0):¬ EvalOk R t X Y W H:=fun hk =>
 h ((ceE_zero (needs_ok hG.ok ht).m0).2 ⟨hk.at_,hk.m200,hk.far⟩)
theorem AllP.of {X Y:Int} {W H:Nat} {w w1:World} {e:Ending} {w':World} (hb:Below w.heap.size w w1) (hk:EvalOk R t X Y W H ↔ GdUp R X Y W H (needsL R t).1 R.length) (h:AlP R t X Y W H w1 e w'):AllP R t X Y W H w e w':=by
 rcases h with ⟨h1,go,cap,fo,he,hf,a,n,cp,out,gn,hA⟩|⟨h1,c,hc,he,hb2⟩
 ·exact .inl ⟨hk.2 h1,go,cap,fo,he,hf,⟨w1,a,n,cp,out,gn,hb.size,hA⟩,bot2 hb hA.b⟩
 ·exact .inr ⟨fun h=>h1 (hk.1 h),c,hc,he,bot2 hb hb2⟩
theorem AllP.up {X Y:Int} {W H:Nat} {w w1:World} {e:Ending} {w':World} (hb:Below w.heap.size w w1) (h:AllP R t X Y W H w1 e w'):AllP R t X Y W H w e w':=by
 rcases h with ⟨h1,go,cap,fo,he,hf,⟨w2,a,n,cp,out,gn,hz,hA⟩,hb2⟩|⟨h1,c,hc,he,hb2⟩
 ·exact .inl ⟨h1,go,cap,fo,he,hf,⟨w2,a,n,cp,out,gn,Nat.le_trans hb.size hz,hA⟩,bot2 hb hb2⟩
 ·exact .inr ⟨h1,c,hc,he,bot2 hb hb2⟩
theorem AllP.two {X Y:Int} {W H:Nat} {w:World} {e:Ending} {w':World} (h:AllP R t X Y W H w e w'):∃ (v:Value) (c:Int),e=.returned (.tuple #[v,.int .i64 c]):=by
 rcases h with ⟨_,go,cap,fo,he,_⟩|⟨_,c,_,he,_⟩
 ·exact ⟨_,_,he⟩
 ·exact ⟨_,_,he⟩
set_option maxRecDepth 100000 in
set_option maxHeartbeats 1000000 in
theorem evaluated_walk (hN:NdRow W0 (some ⟨b,o,none⟩) N) (hb0:b<W0.heap.size) (hG:GrOk W0 N R) (ht:t<R.length) (X Y:Int) (W H:Nat) (w:World) (hW:Below W0.heap.size W0 w) :
  Calls Tryz.prog 30 #[.agg #[.slice (some ⟨b,o,none⟩) N.length cap,.int .i64 (t:Int)],reg X Y W H] w (AllP R t X Y W H w):=by
 have KC:=Lib.hid (fun w h=>checkeval_walk (cap:=cap) hN hb0 hG ht X Y W H w h)
 have HW:=Lib.hid hW
 by_cases hc:ceE (needsL R t).2 X Y W H=0
 ·obtain ⟨q1,q2,q3⟩:=(ceE_zero (needs_ok hG.ok ht).m0).1 hc
  have KA:=Lib.hid (fun w h=>all_walk b o N cap R t X Y W H W0 w hN hb0 hG ht h q1 q2 q3)
  have HK:=Lib.hid (evalok_iff hG ht hc)
  rw [hc] at KC
  clear q1 q2 q3 hN hb0 hG hW
  go_enter Tryz.func30,Tryz.ntmps30
  go_upto_region 1 with fail
  have b0:Below w.heap.size w ((w.alloc (.cells #[.slice (some ⟨b,o,none⟩) N.length cap,.int .i64 (t:Int)] 24)).alloc (.cells #[.int .i64 X,.int .i64 Y,.int .i64 W,.int .i64 H] 26)):=qBl
  have G0:=(Blk.new w #[.slice (some ⟨b,o,none⟩) N.length cap,.int .i64 (t:Int)] 24).alloc (.cells #[.int .i64 X,.int .i64 Y,.int .i64 W,.int .i64 H] 26)
  have R0:=Reg.new (w.alloc (.cells #[.slice (some ⟨b,o,none⟩) N.length cap,.int .i64 (t:Int)] 24)) X Y W H
  rw [show (w.alloc (.cells #[.slice (some ⟨b,o,none⟩) N.length cap,.int .i64 (t:Int)] 24)).heap.size=w.heap.size+1 from by simp] at R0
  generalize (w.alloc (.cells #[.slice (some ⟨b,o,none⟩) N.length cap,.int .i64 (t:Int)] 24)).alloc (.cells #[.int .i64 X,.int .i64 Y,.int .i64 W,.int .i64 H] 26)=W1 at *
  have HG0:=Lib.hid G0
  have HR0:=Lib.hid R0
  have HB0:=Lib.hid b0
  clear G0 R0 b0
  have g0:W1.cell? ⟨w.heap.size,0,none⟩=some (.slice (some ⟨b,o,none⟩) N.length cap):=HG0.out.cell 0
  have g1:W1.cell? ⟨w.heap.size,1,none⟩=some (.int .i64 (t:Int)):=HG0.out.cell 1
  have gl:=HG0.out.lt
  obtain ⟨r0,r1,r2,r3⟩:=HR0.out.cells
  have rl:=HR0.out.lt
  go_wp2_with fail
  refine (KC.out _ (bot2 HW.out HB0.out)).mono ?_
  rintro e w2 ⟨rfl,hb⟩
  replace HG0:=Lib.hid (HG0.out.below hb HG0.out.lt)
  replace HR0:=Lib.hid (HR0.out.below hb HR0.out.lt)
  replace HB0:=Lib.hid (bot2 HB0.out hb)
  clear g0 g1 gl r0 r1 r2 r3 rl
  have g0:w2.cell? ⟨w.heap.size,0,none⟩=some (.slice (some ⟨b,o,none⟩) N.length cap):=HG0.out.cell 0
  have g1:w2.cell? ⟨w.heap.size,1,none⟩=some (.int .i64 (t:Int)):=HG0.out.cell 1
  have gl:=HG0.out.lt
  obtain ⟨r0,r1,r2,r3⟩:=HR0.out.cells
  have rl:=HR0.out.lt
  clear hb
  go_wp2_with fail
  refine (KA.out _ (bot2 HW.out HB0.out)).mono ?_
  intro e w3 hA
  have hP:=AllP.of HB0.out HK.out hA
  obtain ⟨v,c,rfl⟩:=hP.two
  have HP:=Lib.hid hP
  clear hP hA
  go_wp2_with fail
  exact bodyPost_ret (v:=.tuple #[v,.int .i64 c]) (by simp [results,Tryz.results30,go_sem, *]) rfl HP.out
 ·have HK:=Lib.hid (evalok_no hG ht hc)
  clear hN hb0 hG hW
  generalize ceE (needsL R t).2 X Y W H=q at *
  have hb':(q != 0)=true:=by rw [bne_iff_ne];exact hc
  go_enter Tryz.func30,Tryz.ntmps30
  go_upto_region 1 with fail
  have b0:Below w.heap.size w ((w.alloc (.cells #[.slice (some ⟨b,o,none⟩) N.length cap,.int .i64 (t:Int)] 24)).alloc (.cells #[.int .i64 X,.int .i64 Y,.int .i64 W,.int .i64 H] 26)):=qBl
  have G0:=(Blk.new w #[.slice (some ⟨b,o,none⟩) N.length cap,.int .i64 (t:Int)] 24).alloc (.cells #[.int .i64 X,.int .i64 Y,.int .i64 W,.int .i64 H] 26)
  have R0:=Reg.new (w.alloc (.cells #[.slice (some ⟨b,o,none⟩) N.length cap,.int .i64 (t:Int)] 24)) X Y W H
  rw [show (w.alloc (.cells #[.slice (some ⟨b,o,none⟩) N.length cap,.int .i64 (t:Int)] 24)).heap.size=w.heap.size+1 from by simp] at R0
  generalize (w.alloc (.cells #[.slice (some ⟨b,o,none⟩) N.length cap,.int .i64 (t:Int)] 24)).alloc (.cells #[.int .i64 X,.int .i64 Y,.int .i64 W,.int .i64 H] 26)=W1 at *
  have HG0:=Lib.hid G0
  have HR0:=Lib.hid R0
  have HB0:=Lib.hid b0
  clear G0 R0 b0
  have g0:W1.cell? ⟨w.heap.size,0,none⟩=some (.slice (some ⟨b,o,none⟩) N.length cap):=HG0.out.cell 0
  have g1:W1.cell? ⟨w.heap.size,1,none⟩=some (.int .i64 (t:Int)):=HG0.out.cell 1
  have gl:=HG0.out.lt
  obtain ⟨r0,r1,r2,r3⟩:=HR0.out.cells
  have rl:=HR0.out.lt
  go_wp2_with fail
  refine (KC.out _ (bot2 HW.out HB0.out)).mono ?_
  rintro e w2 ⟨rfl,hb⟩
  replace HG0:=Lib.hid (HG0.out.below hb HG0.out.lt)
  replace HR0:=Lib.hid (HR0.out.below hb HR0.out.lt)
  replace HB0:=Lib.hid (bot2 HB0.out hb)
  clear g0 g1 gl r0 r1 r2 r3 rl
  have g0:w2.cell? ⟨w.heap.size,0,none⟩=some (.slice (some ⟨b,o,none⟩) N.length cap):=HG0.out.cell 0
  have g1:w2.cell? ⟨w.heap.size,1,none⟩=some (.int .i64 (t:Int)):=HG0.out.cell 1
  have gl:=HG0.out.lt
  obtain ⟨r0,r1,r2,r3⟩:=HR0.out.cells
  have rl:=HR0.out.lt
  clear hb
  go_wp2_with fail
  exact bodyPost_ret (v:=.tuple #[.slice none 0 0,.int .i64 q]) (by simp [results,Tryz.results30,go_sem, *]) rfl (.inr ⟨HK.out,q,hc,rfl,HB0.out⟩)
set_option maxRecDepth 100000 in
set_option maxHeartbeats 1000000 in
theorem all_yes (hN:NdRow W0 (some ⟨b,o,none⟩) N) (hb0:b<W0.heap.size) (hG:GrOk W0 N R) (ht:t<R.length) (KG:∀ w',Below W0.heap.size W0 w'→Calls Tryz.prog 29 #[.agg #[.slice (some ⟨b,o,none⟩) N.length cap,.int .i64 (t:Int)]] w' fun e w''=>e=.returned (.int .i64 0)∧Below w'.heap.size w' w'') (X Y:Int) (W H:Nat) (w:World) (hW:Below W0.heap.size W0 w) :
  Calls Tryz.prog 17 #[.agg #[.slice (some ⟨b,o,none⟩) N.length cap,.int .i64 (t:Int)],reg X Y W H] w (AllP R t X Y W H w):=by
 have KC:=Lib.hid KG
 have HW:=Lib.hid hW
 have KA:=Lib.hid (fun w h=>evaluated_walk (cap:=cap) hN hb0 hG ht X Y W H w h)
 clear hN hb0 hG hW KG
 go_enter Tryz.func17,Tryz.ntmps17
 go_upto_region 1 with fail
 have b0:Below w.heap.size w ((w.alloc (.cells #[.slice (some ⟨b,o,none⟩) N.length cap,.int .i64 (t:Int)] 24)).alloc (.cells #[.int .i64 X,.int .i64 Y,.int .i64 W,.int .i64 H] 26)):=qBl
 have G0:=(Blk.new w #[.slice (some ⟨b,o,none⟩) N.length cap,.int .i64 (t:Int)] 24).alloc (.cells #[.int .i64 X,.int .i64 Y,.int .i64 W,.int .i64 H] 26)
 have R0:=Reg.new (w.alloc (.cells #[.slice (some ⟨b,o,none⟩) N.length cap,.int .i64 (t:Int)] 24)) X Y W H
 rw [show (w.alloc (.cells #[.slice (some ⟨b,o,none⟩) N.length cap,.int .i64 (t:Int)] 24)).heap.size=w.heap.size+1 from by simp] at R0
 generalize (w.alloc (.cells #[.slice (some ⟨b,o,none⟩) N.length cap,.int .i64 (t:Int)] 24)).alloc (.cells #[.int .i64 X,.int .i64 Y,.int .i64 W,.int .i64 H] 26)=W1 at *
 have HG0:=Lib.hid G0
 have HR0:=Lib.hid R0
 have HB0:=Lib.hid b0
 clear G0 R0 b0
 have g0:W1.cell? ⟨w.heap.size,0,none⟩=some (.slice (some ⟨b,o,none⟩) N.length cap):=HG0.out.cell 0
 have g1:W1.cell? ⟨w.heap.size,1,none⟩=some (.int .i64 (t:Int)):=HG0.out.cell 1
 have gl:=HG0.out.lt
 obtain ⟨r0,r1,r2,r3⟩:=HR0.out.cells
 have rl:=HR0.out.lt
 go_wp2_with fail
 refine (KC.out _ (bot2 HW.out HB0.out)).mono ?_
 rintro e w2 ⟨rfl,hb⟩
 replace HG0:=Lib.hid (HG0.out.below hb HG0.out.lt)
 replace HR0:=Lib.hid (HR0.out.below hb HR0.out.lt)
 replace HB0:=Lib.hid (bot2 HB0.out hb)
 clear g0 g1 gl r0 r1 r2 r3 rl
 have g0:w2.cell? ⟨w.heap.size,0,none⟩=some (.slice (some ⟨b,o,none⟩) N.length cap):=HG0.out.cell 0
 have g1:w2.cell? ⟨w.heap.size,1,none⟩=some (.int .i64 (t:Int)):=HG0.out.cell 1
 have gl:=HG0.out.lt
 obtain ⟨r0,r1,r2,r3⟩:=HR0.out.cells
 have rl:=HR0.out.lt
 clear hb
 go_wp2_with fail
 refine (KA.out _ (bot2 HW.out HB0.out)).mono ?_
 intro e w3 hA
 have hP:=AllP.up HB0.out hA
 obtain ⟨v,c,rfl⟩:=hP.two
 have HP:=Lib.hid hP
 clear hP hA
 go_wp2_with fail
 exact bodyPost_ret (v:=.tuple #[v,.int .i64 c]) (by simp [results,Tryz.results17,go_sem, *]) rfl HP.out
end
def EvP (R:List Rn) (t:Nat) (X Y:Int) (W H:Nat) (w:World) (e:Ending) (w':World):Prop:=
 ∃ c:Int,(c=0 ↔ EvalOk R t X Y W H)∧OpP c X Y W H (gridL (valK R t) X Y W H) w e w'
theorem ev_boxes (w:World) (a:Option Addr) (n cap:Nat) (out X Y W H:Int):∀ W1,W1=((w.alloc (.cells #[.slice a n cap,.int .i64 out] 24)).alloc (.cells #[.int .i64 X,.int .i64 Y,.int .i64 W,.int .i64 H] 26)).alloc (.cells #[.int .i64 0,.int .i64 0,.int .i64 0,.int .i64 0,.slice none 0 0] 32) →
  Blk W1 w.heap.size #[.slice a n cap,.int .i64 out] 24∧Reg W1 (w.heap.size+1) X Y W H∧Fld W1 (w.heap.size+2) 0 0 0 0 (.slice none 0 0)∧Below w.heap.size w W1:=by
 rintro _ rfl
 refine ⟨((Blk.new _ _ _).alloc _).alloc _,?_,?_,qBl⟩
 ·have:=(Reg.new (w.alloc (.cells #[.slice a n cap,.int .i64 out] 24)) X Y W H).alloc (.cells #[.int .i64 0,.int .i64 0,.int .i64 0,.int .i64 0,.slice none 0 0] 32)
  simpa using this
 ·have:=Fld.new ((w.alloc (.cells #[.slice a n cap,.int .i64 out] 24)).alloc (.cells #[.int .i64 X,.int .i64 Y,.int .i64 W,.int .i64 H] 26)) 0 0 0 0 (.slice none 0 0)
  simpa using this
set_option maxRecDepth 100000 in
set_option maxHeartbeats 1000000 in
theorem all_no (a:Option Addr) (n cap:Nat) (out c:Int) (hc:c≠0) (X Y W H:Int) (W0 w:World) (hW:Below W0.heap.size W0 w)
  (KG:∀ w',Below W0.heap.size W0 w'→Calls Tryz.prog 29 #[.agg #[.slice a n cap,.int .i64 out]] w' fun e w''=>e=.returned (.int .i64 c)∧Below w'.heap.size w' w'') :
  Calls Tryz.prog 17 #[.agg #[.slice a n cap,.int .i64 out],reg X Y W H] w fun e w'=>e=.returned (.tuple #[.slice none 0 0,.int .i64 c])∧Below w.heap.size w w':=by
 have KC:=Lib.hid KG
 have HW:=Lib.hid hW
 have hb':(c != 0)=true:=by rw [bne_iff_ne];exact hc
 clear hW KG hc
 go_enter Tryz.func17,Tryz.ntmps17
 go_upto_region 1 with fail
 have b0:Below w.heap.size w ((w.alloc (.cells #[.slice a n cap,.int .i64 out] 24)).alloc (.cells #[.int .i64 X,.int .i64 Y,.int .i64 W,.int .i64 H] 26)):=qBl
 have G0:=(Blk.new w #[.slice a n cap,.int .i64 out] 24).alloc (.cells #[.int .i64 X,.int .i64 Y,.int .i64 W,.int .i64 H] 26)
 generalize (w.alloc (.cells #[.slice a n cap,.int .i64 out] 24)).alloc (.cells #[.int .i64 X,.int .i64 Y,.int .i64 W,.int .i64 H] 26)=W1 at *
 have g0:W1.cell? ⟨w.heap.size,0,none⟩=some (.slice a n cap):=G0.cell 0
 have g1:W1.cell? ⟨w.heap.size,1,none⟩=some (.int .i64 out):=G0.cell 1
 have gl:=G0.lt
 have HB0:=Lib.hid b0
 clear G0 b0
 go_wp2_with fail
 refine (KC.out _ (bot2 HW.out HB0.out)).mono ?_
 rintro e w2 ⟨rfl,hb⟩
 have HB2:=Lib.hid (bot2 HB0.out hb)
 clear hb
 go_wp2_with fail
 exact bodyPost_ret (v:=.tuple #[.slice none 0 0,.int .i64 c]) (by simp [results,Tryz.results17,go_sem, *]) rfl ⟨rfl,HB2.out⟩
set_option maxRecDepth 100000 in
set_option maxHeartbeats 1000000 in
theorem eval_no (a:Option Addr) (n cap:Nat) (out c:Int) (hc:c≠0) (X Y W H:Int) (W0 w:World) (hW:Below W0.heap.size W0 w)
  (KG:∀ w',Below W0.heap.size W0 w'→Calls Tryz.prog 29 #[.agg #[.slice a n cap,.int .i64 out]] w' fun e w''=>e=.returned (.int .i64 c)∧Below w'.heap.size w' w'') :
  Calls Tryz.prog 8 #[.agg #[.slice a n cap,.int .i64 out],reg X Y W H] w fun e w'=>e=.returned (.tuple #[fldV 0 0 0 0 none 0 0,.int .i64 c])∧Below w.heap.size w w':=by
 have KA:=Lib.hid (fun w h=>all_no a n cap out c hc X Y W H W0 w h KG)
 have HW:=Lib.hid hW
 have hb':(c != 0)=true:=by rw [bne_iff_ne];exact hc
 clear hW KG hc
 go_enter Tryz.func8,Tryz.ntmps8
 go_upto_region 1 with fail
 generalize hW1:((w.alloc (.cells #[.slice a n cap,.int .i64 out] 24)).alloc (.cells #[.int .i64 X,.int .i64 Y,.int .i64 W,.int .i64 H] 26)).alloc (.cells #[.int .i64 0,.int .i64 0,.int .i64 0,.int .i64 0,.slice none 0 0] 32)=W1 at *
 obtain ⟨hg,hr,hz,hb0⟩:=ev_boxes w a n cap out X Y W H W1 hW1.symm
 have HG0:=Lib.hid hg
 have HR0:=Lib.hid hr
 have HZ0:=Lib.hid hz
 have HB0:=Lib.hid hb0
 clear hW1 hg hr hz hb0
 have g0:W1.cell? ⟨w.heap.size,0,none⟩=some (.slice a n cap):=HG0.out.cell 0
 have g1:W1.cell? ⟨w.heap.size,1,none⟩=some (.int .i64 out):=HG0.out.cell 1
 have gl:=HG0.out.lt
 obtain ⟨r0,r1,r2,r3⟩:=HR0.out.cells
 have rl:=HR0.out.lt
 go_wp2_with fail
 refine (KA.out _ (bot2 HW.out HB0.out)).mono ?_
 rintro e w2 ⟨rfl,hb⟩
 replace HG0:=Lib.hid (HG0.out.below hb HG0.out.lt)
 replace HR0:=Lib.hid (HR0.out.below hb HR0.out.lt)
 have hlz:=HZ0.out.lt
 replace HZ0:=Lib.hid (HZ0.out.below hb HZ0.out.lt)
 replace HB0:=Lib.hid (bot2 HB0.out hb)
 clear g0 g1 gl r0 r1 r2 r3 rl
 have g0:w2.cell? ⟨w.heap.size,0,none⟩=some (.slice a n cap):=HG0.out.cell 0
 have g1:w2.cell? ⟨w.heap.size,1,none⟩=some (.int .i64 out):=HG0.out.cell 1
 have gl:=HG0.out.lt
 obtain ⟨r0,r1,r2,r3⟩:=HR0.out.cells
 have rl:=HR0.out.lt
 obtain ⟨d0,d1,d2,d3,d4⟩:=HZ0.out.cells
 have qf0:=HZ0.out.frozen 0
 have qf1:=HZ0.out.frozen 1
 have qf2:=HZ0.out.frozen 2
 have qf3:=HZ0.out.frozen 3
 have qf4:=HZ0.out.frozen 4
 have lz:=HZ0.out.lt
 clear hb
 clear HG0 HR0
 go_wp2_with fail
 generalize hW5:((((w2.setCell ⟨w.heap.size+2,0,none⟩ (.int .i64 0)).setCell ⟨w.heap.size+2,1,none⟩ (.int .i64 0)).setCell ⟨w.heap.size+2,2,none⟩ (.int .i64 0)).setCell ⟨w.heap.size+2,3,none⟩ (.int .i64 0)).setCell ⟨w.heap.size+2,4,none⟩ (.slice none 0 0)=W5 at *
 obtain ⟨f5,b5,_,_,z5⟩:=fld_store w2 (w.heap.size+2) 0 0 0 0 _ 0 0 0 0 (.slice none 0 0) HZ0.out W5 hW5.symm
 obtain ⟨z0,z1,z2,z3,z4⟩:=f5.cells
 have hb:=HB0.out.trans (b5.mono (by omega))
 clear f5 b5 d0 d1 d2 d3 d4 qf0 qf1 qf2 qf3 qf4 z5 hW5
 exact bodyPost_ret (v:=.tuple #[fldV 0 0 0 0 none 0 0,.int .i64 c]) (by simp [results,Tryz.results8,go_sem, *]) rfl ⟨rfl,hb⟩
set_option maxRecDepth 100000 in
set_option maxHeartbeats 1000000 in
theorem eval_yes {b o:Nat} {N:List Nd} {cap:Nat} {R:List Rn} {t:Nat} {W0:World} (hN:NdRow W0 (some ⟨b,o,none⟩) N) (hb0:b<W0.heap.size) (hG:GrOk W0 N R) (ht:t<R.length) (KG:∀ w',Below W0.heap.size W0 w'→Calls Tryz.prog 29 #[.agg #[.slice (some ⟨b,o,none⟩) N.length cap,.int .i64 (t:Int)]] w' fun e w''=>e=.returned (.int .i64 0)∧Below w'.heap.size w' w'') (X Y:Int) (W H:Nat) (w:World) (hW:Below W0.heap.size W0 w) :
  Calls Tryz.prog 8 #[.agg #[.slice (some ⟨b,o,none⟩) N.length cap,.int .i64 (t:Int)],reg X Y W H] w (EvP R t X Y W H w):=by
 have KA:=Lib.hid (fun w h=>all_yes hN hb0 hG ht KG X Y W H w h)
 have HW:=Lib.hid hW
 have htop:=(needs_ok hG.ok ht).top
 have htR:(t:Int)<(R.length:Int):=by omega
 clear hW KG hN hb0 hG
 generalize (some (Addr.mk b o none))=a at *
 generalize N.length=n at *
 generalize hout:(t:Int)=out at *
 go_enter Tryz.func8,Tryz.ntmps8
 go_upto_region 1 with fail
 generalize hW1:((w.alloc (.cells #[.slice a n cap,.int .i64 out] 24)).alloc (.cells #[.int .i64 X,.int .i64 Y,.int .i64 W,.int .i64 H] 26)).alloc (.cells #[.int .i64 0,.int .i64 0,.int .i64 0,.int .i64 0,.slice none 0 0] 32)=W1 at *
 obtain ⟨hg,hr,hz,hb0⟩:=ev_boxes w a n cap out X Y W H W1 hW1.symm
 have HG0:=Lib.hid hg
 have HR0:=Lib.hid hr
 have HZ0:=Lib.hid hz
 have HB0:=Lib.hid hb0
 clear hW1 hg hr hz hb0
 have g0:W1.cell? ⟨w.heap.size,0,none⟩=some (.slice a n cap):=HG0.out.cell 0
 have g1:W1.cell? ⟨w.heap.size,1,none⟩=some (.int .i64 out):=HG0.out.cell 1
 have gl:=HG0.out.lt
 obtain ⟨r0,r1,r2,r3⟩:=HR0.out.cells
 have rl:=HR0.out.lt
 go_wp2_with fail
 refine (KA.out _ (bot2 HW.out HB0.out)).mono ?_
 intro e w2 hA
 rcases hA with ⟨hk,go,cp,fo,rfl,hf,⟨w1,a1,n1,cp2,out1,gn,hz,hA⟩,hb⟩|⟨hk,c,hc,rfl,hb⟩
 ·replace HG0:=Lib.hid (HG0.out.below hb HG0.out.lt)
  replace HR0:=Lib.hid (HR0.out.below hb HR0.out.lt)
  have hlz:=HZ0.out.lt
  replace HZ0:=Lib.hid (HZ0.out.below hb HZ0.out.lt)
  replace HB0:=Lib.hid (bot2 HB0.out hb)
  clear g0 g1 gl r0 r1 r2 r3 rl
  have g0:w2.cell? ⟨w.heap.size,0,none⟩=some (.slice a n cap):=HG0.out.cell 0
  have g1:w2.cell? ⟨w.heap.size,1,none⟩=some (.int .i64 out):=HG0.out.cell 1
  have gl:=HG0.out.lt
  obtain ⟨r0,r1,r2,r3⟩:=HR0.out.cells
  have rl:=HR0.out.lt
  obtain ⟨d0,d1,d2,d3,d4⟩:=HZ0.out.cells
  have qf0:=HZ0.out.frozen 0
  have qf1:=HZ0.out.frozen 1
  have qf2:=HZ0.out.frozen 2
  have qf3:=HZ0.out.frozen 3
  have qf4:=HZ0.out.frozen 4
  have lz:=HZ0.out.lt
  clear hb
  obtain ⟨p,hp,px,py,pw,ph,pl,pr⟩:=hf.2 t ht 0 (by rw [htop];rfl)
  simp only [Int.natCast_zero,Int.sub_zero,Nat.mul_zero,Nat.add_zero] at px py pw ph pl pr
  obtain ⟨pX,pY,pW,pH,pg,pc,pL⟩:=p
  simp only at px py pw ph pl
  subst px py pw ph pl
  obtain ⟨e0,e1,e2,e3,e4⟩:=hA.fld hp
  have hor:=(hA.rows _ (List.mem_of_getElem? hp)).2
  simp only at hor e0 e1 e2 e3 e4
  have hng:pg≠w.heap.size+2:=by have:=hor.lt.1;omega
  have HOR:=Lib.hid hor
  have hwz:w.heap.size≤w1.heap.size:=by have:=HB0.out.size;omega
  have lgo:=hA.ou.lt
  subst hout
  clear hor hp pr hf hA htop
  clear HG0 HR0
  generalize hgl:gridL (valK R t) pX pY pW pH=gl at *
  go_wp2_with fail
  generalize hW5:((((w2.setCell ⟨w.heap.size+2,0,none⟩ (.int .i64 pX)).setCell ⟨w.heap.size+2,1,none⟩ (.int .i64 pY)).setCell ⟨w.heap.size+2,2,none⟩ (.int .i64 (pW:Int))).setCell ⟨w.heap.size+2,3,none⟩ (.int .i64 (pH:Int))).setCell ⟨w.heap.size+2,4,none⟩ (.slice (some ⟨pg,0,none⟩) gl.length pc)=W5 at *
  obtain ⟨f5,b5,oo5,_,z5⟩:=fld_store w2 (w.heap.size+2) 0 0 0 0 _ pX pY pW pH (.slice (some ⟨pg,0,none⟩) gl.length pc) HZ0.out W5 hW5.symm
  have ho5:=(oo5 _ _ _ _ HOR.out hng).base hwz
  obtain ⟨z0,z1,z2,z3,z4⟩:=f5.cells
  have hb:=HB0.out.trans (b5.mono (by omega))
  clear f5 b5 oo5 d0 d1 d2 d3 d4 qf0 qf1 qf2 qf3 qf4 z5 hW5 e0 e1 e2 e3 e4
  exact bodyPost_ret (v:=.tuple #[fldV pX pY pW pH (some ⟨pg,0,none⟩) gl.length pc,.int .i64 0]) (by simp [results,Tryz.results8,go_sem, *]) rfl (by unfold EvP;rw [hgl];exact ⟨0,⟨fun _=>hk,fun _=>rfl⟩,⟨_,_,_,_,_,_,_,rfl,.inr ⟨rfl,rfl,rfl,rfl,rfl,pg,rfl,rfl,ho5⟩⟩,hb⟩)
 ·replace HG0:=Lib.hid (HG0.out.below hb HG0.out.lt)
  replace HR0:=Lib.hid (HR0.out.below hb HR0.out.lt)
  have hlz:=HZ0.out.lt
  replace HZ0:=Lib.hid (HZ0.out.below hb HZ0.out.lt)
  replace HB0:=Lib.hid (bot2 HB0.out hb)
  clear g0 g1 gl r0 r1 r2 r3 rl
  have g0:w2.cell? ⟨w.heap.size,0,none⟩=some (.slice a n cap):=HG0.out.cell 0
  have g1:w2.cell? ⟨w.heap.size,1,none⟩=some (.int .i64 out):=HG0.out.cell 1
  have gl:=HG0.out.lt
  obtain ⟨r0,r1,r2,r3⟩:=HR0.out.cells
  have rl:=HR0.out.lt
  obtain ⟨d0,d1,d2,d3,d4⟩:=HZ0.out.cells
  have qf0:=HZ0.out.frozen 0
  have qf1:=HZ0.out.frozen 1
  have qf2:=HZ0.out.frozen 2
  have qf3:=HZ0.out.frozen 3
  have qf4:=HZ0.out.frozen 4
  have lz:=HZ0.out.lt
  clear hb
  have hb':(c != 0)=true:=by rw [bne_iff_ne];exact hc
  clear HG0 HR0
  go_wp2_with fail
  generalize hW5:((((w2.setCell ⟨w.heap.size+2,0,none⟩ (.int .i64 0)).setCell ⟨w.heap.size+2,1,none⟩ (.int .i64 0)).setCell ⟨w.heap.size+2,2,none⟩ (.int .i64 0)).setCell ⟨w.heap.size+2,3,none⟩ (.int .i64 0)).setCell ⟨w.heap.size+2,4,none⟩ (.slice none 0 0)=W5 at *
  obtain ⟨f5,b5,_,_,z5⟩:=fld_store w2 (w.heap.size+2) 0 0 0 0 _ 0 0 0 0 (.slice none 0 0) HZ0.out W5 hW5.symm
  obtain ⟨z0,z1,z2,z3,z4⟩:=f5.cells
  have hb:=HB0.out.trans (b5.mono (by omega))
  clear f5 b5 d0 d1 d2 d3 d4 qf0 qf1 qf2 qf3 qf4 z5 hW5
  exact bodyPost_ret (v:=.tuple #[fldV 0 0 0 0 none 0 0,.int .i64 c]) (by simp [results,Tryz.results8,go_sem, *]) rfl ⟨c,⟨fun h=>absurd h hc,fun h=>absurd h hk⟩,OpP.err hc rfl hb⟩
theorem eval_any {a:Option Addr} {N:List Nd} {cap:Nat} {out:Int} {W0:World} (hN:NdRow W0 a N) (hd:∀ d∈N,NdIn W0 d) :
  (∃ c:Int,c≠0∧∀ X Y W H w,Below W0.heap.size W0 w→Calls Tryz.prog 8 #[.agg #[.slice a N.length cap,.int .i64 out],reg X Y W H] w fun e w'=>e=.returned (.tuple #[fldV 0 0 0 0 none 0 0,.int .i64 c])∧Below w.heap.size w w') ∨
  (∃ R t,RnOk R∧t<R.length∧∀ X Y (W H:Nat) w,Below W0.heap.size W0 w→Calls Tryz.prog 8 #[.agg #[.slice a N.length cap,.int .i64 out],reg X Y W H] w (EvP R t X Y W H w)):=by
 obtain ⟨c,KG,hc⟩:=checkgraph_any a N cap out W0 hN hd
 by_cases h0:c=0
 ·subst h0
  obtain ⟨R,t,hG,rfl,ht⟩:=hc rfl
  right
  obtain ⟨b,o,hs⟩:=hN.four
  obtain ⟨rfl,hlb⟩:=hs (by have:=hG.n1;intro h;rw [h] at this;simp at this)
  exact ⟨R,t,hG.ok,ht,fun X Y W H w hW=>eval_yes hN hlb hG ht KG X Y W H w hW⟩
 ·exact .inl ⟨c,h0,fun X Y W H w hW=>eval_no a N.length cap out c h0 X Y W H W0 w hW KG⟩
theorem box_fr (w:World) (X Y W H:Int) (v:Value) (P Q A B:Int):∀ W0,W0=((w.alloc (.cells #[.int .i64 X,.int .i64 Y,.int .i64 W,.int .i64 H,v] 32)).alloc (.cells #[.int .i64 P,.int .i64 Q,.int .i64 A,.int .i64 B] 26)).alloc (.cells #[.int .i64 0,.int .i64 0,.int .i64 0,.int .i64 0,.slice none 0 0] 32) →
  Fld W0 w.heap.size X Y W H v∧Reg W0 (w.heap.size+1) P Q A B∧Fld W0 (w.heap.size+1+1) 0 0 0 0 (.slice none 0 0)∧Below w.heap.size w W0:=by
 rintro _ rfl
 refine ⟨((Fld.new w X Y W H v).alloc _).alloc _,?_,?_,qBl⟩
 ·have:=(Reg.new (w.alloc (.cells #[.int .i64 X,.int .i64 Y,.int .i64 W,.int .i64 H,v] 32)) P Q A B).alloc (.cells #[.int .i64 0,.int .i64 0,.int .i64 0,.int .i64 0,.slice none 0 0] 32)
  simpa using this
 ·have:=Fld.new ((w.alloc (.cells #[.int .i64 X,.int .i64 Y,.int .i64 W,.int .i64 H,v] 32)).alloc (.cells #[.int .i64 P,.int .i64 Q,.int .i64 A,.int .i64 B] 26)) 0 0 0 0 (.slice none 0 0)
  simpa using this
theorem insB_parts {a b c d e f g h:Int} (hh:insB a b c d e f g h=true):e≤a∧f≤b∧a+c≤e+g∧b+d≤f+h:=by
 unfold insB at hh
 simp at hh
 omega
theorem NewF.outv {B:Nat} {X Y W H:Int} {m:List Nat} {w:World} {e:Ending} {w':World} (hB:B=w.heap.size) (h:NewF B X Y W H m w e w'):(∃ x y p q a n k,e=.returned (fldV x y p q a n k)∧OutV 0 X Y W H m w' w.heap.size x y p q a n k)∧Below w.heap.size w w':=by
 subst hB
 obtain ⟨g,cap,he,ho,hb⟩:=h
 exact ⟨⟨X,Y,W,H,_,_,cap,he,.inr ⟨rfl,rfl,rfl,rfl,rfl,g,rfl,rfl,ho⟩⟩,hb⟩
set_option maxRecDepth 100000 in
set_option maxHeartbeats 1000000 in
theorem cut_ok (X Y:Int) (Wn Hn:Nat) (b o c:Nat) (l:List Nat) (P Q:Int) (A B:Nat) (w:World) (hl:SRow w (some ⟨b,o,none⟩) l) (hcap:l.length≤c) (hr:Right X Y Wn Hn l) (hz:chk P Q A B=0) (hi:insB P Q A B X Y Wn Hn=true) :
  Calls Tryz.prog 14 #[fldV X Y Wn Hn (some ⟨b,o,none⟩) l.length c,reg P Q A B] w fun e w'=>OpP 0 P Q A B (cutL l X Y Wn P Q A (B*A)) w e w':=by
 have K:=Lib.hid (fun w hl=>check_field X Y Wn Hn (some ⟨b,o,none⟩) c l w hl)
 rw [hr.chk] at K
 have KC:=Lib.hid (fun w=>check1 P Q A B w)
 rw [hz] at KC
 obtain ⟨c1,c2,c3,c4,c5,c6,c7,c8,_⟩:=chk_zero hz
 have r1:=hr.w1;have r2:=hr.w2;have r3:=hr.h1;have r4:=hr.h2;have r5:=hr.x1;have r6:=hr.x2;have r7:=hr.y1;have r8:=hr.y2
 have KI:=Lib.hid (fun w=>inside1 P Q A B X Y Wn Hn w (by omega) (by omega) (by omega) (by omega) (by omega) (by omega) (by omega) (by omega) (by omega) (by omega) (by omega) (by omega) (by omega) (by omega) (by omega) (by omega))
 rw [hi] at KI
 obtain ⟨i1,i2,i3,i4⟩:=insB_parts hi
 have KM:=Lib.hid (fun w (hl:SRow w (some ⟨b,o,none⟩) l)=>(part_any X Y Wn Hn b o c l P Q A B w hl hcap hr (by omega) (by omega) i1 i3 i2 i4).mono fun e w' h=>NewF.outv rfl h)
 have HL:=Lib.hid hl
 clear hl hr hz hi c1 c2 c3 c4 c5 c6 c7 c8 r1 r2 r3 r4 r5 r6 r7 r8 i1 i2 i3 i4 hcap
 generalize cutL l X Y Wn P Q A (B*A)=S at *
 go_enter Tryz.func14,Tryz.ntmps14
 have HLW:=Lib.hid HL.out
 go_wp2_with fail
 generalize hW0:((w.alloc (.cells #[.int .i64 X,.int .i64 Y,.int .i64 Wn,.int .i64 Hn,.slice (some ⟨b,o,none⟩) l.length c] 32)).alloc (.cells #[.int .i64 P,.int .i64 Q,.int .i64 (A:Int),.int .i64 (B:Int)] 26)).alloc (.cells #[.int .i64 0,.int .i64 0,.int .i64 0,.int .i64 0,.slice none 0 0] 32)=W0 at *
 obtain ⟨E0,P0,F0,B0⟩:=box_fr w X Y Wn Hn (.slice (some ⟨b,o,none⟩) l.length c) P Q (A:Int) (B:Int) W0 hW0.symm
 clear hW0
 refine (K.out _ (HL.out.below B0)).mono ?_
 rintro e w1 ⟨rfl,b1⟩
 have HE1:=Lib.hid (E0.below b1 E0.lt)
 have HP1:=Lib.hid (P0.below b1 P0.lt)
 have HF1:=Lib.hid (F0.below b1 F0.lt)
 have HB1:=Lib.hid (B0.trans (b1.mono B0.size))
 clear b1 B0 F0 E0 P0 K
 obtain ⟨p0,p1,p2,p3⟩:=HP1.out.cells
 have l1:=HP1.out.lt
 go_wp2_with fail
 refine (KC.out _).mono ?_
 rintro e w2 ⟨rfl,b2⟩
 have HE2:=Lib.hid (HE1.out.below b2 HE1.out.lt)
 have HP2:=Lib.hid (HP1.out.below b2 HP1.out.lt)
 have HF2:=Lib.hid (HF1.out.below b2 HF1.out.lt)
 have HB2:=Lib.hid (HB1.out.trans (b2.mono HB1.out.size))
 clear b2 p0 p1 p2 p3 l1 HE1 HP1 HF1 HB1 KC
 obtain ⟨p0,p1,p2,p3⟩:=HP2.out.cells
 have l1:=HP2.out.lt
 obtain ⟨f0,f1,f2,f3,f4⟩:=HE2.out.cells
 have l0:=HE2.out.lt
 go_wp2_with fail
 refine (KI.out _).mono ?_
 rintro e w3 ⟨rfl,b3⟩
 have HE3:=Lib.hid (HE2.out.below b3 HE2.out.lt)
 have HP3:=Lib.hid (HP2.out.below b3 HP2.out.lt)
 have HF3:=Lib.hid (HF2.out.below b3 HF2.out.lt)
 have HB3:=Lib.hid (HB2.out.trans (b3.mono HB2.out.size))
 clear b3 p0 p1 p2 p3 l1 l0 f0 f1 f2 f3 f4 HE2 HP2 HF2 HB2 KI
 obtain ⟨p0,p1,p2,p3⟩:=HP3.out.cells
 have l1:=HP3.out.lt
 obtain ⟨f0,f1,f2,f3,f4⟩:=HE3.out.cells
 have l0:=HE3.out.lt
 go_wp2_with fail
 refine (KM.out _ (HLW.out.below HB3.out)).mono ?_
 rintro e w7 ⟨⟨x,y,p,q,a,m,k,rfl,o7⟩,b7⟩
 have HOZ:=Lib.hid o7
 have HFZ:=Lib.hid (HF3.out.below b7 HF3.out.lt)
 have HBZ:=Lib.hid (HB3.out.trans (b7.mono HB3.out.size))
 have HZB:Hid (w.heap.size+1+1<w3.heap.size):=HF3.out.lt
 have HBB:Hid (w.heap.size≤w3.heap.size):=HB3.out.size
 clear o7 b7 KM HE3 HP3 HF3 HB3 p0 p1 p2 p3 l1 f0 f1 f2 f3 f4 l0
 obtain ⟨d0,d1,d2,d3,d4⟩:=HFZ.out.cells
 have qf0:=HFZ.out.frozen 0
 have qf1:=HFZ.out.frozen 1
 have qf2:=HFZ.out.frozen 2
 have qf3:=HFZ.out.frozen 3
 have qf4:=HFZ.out.frozen 4
 have lz:=HFZ.out.lt
 go_wp2_with fail
 generalize hW5:((((w7.setCell ⟨w.heap.size+1+1,0,none⟩ (.int .i64 x)).setCell ⟨w.heap.size+1+1,1,none⟩ (.int .i64 y)).setCell ⟨w.heap.size+1+1,2,none⟩ (.int .i64 p)).setCell ⟨w.heap.size+1+1,3,none⟩ (.int .i64 q)).setCell ⟨w.heap.size+1+1,4,none⟩ (.slice a m k)=W5 at *
 obtain ⟨f5,bb5,oo5,_,z5⟩:=fld_store w7 (w.heap.size+1+1) 0 0 0 0 _ x y p q (.slice a m k) HFZ.out W5 hW5.symm
 have hO5:=(HOZ.out.set oo5 HZB.out).base HBB.out
 have hB5:=HBZ.out.trans (bb5.mono (by omega))
 clear d0 d1 d2 d3 d4 qf0 qf1 qf2 qf3 qf4 hW5 oo5
 obtain ⟨d0,d1,d2,d3,d4⟩:=f5.cells
 exact bodyPost_ret (v:=.tuple #[fldV x y p q a m k,.int .i64 0]) (by simp [results,Tryz.results14,go_sem, *]) rfl ⟨⟨x,y,p,q,a,m,k,rfl,hO5⟩,hB5⟩
theorem refcutfn_any (X Y:Int) (Wn Hn:Nat) (b o c q:Nat) (l:List Nat) (x y:Int) (w:World) (hl:SRow w (some ⟨b,o,none⟩) l) (hr:Right X Y Wn Hn l) (h1:X≤x) (h2:x<X+Wn) (h3:Y≤y) (h4:y<Y+Hn) (hq:Fld w q X Y Wn Hn (.slice (some ⟨b,o,none⟩) l.length c)) :
  Calls Tryz.prog 22 #[.int .i64 x,.int .i64 y,.pointer (some ⟨q,0,none⟩)] w fun e w'=>e=.returned (.float .f32 (cutV l X Y Wn x y))∧Below w.heap.size w w':=by
 have KA:=Lib.hid (fun w hl=>at_right X Y Wn Hn x y b o c l w hl hr h1 h2 h3 h4)
 have HL:=Lib.hid hl
 unfold cutV
 generalize l.getD (cellNo X Y Wn x y).toNat 0=v at *
 obtain ⟨f0,f1,f2,f3,f4⟩:=hq.cells
 have l0:=hq.lt
 clear hl hr h1 h2 h3 h4 hq
 go_enter Tryz.func22,Tryz.ntmps22
 go_wp2_with fail
 refine (KA.out _ HL.out).mono ?_
 rintro e w1 ⟨rfl,b1⟩
 go_wp2_with fail
 go_ret
 exact ⟨rfl,b1⟩
theorem cutV_lt {X Y:Int} {Wn Hn:Nat} {l:List Nat} {w:World} {a:Option Addr} (hl:SRow w a l) (x y:Int):cutV l X Y Wn x y<4294967296:=by
 unfold cutV
 rw [List.getD_eq_getElem?_getD]
 cases h:l[(cellNo X Y Wn x y).toNat]? with
 | none=>simp
 | some v=>exact hl.1.2 v (List.mem_of_getElem? h)
theorem cutL_ht {X Y:Int} {Wn Hn:Nat} {l:List Nat} (hr:Right X Y Wn Hn l) (P Q:Int) (A n:Nat):resC (cutL l X Y Wn P Q A n)=0:=by
 unfold resC
 rw [if_pos]
 refine Ieee.Format.allHt_iff.2 fun x hx=>?_
 unfold cutL madeL at hx
 obtain ⟨k,_,rfl⟩:=List.mem_map.1 hx
 exact hr.getD _
def OneP (X Y W H:Int) (m:List Nat) (w:World) (e:Ending) (w':World):Prop:=
 (∃ x y p q a n k,e=.returned (fldV x y p q a n k)∧OutV 0 X Y W H m w' w.heap.size x y p q a n k)∧Below w.heap.size w w'
set_option maxRecDepth 100000 in
set_option maxHeartbeats 1000000 in
theorem refcut_ok (X Y:Int) (Wn Hn:Nat) (b o c:Nat) (l:List Nat) (P Q:Int) (A B:Nat) (w:World) (hl:SRow w (some ⟨b,o,none⟩) l) (hr:Right X Y Wn Hn l) (hz:chk P Q A B=0) (hi:insB P Q A B X Y Wn Hn=true) :
  Calls Tryz.prog 10 #[fldV X Y Wn Hn (some ⟨b,o,none⟩) l.length c,reg P Q A B] w fun e w'=>OneP P Q A B (cutL l X Y Wn P Q A (B*A)) w e w':=by
 obtain ⟨c1,c2,c3,c4,c5,c6,c7,c8,_⟩:=chk_zero hz
 obtain ⟨i1,i2,i3,i4⟩:=insB_parts hi
 have KM:Hid (∀ q w (hl:SRow w (some ⟨b,o,none⟩) l) (hq:Fld w q X Y Wn Hn (.slice (some ⟨b,o,none⟩) l.length c)),Calls Tryz.prog 21 #[reg P Q A B,.func (.func 22) #[] #[.pointer (some ⟨q,0,none⟩)]] w fun e w'=>OpP 0 P Q A B (cutL l X Y Wn P Q A (B*A)) w e w'):=by
  intro q w hl hq
  have:=made_any 22 #[.pointer (some ⟨q,0,none⟩)] (cutV l X Y Wn) P Q A B w (by omega) (by omega) (by omega) (by omega) (by omega) (by omega) (by omega) (by omega) (enters_of Tryz.func22 (by kernel_rfl) rfl) (fun x y _ _ _ _=>cutV_lt (Hn:=Hn) hl x y) (fun x y _ _ _ _ W' hb'=>refcutfn_any X Y Wn Hn b o c q l x y W' (SRow.below hl hb') hr (by omega) (by omega) (by omega) (by omega) (hq.below hb' hq.lt))
  have e:=cutL_ht hr P Q A (B*A)
  refine this.mono fun e' w' h=>?_
  have h2:=h.res.op
  unfold resC at e
  change OpP (if allHt (cutL l X Y Wn P Q A (B*A))=true then 0 else 3) P Q A B (cutL l X Y Wn P Q A (B*A)) w e' w' at h2
  rw [e] at h2
  exact h2
 have HL:=Lib.hid hl
 clear hl hr hz hi c1 c2 c3 c4 c5 c6 c7 c8 i1 i2 i3 i4
 generalize cutL l X Y Wn P Q A (B*A)=S at *
 go_enter Tryz.func10,Tryz.ntmps10
 go_wp2_with fail
 generalize hW0:((w.alloc (.cells #[.int .i64 X,.int .i64 Y,.int .i64 Wn,.int .i64 Hn,.slice (some ⟨b,o,none⟩) l.length c] 32)).alloc (.cells #[.int .i64 P,.int .i64 Q,.int .i64 (A:Int),.int .i64 (B:Int)] 26)).alloc (.cells #[.int .i64 0,.int .i64 0,.int .i64 0,.int .i64 0,.slice none 0 0] 32)=W0 at *
 obtain ⟨E0,P0,F0,B0⟩:=box_fr w X Y Wn Hn (.slice (some ⟨b,o,none⟩) l.length c) P Q A B W0 hW0.symm
 clear hW0
 obtain ⟨p0,p1,p2,p3⟩:=P0.cells
 refine (KM.out _ _ (HL.out.below B0) E0).mono ?_
 rintro e w7 ⟨⟨x,y,p,q,a,m,k,rfl,o7⟩,b7⟩
 have HOZ:=Lib.hid o7
 have HFZ:=Lib.hid (F0.below b7 F0.lt)
 have HBZ:=Lib.hid (B0.trans (b7.mono B0.size))
 have HZB:Hid (w.heap.size+1+1<W0.heap.size):=F0.lt
 have HBB:Hid (w.heap.size≤W0.heap.size):=B0.size
 clear o7 b7 KM E0 P0 F0 B0 p0 p1 p2 p3
 obtain ⟨d0,d1,d2,d3,d4⟩:=HFZ.out.cells
 have qf0:=HFZ.out.frozen 0
 have qf1:=HFZ.out.frozen 1
 have qf2:=HFZ.out.frozen 2
 have qf3:=HFZ.out.frozen 3
 have qf4:=HFZ.out.frozen 4
 have lz:=HFZ.out.lt
 go_wp2_with fail
 generalize hW5:((((w7.setCell ⟨w.heap.size+1+1,0,none⟩ (.int .i64 x)).setCell ⟨w.heap.size+1+1,1,none⟩ (.int .i64 y)).setCell ⟨w.heap.size+1+1,2,none⟩ (.int .i64 p)).setCell ⟨w.heap.size+1+1,3,none⟩ (.int .i64 q)).setCell ⟨w.heap.size+1+1,4,none⟩ (.slice a m k)=W5 at *
 obtain ⟨f5,bb5,oo5,_,z5⟩:=fld_store w7 (w.heap.size+1+1) 0 0 0 0 _ x y p q (.slice a m k) HFZ.out W5 hW5.symm
 have hO5:=(HOZ.out.set oo5 HZB.out).base HBB.out
 have hB5:=HBZ.out.trans (bb5.mono (by omega))
 clear d0 d1 d2 d3 d4 qf0 qf1 qf2 qf3 qf4 hW5 oo5
 have BA:Below W5.heap.size W5 (W5.alloc (.cells #[.int .i64 x,.int .i64 y,.int .i64 p,.int .i64 q,.slice a m k] 32)):=(Below.refl _ _).alloc (Nat.le_refl _) _
 have hO6:=hO5.below BA
 have hB6:=hB5.trans (BA.mono hB5.size)
 have f6:=f5.below BA f5.lt
 generalize W5.alloc (.cells #[.int .i64 x,.int .i64 y,.int .i64 p,.int .i64 q,.slice a m k] 32)=W6 at *
 obtain ⟨d0,d1,d2,d3,d4⟩:=f6.cells
 exact bodyPost_ret (v:=fldV x y p q a m k) (by simp [results,Tryz.results10,go_sem, *]) rfl ⟨⟨x,y,p,q,a,m,k,rfl,hO6⟩,hB6⟩
def smB (X Y W H X' Y' W' H':Int) (l m:List Nat):Bool:=decide (X=X'∧Y=Y'∧W=W'∧H=H') && decide (l=m)
set_option maxHeartbeats 1000000 in
theorem refsame_any (X Y W H:Int) (b o c:Nat) (l:List Nat) (X' Y' W' H':Int) (b' o' c':Nat) (m:List Nat) (w:World) (hl:SRow w (some ⟨b,o,none⟩) l) (hm:SRow w (some ⟨b',o',none⟩) m) :
  Calls Tryz.prog 9 #[fldV X Y W H (some ⟨b,o,none⟩) l.length c,fldV X' Y' W' H' (some ⟨b',o',none⟩) m.length c'] w fun e w'=>e=.returned (.bool (smB X Y W H X' Y' W' H' l m))∧Below w.heap.size w w':=by
 have HL:=Lib.hid hl
 have HM:=Lib.hid hm
 clear hl hm
 have hA:Below w.heap.size w ((w.alloc (.cells #[.int .i64 X,.int .i64 Y,.int .i64 W,.int .i64 H,.slice (some ⟨b,o,none⟩) l.length c] 32)).alloc (.cells #[.int .i64 X',.int .i64 Y',.int .i64 W',.int .i64 H',.slice (some ⟨b',o',none⟩) m.length c'] 32)):=qBl
 have HA:=Lib.hid hA
 clear hA
 by_cases hr:X=X'∧Y=Y'∧W=W'∧H=H'
 ·obtain ⟨rfl,rfl,rfl,rfl⟩:=hr
  have hv:smB X Y W H X Y W H l m=decide (l=m):=by unfold smB;simp
  rw [hv]
  clear hv
  have KE:=Lib.hid (fun W h1 h2=>eqfunc_any b o c b' o' c' l m W h1 h2)
  generalize decide (l=m)=r at *
  have kn:=fun w=>eqlReg X Y W H X Y W H w
  have kg:=fun x y w=>eqGuardReg .eql x y X Y W H X Y W H w
  go_enter Tryz.func9,Tryz.ntmps9
  go_wp2_with fail
  refine (KE.out _ (HL.out.below HA.out) (HM.out.below HA.out)).mono ?_
  rintro e w1 ⟨rfl,rfl⟩
  go_wp2_with fail
  go_ret
  exact ⟨rfl,HA.out⟩
 ·have hv:smB X Y W H X' Y' W' H' l m=false:=by unfold smB;simp only [hr];simp
  rw [hv]
  clear hv
  have hb:(X == X' && Y == Y' && W == W' && H == H')=false:=by
   rw [Bool.eq_false_iff]
   intro h
   simp only [Bool.and_eq_true,beq_iff_eq] at h
   exact hr ⟨h.1.1.1,h.1.1.2,h.1.2,h.2⟩
  have kn:=fun w=>eqlReg X Y W H X' Y' W' H' w
  rw [hb] at kn
  have kg:=fun x y w=>eqGuardReg .eql x y X Y W H X' Y' W' H' w
  clear hr hb
  go_enter Tryz.func9,Tryz.ntmps9
  go_wp2_with fail
  go_ret
  exact ⟨rfl,HA.out⟩
theorem landedtop_bel (w:World):Calls Tryz.prog 11 #[] w fun e w'=>e=.returned (.bool true)∧Below w.heap.size w w':=by
 go_enter Tryz.func11,Tryz.ntmps11
 go_wp2
 go_ret
 exact ⟨rfl,qBl⟩
theorem bitsfnT_any (a b:Nat) (w:World):Calls Tryz.prog 27 #[.float .f32 a,.float .f32 b] w fun e w'=>e=.returned (.bool (decide (a=b)))∧w=w':=by
 have ka:=fun w=>run_f32bits a w
 have kb:=fun w=>run_f32bits b w
 go_enter Tryz.func27,Tryz.ntmps27
 go_wp2
 go_ret
 exact ⟨congrArg (fun b=>Ending.returned (.bool b)) (beq_cast a b),rfl⟩
set_option maxHeartbeats 1000000 in
theorem eqfuncT_any (b o c b' o' c':Nat) (l m:List Nat) (w:World) (hl:SRow w (some ⟨b,o,none⟩) l) (hm:SRow w (some ⟨b',o',none⟩) m) :
  Calls Tryz.prog 18 #[.slice (some ⟨b,o,none⟩) l.length c,.slice (some ⟨b',o',none⟩) m.length c',.func (.func 27) #[] #[]] w fun e w'=>e=.returned (.bool (decide (l=m)))∧w=w':=by
 have HL:=Lib.hid hl
 have HM:=Lib.hid hm
 have l1:=hl.1.1
 have l2:=hm.1.1
 clear hl hm
 by_cases hn:l.length=m.length
 ·have HN:=Lib.hid hn
  have hb:((l.length:Int) != (m.length:Int))=false:=by rw [bne_eq_false_iff_eq];omega
  have HR:Hid (∀ r,r=decide (l=m)→Ending.returned (.bool r)=.returned (.bool (decide (l=m)))):=fun r hr=>by rw [hr]
  have hgl:m.length≤l.length:=by omega
  have hgm:l.length≤m.length:=by omega
  clear hn
  go_enter Tryz.func18,Tryz.ntmps18
  go_wp2
  go_loop [7,8,9,17] (fun _ _ _ i=>∃ k:Nat,k≤l.length∧i=.int .i64 k∧∀ j,j<k→l.getD j 0=m.getD j 0) (fun _ _ _ i=>l.length-(intOf i).toNat)
  case atStart=>exact ⟨0,by omega,rfl,by omega⟩
  case round =>
   obtain ⟨k,hk,rfl,hf⟩:=hrel
   have HF:=Lib.hid hf
   clear hf
   by_cases hlt:k<l.length
   ·have hlt2:k<m.length:=by omega
    have hc1:=HL.out.at_ hlt
    have hc2:=HM.out.at_ hlt2
    by_cases hx:l.getD k 0=m.getD k 0
    ·have HE:Hid (∀ j,j<k+1→l.getD j 0=m.getD j 0):=by
      have HX:=hx
      intro j hj
      by_cases c:j=k
      ·subst c;exact HX
      ·exact HF.out j (by omega)
     rw [←hx] at hc2
     clear hx
     generalize l.getD k 0=x at *
     have KB:=Lib.hid (fun w=>bitsfnT_any x x w)
     rw [show decide (x=x)=true from decide_eq_true rfl] at KB
     go_wp2_with (go_at_call 27;refine (KB.out _).mono ?_;rintro e w' ⟨rfl,rfl⟩)
     go_round
     case rel=>exact ⟨k+1,by omega,by go_num,HE.out⟩
     case measure=>simp [intOf];omega
    ·have HE:Hid (false=decide (l=m)):=by
      refine (decide_eq_false ?_).symm
      rintro rfl
      exact hx rfl
     have KB:=Lib.hid (fun w=>bitsfnT_any (l.getD k 0) (m.getD k 0) w)
     rw [show decide (l.getD k 0=m.getD k 0)=false from decide_eq_false hx] at KB
     clear hx
     generalize l.getD k 0=x at *
     generalize m.getD k 0=y at *
     go_wp2_with (go_at_call 27;refine (KB.out _).mono ?_;rintro e w' ⟨rfl,rfl⟩)
     go_ret
     exact ⟨HR.out _ HE.out,rfl⟩
   ·exact qx69
 ·exact qx47
set_option maxHeartbeats 1000000 in
theorem topequal_any (X Y W H:Int) (b o c:Nat) (l:List Nat) (X' Y' W' H':Int) (b' o' c':Nat) (m:List Nat) (w:World) (hl:SRow w (some ⟨b,o,none⟩) l) (hm:SRow w (some ⟨b',o',none⟩) m) :
  Calls Tryz.prog 15 #[fldV X Y W H (some ⟨b,o,none⟩) l.length c,fldV X' Y' W' H' (some ⟨b',o',none⟩) m.length c'] w fun e w'=>e=.returned (.bool (smB X Y W H X' Y' W' H' l m))∧Below w.heap.size w w':=by
 have HL:=Lib.hid hl
 have HM:=Lib.hid hm
 clear hl hm
 have hA:Below w.heap.size w ((w.alloc (.cells #[.int .i64 X,.int .i64 Y,.int .i64 W,.int .i64 H,.slice (some ⟨b,o,none⟩) l.length c] 32)).alloc (.cells #[.int .i64 X',.int .i64 Y',.int .i64 W',.int .i64 H',.slice (some ⟨b',o',none⟩) m.length c'] 32)):=qBl
 have HA:=Lib.hid hA
 clear hA
 by_cases hr:X=X'∧Y=Y'∧W=W'∧H=H'
 ·obtain ⟨rfl,rfl,rfl,rfl⟩:=hr
  have hv:smB X Y W H X Y W H l m=decide (l=m):=by unfold smB;simp
  rw [hv]
  clear hv
  have KE:=Lib.hid (fun W h1 h2=>eqfuncT_any b o c b' o' c' l m W h1 h2)
  generalize decide (l=m)=r at *
  have kn:=fun w=>eqlReg X Y W H X Y W H w
  have kg:=fun x y w=>eqGuardReg .eql x y X Y W H X Y W H w
  go_enter Tryz.func15,Tryz.ntmps15
  go_wp2_with fail
  refine (KE.out _ (HL.out.below HA.out) (HM.out.below HA.out)).mono ?_
  rintro e w1 ⟨rfl,rfl⟩
  go_wp2_with fail
  go_ret
  exact ⟨rfl,HA.out⟩
 ·have hv:smB X Y W H X' Y' W' H' l m=false:=by unfold smB;simp only [hr];simp
  rw [hv]
  clear hv
  have hb:(X == X' && Y == Y' && W == W' && H == H')=false:=by
   rw [Bool.eq_false_iff]
   intro h
   simp only [Bool.and_eq_true,beq_iff_eq] at h
   exact hr ⟨h.1.1.1,h.1.1.2,h.1.2,h.2⟩
  have kn:=fun w=>eqlReg X Y W H X' Y' W' H' w
  rw [hb] at kn
  have kg:=fun x y w=>eqGuardReg .eql x y X Y W H X' Y' W' H' w
  clear hr hb
  go_enter Tryz.func15,Tryz.ntmps15
  go_wp2_with fail
  go_ret
  exact ⟨rfl,HA.out⟩
theorem and15e (n:Int):∃ k:Nat,k≤15∧bits .and .i64 n 15=(k:Int):=by
 refine ⟨(BitVec.ofInt 64 n).toNat &&& 15,Nat.and_le_right,?_⟩
 have hx:(BitVec.ofInt 64 n).toNat &&& 15≤15:=Nat.and_le_right
 show IntKind.i64.wrap ((BitVec.ofInt 64 n &&& BitVec.ofInt 64 15).toNat:Int)=_
 rw [BitVec.toNat_and,show (BitVec.ofInt 64 15).toNat=15 from by decide,IntKind.wrap_i64]
 omega
theorem and7e (n:Int):∃ k:Nat,k≤7∧bits .and .i64 n 7=(k:Int):=by
 refine ⟨(BitVec.ofInt 64 n).toNat &&& 7,Nat.and_le_right,?_⟩
 have hx:(BitVec.ofInt 64 n).toNat &&& 7≤7:=Nat.and_le_right
 show IntKind.i64.wrap ((BitVec.ofInt 64 n &&& BitVec.ofInt 64 7).toNat:Int)=_
 rw [BitVec.toNat_and,show (BitVec.ofInt 64 7).toNat=7 from by decide,IntKind.wrap_i64]
 omega
set_option maxRecDepth 100000 in
theorem small_reg (X Y p q:Int) (w:World):Calls Tryz.prog 6 #[reg X Y p q] w fun e w'=>∃ A B:Nat,1≤A∧A≤16∧1≤B∧B≤16∧e=.returned (reg X Y A B)∧Below w.heap.size w w':=by
 obtain ⟨k,hk,e1⟩:=and15e p
 obtain ⟨j,hj,e2⟩:=and15e q
 have e3:IntKind.i64.wrap (1+(k:Int))=((1+k:Nat):Int):=by rw [IntWalk.i64_in _ (by omega)];push_cast;rfl
 have e4:IntKind.i64.wrap (1+(j:Int))=((1+j:Nat):Int):=by rw [IntWalk.i64_in _ (by omega)];push_cast;rfl
 go_enter Tryz.func6,Tryz.ntmps6
 go_wp2_with fail
 exact bodyPost_ret (v:=reg X Y ((1+k:Nat):Int) ((1+j:Nat):Int)) (by simp [results,Tryz.results6,go_sem, *]) rfl ⟨1+k,1+j,by omega,by omega,by omega,by omega,rfl,qBl⟩
set_option maxRecDepth 100000 in
theorem little_reg (X Y p q:Int) (w:World):Calls Tryz.prog 12 #[reg X Y p q] w fun e w'=>∃ A B:Nat,1≤A∧A≤16∧1≤B∧B≤16∧e=.returned (reg X Y A B)∧Below w.heap.size w w':=by
 obtain ⟨k,hk,e1⟩:=and15e p
 obtain ⟨j,hj,e2⟩:=and15e q
 have e3:IntKind.i64.wrap (1+(k:Int))=((1+k:Nat):Int):=by rw [IntWalk.i64_in _ (by omega)];push_cast;rfl
 have e4:IntKind.i64.wrap (1+(j:Int))=((1+j:Nat):Int):=by rw [IntWalk.i64_in _ (by omega)];push_cast;rfl
 go_enter Tryz.func12,Tryz.ntmps12
 go_wp2_with fail
 exact bodyPost_ret (v:=reg X Y ((1+k:Nat):Int) ((1+j:Nat):Int)) (by simp [results,Tryz.results12,go_sem, *]) rfl ⟨1+k,1+j,by omega,by omega,by omega,by omega,rfl,qBl⟩
def SomeB (w:World) (e:Ending) (w':World):Prop:=∃ r:Bool,e=.returned (.bool r)∧Below w.heap.size w w'
def SomeR (w:World) (e:Ending) (w':World):Prop:=∃ (x y p q:Int) (r:Bool),e=.returned (.tuple #[reg x y p q,.bool r])∧Below w.heap.size w w'
set_option maxRecDepth 100000 in
theorem inside_some (a b c d e f g h:Int) (w:World):Calls Tryz.prog 7 #[reg a b c d,reg e f g h] w (SomeB w):=by
 go_enter Tryz.func7,Tryz.ntmps7
 go_wp2
 all_goals
  go_ret
  exact ⟨_,rfl,qBl⟩
set_option maxRecDepth 100000 in
set_option maxHeartbeats 1000000 in
theorem common_some (a b c d e f g h:Int) (w:World):Calls Tryz.prog 13 #[reg a b c d,reg e f g h] w (SomeR w):=by
 go_enter Tryz.func13,Tryz.ntmps13
 go_wp2
 go_quiet (fail)
 generalize max a e=x at *
 generalize max b f=y at *
 go_wp2
 go_quiet (fail)
 generalize wrap64 (min (wrap64 (a+c)) (wrap64 (e+g))-x)=p at *
 generalize wrap64 (min (wrap64 (b+d)) (wrap64 (f+h))-y)=q at *
 by_cases cp:p<1
 ·go_wp2
  exact bodyPost_ret (v:=.tuple #[reg 0 0 0 0,.bool false]) (by simp [results,Tryz.results13,go_sem]) rfl ⟨0,0,0,0,false,rfl,qBl⟩
 ·have cp':1≤p:=by omega
  by_cases cq:q<1
  ·go_wp2
   exact bodyPost_ret (v:=.tuple #[reg 0 0 0 0,.bool false]) (by simp [results,Tryz.results13,go_sem]) rfl ⟨0,0,0,0,false,rfl,qBl⟩
  ·have cq':1≤q:=by omega
   go_wp2
   exact bodyPost_ret (v:=.tuple #[reg x y p q,.bool true]) (by simp [results,Tryz.results13,go_sem]) rfl ⟨x,y,p,q,true,rfl,qBl⟩
theorem Reg.put {w:World} {k:Nat} {X Y W H:Int} (h:Reg w k X Y W H) (x:Int):Reg (w.setCell ⟨k,0,none⟩ (.int .i64 x)) k x Y W H∧Reg (w.setCell ⟨k,1,none⟩ (.int .i64 x)) k X x W H∧Reg (w.setCell ⟨k,2,none⟩ (.int .i64 x)) k X Y x H∧Reg (w.setCell ⟨k,3,none⟩ (.int .i64 x)) k X Y W x:=by
 unfold Reg at *
 exact ⟨Go.heap_setCell_same w k 0 _ _ _ h,Go.heap_setCell_same w k 1 _ _ _ h,Go.heap_setCell_same w k 2 _ _ _ h,Go.heap_setCell_same w k 3 _ _ _ h⟩
structure PaSt (w:World) (a:Option Addr) (n cap:Nat) (out X Y A B P Q C D:Int) (wx:World):Prop where
 g:Blk wx w.heap.size #[.slice a n cap,.int .i64 out] 24
 r:Reg wx (w.heap.size+1) X Y A B
 i:Reg wx (w.heap.size+1+1) P Q C D
 b:Below w.heap.size w wx
section
variable {w wx w2:World} {a:Option Addr} {n cap:Nat} {out X Y A B P Q C D:Int}
theorem PaSt.call (s:PaSt w a n cap out X Y A B P Q C D wx) (hb:Below wx.heap.size wx w2):PaSt w a n cap out X Y A B P Q C D w2:=
 ⟨s.g.below hb s.g.lt,s.r.below hb s.r.lt,s.i.below hb s.i.lt,bot2 s.b hb⟩
theorem PaSt.start (w:World) (a:Option Addr) (n cap:Nat) (out X Y A B P Q C D:Int):∀ W0,W0=((w.alloc (.cells #[.slice a n cap,.int .i64 out] 24)).alloc (.cells #[.int .i64 X,.int .i64 Y,.int .i64 A,.int .i64 B] 26)).alloc (.cells #[.int .i64 P,.int .i64 Q,.int .i64 C,.int .i64 D] 26)→PaSt w a n cap out X Y A B P Q C D W0:=by
 rintro _ rfl
 refine ⟨((Blk.new _ _ _).alloc _).alloc _,?_,?_,qBl⟩
 ·have:=(Reg.new (w.alloc (.cells #[.slice a n cap,.int .i64 out] 24)) X Y A B).alloc (.cells #[.int .i64 P,.int .i64 Q,.int .i64 C,.int .i64 D] 26)
  simpa using this
 ·have:=Reg.new ((w.alloc (.cells #[.slice a n cap,.int .i64 out] 24)).alloc (.cells #[.int .i64 X,.int .i64 Y,.int .i64 A,.int .i64 B] 26)) P Q C D
  simpa using this
theorem PaSt.setR (s:PaSt w a n cap out X Y A B P Q C D wx) (x y p q:Int):∀ W',W'=(((wx.setCell ⟨w.heap.size+1,0,none⟩ (.int .i64 x)).setCell ⟨w.heap.size+1,1,none⟩ (.int .i64 y)).setCell ⟨w.heap.size+1,2,none⟩ (.int .i64 p)).setCell ⟨w.heap.size+1,3,none⟩ (.int .i64 q)→PaSt w a n cap out x y p q P Q C D W':=by
 rintro _ rfl
 have k1:w.heap.size≠w.heap.size+1:=by omega
 have k2:w.heap.size+1+1≠w.heap.size+1:=by omega
 have k3:w.heap.size≤w.heap.size+1:=by omega
 exact ⟨(((s.g.setCell k1 _).setCell k1 _).setCell k1 _).setCell k1 _,((((s.r.put x).1.put y).2.1.put p).2.2.1.put q).2.2.2,(((s.i.setCell k2 _).setCell k2 _).setCell k2 _).setCell k2 _,(((s.b.setCell k3 _).setCell k3 _).setCell k3 _).setCell k3 _⟩
theorem PaSt.setWH (s:PaSt w a n cap out X Y A B P Q C D wx) (p q:Int):∀ W',W'=(wx.setCell ⟨w.heap.size+1+1,2,none⟩ (.int .i64 p)).setCell ⟨w.heap.size+1+1,3,none⟩ (.int .i64 q)→PaSt w a n cap out X Y A B P Q p q W':=by
 rintro _ rfl
 have k1:w.heap.size≠w.heap.size+1+1:=by omega
 have k2:w.heap.size+1≠w.heap.size+1+1:=by omega
 have k3:w.heap.size≤w.heap.size+1+1:=by omega
 exact ⟨(s.g.setCell k1 _).setCell k1 _,(s.r.setCell k2 _).setCell k2 _,((s.i.put p).2.2.1.put q).2.2.2,(s.b.setCell k3 _).setCell k3 _⟩
theorem PaSt.setXY (s:PaSt w a n cap out X Y A B P Q C D wx) (x y:Int):∀ W',W'=(wx.setCell ⟨w.heap.size+1+1,0,none⟩ (.int .i64 x)).setCell ⟨w.heap.size+1+1,1,none⟩ (.int .i64 y)→PaSt w a n cap out X Y A B x y C D W':=by
 rintro _ rfl
 have k1:w.heap.size≠w.heap.size+1+1:=by omega
 have k2:w.heap.size+1≠w.heap.size+1+1:=by omega
 have k3:w.heap.size≤w.heap.size+1+1:=by omega
 exact ⟨(s.g.setCell k1 _).setCell k1 _,(s.r.setCell k2 _).setCell k2 _,((s.i.put x).1.put y).2.1,(s.b.setCell k3 _).setCell k3 _⟩
end
theorem OutV.ok0 {X Y W H:Int} {m:List Nat} {w:World} {B:Nat} {x y p q:Int} {a:Option Addr} {n k:Nat} (h:OutV 0 X Y W H m w B x y p q a n k):x=X∧y=Y∧p=W∧q=H∧∃ g,a=some ⟨g,0,none⟩∧n=m.length∧OwnF w B g k m:=by
 rcases h with ⟨h,_⟩|⟨_,h⟩
 ·exact absurd rfl h
 ·exact h
def ErrP (w:World) (e:Ending) (w':World):Prop:=(∃ (x y p q:Int) (a:Option Addr) (n k:Nat) (c:Int),c≠0∧e=.returned (.tuple #[fldV x y p q a n k,.int .i64 c]))∧Below w.heap.size w w'
theorem EvP.err {R:List Rn} {t:Nat} {X Y:Int} {W H:Nat} {w:World} {e:Ending} {w':World} (h:EvP R t X Y W H w e w') (hn:¬ EvalOk R t X Y W H):ErrP w e w':=by
 obtain ⟨c,hc,⟨x,y,p,q,a,n,k,he,_⟩,hb⟩:=h
 exact ⟨⟨x,y,p,q,a,n,k,c,fun h0=>hn (hc.1 h0),he⟩,hb⟩
theorem EvP.yes {R:List Rn} {t:Nat} {X Y:Int} {W H:Nat} {w:World} {e:Ending} {w':World} (h:EvP R t X Y W H w e w') (hn:EvalOk R t X Y W H):∃ g k,e=.returned (.tuple #[fldV X Y W H (some ⟨g,0,none⟩) (gridL (valK R t) X Y W H).length k,.int .i64 0])∧OwnF w' w.heap.size g k (gridL (valK R t) X Y W H)∧Below w.heap.size w w':=by
 obtain ⟨c,hc,⟨x,y,p,q,a,n,k,he,ho⟩,hb⟩:=h
 obtain rfl:c=0:=hc.2 hn
 obtain ⟨rfl,rfl,rfl,rfl,g,rfl,rfl,ho1⟩:=OutV.ok0 ho
 exact ⟨g,k,he,ho1,hb⟩
theorem smB_self (X Y W H:Int) (l:List Nat):smB X Y W H X Y W H l l=true:=by unfold smB;simp
end Go.Proofs.YtmggflgdoioajaaGreat
