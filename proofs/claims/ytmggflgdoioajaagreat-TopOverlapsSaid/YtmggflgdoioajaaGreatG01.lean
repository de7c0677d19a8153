import Derived.Deep.RegionHeld3
import Derived.Below
import Derived.WalkSmall
import Derived.Deep.DeepCutAuto
import Derived.BigQuiet
import Derived.Deep.QuietTactic
import Derived.Deep.CutBlock
import Derived.StillTailTactics
import Derived.Deep.AppendLies
import Derived.IntWalk
set_option linter.unusedSimpArgs false
set_option linter.unusedVariables false
namespace Go
section
variable {P:Program} {ops:Array Oper} {Q:Exit→Act→World→Prop} {md:Region.Mode} {S:World→Prop} {n:Nat}
def wpAnyT (P:Program) (md:Region.Mode) (ops:Array Oper) (Q:Exit→Act→World→Prop) (S:World→Prop) (n:Nat):Nat→Array Bool→Act→World→Prop
 | 0,listed,a,w=>Region.ready md ops listed=[]∧Q .normal a w
 | fuel+1,listed,a,w =>
  (Region.ready md ops listed=[]→Q .normal a w) ∧
  ∀ i∈Region.ready md ops listed,wpOp P ops Q i (fun a' w'=>(i<n→S w')∧wpAnyT P md ops Q S n fuel (listed.setIfInBounds i true) a' w') a w
theorem wpAny_ofT:∀ (fuel:Nat) (listed:Array Bool) (a:Act) (w:World),wpAnyT P md ops Q S n fuel listed a w→wpAny P md ops Q fuel listed a w
 | 0,_,_,_,h=>h
 | fuel+1,_,_,_,h=>⟨h.1,fun i hi=>wpOp_mono (fun a' w' h'=>wpAny_ofT fuel _ a' w' h'.2) (h.2 i hi)⟩
def sinkAt (md:Region.Mode) (ops:Array Oper) (n i:Nat) (D:List Nat) (listed:Array Bool):Bool:=
 ((List.range ops.size).all fun j=>if n≤j then D.contains j else true) && (D.all fun j=>match ops[j]? with|some o=>o.after.any fun e=>Region.binds md e && (i :: D).contains e.on|none=>true) && ((i :: D).all fun k=>listed.getD k true == false)
theorem sinkAt_spec {i:Nat} {D:List Nat} {listed:Array Bool} (h:sinkAt md ops n i D listed=true) :
  (∀ j,j<ops.size→n≤j→j∈D)∧(∀ j∈D,∀ oj,ops[j]?=some oj→∃ e∈oj.after,Region.binds md e=true∧e.on∈i :: D)∧(∀ k∈i :: D,listed.getD k true=false):=by
 unfold sinkAt at h
 rw [Bool.and_eq_true,Bool.and_eq_true] at h
 obtain ⟨⟨h1,h2⟩,h3⟩:=h
 refine ⟨fun j hj hn=>?_,fun j hj oj hoj=>?_,fun k hk=>?_⟩
 ·have:=List.all_eq_true.1 h1 j (List.mem_range.2 hj)
  rw [if_pos hn] at this
  simpa using this
 ·have:=List.all_eq_true.1 h2 j hj
  rw [hoj] at this
  simp only at this
  obtain ⟨k,hk,h4⟩:=Array.any_eq_true.1 this
  rw [Bool.and_eq_true] at h4
  exact ⟨_,Array.getElem_mem hk,h4.1,by simpa using h4.2⟩
 ·have:=List.all_eq_true.1 h3 k hk
  simpa using this
theorem not_ready {i:Nat} {D:List Nat} {listed:Array Bool} (h1:∀ j∈D,∀ oj,ops[j]?=some oj→∃ e∈oj.after,Region.binds md e=true∧e.on∈i :: D) (h2:∀ k∈i :: D,listed.getD k true=false)
  {j:Nat} (hj:j∈Region.ready md ops listed):j ∉ D:=fun hD=>by
 obtain ⟨_,oj,hoj,hall⟩:=mem_ready.1 hj
 obtain ⟨e,he,hb,hon⟩:=h1 j hD oj hoj
 have a:=hall e he hb
 have b:=h2 _ hon
 rcases Nat.lt_or_ge e.on listed.size with h' | h'
 ·simp [h'] at a b;rw [b] at a;cases a
 ·simp [Array.getElem?_eq_none h'] at a
theorem wpAnyT_first {i:Nat} {oi:Oper} {v:Value} (hi:ops[i]?=some oi) (hsel:∀ (j:Nat) (o:Oper) cs b,ops[j]?=some o→o.op≠.select cs b)
  (hQ:∀ c a w,Q (.panic c) (a.put oi.dst v) w→Q (.panic c) a w) {D:List Nat} (hn1:∀ j,j<ops.size→n≤j→j∈D) (hn2:∀ j∈D,∀ oj,ops[j]?=some oj→∃ e∈oj.after,Region.binds md e=true∧e.on∈i :: D) :
  ∀ (fuel:Nat) (listed:Array Bool) (a:Act) (w:World),(∀ k∈i :: D,listed.getD k true=false) →
   (∀ j oj,ops[j]?=some oj→j≠i→listed.getD j true=false→(∀ e∈oj.after,Region.binds md e=true→e.on≠i)→oi.apart ops oj=true) →
   i∈Region.ready md ops listed→YieldsIf P ops S oi v a→S w →
   wpAnyT P md ops Q S n fuel (listed.setIfInBounds i true) (a.put oi.dst v) w→wpAnyT P md ops Q S n (fuel+1) listed a w:=by
 intro fuel
 induction fuel with
 | zero =>
  intro listed a w _ _ hr hy hS H
  refine ⟨fun h=>(by rw [h] at hr;cases hr),fun j hj=>?_⟩
  by_cases hji:j=i
  ·subst hji;exact hy.wpOp hi hS ⟨fun _=>hS,H⟩
  ·have:=ready_mono hj hji
   rw [H.1] at this
   cases this
 | succ fuel ih =>
  intro listed a w hun hfree hr hy hS H
  refine ⟨fun h=>(by rw [h] at hr;cases hr),fun j hj=>?_⟩
  by_cases hji:j=i
  ·subst hji;exact hy.wpOp hi hS ⟨fun _=>hS,H⟩
  ·have h1:=H.2 j (ready_mono hj hji)
   obtain ⟨hjun,oj,hoj,hall⟩:=mem_ready.1 hj
   have hnot:∀ e∈oj.after,Region.binds md e=true→e.on≠i:=fun e he hb heq=>by
    have h1:=hall e he hb
    have h0:=(mem_ready.1 hr).1
    rw [heq] at h1
    rcases Nat.lt_or_ge i listed.size with h' | h'
    ·simp [h'] at h0 h1;rw [h0] at h1;cases h1
    ·simp [Array.getElem?_eq_none h'] at h1
   have hjD:=not_ready hn2 hun hj
   have hjn:j<n:=by
    rcases Nat.lt_or_ge j n with h' | h'
    ·exact h'
    ·have hlt:j<ops.size:=by
      rcases Nat.lt_or_ge j ops.size with h'' | h''
      ·exact h''
      ·rw [Array.getElem?_eq_none h''] at hoj;cases hoj
     exact absurd (hn1 j hlt h') hjD
   have hun':∀ k∈i :: D,(listed.setIfInBounds j true).getD k true=false:=fun k hk=>by
    rw [getD_set_ne true (fun h=>?_)]
    ·exact hun k hk
    ·subst h
     rcases List.mem_cons.1 hk with h|h
     ·exact hji h
     ·exact hjD h
   have h2:=wpOp_putIf hoj (hfree j oj hoj hji hjun hnot) (fun cs b=>hsel i oi cs b hi) (fun cs b=>hsel j oj cs b hoj) hQ hy h1
   have hfree':∀ k ok,ops[k]?=some ok→k≠i→(listed.setIfInBounds j true).getD k true=false →
     (∀ e∈ok.after,Region.binds md e=true→e.on≠i)→oi.apart ops ok=true:=fun k ok hk hki hun hno=>by
    refine hfree k ok hk hki ?_ hno
    by_cases hjk:j=k
    ·subst hjk;exact hjun
    ·rw [getD_set_ne true hjk] at hun;exact hun
   refine wpOp_mono (fun a' w' h3=>⟨h3.2.1,ih (listed.setIfInBounds j true) a' w' hun' hfree' (ready_mono hr (Ne.symm hji)) h3.1 (h3.2.1 hjn) ?_⟩) h2
   rw [Array.setIfInBounds_comm _ _ hji]
   exact h3.2.2
theorem wpAnyT_take (D:List Nat) {i:Nat} {oi:Oper} {v:Value} {fuel:Nat} {listed:Array Bool} {a:Act} {w:World} (hi:ops[i]?=some oi)
  (hs:Region.noSelect ops=true) (hf:Region.free md ops listed i=true) (hr:(Region.ready md ops listed).contains i=true) (hsink:sinkAt md ops n i D listed=true)
  (hQ:∀ c a w,Q (.panic c) (a.put oi.dst v) w→Q (.panic c) a w) (hy:YieldsIf P ops S oi v a) (hS:S w)
  (h:wpAnyT P md ops Q S n fuel (listed.setIfInBounds i true) (a.put oi.dst v) w):wpAnyT P md ops Q S n (fuel+1) listed a w:=
 wpAnyT_first hi (Region.noSelect_spec hs) hQ (sinkAt_spec hsink).1 (sinkAt_spec hsink).2.1 fuel listed a w (sinkAt_spec hsink).2.2 (Region.free_spec hi hf) (by simpa using hr) hy hS h
def AllReadyT (P:Program) (md:Region.Mode) (ops:Array Oper) (Q:Exit→Act→World→Prop) (S:World→Prop) (n:Nat) (fuel:Nat) (listed:Array Bool) (a:Act) (w:World) (rs:List Nat):Prop:=
 ∀ i∈rs,wpOp P ops Q i (fun a' w'=>(i<n→S w')∧wpAnyT P md ops Q S n fuel (listed.setIfInBounds i true) a' w') a w
theorem AllReadyT.nil {fuel:Nat} {listed:Array Bool} {a:Act} {w:World}:AllReadyT P md ops Q S n fuel listed a w []:=fun _ h=>by cases h
theorem AllReadyT.cons {fuel:Nat} {listed:Array Bool} {a:Act} {w:World} {i:Nat} {o:Oper} {rs:List Nat} (ho:ops[i]?=some o)
  (h:∀ K':Act→World→Prop,Shut (∀ a w,(i<n→S w)→((i<n→S w)→wpAnyT P md ops Q S n fuel (listed.setIfInBounds i true) a w)→K' a w)→if Region.wanted o (yielded ops a.tmps)=true then Oper.wp P o a w K' Q else K' (a.put o.dst undef) w)
  (hs:AllReadyT P md ops Q S n fuel listed a w rs):AllReadyT P md ops Q S n fuel listed a w (i :: rs):=fun j hj=>by
 rcases List.mem_cons.1 hj with rfl|hj
 ·exact wpOp_step ho (fun K' hK=>h K' (fun a w hS hW=>hK a w ⟨hS,hW hS⟩))
 ·exact hs j hj
theorem wpAnyT_ready {rs:List Nat} {fuel:Nat} {listed:Array Bool} {a:Act} {w:World} (hr:Region.ready md ops listed=rs) (hne:rs≠[])
  (h:AllReadyT P md ops Q S n fuel listed a w rs):wpAnyT P md ops Q S n (fuel+1) listed a w:=⟨fun h0=>absurd (hr ▸ h0) hne,hr ▸ h⟩
theorem wpAnyT_done {listed:Array Bool} {a:Act} {w:World} (hr:Region.ready md ops listed=[]) (h:Q .normal a w):∀ fuel,wpAnyT P md ops Q S n fuel listed a w
 | 0=>⟨hr,h⟩
 | fuel+1=>⟨fun _=>h,fun i hi=>by rw [hr] at hi;cases hi⟩
theorem wp_region_heldT {id:Nat} {a:Act} {w:World} (S:World→Prop) (n:Nat) (hm:P.follows .mixedOrders=true) (hS:S w.drew)
  (h:S w.drew→wpAnyT P .any ops Q S n ops.size (Array.replicate ops.size false) a w.drew):(Code.region id ops true).wp P Q a w:=
 wp_region_any hm (wpAny_ofT _ _ _ _ (h hS))
end
section
variable {P:Program} {ops:Array Oper} {Q:Exit→Act→World→Prop} {md:Region.Mode} {S:World→Prop} {n:Nat}
theorem wpAnyT_takeL (D:List Nat) {i:Nat} {oi:Oper} {v:Value} {fuel:Nat} {listed:Array Bool} {a:Act} {w:World} (hi:ops.toList[i]?=some oi)
  (hs:Region.noSelect ops=true) (hf:Region.free md ops listed i=true) (hr:(Region.ready md ops listed).contains i=true) (hsink:sinkAt md ops n i D listed=true)
  (hQ:∀ c a w,Q (.panic c) (a.put oi.dst v) w→Q (.panic c) a w) (hy:YieldsIf P ops S oi v a) (hS:S w)
  (h:wpAnyT P md ops Q S n fuel (listed.setIfInBounds i true) (a.put oi.dst v) w):wpAnyT P md ops Q S n (fuel+1) listed a w:=
 wpAnyT_take D (by rw [←hi];simp) hs hf hr hsink hQ hy hS h
end
end Go
namespace Go.Proofs.YtmggflgdoioajaaGreat
open Go.RowKit
theorem qBl {B : Nat} {w w' : World} (h : Below B w w' := by repeat (first | with_reducible exact Below.refl _ _ | with_reducible apply Below.drew | with_reducible refine below_drewN ?_ _ | (with_reducible refine Below.setCell ?_ ?_ _; rotate_left; focus (first | omega | (simp <;> omega))) | (with_reducible refine Below.alloc ?_ ?_ _; rotate_left; focus (first | omega | (simp <;> omega))))) : Below B w w' := h
theorem qBo {B : Nat} {w w1 w' : World} (h : Below B w w1) (k : w.heap.size ≤ w1.heap.size → Below B w w1 → Below B w w' := by intro hszz hq0; repeat (first | with_reducible exact hq0 | with_reducible apply Below.drew | with_reducible refine below_drewN ?_ _ | (with_reducible refine Below.setCell ?_ ?_ _; rotate_left; focus (first | omega | (simp <;> omega))) | (with_reducible refine Below.alloc ?_ ?_ _; rotate_left; focus (first | omega | (simp <;> omega))))) : Below B w w' := k h.size h
theorem qS (l : List Value) (d k v) : Act.put ⟨l.toArray, d⟩ (some k) v = ⟨(l.set k v).toArray, d⟩ := by simp [Act.put]
theorem qN (a : Act) (v : Value) : a.put none v = a := rfl
theorem qC {α : Type} {x y : α} {l : List α} : (x :: l).set 0 y = y :: l := rfl
theorem qD {α : Type} {x y : α} {l : List α} {n : Nat} : (x :: l).set (n + 1) y = x :: l.set n y := rfl
section
variable {P : Program} {ops : Array Oper} {Q : Exit → Act → World → Prop} {md : Region.Mode} {S : World → Prop} {n : Nat}
theorem tkA (D : List Nat) (i : Nat) {oi : Oper} {v : Value} {fuel : Nat} {listed : Array Bool} {a : Act} {w : World} (hi : ops.toList[i]? = some oi) (hy : ∀ w, S w → (execOp a.eval oi).run P w = .ok (.value v) w)
    (h : wpAnyT P md ops Q S n fuel (listed.setIfInBounds i true) (a.put oi.dst v) w) (hg : Region.wanted oi (yielded ops a.tmps) = true := by rfl)
    (hs : Region.noSelect ops = true := by kernel_rfl) (hf : Region.free md ops listed i = true := by kernel_rfl) (hr : (Region.ready md ops listed).contains i = true := by kernel_rfl) (hsink : sinkAt md ops n i D listed = true := by kernel_rfl)
    (hQ : ∀ c a w, Q (.panic c) (a.put oi.dst v) w → Q (.panic c) a w := by exact fun _ _ _ h => h) (hS : S w := by with_reducible assumption) : wpAnyT P md ops Q S n (fuel + 1) listed a w :=
  wpAnyT_takeL D hi hs hf hr hsink hQ (.inl ⟨hg, hy⟩) hS h
theorem tkO (D : List Nat) (i : Nat) {oi : Oper} {v : Value} {fuel : Nat} {listed : Array Bool} {a : Act} {w : World} (hi : ops.toList[i]? = some oi)
    (h : wpAnyT P md ops Q S n fuel (listed.setIfInBounds i true) (a.put oi.dst v) w) (hy : ∀ w, S w → (execOp a.eval oi).run P w = .ok (.value v) w := by intro w₁ hSw; go_simp; try with_reducible rfl) (hg : Region.wanted oi (yielded ops a.tmps) = true := by rfl)
    (hs : Region.noSelect ops = true := by kernel_rfl) (hf : Region.free md ops listed i = true := by kernel_rfl) (hr : (Region.ready md ops listed).contains i = true := by kernel_rfl) (hsink : sinkAt md ops n i D listed = true := by kernel_rfl)
    (hQ : ∀ c a w, Q (.panic c) (a.put oi.dst v) w → Q (.panic c) a w := by exact fun _ _ _ h => h) (hS : S w := by with_reducible assumption) : wpAnyT P md ops Q S n (fuel + 1) listed a w :=
  wpAnyT_takeL D hi hs hf hr hsink hQ (.inl ⟨hg, hy⟩) hS h
theorem rdA (i : Nat) {o : Oper} {fuel : Nat} {listed : Array Bool} {a : Act} {w : World} (ho : ops[i]? = some o)
    (h : ∀ K' : Act → World → Prop, Shut (∀ a w, (i < n → S w) → ((i < n → S w) → wpAnyT P md ops Q S n fuel (listed.setIfInBounds i true) a w) → K' a w) → if Region.wanted o (yielded ops a.tmps) = true then Oper.wp P o a w K' Q else K' (a.put o.dst undef) w)
    (hr : Region.ready md ops listed = [i] := by kernel_rfl) : wpAnyT P md ops Q S n (fuel + 1) listed a w :=
  wpAnyT_ready hr (by simp) (AllReadyT.cons ho h AllReadyT.nil)
theorem ouA {i fuel : Nat} {l : Array Bool} {a : Act} {w : World} {K : Act → World → Prop} (hK : Shut (∀ a w, (i < n → S w) → ((i < n → S w) → wpAnyT P md ops Q S n fuel l a w) → K a w)) (hS : S w) (h : S w → wpAnyT P md ops Q S n fuel l a w) : K a w := hK.out a w (fun _ => hS) (fun _ => h hS)
theorem ouB {i fuel : Nat} {l : Array Bool} {a : Act} {w : World} {K : Act → World → Prop} (hK : Shut (∀ a w, (i < n → S w) → ((i < n → S w) → wpAnyT P md ops Q S n fuel l a w) → K a w)) (h : wpAnyT P md ops Q S n fuel l a w) (hn : ¬ i < n := by omega) : K a w := hK.out a w (fun g => absurd g hn) (fun _ => h)
end
end Go.Proofs.YtmggflgdoioajaaGreat
theorem qx0 {G:Prop} (h:G:=by
 have HS:=Lib.hid (EvS.start (s:=s) (ia:=ia) (nin:=nin) (cin:=cin) (nI:=nI) (cI:=cI) (nR:=nR) (cR:=cR) (X:=X) (Y:=Y) (W:=W) (H:=H) hI hR hP)
 clear hI hR hP
 go_enter Tryz.func45,Tryz.ntmps45
 go_upto_region 1 with fail
 generalize ((w.alloc (.cells #[.string s,.slice ia nin cin,.slice la nI cI,.slice ra nR cR] 61)).alloc (.cells #[.int .i64 X,.int .i64 Y,.int .i64 W,.int .i64 H] 26)).alloc (.cells #[.int .i64 0,.int .i64 0,.int .i64 0,.int .i64 0,.slice none 0 0] 32)=W0 at *
 have p0':=HS.out.nd.cells.1
 have l0':=HS.out.nd.lt
 go_wp2_with fail
 refine (KI.out _).mono ?_
 rintro e w1 ⟨rfl,hb⟩
 have HS1:=Lib.hid (HS.out.call hb)
 clear hb HS p0' l0'
 go_wp2_with fail
 refine wp_region_noPanic ?_
 refine wp_region_heldT (EvS w s ia nin cin la nI cI ra nR cR I L X Y W H sb [p0,p1]) 10 (by kernel_rfl) HS1.out.drew (fun hHeld=>?_)
 refine tkO [7,8,9,10,11] 0 rfl ?_
 try simp only [qS,qN,qC,qD]
 refine tkO [2,3,7,8,9,10,11] 1 rfl ?_
 try simp only [qS,qN,qC,qD]
 refine tkO [3,7,8,9,10,11] 2 rfl ?_
 try simp only [qS,qN,qC,qD]
 refine tkA [7,8,9,10,11] 3 rfl (by
  intro w₁ hSw
  have f0:w₁.cell? ⟨sb,0,none⟩=some (.int .i64 p0.X):=hSw.f.cell 0 _ rfl 0 (by omega)
  have f1:w₁.cell? ⟨sb,1,none⟩=some (.int .i64 p0.Y):=hSw.f.cell 0 _ rfl 1 (by omega)
  have f2:w₁.cell? ⟨sb,2,none⟩=some (.int .i64 p0.W):=hSw.f.cell 0 _ rfl 2 (by omega)
  have f3:w₁.cell? ⟨sb,3,none⟩=some (.int .i64 p0.H):=hSw.f.cell 0 _ rfl 3 (by omega)
  have f4:w₁.cell? ⟨sb,4,none⟩=some (.slice (some ⟨p0.g,0,none⟩) p0.l.length p0.c):=hSw.f.cell 0 _ rfl 4 (by omega)
  go_simp
  try with_reducible rfl) ?_
 try simp only [qS,qN,qC,qD]
 refine tkO [5,6,7,8,9,10,11] 4 rfl ?_
 try simp only [qS,qN,qC,qD]
 refine tkO [6,7,8,9,10,11] 5 rfl ?_
 try simp only [qS,qN,qC,qD]
 refine tkA [7,8,9,10,11] 6 rfl (by
  intro w₁ hSw
  have f0:w₁.cell? ⟨sb,5,none⟩=some (.int .i64 p1.X):=hSw.f.cell 1 _ rfl 0 (by omega)
  have f1:w₁.cell? ⟨sb,6,none⟩=some (.int .i64 p1.Y):=hSw.f.cell 1 _ rfl 1 (by omega)
  have f2:w₁.cell? ⟨sb,7,none⟩=some (.int .i64 p1.W):=hSw.f.cell 1 _ rfl 2 (by omega)
  have f3:w₁.cell? ⟨sb,8,none⟩=some (.int .i64 p1.H):=hSw.f.cell 1 _ rfl 3 (by omega)
  have f4:w₁.cell? ⟨sb,9,none⟩=some (.slice (some ⟨p1.g,0,none⟩) p1.l.length p1.c):=hSw.f.cell 1 _ rfl 4 (by omega)
  go_simp
  try with_reducible rfl) ?_
 try simp only [qS,qN,qC,qD]
 refine rdA 7 rfl (fun K hK=>?_)
 go_simp
 (with_reducible refine (KC.out _ hHeld.f).mono ?_)
 rintro e w2 ⟨⟨x,y,p,q,a,n,k,rfl,ho⟩,hb⟩
 have hN:=hHeld.call hb
 have HO:=Lib.hid ho
 have HZ:=Lib.hid hHeld.rs.lt
 have HZB:=Lib.hid hHeld.b.size
 clear hb ho
 go_wp2_with fail
 refine ouA hK hN (fun hHeld=>?_)
 clear hK K
 try simp only [qS,qN,qC,qD]
 refine tkO [10,11] 8 rfl ?_
 try simp only [qS,qN,qC,qD]
 refine tkO [10,11] 9 rfl ?_
 try simp only [qS,qN,qC,qD]
 refine rdA 10 rfl (fun K hK=>?_)
 obtain ⟨qf0,qf1,qf2,qf3,qf4⟩:_∧_∧_∧_∧_:=⟨hHeld.rs.frozen 0,hHeld.rs.frozen 1,hHeld.rs.frozen 2,hHeld.rs.frozen 3,hHeld.rs.frozen 4⟩
 obtain ⟨d0,d1,d2,d3,d4⟩:=hHeld.rs.cells
 have lt:=hHeld.rs.lt
 have HB:=Lib.hid hHeld.b
 have HQ:=Lib.hid (fld_store w2 (w.heap.size+2) 0 0 0 0 _ x y p q (.slice a n k) hHeld.rs _ rfl)
 go_simp
 refine ouB hK ?_
 clear hK K
 try simp only [qS,qN,qC,qD]
 refine rdA 11 rfl (fun K hK=>?_)
 go_simp
 refine ouB hK ?_
 clear hK K
 try simp only [qS,qN,qC,qD]
 refine wpAnyT_done (by kernel_rfl) ?_ _
 refine NoPanic.normal ?_
 obtain ⟨f5,b5,oo5,_,z5⟩:=HQ.out
 have hO5:=(HO.out.set oo5 HZ.out).base HZB.out
 have lt5:w.heap.size+2<(((((w2.setCell ⟨w.heap.size+2,0,none⟩ (.int .i64 x)).setCell ⟨w.heap.size+2,1,none⟩ (.int .i64 y)).setCell ⟨w.heap.size+2,2,none⟩ (.int .i64 p)).setCell ⟨w.heap.size+2,3,none⟩ (.int .i64 q)).setCell ⟨w.heap.size+2,4,none⟩ (.slice a n k)).heap.size:=by simpa using lt
 clear HQ d0 d1 d2 d3 d4 qf0 qf1 qf2 qf3 qf4 oo5 HO
 generalize ((((w2.setCell ⟨w.heap.size+2,0,none⟩ (.int .i64 x)).setCell ⟨w.heap.size+2,1,none⟩ (.int .i64 y)).setCell ⟨w.heap.size+2,2,none⟩ (.int .i64 p)).setCell ⟨w.heap.size+2,3,none⟩ (.int .i64 q)).setCell ⟨w.heap.size+2,4,none⟩ (.slice a n k)=W5 at *
 obtain ⟨z0,z1,z2,z3,z4⟩:=f5.cells
 have hb:=HB.out.trans (b5.mono (by omega))
 clear f5 b5 HB z5
 go_wp2_with fail
 exact bodyPost_ret (v:=.tuple #[fldV x y p q a n k,.int .i64 c]) (by simp [results,Tryz.results45,go_sem, *]) rfl ⟨⟨x,y,p,q,a,n,k,rfl,hO5⟩,hb⟩):G:=h
theorem qx1 {G:Prop} (h:G:=by
 go_simp
 refine ouB hK ?_
 clear hK K
 try simp only [qS,qN,qC,qD]
 refine wpAnyT_done (by kernel_rfl) ?_ _
 refine NoPanic.normal ?_
 obtain ⟨f5,b5,oo5,_,z5⟩:=HQ.out
 have hO5:=(HO.out.set oo5 HZ.out).base HZB.out
 have lt5:w.heap.size+2<(((((w2.setCell ⟨w.heap.size+2,0,none⟩ (.int .i64 x)).setCell ⟨w.heap.size+2,1,none⟩ (.int .i64 y)).setCell ⟨w.heap.size+2,2,none⟩ (.int .i64 p)).setCell ⟨w.heap.size+2,3,none⟩ (.int .i64 q)).setCell ⟨w.heap.size+2,4,none⟩ (.slice a n k)).heap.size:=by simpa using lt
 clear HQ d0 d1 d2 d3 d4 qf0 qf1 qf2 qf3 qf4 oo5 HO
 generalize ((((w2.setCell ⟨w.heap.size+2,0,none⟩ (.int .i64 x)).setCell ⟨w.heap.size+2,1,none⟩ (.int .i64 y)).setCell ⟨w.heap.size+2,2,none⟩ (.int .i64 p)).setCell ⟨w.heap.size+2,3,none⟩ (.int .i64 q)).setCell ⟨w.heap.size+2,4,none⟩ (.slice a n k)=W5 at *
 obtain ⟨z0,z1,z2,z3,z4⟩:=f5.cells
 have hb:=HB.out.trans (b5.mono (by omega))
 clear f5 b5 HB z5
 go_wp2_with fail
 exact bodyPost_ret (v:=.tuple #[fldV x y p q a n k,.int .i64 c]) (by simp [results,Tryz.results45,go_sem, *]) rfl ⟨⟨x,y,p,q,a,n,k,rfl,hO5⟩,hb⟩):G:=h
theorem qx2 {G:Prop} (h:G:=by
 go_simp
 refine ouB hK ?_
 clear hK K
 try simp only [qS,qN,qC,qD]
 refine wpAnyT_done (by kernel_rfl) ?_ _
 refine NoPanic.normal ?_
 obtain ⟨e5,b5⟩:=HQ.out
 have lt5:w.heap.size+2<(((((w2.setCell ⟨w.heap.size+2,0,none⟩ (.int .i64 x)).setCell ⟨w.heap.size+2,1,none⟩ (.int .i64 y)).setCell ⟨w.heap.size+2,2,none⟩ (.int .i64 p)).setCell ⟨w.heap.size+2,3,none⟩ (.int .i64 q)).setCell ⟨w.heap.size+2,4,none⟩ (.slice a n k)).heap.size:=by simpa using lt
 clear HQ d0 d1 d2 d3 d4 q0 q1 q2 q3 q4
 generalize ((((w2.setCell ⟨w.heap.size+2,0,none⟩ (.int .i64 x)).setCell ⟨w.heap.size+2,1,none⟩ (.int .i64 y)).setCell ⟨w.heap.size+2,2,none⟩ (.int .i64 p)).setCell ⟨w.heap.size+2,3,none⟩ (.int .i64 q)).setCell ⟨w.heap.size+2,4,none⟩ (.slice a n k)=W5 at *
 have z0:W5.cell? ⟨w.heap.size+2,0,none⟩=some (.int .i64 x):=cell_of_row W5 _ 0 _ _ _ e5
 have z1:W5.cell? ⟨w.heap.size+2,1,none⟩=some (.int .i64 y):=cell_of_row W5 _ 1 _ _ _ e5
 have z2:W5.cell? ⟨w.heap.size+2,2,none⟩=some (.int .i64 p):=cell_of_row W5 _ 2 _ _ _ e5
 have z3:W5.cell? ⟨w.heap.size+2,3,none⟩=some (.int .i64 q):=cell_of_row W5 _ 3 _ _ _ e5
 have z4:W5.cell? ⟨w.heap.size+2,4,none⟩=some (.slice a n k):=cell_of_row W5 _ 4 _ _ _ e5
 have hb:=HB.out.trans (b5.mono (by omega))
 clear e5 b5 HB
 go_wp2_with fail
 exact bodyPost_ret (v:=.tuple #[fldV x y p q a n k,.int .i64 c]) (by simp [results,Tryz.results45,go_sem, *]) rfl ⟨⟨x,y,p,q,a,n,k,rfl⟩,hb⟩):G:=h
theorem qx3 {G:Prop} (h:G:=by
 go_simp
 refine ouB hK ?_
 clear hK K
 try simp only [qS,qN,qC,qD]
 refine wpAnyT_done (by kernel_rfl) ?_ _
 refine NoPanic.normal ?_
 obtain ⟨f5,b5,oo5,_,z5⟩:=HQ.out
 have hO5:=(HO.out.set oo5 HZ.out).base HZB.out
 have lt5:w.heap.size+3<(((((w2.setCell ⟨w.heap.size+3,0,none⟩ (.int .i64 x)).setCell ⟨w.heap.size+3,1,none⟩ (.int .i64 y)).setCell ⟨w.heap.size+3,2,none⟩ (.int .i64 p)).setCell ⟨w.heap.size+3,3,none⟩ (.int .i64 q)).setCell ⟨w.heap.size+3,4,none⟩ (.slice a n k)).heap.size:=by simpa using lt
 clear HQ d0 d1 d2 d3 d4 qf0 qf1 qf2 qf3 qf4 oo5 HO
 generalize ((((w2.setCell ⟨w.heap.size+3,0,none⟩ (.int .i64 x)).setCell ⟨w.heap.size+3,1,none⟩ (.int .i64 y)).setCell ⟨w.heap.size+3,2,none⟩ (.int .i64 p)).setCell ⟨w.heap.size+3,3,none⟩ (.int .i64 q)).setCell ⟨w.heap.size+3,4,none⟩ (.slice a n k)=W5 at *
 obtain ⟨z0,z1,z2,z3,z4⟩:=f5.cells
 have hb:=HB.out.trans (b5.mono (by omega))
 clear f5 b5 HB z5
 go_wp2_with fail
 exact bodyPost_ret (v:=.tuple #[fldV x y p q a n k,.int .i64 c]) (by simp [results,Tryz.results80,go_sem, *]) rfl ⟨⟨x,y,p,q,a,n,k,rfl,hO5⟩,hb⟩):G:=h
theorem qx4 {G:Prop} (h:G:=by
 clear c1
 go_enter Tryz.func73,Tryz.ntmps73
 go_wp2_with fail
 generalize hW0:(((w.alloc (.cells #[.int .i64 X,.int .i64 Y,.int .i64 Wn,.int .i64 Hn,.slice (some ⟨b,o,none⟩) l.length c] 32)).alloc (.cells #[.float .f32 s] 48)).alloc (.cells #[.float .f32 h] 48)).alloc (.cells #[.int .i64 0,.int .i64 0,.int .i64 0,.int .i64 0,.slice none 0 0] 32)=W0 at *
 obtain ⟨E0,P0,Q0,F0,B0⟩:=box_f2c w X Y Wn Hn (.slice (some ⟨b,o,none⟩) l.length c) #[.float .f32 s] #[.float .f32 h] 48 W0 hW0.symm
 clear hW0
 refine (K.out _ (HL.out.below B0)).mono ?_
 rintro e w1 ⟨rfl,b1⟩
 have HE1:=Lib.hid (E0.below b1 E0.lt)
 have HP1:=Lib.hid (P0.below b1 P0.lt)
 have HQ1:=Lib.hid (Q0.below b1 Q0.lt)
 have HF1:=Lib.hid (F0.below b1 F0.lt)
 have HL1:=Lib.hid ((HL.out.below B0).below b1)
 have HB1:=Lib.hid (B0.trans (b1.mono B0.size))
 clear b1 B0 F0 E0 P0 Q0 K HL
 have p0:w1.cell? ⟨w.heap.size+1,0,none⟩=some (.float .f32 s):=HP1.out.cell 0
 have p1:w1.cell? ⟨w.heap.size+1+1,0,none⟩=some (.float .f32 h):=HQ1.out.cell 0
 have l3:w.heap.size+1+1+1<w1.heap.size:=HF1.out.lt
 have l2:w.heap.size+1+1<w1.heap.size:=by omega
 have l1:w.heap.size+1<w1.heap.size:=by omega
 have l0:w.heap.size<w1.heap.size:=by omega
 go_wp2_with fail
 refine (KH.out _ _ (by simp [go_sem]) (by simp [go_sem])).mono ?_
 rintro e w2 ⟨rfl,rfl⟩
 go_wp2_with fail
 refine (KC.out _).mono ?_
 rintro e w2 ⟨rfl,b2⟩
 have b0:Below w1.heap.size w1 (w1.alloc (.cells #[.float .f32 s,.float .f32 h] 48)):=qBl
 have b2':=b0.trans (b2.mono b0.size)
 have HE2:=Lib.hid (HE1.out.below b2' HE1.out.lt)
 have HP2:=Lib.hid (HP1.out.below b2' HP1.out.lt)
 have HQ2:=Lib.hid (HQ1.out.below b2' HQ1.out.lt)
 have HF2:=Lib.hid (HF1.out.below b2' HF1.out.lt)
 have HL2:=Lib.hid (HL1.out.below b2')
 have HB2:=Lib.hid (HB1.out.trans (b2'.mono HB1.out.size))
 clear b0 b2 b2' p0 p1 l0 l1 l2 l3 HE1 HP1 HQ1 HF1 HL1 HB1
 have p0:w2.cell? ⟨w.heap.size+1,0,none⟩=some (.float .f32 s):=HP2.out.cell 0
 have p1:w2.cell? ⟨w.heap.size+1+1,0,none⟩=some (.float .f32 h):=HQ2.out.cell 0
 have l3:w.heap.size+1+1+1<w2.heap.size:=HF2.out.lt
 have l2:w.heap.size+1+1<w2.heap.size:=by omega
 have l1:w.heap.size+1<w2.heap.size:=by omega
 have l0:w.heap.size<w2.heap.size:=by omega
 obtain ⟨d0,d1,d2,d3,d4⟩:=HF2.out.cells
 have qf0:=HF2.out.frozen 0
 have qf1:=HF2.out.frozen 1
 have qf2:=HF2.out.frozen 2
 have qf3:=HF2.out.frozen 3
 have qf4:=HF2.out.frozen 4
 go_wp2_with fail
 have B3:=HB2.out
 exact bodyPost_ret (v:=.tuple #[fldV 0 0 0 0 none 0 0,.int .i64 3]) (by simp [results,Tryz.results73,go_sem, *]) rfl ⟨rfl,(qBo B3)⟩):G:=h
theorem qx5 {G:Prop} (h:G:=by
 go_enter Tryz.func54,Tryz.ntmps54
 go_upto_region 1 with fail
 generalize hW0:w.alloc (.cells #[.int .i64 kd,.int .u32 seed,.int .i64 cell,.int .i64 n,.float .f32 g,.float .f32 a] 88)=W0
 have A0:Blk W0 w.heap.size #[.int .i64 kd,.int .u32 seed,.int .i64 cell,.int .i64 n,.float .f32 g,.float .f32 a] 88:=by subst hW0;exact Blk.new _ _ _
 have b0:Below w.heap.size w W0:=by subst hW0;exact qBl
 have HB0:=Lib.hid b0
 have HA0:=Lib.hid A0
 clear b0 hW0 A0
 have p0:=HA0.out.cell 0
 have p1:=HA0.out.cell 1
 have p2:=HA0.out.cell 2
 have p3:=HA0.out.cell 3
 have p4:=HA0.out.cell 4
 have p5:=HA0.out.cell 5
 simp at p0 p1 p2 p3 p4 p5
 have l0:=HA0.out.lt
 go_wp2_with fail
 refine (KC.out _).mono ?_
 rintro e w1 ⟨rfl,b1⟩
 have HB1:=Lib.hid (HB0.out.trans (b1.mono HB0.out.size))
 have HA1:=Lib.hid (HA0.out.below b1 HA0.out.lt)
 clear b1 HB0 HA0 p0 p1 p2 p3 p4 p5 l0
 have p0:=HA1.out.cell 0
 have p1:=HA1.out.cell 1
 have p2:=HA1.out.cell 2
 have p3:=HA1.out.cell 3
 have p4:=HA1.out.cell 4
 have p5:=HA1.out.cell 5
 simp at p0 p1 p2 p3 p4 p5
 have l0:=HA1.out.lt
 go_wp2_with fail
 refine (KF.out _ _).mono ?_
 rintro e w2 ⟨rfl,rfl⟩
 go_upto_region 5 with fail
 have b3:Below w1.heap.size w1 (w1.alloc (.cells #[.float .f32 a] 48)):=qBl
 have HB3:=Lib.hid (HB1.out.trans (b3.mono HB1.out.size))
 have HA3:=Lib.hid (HA1.out.below b3 HA1.out.lt)
 clear b3 HB1 HA1 p0 p1 p2 p3 p4 p5 l0
 generalize w1.alloc (.cells #[.float .f32 a] 48)=w3 at *
 have p0:=HA3.out.cell 0
 have p1:=HA3.out.cell 1
 have p2:=HA3.out.cell 2
 have p3:=HA3.out.cell 3
 have p4:=HA3.out.cell 4
 have p5:=HA3.out.cell 5
 simp at p0 p1 p2 p3 p4 p5
 have l0:=HA3.out.lt
 go_wp2_with fail
 go_ret
 exact ⟨rfl,HB3.out⟩):G:=h
theorem qx6 {G:Prop} (h:G:=by
 have HE5:=Lib.hid (HE2.out.below B5 HE2.out.lt)
 have HF5:=Lib.hid (HF2.out.below B5 HF2.out.lt)
 have HL5:=Lib.hid (HL2.out.below B5)
 have HB5:=Lib.hid (HB2.out.trans (B5.mono HB2.out.size))
 have HG5:Hid (w2.heap.size≤W5.heap.size):=B5.size
 clear hW5 B5 r0 r1 r2 r3 r4 r5 r6 r7 r8 r9
 refine (KM.out _ _ _ _ _ _ HL5.out HE5.out a0 b0 c0 m0).mono ?_
 rintro e w6 ⟨⟨g,cap,rfl,ho⟩,b6⟩
 have HO6:=Lib.hid ho
 have HF6:=Lib.hid (HF5.out.below b6 HF5.out.lt)
 have HB6:=Lib.hid (HB5.out.trans (b6.mono HB5.out.size))
 clear ho b6 KM HE5 HL5 HE2 HL2 a0 b0 c0 m0
 go_wp2_with fail
 refine (KR.out _ _ _ _ _ _ _ _ HO6.out).mono ?_
 rintro e w7 ⟨⟨x,y,p,q,a,m,k,rfl,o7⟩,b7⟩
 have HOZ:=Lib.hid o7
 have HFZ:=Lib.hid (HF6.out.below b7 HF6.out.lt)
 have HBZ:=Lib.hid (HB6.out.trans (b7.mono HB6.out.size))
 have HZB:Hid (w.heap.size+1<W5.heap.size):=HF5.out.lt
 have HBB:Hid (w.heap.size≤W5.heap.size):=HB5.out.size
 clear o7 b7 KR HO6 HF6 HB6 HF2 HB2 HF5 HB5 l0 l1 x1 x2 y1 y2 z1 z2 x3 x4 y3 y4 z3 z4 HG5
 obtain ⟨d0,d1,d2,d3,d4⟩:=HFZ.out.cells
 have qf0:=HFZ.out.frozen 0
 have qf1:=HFZ.out.frozen 1
 have qf2:=HFZ.out.frozen 2
 have qf3:=HFZ.out.frozen 3
 have qf4:=HFZ.out.frozen 4
 have lz:=HFZ.out.lt
 go_wp2_with fail
 generalize hW5:((((w7.setCell ⟨w.heap.size+1,0,none⟩ (.int .i64 x)).setCell ⟨w.heap.size+1,1,none⟩ (.int .i64 y)).setCell ⟨w.heap.size+1,2,none⟩ (.int .i64 p)).setCell ⟨w.heap.size+1,3,none⟩ (.int .i64 q)).setCell ⟨w.heap.size+1,4,none⟩ (.slice a m k)=W5 at *
 obtain ⟨f5,bb5,oo5,_,z5⟩:=fld_store w7 (w.heap.size+1) 0 0 0 0 _ x y p q (.slice a m k) HFZ.out W5 hW5.symm
 have hO5:=(HOZ.out.set oo5 HZB.out).base HBB.out
 have hB5:=HBZ.out.trans (bb5.mono (by omega))
 clear d0 d1 d2 d3 d4 qf0 qf1 qf2 qf3 qf4 hW5 oo5
 obtain ⟨d0,d1,d2,d3,d4⟩:=f5.cells
 exact bodyPost_ret (v:=.tuple #[fldV x y p q a m k,.int .i64 C]) (by simp [results,Tryz.results127,go_sem, *]) rfl ⟨⟨x,y,p,q,a,m,k,rfl,hO5⟩,hB5⟩):G:=h
theorem qx7 {G:Prop} (h:G:=by
 intro w hSw
 have z0:=hSw.a.cell 0
 have z1:=hSw.a.cell 1
 have z2:=hSw.a.cell 2
 have z3:=hSw.a.cell 3
 have z4:=hSw.a.cell 4
 have y0:=hSw.o.cell 0
 have y1:=hSw.o.cell 1
 have y2:=hSw.o.cell 2
 have y3:=hSw.o.cell 3
 have y4:=hSw.o.cell 4
 simp at z0 z1 z2 z3 z4 y0 y1 y2 y3 y4
 go_simp
 try with_reducible rfl):G:=h
theorem qx8 {G:Prop} (h:G:=by
 refine ouA hK hN (fun hHeld=>?_)
 clear hK K
 try simp only [qS,qN,qC,qD]
 refine rdA 14 rfl (fun K hK=>?_)
 go_simp
 refine ouA hK hHeld (fun hHeld=>?_)
 clear hK K
 try simp only [qS,qN,qC,qD]
 refine wpAnyT_done (by kernel_rfl) ?_ _
 refine NoPanic.normal ?_
 have hA5:=HA2.out.call hHeld
 have HA5:=Lib.hid hA5
 have HF5:=Lib.hid f5
 clear hN hHeld f5
 rcases ho with ⟨hc,rfl,rfl,rfl,rfl,rfl,rfl,rfl⟩|⟨rfl,rfl,rfl,rfl,rfl,g,rfl,rfl,ho⟩
 ·have hbne:(c != 0)=true:=by rw [bne_iff_ne];exact hc
  have HNG:=Lib.hid (HGX.out d rfl (fun h=>hc (hcg.2 h)))
  clear hcg hA5 HGX HGN HFN hq
  go_wp2_with fail
  exact bodyPost_ret (v:=.tuple #[.slice none 0 0,.int .i64 c]) (by simp [results,Tryz.results35,go_sem, *]) rfl (.inr ⟨HNG.out,c,hc,rfl,HA5.out.b⟩)
 ·have hgd:=hcg.1 rfl
  have HG1:=Lib.hid (HGN.out d rfl hgd)
  have HR1:=HRD.out.right (fun x y h=>(hgd x y h).2)
  have hf1:=HFN.out d g k1 rfl HR1
  rw [hgl] at hf1
  have HF1:=Lib.hid hf1
  clear hf1
  have HS5:=Lib.hid (fun W5 h=>hA5.store (i:=k) (p:=⟨X-(d:Int),Y-(d:Int),W+2*d,H+2*d,g,k1,gl⟩) hkf (Nat.lt_of_lt_of_le hlg (Nat.le_trans hBg ho.lt.1)) (ho.base hWB) W5 h)
  obtain ⟨o0,o1,o2,o3,o4,q0,q1,q2,q3,q4⟩:=hA5.old (i:=k) hkf
  have u0:=hA5.ou.frozen (k*5)
  have u1:=hA5.ou.frozen (k*5+1)
  have u2:=hA5.ou.frozen (k*5+2)
  have u3:=hA5.ou.frozen (k*5+3)
  have u4:=hA5.ou.frozen (k*5+4)
  have lgo:=hA5.ou.lt
  obtain ⟨z0,z1,z2,z3,z4⟩:=HF5.out.cells
  have lz:=HF5.out.lt
  clear hgd hcg hA5 HGX HGN HFN hq HR1 ho
  go_wp2_with fail
  go_roundw
  case rel=>exact ⟨k+1,fo.set k (some ⟨X-(d:Int),Y-(d:Int),W+2*d,H+2*d,g,k1,gl⟩),Nat.succ_le_of_lt hlt,by go_num,HS5.out _ rfl,HF1.out,HG1.out⟩
  case measure=>simp [intOf];omega):G:=h
theorem qx9 {G:Prop} (h:G:=by
 go_enter Tryz.func40,Tryz.ntmps40
 go_upto_region 1 with fail
 generalize hW0:w.alloc (.cells #[.string s,.slice ia nin cin,.slice (some ⟨b,o,none⟩) 4 cI,.slice (some ⟨rb,ro,none⟩) 1 cR] 61)=W0
 have A0:NdAt W0 w.heap.size s ia nin cin (some ⟨b,o,none⟩) 4 cI (some ⟨rb,ro,none⟩) 1 cR:=by subst hW0;exact NdAt.new _ _ _ _ _ _ _ _ _ _ _
 have b0:Below w.heap.size w W0:=by subst hW0;exact qBl
 have HB0:=Lib.hid b0
 have HI0:=Lib.hid (HI.out.below b0)
 have HR0:=Lib.hid (HR.out.below b0)
 obtain ⟨p0,p1,p2,p3⟩:=A0.cells
 have l0:=A0.lt
 clear hW0 A0 b0 HI HR
 have x0:W0.cell? ⟨b,o,none⟩=some (.int .i64 i0):=HI0.out.at_ 0 (by simp)
 have x1:W0.cell? ⟨b,o+1,none⟩=some (.int .i64 i1):=HI0.out.at_ 1 (by simp)
 have x2:W0.cell? ⟨b,o+2,none⟩=some (.int .i64 i2):=HI0.out.at_ 2 (by simp)
 have x3:W0.cell? ⟨b,o+3,none⟩=some (.int .i64 i3):=HI0.out.at_ 3 (by simp)
 have lb:b<W0.heap.size:=HI0.out.lt (by simp)
 have y0:W0.cell? ⟨rb,ro,none⟩=some (.float .f32 r0):=HR0.out.cell1 0 (by simp)
 have lrb:rb<W0.heap.size:=HR0.out.lt1 (by simp)
 go_wp2_with fail
 refine (KH.out _ HR0.out).mono ?_
 rintro e w1 ⟨rfl,rfl⟩
 go_wp2_with (first|(go_at_call 50;go_in)|(go_at_call 51;refine (KW.out _ _ _ _).mono ?_;rintro e w' ⟨rfl,rfl⟩))
 refine (KM.out _ HI0.out HR0.out).mono ?_
 rintro e w1 ⟨rfl,b1⟩
 have HB1:=Lib.hid (HB0.out.trans (b1.mono HB0.out.size))
 clear b1
 go_wp2_with fail
 refine (KC.out _).mono ?_
 rintro e w2 ⟨rfl,b2⟩
 have HB2:=Lib.hid (HB1.out.trans (b2.mono HB1.out.size))
 clear b2
 go_wp2_with fail
 go_ret
 have hb:=HB2.out
 exact ⟨rfl,(qBo hb)⟩):G:=h
theorem qx10 {G:Prop} (h:G:=by
 have lrb:rb<W0.heap.size:=HR0.out.lt1 (by simp)
 go_wp2_with fail
 refine (KH.out _ HR0.out).mono ?_
 rintro e w1 ⟨rfl,rfl⟩
 go_wp2_with (first|(go_at_call 50;go_in)|(go_at_call 51;refine (KW.out _ _ _ _).mono ?_;rintro e w' ⟨rfl,rfl⟩))
 refine (KM.out _ HI0.out HR0.out).mono ?_
 rintro e w1 ⟨rfl,b1⟩
 have HB1:=Lib.hid (HB0.out.trans (b1.mono HB0.out.size))
 clear b1
 go_wp2_with fail
 refine (KC.out _).mono ?_
 rintro e w2 ⟨rfl,b2⟩
 have HB2:=Lib.hid (HB1.out.trans (b2.mono HB1.out.size))
 clear b2
 go_wp2_with fail
 go_ret
 have hb:=HB2.out
 exact ⟨rfl,(qBo hb)⟩):G:=h
theorem qx11 {G:Prop} (h:G:=by
 generalize addL φ X Y Wn Hn l=S at *
 generalize resC S=C at *
 go_enter Tryz.func111,Tryz.ntmps111
 go_wp2_with fail
 generalize hW0:((w.alloc (.cells #[.int .i64 X,.int .i64 Y,.int .i64 Wn,.int .i64 Hn,.slice (some ⟨b,o,none⟩) l.length c] 32)).alloc (.cells #[.func (.func gn) #[] caps] 141)).alloc (.cells #[.int .i64 0,.int .i64 0,.int .i64 0,.int .i64 0,.slice none 0 0] 32)=W0 at *
 obtain ⟨E0,P0,F0,B0⟩:=box_fm w X Y Wn Hn (.slice (some ⟨b,o,none⟩) l.length c) #[.func (.func gn) #[] caps] 141 W0 hW0.symm
 have hz0:W0.heap.size=w.heap.size+1+1+1:=by subst hW0;simp
 clear hW0
 generalize hW3:W0.alloc (.cells #[.int .i64 (-1)] 3)=W3 at *
 obtain ⟨n3,B3,z3⟩:=cnt_world1 W0 W3 hW3.symm
 clear hW3
 have HE3:=Lib.hid (E0.below B3 E0.lt)
 have HP3:=Lib.hid (P0.below B3 P0.lt)
 have HF3:=Lib.hid (F0.below B3 F0.lt)
 have HL3:=Lib.hid ((HL.out.below B0).below B3)
 have HB3:=Lib.hid (B0.trans (B3.mono B0.size))
 rw [hz0] at n3
 refine (KM.out _ _ _ _ HL3.out HE3.out HP3.out n3 (by omega) (by have:=HBL.out;omega) (by omega) (by omega) HB3.out).mono ?_
 rintro e w4 ⟨⟨g,cap,rfl,ho⟩,b4⟩
 have HF4:=Lib.hid (HF3.out.below b4 (by omega))
 have HB4:=Lib.hid (HB3.out.trans (b4.mono (by omega)))
 have HO4:=Lib.hid ho
 have HZ3:Hid (w.heap.size+1+1<W3.heap.size):=HF3.out.lt
 clear ho b4 KM HE3 HP3 HL3 HB3 B3 B0 E0 P0 F0 n3 z3 hz0 HF3
 go_wp2_with fail
 refine (KR.out _ _ _ _ _ _ _ _ HO4.out).mono ?_
 rintro e w7 ⟨⟨x,y,p,q,a,m,k,rfl,o7⟩,b7⟩
 have HOZ:=Lib.hid o7
 have HFZ:=Lib.hid (HF4.out.below b7 HF4.out.lt)
 have HBZ:=Lib.hid (HB4.out.trans (b7.mono HB4.out.size))
 have HZB:Hid (w.heap.size+1+1<W3.heap.size):=HZ3.out
 have HBB:Hid (w.heap.size≤W3.heap.size):=by have:=HZB.out;unfold Hid;omega
 clear o7 b7 KR HO4 HF4 HB4
 obtain ⟨d0,d1,d2,d3,d4⟩:=HFZ.out.cells
 have qf0:=HFZ.out.frozen 0
 have qf1:=HFZ.out.frozen 1
 have qf2:=HFZ.out.frozen 2
 have qf3:=HFZ.out.frozen 3
 have qf4:=HFZ.out.frozen 4
 have lz:=HFZ.out.lt
 go_wp2_with fail
 generalize hW5:((((w7.setCell ⟨w.heap.size+1+1,0,none⟩ (.int .i64 x)).setCell ⟨w.heap.size+1+1,1,none⟩ (.int .i64 y)).setCell ⟨w.heap.size+1+1,2,none⟩ (.int .i64 p)).setCell ⟨w.heap.size+1+1,3,none⟩ (.int .i64 q)).setCell ⟨w.heap.size+1+1,4,none⟩ (.slice a m k)=W5 at *
 obtain ⟨f5,bb5,oo5,_,z5⟩:=fld_store w7 (w.heap.size+1+1) 0 0 0 0 _ x y p q (.slice a m k) HFZ.out W5 hW5.symm
 have hO5:=(HOZ.out.set oo5 HZB.out).base HBB.out
 have hB5:=HBZ.out.trans (bb5.mono (by omega))
 clear d0 d1 d2 d3 d4 qf0 qf1 qf2 qf3 qf4 hW5 oo5
 obtain ⟨d0,d1,d2,d3,d4⟩:=f5.cells
 exact bodyPost_ret (v:=.tuple #[fldV x y p q a m k,.int .i64 C]) (by simp [results,Tryz.results111,go_sem, *]) rfl ⟨⟨x,y,p,q,a,m,k,rfl,hO5⟩,hB5⟩):G:=h
theorem qx12 {G:Prop} (h:G:=by
 go_enter Tryz.func40,Tryz.ntmps40
 go_upto_region 1 with fail
 generalize hW0:w.alloc (.cells #[.string s,.slice ia nin cin,.slice (some ⟨b,o,none⟩) 1 cI,.slice ra 0 cR] 61)=W0
 have A0:NdAt W0 w.heap.size s ia nin cin (some ⟨b,o,none⟩) 1 cI ra 0 cR:=by subst hW0;exact NdAt.new _ _ _ _ _ _ _ _ _ _ _
 have b0:Below w.heap.size w W0:=by subst hW0;exact qBl
 have HB0:=Lib.hid b0
 have HI0:=Lib.hid (HI.out.below b0)
 have HR0:=Lib.hid (HR.out.below b0)
 obtain ⟨p0,p1,p2,p3⟩:=A0.cells
 have l0:=A0.lt
 clear hW0 A0 b0 HI HR
 have x0:W0.cell? ⟨b,o,none⟩=some (.int .i64 i0):=HI0.out.at_ 0 (by simp)
 have lb:b<W0.heap.size:=HI0.out.lt (by simp)
 go_wp2_with fail
 refine (KH.out _ HR0.out).mono ?_
 rintro e w1 ⟨rfl,rfl⟩
 go_wp2_with (first|(go_at_call 50;go_in)|(go_at_call 51;refine (KW.out _ _ _ _).mono ?_;rintro e w' ⟨rfl,rfl⟩))
 go_ret
 have hb:=HB0.out
 exact ⟨rfl,(qBo hb)⟩):G:=h
theorem qx13 {G:Prop} (h:G:=by
 clear hk hT
 generalize fltD (ax+bi+C) (sa+sb)=zd at *
 generalize rootF (cv (sa+sb))=zr at *
 generalize hzk:cv (ax+bi+C)=zk at *
 generalize hzs:cv (sa+sb)=zs at *
 change floatOfInt .f32 (ax+bi+C)=zk at hzk
 change floatOfInt .f32 (sa+sb)=zs at hzs
 generalize hzw:cv 0=zw at *
 change floatOfInt .f32 0=zw at hzw
 go_enter Tryz.func115,Tryz.ntmps115
 go_wp2_with fail
 generalize hW0:w.alloc (.cells #[.int .i64 A,.int .i64 B,.int .i64 C,.int .i64 0,.float .f32 T] 96)=W0 at *
 have HK0:Hid (Blk W0 w.heap.size #[.int .i64 A,.int .i64 B,.int .i64 C,.int .i64 0,.float .f32 T] 96):=by subst hW0;exact Blk.new _ _ _
 have HB0:Hid (Below w.heap.size w W0):=Lib.hid (by subst hW0;exact qBl)
 clear hW0
 have t3:W0.cell? ⟨w.heap.size,3,none⟩=some (.int .i64 0):=HK0.out.cell 3
 have t0:W0.cell? ⟨w.heap.size,0,none⟩=some (.int .i64 A):=HK0.out.cell 0
 have t1:W0.cell? ⟨w.heap.size,1,none⟩=some (.int .i64 B):=HK0.out.cell 1
 have t2:W0.cell? ⟨w.heap.size,2,none⟩=some (.int .i64 C):=HK0.out.cell 2
 have t4:W0.cell? ⟨w.heap.size,4,none⟩=some (.float .f32 T):=HK0.out.cell 4
 have l0:w.heap.size<W0.heap.size:=HK0.out.lt
 refine (KR.out _).mono ?_
 rintro e w1 ⟨rfl,rfl⟩
 go_wp2_with fail
 go_ret
 exact ⟨rfl,(by have h:=HB0.out;exact (qBo h))⟩):G:=h
theorem qx14 {G:Prop} (h:G:=by
 generalize hashTo seed x y 8 3=hh at *
 generalize mulF (addF (ter2 s v) 1065353216) s=z6 at *
 generalize addF (ter2 s v) 1065353216=z5 at *
 generalize mulF (ter2 s v) s=z4 at *
 generalize ter3 s v=z3 at *
 generalize ter2 s v=z2 at *
 generalize ter1 s v=z1 at *
 generalize hsF seed x y 8=u at *
 have h:=hst
 clear hst
 have hkc:=h.cnt
 obtain ⟨cc,hcc⟩:∃ cc:Int,cc=(k:Int)-1:=⟨_,rfl⟩
 rw [←hcc] at hkc
 have HCC:Hid (cc+1=(k:Int)):=by unfold Hid;omega
 have hk1:-1≤cc:=by omega
 have hk2:cc≤1099511627776:=by have:=h.row.1.1;have:=h.kl;omega
 have hk4:(k:Int)<l.length:=by have:=h.kl;omega
 have hk5:l.length≤1099511627776:=h.row.1.1
 clear hcc
 have c0:w.cell? ⟨p,0,none⟩=some (.int .i64 cc):=hkc.cell 0
 have cf:w.frozen? ⟨p,0,none⟩=false:=hkc.frozen 0
 have hp1:=hkc.lt
 go_enter Tryz.func110,Tryz.ntmps110
 go_wp2_with fail
 rw [HCC.out]
 have HB0:=Lib.hid (But.setq (B:=w.heap.size) (q:=fun j=>j=p) (w:=w) (p:=⟨p,0,none⟩) (.int .i64 k) rfl)
 have HC2:=Lib.hid (CntAt.setc hkc (k:Int))
 have HF2:=Lib.hid (h.fo.but HB0.out h.fo.lt h.qp)
 have HR2:=Lib.hid (h.row.but HB0.out h.bl h.bp)
 have d4:=HF2.out.cells.2.2.2.2
 have dr:=SRow.at_ HR2.out h.kl
 rw [HV0.out] at dr
 have da:=blk_cell1 ha HB0.out pap
 have db:=blk_cell1 hb HB0.out pbp
 have dp:(w.setCell ⟨p,0,none⟩ (.int .i64 (k:Int))).cell? ⟨p,0,none⟩=some (.int .i64 (k:Int)):=HC2.out.cell 0
 have hz:w.heap.size≤(w.setCell ⟨p,0,none⟩ (.int .i64 (k:Int))).heap.size:=HB0.out.size
 have l1:=h.fo.lt
 have l2:=h.bl
 have l3:=ha.lt
 have l4:=hb.lt
 have hpl:Hid (p<(w.setCell ⟨p,0,none⟩ (.int .i64 (k:Int))).heap.size):=HC2.out.lt
 have hpl2:=hpl.out
 clear h ha hb pap pbp c0 cf hkc hp1
 generalize w.setCell ⟨p,0,none⟩ (.int .i64 (k:Int))=W2 at *
 have hk6:(0:Int)≤k:=by omega
 go_quiet (fail)
 have HBW:=Lib.hid (Below.drewN_self W2 nq)
 have da2:(W2.drewN nq).cell? ⟨pa,0,none⟩=some (.float .f32 s):=da
 have db2:(W2.drewN nq).cell? ⟨pb,0,none⟩=some (.int .u32 seed):=db
 have l3:pa<(W2.drewN nq).heap.size:=by have:=HBW.out.size;omega
 have l4:pb<(W2.drewN nq).heap.size:=by have:=HBW.out.size;omega
 clear d4 dr da db dp
 generalize W2.drewN nq=W3 at *
 go_wp2_with fail
 refine (KF.out _).mono ?_
 rintro en wz ⟨rfl,rfl⟩
 go_wp2_with fail
 refine (KH.out _).mono ?_
 rintro en wz ⟨rfl,rfl⟩
 go_wp2_with fail
 refine (KU.out _).mono ?_
 rintro en wz ⟨rfl,rfl⟩
 go_wp2_with fail
 go_ret
 exact ⟨rfl,HB0.out.trans ((But.of HBW.out).mono hz),HC2.out.below HBW.out hpl.out⟩):G:=h
theorem qx15 {G:Prop} (h:G:=by
 unfold sdE
 cases hw:wB i0 0 4294967295 with
 | true =>
  rw [if_pos rfl]
  go_enter Tryz.func40,Tryz.ntmps40
  go_upto_region 1 with fail
  generalize hW0:w.alloc (.cells #[.string s,.slice ia nin cin,.slice (some ⟨b,o,none⟩) 1 cI,.slice (some ⟨rb,ro,none⟩) 1 cR] 61)=W0
  have A0:NdAt W0 w.heap.size s ia nin cin (some ⟨b,o,none⟩) 1 cI (some ⟨rb,ro,none⟩) 1 cR:=by subst hW0;exact NdAt.new _ _ _ _ _ _ _ _ _ _ _
  have b0:Below w.heap.size w W0:=by subst hW0;exact qBl
  have HB0:=Lib.hid b0
  have HI0:=Lib.hid (HI.out.below b0)
  have HR0:=Lib.hid (HR.out.below b0)
  obtain ⟨p0,p1,p2,p3⟩:=A0.cells
  have l0:=A0.lt
  clear hW0 A0 b0 HI HR
  have x0:W0.cell? ⟨b,o,none⟩=some (.int .i64 i0):=HI0.out.at_ 0 (by simp)
  have lb:b<W0.heap.size:=HI0.out.lt (by simp)
  have y0:W0.cell? ⟨rb,ro,none⟩=some (.float .f32 r0):=HR0.out.cell1 0 (by simp)
  have lrb:rb<W0.heap.size:=HR0.out.lt1 (by simp)
  go_wp2_with fail
  refine (KH.out _ HR0.out).mono ?_
  rintro e w1 ⟨rfl,rfl⟩
  go_wp2_with (first|(go_at_call 50;go_in)|(go_at_call 51;refine (KW.out _ _ _ _).mono ?_;rintro e w' ⟨rfl,rfl⟩))
  refine (KT.out _ HI0.out HR0.out).mono ?_
  rintro e w2 ⟨rfl,b2⟩
  have HB2:=Lib.hid (HB0.out.trans (b2.mono HB0.out.size))
  clear b2
  go_wp2_with fail
  go_ret
  have hb:=HB2.out
  exact ⟨rfl,(qBo hb)⟩
 | false =>
  rw [if_neg (by decide)]
  go_enter Tryz.func40,Tryz.ntmps40
  go_upto_region 1 with fail
  generalize hW0:w.alloc (.cells #[.string s,.slice ia nin cin,.slice (some ⟨b,o,none⟩) 1 cI,.slice (some ⟨rb,ro,none⟩) 1 cR] 61)=W0
  have A0:NdAt W0 w.heap.size s ia nin cin (some ⟨b,o,none⟩) 1 cI (some ⟨rb,ro,none⟩) 1 cR:=by subst hW0;exact NdAt.new _ _ _ _ _ _ _ _ _ _ _
  have b0:Below w.heap.size w W0:=by subst hW0;exact qBl
  have HB0:=Lib.hid b0
  have HI0:=Lib.hid (HI.out.below b0)
  have HR0:=Lib.hid (HR.out.below b0)
  obtain ⟨p0,p1,p2,p3⟩:=A0.cells
  have l0:=A0.lt
  clear hW0 A0 b0 HI HR
  have x0:W0.cell? ⟨b,o,none⟩=some (.int .i64 i0):=HI0.out.at_ 0 (by simp)
  have lb:b<W0.heap.size:=HI0.out.lt (by simp)
  have y0:W0.cell? ⟨rb,ro,none⟩=some (.float .f32 r0):=HR0.out.cell1 0 (by simp)
  have lrb:rb<W0.heap.size:=HR0.out.lt1 (by simp)
  go_wp2_with fail
  refine (KH.out _ HR0.out).mono ?_
  rintro e w1 ⟨rfl,rfl⟩
  go_wp2_with (first|(go_at_call 50;go_in)|(go_at_call 51;refine (KW.out _ _ _ _).mono ?_;rintro e w' ⟨rfl,rfl⟩))
  go_ret
  have hb:=HB0.out
  exact ⟨rfl,(qBo hb)⟩):G:=h
theorem qx16 {G:Prop} (h:G:=by
 go_enter Tryz.func58,Tryz.ntmps58
 go_wp2_with (first|(go_at_call 86;(with_reducible refine (KW.out _ _ (by simp [go_sem]) (by simp [go_sem])).mono ?_);rintro e w' ⟨rfl,rfl⟩)|(go_at_call 86;(with_reducible refine (KU.out _ _ (by simp [go_sem])).mono ?_);rintro e w' ⟨rfl,rfl⟩)|(go_at_call 32;refine (K1.out _ _ (by simp [go_sem])).mono ?_;rintro e w' ⟨rfl,rfl⟩))
 go_ret
 exact ⟨rfl,qBl⟩):G:=h
theorem qx17 {G:Prop} (h:G:=by
 go_wp2_with fail
 refine (KH.out _ HR0.out).mono ?_
 rintro e w1 ⟨rfl,rfl⟩
 go_wp2_with (first|(go_at_call 50;go_in)|(go_at_call 51;refine (KW.out _ _ _ _).mono ?_;rintro e w' ⟨rfl,rfl⟩))
 go_ret
 have hb:=HB0.out
 exact ⟨rfl,(qBo hb)⟩):G:=h
theorem qx18 {G:Prop} (h:G:=by
 go_enter Tryz.func44,Tryz.ntmps44
 go_upto_region 1 with fail
 generalize hW0:w.alloc (.cells #[.string s,.slice ia nin cin,.slice (some ⟨b,o,none⟩) 1 cI,.slice ra nR cR] 61)=W0
 have A0:NdAt W0 w.heap.size s ia nin cin (some ⟨b,o,none⟩) 1 cI ra nR cR:=by subst hW0;exact NdAt.new _ _ _ _ _ _ _ _ _ _ _
 have b0:Below w.heap.size w W0:=by subst hW0;exact qBl
 have HB0:=Lib.hid b0
 have HI0:=Lib.hid (HI.out.below b0)
 obtain ⟨p0,p1,p2,p3⟩:=A0.cells
 have l0:=A0.lt
 clear hW0 A0 HI
 have x0:W0.cell? ⟨b,o,none⟩=some (.int .i64 i0):=HI0.out.at_ 0 (by simp)
 have lb:b<W0.heap.size:=HI0.out.lt (by simp)
 clear b0
 go_wp2_with fail
 go_ret
 have hb:=HB0.out
 exact ⟨rfl,(qBo hb)⟩):G:=h
theorem qx19 {G:Prop} (h:G:=by
 have KC:=Lib.hid KC
 have HS:=Lib.hid (ErS.start (s:=s) (ia:=ia) (nin:=nin) (cin:=cin) (nI:=0) (cI:=cI) (nR:=0) (cR:=cR) (X:=X) (Y:=Y) (W:=W) (H:=H) (p0:=p0) hI hR hP)
 clear hI hR hP
 go_enter Tryz.func80,Tryz.ntmps80
 go_upto_region 1 with fail
 generalize (((w.alloc (.cells #[.string s,.slice ia nin cin,.slice la 0 cI,.slice ra 0 cR] 61)).alloc (.cells #[.int .i64 X,.int .i64 Y,.int .i64 W,.int .i64 H] 26)).alloc (.cells #[.int .i64 p0.X,.int .i64 p0.Y,.int .i64 p0.W,.int .i64 p0.H,.slice (some ⟨p0.g,0,none⟩) p0.l.length p0.c] 32)).alloc (.cells #[.int .i64 0,.int .i64 0,.int .i64 0,.int .i64 0,.slice none 0 0] 32)=W0 at *
 have p0':=HS.out.nd.cells.1
 have l0':=HS.out.nd.lt
 obtain ⟨c0,c1,c2,c3,c4⟩:=HS.out.bx.cells
 have lb:=HS.out.bx.lt
 go_wp2_with fail
 refine (KC.out _ HS.out.f).mono ?_
 clear p0' l0' c0 c1 c2 c3 c4 lb
 rintro e w2 ⟨⟨x,y,p,q,a,n,k,rfl,ho⟩,hb⟩
 have F2:=HS.out.rs.below hb HS.out.rs.lt
 have HB2:=Lib.hid (HS.out.b.trans (hb.mono HS.out.b.size))
 have HO:=Lib.hid ho
 have HZ:=Lib.hid HS.out.rs.lt
 have HZB:=Lib.hid HS.out.b.size
 clear hb ho
 obtain ⟨d0,d1,d2,d3,d4⟩:=F2.cells
 obtain ⟨qf0,qf1,qf2,qf3,qf4⟩:_∧_∧_∧_∧_:=⟨F2.frozen 0,F2.frozen 1,F2.frozen 2,F2.frozen 3,F2.frozen 4⟩
 have lz:=F2.lt
 have HF2:=Lib.hid F2
 clear F2
 go_wp2_with fail
 obtain ⟨f5,b5,oo5,_,z5⟩:=fld_store w2 (w.heap.size+3) 0 0 0 0 _ x y p q (.slice a n k) HF2.out _ rfl
 have hO5:=(HO.out.set oo5 HZ.out).base HZB.out
 generalize ((((w2.setCell ⟨w.heap.size+3,0,none⟩ (.int .i64 x)).setCell ⟨w.heap.size+3,1,none⟩ (.int .i64 y)).setCell ⟨w.heap.size+3,2,none⟩ (.int .i64 p)).setCell ⟨w.heap.size+3,3,none⟩ (.int .i64 q)).setCell ⟨w.heap.size+3,4,none⟩ (.slice a n k)=W5 at *
 obtain ⟨z0,z1,z2,z3,z4⟩:=f5.cells
 have hb:=HB2.out.trans (b5.mono (by omega))
 clear f5 b5 oo5 d0 d1 d2 d3 d4 qf0 qf1 qf2 qf3 qf4 HF2 z5
 exact bodyPost_ret (v:=.tuple #[fldV x y p q a n k,.int .i64 c]) (by simp [results,Tryz.results80,go_sem, *]) rfl ⟨⟨x,y,p,q,a,n,k,rfl,hO5⟩,hb⟩):G:=h
theorem qx20 {G:Prop} (h:G:=by
 go_wp2_with fail
 refine (KH.out _ HR0.out).mono ?_
 rintro e w1 ⟨rfl,rfl⟩
 go_wp2_with (first|(go_at_call 50;go_in)|(go_at_call 51;refine (KW.out _ _ _ _).mono ?_;rintro e w' ⟨rfl,rfl⟩))
 refine (KT.out _ HI0.out HR0.out).mono ?_
 rintro e w2 ⟨rfl,b2⟩
 have HB2:=Lib.hid (HB0.out.trans (b2.mono HB0.out.size))
 clear b2
 go_wp2_with fail
 go_ret
 have hb:=HB2.out
 exact ⟨rfl,(qBo hb)⟩):G:=h
theorem qx21 {G:Prop} (h:G:=by
 have t0:W0.cell? ⟨w.heap.size,0,none⟩=some (.int .i64 A):=HK0.out.cell 0
 have t1:W0.cell? ⟨w.heap.size,1,none⟩=some (.int .i64 B):=HK0.out.cell 1
 have t2:W0.cell? ⟨w.heap.size,2,none⟩=some (.int .i64 C):=HK0.out.cell 2
 have t4:W0.cell? ⟨w.heap.size,4,none⟩=some (.float .f32 T):=HK0.out.cell 4
 have l0:w.heap.size<W0.heap.size:=HK0.out.lt
 refine (KR.out _).mono ?_
 rintro e w1 ⟨rfl,rfl⟩
 go_wp2_with fail
 go_ret
 exact ⟨rfl,(by have h:=HB0.out;exact (qBo h))⟩):G:=h
theorem qx22 {G:Prop} (h:G:=by
 go_enter Tryz.func62,Tryz.ntmps62
 go_wp2_with (first|(go_at_call 32;refine (K1.out _ _ (by simp [go_sem])).mono ?_;rintro e w' ⟨rfl,rfl⟩)|(go_at_call 84;refine (K2.out _ _ (by simp [go_sem])).mono ?_;rintro e w' ⟨rfl,rfl⟩))
 go_ret
 exact ⟨rfl,qBl⟩):G:=h
theorem qx23 {G:Prop} (h:G:=by
 generalize foldT k P=z3 at *
 generalize foldY k=z2 at *
 generalize hz0:cv k=z0 at *
 generalize hzr:cv P=zr at *
 change floatOfInt .f32 k=z0 at hz0
 change floatOfInt .f32 P=zr at hzr
 go_enter Tryz.func117,Tryz.ntmps117
 go_wp2_with fail
 generalize hW0:w.alloc (.cells #[.int .i64 A,.int .i64 B,.int .i64 P,.float .f32 H] 100)=W0 at *
 have HK0:Hid (Blk W0 w.heap.size #[.int .i64 A,.int .i64 B,.int .i64 P,.float .f32 H] 100):=by subst hW0;exact Blk.new _ _ _
 have HB0:Hid (Below w.heap.size w W0):=Lib.hid (by subst hW0;exact qBl)
 clear hW0
 refine (KL.out _).mono ?_
 rintro e w1 ⟨rfl,b1⟩
 have HK1:=Lib.hid (HK0.out.below b1 HK0.out.lt)
 have HB1:=Lib.hid (HB0.out.trans (b1.mono HB0.out.size))
 clear b1 HK0 HB0
 have t2:w1.cell? ⟨w.heap.size,2,none⟩=some (.int .i64 P):=HK1.out.cell 2
 have t3:w1.cell? ⟨w.heap.size,3,none⟩=some (.float .f32 H):=HK1.out.cell 3
 have l0:w.heap.size<w1.heap.size:=HK1.out.lt
 go_wp2_with fail
 go_region_held3 (fun w'=>w'.cell? ⟨w.heap.size,3,none⟩=some (.float .f32 H)∧Below w1.heap.size w1 w')
   (first
     | exact ⟨t3,(Below.refl _ _).drew⟩
     | (go_split_ands
        have hs:=hb.size
        have hs2:=(show Below w1.heap.size w1 _ by assumption).size
        refine ⟨?_,?_⟩
        all_goals first
          | (rw [hb.cell (by simp;omega)];assumption)
          | exact Below.trans (by assumption) (hb.mono (by omega)))
     | (go_split_ands;refine ⟨?_,?_⟩<;>assumption))
   (first|(go_at_call 140;go_split_ands;refine (KE.out _).mono ?_;rintro e2 w2 ⟨rfl,hb⟩))
 rename_i hHeld
 have hB:=HB1.out.trans (hHeld.2.mono HB1.out.size)
 clear hHeld
 go_wp2_with fail
 go_ret
 exact ⟨rfl,(qBo hB)⟩):G:=h
theorem qx24 {G:Prop} (h:G:=by
 have p0:=HJ0.out.wp.cell 0
 have p1:=HJ0.out.wp.cell 1
 have p2:=HJ0.out.wp.cell 2
 have p3:=HJ0.out.wp.cell 3
 have p4:=HJ0.out.wp.cell 4
 have p5:=HJ0.out.wp.cell 5
 simp at p0 p1 p2 p3 p4 p5
 have l0:=HJ0.out.wp.lt
 go_enter Tryz.func169,Tryz.ntmps169
 go_wp2_with fail
 refine (KW.out _).mono ?_
 rintro e w1 ⟨rfl,b1⟩
 have HB1:=Lib.hid b1
 have HJ1:=Lib.hid (HJ0.out.under (b1.mono HJ0.out.sz))
 clear b1 HJ0 KW
 clear p0 p1 p2 p3 p4 p5 l0
 go_upto_region 2 with fail
 have A2:=(Blk.new w1 #[.int .i64 px,.int .i64 py] 185)
 have b2:Below w1.heap.size w1 (w1.alloc (.cells #[.int .i64 px,.int .i64 py] 185)):=qBl
 have HB2:=Lib.hid (HB1.out.trans (b2.mono HB1.out.size))
 have HJ2:=Lib.hid (HJ1.out.under (b2.mono HJ1.out.sz))
 clear b2 HB1 HJ1
 generalize w1.alloc (.cells #[.int .i64 px,.int .i64 py] 185)=w2 at *
 obtain ⟨f0,f1,f2,f3,f4⟩:=HJ2.out.fo.cells
 have lf:=HJ2.out.fo.lt
 have t0:=A2.cell 0
 have t1:=A2.cell 1
 simp at t0 t1
 have lt':=A2.lt
 clear A2
 generalize w1.heap.size=k9 at *
 go_wp2_with fail
 refine (KP.out _).mono ?_
 rintro e w3 ⟨rfl,b3⟩
 have HB3:=Lib.hid (HB2.out.trans (b3.mono HB2.out.size))
 have HJ3:=Lib.hid (HJ2.out.under (b3.mono HJ2.out.sz))
 clear b3 HB2 HJ2 f0 f1 f2 f3 f4 lf t0 t1 lt' KP
 obtain ⟨o1,o2⟩:=HJ3.out.cellok
 go_upto_region 4 with fail
 have HJ4:=Lib.hid (HJ3.out.set false)
 have HU4:=Lib.hid ((But.of HB3.out).trans (wset_but w3.heap.size (fun k=>k=ko) w3 ⟨ko,0,none⟩ (.bool false) rfl |>.mono HB3.out.size))
 generalize w3.setCell ⟨ko,0,none⟩ (.bool false)=w4 at *
 clear HJ3 HB3 o1 o2
 go_wp2_with fail
 go_ret
 exact ⟨rfl,HU4.out,HJ4.out⟩):G:=h
theorem qx25 {G:Prop} (h:G:=by
 obtain rfl:k=A.length:=by omega
 have FI:=Lib.hid I
 rw [combL_all,HMM.out] at FI
 obtain ⟨c0,c1,c2,c3,c4⟩:=FI.out.fc.cells
 have lc:=FI.out.fc.lt
 clear I
 clear HMM
 go_wp2_with fail
 rw [←hml.out]
 refine (KR.out _ _ _ _ FI.out.own).mono ?_
 rintro e w4 ⟨⟨x,y,p,q,a,m,k,rfl,o4⟩,b4⟩
 have HOZ:=Lib.hid o4
 have HFZ:=Lib.hid (FI.out.fz.below b4 FI.out.fz.lt)
 have HBZ:=Lib.hid (FI.out.below.trans (b4.mono FI.out.below.size))
 have HZB:Hid (w.heap.size+1+1<B0):=HB0
 have HBB:Hid (w.heap.size≤B0):=by have:=HB0.out;unfold Hid;omega
 clear o4 b4 KR FI c0 c1 c2 c3 c4 lc
 obtain ⟨d0,d1,d2,d3,d4⟩:=HFZ.out.cells
 have qf0:=HFZ.out.frozen 0
 have qf1:=HFZ.out.frozen 1
 have qf2:=HFZ.out.frozen 2
 have qf3:=HFZ.out.frozen 3
 have qf4:=HFZ.out.frozen 4
 have lz:=HFZ.out.lt
 go_wp2_with fail
 generalize hW5:((((w4.setCell ⟨w.heap.size+1+1,0,none⟩ (.int .i64 x)).setCell ⟨w.heap.size+1+1,1,none⟩ (.int .i64 y)).setCell ⟨w.heap.size+1+1,2,none⟩ (.int .i64 p)).setCell ⟨w.heap.size+1+1,3,none⟩ (.int .i64 q)).setCell ⟨w.heap.size+1+1,4,none⟩ (.slice a m k)=W5 at *
 obtain ⟨f5,bb5,oo5,_,z5⟩:=fld_store w4 (w.heap.size+1+1) 0 0 0 0 _ x y p q (.slice a m k) HFZ.out W5 hW5.symm
 have hO5:=(HOZ.out.set oo5 HZB.out).base HBB.out
 have hB5:=HBZ.out.trans (bb5.mono (by omega))
 clear d0 d1 d2 d3 d4 qf0 qf1 qf2 qf3 qf4 hW5 oo5
 obtain ⟨d0,d1,d2,d3,d4⟩:=f5.cells
 exact bodyPost_ret (v:=.tuple #[fldV x y p q a m k,.int .i64 C]) (by simp [results,Tryz.results79,go_sem, *]) rfl ⟨⟨x,y,p,q,a,m,k,rfl,hO5⟩,hB5⟩):G:=h
theorem qx26 {G:Prop} (h:G:=by
 go_enter Tryz.func44,Tryz.ntmps44
 go_upto_region 1 with fail
 generalize hW0:w.alloc (.cells #[.string s,.slice ia nin cin,.slice la nI cI,.slice ra nR cR] 61)=W0
 have A0:NdAt W0 w.heap.size s ia nin cin la nI cI ra nR cR:=by subst hW0;exact NdAt.new _ _ _ _ _ _ _ _ _ _ _
 have b0:Below w.heap.size w W0:=by subst hW0;exact qBl
 have HB0:=Lib.hid b0
 obtain ⟨p0,p1,p2,p3⟩:=A0.cells
 have l0:=A0.lt
 clear hW0 A0
 clear b0
 go_wp2_with fail
 go_ret
 have hb:=HB0.out
 exact ⟨rfl,(qBo hb)⟩):G:=h
theorem qx27 {G:Prop} (h:G:=by
 rintro _ rfl
 refine ⟨(((Fld.new w X Y W H v).alloc _).alloc _).alloc _,?_,?_,?_,qBl⟩
 ·have:=((Blk.new (w.alloc (.cells #[.int .i64 X,.int .i64 Y,.int .i64 W,.int .i64 H,v] 32)) c1 t1).alloc (.cells c2 t2)).alloc (.cells #[.int .i64 0,.int .i64 0,.int .i64 0,.int .i64 0,.slice none 0 0] 32)
  simpa using this
 ·have:=(Blk.new ((w.alloc (.cells #[.int .i64 X,.int .i64 Y,.int .i64 W,.int .i64 H,v] 32)).alloc (.cells c1 t1)) c2 t2).alloc (.cells #[.int .i64 0,.int .i64 0,.int .i64 0,.int .i64 0,.slice none 0 0] 32)
  simpa using this
 ·have:=Fld.new (((w.alloc (.cells #[.int .i64 X,.int .i64 Y,.int .i64 W,.int .i64 H,v] 32)).alloc (.cells c1 t1)).alloc (.cells c2 t2)) 0 0 0 0 (.slice none 0 0)
  simpa using this):G:=h
theorem qx28 {G:Prop} (h:G:=by
 go_enter Tryz.func60,Tryz.ntmps60
 go_wp2_with (first|(go_at_call 86;refine (KW.out _ _ (by simp [go_sem]) (by simp [go_sem])).mono ?_;rintro e w' ⟨rfl,rfl⟩)|(go_at_call 32;refine (K1.out _ _ (by simp [go_sem])).mono ?_;rintro e w' ⟨rfl,rfl⟩))
 go_ret
 exact ⟨rfl,qBl⟩):G:=h
theorem qx29 {G:Prop} (h:G:=by
 generalize hR:R*R=r at *
 go_enter Tryz.func113,Tryz.ntmps113
 go_wp2_with fail
 generalize hW0:w.alloc (.cells #[.int .i64 k,.int .i64 X,.int .i64 Y,.int .i64 R,.float .f32 H] 92)=W0 at *
 have HK0:Hid (Blk W0 w.heap.size #[.int .i64 k,.int .i64 X,.int .i64 Y,.int .i64 R,.float .f32 H] 92):=by subst hW0;exact Blk.new _ _ _
 have HB0:Hid (Below w.heap.size w W0):=Lib.hid (by subst hW0;exact qBl)
 clear hW0
 have t0:W0.cell? ⟨w.heap.size,0,none⟩=some (.int .i64 k):=HK0.out.cell 0
 have t1:W0.cell? ⟨w.heap.size,1,none⟩=some (.int .i64 X):=HK0.out.cell 1
 have t2:W0.cell? ⟨w.heap.size,2,none⟩=some (.int .i64 Y):=HK0.out.cell 2
 have t3:W0.cell? ⟨w.heap.size,3,none⟩=some (.int .i64 R):=HK0.out.cell 3
 have l0:w.heap.size<W0.heap.size:=HK0.out.lt
 go_quiet (fail)
 clear t0 t1 t2 t3 l0
 generalize hW1:W0.drewN nq=W1 at *
 have HK1:Hid (Blk W1 w.heap.size #[.int .i64 k,.int .i64 X,.int .i64 Y,.int .i64 R,.float .f32 H] 92):=by subst hW1;exact HK0.out
 have HB1:Hid (Below w.heap.size w W1):=Lib.hid (by subst hW1;have h:=HB0.out;exact (qBo h))
 clear hW1 HK0 HB0
 have t0:W1.cell? ⟨w.heap.size,0,none⟩=some (.int .i64 k):=HK1.out.cell 0
 have t3:W1.cell? ⟨w.heap.size,3,none⟩=some (.int .i64 R):=HK1.out.cell 3
 have l0:w.heap.size<W1.heap.size:=HK1.out.lt
 go_wp2
 go_ret
 exact ⟨rfl,(by have h:=HB1.out;exact (qBo h))⟩):G:=h
theorem qx30 {G:Prop} (h:G:=by
 go_enter Tryz.func78,Tryz.ntmps78
 go_wp2_with fail
 refine (KI.out _ _ (heap_alloc_new w _)).mono ?_
 rintro e w2 ⟨rfl,rfl⟩
 go_wp2_with fail
 go_ret
 exact ⟨rfl,qBl⟩):G:=h
theorem qx31 {G:Prop} (h:G:=by
 have c0:W.cell? ⟨k,0,none⟩=some (.string { data:=#[] }):=cell_of_row W k 0 _ _ _ hk
 have c1:W.cell? ⟨k,1,none⟩=some (.string { data:=#[97,100,100] }):=cell_of_row W k 1 _ _ _ hk
 have c2:W.cell? ⟨k,2,none⟩=some (.string { data:=#[115,117,98] }):=cell_of_row W k 2 _ _ _ hk
 have c3:W.cell? ⟨k,3,none⟩=some (.string { data:=#[109,117,108] }):=cell_of_row W k 3 _ _ _ hk
 have c4:W.cell? ⟨k,4,none⟩=some (.string { data:=#[100,105,118] }):=cell_of_row W k 4 _ _ _ hk
 have c5:W.cell? ⟨k,5,none⟩=some (.string { data:=#[108,101,115,115] }):=cell_of_row W k 5 _ _ _ hk
 have c6:W.cell? ⟨k,6,none⟩=some (.string { data:=#[109,111,114,101] }):=cell_of_row W k 6 _ _ _ hk
 have c7:W.cell? ⟨k,7,none⟩=some (.string { data:=#[111,118,101,114] }):=cell_of_row W k 7 _ _ _ hk
 clear hk
 go_enter Tryz.func118,Tryz.ntmps118
 go_wp2_with fail
 refine wp_loop_rounds 9 ?_
 rw [rounds_succ]
 go_wp2_with fail
 rw [rounds_succ]
 go_wp2_with fail
 rw [rounds_succ]
 go_wp2_with fail
 rw [rounds_succ]
 go_wp2_with fail
 rw [rounds_succ]
 go_wp2_with fail
 rw [rounds_succ]
 go_wp2_with fail
 rw [rounds_succ]
 go_wp2_with fail
 rw [rounds_succ]
 go_wp2_with fail
 rw [rounds_succ]
 go_wp2_with fail
 go_ret
 exact ⟨rfl,rfl⟩):G:=h
theorem qx32 {G:Prop} (h:G:=by
 go_enter Tryz.func56,Tryz.ntmps56
 go_wp2_with (first|(go_at_call 85;refine (KP.out _).mono ?_;rintro e w' ⟨rfl,rfl⟩)|(go_at_call 32;refine (K1.out _ _ (by simp [go_sem])).mono ?_;rintro e w' ⟨rfl,rfl⟩))
 go_ret
 exact ⟨rfl,qBl⟩):G:=h
theorem qx33 {G:Prop} (h:G:=by
 obtain ⟨f1,f2⟩:=tdiv_floor a b hb
 have h2:=Int.tmod_lt_of_pos a hb
 have h3:=Int.lt_tmod_of_pos a hb
 have h4:=Int.natAbs_tdiv_le_natAbs a b
 have n0:b≠0:=by omega
 have g1:-1099511627776≤a.tdiv b:=by omega
 have g2:a.tdiv b≤1099511627776:=by omega
 have HF1:=Lib.hid f1
 have HF2:=Lib.hid f2
 clear f1 f2 h4
 generalize hq:a.tdiv b=q at *
 generalize hm:a.tmod b=m at *
 by_cases h:m<0
 ·obtain ⟨e1,e2⟩:=HF1.out h
  have E1:=Lib.hid e1
  have E2:=Lib.hid e2
  clear e1 e2 HF1 HF2
  go_enter Tryz.func145,Tryz.ntmps145
  go_wp2_with fail
  go_quiet (fail)
  go_wp2_with fail
  refine bodyPost_ret (v:=.tuple #[.int .i64 (q-1),.int .i64 (m+b)]) (by simp [results,Tryz.results145,go_sem]) rfl ⟨by rw [E1.out,E2.out],qBl⟩
 ·obtain ⟨e1,e2⟩:=HF2.out h
  have E1:=Lib.hid e1
  have E2:=Lib.hid e2
  clear e1 e2 HF1 HF2
  go_enter Tryz.func145,Tryz.ntmps145
  go_wp2_with fail
  go_quiet (fail)
  go_wp2_with fail
  refine bodyPost_ret (v:=.tuple #[.int .i64 q,.int .i64 m]) (by simp [results,Tryz.results145,go_sem]) rfl ⟨by rw [E1.out,E2.out],qBl⟩):G:=h
theorem qx34 {G:Prop} (h:G:=by
 rw [rounds_succ]
 go_wp2_with fail
 rw [rounds_succ]
 go_wp2_with fail
 rw [rounds_succ]
 go_wp2_with fail
 rw [rounds_succ]
 go_wp2_with fail
 rw [rounds_succ]
 go_wp2_with fail
 go_ret
 exact ⟨rfl,rfl⟩):G:=h
theorem qx35 {G:Prop} (h:G:=by
 have b0:Below w.heap.size w W0:=by subst hW0;exact qBl
 have HB0:=Lib.hid b0
 have KF1:=Lib.hid (KF.out _ _ A1)
 have p0:=A0.cell 0
 have p1:=A0.cell 1
 have p2:=A0.cell 2
 have p3:=A0.cell 3
 have p4:=A0.cell 4
 simp at p0 p1 p2 p3 p4
 have l0:=A0.lt
 clear A0 A1 b0 hW0 KF
 go_wp2_with fail
 refine KF1.out.mono ?_
 rintro e w1 ⟨rfl,b1⟩
 have HB1:=Lib.hid (HB0.out.trans (b1.mono HB0.out.size))
 clear b1
 go_wp2_with fail
 go_ret
 exact ⟨rfl,HB1.out⟩):G:=h
theorem qx36 {G:Prop} (h:G:=by
 subst hW0
 exact (NdAt.new _ _ _ _ _ _ _ _ _ _ _).below ((Below.refl (w.heap.size+1) _).alloc (by simp) _) (by omega)):G:=h
theorem qx37 {G:Prop} (h:G:=by
 exact ⟨0,htE [],CF,fun _ w' hb=>num_bad s ia 2 cin la 0 cI ra cR [] w' (hR.below hb) hE,fun _=>by omega,fun _ hc=>absurd hc hE⟩):G:=h
theorem qx38 {G:Prop} (h:G:=by
 intro w hSw
 have z0:=hSw.p.cell 0
 have z1:=hSw.p.cell 1
 unfold ptC at z0 z1
 simp at z0 z1
 go_simp
 try with_reducible rfl):G:=h
theorem qx39 {G:Prop} (h:G:=by
 go_round
 case rel=>exact ⟨k+1,by omega,by go_num,fun j hj=>by by_cases c:j=k;(subst c;rw [←HE.out];exact HX.out);exact HF.out j (by omega)⟩
 case measure=>simp [intOf];omega):G:=h
theorem qx40 {G:Prop} (h:G:=by
 clear hf e1 ht
 go_enter Tryz.func83,Tryz.ntmps83
 go_wp2_with (go_at_call 84;refine (K.out _ _).mono ?_;rintro e w' ⟨rfl,rfl⟩)
 go_ret
 exact ⟨ret_i64 hE.out.symm,qBl⟩):G:=h
theorem qx41 {G:Prop} (h:G:=by
 go_enter Tryz.func107,Tryz.ntmps107
 go_wp2_with fail
 refine (KF.out _ _ (by simp [go_sem])).mono ?_
 rintro e w2 ⟨rfl,rfl⟩
 go_wp2_with fail
 go_ret
 exact ⟨rfl,qBl⟩):G:=h
theorem qx42 {G:Prop} (h:G:=by
 go_enter Tryz.func122,Tryz.ntmps122
 go_wp2
 exact bodyPost_ret (v:=.tuple #[.int .i64 0,.bool false]) (by simp [results,Tryz.results122,go_sem, *]) rfl ⟨rfl,qBl⟩):G:=h
theorem qx43 {G:Prop} (h:G:=by
 clear HS0 hd
 have r0:=P5.out.cell 0
 have r1:=P5.out.cell 1
 have s0:=I5.out.p.cell 0
 have s1:=I5.out.p.cell 1
 unfold ptC at s0 s1
 simp at r0 r1 s0 s1
 have g0:=I5.out.p.frozen 0
 have g1:=I5.out.p.frozen 1
 have lt1:=I5.out.p.lt
 have lt2:=P5.out.lt
 go_wp2_with fail
 go_region
 go_wp2_with fail
 go_roundw
 case rel=>exact ⟨b+1,by omega,by go_num,by rw [HS.out],by rw [HS.out],by rw [HS.out];exact (I5.out.set cx cy).drew⟩
 case measure=>simp [intOf];omega):G:=h
theorem qx44 {G:Prop} (h:G:=by
 clear hK K
 try simp only [qS,qN,qC,qD]
 refine rdA 19 rfl (fun K hK=>?_)
 go_simp
 refine ouB hK ?_
 clear hK K
 try simp only [qS,qN,qC,qD]
 refine wpAnyT_done (by kernel_rfl) ?_ _
 refine NoPanic.normal ?_
 have d4:=hHeld.f.cells.2.2.2.2
 have dk:=hHeld.r.at_ hkl
 rw [Nat.zero_add] at dk
 have ld:=hHeld.f.lt
 have HB:=Lib.hid hHeld.b
 have hkL:(k:Int)<(l.length:Int):=by omega
 clear hHeld
 rw [hv] at dk
 clear hv
 go_wp2_with fail
 go_ret
 exact ⟨rfl,HB.out⟩):G:=h
theorem qx45 {G:Prop} (h:G:=by
 refine ⟨this.1,?_,this.2.2⟩
 rw [this.2.1,show ((8388608:Nat):Rat)=P2 23 from (P2_nat 23).symm,←P2_add]
 simp [sg]):G:=h
theorem qx46 {G:Prop} (h:G:=by
 generalize hashTo seed x y 9 3=hh at *
 generalize hsF seed x y 9=u at *
 go_enter Tryz.func94,Tryz.ntmps94
 go_wp2_with fail
 go_quiet ((first
  | (go_at_call 96;with_reducible exact Calls.quiet_of_same ((KH.out _).mono fun _ _ h=>⟨h.1,h.2.symm⟩))
  | (go_at_call 95;with_reducible exact Calls.quiet_of_same ((KU.out _).mono fun _ _ h=>⟨h.1,h.2.symm⟩))))
 go_wp2_with fail
 go_ret
 exact ⟨rfl,qBl⟩):G:=h
theorem qx47 {G:Prop} (h:G:=by
 have hb:((l.length:Int) != (m.length:Int))=true:=by rw [bne_iff_ne];omega
 have HE:Hid (false=decide (l=m)):=by
  refine (decide_eq_false ?_).symm
  rintro rfl
  exact hn rfl
 have HR:Hid (∀ r,r=decide (l=m)→Ending.returned (.bool r)=.returned (.bool (decide (l=m)))):=fun r hr=>by rw [hr]
 clear hn
 go_enter Tryz.func18,Tryz.ntmps18
 go_wp2
 go_ret
 exact ⟨HR.out _ HE.out,rfl⟩):G:=h
theorem qx48 {G:Prop} (h:G:=by
 have e:fls (m ++ [y])=fls m ++ [.float .f32 y]:=by unfold fls;simp
 have e2:(m ++ [y]).length=m.length+1:=by simp
 rw [e,e2]
 refine ⟨hown.1,?_⟩
 rcases hown.2 with h2|⟨g',cap',cur,hv,hB,hh,r⟩
 ·exact .inl h2
 ·have:g'=g:=by simp at hv;exact hv.1.symm
  subst this
  exact .inr ⟨g',cap',cur,hv,hB,(Below.heap_setCell w3 _ _ g' hgk).trans hh,r⟩):G:=h
theorem qx49 {G:Prop} (h:G:=by
 clear HS0 hd
 go_wp2_with fail
 go_roundw
 case rel=>exact ⟨b+1,by omega,by go_num,by rw [HS.out],by rw [HS.out],by rw [HS.out];exact I5.out⟩
 case measure=>simp [intOf];omega):G:=h
theorem qx50 {G:Prop} (h:G:=by
 have IH1:=IH.out
 rw [HE.out] at IH1
 have IH2:=Lib.hid IH1
 clear IH IH1
 go_wp2
 go_roundw
 case rel=>exact ⟨j+1,by omega,by go_num,_,IH2.out⟩
 case measure=>simp [intOf];omega):G:=h
theorem qx51 {G:Prop} (h:G:=by
 rw [P2_zero,Rat.mul_one]
 by_cases c:n<0
 ·have e:((n.natAbs:Nat):Rat)=-((n:Int):Rat):=by
   rw [←Rat.intCast_natCast,show (n.natAbs:Int)=-n from by omega,Rat.intCast_neg]
  rw [e];simp [c,sg];grind
 ·have e:((n.natAbs:Nat):Rat)=((n:Int):Rat):=by
   rw [←Rat.intCast_natCast,show (n.natAbs:Int)=n from by omega]
  rw [e];simp [c,sg]):G:=h
theorem qx52 {G:Prop} (h:G:=by
 clear HJ3 HB3 o1 o2
 have hcl:=HJ4.out.row.at_ kl
 rw [Nat.zero_add,←HV.out] at hcl
 have hbl:=HJ4.out.lt.2.2.2
 have hsz:=HJ4.out.sz
 have lb:b<w4.heap.size:=by omega
 obtain ⟨f0,f1,f2,f3,f4⟩:=HJ4.out.fo.cells
 have lf:=HJ4.out.fo.lt
 have kI:(k:Int)<(l.length:Int):=by omega
 go_wp2_with fail
 go_ret
 exact ⟨rfl,HU4.out,HJ4.out⟩):G:=h
theorem qx53 {G:Prop} (h:G:=by
 rw [inner_grid _ _ _ _ _ _ hW hH,show X-((1:Nat):Int)+1=X by omega,show Y-((1:Nat):Int)+1=Y by omega,show W+2*1-2=W by omega,show H+2*1-2=H by omega] at this
 exact this):G:=h
theorem qx54 {G:Prop} (h:G:=by
 rcases ho.2 with ⟨_,h0⟩|⟨g,cap,cur,rfl,hB,hh,r⟩
 · exfalso
   have:=hml.out;have:=hm1.out;omega
 · exact ⟨g,cap,rfl,OwnF.base ⟨ho,IH2.out.wf⟩ (by omega)⟩):G:=h
theorem qx55 {G:Prop} (h:G:=by
 exact ⟨0,htE [r0,r1],CF,fun _ w' hb=>num_bad s ia 1 cin la 0 cI (some ⟨rb,ro,none⟩) cR [r0,r1] w' (hR.below hb) hE,fun _=>by omega,fun _ hc=>absurd hc hE⟩):G:=h
theorem qx56 {G:Prop} (h:G:=by
 have:=(Fld.new (((w.alloc (.cells #[.int .i64 X,.int .i64 Y,.int .i64 Wn,.int .i64 Hn,.slice (some ⟨b,o,none⟩) l.length c] 32)).alloc (.cells #[.float .f32 x] 48)).alloc (.cells #[.float .f32 y] 48)) 0 0 0 0 (.slice none 0 0)).below b1 (by simp)
 unfold Hid;simpa using this):G:=h
theorem qx57 {G:Prop} (h:G:=by
 have:=P2_add 24 (-24)
 rw [show P2 24=((2 ^ 24:Nat):Rat) from P2_nat 24] at this
 rw [show (24:Int)+-24=0 from rfl,P2_zero] at this
 rw [this];rfl):G:=h
theorem qx58 {G:Prop} (h:G:=by
 rw [Nat.shiftLeft_eq]
 have g2:2 ^ m.log2≤m:=Nat.log2_self_le hm
 calc 324518553658426726783156020576256=2 ^ 108:=by decide
  _≤2 ^ (m.log2+more):=Nat.pow_le_pow_right (by omega) hmore2
  _=2 ^ m.log2*2 ^ more:=Nat.pow_add ..
  _≤m*2 ^ more:=Nat.mul_le_mul_right _ g2):G:=h
theorem qx59 {G:Prop} (h:G:=by
 refine (KL2.out _).mono ?_
 rintro e w2 ⟨rfl,b2⟩
 have HB2:=Lib.hid (HB.out.trans ((B1.trans (b2.mono B1.size)).mono hz))
 clear b2 B1
 go_wp2_with fail
 go_roundw
 case rel=>exact ⟨k+1,by omega,by go_num,by rw [HZ1.out],HB2.out⟩
 case measure=>simp [intOf];omega):G:=h
theorem qx60 {G:Prop} (h:G:=by
 refine (KC1.out _).mono ?_
 rintro e w2 ⟨rfl,b2⟩
 have HB2:=Lib.hid (HB.out.trans ((B1.trans (b2.mono B1.size)).mono hz))
 clear b2 B1
 go_wp2_with fail
 go_roundw
 case rel=>exact ⟨k+1,by omega,by go_num,HB2.out⟩
 case measure=>simp [intOf];omega):G:=h
theorem qx61 {G:Prop} (h:G:=by
 have:=h.at_ hn
 rcases Nat.lt_or_ge b w.heap.size with hlt|hge
 ·exact hlt
 ·simp [World.cell?,Array.getElem?_eq_none hge] at this):G:=h
theorem qx62 {G:Prop} (h:G:=by
 intro x hx
 rcases List.mem_append.1 hx with hx|hx
 ·exact h.wf x hx
 ·have:x=y:=by simpa using hx
  rw [this];exact hy):G:=h
theorem qx63 {G:Prop} (h:G:=by
 have hke:k=l.length:=by omega
 have hfin:=Lib.hid (htE_ok hall.out <| all_true (p:=fun x=>x%2147483648≤1233125376) (l:=l) (by rw [←hke];exact HF.out))
 clear hke
 go_wp2
 go_ret
 exact ⟨ret_i64 hfin.out.symm,rfl⟩):G:=h
theorem qx64 {G:Prop} (h:G:=by
 have:=Fld.new ((w.alloc (.cells #[.string s,.slice ia nin cin,.slice la nI cI,.slice ra nR cR] 61)).alloc (.cells #[.int .i64 X,.int .i64 Y,.int .i64 W,.int .i64 H] 26)) 0 0 0 0 (.slice none 0 0)
 simpa using this):G:=h
theorem qx65 {G:Prop} (h:G:=by
 have h3:Hn*Wn≤512*512:=Nat.mul_le_mul (by omega) (by omega)
 refine ⟨Hn*Wn,?_,rfl,by omega⟩
 rw [show (Wn:Int)*(Hn:Int)=((Hn*Wn:Nat):Int) from by rw [Int.natCast_mul,Int.mul_comm]]
 rw [IntKind.wrap_i64];omega):G:=h
theorem qx66 {G:Prop} (h:G:=by
 have e:=P2_succ k
 obtain ⟨_,x1,x2⟩:=hx
 obtain ⟨_,y1,y2⟩:=hy
 exact r.bd (by omega) (by rw [show ((k+1:Nat):Int)=(k:Int)+1 from by omega];grind) (by rw [show ((k+1:Nat):Int)=(k:Int)+1 from by omega];grind)):G:=h
theorem qx67 {G:Prop} (h:G:=by
 have:=(Reg.new (w.alloc (.cells #[.string s,.slice ia nin cin,.slice la nI cI,.slice ra nR cR] 61)) X Y W H).alloc (.cells #[.int .i64 0,.int .i64 0,.int .i64 0,.int .i64 0,.slice none 0 0] 32)
 simpa using this):G:=h
theorem qx68 {G:Prop} (h:G:=by
 unfold mx mn at *
 refine ⟨?_,?_,?_,?_⟩
 ·clear hq h2;split<;>omega
 ·clear hq h2;split at hp<;>split at hp<;>split<;>omega
 ·clear hp h1;split<;>omega
 ·clear hp h1;split at hq<;>split at hq<;>split<;>omega):G:=h
theorem qx69 {G:Prop} (h:G:=by
 have HE:Hid (true=decide (l=m)):=by
  have hke:k=l.length:=by omega
  refine (decide_eq_true ?_).symm
  exact list_eq_of HN.out (fun j hj=>HF.out j (by omega))
 go_wp2
 go_ret
 exact ⟨HR.out _ HE.out,rfl⟩):G:=h
theorem qx70 {G:Prop} (h:G:=by
 rw [List.any_eq_false]
 intro x hx
 obtain ⟨i,hi,rfl⟩:=List.getElem_of_mem hx
 have:=h i hi
 simp only [List.getD_eq_getElem?_getD,List.getElem?_eq_getElem hi,Option.getD_some] at this
 rw [this];decide):G:=h
theorem qx71 {G:Prop} (h:G:=by
 rw [if_pos h]
 exact (steps_no N X Y Wn Hn _ _ c w (by omega) (by omega) (by omega) (by omega) hN (by omega) (by omega) (by omega) (by omega) h _ _).mono fun e w' ⟨h1,h2⟩=>OpP.err (by decide) h1 h2):G:=h
theorem qx72 {G:Prop} (h:G:=by
 generalize l.getD k 0=x at *
 go_wp2_with fail
 refine (KF.out).mono ?_
 rintro e w' ⟨rfl,rfl⟩
 go_wp2_with fail
 go_round
 case rel=>exact ⟨k+1,by omega,by go_num⟩
 case measure=>simp [intOf];omega):G:=h
theorem qx73 {G:Prop} (h:G:=by
 have g1:W0.cell? ⟨w.heap.size,1,none⟩=some (.int .i64 out):=HG0.out.cell 1
 have l0:w.heap.size<W0.heap.size:=HG0.out.lt
 clear b0 G0
 go_wp2_with fail
 go_ret
 exact ⟨ret_i64 HC.out.symm,HB0.out⟩):G:=h
theorem qx74 {G:Prop} (h:G:=by
 go_wp2_with fail
 go_quiet (fail)
 go_wp2_with fail
 go_roundw
 case rel=>exact ⟨i,i+1,rfl,by omega,by go_num,by rw [HZ1.out],(by have h:=HB.out;exact (qBo h))⟩
 case measure=>simp [intOf];omega):G:=h
theorem qx75 {G:Prop} (h:G:=by
 have a:=Int.mul_nonneg (show 0≤y-(Y+N) by omega) (show (0:Int)≤Wn by omega)
 have b:=Int.mul_le_mul (show y-(Y+N)≤512 by omega) (show (Wn:Int)≤512 by omega) (by omega) (by omega)
 omega):G:=h
theorem qx76 {G:Prop} (h:G:=by
 go_enter Tryz.func106,Tryz.ntmps106
 go_wp2_with fail
 refine (KE.out _).mono ?_
 rintro e w1 ⟨rfl,b1⟩
 have HB:=Lib.hid b1
 clear b1
 go_wp2_with fail
 go_ret
 exact ⟨rfl,HB.out⟩):G:=h
theorem qx77 {G:Prop} (h:G:=by
 go_wp2
 exact bodyPost_ret (v:=.tuple #[reg 0 0 0 0,.bool false]) (by simp [results,Tryz.results13,go_sem]) rfl ⟨(by obtain ⟨e1,e2⟩:=PT.out.2 (by omega);rw [e1,e2]),qBl⟩):G:=h
theorem qx78 {G:Prop} (h:G:=by
 exact ⟨0,htE [r0],CF,fun _ w' hb=>num_bad s ia 1 cin (some ⟨b,o,none⟩) 4 cI (some ⟨rb,ro,none⟩) cR [r0] w' (hR.below hb) hE,fun _=>by omega,fun _ hc=>absurd hc hE⟩):G:=h
theorem qx79 {G:Prop} (h:G:=by
 generalize l.getD k 0=n at *
 have g3:¬ n < -m:=by omega
 have g4:¬ m<n:=by omega
 go_wp2
 go_round
 case rel=>exact ⟨k+1,by omega,by go_num⟩
 case measure=>simp [intOf];omega):G:=h
theorem qx80 {G:Prop} (h:G:=by
 rw [blL_zero]
 subst hW3 hk5
 exact ⟨FAH.out.alloc _,FBH.out.alloc _,FZH.out.alloc _,Fld.new _ _ _ _ _ _,O2H.out.alloc _,B2H.out.alloc (by have:=B2H.out.size;omega) _⟩):G:=h
theorem qx81 {G:Prop} (h:G:=by
 go_enter Tryz.func179,Tryz.ntmps179
 go_wp2
 exact bodyPost_ret (v:=.tuple #[reg 0 0 0 0,.int .i64 10]) (by simp [results,Tryz.results179,go_sem, *]) rfl ⟨rfl,qBl⟩):G:=h
theorem qx82 {G:Prop} (h:G:=by
 obtain ⟨h0,h1⟩:=h
 refine ⟨h0,?_⟩
 rcases h1 with h1|⟨b,o,h1,h2,h3⟩
 ·exact .inl h1
 ·exact .inr ⟨b,o,h1,Nat.lt_of_lt_of_le h2 hb.size,h3.below hb h2⟩):G:=h
theorem qx83 {G:Prop} (h:G:=by
 refine ⟨this.1,?_,this.2.2⟩
 rw [this.2.1,show ((126:Nat):Int)-149=-23 from rfl,show ((8388608:Nat):Rat)=P2 23 from (P2_nat 23).symm,←P2_add]
 simp [sg,P2_zero]):G:=h
