/- Texts of a proof, joined. -/
import Derived.Deep.Slices
import Derived.ChangeArms
import Derived.WideShapes
import Derived.Test.YtlhaeingdonaeaaGreatKM0
set_option linter.all false
namespace Go.VM
open Go Go.RowKit
section
variable {C:Ctx} {E:Op→Op} {ops:Array Oper} {call:Nat→Wy} {frz p:Nat} {fl:Nat→Bool} {B:Nat} {w0:World} {Ts:Nat→Env} {Hs:Nat→Qd} {vs:Nat→Value} {e0:Env} {ι0:X6} {N:Nat}
structure Inv (C:Ctx) (ops:Array Oper) (frz p:Nat) (fl:Nat→Bool) (B:Nat) (w0:World) (Ts:Nat→Env) (Hs:Nat→Qd) (vs:Nat→Value) (e0:Env) (ι0:X6) (N:Nat)
 (S:Nat→Bool) (a:Act) (w:World) (cs:Nat→Value) (I:Nat→X6) (h:Nat):Prop where
 defers:a.defers=[]
 size:a.tmps.size=N
 slot:∀x,a.tmps.getD x undef=Sq ops e0 cs S ops.size x
 i0:I 0=ι0
 ph:p≤h
 hn:h≤ops.size
 chain:∀j,j<h→Ext (Hs j) (I j) (Hs (j+1)) (I (j+1))
 done:∀j,j<ops.size→S j=true→j<h
 val:∀j,j<ops.size→S j=true→VRel C.P (Hs (j+1)) (I (j+1)) (vs j) (cs j)
 stage:(h=p∧(∀j,j≤p→Rel C.P B w0 frz (I j) (Hs j) w)∧∀j,j<p→S j=false→∀m id,(Hs j).length≤id→id<(Hs (j+1)).length→I m id=none)∨
  ((∀j o,j<h→ops[j]? = some o→Yf o.op=false→fl j=false→S j=true)∧Rel C.P B w0 frz (I h) (Hs h) w∧
   ∀j,j<h→fl j=true→S j=false→∀m,j<m→m≤h→∀id,(Hs j).length≤id→id<(Hs (j+1)).length→I m id=none)
variable (R:Run C.P frz (call frz) ops E ops.toList Ts Hs vs) (hT0:∀x,VRel C.P (Hs 0) ι0 (Ts 0 x) (e0 x)) (he0:∀x,N≤x→e0 x=undef)
 (hdst:∀(i:Nat) (o:Oper),ops[i]? = some o→∀d,o.dst=some d→d<N)
 (hE:∀op,E op=op∨(Vs C.P op=true∧E op=.move (.const (.slice none 0 0)))) (D:Drawn C.mode E ops p fl) (hfr:frz≤(Hs 0).length)
 (hcall:∀f,Rw C.P (call f) f) (hkeep:∀f,Ug f (call f)) (hind:∀f f' g l H,C.mode g≠2→call f g l H=call f' g l H)
include R in
theorem Ae:∀i,i≤ops.size→∀x,Ts i x=Sq ops (Ts 0) vs (fun _=>true) i x
 | 0,_,_=>rfl
 | i+1,hi,x=>by
  have ih:=Ae i (by omega)
  have ho:ops[i]? = some ops[i]:=Array.getElem?_eq_getElem (by omega)
  obtain ⟨b,_,_,_,h4⟩:=R.step i ops[i] (by simp)
  rw [h4]
  simp only [Sq,ho,if_true]
  rw [M9,M9,ih x]
include R hkeep hfr in
theorem Qb2:∀i,i≤ops.size→Xd frz (Hs 0) (Hs i)
 | 0,_=>Xd.refl _ _
 | i+1,hi=>by
  have ih:=Qb2 i (by omega)
  have ho:ops[i]? = some ops[i]:=Array.getElem?_eq_getElem (by omega)
  obtain ⟨b,_,h2,h3,_⟩:=R.step i ops[i] (by simp)
  cases b with
  | true=>exact ih.trans (Pe (hkeep frz) (Nat.le_trans hfr ih.1) (h2 rfl))
  | false=>rw [(h3 rfl).2];exact ih
include R D hind hE in
theorem Qa3 {i:Nat} {o:Oper} (ho:ops[i]? = some o) (hi:i<p) (f':Nat) (H:Qd):Y8 C.P frz (call frz) (E o.op) (Ts i) H=Y8 C.P f' (call f') (E o.op) (Ts i) H:=by
 rcases hE o.op with e|⟨_,e⟩
 ·rw [e]
  rcases D.nowr i o ho hi with hw|⟨c,x,r,hop,hcal,harg,j,q,hj,hq,hd,hg,hEq,huniq⟩
  ·exact Ci hind hw frz f'
  ·have hlt:i<ops.size:=(Array.getElem?_eq_some_iff.1 ho).1
   have hx:Ts i x=.slice none 0 0:=by
    rw [Ae R i (by omega) x,show i=(j+1)+(i-(j+1)) by omega]
    rw [Tl _ fun k h1 h2 _ q' hq'=>huniq k q' (by omega) (by omega) hq']
    rw [Qa4 rfl hq hd]
    obtain ⟨b,hb,h2,_,_⟩:=R.step j q (by simpa using hq)
    have hbt:b=true:=by simpa [Zz,hg] using hb.symm
    have:=h2 hbt
    rw [hEq] at this
    simp [Y8,ev] at this
    exact this.1.symm
   obtain ⟨callee,args,argTypes⟩:=c
   simp only at hcal harg
   subst hcal
   rw [hop]
   simp only [Y8,Y3,harg,List.map_cons,ev,hx]
   split
   ·rename_i s0 y0 _ hl
    simp only [List.cons.injEq] at hl
    rw [← hl.1]
    unfold Y5 Vw Fg
    split
    ·rfl
    ·split<;>rfl
   ·rfl
 ·rw [e];rfl
include R D hkeep hind hE in
theorem Qjw (i:Nat) (hi:i<p):Xd (Hs i).length (Hs i) (Hs (i+1)):=by
 have hlt:i<ops.size:=Nat.lt_of_lt_of_le hi D.ple
 have ho:ops[i]? = some ops[i]:=Array.getElem?_eq_getElem hlt
 obtain ⟨b,_,h2,h3,_⟩:=R.step i ops[i] (by simp)
 cases b with
 | true=>
  have:=h2 rfl
  rw [Qa3 R hE D hind ho hi (Hs i).length] at this
  exact Pe (hkeep _) (Nat.le_refl _) this
 | false=>rw [(h3 rfl).2];exact Xd.refl _ _
include R D hkeep hind hE in
theorem Jh:∀k i,i+k≤p→Xd (Hs i).length (Hs i) (Hs (i+k))
 | 0,i,_=>Xd.refl _ _
 | k+1,i,h=>by
  have ih:=Jh k i (by omega)
  have h1:=Qjw R hE D hkeep hind (i+k) (by omega)
  exact ih.trans ⟨h1.1,fun id g1 g2=>h1.2 id g2 g2⟩
theorem Ext.keeps {ι:X6} {H H':Qd} (k:Xd H.length H H'):Ext H ι H' ι:=fun id r hr=>by
 have hid:=(List.getElem?_eq_some_iff.1 hr).1
 exact ⟨r,by rw [k.2 id hid hid];exact hr,rfl,Nat.le_refl _,fun _=>rfl⟩
theorem Rel.keeps {P:Program} {ι:X6} {H H':Qd} {w:World} (R:Rel P B w0 frz ι H w) (k:Xd H.length H H'):Rel P B w0 frz ι H' w:=
 ⟨R.below,R.hB,fun id l hl=>by
  obtain ⟨g1,r,g2,g3⟩:=R.row id l hl
  have hid:=R.lt hl
  exact ⟨g1,r,by rw [k.2 id hid hid];exact g2,g3.mono (Ext.keeps k)⟩,fun id l r hl hr hf=>by
  have hid:=R.lt hl
  rw [k.2 id hid hid] at hr;exact R.own id l r hl hr hf⟩
theorem Rel.place {P:Program} {ι:X6} {H:Qd} {w:World} (R:Rel P B w0 frz ι H w) {id0:Nat} (hn:ι id0=none) (cs:List Value) (cs':Array Value) (e:TypeId) (hr0:H[id0]? = some ⟨cs,0,e⟩) (hlen:cs.length≤cs'.size)
 (hrel:∀(i:Nat) (v:Value),cs[i]? = some v→∃c,cs'[i]? = some c∧∀ι',VRel P H ι' v c) :
 Rel P B w0 frz (ι.at id0 ⟨w.heap.size,0,cs'.size⟩) H (w.alloc (.cells cs' e)):=by
 have hB:=R.hB
 have hgrow:∀id l,ι id=some l→(ι.at id0 ⟨w.heap.size,0,cs'.size⟩) id=some l:=fun id l hl=>by
  have:id≠id0:=fun h=>by rw [h,hn] at hl;cases hl
  simpa [X6.at,this] using hl
 refine ⟨R.below.alloc R.hB _,by simp;omega,?_,?_⟩
 ·intro id l hl
  by_cases hid:id=id0
  ·subst hid
   simp [X6.at] at hl
   subst hl
   refine ⟨by simp,⟨cs,0,e⟩,hr0,hlen,fun i v hv=>?_⟩
   obtain ⟨c,hc,hv'⟩:=hrel i v hv
   exact ⟨c,by simp [Loc.at,hc],hv' _⟩
  ·simp [X6.at,hid] at hl
   obtain ⟨h1,r,hr,hra⟩:=R.row id l hl
   refine ⟨by simp;omega,r,hr,?_⟩
   have h2:Ng P H (ι.at id0 ⟨w.heap.size,0,cs'.size⟩) w r.cells l:=⟨hra.1,fun i v hv=>by
    obtain ⟨c,q1,q2⟩:=hra.2 i v hv;exact ⟨c,q1,q2.grow hgrow⟩⟩
   exact h2.world fun a ha=>World.cell?_alloc_lt _ _ _ (by omega)
 ·intro id l r hl hr hfr
  by_cases hid:id=id0
  ·subst hid
   simp [X6.at] at hl
   subst hl
   rw [hr0] at hr;cases hr
   refine ⟨hB,⟨cs',Sr _ _,by simp⟩,fun id' l' hl' hb=>?_⟩
   by_cases hid':id'=id
   ·exact hid'
   ·simp [X6.at,hid'] at hl'
    have:=(R.row id' l' hl').1
    simp at hb;omega
  ·simp [X6.at,hid] at hl
   obtain ⟨h1,⟨cs1,h2,h3⟩,h4⟩:=R.own id l r hl hr hfr
   have hlb:=(R.row id l hl).1
   refine ⟨h1,⟨cs1,by rw [Below.heap_alloc _ _ _ hlb];exact h2,h3⟩,fun id' l' hl' hb=>?_⟩
   by_cases hid':id'=id0
   ·subst hid'
    simp [X6.at] at hl'
    subst hl'
    simp at hb;omega
   ·simp [X6.at,hid'] at hl'
    exact h4 id' l' hl' hb
theorem Ph {I:Nat→X6} {h:Nat} (hc:∀j,j<h→Ext (Hs j) (I j) (Hs (j+1)) (I (j+1))):∀k i,i+k≤h→Ext (Hs i) (I i) (Hs (i+k)) (I (i+k))
 | 0,_,_=>Ext.refl _ _
 | k+1,i,hk=>(Ph hc k i (by omega)).trans (hc (i+k) (by omega))
variable {S:Nat→Bool} {a:Act} {w:World} {cs:Nat→Value} {I:Nat→X6} {h:Nat}
include hT0 in
theorem Inv.env (V:Inv C ops frz p fl B w0 Ts Hs vs e0 ι0 N S a w cs I h):∀i,i≤h→∀x,VRel C.P (Hs i) (I i) (Sq ops (Ts 0) vs S i x) (Sq ops e0 cs S i x)
 | 0,_,x=>by rw [V.i0];exact hT0 x
 | i+1,hi,x=>by
  have ih:=(V.env i (by omega) x).mono (V.chain i (by omega))
  have hn:=V.hn
  simp only [Sq]
  split
  ·rename_i hs
   have ho:ops[i]? = some ops[i]:=Array.getElem?_eq_getElem (by omega)
   simp only [ho,M9]
   split
   ·exact V.val i (by omega) hs
   ·exact ih
  ·exact ih
theorem Mn {o:Oper} {x:Nat} (hx:Operand.tmp x∈o.op.operands):x∈o.looksAt ops:=
 List.mem_append_left _ (List.mem_filterMap.2 ⟨.tmp x,by simpa using hx,rfl⟩)
include R D hT0 he0 hdst hE in
theorem Inv.sees (V:Inv C ops frz p fl B w0 Ts Hs vs e0 ι0 N S a w cs I h) (hD:wh ops S) {i:Nat} {o:Oper} (ho:ops[i]? = some o) (hns:S i=false)
 (hrdy:∀e∈o.after,Region.binds .any e=true→S e.on=true) (hih:i≤h) :
 ∃(t1:Env) (a1:Act),Tf C.P (Hs i) (I i) t1 a1.tmps∧(∀call f H,Y8 C.P f call (E o.op) (Ts i) H=Y8 C.P f call (E o.op) t1 H)∧(∀cs b,o.op≠.select cs b→True)∧
  ((∀cs b,o.op≠.select cs b)→execOp a.eval o=execOp a1.eval o)∧
  (∀b,Zz ops o (Ts i)=some b→Region.wanted o (yielded ops a.tmps)=b)∧
  (∀x,o.dst=some x→∀j q,i<j→ops[j]? = some q→S j=true→q.dst≠some x):=by
 have hlt:i<ops.size:=(Array.getElem?_eq_some_iff.1 ho).1
 -- with i itself done the set still is closed
 have hD':wh ops (fun j=>S j || (j == i)):=by
  intro j q hq hs e he hb
  simp only [Bool.or_eq_true,beq_iff_eq] at hs ⊢
  rcases hs with hs|rfl
  ·exact .inl (hD j q hq hs e he hb)
  ·rw [ho] at hq;cases hq;exact .inl (hrdy e he hb)
 have hearly:∀j q,j<i→ops[j]? = some q→S j=true∨q.apart ops o=true:=by
  intro j q hj hq
  rcases D.tmp i j o q ho hq hj with h1|h1
  ·have:=Og hD' (i:=i) (by simp) h1
   simp only [Bool.or_eq_true,beq_iff_eq] at this
   rcases this with h2|h2
   ·exact .inl h2
   ·omega
  ·exact .inr h1
 have hlate:∀j q,i<j→ops[j]? = some q→S j=true→o.apart ops q=true:=by
  intro j q hj hq hs
  rcases D.tmp j i q o hq ho hj with h1|h1
  ·have:=Og hD hs h1
   rw [hns] at this;cases this
  ·exact h1
 have hV:∀x,x∈o.looksAt ops→Ts i x=Sq ops (Ts 0) vs S i x:=by
  intro x hx
  rw [Ae R i (by omega) x]
  refine Ss i fun j hj q hq hd=>?_
  rcases hearly j q hj hq with h1|h1
  ·exact ⟨h1.symm,fun _=>rfl⟩
  ·exact absurd hx ((Oper.apart_spec h1).1 x hd)
 have hC:∀x,x∈o.looksAt ops→a.tmps.getD x undef=Sq ops e0 cs S i x:=by
  intro x hx
  rw [V.slot x,show ops.size=i+(ops.size-i) by omega]
  refine Tl _ fun j h1 h2 hs q hq hd=>?_
  have hne:j≠i:=fun e=>by rw [e,hns] at hs;cases hs
  exact (Oper.apart_spec (hlate j q (by omega) hq hs)).2.2 x hd hx
 have hbig:∀x,N≤x→Sq ops e0 cs S i x=undef:=by
  intro x hx
  have:=Tl (ops:=ops) (e0:=e0) (vs:=cs) (S:=S) (x:=x) (m:=0) i (fun j _ _ _ q hq hd=>absurd (hdst j q hq x hd) (Nat.not_lt.2 hx))
  rw [Nat.zero_add] at this
  rw [this];exact he0 x hx
 let a1:Act:=⟨(List.range N).toArray.map fun x=>Sq ops e0 cs S i x,[]⟩
 have ha1:∀x,a1.tmps.getD x undef=Sq ops e0 cs S i x:=by
  intro x
  simp only [a1,Array.getD_eq_getD_getElem?]
  by_cases hx:x<N
  ·simp [hx]
  ·rw [hbig x (by omega)];simp [hx]
 refine ⟨Sq ops (Ts 0) vs S i,a1,fun x=>by rw [ha1 x];exact V.env hT0 i hih x,fun call f H=>?_,fun _ _ _=>trivial,fun hsel=>?_,fun b hb=>?_,fun x hx j q hj hq hs=>?_⟩
 ·rcases hE o.op with e|⟨_,e⟩
  ·rw [e]
   refine Qdg fun y hy=>?_
   cases y with
   | tmp x=>exact hV x (Mn hy)
   | _=>rfl
  ·rw [e];rfl
 ·refine execOp_congr o hsel fun y hy=>?_
  cases y with
  | tmp x=>show a.tmps.getD x undef=a1.tmps.getD x undef;rw [ha1 x];exact hC x (Mn hy)
  | _=>rfl
 ·refine C3 (P:=C.P) (H:=Hs i) (ι:=I i) (t:=Ts i) (fun j want d hg hd=>?_) hb
  have hx:d∈o.looksAt ops:=by simp [Oper.looksAt,hg,hd]
  rw [hV d hx,hC d hx]
  exact V.env hT0 i hih d
 ·exact fun hd=>(Oper.apart_spec (hlate j q hj hq hs)).2.1 x hx hd
end
end Go.VM
set_option linter.all false
namespace Go.VM
open Go Go.RowKit
section
variable {C:Ctx} {E:Op→Op} {ops:Array Oper} {call:Nat→Wy} {frz p:Nat} {fl:Nat→Bool} {B:Nat} {w0:World} {Ts:Nat→Env} {Hs:Nat→Qd} {vs:Nat→Value} {e0:Env} {ι0:X6} {N:Nat}
variable {S:Nat→Bool} {a:Act} {w w':World} {cs:Nat→Value} {I I':Nat→X6} {h h':Nat} {i:Nat} {o:Oper} {c:Value}
def Rv (S:Nat→Bool) (i:Nat):Nat→Bool:=fun j=>S j || (j == i)
theorem Gc {j:Nat} (h:S j=true):Rv S i j=true:=by simp [Rv,h]
theorem Ju:Rv S i i=true:=by simp [Rv]
theorem Tk {j:Nat} (h:Rv S i j=false):S j=false∧j≠i:=by simp [Rv] at h;exact h
theorem Inv.next (V:Inv C ops frz p fl B w0 Ts Hs vs e0 ι0 N S a w cs I h) (ho:ops[i]? = some o) (hns:S i=false) (hdst:∀d,o.dst=some d→d<N)
 (hlate:∀x,o.dst=some x→∀j q,i<j→ops[j]? = some q→S j=true→q.dst≠some x)
 (hI0:I' 0=ι0) (hph:p≤h') (hn':h'≤ops.size) (chain':∀j,j<h'→Ext (Hs j) (I' j) (Hs (j+1)) (I' (j+1))) (hi:i<h') (hh:h≤h')
 (hval:∀j,j<ops.size→S j=true→VRel C.P (Hs (j+1)) (I' (j+1)) (vs j) (cs j)) (hnew:VRel C.P (Hs (i+1)) (I' (i+1)) (vs i) c)
 (hst:(h'=p∧(∀j,j≤p→Rel C.P B w0 frz (I' j) (Hs j) w')∧∀j,j<p→Rv S i j=false→∀m id,(Hs j).length≤id→id<(Hs (j+1)).length→I' m id=none)∨
  ((∀j o,j<h'→ops[j]? = some o→Yf o.op=false→fl j=false→Rv S i j=true)∧Rel C.P B w0 frz (I' h') (Hs h') w'∧
   ∀j,j<h'→fl j=true→Rv S i j=false→∀m,j<m→m≤h'→∀id,(Hs j).length≤id→id<(Hs (j+1)).length→I' m id=none)) :
 Inv C ops frz p fl B w0 Ts Hs vs e0 ι0 N (Rv S i) (a.put o.dst c) w' (fun j=>if j=i then c else cs j) I' h':=by
 have hlt:i<ops.size:=(Array.getElem?_eq_some_iff.1 ho).1
 refine ⟨by rw [Act.put_defers];exact V.defers,by rw [Act.put_size];exact V.size,fun x=>?_,hI0,hph,hn',chain',fun j hj hs=>?_,fun j hj hs=>?_,hst⟩
 ·by_cases hd:o.dst=some x
  ·have hxN:=hdst x hd
   have e1:(a.put o.dst c).tmps.getD x undef=c:=by
    rw [hd];simp [Act.put,Array.getD_eq_getD_getElem?,V.size,hxN]
   rw [e1,show ops.size=(i+1)+(ops.size-(i+1)) by omega]
   rw [Tl _ fun j h1 h2 hs q hq=>?_]
   ·rw [Qa4 Ju ho hd];simp
   ·have hs':S j=true:=by simp [Rv] at hs;rcases hs with h3|h3;exact h3;omega
    exact hlate x hd j q (by omega) hq hs'
  ·have e1:(a.put o.dst c).tmps.getD x undef=a.tmps.getD x undef:=by
    cases hq:o.dst with
    | none=>rfl
    | some d=>
     have hne:d≠x:=fun e=>hd (by rw [hq,e])
     simp only [Act.put,Array.getD_eq_getD_getElem?]
     rw [Array.getElem?_setIfInBounds_ne hne]
   rw [e1,V.slot x]
   refine Ss _ fun j hj q hq hdq=>?_
   have hne:j≠i:=fun e=>by rw [e,ho] at hq;cases hq;exact hd hdq
   exact ⟨by simp [Rv,hne],fun _=>by simp [hne]⟩
 ·by_cases hji:j=i
  ·omega
  ·have hs':S j=true:=by simp [Rv] at hs;rcases hs with h3|h3;exact h3;exact absurd h3 hji
   have:=V.done j hj hs';omega
 ·by_cases hji:j=i
  ·subst hji;simpa using hnew
  ·have hs':S j=true:=by simp [Rv] at hs;rcases hs with h3|h3;exact h3;exact absurd h3 hji
   simp only [if_neg hji];exact hval j hj hs'
theorem Inv.adv (V:Inv C ops frz p fl B w0 Ts Hs vs e0 ι0 N S a w cs I h) {m:Nat} (hm:h≤m) (hmn:m≤ops.size) (hsame:∀j,h≤j→j<m→Xd (Hs j).length (Hs j) (Hs (j+1)))
 (hall:∀j o,j<m→ops[j]? = some o→Yf o.op=false→fl j=false→S j=true) :
 ∃I',Inv C ops frz p fl B w0 Ts Hs vs e0 ι0 N S a w cs I' m∧(∀j,j≤h→I' j=I j)∧Rel C.P B w0 frz (I' m) (Hs m) w∧
  ∀j,j<m→fl j=true→S j=false→∀k,j<k→k≤m→∀id,(Hs j).length≤id→id<(Hs (j+1)).length→I' k id=none:=by
 have hHs:∀k j,h≤j→j+k≤m→Xd (Hs j).length (Hs j) (Hs (j+k)):=by
  intro k
  induction k with
  | zero=>intro j _ _;exact Xd.refl _ _
  | succ k ih=>
   intro j hj hk
   have h1:=hsame (j+k) (by omega) (by omega)
   exact (ih j hj (by omega)).trans ⟨h1.1,fun id _ g2=>h1.2 id g2 g2⟩
 have hR:Rel C.P B w0 frz (I h) (Hs h) w:=by
  rcases V.stage with ⟨h1,h2,_⟩|⟨_,h2,_⟩
  ·subst h1;exact h2 h (Nat.le_refl _)
  ·exact h2
 have hun:∀j,j<h→fl j=true→S j=false→∀k,j<k→k≤h→∀id,(Hs j).length≤id→id<(Hs (j+1)).length→I k id=none:=by
  rcases V.stage with ⟨h1,_,h3⟩|⟨_,_,h3⟩
  ·subst h1;exact fun j hj _ hs k _ _ id g1 g2=>h3 j hj hs k id g1 g2
  ·exact h3
 have hHm:Xd (Hs h).length (Hs h) (Hs m):=by have:=hHs (m-h) h (Nat.le_refl _) (by omega);rwa [show h+(m-h)=m by omega] at this
 have hIm:(fun j=>if j≤h then I j else I h) m=I h:=by
  by_cases hmh:m≤h
  ·have:m=h:=by omega
   subst this;simp
  ·simp [hmh]
 have hRm:Rel C.P B w0 frz ((fun j=>if j≤h then I j else I h) m) (Hs m) w:=by rw [hIm];exact hR.keeps hHm
 have hunm:∀j,j<m→fl j=true→S j=false→∀k,j<k→k≤m→∀id,(Hs j).length≤id→id<(Hs (j+1)).length→(fun j=>if j≤h then I j else I h) k id=none:=by
  intro j hj hf hs k h1 h2 id g1 g2
  by_cases hjh:j<h
  ·show (if k≤h then I k else I h) id=none
   by_cases hkh:k≤h
   ·rw [if_pos hkh];exact hun j hjh hf hs k h1 hkh id g1 g2
   ·rw [if_neg hkh];exact hun j hjh hf hs h hjh (Nat.le_refl _) id g1 g2
  ·show (if k≤h then I k else I h) id=none
   rw [if_neg (by omega)]
   have h3:=(hHs (j-h) h (Nat.le_refl _) (by omega)).1
   rw [show h+(j-h)=j by omega] at h3
   cases hl:I h id with
   | none=>rfl
   | some l=>have:=hR.lt hl;omega
 refine ⟨fun j=>if j≤h then I j else I h,⟨V.defers,V.size,V.slot,by simpa using V.i0,Nat.le_trans V.ph hm,hmn,fun j hj=>?_,fun j hj hs=>Nat.lt_of_lt_of_le (V.done j hj hs) hm,fun j hj hs=>?_,
  .inr ⟨hall,hRm,hunm⟩⟩,fun j hj=>by simp [hj],hRm,hunm⟩
 ·by_cases hjh:j<h
  ·simp only [if_pos (show j≤h by omega),if_pos (show j+1≤h by omega)];exact V.chain j hjh
  ·have e1:=hsame j (by omega) hj
   have e2:(if j≤h then I j else I h)=I h:=by
    by_cases hjj:j≤h
    ·have:j=h:=by omega
     subst this;simp
    ·simp [hjj]
   simp only [if_neg (show ¬j+1≤h by omega),e2]
   exact Ext.keeps e1
 ·have:=V.done j hj hs
  simp only [if_pos (show j+1≤h by omega)];exact V.val j hj hs
variable (R:Run C.P frz (call frz) ops E ops.toList Ts Hs vs) (hT0:∀x,VRel C.P (Hs 0) ι0 (Ts 0 x) (e0 x)) (he0:∀x,N≤x→e0 x=undef)
 (hdst:∀(i:Nat) (o:Oper),ops[i]? = some o→∀d,o.dst=some d→d<N)
 (hE:∀op,E op=op∨(Vs C.P op=true∧E op=.move (.const (.slice none 0 0)))) (D:Drawn C.mode E ops p fl) (hfr:frz≤(Hs 0).length)
 (hcall:∀f,Rw C.P (call f) f) (hkeep:∀f,Ug f (call f)) (hind:∀f f' g l H,C.mode g≠2→call f g l H=call f' g l H)
include hE in
theorem Be {op:Op} (hp:Yf op=true):E op=op:=by
 rcases hE op with e|⟨hb,_⟩
 ·exact e
 ·cases op<;>simp [Vs] at hb<;>simp [Yf] at hp
include R hE in
theorem Qfg {j:Nat} {q:Oper} (hq:ops[j]? = some q) (hp:Yf q.op=true):Hs (j+1)=Hs j:=by
 obtain ⟨b,_,h2,h3,_⟩:=R.step j q (by simpa using hq)
 cases b with
 | true=>have:=h2 rfl;rw [Be hE hp] at this;exact Bu hp this
 | false=>exact (h3 rfl).2
theorem nl {ι':X6} (hpre:∀k i,i+k≤p→Xd (Hs i).length (Hs i) (Hs (i+k))) (hip:i<p)
 (hst:∀j,j≤p→Rel C.P B w0 frz (I j) (Hs j) w) (hun:∀m id,(Hs i).length≤id→id<(Hs (i+1)).length→I m id=none) (hchain:∀j,j<p→Ext (Hs j) (I j) (Hs (j+1)) (I (j+1)))
 (E:Ext (Hs i) (I i) (Hs (i+1)) ι') (R':Rel C.P w.heap.size w (Hs i).length ι' (Hs (i+1)) w') :
 let I':Nat→X6:=fun j id=>if j≤i then I j id else if (Hs i).length≤id∧id<(Hs (i+1)).length then ι' id else I j id
 (∀j,j<p→Ext (Hs j) (I' j) (Hs (j+1)) (I' (j+1)))∧(∀j,j≤p→Rel C.P B w0 frz (I' j) (Hs j) w')∧(∀j id l,I j id=some l→I' j id=some l)∧
 Ext (Hs (i+1)) ι' (Hs (i+1)) (I' (i+1)):=by
 intro I'
 have hlen:(Hs i).length≤(Hs (i+1)).length:=(hpre 1 i (by omega)).1
 -- same rows,same generations
 have hsame:∀{j k id:Nat} {r:Row},j+k≤p→(Hs j)[id]? = some r→(Hs (j+k))[id]? = some r:=by
  intro j k id r hjk hr
  have hlt:=(List.getElem?_eq_some_iff.1 hr).1
  rw [(hpre k j hjk).2 id hlt hlt];exact hr
 have hgrow:∀j id l,I j id=some l→I' j id=some l:=by
  intro j id l hl
  simp only [I']
  split
  ·exact hl
  ·split
   ·rename_i hr;rw [hun j id hr.1 hr.2] at hl;cases hl
   ·exact hl
 have Qhf:∀j id,j<p→id<(Hs j).length→I (j+1) id=I j id:=by
  intro j id hj hid
  obtain ⟨r',h1,_,_,h4⟩:=hchain j hj id _ (List.getElem?_eq_getElem hid)
  have:=hsame (j:=j) (k:=1) (by omega) (List.getElem?_eq_getElem hid)
  rw [this] at h1;cases h1
  exact h4 rfl
 have chain':∀j,j<p→Ext (Hs j) (I' j) (Hs (j+1)) (I' (j+1)):=by
  intro j hj id r hr
  have hid:=(List.getElem?_eq_some_iff.1 hr).1
  refine ⟨r,hsame (k:=1) (by omega) hr,rfl,Nat.le_refl _,fun _=>?_⟩
  simp only [I']
  by_cases h1:j+1≤i
  ·rw [if_pos h1,if_pos (show j≤i by omega)];exact Qhf j id hj hid
  ·rw [if_neg h1]
   by_cases h2:j≤i
   ·have:j=i:=by omega
    subst this
    rw [if_pos (Nat.le_refl _),if_neg (show ¬((Hs j).length≤id∧id<(Hs (j+1)).length) by omega)];exact Qhf _ id hj hid
   ·rw [if_neg h2]
    split
    ·rfl
    ·exact Qhf j id hj hid
 have Enew:Ext (Hs (i+1)) ι' (Hs (i+1)) (I' (i+1)):=by
  intro id r hr
  have hid:=(List.getElem?_eq_some_iff.1 hr).1
  refine ⟨r,hr,rfl,Nat.le_refl _,fun _=>?_⟩
  simp only [I']
  rw [if_neg (show ¬i+1≤i by omega)]
  by_cases h1:(Hs i).length≤id
  ·rw [if_pos ⟨h1,hid⟩]
  ·rw [if_neg (show ¬((Hs i).length≤id∧id<(Hs (i+1)).length) by omega),Qhf i id hip (by omega)]
   obtain ⟨r',g1,_,_,g4⟩:=E id _ (List.getElem?_eq_getElem (show id<(Hs i).length by omega))
   have:=hsame (j:=i) (k:=1) (by omega) (List.getElem?_eq_getElem (show id<(Hs i).length by omega))
   have e1:=Option.some.inj (this.symm.trans g1)
   exact (g4 (by rw [← e1])).symm
 have hle:∀k j,j+k≤p→Ext (Hs j) (I' j) (Hs (j+k)) (I' (j+k)):=fun k j hk=>Ph (h:=p) chain' k j hk
 refine ⟨chain',fun j hj=>?_,hgrow,Enew⟩
 have Rj:=hst j hj
 by_cases hji:j≤i
 ·have:I' j=I j:=by funext id;simp only [I',if_pos hji]
  rw [this];exact Rj.of_below R'.below
 ·have hBw:=Rj.hB
  have hsz:=R'.below.size
  have cases':∀{id:Nat} {l:Loc},I' j id=some l→((Hs i).length≤id∧id<(Hs (i+1)).length∧ι' id=some l)∨I j id=some l:=by
   intro id l hl
   simp only [I',if_neg hji] at hl
   split at hl
   ·rename_i hr;exact .inl ⟨hr.1,hr.2,hl⟩
   ·exact .inr hl
  have hrow:∀{id:Nat} {r:Row},(Hs (i+1))[id]? = some r→(Hs j)[id]? = some r:=by
   intro id r hr
   have:=hsame (j:=i+1) (k:=j-(i+1)) (by omega) hr
   rwa [show i+1+(j-(i+1))=j by omega] at this
  refine ⟨Rj.below.trans (R'.below.mono hBw),by omega,fun id l hl=>?_,fun id l r hl hr hf=>?_⟩
  ·rcases cases' hl with ⟨h1,h2,h3⟩|h3
   ·obtain ⟨g1,r,g2,g3⟩:=R'.row id l h3
    refine ⟨g1,r,hrow g2,g3.1,fun k v hv=>?_⟩
    obtain ⟨c,q1,q2⟩:=g3.2 k v hv
    have:=(q2.mono Enew).mono (hle (j-(i+1)) (i+1) (by omega))
    rw [show i+1+(j-(i+1))=j by omega] at this
    exact ⟨c,q1,this⟩
   ·obtain ⟨g1,r,g2,g3⟩:=Rj.row id l h3
    refine ⟨by omega,r,g2,g3.1,fun k v hv=>?_⟩
    obtain ⟨c,q1,q2⟩:=g3.2 k v hv
    exact ⟨c,by rw [R'.below.cell (by simpa [Loc.at] using g1)];exact q1,q2.grow (hgrow j)⟩
  ·rcases cases' hl with ⟨h1,h2,h3⟩|h3
   ·obtain ⟨_,r',g2,_⟩:=R'.row id l h3
    have:=hrow g2
    rw [this] at hr;cases hr
    obtain ⟨q1,q2,q3⟩:=R'.own id l _ h3 g2 h1
    refine ⟨by omega,q2,fun id' l' hl' hb=>?_⟩
    rcases cases' hl' with ⟨_,_,k3⟩|k3
    ·exact q3 id' l' k3 hb
    ·have:=(Rj.row id' l' k3).1;omega
   ·obtain ⟨q1,⟨cs',q2,q2'⟩,q3⟩:=Rj.own id l r h3 hr hf
    have hlb:=(Rj.row id l h3).1
    refine ⟨q1,⟨cs',by rw [R'.below.block _ hlb];exact q2,q2'⟩,fun id' l' hl' hb=>?_⟩
    rcases cases' hl' with ⟨k1,k2,k3⟩|k3
    ·obtain ⟨_,r',g2,_⟩:=R'.row id' l' k3
     have:=(R'.own id' l' r' k3 g2 k1).1
     omega
    ·exact q3 id' l' k3 hb
end
end Go.VM
set_option linter.all false
namespace Go.VM
open Go Go.RowKit
section
variable {C:Ctx} {E:Op→Op} {ops:Array Oper} {call:Nat→Wy} {frz p:Nat} {fl:Nat→Bool} {B:Nat} {w0:World} {Ts:Nat→Env} {Hs:Nat→Qd} {vs:Nat→Value} {e0:Env} {ι0:X6} {N:Nat}
variable {S:Nat→Bool} {a:Act} {w w':World} {cs:Nat→Value} {I I':Nat→X6} {h h':Nat} {i:Nat} {o:Oper} {c:Value}
def Fm (C:Ctx) (ops:Array Oper) (frz p:Nat) (fl:Nat→Bool) (B:Nat) (w0:World) (Ts:Nat→Env) (Hs:Nat→Qd) (vs:Nat→Value) (e0:Env) (ι0:X6) (N:Nat) (S:Nat→Bool) (a:Act) (w:World):Prop:=
 ∃cs I h,Inv C ops frz p fl B w0 Ts Hs vs e0 ι0 N S a w cs I h
theorem Inv.light (V:Inv C ops frz p fl B w0 Ts Hs vs e0 ι0 N S a w cs I h) (ho:ops[i]? = some o) (hns:S i=false) (hdst:∀d,o.dst=some d→d<N)
 (hlate:∀x,o.dst=some x→∀j q,i<j→ops[j]? = some q→S j=true→q.dst≠some x)
 (hle:i≤h) (htail:h=i→(∀j o,j<i→ops[j]? = some o→Yf o.op=false→fl j=false→S j=true)∧Rel C.P B w0 frz (I i) (Hs i) w∧
  ∀j,j<i→fl j=true→S j=false→∀m,j<m→m≤i→∀id,(Hs j).length≤id→id<(Hs (j+1)).length→I m id=none)
 (hsame:Hs (i+1)=Hs i) (hv:VRel C.P (Hs i) (I i) (vs i) c):Fm C ops frz p fl B w0 Ts Hs vs e0 ι0 N (Rv S i) (a.put o.dst c) w:=by
 have hlt:i<ops.size:=(Array.getElem?_eq_some_iff.1 ho).1
 by_cases hih:i<h
 ·refine ⟨_,I,h,V.next ho hns hdst hlate V.i0 V.ph V.hn V.chain hih (Nat.le_refl _) V.val (hv.mono (V.chain i hih)) ?_⟩
  rcases V.stage with ⟨e,r,u⟩|⟨al,r,u⟩
  ·exact .inl ⟨e,r,fun j hj hs=>u j hj (Tk hs).1⟩
  ·exact .inr ⟨fun j q h1 h2 h3 h4=>Gc (al j q h1 h2 h3 h4),r,fun j hj hf hs=>u j hj hf (Tk hs).1⟩
 ·have hei:h=i:=by omega
  obtain ⟨al,r,u⟩:=htail hei
  subst hei
  refine ⟨_,fun j=>if j≤h then I j else I h,h+1,V.next ho hns hdst hlate (by simpa using V.i0) (by have:=V.ph;omega) (by omega) (fun j hj=>?_) (by omega) (by omega) (fun j hj hs=>?_) ?_ ?_⟩
  ·by_cases hjh:j<h
   ·simp only [if_pos (show j≤h by omega),if_pos (show j+1≤h by omega)];exact V.chain j hjh
   ·have:j=h:=by omega
    subst this
    simp only [Nat.le_refl,if_true,if_neg (show ¬j+1≤j by omega),hsame]
    exact Ext.refl _ _
  ·have:=V.done j hj hs
   simp only [if_pos (show j+1≤h by omega)];exact V.val j hj hs
  ·simp only [if_neg (show ¬h+1≤h by omega),hsame];exact hv
  ·refine .inr ⟨fun j q h1 h2 h3 h4=>?_,?_,fun j hj hf hs m h1 h2 id g1 g2=>?_⟩
   ·by_cases hjh:j<h
    ·exact Gc (al j q hjh h2 h3 h4)
    ·have:j=h:=by omega
     subst this;exact Ju
   ·simp only [if_neg (show ¬h+1≤h by omega),hsame];exact r
   ·obtain ⟨s1,s2⟩:=Tk hs
    show (if m≤h then I m else I h) id=none
    by_cases hmh:m≤h
    ·rw [if_pos hmh];exact u j (by omega) hf s1 m h1 hmh id g1 g2
    ·rw [if_neg hmh];exact u j (by omega) hf s1 h (by omega) (Nat.le_refl _) id g1 g2
variable (R:Run C.P frz (call frz) ops E ops.toList Ts Hs vs) (hT0:∀x,VRel C.P (Hs 0) ι0 (Ts 0 x) (e0 x)) (he0:∀x,N≤x→e0 x=undef)
 (hdst:∀(i:Nat) (o:Oper),ops[i]? = some o→∀d,o.dst=some d→d<N)
 (hE:∀op,E op=op∨(Vs C.P op=true∧E op=.move (.const (.slice none 0 0)))) (D:Drawn C.mode E ops p fl) (hfr:frz≤(Hs 0).length)
 (hcall:∀f,Rw C.P (call f) f) (hkeep:∀f,Ug f (call f)) (hind:∀f f' g l H,C.mode g≠2→call f g l H=call f' g l H)
include hE in
theorem yv {B:Nat} {w0 w:World} {frz:Nat} {H H':Qd} {ι:X6} {v:Value} {t:Env} {a a1:Act} (Rl:Rel C.P B w0 frz ι H w) (hf0:frz≤H.length) (Er:Tf C.P H ι t a.tmps) {call:Wy} (hcall:Rw C.P call frz) (o:Oper)
 (heq:execOp a1.eval o=execOp a.eval o) (h:Y8 C.P frz call (E o.op) t H=some (v,H')) {next:Act→World→Prop} {Q:Exit→Act→World→Prop}
 (hn:∀c w' ι',VRel C.P H' ι' v c→Ext H ι H' ι'→Rel C.P B w0 frz ι' H' w'→next (a1.put o.dst c) w'):o.wp C.P a1 w next Q:=by
 rcases hE o.op with e|⟨hb,e⟩
 ·rw [e] at h;exact zn Rl hf0 Er hcall o heq h hn
 ·rw [e] at h
  simp [Y8,ev] at h
  obtain ⟨rfl,rfl⟩:=h
  obtain ⟨dst,op,type,pos,after,guard⟩:=o
  unfold Vs at hb
  split at hb
  ·rename_i ty ps hop
   simp only [Bool.and_eq_true,decide_eq_true_eq] at hb
   obtain ⟨h1,h2⟩:=hb
   have hps:ps=#[]:=Array.eq_empty_of_size_eq_zero h1
   subst hps
   simp only at hop
   subst hop
   split at h2
   ·rename_i e' n' he
    obtain ⟨z,hz⟩:=Option.isSome_iff_exists.1 h2
    obtain ⟨c,w',hr,hv,hR⟩:=Qev Rl he hz
    unfold Oper.wp
    rw [heq]
    have hrun:(execOp a.eval ⟨dst,.buildSlice ty 0 #[],type,pos,after,guard⟩).run C.P w=.ok (.value c) w':=by
     simp only [execOp]
     rw [Sem.run_bind]
     simp [hr]
    rw [hrun]
    exact hn c w' ι hv (Ext.refl _ _) hR
   ·cases h2
  ·cases hb
include hE in
theorem Gr {op:Op} {ty:TypeId} {x:Operand} (hop:op=.load ty x):E op=op:=by
 rcases hE op with e|⟨hb,_⟩
 ·exact e
 ·rw [hop] at hb;simp [Vs] at hb
include hE in
theorem O4 {op:Op} (hop:(∃ty l c,op=.makeSlice ty l c)∨∃ty,op=.alloc ty):E op=op:=by
 rcases hE op with e|⟨hb,_⟩
 ·exact e
 ·rcases hop with ⟨ty,l,c,hop⟩|⟨ty,hop⟩<;>· rw [hop] at hb;simp [Vs] at hb
include R hE in
theorem Nr {j:Nat} {q:Oper} (hq:ops[j]? = some q) {ty:TypeId} {x:Operand} (hop:q.op=.load ty x):Hs (j+1)=Hs j:=by
 obtain ⟨b,hb,h2,h3,_⟩:=R.step j q (by simpa using hq)
 cases b with
 | true=>
  have:=h2 rfl
  rw [Gr hE hop,hop] at this
  simp only [Y8] at this
  obtain ⟨_,_,h5⟩:=Yo this
  have h6:=congrArg Prod.snd h5
  exact h6.symm
 | false=>exact (h3 rfl).2
include R hE D in
theorem wv {j:Nat} {q:Oper} (hq:ops[j]? = some q) (hf:fl j=true):Xd (Hs j).length (Hs j) (Hs (j+1)):=by
 obtain ⟨_,hop|hop⟩:=D.flo j q hq hf
 ·obtain ⟨ty,x,hop⟩:=hop
  rw [Nr R hE hq hop];exact Xd.refl _ _
 ·obtain ⟨b,hb,h2,h3,_⟩:=R.step j q (by simpa using hq)
  cases b with
  | true=>
   have:=h2 rfl
   rw [O4 hE hop] at this
   rcases hop with ⟨ty,x,y,hop⟩|⟨ty,hop⟩
   ·rw [hop] at this
    simp only [Y8] at this
    exact Iz this
   ·rw [hop] at this
    simp only [Y8] at this
    split at this
    ·have h6:Hs j++_=Hs (j+1):=congrArg Prod.snd (Option.some.inj this)
     rw [← h6];exact Xd.app _ _ _
    ·cases this
  | false=>rw [(h3 rfl).2];exact Xd.refl _ _
theorem ve {P:Program} {H0 H1:Qd} {t:TypeId} {x y v:Value} (h:O5 P H0 t x y=some (v,H1)):∃r,H1[H0.length]? = some r∧(∃n,v=.slice (some ⟨H0.length,0,some 0⟩) n 0)∧H1.length=H0.length+1:=by
 unfold O5 at h
 repeat' split at h
 all_goals first|(cases h;exact ⟨_,List.getElem?_concat_length,⟨_,rfl⟩,by simp⟩)|cases h
theorem Qdu {P:Program} {H0 H1 H:Qd} {ι1 ι:X6} {t:TypeId} {x y v c d:Value} {B frz:Nat} {w0 w:World} (R:Rel P B w0 frz ι H w) (hx:VRel P H0 ι1 x c) (hy:VRel P H0 ι1 y d) (h:O5 P H0 t x y=some (v,H1))
 (hn:ι H0.length=none) (hr:H[H0.length]? = H1[H0.length]?) :
 ∃c' w' loc,(Instr.makeSlice t c d).run P w=.ok c' w'∧Rel P B w0 frz (ι.at H0.length loc) H w'∧H1.length=H0.length+1∧∀ι',ι' H0.length=some loc→VRel P H1 ι' v c':=by
 unfold O5 at h
 split at h
 ·rename_i kl l kc c0
  cases hx;cases hy
  split at h
  ·rename_i e n he
   obtain ⟨hu,i,z,hi,hsz,hp,hb,hz,hzs⟩:=X3 he
   split at h
   ·rename_i z1 hz1
    obtain ⟨i',z',hi',hz',hzz,hlit⟩:=Vj hz1
    rw [hi] at hi';cases hi'
    rw [hz] at hz';cases hz'
    split at h
    ·rename_i hc
     cases h
     subst hsz
     have hrun:=run_make (P:=P) w t e i z hu hi hz kl kc l c0 hc.1 hc.2.1 (by
      have h1:(i.bytes:Int)*c0≤65536*1073741824:=by
       have:(i.bytes:Int)≤65536:=by omega
       exact Int.mul_le_mul this hc.2.2 (by omega) (by omega)
      omega) (by omega)
     have hzl:z1.length=i.size:=by rw [← hzz];simpa using hzs
     have hmul:l.toNat*i.size≤c0.toNat*i.size:=Nat.mul_le_mul_right _ (by omega)
     have RR:=R.place hn (List.replicate l.toNat z1).flatten (madeCells z.cells (c0.toNat*i.size)) e (by rw [hr];simp) (by rw [Xb,size_madeCells,hzl];exact hmul) (fun j v hj=>by
      have hlt:=(List.getElem?_eq_some_iff.1 hj).1
      rw [Xb] at hlt
      rw [getElem?_flatten_replicate _ _ _ hlt] at hj
      refine ⟨v,?_,fun ι'=>.lit (hlit v (List.mem_of_getElem? hj))⟩
      rw [Rz _ _ _ (by rw [hzl] at hlt;omega) (by omega),← hj,← hzz];simp)
     refine ⟨_,_,_,hrun,RR,by simp,fun ι' hl=>?_⟩
     exact .sl (r:=⟨(List.replicate l.toNat z1).flatten,0,e⟩) (l:=⟨w.heap.size,0,_⟩) (by simp) rfl hl (by omega) (fun _=>by simp [X1 hi,size_madeCells])
    ·cases h
   ·cases h
  ·cases h
 ·cases h
theorem km {P:Program} {H1 H:Qd} {id0:Nat} {ι:X6} {t:TypeId} {z:List Value} {B frz:Nat} {w0 w:World} (R:Rel P B w0 frz ι H w) (h:Zc P t=some z)
 (hn:ι id0=none) (hr:H[id0]? = some ⟨z,0,t⟩) (h1:H1[id0]? = some ⟨z,0,t⟩) :
 ∃c' w' loc,(Instr.alloc t true (.tuple #[])).run P w=.ok c' w'∧Rel P B w0 frz (ι.at id0 loc) H w'∧∀ι',ι' id0=some loc→VRel P H1 ι' (.pointer (some ⟨id0,0,some 0⟩)) c':=by
 obtain ⟨i,z',hi,hz,hzz,hlit⟩:=Vj h
 have RR:=R.place hn z z'.cells t hr (by rw [← hzz];simp) (fun j v hj=>⟨v,by rw [← hzz] at hj;simpa using hj,fun ι'=>.lit (hlit v (List.mem_of_getElem? hj))⟩)
 refine ⟨.pointer (some ⟨w.heap.size,0,none⟩),_,_,by simp [Instr.alloc,zeroValue,typeInfo,hi,hz,newVar,newRow],RR,fun ι' hl=>?_⟩
 have:=VRel.ptr (P:=P) (H:=H1) (ι:=ι') (a:=⟨id0,0,some 0⟩) (r:=⟨z,0,t⟩) (l:=⟨w.heap.size,0,z'.cells.size⟩) h1 rfl hl
 simpa [Loc.at] using this
theorem Im {P:Program} {frz:Nat} {call:Wy} {op:Op} {t:Env} {H0 H1:Qd} {v:Value} (hop:(∃ty l c,op=.makeSlice ty l c)∨∃ty,op=.alloc ty) (h:Y8 P frz call op t H0=some (v,H1)) :
 ∃r,H1[H0.length]? = some r∧H1.length=H0.length+1∧∀t' wl,Wat.row H0.length r∈Z9 true op t' v H1 wl:=by
 rcases hop with ⟨ty,x,y,rfl⟩|⟨ty,rfl⟩
 ·simp only [Y8] at h
  obtain ⟨vh,vr,⟨vn,vv⟩,Md⟩:=ve h
  exact ⟨vh,vr,Md,fun t' wl=>by simp [Z9,xv,vv,vr]⟩
 ·simp only [Y8] at h
  split at h
  ·cases h
   exact ⟨_,List.getElem?_concat_length,by simp,fun t' wl=>by simp [Z9,xv,Dw]⟩
  ·cases h
theorem mt {P:Program} {frz':Nat} {call:Wy} {o:Oper} {t:Env} {a:Act} {H0 H1 H:Qd} {ι1 ι:X6} {v:Value} {B frz:Nat} {w0 w:World} (R:Rel P B w0 frz ι H w) (E:Tf P H0 ι1 t a.tmps)
 (hop:(∃ty l c,o.op=.makeSlice ty l c)∨∃ty,o.op=.alloc ty) (h:Y8 P frz' call o.op t H0=some (v,H1)) (hn:ι H0.length=none) (hr:H[H0.length]? = H1[H0.length]?) :
 ∃c' w' loc,(execOp a.eval o).run P w=.ok (.value c') w'∧Rel P B w0 frz (ι.at H0.length loc) H w'∧H1.length=H0.length+1∧∀ι',ι' H0.length=some loc→VRel P H1 ι' v c':=by
 obtain ⟨dst,op,type,pos,after,guard⟩:=o
 simp only at hop h
 rcases hop with ⟨ty,x,y,rfl⟩|⟨ty,rfl⟩
 ·simp only [Y8] at h
  obtain ⟨c,w',loc,k1,k2,k3,k4⟩:=Qdu R (Qa6 E x a.defers) (Qa6 E y a.defers) h hn hr
  refine ⟨c,w',loc,?_,k2,k3,k4⟩
  simp only [execOp,Sem.run_bind]
  rw [show (Instr.makeSlice ty (a.eval x) (a.eval y)).run P w=.ok c w' from k1];rfl
 ·simp only [Y8] at h
  split at h
  ·rename_i z hz
   cases h
   rw [List.getElem?_concat_length] at hr
   obtain ⟨c,w',loc,k1,k2,k4⟩:=km (H1:=H0++[⟨z,0,ty⟩]) R hz hn hr List.getElem?_concat_length
   refine ⟨c,w',loc,?_,k2,by simp,k4⟩
   simp only [execOp,Sem.run_bind]
   rw [k1];rfl
  ·cases h
theorem yu {id0:Nat} {loc:Loc} (hih:i<h) (hlen:(Hs i).length=id0) (Qjd:(Hs (i+1)).length=id0+1) (V:Inv C ops frz p fl B w0 Ts Hs vs e0 ι0 N S a w cs I h)
 (hun:∀j,j<h→fl j=true→S j=false→∀m,j<m→m≤h→∀id,(Hs j).length≤id→id<(Hs (j+1)).length→I m id=none) (hfi:fl i=true) (hns:S i=false) :
 let I':Nat→X6:=fun m=>if m≤i then I m else (I m).at id0 loc
 (∀j,j<h→Ext (Hs j) (I' j) (Hs (j+1)) (I' (j+1)))∧(∀m,m≤h→∀id l,I m id=some l→I' m id=some l)∧
 ∀j,j<h→fl j=true→Rv S i j=false→∀m,j<m→m≤h→∀id,(Hs j).length≤id→id<(Hs (j+1)).length→I' m id=none:=by
 intro I'
 refine ⟨fun j hj k r hr=>?_,fun m hm id l hl=>?_,fun j hj hf hs m h1 h2 id g1 g2=>?_⟩
 ·obtain ⟨r',q1,q2,q3,q4⟩:=V.chain j hj k r hr
  refine ⟨r',q1,q2,q3,fun hg=>?_⟩
  have q5:=q4 hg
  have hk:=(List.getElem?_eq_some_iff.1 hr).1
  simp only [I']
  by_cases h1:j+1≤i
  ·rw [if_pos h1,if_pos (show j≤i by omega)];exact q5
  ·rw [if_neg h1]
   by_cases h2:j≤i
   ·have:j=i:=by omega
    subst this
    rw [if_pos h2]
    simp only [X6.at,if_neg (show ¬k=id0 by omega)];exact q5
   ·rw [if_neg h2]
    simp only [X6.at]
    split
    ·rfl
    ·exact q5
 ·simp only [I']
  by_cases h1:m≤i
  ·rw [if_pos h1];exact hl
  ·rw [if_neg h1]
   have:id≠id0:=fun e=>by
    rw [hun i hih hfi hns m (by omega) hm id (by omega) (by omega)] at hl;cases hl
   simpa [X6.at,this] using hl
 ·obtain ⟨s1,s2⟩:=Tk hs
  have q:=hun j hj hf s1 m h1 h2 id g1 g2
  simp only [I']
  by_cases h3:m≤i
  ·rw [if_pos h3];exact q
  ·rw [if_neg h3]
   have:id≠id0:=fun e=>by
    rcases Nat.lt_or_gt_of_ne s2 with hji|hji
    ·have:=(Ph V.chain (i-(j+1)) (j+1) (by omega)).len
     rw [show j+1+(i-(j+1))=i by omega] at this;omega
    ·have:=(Ph V.chain (j-(i+1)) (i+1) (by omega)).len
     rw [show i+1+(j-(i+1))=j by omega] at this;omega
   simpa [X6.at,this] using q
variable {cut:Nat→Bool} (Wt:Qb0 C.P ops E fl cut Ts Hs vs) (Cu:Qbr ops fl cut)
include R hT0 he0 hdst D hfr hcall hkeep hind hE Wt Cu
theorem Qfd {Q:Exit→Act→World→Prop} {K:Act→World→Prop} (V0:Fm C ops frz p fl B w0 Ts Hs vs e0 ι0 N S a w) (hD:wh ops S) (ho:ops[i]? = some o) (hns:S i=false)
 (hrdy:∀e∈o.after,Region.binds .any e=true→S e.on=true) (hK:∀a' w',Fm C ops frz p fl B w0 Ts Hs vs e0 ι0 N (Rv S i) a' w'→K a' w'):wpOp C.P ops Q i K a w:=by
 obtain ⟨cs,I,h,V⟩:=V0
 have hlt:i<ops.size:=(Array.getElem?_eq_some_iff.1 ho).1
 unfold wpOp
 rw [ho]
 simp only []
 obtain ⟨b,hb,h2,h3,h4⟩:=R.step i o (by simpa using ho)
 have hadv:∃I1 h1,Inv C ops frz p fl B w0 Ts Hs vs e0 ι0 N S a w cs I1 h1∧i≤h1∧
  (h1=i→(∀j o,j<i→ops[j]? = some o→Yf o.op=false→fl j=false→S j=true)∧Rel C.P B w0 frz (I1 i) (Hs i) w∧
   ∀j,j<i→fl j=true→S j=false→∀m,j<m→m≤i→∀id,(Hs j).length≤id→id<(Hs (j+1)).length→I1 m id=none):=by
  by_cases hih:i<h
  ·exact ⟨I,h,V,by omega,fun e=>by omega⟩
  ·have hD':wh ops (fun j=>S j || (j == i)):=by
    intro j q hq hs e he hbb
    simp only [Bool.or_eq_true,beq_iff_eq] at hs ⊢
    rcases hs with hs|rfl
    ·exact .inl (hD j q hq hs e he hbb)
    ·rw [ho] at hq;cases hq;exact .inl (hrdy e he hbb)
   have hph:=V.ph
   have hall:∀j q,j<i→ops[j]? = some q→Yf q.op=false→fl j=false→S j=true:=by
    intro j q hj hq hp hf
    rcases D.heap i j o q ho hq hj (by omega) with g|g|g
    ·rw [hp] at g;cases g
    ·rw [hf] at g;cases g
    ·have:=Og hD' (i:=i) (by simp) g
     simp only [Bool.or_eq_true,beq_iff_eq] at this
     rcases this with g2|g2
     ·exact g2
     ·omega
   obtain ⟨I1,V1,_,r1,u1⟩:=V.adv (m:=i) (by omega) (by omega) (fun j h1 h2=>by
    have hq:ops[j]? = some ops[j]:=Array.getElem?_eq_getElem (by omega)
    cases hp:Yf (ops[j]).op with
    | true=>rw [Qfg R hE hq hp];exact Xd.refl _ _
    | false=>
     cases hf:fl j with
     | true=>exact wv R hE D hq hf
     | false=>
      have:=V.done j (by omega) (hall j _ h2 hq hp hf)
      omega) hall
   exact ⟨I1,i,V1,Nat.le_refl _,fun _=>⟨hall,r1,u1⟩⟩
 obtain ⟨I1,h1,V1,hle,htail⟩:=hadv
 obtain ⟨t1,a1,E1,hvop,_,hexec,hwant,hlate⟩:=V1.sees R hT0 he0 hdst hE D hD ho hns hrdy hle
 have hd:=hdst i o ho
 cases b with
 | false=>
  rw [if_neg (by rw [hwant false hb];simp)]
  obtain ⟨g1,g2⟩:=h3 rfl
  exact hK _ _ (V1.light ho hns hd hlate hle htail g2 (by rw [g1];exact VRel.undef))
 | true=>
  rw [if_pos (hwant true hb)]
  refine .inl ?_
  have hv:=h2 rfl
  have hsel:∀cs b,o.op≠.select cs b:=fun cs b e=>by
   rcases hE o.op with e1|⟨e1,_⟩
   ·rw [e1,e] at hv;simp [Y8] at hv
   ·rw [e] at e1;simp [Vs] at e1
  have heq:=hexec hsel
  by_cases hp:Yf o.op=true
  ·have hv1:=hv
   rw [hvop,Be hE hp] at hv1
   obtain ⟨g1,c,g2,g3⟩:=Qh4 E1 o hp hv1 w
   unfold Oper.wp
   rw [heq,g2]
   exact hK _ _ (V1.light ho hns hd hlate hle htail g1 g3)
  ·have hp':Yf o.op=false:=by simpa using hp
   by_cases hih:i<h1
   ·-- ahead of the first writer
    rcases V1.stage with ⟨e,r,u⟩|⟨al,r2,un⟩
    ·have hip:i<p:=by omega
     have hv1:=hv
     rw [Qa3 R hE D hind ho hip (Hs i).length,hvop] at hv1
     refine yv hE (r i (by omega)).freeze (Nat.le_refl _) E1 (hcall _) o heq hv1 fun c w' ι' q1 q2 q3=>?_
     have hpre:=Jh R hE D hkeep hind
     obtain ⟨f1,f2,f3,f4⟩:=nl hpre hip r (u i hip hns) (fun j hj=>V1.chain j (by omega)) q2 q3
     refine hK _ _ ⟨_,_,h1,V1.next ho hns hd hlate ?_ V1.ph V1.hn (fun j hj=>f1 j (by omega)) hih (Nat.le_refl _) (fun j hj hs=>(V1.val j hj hs).grow (f3 (j+1))) (q1.mono f4) (.inl ⟨e,f2,fun j hj hs m id g1 g2=>?_⟩)⟩
     ·show (fun id=>if 0≤i then I1 0 id else _)=ι0
      simp only [Nat.zero_le,if_true];exact V1.i0
     ·obtain ⟨s1,s2⟩:=Tk hs
      have u1:=u j hj s1 m id g1 g2
      show (if m≤i then I1 m id else if (Hs i).length≤id∧id<(Hs (i+1)).length then ι' id else I1 m id)=none
      split
      ·exact u1
      ·split
       ·rename_i hr
        rcases Nat.lt_or_gt_of_ne s2 with hji|hji
        ·have:=(hpre (i-(j+1)) (j+1) (by omega)).1
         rw [show j+1+(i-(j+1))=i by omega] at this
         omega
        ·have:=(hpre (j-(i+1)) (i+1) (by omega)).1
         rw [show i+1+(j-(i+1))=j by omega] at this
         omega
       ·exact u1
    ·cases hf:fl i with
     | false=>have:=al i o hih ho hp' hf;rw [hns] at this;cases this
     | true=>
      obtain ⟨hg,hop|hop⟩:=D.flo i o ho hf
      rotate_left
      ·-- a slice made late
       have hEo:E o.op=o.op:=O4 hE hop
       have hv1:=hv
       rw [hvop,hEo] at hv1
       have hw1:=Wt i o hf ho hg h1 hih V1.hn (Qgs Cu hD hf hns V1.hn (fun c q z1 z2 z3 z4=>al c q z1 z2 z3 z4))
       obtain ⟨vh,vr,Md,vw⟩:=Im hop hv1
       have hw2:(Hs h1)[(Hs i).length]? = (Hs (i+1))[(Hs i).length]?:=by
        rw [hEo] at hw1
        rw [vr]
        have:=hw1 (.row (Hs i).length vh) (vw _ _)
        exact this
       have hnone:I1 h1 (Hs i).length=none:=un i hih hf hns h1 hih (Nat.le_refl _) _ (Nat.le_refl _) (by omega)
       obtain ⟨c,w',loc,k5,k2,k3,k4⟩:=mt (a:=a1) r2 E1 hop hv1 hnone hw2
       obtain ⟨f1,f2,f3⟩:=yu (loc:=loc) hih rfl k3 V1 un hf hns
       unfold Oper.wp
       rw [heq,k5]
       refine hK _ _ ⟨_,_,h1,V1.next ho hns hd hlate ?_ V1.ph V1.hn f1 hih (Nat.le_refl _) (fun j hj hs=>(V1.val j hj hs).grow (f2 (j+1) (by have:=V1.done j hj hs;omega))) (k4 _ ?_) (.inr ⟨fun j q g1 g2 g3 g4=>Gc (al j q g1 g2 g3 g4),?_,f3⟩)⟩
       ·show (if 0≤i then I1 0 else _)=ι0
        rw [if_pos (Nat.zero_le _)];exact V1.i0
       ·show (if i+1≤i then I1 (i+1) else (I1 (i+1)).at (Hs i).length loc) (Hs i).length=some loc
        rw [if_neg (by omega)];simp [X6.at]
       ·rw [if_neg (show ¬h1≤i by omega)];exact k2
      -- a load that comes late
      obtain ⟨ty,x,hop⟩:=hop
      have hEo:E o.op=o.op:=Gr hE hop
      have hwl:∀h,i<h→h≤h1→Xh C.P (Hs h) ty (ev (Ts i) x)=some (vs i)∧live (Hs h) (vs i):=fun h q1 q2=>by
       have:=Wt i o hf ho hg h q1 (by have:=V1.hn;omega) (Qgs Cu hD hf hns (by have:=V1.hn;omega) (fun c q z1 z2 z3 z4=>al c q (by omega) z2 z3 z4))
       rw [hEo,hop] at this
       exact this (.ld ty (ev (Ts i) x) (vs i)) (by simp [Z9])
      obtain ⟨g1,g2⟩:=hwl h1 hih (Nat.le_refl _)
      obtain ⟨_,g3⟩:=hwl (i+1) (by omega) (by omega)
      have hst:=Nr R hE ho hop
      rw [hst] at g3
      have ext:=Ph V1.chain (h1-i) i (by omega)
      rw [show i+(h1-i)=h1 by omega] at ext
      have hvl:Xh C.P (Hs h1) ty (ev t1 x)=some (vs i):=by
       have:=hvop (call frz) frz (Hs h1)
       rw [hEo,hop] at this
       simp only [Y8,g1,Option.map_some] at this
       cases hz:Xh C.P (Hs h1) ty (ev t1 x) with
       | none=>rw [hz] at this;cases this
       | some z=>rw [hz] at this;simp at this;rw [this]
      obtain ⟨c,k1,k2⟩:=A3 r2 (Qa6 (E1.mono ext) x a1.defers) hvl
      have k3:(execOp a1.eval o).run C.P w=.ok (.value c) w:=by
       obtain ⟨dst,op,type,pos,after,guard⟩:=o
       simp only at hop
       subst hop
       simp only [execOp,Sem.run_bind]
       rw [show (Instr.loadAt ty (a1.eval x)).run C.P w=.ok c w from k1];rfl
      unfold Oper.wp
      rw [heq,k3]
      exact hK _ _ (V1.light ho hns hd hlate hle htail hst (k2.back ext g3 g2))
   ·have hei:h1=i:=by omega
    obtain ⟨al,r,un⟩:=htail hei
    subst hei
    have hv1:=hv
    rw [hvop] at hv1
    have hfi:frz≤(Hs h1).length:=Nat.le_trans hfr (Qb2 R hfr hkeep h1 V1.hn).1
    refine yv hE r hfi E1 (hcall _) o heq hv1 fun c w' ι' q1 q2 q3=>?_
    refine hK _ _ ⟨_,fun j=>if j≤h1 then I1 j else ι',h1+1,V1.next ho hns hd hlate (by simpa using V1.i0) (by have:=V1.ph;omega) (by omega) (fun j hj=>?_) (by omega) (by omega) (fun j hj hs=>?_) ?_ (.inr ⟨fun j q g1 g2 g3 g4=>?_,?_,fun j hj hf hs m g1 g2 id g3 g4=>?_⟩)⟩
    ·by_cases hjh:j<h1
     ·simp only [if_pos (show j≤h1 by omega),if_pos (show j+1≤h1 by omega)];exact V1.chain j hjh
     ·have:j=h1:=by omega
      subst this
      simp only [Nat.le_refl,if_true,if_neg (show ¬j+1≤j by omega)]
      exact q2
    ·have:=V1.done j hj hs
     simp only [if_pos (show j+1≤h1 by omega)];exact V1.val j hj hs
    ·simp only [if_neg (show ¬h1+1≤h1 by omega)];exact q1
    ·by_cases hjh:j<h1
     ·exact Gc (al j q hjh g2 g3 g4)
     ·have:j=h1:=by omega
      subst this;exact Ju
    ·simp only [if_neg (show ¬h1+1≤h1 by omega)];exact q3
    ·obtain ⟨s1,s2⟩:=Tk hs
     have hjh:j<h1:=by omega
     show (if m≤h1 then I1 m else ι') id=none
     by_cases hmh:m≤h1
     ·rw [if_pos hmh];exact un j hjh hf s1 m g1 hmh id g3 g4
     ·rw [if_neg hmh]
      have hn0:=un j hjh hf s1 h1 hjh (Nat.le_refl _) id g3 g4
      have hq:ops[j]? = some ops[j]:=Array.getElem?_eq_getElem (by omega)
      obtain ⟨hg,hop|hop⟩:=D.flo j _ hq hf
      ·obtain ⟨ty,x,hop⟩:=hop
       rw [Nr R hE hq hop] at g4;omega
      ·have hEo:E (ops[j]).op=(ops[j]).op:=O4 hE hop
       obtain ⟨b',hb',k2,k3,_⟩:=R.step j ops[j] (by simp)
       have hbt:b'=true:=by simpa [Zz,hg] using hb'.symm
       have hvj:=k2 hbt
       rw [hEo] at hvj
       obtain ⟨vh,vr,Md,vw⟩:=Im hop hvj
       have hid:id=(Hs j).length:=by omega
       have hD':wh ops (fun j=>S j || (j == h1)):=by
        intro j' q' hq' hs' e he' hbb'
        simp only [Bool.or_eq_true,beq_iff_eq] at hs' ⊢
        rcases hs' with hs'|hs'
        ·exact .inl (hD j' q' hq' hs' e he' hbb')
        ·rw [hs',ho] at hq';cases hq';exact .inl (hrdy e he' hbb')
       have hw:∀h,j<h→h≤h1+1→(Hs h)[(Hs j).length]? = some vh:=fun h z1 z2=>by
        have:=Wt j _ hf hq hg h z1 (by omega) (Qgs Cu hD' hf (by simp [s1];omega) (by omega) (fun c q z3 z4 z5 z6=>by
         by_cases hch:c<h1
         ·simp [al c q hch z4 z5 z6]
         ·simp;right;omega))
        rw [hEo] at this
        exact this (.row (Hs j).length vh) (vw _ _)
       subst hid
       obtain ⟨r',z1,_,_,z4⟩:=q2 _ _ (hw h1 hjh (by omega))
       rw [hw (h1+1) (by omega) (by omega)] at z1
       cases z1
       rw [z4 rfl];exact hn0
omit he0 hdst D hfr hcall hkeep hind hE Wt Cu in
theorem Qbp (V0:Fm C ops frz p fl B w0 Ts Hs vs e0 ι0 N S a w) (hall:∀j,j<ops.size→S j=true):Post C.P B w0 frz (Hs 0) ι0 (Ts ops.size) (Hs ops.size) N a w:=by
 obtain ⟨cs,I,h,V⟩:=V0
 have hh:h=ops.size:=by
  have:=V.hn
  rcases Nat.eq_zero_or_pos ops.size with h0|h0
  ·omega
  ·have:=V.done (ops.size-1) (by omega) (hall _ (by omega));omega
 subst hh
 refine ⟨V.defers,V.size,I ops.size,?_,?_,fun x=>?_⟩
 ·have:=Ph V.chain ops.size 0 (by omega)
  rw [Nat.zero_add,V.i0] at this;exact this
 ·rcases V.stage with ⟨e,r,_⟩|⟨_,r,_⟩
  ·exact r _ (by omega)
  ·exact r
 ·rw [V.slot x,Ae R ops.size (Nat.le_refl _) x]
  have:=V.env hT0 ops.size (Nat.le_refl _) x
  rwa [Ss (S':=fun _=>true) (vs':=vs) ops.size (fun j hj _ _ _=>⟨hall j hj,fun _=>rfl⟩)] at this
theorem Ql2 {Q:Exit→Act→World→Prop} (hQ:∀a w,Post C.P B w0 frz (Hs 0) ι0 (Ts ops.size) (Hs ops.size) N a w→Q .normal a w):∀(fuel:Nat) (listed:Array Bool) (a:Act) (w:World),listed.size=ops.size→
 ((List.range ops.size).filter fun i=>!listed.getD i false).length≤fuel→Fm C ops frz p fl B w0 Ts Hs vs e0 ι0 N (fun j=>listed.getD j false) a w→wh ops (fun j=>listed.getD j false)→
 wpAny C.P .any ops Q fuel listed a w:=by
 intro fuel
 have hget:∀(listed:Array Bool) i,listed.size=ops.size→i<ops.size→listed.getD i true=listed.getD i false:=by
  intro listed i hs hi
  simp only [Array.getD_eq_getD_getElem?,Array.getElem?_eq_getElem (show i<listed.size by omega),Option.getD_some]
 have hready:∀(listed:Array Bool),listed.size=ops.size→Region.ready .any ops listed=[]→∀j,j<ops.size→listed.getD j false=true:=by
  intro listed hs hr j
  induction j using Nat.strongRecOn with
  | _ j ih=>
   intro hj
   cases hl:listed.getD j false with
   | true=>rfl
   | false=>
    have ho:ops[j]? = some ops[j]:=Array.getElem?_eq_getElem hj
    have hm:j∈Region.ready .any ops listed:=by
     unfold Region.ready
     rw [List.mem_filter]
     refine ⟨by simpa using hj,?_⟩
     simp only [hget listed j hs hj,hl,ho,Bool.not_false,Bool.true_and,Option.map_some,Option.getD_some,Array.all_eq_true_iff_forall_mem]
     intro e he
     cases hb:Region.binds .any e with
     | false=>simp
     | true=>
      have:=ih e.on (D.back j _ ho e he hb) (by have:=D.back j _ ho e he hb;omega)
      simp [this]
    rw [hr] at hm;cases hm
 induction fuel with
 | zero=>
  intro listed a w hs hf V hD
  have hnone:∀j,j<ops.size→listed.getD j false=true:=by
   intro j hj
   cases hl:listed.getD j false with
   | true=>rfl
   | false=>
    have:j∈(List.range ops.size).filter fun i=>!listed.getD i false:=by rw [List.mem_filter];exact ⟨by simpa using hj,by rw [hl];rfl⟩
    have h0:((List.range ops.size).filter fun i=>!listed.getD i false)=[]:=List.eq_nil_of_length_eq_zero (by omega)
    rw [h0] at this;cases this
  refine ⟨?_,hQ _ _ (Qbp R hT0 V hnone)⟩
  unfold Region.ready
  rw [List.filter_eq_nil_iff]
  intro j hj
  have hj':j<ops.size:=by simpa using hj
  rw [hget listed j hs hj',hnone j hj'];simp
 | succ fuel ih=>
  intro listed a w hs hf V hD
  refine ⟨fun hr=>hQ _ _ (Qbp R hT0 V (hready listed hs hr)),fun i hi=>?_⟩
  unfold Region.ready at hi
  rw [List.mem_filter] at hi
  have hlt:i<ops.size:=by simpa using hi.1
  have ho:ops[i]? = some ops[i]:=Array.getElem?_eq_getElem hlt
  have h2:=hi.2
  simp only [hget listed i hs hlt,ho,Option.map_some,Option.getD_some,Bool.and_eq_true,Array.all_eq_true_iff_forall_mem] at h2
  have hns:listed.getD i false=false:=by simpa using h2.1
  have hS:(fun j=>(listed.setIfInBounds i true).getD j false)=Rv (fun j=>listed.getD j false) i:=by
   funext j
   simp only [Rv,Array.getD_eq_getD_getElem?]
   by_cases hji:j=i
   ·subst hji;simp [hs,hlt]
   ·rw [Array.getElem?_setIfInBounds_ne (Ne.symm hji)];simp [hji]
  have hrdy:∀e∈(ops[i]).after,Region.binds .any e=true→listed.getD e.on false=true:=fun e he hb=>by
   have:=h2.2 e he;simpa [hb] using this
  refine Qfd R hT0 he0 hdst hE D hfr hcall hkeep hind Wt Cu V hD ho hns hrdy fun a' w' V'=>?_
  refine ih _ _ _ (by simpa using hs) ?_ (by rw [hS];exact V') ?_
  ·have hfe:((List.range ops.size).filter fun j=>!(listed.setIfInBounds i true).getD j false)=((List.range ops.size).filter fun j=>!listed.getD j false).filter fun j=>!(j == i):=by
    rw [List.filter_filter]
    apply List.filter_congr
    intro j _
    have:=congrFun hS j
    rw [this];simp [Rv,Bool.and_comm]
   rw [hfe]
   have hmem:i∈(List.range ops.size).filter fun j=>!listed.getD j false:=by rw [List.mem_filter];exact ⟨by simpa using hlt,by rw [hns];rfl⟩
   have:(((List.range ops.size).filter fun j=>!listed.getD j false).filter fun j=>!(j == i)).length<((List.range ops.size).filter fun j=>!listed.getD j false).length:=by
    rw [List.length_filter_lt_length_iff_exists]
    exact ⟨i,hmem,by simp⟩
   omega
  ·rw [hS]
   intro j q hq hsj e he hb
   simp only [Rv,Bool.or_eq_true,beq_iff_eq] at hsj ⊢
   rcases hsj with g|rfl
   ·exact .inl (hD j q hq g e he hb)
   ·rw [ho] at hq;cases hq;exact .inl (hrdy e he hb)
end
theorem qy (C:Ctx) (hm:C.P.follows .mixedOrders=true):qu C:=by
 intro id Oe call frz hcall hkeep hind t H t' H' ι a w B w0 hv Rl hf E hd hdst
 have key:∃(ops:Array Oper) (F:Op→Op) (p:Nat) (fl cut:Nat→Bool) (Ts:Nat→Env) (Hs:Nat→Qd) (vs:Nat→Value),(∀op,F op=op∨(Vs C.P op=true∧F op=.move (.const (.slice none 0 0))))∧Drawn C.mode F ops p fl∧
  Run C.P frz (call frz) ops F ops.toList Ts Hs vs∧Ts 0=t∧Hs 0=H∧Ts ops.toList.length=t'∧Hs ops.toList.length=H'∧Qb0 C.P ops F fl cut Ts Hs vs∧Qbr ops fl cut∧(ops=Oe∨ops=Tx (Lf Oe) Oe):=by
  have hem:∀op,Zi C.P op=op∨(Vs C.P op=true∧Zi C.P op=.move (.const (.slice none 0 0))):=fun op=>by
   unfold Zi
   split
   ·rename_i hb;exact .inr ⟨hb,rfl⟩
   ·exact .inl rfl
  unfold Y4 at hv
  split at hv
  ·rename_i l hpl
   have Qzq:∃(F:Op→Op) (p:Nat),l=Oe.toList.map (fun o=>{ o with op:=F o.op })∧(∀op,F op=op∨(Vs C.P op=true∧F op=.move (.const (.slice none 0 0))))∧Drawn C.mode F Oe p (fun _=>false):=by
    simp only [Fh,if_true] at hpl
    split at hpl
    ·rename_i hok
     cases hpl
     exact ⟨_root_.id,_,by simp,fun op=>.inl rfl,Qgg hok⟩
    ·split at hpl
     ·rename_i hok
      cases hpl
      exact ⟨Zi C.P,_,rfl,hem,Qb7 hok⟩
     ·cases hpl
   obtain ⟨F,p,rfl,hF,D⟩:=Qzq
   obtain ⟨Ts,Hs,vs,R,e1,e2,e3,e4⟩:=I3 F _ _ _ hv
   exact ⟨Oe,F,p,_,fun _=>false,Ts,Hs,vs,hF,D,R,e1,e2,e3,e4,(fun _ _ h=>by cases h),(fun _ _ h=>by cases h),.inl rfl⟩
  ·split at hv
   ·rename_i hok
    obtain ⟨Ts,Hs,vs,R,e1,e2,e3,e4,_,e6⟩:=Kf (Zi C.P) _ _ _ _ _ hv (fun _ h=>by cases h)
    exact ⟨Mw C Oe,Zi C.P,_,_,_,Ts,Hs,vs,hem,Qck hok,R,e1,e2,e3,e4,fun j q hf hq hg h h1 h2 hc=>e6 j q (by rw [Nat.zero_add];exact hf) (by simpa using hq) hg h h1 (by simpa using h2) (fun c z1 z2=>by rw [Nat.zero_add];exact hc c z1 z2),Qlw,by
     unfold Mw
     split
     ·exact .inl rfl
     ·exact .inr rfl⟩
   ·cases hv
 obtain ⟨ops,F,p,fl,cut,Ts,Hs,vs,hF,D,R,e1,e2,e3,e4,Wt,Cu,hop⟩:=key
 have hsz:ops.toList.length=ops.size:=by simp
 rw [hsz] at e3 e4
 subst e1;subst e2;subst e3;subst e4
 refine wp_region_any hm ?_
 have hs0:ops.size=Oe.size:=by
  rcases hop with rfl|rfl
  ·rfl
  ·exact Le rfl (Ji Oe).1
 have hdst':∀o∈ops.toList,∀d,o.dst=some d→d<a.tmps.size:=by
  rcases hop with rfl|rfl
  ·exact hdst
  ·intro o ho d hd
   simp only [Tx,List.mem_map] at ho
   obtain ⟨i,hi,rfl⟩:=ho
   have hlt:=((Ji Oe).2.2 i).1 hi
   have e:Oe.getD i default=Oe[i]:=by simp [Array.getD_eq_getD_getElem?,hlt]
   rw [e] at hd
   exact hdst Oe[i] (by simp) d hd
 have back:∀Q w,wpAny C.P .any ops Q ops.size (Array.replicate ops.size false) a w→wpAny C.P .any Oe Q Oe.size (Array.replicate Oe.size false) a w:=by
  intro Q w h
  rcases hop with rfl|rfl
  ·exact h
  ·obtain ⟨h1,h2,h3⟩:=Ji Oe
   rw [hs0] at h
   refine nh rfl h1 h2 h3 _ _ _ _ _ (by simp) (by simp) (fun i=>?_) h
   by_cases hi:i<Oe.size
   ·have:=List.idxOf_lt_length_of_mem ((h3 i).2 hi)
    rw [Array.getElem?_eq_getElem (by simp;omega),Array.getElem?_eq_getElem (by simp;omega)];simp
   ·have:=List.idxOf_eq_length (l:=Lf Oe) (a:=i) fun h=>hi ((h3 i).1 h)
    rw [Array.getElem?_eq_none (by simp;omega),Array.getElem?_eq_none (by simp;omega)]
 refine back _ _ ?_
 replace hdst:=hdst'
 have hw:({ w with drawn:=w.drawn+1 }:World)=w.drew:=rfl
 rw [hw]
 have hEq:∀x,VRel C.P (Hs 0) ι (Ts 0 x) ((fun x=>a.tmps.getD x undef) x):=E
 have hkl:=Jh R hF D hkeep hind
 have Rd:=Rl.drew
 refine Ql2 R hEq (N:=a.tmps.size) (fun x hx=>by simp [Array.getD_eq_getD_getElem?,hx]) (fun i o ho d hd'=>hdst o (List.mem_of_getElem? (by simpa using ho)) d hd') hF D hf hcall hkeep hind Wt Cu
  (B:=B) (w0:=w0) (fun a w hp=>⟨trivial,hp⟩) ops.size _ a w.drew (by simp) ?_ ?_ ?_
 ·exact Nat.le_trans (List.length_filter_le _ _) (by simp)
 ·-- nothing has been done: each stage's rows are the first's
  refine ⟨fun _=>undef,fun j id=>if id<(Hs 0).length then ι id else none,_,⟨hd,rfl,fun x=>?_,?_,Nat.le_refl _,D.ple,fun j hj=>?_,fun j hj hs=>?_,fun j hj hs=>?_,.inl ⟨rfl,fun j hj=>?_,fun j hj _ m id h1 h2=>?_⟩⟩⟩
  ·rw [Ss (S':=fun _=>false) (vs':=fun _=>undef) ops.size (fun j hj _ _ _=>⟨by simp [Array.getD_eq_getD_getElem?,hj],fun _=>rfl⟩)]
   have:=Tl (ops:=ops) (e0:=fun x=>a.tmps.getD x undef) (vs:=fun _=>undef) (S:=fun _=>false) (x:=x) (m:=0) ops.size (fun j _ _ hs=>by cases hs)
   rw [Nat.zero_add] at this;rw [this];rfl
  ·funext id
   by_cases hid:id<(Hs 0).length
   ·rw [if_pos hid]
   ·rw [if_neg hid]
    cases hl:ι id with
    | none=>rfl
    | some l=>exact absurd (Rl.lt hl) hid
  ·intro id r hr
   have h1:=hkl 1 j (by omega)
   have hid:=(List.getElem?_eq_some_iff.1 hr).1
   exact ⟨r,by rw [h1.2 id hid hid];exact hr,rfl,Nat.le_refl _,fun _=>rfl⟩
  ·simp [Array.getD_eq_getD_getElem?,hj] at hs
  ·simp [Array.getD_eq_getD_getElem?,hj] at hs
  ·have hI:(fun id=>if id<(Hs 0).length then ι id else none)=ι:=by
    funext id
    by_cases hid:id<(Hs 0).length
    ·rw [if_pos hid]
    ·rw [if_neg hid]
     cases hl:ι id with
     | none=>rfl
     | some l=>exact absurd (Rl.lt hl) hid
   rw [hI]
   have hk:=hkl j 0 (by omega)
   rw [Nat.zero_add] at hk
   have hEx:Ext (Hs 0) ι (Hs j) ι:=fun id r hr=>by
    have hid:=(List.getElem?_eq_some_iff.1 hr).1
    exact ⟨r,by rw [hk.2 id hid hid];exact hr,rfl,Nat.le_refl _,fun _=>rfl⟩
   refine ⟨Rd.below,Rd.hB,fun id l hl=>?_,fun id l r hl hr hf'=>?_⟩
   ·obtain ⟨g1,r,g2,g3⟩:=Rd.row id l hl
    have hid:=(List.getElem?_eq_some_iff.1 g2).1
    exact ⟨g1,r,by rw [hk.2 id hid hid];exact g2,g3.mono hEx⟩
   ·have hid:=Rd.lt hl
    rw [hk.2 id hid hid] at hr
    exact Rd.own id l r hl hr hf'
  ·have:=(hkl j 0 (by omega)).1
   rw [Nat.zero_add] at this
   show (if id<(Hs 0).length then ι id else none)=none
   rw [if_neg (by omega)]
 ·intro j q hq hs
  have hj:=(Array.getElem?_eq_some_iff.1 hq).1
  simp [Array.getD_eq_getD_getElem?,hj] at hs
end Go.VM
set_option linter.all false
namespace Go.VM
open Go
variable {H H':Qd} {v:Value} {frz:Nat} {t t':Env} {C:Ctx}
section
variable {α:Type}
open Classical in
noncomputable def lim (f:Nat→Option α):Option α:=if h:∃k r,f k=some r then f (Classical.choose h) else none
theorem Qbn {f:Nat→Option α} (hm:∀k r,f k=some r→f (k+1)=some r) {r:α}:lim f=some r↔∃k,f k=some r:=by
 have hle:∀k j r,f k=some r→f (k+j)=some r:=by
  intro k j r h
  induction j with
  | zero=>exact h
  | succ j ih=>exact hm _ _ ih
 have huniq:∀k j r s,f k=some r→f j=some s→r=s:=by
  intro k j r s h1 h2
  have a:=hle k j r h1
  have b:=hle j k s h2
  rw [Nat.add_comm j k,a] at b;cases b;rfl
 constructor
 ·intro h
  unfold lim at h
  split at h
  ·exact ⟨_,h⟩
  ·cases h
 ·rintro ⟨k,h⟩
  unfold lim
  have hex:∃k r,f k=some r:=⟨k,r,h⟩
  rw [dif_pos hex]
  obtain ⟨s,hs⟩:=Classical.choose_spec hex
  rw [hs,huniq _ _ _ _ hs h]
end
def CLe (c1 c2:Wy):Prop:=∀g l H r,c1 g l H=some r→c2 g l H=some r
def ELe (e1 e2:Nat→Code→Env→Qd→Option (Out×Env×Qd)):Prop:=∀frz c t H r,e1 frz c t H=some r→e2 frz c t H=some r
theorem Ly {c1 c2:Wy} (h:CLe c1 c2) {o:Op} {r:Value×Qd} (hr:Y8 C.P frz c1 o t H=some r):Y8 C.P frz c2 o t H=some r:=by
 cases o<;>first|exact hr|skip
 case slice ty x lo hi mx=>cases mx<;>exact hr
 simp only [Y8] at hr ⊢
 split
 ·rename_i b hb;rw [hb] at hr;exact hr
 ·rename_i f hf
  rw [hf] at hr
  simp only at hr
  split
  ·rename_i g a b hg;rw [hg] at hr;exact h _ _ _ _ hr
  ·rename_i hno
   split at hr
   ·rename_i g a b hg;exact absurd hg (hno _ _ _)
   ·cases hr
 ·rename_i m hm;rw [hm] at hr;exact hr
theorem N9 {c1 c2:Wy} (h:CLe c1 c2) {ops:Array Oper}:∀(l:List Oper) (t:Env) (H:Qd) {r:Env×Qd},Tw C.P frz c1 ops l t H=some r→Tw C.P frz c2 ops l t H=some r
 | [],_,_,_,hr=>hr
 | o::l,t,H,r,hr=>by
  simp only [Tw] at hr ⊢
  split at hr
  ·split at hr
   ·rename_i hv;rw [Ly h hv];exact N9 h l _ _ hr
   ·cases hr
  ·exact N9 h l _ _ hr
  ·cases hr
theorem Oi {c1 c2:Wy} (h:CLe c1 c2) {ops:Array Oper} {fl:List Nat×List Nat}:∀(l:List Oper) (n:Nat) (wl:List Wat) (t:Env) (H:Qd) {r:Env×Qd},U6 C.P frz c1 ops fl n wl l t H=some r→U6 C.P frz c2 ops fl n wl l t H=some r
 | [],_,_,_,_,_,hr=>by simpa [U6] using hr
 | o::l,n,wl,t,H,r,hr=>by
  simp only [U6] at hr ⊢
  split at hr
  ·split at hr
   ·rename_i hv
    rw [Ly h hv]
    split at hr
    ·rename_i hw
     simp only [hw,if_true];exact Oi h l _ _ _ _ hr
    ·cases hr
   ·cases hr
  ·exact Oi h l _ _ _ _ hr
  ·cases hr
theorem Ki {c1 c2:Wy} (h:CLe c1 c2) {ops:Array Oper} {draw:Bool} {r:Env×Qd} (hr:Y4 C frz c1 ops draw t H=some r):Y4 C frz c2 ops draw t H=some r:=by
 unfold Y4 at hr ⊢
 split at hr
 ·exact N9 h _ _ _ hr
 ·split at hr
  ·rename_i hw;simp only [hw,if_true];exact Oi h _ _ _ _ _ hr
  ·cases hr
theorem Vk {e1 e2:Nat→Code→Env→Qd→Option (Out×Env×Qd)} (h:ELe e1 e2):CLe (W4 C e1 frz) (W4 C e2 frz):=by
 intro g l H r hr
 unfold W4 at hr ⊢
 split at hr
 ·split at hr
  ·rename_i fn hfn _ body hb
   split at hr
   ·rename_i hok
    simp only [hok,if_true]
    split at hr
    ·rename_i he;rw [h _ _ _ _ _ he];exact hr
    ·rename_i he;rw [h _ _ _ _ _ he];exact hr
    ·cases hr
   ·cases hr
  ·cases hr
 ·cases hr
section
variable {k:Nat} {c1 c2:Code}
theorem Qqb:Wc C (k+1) frz (.seq c1 c2) t H=match Wc C k frz c1 t H with|some (.normal,t',H')=>Wc C k frz c2 t' H'|r=>r:=by rw [Wc];rfl
theorem Qjv {x:Operand}:Wc C (k+1) frz (.cond x c1 c2) t H=match ev t x with | .bool true=>Wc C k frz c1 t H | .bool false=>Wc C k frz c2 t H|_=>none:=by rw [Wc];rfl
theorem Qib {id:Nat}:Wc C (k+1) frz (.block id c1) t H=match Wc C k frz c1 t H with
 | some (.exit id',t',H')=>if id'=id then some (.normal,t',H') else some (.exit id',t',H')
 | r=>r:=by rw [Wc];rfl
theorem Qkh:Wc C (k+1) frz (.loop c1) t H=match Wc C k frz c1 t H with|some (.normal,t',H')=>Wc C k frz (.loop c1) t' H'|r=>r:=by rw [Wc];rfl
theorem E4 {id:Nat} {ops:Array Oper} {draw:Bool}:Wc C (k+1) frz (.region id ops draw) t H=match Y4 C frz (W4 C (Wc C k) frz) ops draw t H with
 | some (t',H')=>some (.normal,t',H')
 | none=>none:=by rw [Wc];rfl
end
theorem P6 (C:Ctx):∀k,ELe (Wc C k) (Wc C (k+1))
 | 0=>fun _ _ _ _ _ h=>by simp [Wc] at h
 | k+1=>fun frz c t H r h=>by
  have ih:=P6 C k
  cases c
  case seq a b=>
   rw [Qqb] at h ⊢
   split at h
   ·rename_i h1;rw [ih _ _ _ _ _ h1];exact ih _ _ _ _ _ h
   ·rename_i hno
    rw [ih _ _ _ _ _ h]
    obtain ⟨o,t1,H1⟩:=r
    cases o with
    | normal=>exact absurd h (hno _ _)
    | ret=>rfl
    | exit=>rfl
  case cond x a b=>
   rw [Qjv] at h ⊢
   split at h
   ·exact ih _ _ _ _ _ h
   ·exact ih _ _ _ _ _ h
   ·cases h
  case block id b=>
   rw [Qib] at h ⊢
   split at h
   ·rename_i h1;rw [ih _ _ _ _ _ h1];exact h
   ·rename_i hno
    rw [ih _ _ _ _ _ h]
    obtain ⟨o,t1,H1⟩:=r
    cases o with
    | normal=>rfl
    | ret=>rfl
    | exit=>exact absurd h (hno _ _ _)
  case loop b=>
   rw [Qkh] at h ⊢
   split at h
   ·rename_i h1;rw [ih _ _ _ _ _ h1];exact ih _ _ _ _ _ h
   ·rename_i hno
    rw [ih _ _ _ _ _ h]
    obtain ⟨o,t1,H1⟩:=r
    cases o with
    | normal=>exact absurd h (hno _ _)
    | ret=>rfl
    | exit=>rfl
  case region id ops draw=>
   rw [E4] at h ⊢
   split at h
   ·rename_i h1;rw [Ki (Vk ih) h1];exact h
   ·cases h
  all_goals (simp only [Wc] at h ⊢;first|exact h|cases h)
noncomputable def Ua (C:Ctx) (frz:Nat) (c:Code) (t:Env) (H:Qd):Option (Out×Env×Qd):=lim fun k=>Wc C k frz c t H
noncomputable def Qh (C:Ctx) (frz:Nat):Wy:=fun g l H=>lim fun k=>W4 C (Wc C k) frz g l H
theorem We {c:Code} {r:Out×Env×Qd}:Ua C frz c t H=some r↔∃k,Wc C k frz c t H=some r:=Qbn fun k _ h=>P6 C k _ _ _ _ _ h
theorem Sm {g:Nat} {l:List Value} {r:Value×Qd}:Qh C frz g l H=some r↔∃k,W4 C (Wc C k) frz g l H=some r:=
 Qbn fun k _ h=>Vk (P6 C k) _ _ _ _ h
theorem Vr {k j:Nat} (hkj:k≤j):ELe (Wc C k) (Wc C j):=by
 obtain ⟨d,rfl⟩:=Nat.exists_eq_add_of_le hkj
 intro frz c t H r h
 induction d with
 | zero=>exact h
 | succ d ih=>exact P6 C _ _ _ _ _ _ (ih (Nat.le_add_right _ _))
theorem we (k:Nat):ELe (Wc C k) (Ua C):=fun _ _ _ _ _ h=>We.2 ⟨k,h⟩
theorem yx {o:Op} {r:Value×Qd} (h:Y8 C.P frz (Qh C frz) o t H=some r):∃k,Y8 C.P frz (W4 C (Wc C k) frz) o t H=some r:=by
 cases o<;>first|exact ⟨0,h⟩|skip
 case slice ty x lo hi mx=>cases mx<;>exact ⟨0,h⟩
 simp only [Y8] at h ⊢
 split at h
 ·exact ⟨0,h⟩
 ·split at h
  ·exact Sm.1 h
  ·cases h
 ·cases h
theorem Jn {ops:Array Oper}:∀(l:List Oper) (t:Env) (H:Qd) {r:Env×Qd},Tw C.P frz (Qh C frz) ops l t H=some r→∃k,Tw C.P frz (W4 C (Wc C k) frz) ops l t H=some r
 | [],_,_,_,h=>⟨0,h⟩
 | o::l,t,H,r,h=>by
  simp only [Tw] at h ⊢
  split at h
  ·split at h
   ·rename_i hv
    obtain ⟨k1,h1⟩:=yx hv
    obtain ⟨k2,h2⟩:=Jn l _ _ h
    refine ⟨max k1 k2,?_⟩
    rw [Ly (Vk (Vr (Nat.le_max_left k1 k2))) h1]
    exact N9 (Vk (Vr (Nat.le_max_right k1 k2))) _ _ _ h2
   ·cases h
  ·exact Jn l _ _ h
  ·cases h
theorem M7 {ops:Array Oper} {fl:List Nat×List Nat}:∀(l:List Oper) (n:Nat) (wl:List Wat) (t:Env) (H:Qd) {r:Env×Qd},U6 C.P frz (Qh C frz) ops fl n wl l t H=some r→∃k,U6 C.P frz (W4 C (Wc C k) frz) ops fl n wl l t H=some r
 | [],_,_,_,_,_,h=>⟨0,by simpa [U6] using h⟩
 | o::l,n,wl,t,H,r,h=>by
  simp only [U6] at h ⊢
  split at h
  ·split at h
   ·rename_i hv
    split at h
    ·rename_i hw
     obtain ⟨k1,h1⟩:=yx hv
     obtain ⟨k2,h2⟩:=M7 l _ _ _ _ h
     refine ⟨max k1 k2,?_⟩
     rw [Ly (Vk (Vr (Nat.le_max_left k1 k2))) h1]
     simp only [hw,if_true]
     exact Oi (Vk (Vr (Nat.le_max_right k1 k2))) _ _ _ _ _ h2
    ·cases h
   ·cases h
  ·exact M7 l _ _ _ _ h
  ·cases h
theorem Ad {ops:Array Oper} {draw:Bool} {r:Env×Qd} (h:Y4 C frz (Qh C frz) ops draw t H=some r):∃k,Y4 C frz (W4 C (Wc C k) frz) ops draw t H=some r:=by
 unfold Y4 at h ⊢
 split at h
 ·exact Jn _ _ _ h
 ·split at h
  ·rename_i hw;simp only [hw,if_true];exact M7 _ _ _ _ _ h
  ·cases h
theorem Nz {α:Type} {x y:Option α} (h:∀r,x=some r↔y=some r):x=y:=by
 cases x with
 | none=>cases y with
  | none=>rfl
  | some b=>exact absurd ((h b).2 rfl) (by simp)
 | some a=>exact ((h a).1 rfl).symm
def andThen (r:Option (Out×Env×Qd)) (f:Env→Qd→Option (Out×Env×Qd)):Option (Out×Env×Qd):=
 match r with
 | some (.normal,t,H)=>f t H
 | r=>r
def wa (id:Nat) (r:Option (Out×Env×Qd)):Option (Out×Env×Qd):=
 match r with
 | some (.exit id',t,H)=>if id'=id then some (.normal,t,H) else some (.exit id',t,H)
 | r=>r
def Qjn {α:Type} (v:Value) (x y:Option α):Option α:=
 match v with
 | .bool true=>x
 | .bool false=>y
 | _=>none
theorem gn:Ua C frz .skip t H=some (.normal,t,H):=We.2 ⟨1,rfl⟩
theorem Qce:Ua C frz .ret t H=some (.ret,t,H):=We.2 ⟨1,rfl⟩
theorem kp {id:Nat}:Ua C frz (.exit id) t H=some (.exit id,t,H):=We.2 ⟨1,rfl⟩
theorem Qb8 {a b:Code}:Ua C frz (.seq a b) t H=andThen (Ua C frz a t H) fun t' H'=>Ua C frz b t' H':=by
 apply Nz
 intro r
 constructor
 ·intro h
  obtain ⟨k,hk⟩:=We.1 h
  cases k with
  | zero=>simp [Wc] at hk
  | succ k=>
   simp only [Wc] at hk
   split at hk
   ·rename_i h1;rw [We.2 ⟨k,h1⟩];exact We.2 ⟨k,hk⟩
   ·rename_i hno
    rw [We.2 ⟨k,hk⟩]
    obtain ⟨o,t1,H1⟩:=r
    cases o with
    | normal=>exact absurd hk (hno _ _)
    | ret=>rfl
    | exit=>rfl
 ·intro h
  unfold andThen at h
  split at h
  ·rename_i h1
   obtain ⟨k1,h1⟩:=We.1 h1
   obtain ⟨k2,h2⟩:=We.1 h
   refine We.2 ⟨max k1 k2+1,?_⟩
   simp only [Wc]
   rw [Vr (Nat.le_max_left k1 k2) _ _ _ _ _ h1]
   exact Vr (Nat.le_max_right k1 k2) _ _ _ _ _ h2
  ·rename_i hno
   obtain ⟨k,hk⟩:=We.1 h
   refine We.2 ⟨k+1,?_⟩
   simp only [Wc]
   rw [hk]
   obtain ⟨o,t1,H1⟩:=r
   cases o with
   | normal=>exact absurd h (hno _ _)
   | ret=>rfl
   | exit=>rfl
theorem Qax {x:Operand} {a b:Code}:Ua C frz (.cond x a b) t H=Qjn (ev t x) (Ua C frz a t H) (Ua C frz b t H):=by
 apply Nz
 intro r
 constructor
 ·intro h
  obtain ⟨k,hk⟩:=We.1 h
  cases k with
  | zero=>simp [Wc] at hk
  | succ k=>
   simp only [Wc] at hk
   split at hk
   ·rename_i hb;rw [hb];exact We.2 ⟨k,hk⟩
   ·rename_i hb;rw [hb];exact We.2 ⟨k,hk⟩
   ·cases hk
 ·intro h
  unfold Qjn at h
  split at h
  ·rename_i hb;obtain ⟨k,hk⟩:=We.1 h;exact We.2 ⟨k+1,by simp only [Wc,hb];exact hk⟩
  ·rename_i hb;obtain ⟨k,hk⟩:=We.1 h;exact We.2 ⟨k+1,by simp only [Wc,hb];exact hk⟩
  ·cases h
theorem xy {id:Nat} {b:Code}:Ua C frz (.block id b) t H=wa id (Ua C frz b t H):=by
 apply Nz
 intro r
 constructor
 ·intro h
  obtain ⟨k,hk⟩:=We.1 h
  cases k with
  | zero=>simp [Wc] at hk
  | succ k=>
   simp only [Wc] at hk
   split at hk
   ·rename_i h1;rw [We.2 ⟨k,h1⟩];exact hk
   ·rename_i hno
    rw [We.2 ⟨k,hk⟩]
    obtain ⟨o,t1,H1⟩:=r
    cases o with
    | normal=>rfl
    | ret=>rfl
    | exit=>exact absurd hk (hno _ _ _)
 ·intro h
  unfold wa at h
  split at h
  ·rename_i h1
   obtain ⟨k,hk⟩:=We.1 h1
   exact We.2 ⟨k+1,by simp only [Wc,hk];exact h⟩
  ·rename_i hno
   obtain ⟨k,hk⟩:=We.1 h
   refine We.2 ⟨k+1,?_⟩
   simp only [Wc]
   rw [hk]
   obtain ⟨o,t1,H1⟩:=r
   cases o with
   | normal=>rfl
   | ret=>rfl
   | exit=>exact absurd h (hno _ _ _)
theorem ng {b:Code}:Ua C frz (.loop b) t H=andThen (Ua C frz b t H) fun t' H'=>Ua C frz (.loop b) t' H':=by
 apply Nz
 intro r
 constructor
 ·intro h
  obtain ⟨k,hk⟩:=We.1 h
  cases k with
  | zero=>simp [Wc] at hk
  | succ k=>
   simp only [Wc] at hk
   split at hk
   ·rename_i h1;rw [We.2 ⟨k,h1⟩];exact We.2 ⟨k,hk⟩
   ·rename_i hno
    rw [We.2 ⟨k,hk⟩]
    obtain ⟨o,t1,H1⟩:=r
    cases o with
    | normal=>exact absurd hk (hno _ _)
    | ret=>rfl
    | exit=>rfl
 ·intro h
  unfold andThen at h
  split at h
  ·rename_i h1
   obtain ⟨k1,h1⟩:=We.1 h1
   obtain ⟨k2,h2⟩:=We.1 h
   refine We.2 ⟨max k1 k2+1,?_⟩
   simp only [Wc]
   rw [Vr (Nat.le_max_left k1 k2) _ _ _ _ _ h1]
   exact Vr (Nat.le_max_right k1 k2) _ _ _ _ _ h2
  ·rename_i hno
   obtain ⟨k,hk⟩:=We.1 h
   refine We.2 ⟨k+1,?_⟩
   simp only [Wc]
   rw [hk]
   obtain ⟨o,t1,H1⟩:=r
   cases o with
   | normal=>exact absurd h (hno _ _)
   | ret=>rfl
   | exit=>rfl
def xk (r:Option (Env×Qd)):Option (Out×Env×Qd):=match r with|some (t,H)=>some (.normal,t,H)|none=>none
theorem Sf {id:Nat} {ops:Array Oper} {draw:Bool}:Ua C frz (.region id ops draw) t H=xk (Y4 C frz (Qh C frz) ops draw t H):=by
 apply Nz
 intro r
 constructor
 ·intro h
  obtain ⟨k,hk⟩:=We.1 h
  cases k with
  | zero=>simp [Wc] at hk
  | succ k=>
   rw [E4] at hk
   split at hk
   ·rename_i h1
    rw [Ki (fun g l H r h=>Sm.2 ⟨k,h⟩) h1];exact hk
   ·cases hk
 ·intro h
  unfold xk at h
  split at h
  ·rename_i h1
   obtain ⟨k,hk⟩:=Ad h1
   exact We.2 ⟨k+1,by rw [E4];rw [hk];exact h⟩
  ·cases h
theorem ja {g:Nat} {l:List Value}:Qh C frz g l H=W4 C (Ua C) frz g l H:=by
 apply Nz
 intro r
 constructor
 ·intro h
  obtain ⟨k,hk⟩:=Sm.1 h
  exact Vk (we k) _ _ _ _ hk
 ·intro h
  unfold W4 at h
  split at h
  ·rename_i fn hfn
   split at h
   ·rename_i body hb
    split at h
    ·rename_i hok
     split at h
     ·rename_i he
      obtain ⟨k,hk⟩:=We.1 he
      exact Sm.2 ⟨k,by unfold W4;simp only [hfn,hb,hok,if_true,hk];exact h⟩
     ·rename_i he
      obtain ⟨k,hk⟩:=We.1 he
      exact Sm.2 ⟨k,by unfold W4;simp only [hfn,hb,hok,if_true,hk];exact h⟩
     ·cases h
    ·cases h
   ·cases h
  ·cases h
theorem vcall_sound (hdraw:qu C):Rw C.P (Qh C frz) frz:=fun g l H v H' h hf=>by
 obtain ⟨k,hk⟩:=Sm.1 h
 exact qg (Qh9 C hdraw k) frz g l H v H' hk hf
end Go.VM
set_option linter.all false
namespace Go.VM
open Go
variable {P:Program} {H H' L:Qd} {v w x y:Value} {frz:Nat} {t t':Env} {C:Ctx} {α:Type}
def Q0n (C:Ctx) (g:Nat) (fn:Func) (H:Qd) (r:Option (Out×Env×Qd)):Option (Value×Qd):=
 match r with
 | some (.normal,t',H')=>Vy C g fn H t' H'
 | some (.ret,t',H')=>Vy C g fn H t' H'
 | _=>none
theorem xu {g:Nat} {l:List Value} {fn:Func} {body:Code} (hf:C.P.funcs[g]? = some fn) (hb:fn.body=some body) (hok:fnOk fn body=true) :
 Qh C frz g l H=Q0n C g fn H (Ua C (if C.mode g=2 then frz else H.length) body (S6 l) H):=by
 rw [ja];unfold W4;simp only [hf,hb,hok,if_true];rfl
def vif (b:Bool) (x y:Option α):Option α:=match b with|true=>x|false=>y
def Zp (p:Prop) [Decidable p] (x:Option α):Option α:=if p then x else none
@[congr] theorem Qmm {b b':Bool} {x y:Option α} (h:b=b'):vif b x y=vif b' x y:=by rw [h]
@[congr] theorem Qjk {p p':Prop} [Decidable p] [Decidable p'] {x:Option α} (h:p=p'):Zp p x=Zp p' x:=by subst h;unfold Zp;split<;>rfl
@[simp] theorem Qqz (x y:Option α):vif true x y=x:=rfl
@[simp] theorem Qnd (x y:Option α):vif false x y=y:=rfl
@[simp] theorem Qj9 (x:Option α):Zp True x=x:=rfl
@[simp] theorem Qjh (x:Option α):Zp False x=none:=rfl
theorem Ys {p:Prop} [Decidable p] {x z:Option α} (h:p) (h1:x=z):Zp p x=z:=by unfold Zp;rw [if_pos h,h1]
@[simp] theorem Qqv (p:Prop) [Decidable p] (x:Option α):(if p then x else none)=Zp p x:=rfl
@[simp] theorem Qpb {β:Type} (p:Prop) [Decidable p] (x:Option α) (f:α→β):(Zp p x).map f=Zp p (x.map f):=by unfold Zp;split<;>rfl
@[simp] theorem Qox (t:Env) (d:Nat) (v:Value):Uo t d v d=v:=by simp [Uo]
@[simp] theorem Vi (t:Env) (d:Nat) (v:Value) (x:Nat) (h:x≠d):Uo t d v x=t x:=by simp [Uo,h]
@[simp] theorem Qqe (t:Env) (d:Nat) (v:Value):put t (some d) v=Uo t d v:=rfl
@[simp] theorem Qqu (t:Env) (v:Value):put t none v=t:=rfl
attribute [simp] ev Qhb
@[simp] theorem Qja (a:Value) (l:List Value):S6 (a::l) 0=a:=rfl
@[simp] theorem Qjq (a:Value) (l:List Value) (n:Nat):S6 (a::l) (n+1)=S6 l n:=rfl
section
variable (call:Wy)
@[simp] theorem Qql (x:Operand):Y8 P frz call (.move x) t H=some (ev t x,H):=rfl
@[simp] theorem Qlz (x:Operand):Y8 P frz call (.assign x) t H=some (ev t x,H):=rfl
def Qe3 (c a b:Value):Option Value:=match c with | .bool true=>some a | .bool false=>some b|_=>none
@[simp] theorem Qlu (c:Bool) (a b:Value):Qe3 (.bool c) a b=some (if c=true then a else b):=by cases c<;>rfl
@[simp] theorem Qpu (c a b:Operand):Y8 P frz call (.pick c a b) t H=(Qe3 (ev t c) (ev t a) (ev t b)).map (·,H):=by
 simp only [Y8,Qe3];generalize ev t c=cc;cases cc<;>first|rfl|(rename_i b;cases b<;>rfl)
@[simp] theorem Qpx (ty:TypeId) (a:Operand):Y8 P frz call (.load ty a) t H=(Xh P H ty (ev t a)).map (·,H):=rfl
@[simp] theorem Qoc (ty:TypeId) (a x:Operand):Y8 P frz call (.store ty a x) t H=(Zu P frz H ty (ev t x) (ev t a)).map (undef,·):=rfl
@[simp] theorem Qnj (op:BinOp) (ty ty':TypeId) (x y:Operand):Y8 P frz call (.binOp op ty x y ty') t H=(X7 P op ty (ev t x) (ev t y)).map (·,H):=rfl
@[simp] theorem Qq5 (op:UnOp) (ty:TypeId) (x:Operand):Y8 P frz call (.unOp op ty x) t H=(vun op (ev t x)).map (·,H):=rfl
@[simp] theorem Qjg (s d:TypeId) (x:Operand):Y8 P frz call (.convert s d x) t H=Zp ((P.underlying s).isSome=true) ((C0 P s d H (ev t x)).map (·,H)):=rfl
@[simp] theorem Qg8 (s:TypeId) (x:Operand) (f:Nat):Y8 P frz call (.fieldAddr s x f) t H=(Qy P H s f (ev t x)).map (·,H):=rfl
@[simp] theorem Qno (s:TypeId) (x:Operand) (f:Nat):Y8 P frz call (.field s x f) t H=(Ef P s f (ev t x)).map (·,H):=rfl
@[simp] theorem Qha (s:TypeId) (x i:Operand):Y8 P frz call (.indexAddr s x i) t H=(Q6 P H s (ev t x) (ev t i)).map (·,H):=rfl
@[simp] theorem Qm2 (s:TypeId) (x i:Operand):Y8 P frz call (.index s x i) t H=(Ie P s (ev t x) (ev t i)).map (·,H):=rfl
@[simp] theorem Qg5 (s:TypeId) (x i:Operand):Y8 P frz call (.makeSlice s x i) t H=O5 P H s (ev t x) (ev t i):=rfl
@[simp] theorem Qok (s:TypeId) (x:Operand) (lo hi:Option Operand):Y8 P frz call (.slice s x lo hi none) t H=(Vl P H s (lo.map (ev t)) (hi.map (ev t)) (ev t x)).map (·,H):=rfl
@[simp] theorem Qhw (fn:Fn) (f c:Array Operand):Y8 P frz call (.makeFunc fn f c) t H=some (.func fn (f.map (ev t)) (c.map (ev t)),H):=rfl
@[simp] theorem Qnr (e:TypeId):Y8 P frz call (.alloc e) t H=(Zc P e).map fun z=>(Dw H,H++[⟨z,0,e⟩]):=by
 simp only [Y8];cases Zc P e<;>rfl
@[simp] theorem Qwh (e:TypeId) (x:Operand):Y8 P frz call (.box e x) t H=Zp (ones (ev t x).cells.toList=true) (some (Dw H,H++[⟨(ev t x).cells.toList,0,e⟩])):=rfl
@[simp] theorem Qm4 (ty:TypeId) (parts:Array (Nat×Operand)):Y8 P frz call (.build ty parts) t H=(F5 P ty (parts.toList.map fun x=>(x.1,ev t x.2))).map (·,H):=rfl
@[simp] theorem Qei (ty:TypeId) (n:Nat) (parts:Array (Nat×Operand)):Y8 P frz call (.buildSlice ty n parts) t H=Uu P H ty n (parts.toList.map fun x=>(x.1,ev t x.2)):=rfl
@[simp] theorem Qjt (b:Builtin) (args:Array Operand) (ts:Array TypeId):Y8 P frz call (.call ⟨.builtin b,args,ts⟩) t H=Y3 P frz H b ts.toList (args.toList.map (ev t)):=rfl
@[simp] theorem Qp3 (g:Nat) (args:Array Operand) (ts:Array TypeId):Y8 P frz call (.call ⟨.value (.func g),args,ts⟩) t H=call g (args.toList.map (ev t)) H:=by
 simp [Y8]
def yg (call:Wy) (f:Value) (args:List Value) (H:Qd):Option (Value×Qd):=match f with
 | .func (.func g) first captured=>call g (first.toList++args++captured.toList) H
 | _=>none
@[simp] theorem Qje (x:Tmp) (args:Array Operand) (ts:Array TypeId):Y8 P frz call (.call ⟨.value (.tmp x),args,ts⟩) t H=yg call (t x) (args.toList.map (ev t)) H:=rfl
@[simp] theorem Qme (g:Nat) (f c:Array Value) (args:List Value):yg call (.func (.func g) f c) args H=call g (f.toList++args++c.toList) H:=rfl
def Ez (i:Nat) (v:Value):Option Value:=match v with | .tuple vs=>vs[i]? | _=>none
@[simp] theorem Qd7 (vs:Array Value) (i:Nat):Ez i (.tuple vs)=vs[i]?:=rfl
@[simp] theorem Qi8 (x:Operand) (i:Nat):Y8 P frz call (.extract x i) t H=(Ez i (ev t x)).map (·,H):=by
 simp only [Y8,Ez];generalize ev t x=cc;cases cc<;>rfl
def vnil (H:Qd) (v:Value):Option Value:=match v with | .pointer (some a)=>(match look H a with|some _=>some (.pointer (some a))|none=>none)|_=>none
@[simp] theorem Qic (x:Operand):Y8 P frz call (.nilCheck x) t H=(vnil H (ev t x)).map (·,H):=by
 simp only [Y8,vnil];generalize ev t x=cc
 cases cc with
 | pointer a=>cases a with
  | none=>rfl
  | some a=>simp only [];cases look H a<;>rfl
 | _=>rfl
end
@[simp] theorem Qxt (b:Bool):vun .not (.bool b)=some (.bool !b):=rfl
@[simp] theorem Quk (k:IntKind) (n:Int):vun .neg (.int k n)=some (.int k (k.wrap (0-n))):=rfl
section
variable (ty:TypeId) (k:IntKind) (a b:Int)
@[simp] theorem Qhj (xs ys:Array Value) (ty:TypeId):X7 P .eql ty (.agg xs) (.agg ys)=match Nf P ty with|some ks=>(R6 ks xs.toList ys.toList).map .bool|none=>none:=by
 simp only [X7];cases Nf P ty<;>rfl
@[simp] theorem Qho (xs ys:Array Value) (ty:TypeId):X7 P .neq ty (.agg xs) (.agg ys)=match Nf P ty with|some ks=>(R6 ks xs.toList ys.toList).map (fun b=>.bool (!b))|none=>none:=by
 simp only [X7];cases Nf P ty<;>rfl
attribute [simp] R6 ceq
@[simp] theorem Qpf:X7 P .add ty (.int k a) (.int k b)=some (.int k (k.wrap (a+b))):=by simp [X7,S5]
@[simp] theorem Qpa:X7 P .sub ty (.int k a) (.int k b)=some (.int k (k.wrap (a-b))):=by simp [X7,S5]
@[simp] theorem Qo0:X7 P .mul ty (.int k a) (.int k b)=some (.int k (k.wrap (a*b))):=by simp [X7,S5]
@[simp] theorem Qp8:X7 P .quo ty (.int k a) (.int k b)=Zp (b≠0) (some (.int k (k.wrap (a.tdiv b)))):=by simp only [X7,S5,if_true,Zp];by_cases h:b=0<;>simp [h]
@[simp] theorem Qpw:X7 P .rem ty (.int k a) (.int k b)=Zp (b≠0) (some (.int k (a.tmod b))):=by simp only [X7,S5,if_true,Zp];by_cases h:b=0<;>simp [h]
@[simp] theorem Qo5:X7 P .eql ty (.int k a) (.int k b)=some (.bool (decide (a=b))):=by simp [X7,Jw]
@[simp] theorem Qp6:X7 P .neq ty (.int k a) (.int k b)=some (.bool (!decide (a=b))):=by simp [X7,Jw]
@[simp] theorem Qpm:X7 P .lss ty (.int k a) (.int k b)=some (.bool (decide (a<b))):=by simp [X7,Jw]
@[simp] theorem Qqf:X7 P .leq ty (.int k a) (.int k b)=some (.bool (decide (a≤b))):=by simp [X7,Jw]
@[simp] theorem Qqp:X7 P .gtr ty (.int k a) (.int k b)=some (.bool (decide (b<a))):=by simp [X7,Jw]
@[simp] theorem Qqo:X7 P .geq ty (.int k a) (.int k b)=some (.bool (decide (b≤a))):=by simp [X7,Jw]
end
end Go.VM
set_option linter.all false
namespace Go.VM
open Go
variable {P:Program} {H H' L:Qd} {v w x y:Value} {t t':Env} {C:Ctx} {α:Type}
inductive Itm where
 | code (c:Code)
 | ops (all:Array Oper) (l:List Oper)
 | opsW (all:Array Oper) (fl:List Nat×List Nat) (n:Nat) (wl:List Wat) (l:List Oper)
 | blk (id:Nat)
 | again (c:Code)
structure Frm where
 C:Ctx
 frz:Nat
 g:Nat
 rs:List ResultVar
 H0:Qd
noncomputable def Jy (F:Frm):List Itm→Out→Env→Qd→Option (Out×Env×Qd)
 | [],o,t,H=>some (o,t,H)
 | .code c::k,.normal,t,H=>match Ua F.C F.frz c t H with
  | some (o,t',H')=>Jy F k o t' H'
  | none=>none
 | .ops all l::k,.normal,t,H=>match Tw F.C.P F.frz (Qh F.C F.frz) all l t H with
  | some (t',H')=>Jy F k .normal t' H'
  | none=>none
 | .opsW all fl n wl l::k,.normal,t,H=>match U6 F.C.P F.frz (Qh F.C F.frz) all fl n wl l t H with
  | some (t',H')=>Jy F k .normal t' H'
  | none=>none
 | .again c::k,.normal,t,H=>match Ua F.C F.frz (.loop c) t H with
  | some (o,t',H')=>Jy F k o t' H'
  | none=>none
 | .blk id::k,.exit i,t,H=>if i=id then Jy F k .normal t H else Jy F k (.exit i) t H
 | _::k,o,t,H=>Jy F k o t H
def Qfn (F:Frm) (t':Env) (H':Qd):Option (Value×Qd):=
 match T2 F.C.P t' H' F.rs with
 | some vs=>if F.C.mode F.g=0 then
  match pack F.H0.length H' (joined vs) with
  | some (v,ids)=>some (v,F.H0++packed F.H0.length H' ids)
  | none=>none
  else some (joined vs,H')
 | none=>none
def Qya (F:Frm) (r:Option (Out×Env×Qd)):Option (Value×Qd):=
 match r with
 | some (.normal,t',H')=>Qfn F t' H'
 | some (.ret,t',H')=>Qfn F t' H'
 | _=>none
noncomputable def go (F:Frm) (k:List Itm) (o:Out) (t:Env) (H:Qd):Option (Value×Qd):=Qya F (Jy F k o t H)
theorem Qb {frz:Nat} {g:Nat} {l:List Value} {fn:Func} {body:Code} {rs:List ResultVar} (hf:C.P.funcs[g]? = some fn) (hb:fn.body=some body) (hok:fnOk fn body=true) (hrs:fn.results.toList=rs) :
 Qh C frz g l H=go ⟨C,if C.mode g=2 then frz else H.length,g,rs,H⟩ [.code body] .normal (S6 l) H:=by
 rw [xu hf hb hok]
 subst hrs
 simp only [go,Jy]
 cases Ua C (if C.mode g=2 then frz else H.length) body (S6 l) H with
 | none=>rfl
 | some r=>rfl
variable (F:Frm) (k:List Itm) (a b:Code)
@[simp] theorem Qyg:go F [] .normal t H=Qfn F t H:=rfl
theorem Ny:∀k,Jy F k .ret t H=some (.ret,t,H)
 | []=>rfl
 | .code _::k=>Ny k
 | .ops _ _::k=>Ny k
 | .opsW _ _ _ _ _::k=>Ny k
 | .again _::k=>Ny k
 | .blk _::k=>Ny k
@[simp] theorem Qim (i:Nat):go F (.code a::k) (.exit i) t H=go F k (.exit i) t H:=rfl
@[simp] theorem Qjp (i:Nat) (all:Array Oper) (l:List Oper):go F (.ops all l::k) (.exit i) t H=go F k (.exit i) t H:=rfl
@[simp] theorem Qhc (i:Nat) (all:Array Oper) (fl:List Nat×List Nat) (n:Nat) (wl:List Wat) (l:List Oper):go F (.opsW all fl n wl l::k) (.exit i) t H=go F k (.exit i) t H:=rfl
@[simp] theorem Qg6 (i:Nat):go F (.again a::k) (.exit i) t H=go F k (.exit i) t H:=rfl
@[simp] theorem Iw (i id:Nat):go F (.blk id::k) (.exit i) t H=if i=id then go F k .normal t H else go F k (.exit i) t H:=by
 simp only [go,Jy];split<;>rfl
@[simp] theorem Qyn (id:Nat):go F (.blk id::k) .normal t H=go F k .normal t H:=rfl
@[simp] theorem Qq3:go F (.code .ret::k) .normal t H=Qfn F t H:=by
 simp only [go,Jy,Qce,Ny];rfl
@[simp] theorem Qt6:go F (.code .skip::k) .normal t H=go F k .normal t H:=by simp only [go,Jy,gn]
@[simp] theorem Qq6 (i:Nat):go F (.code (.exit i)::k) .normal t H=go F k (.exit i) t H:=by simp only [go,Jy,kp]
@[simp] theorem Q1c:go F (.code (.seq a b)::k) .normal t H=go F (.code a::.code b::k) .normal t H:=by
 simp only [go,Jy,Qb8]
 cases Ua F.C F.frz a t H with
 | none=>rfl
 | some r=>
  obtain ⟨o,t1,H1⟩:=r
  cases o<;>rfl
@[simp] theorem Qqn (id:Nat):go F (.code (.block id a)::k) .normal t H=go F (.code a::.blk id::k) .normal t H:=by
 simp only [go,Jy,xy]
 cases Ua F.C F.frz a t H with
 | none=>rfl
 | some r=>
  obtain ⟨o,t1,H1⟩:=r
  cases o with
  | normal=>rfl
  | ret=>rfl
  | exit i=>by_cases h:i=id<;>simp [wa,Jy,h]
theorem Z4:go F (.code (.loop a)::k) .normal t H=go F (.code a::.again a::k) .normal t H:=by
 simp only [go,Jy]
 rw [ng]
 cases Ua F.C F.frz a t H with
 | none=>rfl
 | some r=>
  obtain ⟨o,t1,H1⟩:=r
  cases o<;>rfl
theorem Us:go F (.again a::k) .normal t H=go F (.code (.loop a)::k) .normal t H:=rfl
@[simp] theorem Qmx (id:Nat) (ops:Array Oper):go F (.code (.region id ops false)::k) .normal t H=go F (.ops ops ops.toList::k) .normal t H:=by
 have hp:Fh F.C ops false=some ops.toList:=by simp [Fh]
 simp only [go,Jy,Sf,Y4,hp]
 cases Tw F.C.P F.frz (Qh F.C F.frz) ops ops.toList t H with
 | none=>rfl
 | some r=>rfl
theorem Qv (id:Nat) (ops:Array Oper) (h:Jq F.C ops=true):go F (.code (.region id ops true)::k) .normal t H=go F (.ops ops ops.toList::k) .normal t H:=by
 have hp:Fh F.C ops true=some ops.toList:=by simp [Fh,h]
 simp only [go,Jy,Sf,Y4,hp]
 cases Tw F.C.P F.frz (Qh F.C F.frz) ops ops.toList t H with
 | none=>rfl
 | some r=>rfl
theorem S0 (id:Nat) (ops:Array Oper) (h:Jq F.C ops=false∧Ku F.C ops=true):go F (.code (.region id ops true)::k) .normal t H=go F (.ops ops (Sd F.C.P ops)::k) .normal t H:=by
 have hp:Fh F.C ops true=some (Sd F.C.P ops):=by simp [Fh,h.1,h.2]
 simp only [go,Jy,Sf,Y4,hp]
 cases Tw F.C.P F.frz (Qh F.C F.frz) ops (Sd F.C.P ops) t H with
 | none=>rfl
 | some r=>rfl
theorem V8 (id:Nat) (ops:Array Oper) (fl:List Nat×List Nat) (h:Jq F.C ops=false∧Ku F.C ops=false∧Ky F.C ops=true∧Gf F.C ops=fl):go F (.code (.region id ops true)::k) .normal t H=go F (.opsW ops fl 0 [] (Sd F.C.P ops)::k) .normal t H:=by
 have hp:Fh F.C ops true=none:=by simp [Fh,h.1,h.2.1]
 have ha:Mw F.C ops=ops:=if_pos h.2.2.1
 simp only [go,Jy,Sf,Y4,hp,ha,h.2.2.1,if_true,h.2.2.2]
 cases U6 F.C.P F.frz (Qh F.C F.frz) ops fl 0 [] (Sd F.C.P ops) t H with
 | none=>rfl
 | some r=>rfl
@[simp] theorem Qjr (all:Array Oper) (fl:List Nat×List Nat) (n:Nat) (wl:List Wat):go F (.opsW all fl n wl []::k) .normal t H=go F k .normal t H:=by simp [go,Jy,U6]
@[simp] theorem Qto (wl:List Wat):Ic true wl=[]:=rfl
@[simp] theorem Qs5 (wl:List Wat):Ic false wl=wl:=rfl
@[simp] theorem Qxo (P:Program) (H:Qd):wk P H []↔True:=⟨fun _=>trivial,fun _ _ h=>by cases h⟩
@[simp] theorem Qoz (P:Program) (H:Qd) (x:Wat) (l:List Wat):wk P H (x::l)↔x.ok P H∧wk P H l:=by simp [wk]
@[simp] theorem Qzp (P:Program) (H:Qd) (ty:TypeId) (a v:Value):(Wat.ld ty a v).ok P H↔Xh P H ty a=some v∧live H v:=Iff.rfl
@[simp] theorem Qtq (P:Program) (H:Qd) (id:Nat) (r:Row):(Wat.row id r).ok P H↔H[id]? = some r:=Iff.rfl
@[simp] theorem Qo8 (k:IntKind) (n:Int):live H (.int k n)↔True:=Iff.rfl
@[simp] theorem Qof (b:Bool):live H (.bool b)↔True:=Iff.rfl
@[simp] theorem Qpg (s:ByteArray):live H (.string s)↔True:=Iff.rfl
@[simp] theorem Tb:live H (.slice none 0 0)↔True:=Iff.rfl
@[simp] theorem Qqw (a:Addr):live H (.pointer (some a))↔look H a≠none:=Iff.rfl
@[simp] theorem Qv0 (a:Addr) (n c:Nat):live H (.slice (some a) n c)↔look H a≠none:=Iff.rfl
attribute [simp] Z9 xv
noncomputable def Bb (p:Prop) (x:Option α):Option α:=@ite _ p (Classical.propDecidable p) x none
@[simp] theorem Ql8 (x:Option α):Bb True x=x:=by simp [Bb]
noncomputable def jp (F:Frm) (r:Option (Value×Qd)) (op:Op) (b:Bool) (d:Option Tmp) (all:Array Oper) (fl:List Nat×List Nat) (n:Nat) (wl:List Wat) (l:List Oper) (k:List Itm) (t:Env):Option (Value×Qd):=
 match r with
 | some (v,H')=>Bb (Yf op=true∨wk F.C.P H' (Z9 b op t v H' wl)) (go F (.opsW all fl (n+1) (Z9 b op t v H' wl) l::k) .normal (put t d v) H')
 | none=>none
section
variable (d:Option Tmp) (op:Op) (all:Array Oper) (fl:List Nat×List Nat) (n:Nat) (wl:List Wat) (l:List Oper)
@[simp] theorem Qdv (b:Bool):jp F (some (v,H)) op b d all fl n wl l k t=Bb (Yf op=true∨wk F.C.P H (Z9 b op t v H wl)) (go F (.opsW all fl (n+1) (Z9 b op t v H wl) l::k) .normal (put t d v) H):=rfl
@[simp] theorem Qm9 (b:Bool):jp F none op b d all fl n wl l k t=none:=rfl
@[simp] theorem Q0i (ty:TypeId) (pos:String) (after:Array Edge) :
 go F (.opsW all fl n wl (⟨d,op,ty,pos,after,none⟩::l)::k) .normal t H=jp F (Y8 F.C.P F.frz (Qh F.C F.frz) op t H) op (fl.1.contains n) d all fl n (Ic (fl.2.contains n) wl) l k t:=by
 simp only [go,Jy,U6,Zz,jp]
 cases Y8 F.C.P F.frz (Qh F.C F.frz) op t H with
 | none=>rfl
 | some r=>
  obtain ⟨v,H'⟩:=r
  simp only [Bb]
  by_cases h:Yf op=true∨wk F.C.P H' (Z9 (fl.1.contains n) op t v H' (Ic (fl.2.contains n) wl))
  ·simp only [h,if_true]<;>rfl
  ·simp only [h,if_false]<;>rfl
noncomputable def gdW (F:Frm) (v:Value) (want:Bool) (op:Op) (b:Bool) (d:Option Tmp) (all:Array Oper) (fl:List Nat×List Nat) (n:Nat) (wl:List Wat) (l:List Oper) (k:List Itm) (t:Env) (H:Qd):Option (Value×Qd):=
 match v with
 | .bool c=>if c=want then jp F (Y8 F.C.P F.frz (Qh F.C F.frz) op t H) op b d all fl n (Ic (fl.2.contains n) wl) l k t else go F (.opsW all fl (n+1) wl l::k) .normal (put t d undef) H
 | .tuple vs=>if vs.size=0 then go F (.opsW all fl (n+1) wl l::k) .normal (put t d undef) H else none
 | _=>none
@[simp] theorem Q0m (b:Bool):gdW F (.bool true) true op b d all fl n wl l k t H=jp F (Y8 F.C.P F.frz (Qh F.C F.frz) op t H) op b d all fl n (Ic (fl.2.contains n) wl) l k t:=rfl
@[simp] theorem Q0f (b:Bool):gdW F (.bool false) false op b d all fl n wl l k t H=jp F (Y8 F.C.P F.frz (Qh F.C F.frz) op t H) op b d all fl n (Ic (fl.2.contains n) wl) l k t:=rfl
@[simp] theorem Q0u (b:Bool):gdW F (.bool true) false op b d all fl n wl l k t H=go F (.opsW all fl (n+1) wl l::k) .normal (put t d undef) H:=rfl
@[simp] theorem Q12 (b:Bool):gdW F (.bool false) true op b d all fl n wl l k t H=go F (.opsW all fl (n+1) wl l::k) .normal (put t d undef) H:=rfl
@[simp] theorem Qnz (b want:Bool):gdW F undef want op b d all fl n wl l k t H=go F (.opsW all fl (n+1) wl l::k) .normal (put t d undef) H:=rfl
end
@[simp] theorem Qk5 (all:Array Oper):go F (.ops all []::k) .normal t H=go F k .normal t H:=rfl
noncomputable def br (F:Frm) (v:Value) (k1 k2:List Itm) (t:Env) (H:Qd):Option (Value×Qd):=
 match v with
 | .bool true=>go F k1 .normal t H
 | .bool false=>go F k2 .normal t H
 | _=>none
@[simp] theorem Qxs (k1 k2:List Itm):br F (.bool true) k1 k2 t H=go F k1 .normal t H:=rfl
@[simp] theorem Qq0 (k1 k2:List Itm):br F (.bool false) k1 k2 t H=go F k2 .normal t H:=rfl
@[simp] theorem Qy6 (b:Bool) (k1 k2:List Itm):br F (.bool (!b)) k1 k2 t H=br F (.bool b) k2 k1 t H:=by cases b<;>rfl
theorem Q7 {p:Prop} [Decidable p] {k1 k2:List Itm} {z:Option (Value×Qd)} (h1:p→go F k1 .normal t H=z) (h2:¬p→go F k2 .normal t H=z):br F (.bool (decide p)) k1 k2 t H=z:=by
 by_cases h:p
 ·simp only [h,decide_true];exact h1 h
 ·simp only [h,decide_false];exact h2 h
theorem Qqq {b:Bool} {k1 k2:List Itm} {z:Option (Value×Qd)} (h1:b=true→go F k1 .normal t H=z) (h2:b=false→go F k2 .normal t H=z):br F (.bool b) k1 k2 t H=z:=by
 cases b;exact h2 rfl;exact h1 rfl
@[simp] theorem Quu (x:Operand):go F (.code (.cond x a b)::k) .normal t H=br F (ev t x) (.code a::k) (.code b::k) t H:=by
 simp only [go,Jy,Qax,br]
 cases hv:ev t x with
 | bool c=>cases c<;>rfl
 | _=>rfl
noncomputable def thn (F:Frm) (r:Option (Value×Qd)) (d:Option Tmp) (k:List Itm) (t:Env):Option (Value×Qd):=
 match r with
 | some (v,H')=>go F k .normal (put t d v) H'
 | none=>none
@[simp] theorem Qg3 (d:Option Tmp):thn F (some (v,H)) d k t=go F k .normal (put t d v) H:=rfl
@[simp] theorem Qpj (d:Option Tmp):thn F none d k t=none:=rfl
@[simp] theorem Qqc (p:Prop) [Decidable p] (r:Option (Value×Qd)) (d:Option Tmp):thn F (Zp p r) d k t=Zp p (thn F r d k t):=by unfold Zp;split<;>rfl
@[simp] theorem Q2p (all:Array Oper) (d:Option Tmp) (op:Op) (ty:TypeId) (pos:String) (after:Array Edge) (l:List Oper) :
 go F (.ops all (⟨d,op,ty,pos,after,none⟩::l)::k) .normal t H=thn F (Y8 F.C.P F.frz (Qh F.C F.frz) op t H) d (.ops all l::k) t:=by
 simp only [go,Jy,Tw,Zz,thn]
 cases Y8 F.C.P F.frz (Qh F.C F.frz) op t H with
 | none=>rfl
 | some r=>rfl
@[simp] def Qpe (ops:Array Oper) (j:Nat):Nat:=((ops[j]?).bind (·.dst)).getD 0
noncomputable def gd (F:Frm) (v:Value) (want:Bool) (op:Op) (d:Option Tmp) (k:List Itm) (t:Env) (H:Qd):Option (Value×Qd):=
 match v with
 | .bool b=>if b=want then thn F (Y8 F.C.P F.frz (Qh F.C F.frz) op t H) d k t else go F k .normal (put t d undef) H
 | .tuple vs=>if vs.size=0 then go F k .normal (put t d undef) H else none
 | _=>none
@[simp] theorem Q2j (op:Op) (d:Option Tmp):gd F (.bool true) true op d k t H=thn F (Y8 F.C.P F.frz (Qh F.C F.frz) op t H) d k t:=rfl
@[simp] theorem Q2i (op:Op) (d:Option Tmp):gd F (.bool false) false op d k t H=thn F (Y8 F.C.P F.frz (Qh F.C F.frz) op t H) d k t:=rfl
@[simp] theorem Q2x (op:Op) (d:Option Tmp):gd F (.bool true) false op d k t H=go F k .normal (put t d undef) H:=rfl
@[simp] theorem Q2f (op:Op) (d:Option Tmp):gd F (.bool false) true op d k t H=go F k .normal (put t d undef) H:=rfl
@[simp] theorem Qpt (want:Bool) (op:Op) (d:Option Tmp):gd F undef want op d k t H=go F k .normal (put t d undef) H:=rfl
@[simp] theorem Qz9 (b want:Bool) (op:Op) (d:Option Tmp):gd F (.bool (!b)) want op d k t H=gd F (.bool b) (!want) op d k t H:=by cases b<;>cases want<;>rfl
theorem Xs {p:Prop} [Decidable p] {want:Bool} {op:Op} {d:Option Tmp} {z:Option (Value×Qd)} (h1:p→gd F (.bool true) want op d k t H=z) (h2:¬p→gd F (.bool false) want op d k t H=z) :
 gd F (.bool (decide p)) want op d k t H=z:=by
 by_cases h:p
 ·simp only [h,decide_true];exact h1 h
 ·simp only [h,decide_false];exact h2 h
@[simp] theorem Qqk (all:Array Oper) (d:Option Tmp) (op:Op) (ty:TypeId) (pos:String) (after:Array Edge) (l:List Oper) (j:Nat) (want:Bool)
 (hj:((all[j]?).bind (·.dst)).isSome=true) :
 go F (.ops all (⟨d,op,ty,pos,after,some (j,want)⟩::l)::k) .normal t H=gd F (t (Qpe all j)) want op d (.ops all l::k) t H:=by
 simp only [go,Jy,Tw,Zz,Qpe]
 cases hd:(all[j]?).bind (·.dst) with
 | none=>rw [hd] at hj;cases hj
 | some e=>
  simp only [Option.getD_some]
  cases hv:t e with
  | bool b=>
   simp only [gd,thn]
   by_cases hb:b=want
   ·subst hb
    simp only [beq_self_eq_true,if_true]
    cases Y8 F.C.P F.frz (Qh F.C F.frz) op t H<;>rfl
   ·have:(b == want)=false:=by simpa using hb
    simp only [this,if_neg hb];rfl
  | tuple vs=>
   simp only [gd]
   by_cases hv:vs.size=0
   ·simp only [hv,if_true];rfl
   ·simp only [hv,if_false];rfl
  | _=>rfl
attribute [simp] Yf Qfn T2 Gn joined pack Pr Ya Ra packed Rk Fj
end Go.VM
set_option linter.all false
namespace Go.VM
open Go
variable {P:Program} {H H' L:Qd} {v w x y:Value} {t t':Env} {C:Ctx} {ty e:TypeId} {xs:List Int}
def W7 (H:Qd) (v:Value) (xs:List Int):Prop:=
 (v=.slice none 0 0∧xs=[])∨∃id off r,v=.slice (some ⟨id,off,some r.gen⟩) xs.length 0∧H[id]? = some r∧(r.cells.drop off).take xs.length=xs.map (.int .i64)∧off+xs.length≤r.cells.length
def Yi (v:Value) (j:Nat):Value:=match v with | .slice (some a) _ _=>.pointer (some ⟨a.block,a.off+j,a.spot⟩)|_=>dead
theorem W7.app (h:W7 H v xs) (L:Qd):W7 (H++L) v xs:=by
 rcases h with h|⟨id,off,r,h1,h2,h3,h4⟩
 ·exact .inl h
 ·exact .inr ⟨id,off,r,h1,by rw [List.getElem?_append_left (List.getElem?_eq_some_iff.1 h2).1];exact h2,h3,h4⟩
theorem W7.len (h:W7 H v xs) (hs:Rg P ty=true):Md P H ty v=some (.int .i64 xs.length):=by
 rcases h with ⟨rfl,rfl⟩|⟨id,off,r,rfl,h2,h3,h4⟩
 ·simp [Md,hs]
 ·simp [Md,look,h2,hs]
theorem W7.idx (h:W7 H v xs) (he:Ze P ty=some (e,1)) {i:Int} (h0:0≤i) (h1:i<xs.length):Q6 P H ty v (.int .i64 i)=some (Yi v i.toNat):=by
 rcases h with ⟨rfl,rfl⟩|⟨id,off,r,rfl,h2,h3,h4⟩
 ·simp at h1;omega
 ·simp [Q6,look,h2,he,Yi,h0,h1]
theorem W7.load (h:W7 H v xs) (he:tsz P e=some (false,1)) {j:Nat} (h1:j<xs.length):Xh P H e (Yi v j)=some (.int .i64 (xs.getD j 0)):=by
 rcases h with ⟨rfl,rfl⟩|⟨id,off,r,rfl,h2,h3,h4⟩
 ·simp at h1
 ·have:=congrArg (·[j]?) h3
  simp [h1] at this
  simp [Xh,Yi,look,h2,he,this,h1]
theorem W7.one' (h:W7 H v xs):VM.one v=true:=by
 rcases h with ⟨rfl,rfl⟩|⟨id,off,r,rfl,h2,h3,h4⟩<;>rfl
theorem W7.cells (h:W7 H v xs):v.cells=#[v]:=by
 rcases h with ⟨rfl,rfl⟩|⟨id,off,r,rfl,h2,h3,h4⟩<;>rfl
theorem W7.src (h:W7 H v xs):L7 1 H v=some (xs.length,xs.map (.int .i64)):=by
 rcases h with ⟨rfl,rfl⟩|⟨id,off,r,rfl,h2,h3,h4⟩
 ·rfl
 ·simp [L7,look,h2,h3,h4]
theorem W7.lenA (h:W7 H v xs) (hs:Rg P ty=true):Md P (H++L) ty v=some (.int .i64 xs.length):=(h.app L).len hs
theorem W7.idxA (h:W7 H v xs) (he:Ze P ty=some (e,1)) {i:Int} (h0:0≤i) (h1:i<xs.length):Q6 P (H++L) ty v (.int .i64 i)=some (Yi v i.toNat):=(h.app L).idx he h0 h1
theorem W7.loadA (h:W7 H v xs) (he:tsz P e=some (false,1)) {j:Nat} (h1:j<xs.length):Xh P (H++L) e (Yi v j)=some (.int .i64 (xs.getD j 0)):=(h.app L).load he h1
theorem W7.row {id:Nat} {r:Row} (h:H[id]? = some r) (hc:r.cells=xs.map (.int .i64)):W7 H (.slice (some ⟨id,0,some r.gen⟩) xs.length 0) xs:=
 .inr ⟨id,0,r,rfl,h,by rw [hc,List.drop_zero,List.take_of_length_le (by simp)],by simp [hc]⟩
attribute [simp] Y3 Dw Qy Gw Qbg Qbc O5 Uu F5 Fc Ef part' Yc
@[simp] theorem Qor (P:Program) (H:Qd) (t:TypeId):Md P H t (.slice none 0 0)=if Rg P t=true then some (.int .i64 0) else none:=rfl
@[simp] theorem Qvk (P:Program) (H:Qd) (t:TypeId) (a:Addr) (len k:Nat):Md P H t (.slice (some a) len k) =
 match look H a with
 | some _=>if Rg P t=true then some (.int .i64 len) else none
 | none=>none:=rfl
@[simp] theorem Qqd (P:Program) (t:TypeId):Qhe P t (.slice none 0 0)=if Rg P t=true then some (.int .i64 0) else none:=rfl
@[simp] theorem Qkb (P:Program) (H:Qd) (t:TypeId) (lo hi:Option Value):Vl P H t lo hi (.slice none 0 0) =
 match Ze P t,Yc 0 lo,Yc 0 hi with
 | some _,some 0,some 0=>some (.slice none 0 0)
 | _,_,_=>none:=rfl
@[simp] theorem Qna (P:Program) (H:Qd) (t:TypeId) (lo hi:Option Value) (a:Addr) (len c:Nat):Vl P H t lo hi (.slice (some a) len c) =
 match look H a with
 | some r=>match Ze P t,Yc 0 lo,Yc len hi with
  | some (e,n),some l,some h=>if c=0∧r.elem=e∧0≤l∧l≤h∧h≤len then some (.slice (some ⟨a.block,a.off+l.toNat*n,a.spot⟩) (h.toNat-l.toNat) 0) else none
  | _,_,_=>none
 | none=>none:=rfl
@[simp] theorem Qg9 (P:Program) (H:Qd) (t:TypeId) (a:Addr) (len:Nat) (k:IntKind) (i:Int):Q6 P H t (.slice (some a) len 0) (.int k i) =
 match look H a with
 | some _=>match Ze P t with
  | some (_,n)=>if 0≤i∧i<len then some (.pointer (some ⟨a.block,a.off+i.toNat*n,a.spot⟩)) else none
  | none=>none
 | none=>none:=rfl
@[simp] theorem Qpr (P:Program) (H:Qd) (t:TypeId) (a:Addr):Xh P H t (.pointer (some a)) =
 match look H a with
 | some r=>match tsz P t with
  | some (true,n)=>if a.off+n≤r.cells.length then some (.agg ((r.cells.drop a.off).take n).toArray) else none
  | some (false,_)=>r.cells[a.off]?
  | none=>none
 | none=>none:=rfl
@[simp] theorem Qne (P:Program) (frz:Nat) (H:Qd) (t:TypeId) (x:Value) (a:Addr):Zu P frz H t x (.pointer (some a)) =
 match look H a with
 | some r=>match tsz P t with
  | some (_,n)=>if frz≤a.block∧x.cells.size=n∧a.off+n≤r.cells.length∧ones x.cells.toList=true
   then some (H.set a.block { r with cells:=splice r.cells a.off x.cells.toList }) else none
  | none=>none
 | none=>none:=rfl
@[simp] theorem Qq4 (n:Nat) (H:Qd):L7 n H (.slice none 0 0)=some (0,[]):=rfl
@[simp] theorem Qxi (n:Nat) (H:Qd) (a:Addr) (len c:Nat):L7 n H (.slice (some a) len c) =
 match look H a with
 | some r=>if a.off+len*n≤r.cells.length then some (len,(r.cells.drop a.off).take (len*n)) else none
 | none=>none:=rfl
@[simp] theorem Q5 (P:Program) (frz:Nat) (H:Qd) (t u:TypeId) (x:Value):Y5 P frz H t u (.slice none 0 0) x =
 if t=u then match Ze P t with
 | some (e,n)=>match L7 n H x with
  | some (m,news)=>if m=0 then some (.slice none 0 0,H) else
   if m≤1073741824∧ones news=true then some (.slice (some ⟨H.length,0,some 0⟩) m 0,H++[⟨news,0,e⟩]) else none
  | none=>none
 | none=>none else Vw P frz H t u (.slice none 0 0) x:=rfl
@[simp] theorem Wm (P:Program) (frz:Nat) (H:Qd) (t u:TypeId) (a:Addr) (len c:Nat) (x:Value):Y5 P frz H t u (.slice (some a) len c) x =
 if t=u then match Ze P t with
 | some (e,n)=>match L7 n H x with
  | some (m,news)=>match look H a with
   | some r=>if m=0 then some (.slice (some a) len c,H) else
    if c=0∧frz≤a.block∧a.off+len*n≤r.cells.length∧r.elem=e∧len+m≤1073741824∧ones r.cells=true∧ones news=true
    then some (.slice (some ⟨a.block,0,some (r.gen+1)⟩) (len+m) 0,H.set a.block ⟨Sz r.cells a.off (len*n)++news,r.gen+1,e⟩) else none
   | none=>none
  | none=>none
 | none=>none else Vw P frz H t u (.slice (some a) len c) x:=rfl
@[simp] theorem Qiv (P:Program) (frz:Nat) (H:Qd) (t u:TypeId) (s:Value) (q:IntKind) (k:Int):Vw P frz H t u s (.int q k)=S3 P H t u s (.int q k):=rfl
@[simp] theorem Qin (P:Program) (frz:Nat) (H:Qd) (t u:TypeId) (s:Value) (b:ByteArray):Vw P frz H t u s (.string b)=Fg P frz H t u s b:=rfl
@[simp] theorem Qis (P:Program) (H:Qd) (t u:TypeId) (q:IntKind) (k:Int):S3 P H t u (.slice none 0 0) (.int q k) =
 match P.underlying u with
 | some (.int _)=>match Ze P t with
  | some (e,n)=>if 0<n∧0<k∧k≤1073741824 then some (.slice (some ⟨H.length,0,some 0⟩) k.toNat 0,H++[⟨[],0,e⟩]) else none
  | none=>none
 | _=>none:=rfl
@[simp] theorem Qmp (l:List Value):Sz l 0 l.length=l:=by simp [Sz]
@[simp] theorem Qlh (l:List Value) (o:Nat):Sz l o 0=[]:=by unfold Sz;split<;>simp<;>omega
theorem Qch {l:List Value} {k:Nat} (h:k=l.length):Sz l 0 k=l:=by subst h;simp
@[simp] theorem Qj0 {α:Type} (f:α→Value) (xs:List α) {k:Nat} (h:xs.length=k):Sz (xs.map f) 0 k=xs.map f:=Qch (by simp [h])
@[simp] theorem Qqj:ones []=true:=rfl
@[simp] theorem Qm7 (v:Value) (l:List Value):ones (v::l)=(VM.one v&&ones l):=rfl
@[simp] theorem Qqi (l m:List Value):ones (l++m)=(ones l&&ones m):=List.all_append
@[simp] theorem Pj (k:IntKind) (xs:List Int):ones (xs.map (.int k))=true:=by
 induction xs<;>simp_all [ones,VM.one]
@[simp] theorem Qta (k:IntKind) (n:Int):VM.one (Value.int k n)=true:=rfl
@[simp] theorem Qqg (b:Bool):VM.one (Value.bool b)=true:=rfl
@[simp] theorem Qvs (b:ByteArray):VM.one (Value.string b)=true:=rfl
@[simp] theorem Q1w (a:Option Addr) (n c:Nat):VM.one (Value.slice a n c)=true:=rfl
@[simp] theorem Qs1 (a:Option Addr):VM.one (Value.pointer a)=true:=rfl
@[simp] theorem Qn1 (k:IntKind) (n:Int):(Value.int k n).cells=#[.int k n]:=rfl
@[simp] theorem Qlp (b:Bool):(Value.bool b).cells=#[.bool b]:=rfl
@[simp] theorem Qnn (b:ByteArray):(Value.string b).cells=#[.string b]:=rfl
@[simp] theorem Qp5 (a:Option Addr) (n c:Nat):(Value.slice a n c).cells=#[.slice a n c]:=rfl
@[simp] theorem Qmw (a:Option Addr):(Value.pointer a).cells=#[.pointer a]:=rfl
@[simp] theorem Qmu (a:Array Value):(Value.agg a).cells=a:=rfl
@[simp] theorem Qr3 (H L:Qd) (i:Nat):(H++L)[H.length+i]? = L[i]?:=by rw [List.getElem?_append_right (by omega),Nat.add_sub_cancel_left]
@[simp] theorem Kk (H L:Qd):(H++L)[H.length]? = L[0]?:=by rw [List.getElem?_append_right (by omega),Nat.sub_self]
@[simp] theorem Qo2 (H L:Qd) (i o:Nat) (s:Option Nat):look (H++L) ⟨H.length+i,o,s⟩=look L ⟨i,o,s⟩:=by simp [look]
@[simp] theorem Qmt (H L:Qd) (o:Nat) (s:Option Nat):look (H++L) ⟨H.length,o,s⟩=look L ⟨0,o,s⟩:=by simp [look]
@[simp] theorem Qnk (r:Row) (L:Qd) (o:Nat) (s:Option Nat):look (r::L) ⟨0,o,s⟩=if s=some r.gen then some r else none:=rfl
@[simp] theorem Qm1 (r:Row) (L:Qd) (n o:Nat) (s:Option Nat):look (r::L) ⟨n+1,o,s⟩=look L ⟨n,o,s⟩:=rfl
@[simp] theorem Qjj (a:Value) (l cs:List Value) (o:Nat):splice (a::l) (o+1) cs=a::splice l o cs:=by simp [splice,Nat.add_right_comm o 1]
@[simp] theorem Qjm (a c:Value) (l cs:List Value):splice (a::l) 0 (c::cs)=c::splice l 0 cs:=by simp [splice]
@[simp] theorem Qjx (l:List Value):splice l 0 []=l:=by simp [splice]
theorem wy {α:Type} (f:α→Value) (z:Value) (xs:List α) (i:Nat) (h:i<xs.length):splice ((xs.take i).map f++List.replicate (xs.length-i) z) i [f xs[i]]=(xs.take (i+1)).map f++List.replicate (xs.length-(i+1)) z:=by
 have h1:((xs.take i).map f).length=i:=by simp;omega
 unfold splice
 rw [List.take_append_of_le_length (by omega),List.take_of_length_le (by omega),List.drop_append,List.drop_of_length_le (by simp;omega),h1]
 rw [List.take_succ_eq_append_getElem h]
 simp only [List.map_append,List.map_cons,List.map_nil,List.nil_append,List.length_cons,List.length_nil,List.drop_replicate]
 congr 2;omega
theorem wc {α:Type} (f:α→Value) (z:Value) (xs:List α) (i:Nat) (h:i<xs.length):splice ((xs.map f).take i++List.replicate (xs.length-i) z) i [f xs[i]]=(xs.map f).take (i+1)++List.replicate (xs.length-(i+1)) z:=by
 have:=wy f z xs i h
 simpa only [List.map_take] using this
theorem me (n:Nat) (k:IntKind) (xs:List Int):(xs.map (Value.int k)).map (Fj n)=xs.map (.int k):=by
 rw [List.map_map];rfl
@[simp] theorem Qmn (a n:Nat):(a+n<a)=False:=by simp
@[simp] theorem Qk7 (a b:ByteArray):X7 P .eql ty (.string a) (.string b)=some (.bool (a.toList == b.toList)):=rfl
@[simp] theorem Qki (a b:ByteArray):X7 P .neq ty (.string a) (.string b)=some (.bool (!(a.toList == b.toList))):=rfl
@[simp] theorem Qi6 (a b:ByteArray):X7 P .lss ty (.string a) (.string b)=some (.bool (Op.bytesLess a.toList b.toList)):=rfl
theorem W7.at {L:Qd} {k:Nat} {g:Nat} {e:TypeId} (h:L[k]? = some ⟨xs.map (.int .i64),g,e⟩):W7 (H++L) (.slice (some ⟨H.length+k,0,some g⟩) xs.length 0) xs:=
 W7.row (r:=⟨xs.map (.int .i64),g,e⟩) (by simpa using h) rfl
@[simp] theorem Qkk (n:Nat) (k:IntKind):(Fj n∘Value.int k)=Value.int k:=rfl
@[simp] theorem Qii {α β:Type} (xs:List α) (f:α→β):(xs.map f).take xs.length=xs.map f:=List.take_of_length_le (by simp)
theorem Z2 {F:Frm} {k:List Itm} {B:Code} {z:Option (Value×Qd)} (I:Nat→Env→Qd→Prop)
 (round:∀n t H,I n t H→(∀m t' H',I m t' H'→m<n→go F (.again B::k) .normal t' H'=z)→go F (.code B::.again B::k) .normal t H=z)
 {n:Nat} (h:I n t H):go F (.code (.loop B)::k) .normal t H=z:=by
 induction n using Nat.strongRecOn generalizing t H with
 | _ n ih=>
  rw [Z4]
  exact round n t H h fun m t' H' hI hm=>by rw [Us];exact ih m hm hI
end Go.VM
set_option linter.all false
namespace Go.VM
open Go Go.RowKit Go.ChangeShapes Go.WideShapes Go.Deep
structure Kn (α:Type) where
 sz:Nat
 Is:Qd→α→List Value→Prop
 app:∀{H L a vs},Is H a vs→Is (H++L) a vs
 len:∀{H a vs},Is H a vs→vs.length=sz
def Pn {α:Type} (d:Kn α) (H:Qd) (v:Value) (xs:List α):Prop:=
 (v=.slice none 0 0∧xs=[])∨∃id off r,v=.slice (some ⟨id,off,some r.gen⟩) xs.length 0∧H[id]? = some r∧off+xs.length*d.sz≤r.cells.length∧
  ∀j x,xs[j]? = some x→d.Is H x ((r.cells.drop (off+j*d.sz)).take d.sz)
theorem Pn.app {α:Type} {d:Kn α} {H L:Qd} {v:Value} {xs:List α} (h:Pn d H v xs):Pn d (H++L) v xs:=by
 rcases h with h|⟨id,off,r,h1,h2,h3,h4⟩
 ·exact .inl h
 ·exact .inr ⟨id,off,r,h1,by rw [List.getElem?_append_left (List.getElem?_eq_some_iff.1 h2).1];exact h2,h3,fun j x hx=>d.app (h4 j x hx)⟩
namespace Kn
def int (k:IntKind):Kn Int:=⟨1,fun _ a vs=>vs=[.int k a],fun h=>h,fun h=>by rw [h];rfl⟩
def bool:Kn Bool:=⟨1,fun _ a vs=>vs=[.bool a],fun h=>h,fun h=>by rw [h];rfl⟩
def string:Kn ByteArray:=⟨1,fun _ a vs=>vs=[.string a],fun h=>h,fun h=>by rw [h];rfl⟩
def slice {α:Type} (d:Kn α):Kn (List α):=⟨1,fun H xs vs=>∃v,vs=[v]∧Pn d H v xs,fun ⟨v,h1,h2⟩=>⟨v,h1,h2.app⟩,fun ⟨v,h1,_⟩=>by rw [h1];rfl⟩
def pair {α β:Type} (d:Kn α) (d':Kn β):Kn (α×β):=⟨d.sz+d'.sz,fun H x vs=>∃v1 v2,vs=v1++v2∧d.Is H x.1 v1∧d'.Is H x.2 v2,
 fun ⟨v1,v2,h,h1,h2⟩=>⟨v1,v2,h,d.app h1,d'.app h2⟩,fun ⟨v1,v2,h,h1,h2⟩=>by rw [h,List.length_append,d.len h1,d'.len h2]⟩
end Kn
theorem Pn.ints {H:Qd} {v:Value} {xs:List Int} (h:Pn (Kn.int .i64) H v xs):W7 H v xs:=by
 rcases h with h|⟨id,off,r,h1,h2,h3,h4⟩
 ·exact .inl h
 ·have hs:(Kn.int .i64).sz=1:=rfl
  rw [hs] at h3 h4
  refine .inr ⟨id,off,r,h1,h2,List.ext_getElem? fun j=>?_,by omega⟩
  by_cases hj:j<xs.length
  ·have:=h4 j xs[j] (by simp [hj])
   have e:(r.cells.drop (off+j*1)).take 1=[.int .i64 xs[j]]:=this
   have e2:=congrArg (·[0]?) e
   simp at e2
   rw [List.getElem?_take,if_pos hj,List.getElem?_drop]
   simp [e2,hj]
  ·rw [List.getElem?_take,if_neg hj,List.getElem?_eq_none (by rw [List.length_map];omega)]
def Args (P:Program) (W:World) (H:Qd) (ι:X6):Prop:=Rel P W.heap.size W H.length ι H W
variable {P:Program} {W:World} {H:Qd} {ι:X6} {t e:TypeId}
theorem Args.nil:Args P W [] (fun _=>none):=
 ⟨Below.refl _ _,Nat.le_refl _,fun _ _ h=>(by cases h),fun _ _ _ h=>(by cases h)⟩
theorem Args.lt (A:Args P W H ι) {id:Nat} {l:Loc} (h:ι id=some l):id<H.length:=by
 obtain ⟨_,r,hr,_⟩:=A.row _ _ h
 exact (List.getElem?_eq_some_iff.1 hr).1
theorem Args.push (A:Args P W H ι) (r:Row) (l:Loc) (hl:l.b<W.heap.size) (hr:Ng P H ι W r.cells l) :
 Args P W (H++[r]) (fun id=>if id=H.length then some l else ι id)∧Ext H ι (H++[r]) (fun id=>if id=H.length then some l else ι id):=by
 have E:Ext H ι (H++[r]) (fun id=>if id=H.length then some l else ι id):=fun id q hq=>by
  have hlt:=(List.getElem?_eq_some_iff.1 hq).1
  exact ⟨q,by rw [List.getElem?_append_left hlt];exact hq,rfl,Nat.le_refl _,fun _=>if_neg (by omega)⟩
 refine ⟨⟨A.below,A.hB,fun id l' h=>?_,fun id l' q h hq hf=>?_⟩,E⟩
 ·by_cases hid:id=H.length
  ·simp only [hid,if_true,Option.some.injEq] at h
   subst h;subst hid
   exact ⟨hl,r,by simp,hr.mono E⟩
  ·simp only [hid,if_false] at h
   obtain ⟨h1,q,hq,h2⟩:=A.row _ _ h
   exact ⟨h1,q,by rw [List.getElem?_append_left (List.getElem?_eq_some_iff.1 hq).1];exact hq,h2.mono E⟩
 ·have:=(List.getElem?_eq_some_iff.1 hq).1
  omega
structure Opens {α:Type} (P:Program) (t:TypeId) (d:Kn α) (wf:α→Prop):Prop where
 size:P.cellsOf t=d.sz
 read:∀{D:Type} {enc:TypeId×Value→D} {w:World} {base:Nat} {held:Bool} {fuel:Nat} {cs:List Value} {x:DataW D×List MemPlace},
  DataW.trod enc P w base (fun _=>true) held fuel t cs=some x→∀H ι,Args P w H ι→∃(a:α) (L:Qd) (ι':X6) (vs:List Value),
   Args P w (H++L) ι'∧Ext H ι (H++L) ι'∧LRel P (H++L) ι' vs cs∧d.Is (H++L) a vs∧wf a
theorem LRel.one' {v c:Value} (h:VRel P H ι v c):LRel P H ι [v] [c]:=⟨rfl,fun i x y hx hy=>by
 cases i with
 | zero=>simp at hx hy;subst hx;subst hy;exact h
 | succ i=>simp at hx⟩
theorem opens_int {k:IntKind} (ht:P.underlying t=some (.int k)) (hc:P.cellsOf t=1):Opens P t (Kn.int k) (fun x=>(Lit.int k x).wf=true):=
 ⟨hc,fun h H ι A=>by
  obtain ⟨n,rfl,_,hw⟩:=DataW.trod_int ht h
  exact ⟨n,[],ι,[.int k n],by simpa using A,by simpa using Ext.refl H ι,LRel.one' (.int _ _),rfl,hw⟩⟩
theorem opens_bool (ht:P.underlying t=some .bool) (hc:P.cellsOf t=1):Opens P t Kn.bool (fun _=>True):=
 ⟨hc,fun h H ι A=>by
  obtain ⟨n,rfl,_⟩:=DataW.trod_bool ht h
  exact ⟨n,[],ι,[.bool n],by simpa using A,by simpa using Ext.refl H ι,LRel.one' (.bool _),rfl,trivial⟩⟩
theorem opens_slice {α:Type} {d:Kn α} {wf:α→Prop} (ht:P.underlying t=some (.slice e)) (hc:P.cellsOf t=1) (hz:0<d.sz) (h:Opens P e d wf) :
 Opens P t (Kn.slice d) (fun l=>l.length≤maxLen∧∀x∈l,wf x):=by
 refine ⟨hc,fun {D enc w base held fuel cs x} hr H ι A=>?_⟩
 have none_:∀c,VRel P H ι (.slice none 0 0) c→∃(a:List α) (L:Qd) (ι':X6) (vs:List Value),Args P w (H++L) ι'∧Ext H ι (H++L) ι'∧LRel P (H++L) ι' vs [c]∧(Kn.slice d).Is (H++L) a vs∧(a.length≤maxLen∧∀x∈a,wf x):=fun c hv=>
  ⟨[],[],ι,[.slice none 0 0],by simpa using A,by simpa using Ext.refl H ι,LRel.one' (by simpa using hv),⟨_,rfl,.inl ⟨rfl,rfl⟩⟩,by simp,by simp⟩
 rcases open_slice ht hr with ⟨rfl,_⟩|⟨a,len,cap,m,n,DD,Pl,rfl,_,hl,hm,hmm,_,hel⟩
 ·exact none_ _ .nilSl
 ·simp only [if_true] at hmm
  subst hmm
  rw [h.size] at hel
  by_cases h0:m=0
  ·subst h0
   obtain rfl:len=0:=by omega
   exact none_ _ .noSl
  ·obtain ⟨cs0,hc0,_⟩:=hel 0 (by omega)
   obtain ⟨_,hl0,hg0⟩:=World.cells?_some hc0
   have hcell:=hg0 0 hz
   simp only [Nat.zero_mul,Addr.add,if_true] at hcell
   rw [List.getElem?_eq_getElem (by omega)] at hcell
   have hlt:a.block<w.heap.size∧a.spot=none:=by
    unfold World.cell? at hcell
    split at hcell
    ·rename_i hh
     refine ⟨(Array.getElem?_eq_some_iff.1 hh).1,?_⟩
     cases hs:a.spot with
     | none=>rfl
     | some q=>simp [hs] at hcell
    ·cases hcell
   obtain ⟨b,o,s⟩:=a
   obtain ⟨hlt,rfl⟩:b<w.heap.size∧s=none:=hlt
   have each:∀n',n'≤len→∃(xs:List α) (L:Qd) (ι':X6) (vs:List Value),xs.length=n'∧Args P w (H++L) ι'∧Ext H ι (H++L) ι'∧vs.length=n'*d.sz∧
    (∀j v,vs[j]? = some v→∃c,w.cell? ⟨b,o+j,none⟩=some c∧VRel P (H++L) ι' v c)∧(∀j x,xs[j]? = some x→d.Is (H++L) x ((vs.drop (j*d.sz)).take d.sz))∧∀x∈xs,wf x:=by
    intro n'
    induction n' with
    | zero=>exact fun _=>⟨[],[],ι,[],rfl,by simpa using A,by simpa using Ext.refl H ι,by simp,by simp,by simp,by simp⟩
    | succ n' ih=>
     intro hn
     obtain ⟨xs,L,ι1,vs,e1,e2,e3,e4,e5,e6,e7⟩:=ih (by omega)
     obtain ⟨cs',h1,h2⟩:=hel n' (by omega)
     obtain ⟨y,L2,ι2,us,f1,f2,f3,f4,f5⟩:=h.read h2 _ _ e2
     obtain ⟨_,hlc,hgc⟩:=World.cells?_some h1
     rw [List.append_assoc] at f1 f2 f3 f4
     have hus:=d.len f4
     refine ⟨xs++[y],L++L2,ι2,vs++us,by simp [e1],f1,e3.trans f2,by rw [List.length_append,e4,hus,Nat.succ_mul],fun j v hj=>?_,fun j x hj=>?_,fun x hx=>?_⟩
     ·by_cases hjl:j<vs.length
      ·rw [List.getElem?_append_left hjl] at hj
       obtain ⟨c,k1,k2⟩:=e5 j v hj
       exact ⟨c,k1,k2.mono f2⟩
      ·rw [List.getElem?_append_right (by omega)] at hj
       have hj':=(List.getElem?_eq_some_iff.1 hj).1
       have hg:=hgc (j-vs.length) (by omega)
       rw [List.getElem?_eq_getElem (by omega)] at hg
       refine ⟨_,?_,f3.2 _ _ _ hj (List.getElem?_eq_getElem (by omega))⟩
       rw [← hg];congr 1
       simp only [Addr.add]
       rw [e4] at hjl ⊢
       by_cases q1:n'*d.sz=0<;>by_cases q2:j-n'*d.sz=0<;>simp [q1,q2]<;>omega
     ·by_cases hjl:j<xs.length
      ·rw [List.getElem?_append_left hjl] at hj
       have:=d.app (L:=L2) (e6 j x hj)
       rw [List.append_assoc] at this
       have hm1:(j+1)*d.sz≤xs.length*d.sz:=Nat.mul_le_mul_right _ hjl
       rw [Nat.succ_mul,e1] at hm1
       rwa [List.drop_append_of_le_length (by omega),List.take_append_of_le_length (by rw [List.length_drop];omega)]
      ·rw [List.getElem?_append_right (by omega)] at hj
       have hj':=(List.getElem?_eq_some_iff.1 hj).1
       simp at hj'
       obtain rfl:j=xs.length:=by omega
       simp at hj
       subst hj
       rw [e1,← e4,List.drop_append_of_le_length (by omega),List.drop_of_length_le (Nat.le_refl _),List.nil_append,List.take_of_length_le (by omega)]
       exact f4
     ·rcases List.mem_append.1 hx with hx|hx
      ·exact e7 x hx
      ·rw [List.mem_singleton.1 hx];exact f5
   obtain ⟨xs,L,ι1,vs,e1,e2,e3,e4,e5,e6,e7⟩:=each len (Nat.le_refl _)
   have hml:len*d.sz≤m*d.sz:=Nat.mul_le_mul_right _ hl
   obtain ⟨k1,k2⟩:=e2.push ⟨vs,0,e⟩ ⟨b,o,m*d.sz⟩ hlt ⟨by simp only;omega,fun j v hj=>e5 j v hj⟩
   rw [List.append_assoc] at k1 k2
   refine ⟨xs,L++[⟨vs,0,e⟩],_,[.slice (some ⟨(H++L).length,0,some 0⟩) len 0],k1,e3.trans k2,LRel.one' ?_,⟨_,rfl,.inr ⟨_,0,⟨vs,0,e⟩,by rw [e1],by simp,by rw [e1];simp only;omega,fun j x hj=>?_⟩⟩,by omega,e7⟩
   ·exact .sl (a:=⟨(H++L).length,0,some 0⟩) (r:=⟨vs,0,e⟩) (l:=⟨b,o,m*d.sz⟩) (by simp) rfl (by simp) hl (fun _=>by simp [h.size])
   ·have:=d.app (L:=[⟨vs,0,e⟩]) (e6 j x hj)
    rw [List.append_assoc] at this
    simpa using this
structure OpensFs {α:Type} (P:Program) (fs:List Field) (o:Nat) (d:Kn α) (wf:α→Prop):Prop where
 read:∀{D:Type} {enc:TypeId×Value→D} {w:World} {base:Nat} {held:Bool} {fuel:Nat} {cs:List Value} {xs:List (DataW D×List MemPlace)},
  cs.length=o+d.sz→xs.length=fs.length→(∀(i:Nat) (f:Field),fs[i]? = some f→DataW.trod enc P w base (fun _=>true) held fuel f.type ((cs.drop f.offset).take (P.cellsOf f.type))=xs[i]?)→∀H ι,Args P w H ι→
   ∃(a:α) (L:Qd) (ι':X6) (vs:List Value),Args P w (H++L) ι'∧Ext H ι (H++L) ι'∧LRel P (H++L) ι' vs (cs.drop o)∧d.Is (H++L) a vs∧wf a
theorem opens_one {α:Type} {d:Kn α} {wf:α→Prop} {f:Field} {o:Nat} (ho:f.offset=o) (h:Opens P f.type d wf):OpensFs P [f] o d wf:=by
 refine ⟨fun {D enc w base held fuel cs xs} hl hx hf H ι A=>?_⟩
 have h0:=hf 0 f rfl
 match xs,hx with
 | [y],_=>
  rw [ho,List.take_of_length_le (by rw [List.length_drop,h.size];omega)] at h0
  exact h.read h0 H ι A
theorem opens_cons {α β:Type} {d:Kn α} {d':Kn β} {wf:α→Prop} {wf':β→Prop} {f:Field} {fs:List Field} {o o':Nat} (ho:f.offset=o) (h:Opens P f.type d wf) (ho':o'=o+d.sz) (h':OpensFs P fs o' d' wf') :
 OpensFs P (f::fs) o (Kn.pair d d') (fun x=>wf x.1∧wf' x.2):=by
 refine ⟨fun {D enc w base held fuel cs xs} hl hx hf H ι A=>?_⟩
 have h0:=hf 0 f rfl
 match xs,hx with
 | y::ys,hx=>
  obtain ⟨a,L,ι1,vs,k1,k2,k3,k4,k5⟩:=h.read h0 H ι A
  have hp:(Kn.pair d d').sz=d.sz+d'.sz:=rfl
  obtain ⟨b,L2,ι2,us,m1,m2,m3,m4,m5⟩:=h'.read (xs:=ys) (cs:=cs) (by omega) (by simpa using hx) (fun i g hg=>by simpa using hf (i+1) g (by simpa using hg)) _ _ k1
  rw [ho,h.size] at k3
  have k4':=d.app (L:=L2) k4
  rw [List.append_assoc] at m1 m2 m3 m4 k4'
  have hvl:=d.len k4
  refine ⟨(a,b),L++L2,ι2,vs++us,m1,k2.trans m2,?_,⟨vs,us,rfl,k4',m4⟩,k5,m5⟩
  have ec:cs.drop o=(cs.drop o).take d.sz++cs.drop o':=by rw [ho',← List.drop_drop,List.take_append_drop]
  rw [ec]
  have Qjd:=k3.1
  refine ⟨by rw [List.length_append,List.length_append,k3.1,m3.1],fun i x y hx hy=>?_⟩
  by_cases hi:i<vs.length
  ·rw [List.getElem?_append_left hi] at hx
   rw [List.getElem?_append_left (by omega)] at hy
   exact (k3.2 i x y hx hy).mono m2
  ·rw [List.getElem?_append_right (by omega)] at hx
   rw [List.getElem?_append_right (by omega),← Qjd] at hy
   exact m3.2 _ x y hx hy
theorem opens_struct {α:Type} {d:Kn α} {wf wf0:α→Prop} {fs:List Field} (ht:P.underlying t=some (.struct fs.toArray)) (hc:P.cellsOf t=d.sz) (h:OpensFs P fs 0 d wf0) (hw:∀x,wf0 x→wf x):Opens P t d wf:=by
 refine ⟨hc,fun hr H ι A=>?_⟩
 obtain ⟨xs,n,_,_,hl,hlen,hf⟩:=DataW.trod_struct ht hr
 obtain ⟨a,L,ι',vs,h1,h2,h3,h4,h5⟩:=h.read (by omega) (by simpa using hlen) (fun i f hi=>hf i f (by simpa using hi)) H ι A
 exact ⟨a,L,ι',vs,h1,h2,by simpa using h3,h4,hw a h5⟩
theorem open_arg {α:Type} {d:Kn α} {wf:α→Prop} {D:Type} {enc:TypeId×Value→D} {w w1:World} {base b0:Nat} {held:Bool} {r:Reach} {v:Value} {dd:DataW D} {p:List MemPlace} {fs:Array Field}
 (h:Opens P t d wf) (ht:P.underlying t=some (.struct fs)) (hv:Value.okWide P w1 r b0 t v) (hd:DataW.Trod enc P w base (fun _=>true) held t v dd p) (A:Args P w H ι) :
 ∃(a:α) (L:Qd) (ι':X6) (vs:List Value),Args P w (H++L) ι'∧Ext H ι (H++L) ι'∧VRel P (H++L) ι' (.agg vs.toArray) v∧d.Is (H++L) a vs∧wf a:=by
 obtain ⟨cs,rfl,hsz⟩:=okWide_struct ht hv
 obtain ⟨fuel,hf⟩:=hd
 obtain ⟨a,L,ι',vs,h1,h2,h3,h4,h5⟩:=h.read (cs:=cs.toList) (by simpa [Value.cells] using hf) H ι A
 exact ⟨a,L,ι',vs,h1,h2,.agg (by simpa using h3.1) fun i x y hx hy=>h3.2 i x y (by simpa using hx) (by simpa using hy),h4,h5⟩
theorem open_sl {α:Type} {d:Kn α} {wf:List α→Prop} {D:Type} {enc:TypeId×Value→D} {w w1:World} {base b0:Nat} {held:Bool} {r:Reach} {v:Value} {dd:DataW D} {p:List MemPlace}
 (h:Opens P t (Kn.slice d) wf) (ht:P.underlying t=some (.slice e)) (hv:Value.okWide P w1 r b0 t v) (hd:DataW.Trod enc P w base (fun _=>true) held t v dd p) (A:Args P w H ι) :
 ∃(l:List α) (L:Qd) (ι':X6) (u:Value),Args P w (H++L) ι'∧Ext H ι (H++L) ι'∧VRel P (H++L) ι' u v∧Pn d (H++L) u l∧wf l:=by
 obtain ⟨a0,len,cap,rfl⟩:=okWide_slice ht hv
 obtain ⟨fuel,hf⟩:=hd
 obtain ⟨l,L,ι',vs,h1,h2,h3,⟨u,rfl,h4⟩,h5⟩:=h.read (cs:=[.slice a0 len cap]) (by simpa [Value.cells] using hf) H ι A
 exact ⟨l,L,ι',u,h1,h2,h3.2 0 _ _ rfl rfl,h4,h5⟩
theorem LRel.cons' {l cs:List Value} {x c:Value} (h:VRel P H ι x c) (h':LRel P H ι l cs):LRel P H ι (x::l) (c::cs):=
 ⟨by simp [h'.1],fun i a b ha hb=>by
  cases i with
  | zero=>simp at ha hb;subst ha;subst hb;exact h
  | succ i=>exact h'.2 i a b (by simpa using ha) (by simpa using hb)⟩
theorem LRel.nil':LRel P H ι [] []:=⟨rfl,fun i a b ha=>by simp at ha⟩
end Go.VM
set_option linter.all false
namespace Go.VM
open Go
variable {P:Program} {H H' H'' L:Qd} {v w x y:Value} {t t':Env} {C:Ctx} {F:Frm} {Q Q':Value→Qd→Prop} {r:Option (Value×Qd)} {d:Option Tmp} {k k1 k2:List Itm}
def wp (r:Option (Value×Qd)) (Q:Value→Qd→Prop):Prop:=∃v H,r=some (v,H)∧Q v H
@[simp] theorem Qs4:wp (some (v,H)) Q↔Q v H:=⟨fun ⟨v',H',h,hq⟩=>by cases h;exact hq,fun h=>⟨v,H,rfl,h⟩⟩
theorem wp.mono (h:wp r Q) (k:∀v H,Q v H→Q' v H):wp r Q':=by
 obtain ⟨v,H,h1,h2⟩:=h;exact ⟨v,H,h1,k _ _ h2⟩
theorem Ql (h:wp r Q') (hk:∀v H',Q' v H'→wp (go F k .normal (put t d v) H') Q):wp (thn F r d k t) Q:=by
 obtain ⟨v,H,rfl,h2⟩:=h;exact hk _ _ h2
theorem Qa5 {op:Op} {b:Bool} {all:Array Oper} {fl:List Nat×List Nat} {n:Nat} {wl:List Wat} {l:List Oper} (h:wp r Q')
 (hk:∀v H',Q' v H'→wk F.C.P H' (Z9 b op t v H' wl)∧wp (go F (.opsW all fl (n+1) (Z9 b op t v H' wl) l::k) .normal (put t d v) H') Q):wp (jp F r op b d all fl n wl l k t) Q:=by
 obtain ⟨v,H,rfl,h2⟩:=h
 obtain ⟨k1,k2⟩:=hk _ _ h2
 simp only [Qdv,Bb,k1,or_true,if_true];exact k2
theorem Xt {p:Prop} [Decidable p] (h:p) (hk:wp r Q):wp (Zp p r) Q:=by unfold Zp;rw [if_pos h];exact hk
theorem Qm {p:Prop} [Decidable p] (h1:p→wp (go F k1 .normal t H) Q) (h2:¬p→wp (go F k2 .normal t H) Q):wp (br F (.bool (decide p)) k1 k2 t H) Q:=by
 by_cases h:p
 ·simp only [h,decide_true];exact h1 h
 ·simp only [h,decide_false];exact h2 h
theorem Qa2 {b:Bool} (h1:b=true→wp (go F k1 .normal t H) Q) (h2:b=false→wp (go F k2 .normal t H) Q):wp (br F (.bool b) k1 k2 t H) Q:=by
 cases b;exact h2 rfl;exact h1 rfl
theorem Yd {p:Prop} [Decidable p] {want:Bool} {op:Op} (h1:p→wp (gd F (.bool true) want op d k t H) Q) (h2:¬p→wp (gd F (.bool false) want op d k t H) Q) :
 wp (gd F (.bool (decide p)) want op d k t H) Q:=by
 by_cases h:p
 ·simp only [h,decide_true];exact h1 h
 ·simp only [h,decide_false];exact h2 h
theorem xp {b want:Bool} {op:Op} (h1:b=true→wp (gd F (.bool true) want op d k t H) Q) (h2:b=false→wp (gd F (.bool false) want op d k t H) Q) :
 wp (gd F (.bool b) want op d k t H) Q:=by cases b;exact h2 rfl;exact h1 rfl
theorem Qw {B:Code} (I:Nat→Env→Qd→Prop)
 (round:∀n t H,I n t H→(∀m t' H',I m t' H'→m<n→wp (go F (.again B::k) .normal t' H') Q)→wp (go F (.code B::.again B::k) .normal t H) Q)
 {n:Nat} (h:I n t H):wp (go F (.code (.loop B)::k) .normal t H) Q:=by
 induction n using Nat.strongRecOn generalizing t H with
 | _ n ih=>
  rw [Z4]
  exact round n t H h fun m t' H' hI hm=>by rw [Us];exact ih m hm hI
structure Fl (α:Type) where
 n:Nat
 f:α→List Value
 len:∀a,(f a).length=n
def Fl.int:Fl Int:=⟨1,fun a=>[.int .i64 a],fun _=>rfl⟩
def Fl.u8:Fl Int:=⟨1,fun a=>[.int .u8 a],fun _=>rfl⟩
def Fl.str:Fl ByteArray:=⟨1,fun a=>[.string a],fun _=>rfl⟩
def Fl.bool:Fl Bool:=⟨1,fun a=>[.bool a],fun _=>rfl⟩
def Fl.val:Fl Value:=⟨1,fun a=>[a],fun _=>rfl⟩
@[simp] theorem Fl.int_n:Fl.int.n=1:=rfl
@[simp] theorem Fl.u8_n:Fl.u8.n=1:=rfl
@[simp] theorem Fl.str_n:Fl.str.n=1:=rfl
@[simp] theorem Fl.bool_n:Fl.bool.n=1:=rfl
@[simp] theorem Fl.val_n:Fl.val.n=1:=rfl
@[simp] theorem Fl.int_f (a:Int):Fl.int.f a=[.int .i64 a]:=rfl
@[simp] theorem Fl.u8_f (a:Int):Fl.u8.f a=[.int .u8 a]:=rfl
@[simp] theorem Fl.str_f (a:ByteArray):Fl.str.f a=[.string a]:=rfl
@[simp] theorem Fl.bool_f (a:Bool):Fl.bool.f a=[.bool a]:=rfl
@[simp] theorem Fl.val_f (a:Value):Fl.val.f a=[a]:=rfl
variable {α:Type} {D:Fl α} {xs ys:List α} {e ty:TypeId}
def cellsOf (D:Fl α) (xs:List α):List Value:=xs.flatMap D.f
@[simp] theorem Qjs:cellsOf D []=[]:=rfl
@[simp] theorem Ye (a:α):cellsOf D (a::xs)=D.f a++cellsOf D xs:=by simp [cellsOf]
@[simp] theorem Nb:cellsOf D (xs++ys)=cellsOf D xs++cellsOf D ys:=by simp [cellsOf]
@[simp] theorem Tt:(cellsOf D xs).length=xs.length*D.n:=by
 induction xs with
 | nil=>simp
 | cons a l ih=>simp [ih,D.len,Nat.succ_mul];omega
theorem Sg (j:Nat):(cellsOf D xs).drop (j*D.n)=cellsOf D (xs.drop j):=by
 induction j generalizing xs with
 | zero=>simp
 | succ j ih=>
  cases xs with
  | nil=>simp
  | cons a l=>
   rw [Ye,Nat.succ_mul,Nat.add_comm,← List.drop_drop,List.drop_left' (D.len a),ih];rfl
theorem L6 (j:Nat):(cellsOf D xs).take (j*D.n)=cellsOf D (xs.take j):=by
 induction j generalizing xs with
 | zero=>simp
 | succ j ih=>
  cases xs with
  | nil=>simp
  | cons a l=>
   rw [Ye,Nat.succ_mul,Nat.add_comm,List.take_append,D.len,List.take_of_length_le (by rw [D.len];omega),Nat.add_sub_cancel_left,ih];simp
@[simp] theorem yp (vs:List Value):cellsOf Fl.val vs=vs:=by
 induction vs with
 | nil=>rfl
 | cons a l ih=>simp [ih]
theorem W1 (xs:List Int):cellsOf Fl.int xs=xs.map (.int .i64):=by
 induction xs with
 | nil=>rfl
 | cons a l ih=>simp [ih]
def Rd (D:Fl α) (H:Qd) (v:Value) (xs:List α):Prop:=
 (v=.slice none 0 0∧xs=[])∨∃id off r,v=.slice (some ⟨id,off,some r.gen⟩) xs.length 0∧H[id]? = some r∧(r.cells.drop off).take (xs.length*D.n)=cellsOf D xs∧off+xs.length*D.n≤r.cells.length
def Ow (D:Fl α) (e:TypeId) (H:Qd) (v:Value) (xs:List α):Prop:=
 (v=.slice none 0 0∧xs=[])∨∃id off r,v=.slice (some ⟨id,off,some r.gen⟩) xs.length 0∧H[id]? = some r∧(r.cells.drop off).take (xs.length*D.n)=cellsOf D xs∧
  off+xs.length*D.n≤r.cells.length∧r.elem=e∧ones r.cells=true
theorem Ow.rd (h:Ow D e H v xs):Rd D H v xs:=by
 rcases h with h|⟨id,off,r,h1,h2,h3,h4,_⟩
 ·exact .inl h
 ·exact .inr ⟨id,off,r,h1,h2,h3,h4⟩
def ids:Value→List Nat
 | .slice (some a) _ _=>[a.block]
 | .pointer (some a)=>[a.block]
 | _=>[]
@[simp] theorem Qwb (n k:Nat):ids (.slice none n k)=[]:=rfl
@[simp] theorem Q1e (a:Addr) (n k:Nat):ids (.slice (some a) n k)=[a.block]:=rfl
@[simp] theorem Qv8 (a:Addr):ids (.pointer (some a))=[a.block]:=rfl
def Qp (H H':Qd) (is:List Nat):Prop:=H.length≤H'.length∧∀i,i<H.length→i∉is→H'[i]? = H[i]?
theorem Oh {i:Nat} (h:i<H.length):(H++L)[i]? = H[i]?:=List.getElem?_append_left h
theorem Qp.refl (is:List Nat):Qp H H is:=⟨Nat.le_refl _,fun _ _ _=>rfl⟩
theorem Qp.app (is:List Nat):Qp H (H++L) is:=⟨by simp,fun _ h _=>Oh h⟩
theorem Qp.trans {is:List Nat} (h:Qp H H' is) (h':Qp H' H'' is):Qp H H'' is:=⟨Nat.le_trans h.1 h'.1,fun i hl hi=>(h'.2 i (Nat.lt_of_lt_of_le hl h.1) hi).trans (h.2 i hl hi)⟩
theorem Qp.trans' {is js:List Nat} (h:Qp H H' is) (h':Qp H' H'' js) (k:∀i∈js,i∈is∨H.length≤i):Qp H H'' is:=⟨Nat.le_trans h.1 h'.1,fun i hl hi=>(h'.2 i (Nat.lt_of_lt_of_le hl h.1) (fun hj=>(k i hj).elim hi (by omega))).trans (h.2 i hl hi)⟩
theorem Qp.mono {is js:List Nat} (h:Qp H H' is) (k:∀i∈is,i∈js):Qp H H' js:=⟨h.1,fun i hl hi=>h.2 i hl fun hh=>hi (k i hh)⟩
theorem Qp.split {A B:Qd} {is:List Nat} (h:Qp (A++B) H' is) (k:∀i∈is,i<A.length):∃A' M,H'=A'++(B++M)∧A'.length=A.length∧Qp A A' is:=by
 have hl:=h.1
 simp at hl
 refine ⟨H'.take A.length,H'.drop (A.length+B.length),?_,by simp;omega,by simp;omega,fun i hi hn=>?_⟩
 ·have e:(H'.drop A.length).take B.length=B:=by
   apply List.ext_getElem?
   intro i
   rw [List.getElem?_take]
   by_cases hi:i<B.length
   ·rw [if_pos hi,List.getElem?_drop,h.2 (A.length+i) (by simp;omega) (fun hh=>by have:=k _ hh;omega),List.getElem?_append_right (by omega),Nat.add_sub_cancel_left]
   ·rw [if_neg hi,List.getElem?_eq_none (by omega)]
  have e2:H'.drop (A.length+B.length)=(H'.drop A.length).drop B.length:=by rw [List.drop_drop]
  rw [e2]
  conv=>lhs;rw [← List.take_append_drop A.length H',← List.take_append_drop B.length (H'.drop A.length),e]
 ·rw [List.getElem?_take,if_pos hi,h.2 i (by simp;omega) hn,Oh hi]
theorem Qp.ex {is:List Nat} (h:Qp H H' is) (k:∀i∈is,H.length≤i):∃M,H'=H++M:=by
 have hl:=h.1
 refine ⟨H'.drop H.length,?_⟩
 have:H'.take H.length=H:=by
  apply List.ext_getElem?
  intro i
  rw [List.getElem?_take]
  by_cases hi:i<H.length
  ·rw [if_pos hi,h.2 i hi (fun hh=>by have:=k i hh;omega)]
  ·rw [if_neg hi,List.getElem?_eq_none (by omega)]
 conv=>lhs;rw [← List.take_append_drop H.length H',this]
theorem Rd.frame (h:Rd D H v xs) (k:∀i∈ids v,H'[i]? = H[i]?):Rd D H' v xs:=by
 rcases h with h|⟨id,off,r,rfl,h2,h3⟩
 ·exact .inl h
 ·exact .inr ⟨id,off,r,rfl,by rw [k id (by simp)];exact h2,h3⟩
theorem Ow.frame (h:Ow D e H v xs) (k:∀i∈ids v,H'[i]? = H[i]?):Ow D e H' v xs:=by
 rcases h with h|⟨id,off,r,rfl,h2,h3⟩
 ·exact .inl h
 ·exact .inr ⟨id,off,r,rfl,by rw [k id (by simp)];exact h2,h3⟩
theorem Rd.lt (h:Rd D H v xs):∀i∈ids v,i<H.length:=by
 rcases h with ⟨rfl,_⟩|⟨id,off,r,rfl,h2,h3⟩
 ·simp
 ·simpa using (List.getElem?_eq_some_iff.1 h2).1
theorem Ow.lt (h:Ow D e H v xs):∀i∈ids v,i<H.length:=h.rd.lt
theorem Rd.app (h:Rd D H v xs):Rd D (H++L) v xs:=h.frame fun i hi=>Oh (h.lt i hi)
theorem Ow.app (h:Ow D e H v xs):Ow D e (H++L) v xs:=h.frame fun i hi=>Oh (h.lt i hi)
theorem Rd.chg {is:List Nat} (h:Rd D H v xs) (k:Qp H H' is) (k':∀i∈ids v,i∉is):Rd D H' v xs:=h.frame fun i hi=>k.2 i (h.lt i hi) (k' i hi)
theorem Ow.chg {is:List Nat} (h:Ow D e H v xs) (k:Qp H H' is) (k':∀i∈ids v,i∉is):Ow D e H' v xs:=h.frame fun i hi=>k.2 i (h.lt i hi) (k' i hi)
theorem Rd.one' (h:Rd D H v xs):VM.one v=true:=by
 rcases h with ⟨rfl,rfl⟩|⟨id,off,r,rfl,_⟩<;>rfl
theorem Rd.cells (h:Rd D H v xs):v.cells=#[v]:=by
 rcases h with ⟨rfl,rfl⟩|⟨id,off,r,rfl,_⟩<;>rfl
theorem Rd.sl (h:Rd D H v xs):∃a,v=.slice a xs.length 0:=by
 rcases h with ⟨rfl,rfl⟩|⟨id,off,r,rfl,_⟩<;>exact ⟨_,rfl⟩
theorem Rd.len (h:Rd D H v xs) (hs:Rg P ty=true):Md P H ty v=some (.int .i64 xs.length):=by
 rcases h with ⟨rfl,rfl⟩|⟨id,off,r,rfl,h2,h3⟩
 ·simp [Md,hs]
 ·simp [Md,look,h2,hs]
theorem Rd.idx (h:Rd D H v xs) (he:Ze P ty=some (e,D.n)) {i:Int} (h0:0≤i) (h1:i<xs.length):Q6 P H ty v (.int .i64 i)=some (Yi v (i.toNat*D.n)):=by
 rcases h with ⟨rfl,rfl⟩|⟨id,off,r,rfl,h2,h3⟩
 ·simp at h1;omega
 ·simp [Q6,look,h2,he,Yi,h0,h1]
theorem Qhd {l:List Value} {off:Nat} (h3:(l.drop off).take (xs.length*D.n)=cellsOf D xs) {j c:Nat} (hj:j<xs.length) (hc:c<D.n):l[off+(j*D.n+c)]? = (D.f xs[j])[c]?:=by
 have hlt:j*D.n+c<xs.length*D.n:=by
  have:(j+1)*D.n≤xs.length*D.n:=Nat.mul_le_mul_right _ hj
  rw [Nat.succ_mul] at this;omega
 have e1:((l.drop off).take (xs.length*D.n))[j*D.n+c]? = l[off+(j*D.n+c)]?:=by
  rw [List.getElem?_take,if_pos hlt,List.getElem?_drop]
 rw [← e1,h3,← List.getElem?_drop,Sg,List.drop_eq_getElem_cons hj,Ye,List.getElem?_append_left (by rw [D.len];exact hc)]
theorem Rd.cell (h:Rd D H v xs) (he:tsz P e=some (false,1)) {j c:Nat} (hj:j<xs.length) (hc:c<D.n):Xh P H e (Yi v (j*D.n+c))=(D.f xs[j])[c]?:=by
 rcases h with ⟨rfl,rfl⟩|⟨id,off,r,rfl,h2,h3,_⟩
 ·simp at hj
 ·simp only [Yi,Xh,look,h2,he,if_true]
  exact Qhd h3 hj hc
theorem Rd.field (h:Rd D H v xs) {s:TypeId} {f o n:Nat} {ag:Bool} (hf:Wp P s f=some (o,ag,n)) {j:Nat} (hj:0<xs.length):Qy P H s f (Yi v j)=some (Yi v (j+o)):=by
 rcases h with ⟨rfl,rfl⟩|⟨id,off,r,rfl,h2,h3⟩
 ·simp at hj
 ·simp [Qy,Yi,look,h2,hf,Nat.add_assoc]
theorem Rd.load (h:Rd D H v xs) (he:tsz P e=some (true,D.n)) {j:Nat} (hj:j<xs.length):Xh P H e (Yi v (j*D.n))=some (.agg (D.f xs[j]).toArray):=by
 rcases h with ⟨rfl,rfl⟩|⟨id,off,r,rfl,h2,h3,h4⟩
 ·simp at hj
 ·have hm:(j+1)*D.n≤xs.length*D.n:=Nat.mul_le_mul_right _ hj
  rw [Nat.succ_mul] at hm
  have e1:((r.cells.drop (off+j*D.n)).take D.n)=D.f xs[j]:=by
   rw [← List.drop_drop]
   have:(((r.cells.drop off).take (xs.length*D.n)).drop (j*D.n)).take D.n=((r.cells.drop off).drop (j*D.n)).take D.n:=by
    rw [List.drop_take,List.take_take,Nat.min_eq_left (by omega)]
   rw [← this,h3,Sg,List.drop_eq_getElem_cons hj,Ye,List.take_left' (D.len _)]
  simp only [Yi,Xh,look,h2,he,if_true]
  rw [e1,if_pos (by omega)]
theorem Rd.src (h:Rd D H v xs):L7 D.n H v=some (xs.length,cellsOf D xs):=by
 rcases h with ⟨rfl,rfl⟩|⟨id,off,r,rfl,h2,h3,h4⟩
 ·rfl
 ·simp [L7,look,h2,h3,h4]
theorem Js (l:List Value) (o k:Nat):Sz l o k=(l.drop o).take k:=by
 unfold Sz
 split
 ·rw [List.take_of_length_le];rw [List.length_drop];omega
 ·rfl
theorem Bg (l:List Value) (n:Nat) (h:ones l=true):ones (l.take n)=true:=by
 unfold ones at *;rw [List.all_eq_true] at *;exact fun x hx=>h x (List.mem_of_mem_take hx)
theorem By (l:List Value) (n:Nat) (h:ones l=true):ones (l.drop n)=true:=by
 unfold ones at *;rw [List.all_eq_true] at *;exact fun x hx=>h x (List.mem_of_mem_drop hx)
theorem Oz {l cs:List Value} {o:Nat} (h:ones l=true) (h':ones cs=true):ones (splice l o cs)=true:=by
 unfold splice;simp [Bg _ _ h,By _ _ h,h']
theorem Pw {l cs:List Value} {o:Nat} (h:o+cs.length≤l.length):(splice l o cs).length=l.length:=by
 unfold splice;simp;omega
theorem La (A m B cs:List Value) (o:Nat) (h:o+cs.length≤m.length):splice (A++(m++B)) (A.length+o) cs=A++(splice m o cs++B):=by
 unfold splice
 have e1:(A++(m++B)).take (A.length+o)=A++m.take o:=by
  rw [List.take_append,List.take_of_length_le (by omega),Nat.add_sub_cancel_left,List.take_append_of_le_length (by omega)]
 have e2:(A++(m++B)).drop (A.length+o+cs.length)=m.drop (o+cs.length)++B:=by
  rw [Nat.add_assoc,List.drop_append,List.drop_of_length_le (by omega),Nat.add_sub_cancel_left,List.drop_append_of_le_length h];rfl
 rw [e1,e2];simp [List.append_assoc]
theorem Rx {l cs m:List Value} {off o N:Nat} (h:(l.drop off).take N=m) (h1:off+N≤l.length) (h2:o+cs.length≤N):((splice l (off+o) cs).drop off).take N=splice m o cs:=by
 subst h
 have hl:l=l.take off++((l.drop off).take N++(l.drop off).drop N):=by rw [List.take_append_drop,List.take_append_drop]
 have ha:(l.take off).length=off:=by rw [List.length_take];omega
 have hm:((l.drop off).take N).length=N:=by rw [List.length_take,List.length_drop];omega
 generalize l.take off=A at hl ha
 generalize (l.drop off).drop N=B at hl
 generalize (l.drop off).take N=m at hl hm
 subst hl;subst ha;subst hm
 rw [La _ _ _ _ _ h2,List.drop_left' rfl,List.take_left' (Pw h2)]
theorem Nl {j:Nat} {y:α} (hj:j<xs.length):splice (cellsOf D xs) (j*D.n) (D.f y)=cellsOf D (xs.set j y):=by
 unfold splice
 have e:j*D.n+(D.f y).length=(j+1)*D.n:=by rw [D.len,Nat.succ_mul]
 rw [e,L6,Sg,List.set_eq_take_append_cons_drop,if_pos hj]
 simp
theorem I8 {j c:Nat} {y:α} {x:Value} (hj:j<xs.length) (hc:c<D.n) (hy:D.f y=(D.f xs[j]).set c x):splice (cellsOf D xs) (j*D.n+c) [x]=cellsOf D (xs.set j y):=by
 rw [← Nl hj]
 have e1:cellsOf D xs=cellsOf D (xs.take j)++(D.f xs[j]++cellsOf D (xs.drop (j+1))):=by
  rw [← Ye,← List.drop_eq_getElem_cons hj,← Nb,List.take_append_drop]
 have l1:(cellsOf D (xs.take j)).length=j*D.n:=by rw [Tt,List.length_take,Nat.min_eq_left (by omega)]
 have l2:=D.len xs[j]
 rw [e1]
 generalize cellsOf D (xs.take j)=A at *
 generalize cellsOf D (xs.drop (j+1))=B at *
 rw [hy]
 generalize D.f xs[j]=M at *
 have e2:=La A M B [x] c (by simp;omega)
 have e3:=La A M B (M.set c x) 0 (by simp)
 rw [← l1,e2]
 rw [Nat.add_zero] at e3
 rw [e3]
 have e4:splice M c [x]=M.set c x:=by
  unfold splice;rw [List.set_eq_take_append_cons_drop,if_pos (by omega)];simp
 have e5:splice M 0 (M.set c x)=M.set c x:=by unfold splice;simp
 rw [e4,e5]
theorem Ow.store1 {frz:Nat} (h:Ow D e H v xs) {et:TypeId} {ag:Bool} (he:tsz P et=some (ag,1)) {j c:Nat} {y:α} (hj:j<xs.length) (hc:c<D.n) (hx:x.cells=#[x]) (ho:VM.one x=true) (hy:D.f y=(D.f xs[j]).set c x) (hf:∀i∈ids v,frz≤i) :
 ∃H',Zu P frz H et x (Yi v (j*D.n+c))=some H'∧Ow D e H' v (xs.set j y)∧Qp H H' (ids v)∧H'.length=H.length:=by
 rcases h with ⟨rfl,rfl⟩|⟨id,off,r,rfl,h2,h3,h4,h5,h6⟩
 ·simp at hj
 ·have hlt:j*D.n+c<xs.length*D.n:=by
   have:(j+1)*D.n≤xs.length*D.n:=Nat.mul_le_mul_right _ hj
   rw [Nat.succ_mul] at this;omega
  have hid:=(List.getElem?_eq_some_iff.1 h2).1
  refine ⟨H.set id { r with cells:=splice r.cells (off+(j*D.n+c)) [x] },?_,.inr ⟨id,off,{ r with cells:=splice r.cells (off+(j*D.n+c)) [x] },by simp,by simp [hid],?_,?_,h5,Oz h6 (by simp [ho])⟩,⟨by simp,fun i _ hi=>?_⟩,by simp⟩
  ·have hf':frz≤id:=hf id (by simp)
   have:off+(j*D.n+c)+1≤r.cells.length:=by omega
   simp [Yi,Zu,look,h2,he,hx,ho,hf',this]
  ·rw [List.length_set,Rx h3 h4 (by simp;omega),I8 hj hc hy]
  ·rw [List.length_set,Pw (by simp;omega)];exact h4
  ·have:i≠id:=fun hh=>hi (by simp [hh])
   rw [List.getElem?_set_ne (fun hh=>this hh.symm)]
theorem Ow.store {frz:Nat} (h:Ow D e H v xs) {et:TypeId} {ag:Bool} (he:tsz P et=some (ag,D.n)) {j:Nat} {y:α} (hj:j<xs.length) (hx:x.cells.toList=D.f y) (ho:ones (D.f y)=true) (hf:∀i∈ids v,frz≤i) :
 ∃H',Zu P frz H et x (Yi v (j*D.n))=some H'∧Ow D e H' v (xs.set j y)∧Qp H H' (ids v)∧H'.length=H.length:=by
 rcases h with ⟨rfl,rfl⟩|⟨id,off,r,rfl,h2,h3,h4,h5,h6⟩
 ·simp at hj
 ·have hlt:(j+1)*D.n≤xs.length*D.n:=Nat.mul_le_mul_right _ hj
  rw [Nat.succ_mul] at hlt
  have hn:=D.len y
  have hid:=(List.getElem?_eq_some_iff.1 h2).1
  refine ⟨H.set id { r with cells:=splice r.cells (off+j*D.n) (D.f y) },?_,.inr ⟨id,off,{ r with cells:=splice r.cells (off+j*D.n) (D.f y) },by simp,by simp [hid],?_,?_,h5,Oz h6 ho⟩,⟨by simp,fun i _ hi=>?_⟩,by simp⟩
  ·have hf':frz≤id:=hf id (by simp)
   have:off+j*D.n+D.n≤r.cells.length:=by omega
   have hs:x.cells.size=D.n:=by rw [← Array.length_toList,hx,hn]
   simp [Yi,Zu,look,h2,he,hx,ho,hf',this,hs]
  ·rw [List.length_set,Rx h3 h4 (by omega),Nl hj]
  ·rw [List.length_set,Pw (by omega)];exact h4
  ·have:i≠id:=fun hh=>hi (by simp [hh])
   rw [List.getElem?_set_ne (fun hh=>this hh.symm)]
theorem Ow.slice (h:Ow D e H v xs) (he:Ze P ty=some (e,D.n)) {lo hi:Option Value} {l u:Nat} (h1:Yc 0 lo=some (l:Int)) (h2:Yc xs.length hi=some (u:Int)) (hlu:l≤u) (hu:u≤xs.length) :
 ∃v',Vl P H ty lo hi v=some v'∧Ow D e H v' ((xs.drop l).take (u-l))∧ids v'=ids v:=by
 rcases h with ⟨rfl,rfl⟩|⟨id,off,r,rfl,k2,h3,h4,h5,h6⟩
 ·obtain rfl:u=0:=by simpa using hu
  obtain rfl:l=0:=by omega
  refine ⟨.slice none 0 0,?_,.inl ⟨rfl,by simp⟩,rfl⟩
  have h2':Yc 0 hi=some (0:Int):=h2
  have h1':Yc 0 lo=some (0:Int):=h1
  unfold Vl;simp only [he,h1',h2']
 ·have hle:((xs.drop l).take (u-l)).length=u-l:=by simp;omega
  have hb:u*D.n≤xs.length*D.n:=Nat.mul_le_mul_right _ hu
  have hc:(u-l)*D.n+l*D.n=u*D.n:=by rw [← Nat.add_mul];congr 1;omega
  refine ⟨.slice (some ⟨id,off+l*D.n,some r.gen⟩) (u-l) 0,?_,.inr ⟨id,off+l*D.n,r,by rw [hle],k2,?_,?_,h5,h6⟩,rfl⟩
  ·have:((u:Int)≤xs.length):=by omega
   have Q1t:(l:Int)≤u:=by omega
   have hl0:(0:Int)≤l:=by omega
   simp only [Vl,look,k2,he,h1,h2,h5,if_true,Int.toNat_natCast]
   rw [if_pos ⟨trivial,trivial,hl0,Q1t,this⟩]
  ·rw [hle,← L6,← Sg,← h3,List.drop_take,List.drop_drop,List.take_take,Nat.min_eq_left (by omega)]
  ·rw [hle];omega
theorem Ow.append {frz:Nat} (h:Ow D e H v xs) (hx:Rd D H x ys) (he:Ze P ty=some (e,D.n)) (ho:ones (cellsOf D ys)=true) (hl:xs.length+ys.length≤1073741824) (hf:∀i∈ids v,frz≤i) :
 ∃v' H',Y5 P frz H ty ty v x=some (v',H')∧Ow D e H' v' (xs++ys)∧Qp H H' (ids v)∧∀i∈ids v',i∈ids v∨H.length≤i:=by
 by_cases hy:ys.length=0
 ·obtain rfl:ys=[]:=List.length_eq_zero_iff.1 hy
  refine ⟨v,H,?_,by simpa using h,Qp.refl _,fun i hi=>.inl hi⟩
  rcases h with ⟨rfl,rfl⟩|⟨id,off,r,rfl,h2,h3,h4⟩
  ·simp [Y5,he,hx.src]
  ·simp [Y5,he,hx.src,look,h2]
 ·rcases h with ⟨rfl,rfl⟩|⟨id,off,r,rfl,h2,h3,h4,h5,h6⟩
  ·refine ⟨.slice (some ⟨H.length,0,some 0⟩) ys.length 0,H++[⟨cellsOf D ys,0,e⟩],?_,.inr ⟨H.length,0,⟨cellsOf D ys,0,e⟩,rfl,by simp,?_,by simp,rfl,ho⟩,Qp.app _,fun i hi=>.inr (by simp at hi;omega)⟩
   ·have:ys.length≤1073741824:=by simpa using hl
    simp [Y5,he,hx.src,hy,this,ho]
   ·simp;rw [← Tt,List.take_length]
  ·refine ⟨.slice (some ⟨id,0,some (r.gen+1)⟩) (xs.length+ys.length) 0,H.set id ⟨Sz r.cells off (xs.length*D.n)++cellsOf D ys,r.gen+1,e⟩,?_,.inr ⟨id,0,⟨Sz r.cells off (xs.length*D.n)++cellsOf D ys,r.gen+1,e⟩,by simp,?_,?_,?_,rfl,?_⟩,⟨by simp,fun i hl hi=>?_⟩,fun i hi=>.inl (by simpa using hi)⟩
   ·have hf':frz≤id:=hf id (by simp)
    simp [Y5,he,hx.src,hy,look,h2,hf',h4,h5,h6,hl,ho]
   ·have:=(List.getElem?_eq_some_iff.1 h2).1
    simp [this]
   ·rw [Js,h3,List.drop_zero,← Nb,← Tt,List.take_length]
   ·rw [Js,h3,← Nb,Tt];simp
   ·rw [Js];simp [Bg _ _ (By _ _ h6)];simpa using ho
   ·have:i≠id:=fun hh=>hi (by simp [hh])
    rw [List.getElem?_set_ne (fun hh=>this hh.symm)]
theorem Rd.cell1 (h:Rd D H v xs) (hn:D.n=1) (he:tsz P e=some (false,1)) {j:Nat} (hj:j<xs.length):Xh P H e (Yi v j)=(D.f xs[j])[0]?:=by
 have:=h.cell (P:=P) he hj (c:=0) (by omega)
 simpa [hn] using this
theorem Ow.put1 {frz:Nat} (h:Ow D e H v xs) (hn:D.n=1) {et:TypeId} {ag:Bool} (he:tsz P et=some (ag,1)) {j:Nat} {y:α} (hj:j<xs.length) (hx:x.cells=#[x]) (ho:VM.one x=true) (hy:D.f y=[x]) (hf:∀i∈ids v,frz≤i) :
 ∃H',Zu P frz H et x (Yi v j)=some H'∧Ow D e H' v (xs.set j y)∧Qp H H' (ids v)∧H'.length=H.length:=by
 have hl:=D.len xs[j]
 have:=h.store1 (P:=P) (frz:=frz) he hj (c:=0) (by omega) hx ho (y:=y) (by
  rw [hy];match hm:D.f xs[j],hl with
  | [z],_=>rfl
  | [],hl=>simp [hn] at hl
  | _::_::_,hl=>simp [hn] at hl) hf
 simpa [hn] using this
theorem Rd.isI {xs:List Int} (h:Rd Fl.int H v xs):W7 H v xs:=by
 rcases h with h|⟨id,off,r,h1,h2,h3,h4⟩
 ·exact .inl h
 ·exact .inr ⟨id,off,r,h1,h2,by simpa [W1] using h3,by simpa using h4⟩
theorem W7.rd {xs:List Int} (h:W7 H v xs):Rd Fl.int H v xs:=by
 rcases h with h|⟨id,off,r,h1,h2,h3,h4⟩
 ·exact .inl h
 ·exact .inr ⟨id,off,r,h1,h2,by simpa [W1] using h3,by simpa using h4⟩
theorem Ow.new {L:Qd} {k:Nat} {g:Nat} {cs:List Value} (h:L[k]? = some ⟨cs,g,e⟩) (hc:cs=cellsOf D xs) (ho:ones cs=true) {n:Nat} (hn:n=xs.length):Ow D e (H++L) (.slice (some ⟨H.length+k,0,some g⟩) n 0) xs:=by
 subst hn hc
 refine .inr ⟨H.length+k,0,⟨cellsOf D xs,g,e⟩,rfl,by simpa using h,?_,by simp,rfl,ho⟩
 rw [List.drop_zero,← Tt,List.take_length]
theorem Ow.new0 {L:Qd} {g:Nat} {cs:List Value} (h:L[0]? = some ⟨cs,g,e⟩) (hc:cs=cellsOf D xs) (ho:ones cs=true) {n:Nat} (hn:n=xs.length):Ow D e (H++L) (.slice (some ⟨H.length,0,some g⟩) n 0) xs:=Ow.new (k:=0) h hc ho hn
def Made (D:Fl α) (e:TypeId) (H:Qd) (xs:List α) (r:Value) (H':Qd):Prop:=∃L,H'=H++L∧Ow D e (H++L) r xs∧∀i∈ids r,H.length≤i
theorem Wa (v:Value):(ids v).Nodup:=by
 unfold ids;split<;>simp
def To (D:Fl α) (H:Qd) (v:Value) (hs:List Value) (xss:List (List α)):Prop:=
 Rd Fl.val H v hs∧hs.length=xss.length∧∀(j:Nat) (a:Value) (xs:List α),hs[j]? = some a→xss[j]? = some xs→Rd D H a xs
def Cp (D:Fl α) (e oe:TypeId) (H:Qd) (v:Value) (hs:List Value) (xss:List (List α)):Prop:=
 Ow Fl.val oe H v hs∧hs.length=xss.length∧∀(j:Nat) (a:Value) (xs:List α),hs[j]? = some a→xss[j]? = some xs→Ow D e H a xs
def T5 (v:Value) (hs:List Value):List Nat:=ids v++hs.flatMap ids
variable {hs:List Value} {xss:List (List α)} {oe:TypeId}
theorem Cp.rd (h:Cp D e oe H v hs xss):To D H v hs xss:=⟨h.1.rd,h.2.1,fun j a xs ha hx=>(h.2.2 j a xs ha hx).rd⟩
theorem Up {j:Nat} {a:Value} (ha:hs[j]? = some a) {i:Nat} (hi:i∈ids a):i∈T5 v hs:=
 List.mem_append.2 (.inr (List.mem_flatMap.2 ⟨a,List.mem_of_getElem? ha,hi⟩))
theorem To.frame (h:To D H v hs xss) (k:∀i∈T5 v hs,H'[i]? = H[i]?):To D H' v hs xss:=
 ⟨h.1.frame fun i hi=>k i (List.mem_append.2 (.inl hi)),h.2.1,fun j a xs ha hx=>(h.2.2 j a xs ha hx).frame fun i hi=>k i (Up ha hi)⟩
theorem Cp.frame (h:Cp D e oe H v hs xss) (k:∀i∈T5 v hs,H'[i]? = H[i]?):Cp D e oe H' v hs xss:=
 ⟨h.1.frame fun i hi=>k i (List.mem_append.2 (.inl hi)),h.2.1,fun j a xs ha hx=>(h.2.2 j a xs ha hx).frame fun i hi=>k i (Up ha hi)⟩
theorem To.lt (h:To D H v hs xss):∀i∈T5 v hs,i<H.length:=fun i hi=>by
 rcases List.mem_append.1 hi with hi|hi
 ·exact h.1.lt i hi
 ·obtain ⟨a,ha,hi⟩:=List.mem_flatMap.1 hi
  obtain ⟨j,hj,rfl⟩:=List.getElem_of_mem ha
  have hj':j<xss.length:=h.2.1▸hj
  exact (h.2.2 j _ xss[j] (by simp [hj]) (by simp [hj'])).lt i hi
theorem To.app (h:To D H v hs xss):To D (H++L) v hs xss:=h.frame fun i hi=>Oh (h.lt i hi)
theorem Cp.lt (h:Cp D e oe H v hs xss):∀i∈T5 v hs,i<H.length:=h.rd.lt
theorem Cp.app (h:Cp D e oe H v hs xss):Cp D e oe (H++L) v hs xss:=h.frame fun i hi=>Oh (h.lt i hi)
theorem To.chg {is:List Nat} (h:To D H v hs xss) (k:Qp H H' is) (k':∀i∈T5 v hs,i∉is):To D H' v hs xss:=h.frame fun i hi=>k.2 i (h.lt i hi) (k' i hi)
theorem Cp.chg {is:List Nat} (h:Cp D e oe H v hs xss) (k:Qp H H' is) (k':∀i∈T5 v hs,i∉is):Cp D e oe H' v hs xss:=h.frame fun i hi=>k.2 i (h.lt i hi) (k' i hi)
end Go.VM
set_option linter.all false
namespace Go.VM
open Go
variable {P:Program} {H H' H'' L:Qd} {v w x y:Value} {t t':Env} {C:Ctx} {F:Frm} {Q Q':Value→Qd→Prop} {r:Option (Value×Qd)} {d:Option Tmp} {k k1 k2:List Itm} {frz g:Nat} {l:List Value}
def plain:Value→Bool
 | .int _ _ | .bool _ | .string _=>true
 | _=>false
theorem Ds {n:Nat} {v:Value} {ids:List Nat} (h:Pr n H w []=some (v,ids)) (hv:plain v=true):ids=[]:=by
 unfold Pr at h
 split at h
 ·split at h
  ·cases h;simp [plain] at hv
  ·cases h
 ·unfold Ya at h
  split at h
  ·split at h
   ·cases h;simp [plain] at hv
   ·split at h
    ·split at h
     ·cases h
     ·cases h;simp [plain] at hv
    ·cases h
  ·split at h
   ·cases h;simp [plain] at hv
   ·split at h
    ·split at h
     ·cases h
     ·cases h;simp [plain] at hv
    ·cases h
  ·cases h
  ·cases h
  ·split at h
   ·cases h;simp [plain] at hv
   ·cases h
  ·cases h;rfl
theorem Mo {fn:Func} (hm:C.mode g=0) (h:Vy C g fn H t' H'=some (v,H'')) (hv:plain v=true):H''=H:=by
 unfold Vy at h
 split at h
 ·rw [if_pos hm] at h
  split at h
  ·rename_i vs _ a ids hp
   cases h
   have:ids=[]:=by
    unfold pack at hp
    split at hp
    ·split at hp
     ·cases hp;simp [plain] at hv
     ·split at hp
      ·cases hp;simp [plain] at hv
      ·cases hp
    ·exact Ds hp hv
   subst this;simp [packed]
  ·cases h
 ·cases h
theorem gz (hm:C.mode g=0) (h:Qh C frz g l H=some (v,H'')) (hv:plain v=true):H''=H:=by
 rw [ja] at h
 unfold W4 at h
 split at h
 ·split at h
  ·split at h
   ·split at h
    ·exact Mo hm h hv
    ·exact Mo hm h hv
    ·cases h
   ·cases h
  ·cases h
 ·cases h
theorem wp.exact {u:Value} (hm:C.mode g=0) (h:wp (Qh C frz g l H) (fun r _=>r=u)) (hu:plain u=true):Qh C frz g l H=some (u,H):=by
 obtain ⟨v,H',h1,rfl⟩:=h
 rw [h1,gz hm h1 hu]
def qx (k:IntKind) (a b:Int):Int:=k.wrap (BitVec.ofInt k.bits a&&& BitVec.ofInt k.bits b).toNat
def Qoy (k:IntKind) (a b:Int):Int:=k.wrap (BitVec.ofInt k.bits a ^^^ BitVec.ofInt k.bits b).toNat
def Af (k:IntKind) (a b:Int):Int:=a.fdiv (2 ^ min b.toNat k.bits)
def Qhp (k:IntKind) (a b:Int):Int:=k.wrap (a*2 ^ min b.toNat k.bits)
section
variable (ty:TypeId) (k k':IntKind) (a b:Int)
@[simp] theorem Qqy:X7 P .and ty (.int k a) (.int k b)=some (.int k (qx k a b)):=by simp [X7,S5,qx]
@[simp] theorem Qqs:X7 P .xor ty (.int k a) (.int k b)=some (.int k (Qoy k a b)):=by simp [X7,S5,Qoy]
@[simp] theorem Qqh:X7 P .shr ty (.int k a) (.int k' b)=Zp (0≤b) (some (.int k (Af k a b))):=by
 simp only [X7,Ff,Zp,Af]
 by_cases h:b<0
 ·rw [if_pos h,if_neg (by omega)];rfl
 ·rw [if_neg h,if_pos (by omega)];rfl
@[simp] theorem Qo4:X7 P .shl ty (.int k a) (.int k' b)=Zp (0≤b) (some (.int k (Qhp k a b))):=by
 simp only [X7,Ff,Zp,Qhp]
 by_cases h:b<0
 ·rw [if_pos h,if_neg (by omega)];rfl
 ·rw [if_neg h,if_pos (by omega)];rfl
end
@[simp] theorem Qnt (P:Program) (s d:TypeId) (H:Qd) (k:IntKind) (n:Int):C0 P s d H (.int k n)=R7 P d (.int k n):=rfl
@[simp] theorem Qoh (P:Program) (s d:TypeId) (H:Qd) (b:ByteArray):C0 P s d H (.string b)=R7 P d (.string b):=rfl
@[simp] theorem Qiu (d:TypeId) (k:IntKind) (n:Int):R7 P d (.int k n)=match P.underlying d with|some (.int k')=>some (.int k' (k'.wrap n))|_=>none:=rfl
@[simp] theorem Qqx (frz:Nat) (t u:TypeId) (a:Addr) (len c:Nat) (x:Value):C8 P frz H t u (.slice (some a) len c) x =
 if t=u then match Ze P t with
 | some (_,n)=>match L7 n H x with
  | some (m,news)=>match look H a with
   | some r=>if frz≤a.block∧a.off+len*n≤r.cells.length∧ones news=true
    then some (.int .i64 (Nat.min m len),H.set a.block { r with cells:=splice r.cells a.off (news.take (Nat.min m len*n)) }) else none
   | none=>none
  | none=>none
 | none=>none else none:=rfl
theorem Qew (m n:Nat) (hm:m<2 ^ 64) (hn:n<2 ^ 64) (k:IntKind) (hk:k.bits=64):(BitVec.ofInt k.bits (m:Int)&&& BitVec.ofInt k.bits (n:Int)).toNat=m&&& n:=by
 rw [BitVec.toNat_and,BitVec.toNat_ofInt,BitVec.toNat_ofInt,hk]
 congr 1<;>omega
theorem wu (k:IntKind) (m j:Nat) (hj:j≤k.bits):Af k (m:Int) (j:Int)=((m/2 ^ j:Nat):Int):=by
 unfold Af
 rw [Int.toNat_natCast,Nat.min_eq_left hj,Int.fdiv_eq_ediv_of_nonneg _ (Int.le_of_lt (Int.pow_pos (by decide)))]
 simp
end Go.VM
set_option linter.all false
namespace Go.VM
open Go
variable {P:Program} {H H' H'' L:Qd}
structure Dt (V A:Type) where
 val:V→A→Value
 Ow:Qd→V→A→Prop
 ids:V→List Nat
 frame:∀{H H':Qd} {v:V} {a:A},Ow H v a→(∀i∈ids v,H'[i]? = H[i]?)→Ow H' v a
 lt:∀{H:Qd} {v:V} {a:A},Ow H v a→∀i∈ids v,i<H.length
variable {V A:Type} {T:Dt V A} {v:V} {a:A} {is:List Nat}
theorem Dt.chg (h:T.Ow H v a) (c:Qp H H' is) (k:∀i∈T.ids v,i∉is):T.Ow H' v a:=T.frame h fun i hi=>c.2 i (T.lt h i hi) (k i hi)
theorem Dt.chg0 (h:T.Ow H v a) (c:Qp H H' []):T.Ow H' v a:=Dt.chg h c (by simp)
theorem Dt.app (h:T.Ow H v a):T.Ow (H++L) v a:=Dt.chg0 h (Qp.app [])
def Dt.Made (T:Dt V A) (H:Qd) (a:A) (r:Value) (H':Qd):Prop:=∃v,r=T.val v a∧T.Ow H' v a∧Qp H H' []∧(∀i∈T.ids v,H.length≤i)∧(T.ids v).Nodup
theorem Dt.Made.base {r:Value} (h:T.Made (H++L) a r H'):T.Made H a r H':=by
 obtain ⟨v,rfl,o,c,n,d⟩:=h
 exact ⟨v,rfl,o,(Qp.app []).trans c,fun i hi=>by have:=n i hi;simp at this;omega,d⟩
theorem Qa {b:Nat} {r:Row} (h:H[b]? = some r) (c:Qp H H' is) (k:b∉is):H'[b]? = some r:=by
 rw [c.2 b (List.getElem?_eq_some_iff.1 h).1 k];exact h
theorem Wj {b:Nat} {r:Row} (h:H[b]? = some r):b<H.length:=(List.getElem?_eq_some_iff.1 h).1
theorem apart {l m:List Nat} {n:Nat} (h:∀i∈l,i<n) (k:∀i∈m,n≤i):∀i∈l,i∉m:=fun i hi hm=>by have:=h i hi;have:=k i hm;omega
def Ip {α:Type} (D:Fl α) (e:TypeId) (n:Nat):Dt Value (List α) where
 val v _:=v
 Ow H v xs:=VM.Ow D e H v xs∧xs.length≤n
 ids:=VM.ids
 frame h k:=⟨h.1.frame k,h.2⟩
 lt h:=h.1.lt
theorem Ow.push {α:Type} {D:Fl α} {e ty:TypeId} {v:Value} {xs:List α} {a:α} {frz:Nat} (h:VM.Ow D e H v xs) (he:Ze P ty=some (e,D.n)) (ho:ones (D.f a)=true) (hl:xs.length+1≤1073741824) (hf:∀i∈VM.ids v,frz≤i) :
 ∃v' H',Y5 P frz (H++[⟨D.f a,0,e⟩]) ty ty v (.slice (some ⟨H.length,0,some 0⟩) 1 0)=some (v',H')∧VM.Ow D e H' v' (xs++[a])∧Qp H H' (VM.ids v)∧∀i∈VM.ids v',i∈VM.ids v∨H.length≤i:=by
 have hx:Rd D (H++[⟨D.f a,0,e⟩]) (.slice (some ⟨H.length,0,some 0⟩) 1 0) [a]:=(Ow.new0 (D:=D) (xs:=[a]) rfl (by simp) ho rfl).rd
 obtain ⟨v',H',h1,h2,h3,h4⟩:=(h.app (L:=[⟨D.f a,0,e⟩])).append (P:=P) (frz:=frz) (ty:=ty) hx he (by simpa using ho) (by simpa using hl) hf
 refine ⟨v',H',h1,h2,(Qp.app _).trans h3,fun i hi=>?_⟩
 rcases h4 i hi with h5|h5
 ·exact .inl h5
 ·simp at h5;exact .inr (by omega)
theorem Qn (b:Nat) (r:Row):Qp H (H.set b r) [b]:=⟨by simp,fun i _ hi=>by rw [List.getElem?_set_ne (by simp at hi;omega)]⟩
theorem Qq {b:Nat} {r r':Row} (h:H[b]? = some r):(H.set b r')[b]? = some r':=by
 have:=Wj h
 simp [this]
theorem Qj {b:Nat} {r:Row} (h:H[b]? = some r) (L:Qd):(H++L)[b]? = some r:=by rw [Oh (Wj h)];exact h
@[simp] theorem Qg7 (ty:TypeId) (a b:Bool):X7 P .neq ty (.bool a) (.bool b)=match P.underlying ty with|some .bool=>some (.bool (a != b))|_=>none:=by
 simp only [X7];cases P.underlying ty with
 | none=>rfl
 | some t=>cases t<;>rfl
theorem Rp {F:Frm} {k:List Itm} {Q:Value→Qd→Prop} {R:Prop} (I:Env→Qd→Prop)
 (main:(∀t H,I t H→wp (go F k .normal t H) Q)→R) (rest:∀t H,I t H→wp (go F k .normal t H) Q):R:=main rest
theorem Et {F:Frm} {k:List Itm} {d:Option Tmp} {Q:Value→Qd→Prop} {R:Prop} (I:Option (Value×Qd)→Env→Prop)
 (main:(∀r t,I r t→wp (thn F r d k t) Q)→R) (rest:∀r t,I r t→wp (thn F r d k t) Q):R:=main rest
theorem Fv {F:Frm} {k1 k2:List Itm} {Q:Value→Qd→Prop} {R:Prop} (I:Value→Env→Qd→Prop)
 (main:(∀c t H,I c t H→wp (br F c k1 k2 t H) Q)→R) (rest:∀c t H,I c t H→wp (br F c k1 k2 t H) Q):R:=main rest
theorem Qem {F:Frm} {k:List Itm} {d:Option Tmp} {want:Bool} {op:Op} {Q:Value→Qd→Prop} {R:Prop} (I:Value→Env→Qd→Prop)
 (main:(∀c t H,I c t H→wp (gd F c want op d k t H) Q)→R) (rest:∀c t H,I c t H→wp (gd F c want op d k t H) Q):R:=main rest
theorem Qdz {F:Frm} {k:List Itm} {o:Out} {Q:Value→Qd→Prop} {R:Prop} (I:Env→Qd→Prop)
 (main:(∀t H,I t H→wp (go F k o t H) Q)→R) (rest:∀t H,I t H→wp (go F k o t H) Q):R:=main rest
end Go.VM
