/- Texts of a proof, joined. -/
import Derived.Test.YtlhaeingdonaeaaGreatKM0
import Derived.Test.YtlhaeingdonaeaaGreatKM1
import Derived.Test.YtlhaeingdonaeaaGreatKFnReplays0
import Derived.Test.YtlhaeingdonaeaaGreatKFnReplays1
set_option linter.all false
namespace Go.Proofs.YtlhaeingdonaeaaGreat.V
open Go Go.VM
set_option maxRecDepth 100000
def geoB:Bool:=(List.range 5).all fun w=>(List.range 5).all fun h=>(List.range 16).all fun a=>(List.range 4).all fun p=>
 decide (next (w:Int) h a p<0) || (decide (next w h (next w h a p) (opp p)=a)&&(decide (0≤opp p)&&(decide (opp p<4)&&(decide (next (w:Int) h a p≠a)&&decide (opp (opp p)=p)))))
theorem Cv:geoB=true:=by decide +kernel
theorem geo {w h a:Int} {p:Nat} (hp:p<4) (ha:isN w h a) (hu:0≤next w h a p):next w h (next w h a p) (opp p)=a∧0≤opp p∧opp p<4∧next w h a p≠a∧opp (opp p)=p:=by
 obtain ⟨⟨⟨a1,a2⟩,b1,b2⟩,c1,c2,c3⟩:=Yl ha
 have h0:=Cv
 unfold geoB at h0
 rw [List.all_eq_true] at h0
 have h1:=h0 w.toNat (by simp;omega)
 rw [List.all_eq_true] at h1
 have h2:=h1 h.toNat (by simp;omega)
 rw [List.all_eq_true] at h2
 have h3:=h2 a.toNat (by simp;omega)
 rw [List.all_eq_true] at h3
 have h4:=h3 p (by simp;omega)
 have e1:(w.toNat:Int)=w:=by omega
 have e2:(h.toNat:Int)=h:=by omega
 have e3:(a.toNat:Int)=a:=by omega
 rw [e1,e2,e3] at h4
 simp only [Bool.or_eq_true,Bool.and_eq_true,decide_eq_true_eq] at h4
 rcases h4 with h4|h4
 ·omega
 ·exact h4
theorem Pp {w h:Int} {b:List Int} {a:Int} {p:Nat} (hp:p<4) (h1:link w h b (4*a+p)):∃q:Nat,q<4∧link w h b (4*next w h a p+q)∧next w h (next w h a p) q=a:=by
 obtain ⟨ha,hu,he⟩:=Wu hp h1
 obtain ⟨g1,g2,g3,g4,g5⟩:=geo hp ha hu.1
 have e0:(4*a+(p:Int))%4=p:=by omega
 have hb:backC w h (4*a+p)=4*next w h a p+opp p:=by unfold backC;rw [he,e0]
 have h2:=h1.2
 rw [hb] at h2
 obtain ⟨q,hq⟩:=Int.eq_ofNat_of_zero_le g2
 rw [hq] at g1 g3 g5 h2
 have eq1:(4*next w h a p+(q:Int))/4=next w h a p:=by omega
 have eq2:(4*next w h a p+(q:Int))%4=q:=by omega
 refine ⟨q,by omega,⟨h2,?_⟩,g1⟩
 have:backC w h (4*next w h a p+q)=4*a+p:=by unfold backC endC;rw [eq1,eq2,g1,g5]
 rw [this];exact h1.1
structure VOut (w h:Int) (b:List Int) (a d:Int) (l:List Nat) (x y:List Int×List Int):Prop where
 keep:∀v,0≤v→0≤rd x.1 v→rd y.1 v=rd x.1 v
 new:∀v,isN w h v→rd x.1 v<0→0≤rd y.1 v→rd y.1 v=d∧v∈y.2∧∃p:Nat,p<4∧link w h b (4*a+p)∧next w h a p=v
 all:∀p∈l,link w h b (4*a+(p:Nat))→0≤rd y.1 (next w h a p)
 pre:∀v∈x.2,v∈y.2
 len:y.1.length=x.1.length
theorem Ij {w h:Int} {b:List Int} {a d:Int} (hd:0≤d):∀(l:List Nat) (x:List Int×List Int),(∀p∈l,p<4)→(∀v,isN w h v→v<x.1.length)→VOut w h b a d l x (l.foldl (vst w h b a d) x)
 | [],x,_,_=>⟨fun _ _ _=>rfl,fun v _ h1 h2=>by simp only [List.foldl_nil] at h2;omega,fun p hp=>by simp at hp,fun _ h=>h,rfl⟩
 | p::l,x,hl,hlen=>by
  have hp:=hl p (by simp)
  have E:=O4 (w:=w) (h:=h) (b:=b) (a:=a) (x:=x) hp hd
  have ih:=Ij (w:=w) (h:=h) (b:=b) (a:=a) hd l (vst w h b a d x p) (fun q hq=>hl q (by simp [hq])) (by rw [E.len];exact hlen)
  refine ⟨fun v h0 h1=>?_,fun v hv h1 h2=>?_,fun q hq hlk=>?_,fun v hv=>ih.pre v (E.pre v hv),by rw [List.foldl_cons,ih.len,E.len]⟩
  ·have e1:=E.old v h0 h1
   rw [List.foldl_cons,ih.keep v h0 (by omega),e1]
  ·by_cases h3:rd (vst w h b a d x p).1 v<0
   ·exact ih.new v hv h3 h2
   ·have h4:0≤rd (vst w h b a d x p).1 v:=by omega
    have e2:=ih.keep v hv.1 h4
    have:link w h b (4*a+p)∧next w h a p=v∧rd (vst w h b a d x p).1 v=d∧v∈(vst w h b a d x p).2:=by
     unfold vst at h4 ⊢
     split at h4
     ·rename_i hc
      rw [if_pos hc]
      obtain ⟨_,hn,_⟩:=Wu hp hc.1
      have hln:=hlen _ hn
      simp only at h4 ⊢
      rw [Vn hn.1 hln hv.1] at h4 ⊢
      by_cases hvn:v=next w h a p
      ·rw [if_pos hvn];exact ⟨hc.1,hvn.symm,rfl,by simp [hvn]⟩
      ·rw [if_neg hvn] at h4;omega
     ·omega
    rw [List.foldl_cons]
    exact ⟨by rw [e2];exact this.2.2.1,ih.pre v this.2.2.2,p,hp,this.1,this.2.1⟩
  ·rcases List.mem_cons.1 hq with rfl|hq
   ·obtain ⟨_,hn,_⟩:=Wu hp hlk
    have hln:=hlen _ hn
    have h4:0≤rd (vst w h b a d x q).1 (next w h a q):=by
     unfold vst
     split
     ·simp only;rw [Vn hn.1 hln hn.1,if_pos rfl];exact hd
     ·rename_i hc
      by_cases h5:rd x.1 (next w h a q)<0
      ·exact absurd ⟨hlk,h5⟩ hc
      ·omega
    rw [List.foldl_cons,ih.keep _ hn.1 h4];exact h4
   ·exact ih.all q hq hlk
structure Inv2 (w h:Int) (b:List Int) (root:Int) (s rest nx:List Int):Prop where
 cl:∀v,isN w h v→0≤rd s v→v∉rest→v∉nx→∀p:Nat,p<4→link w h b (4*v+p)→0≤rd s (next w h v p)
 pre:∀v,isN w h v→0<rd s v→∃u,isN w h u∧rd s u=rd s v-1∧∃q:Nat,q<4∧link w h b (4*u+q)∧next w h u q=v
 zero:rd s root=0∧∀v,isN w h v→rd s v=0→v=root
theorem Run.inv2 {w h root:Int} {b s rest nx r:List Int} {d:Int} (hr:isN w h root) (R:Run w h b s rest nx d r):Inv w h s rest nx d→Inv2 w h b root s rest nx→Inv2 w h b root r [] []:=by
 induction R with
 | done s d=>exact fun _ j=>j
 | level _ ih=>exact fun i j=>ih i.level ⟨fun v hv h0 h1 h2=>j.cl v hv h0 (by simp) h1,j.pre,j.zero⟩
 | @node s a rest nx d r _ ih=>
  intro i j
  have h1:=i.one
  obtain ⟨ha,hda⟩:=i.fr a (by simp)
  have O:VOut w h b a d (List.range 4) (s,nx) (vis w h b a d (s,nx)):=Ij (by omega) _ _ (by simp) (fun v hv=>by have:=i.len;have:=hv.2;simp only;omega)
  refine ih i.node ⟨fun v hv h0 hn1 hn2 p hp hlk=>?_,fun v hv h0=>?_,?_,fun v hv h0=>?_⟩
  ·have hnx:=(Wu hp hlk).2.1
   by_cases h2:0≤rd s v
   ·by_cases hva:v=a
    ·subst hva;exact O.all p (by simp;omega) hlk
    ·have h3:=j.cl v hv h2 (by simp [hva,hn1]) (fun hh=>hn2 (O.pre v hh)) p hp hlk
     rw [O.keep _ hnx.1 h3];exact h3
   ·exact absurd (O.new v hv (by simp only;omega) h0).2.1 hn2
  ·by_cases h2:0≤rd s v
   ·have e:=O.keep v hv.1 h2
    simp only at e
    rw [e] at h0 ⊢
    obtain ⟨u,hu,hu1,hq⟩:=j.pre v hv h0
    refine ⟨u,hu,?_,hq⟩
    rw [O.keep u hu.1 (by simp only;omega)];exact hu1
   ·obtain ⟨e,_,hq⟩:=O.new v hv (by simp only;omega) (by omega)
    refine ⟨a,ha,?_,hq⟩
    rw [O.keep a ha.1 (by simp only;omega),e];exact hda
  ·have:=j.zero.1
   rw [O.keep root hr.1 (by simp only;omega)];exact this
  ·by_cases h2:0≤rd s v
   ·have e:=O.keep v hv.1 h2
    simp only at e
    exact j.zero.2 v hv (by rw [← e];exact h0)
   ·obtain ⟨e,_⟩:=O.new v hv (by simp only;omega) (by omega)
    omega
theorem U3 {w h root v:Int} (hr:isN w h root) (hv:isN w h v):rd (start w h root) v=if v=root then 0 else -1:=by
 have hc:=Qh w h
 have h1:=hr.2
 have h2:=hv.2
 unfold start
 rw [Vn hr.1 (by simp;omega) hv.1]
 by_cases h3:v=root
 ·rw [if_pos h3,if_pos h3]
 ·rw [if_neg h3,if_neg h3]
  have:=So (s:=List.replicate (cnt w h).toNat (-1:Int)) hv.1 (by simp;omega)
  exact List.eq_of_mem_replicate this
theorem Kg {w h root:Int} (b:List Int) (hr:isN w h root):Inv2 w h b root (start w h root) [root] []:=by
 refine ⟨fun v hv h0 h1=>?_,fun v hv h0=>?_,by rw [U3 hr hr,if_pos rfl],fun v hv h0=>?_⟩
 ·rw [U3 hr hv] at h0
  split at h0
  ·rename_i h2;simp [h2] at h1
  ·omega
 ·rw [U3 hr hv] at h0;split at h0<;>omega
 ·rw [U3 hr hv] at h0
  split at h0
  ·assumption
  ·omega
theorem Xb {w h root:Int} {b:List Int} (H:rootOk w h b root):Inv2 w h b root (depths w h b root) [] []:=
 (Zc H).inv2 H.2 (X5 H.2).1 (Kg b H.2)
theorem Sx {w h:Int} {b:List Int} (hc:conn w h b) {r:Int} (hr:isN w h r):∀v,isN w h v→0≤rd (depths w h b r) v:=by
 have h0:=C1 hc.1.2
 have H0:rootOk w h b 0:=⟨hc.1,h0⟩
 have Hr:rootOk w h b r:=⟨hc.1,hr⟩
 have i0:=W0 H0
 have j0:=Xb H0
 have j:=Xb Hr
 have all0:∀v,isN w h v→0≤rd (depths w h b 0) v:=fun v hv=>by
  have hm:=So (s:=depths w h b 0) hv.1 (by have:=hv.2;omega)
  have:=(i0.2 _ hm).1
  by_cases h1:rd (depths w h b 0) v=-1
  ·rw [h1] at hm;exact absurd hm hc.2
  ·omega
 have down:∀(n:Nat) v,isN w h v→rd (depths w h b 0) v=n→0≤rd (depths w h b r) v→0≤rd (depths w h b r) 0:=by
  intro n
  induction n with
  | zero=>
   intro v hv h1 h2
   have:=j0.zero.2 v hv (by omega)
   rw [this] at h2;exact h2
  | succ n ih=>
   intro v hv h1 h2
   obtain ⟨u,hu,hu1,q,hq,hlk,hnx⟩:=j0.pre v hv (by omega)
   obtain ⟨q',hq',hlk',hnx'⟩:=Pp hq hlk
   rw [hnx] at hlk' hnx'
   have h3:=j.cl v hv h2 (by simp) (by simp) q' hq' hlk'
   rw [hnx'] at h3
   exact ih u hu (by omega) h3
 have hr0:0≤rd (depths w h b r) 0:=by
  have h1:=all0 r hr
  exact down _ r hr (Int.toNat_of_nonneg h1).symm (by have:=j.zero.1;omega)
 have up:∀(n:Nat) v,isN w h v→rd (depths w h b 0) v=n→0≤rd (depths w h b r) v:=by
  intro n
  induction n with
  | zero=>
   intro v hv h1
   have:=j0.zero.2 v hv (by omega)
   rw [this];exact hr0
  | succ n ih=>
   intro v hv h1
   obtain ⟨u,hu,hu1,q,hq,hlk,hnx⟩:=j0.pre v hv (by omega)
   have h3:=j.cl u hu (ih u hu (by omega)) (by simp) (by simp) q hq hlk
   rw [hnx] at h3;exact h3
 exact fun v hv=>up _ v hv (Int.toNat_of_nonneg (all0 v hv)).symm
theorem D0 {w h root:Int} {b:List Int} (H:rootOk w h b root) {v:Int} (hv:isN w h v) (h0:0<rd (depths w h b root) v) :
 ∃p:Nat,p<4∧par w h b (depths w h b root) v=next w h v p∧link w h b (4*v+p)∧rd (depths w h b root) (next w h v p)=rd (depths w h b root) v-1:=by
 rcases Pm w h b (depths w h b root) v with h1|⟨p,hp,h2,h3,_⟩
 ·exfalso
  obtain ⟨u,hu,hu1,q,hq,hlk,hnx⟩:=(Xb H).pre v hv h0
  obtain ⟨q',hq',hlk',hnx'⟩:=Pp hq hlk
  rw [hnx] at hlk' hnx'
  have ht:toRoot w h b (depths w h b root) v q':=⟨hlk',by rw [hnx'];exact hu1⟩
  unfold par at h1
  rw [if_pos h0] at h1
  have nn:∀p:Nat,p<4→toRoot w h b (depths w h b root) v p→next w h v p≠-1:=fun p hp ht hh=>by
   have:=(Wu hp ht.1).2.1.1;omega
  by_cases t0:toRoot w h b (depths w h b root) v 0
  ·rw [if_pos t0] at h1;exact nn 0 (by omega) t0 h1
  rw [if_neg t0] at h1
  by_cases t1:toRoot w h b (depths w h b root) v 1
  ·rw [if_pos t1] at h1;exact nn 1 (by omega) t1 h1
  rw [if_neg t1] at h1
  by_cases t2:toRoot w h b (depths w h b root) v 2
  ·rw [if_pos t2] at h1;exact nn 2 (by omega) t2 h1
  rw [if_neg t2] at h1
  by_cases t3:toRoot w h b (depths w h b root) v 3
  ·rw [if_pos t3] at h1;exact nn 3 (by omega) t3 h1
  have:q'=0∨q'=1∨q'=2∨q'=3:=by omega
  rcases this with rfl|rfl|rfl|rfl
  ·exact t0 ht
  ·exact t1 ht
  ·exact t2 ht
  ·exact t3 ht
 ·exact ⟨p,hp,h2,h3.1,h3.2⟩
theorem Kt {w h root:Int} {b:List Int} {v:Int} (h0:0≤v) (h1:v<(depths w h b root).length):rd (parents w h b root) v=par w h b (depths w h b root) v:=by
 obtain ⟨i,rfl⟩:=Int.eq_ofNat_of_zero_le h0
 rw [Z0 (by rw [Yc];omega)]
 simp [parents,pars]
section
variable {w h r:Int} {b:List Int} (hc:conn w h b) (hr:isN w h r)
include hc hr
theorem N2:((parents w h b r).length:Int)=cnt w h:=by rw [Yc];exact (W0 ⟨hc.1,hr⟩).1
theorem Sl {v:Int} (hv:isN w h v):(v=r∧rd (parents w h b r) v=-1)∨∃p:Nat,p<4∧rd (parents w h b r) v=next w h v p∧link w h b (4*v+p)∧isN w h (next w h v p)∧rd (depths w h b r) (next w h v p)=rd (depths w h b r) v-1:=by
 have H:rootOk w h b r:=⟨hc.1,hr⟩
 have hl:=(W0 H).1
 have hv2:=hv.2
 rw [Kt hv.1 (by omega)]
 have h0:=Sx hc hr v hv
 by_cases h1:rd (depths w h b r) v=0
 ·refine .inl ⟨(Xb H).zero.2 v hv h1,?_⟩
  unfold par;rw [if_neg (by omega)]
 ·obtain ⟨p,hp,h2,h3,h4⟩:=D0 H hv (by omega)
  exact .inr ⟨p,hp,h2,h3,(Wu hp h3).2.1,h4⟩
theorem Ya {v:Int} (hv:isN w h v):anc (parents w h b r) v=v::(if rd (parents w h b r) v=-1 then [] else anc (parents w h b r) (rd (parents w h b r) v)):=by
 have:=N2 hc hr
 exact El (On ⟨hc.1,hr⟩) hv.1 (by have:=hv.2;omega)
theorem Lu:∀(n:Nat) {v:Int},isN w h v→rd (depths w h b r) v=n→r∈anc (parents w h b r) v:=by
 intro n
 induction n with
 | zero=>
  intro v hv h0
  rw [Ya hc hr hv]
  have:=(Xb ⟨hc.1,hr⟩).zero.2 v hv (by omega)
  simp [this]
 | succ n ih=>
  intro v hv h0
  rw [Ya hc hr hv]
  rcases Sl hc hr hv with ⟨h1,_⟩|⟨p,hp,h2,h3,h4,h5⟩
  ·simp [h1]
  ·rw [h2,if_neg (by have:=h4.1;omega)]
   exact List.mem_cons_of_mem _ (ih h4 (by omega))
theorem J8:∀(n:Nat) {v:Int},isN w h v→rd (depths w h b r) v=n→∀(j:Nat) (hj:j+1<(anc (parents w h b r) v).length),isN w h (anc (parents w h b r) v)[j]∧isN w h (anc (parents w h b r) v)[j+1]∧
 ∃p:Nat,p<4∧next w h (anc (parents w h b r) v)[j] p=(anc (parents w h b r) v)[j+1]∧link w h b (4*(anc (parents w h b r) v)[j]+p):=by
 intro n
 induction n with
 | zero=>
  intro v hv h0 j hj
  have hroot:=(Xb ⟨hc.1,hr⟩).zero.2 v hv (by omega)
  have e:=Ya hc hr hv
  rcases Sl hc hr hv with ⟨_,h1⟩|⟨p,hp,h2,h3,h4,h5⟩
  ·rw [h1,if_pos rfl] at e;rw [e] at hj;simp at hj
  ·have:=Sx hc hr _ h4;omega
 | succ n ih=>
  intro v hv h0 j hj
  have e:=Ya hc hr hv
  rcases Sl hc hr hv with ⟨_,h1⟩|⟨p,hp,h2,h3,h4,h5⟩
  ·rw [h1,if_pos rfl] at e;rw [e] at hj;simp at hj
  ·rw [h2,if_neg (by have:=h4.1;omega)] at e
   have e2:=Ya hc hr h4
   cases j with
   | zero=>
    simp only [e]
    simp only [List.getElem_cons_zero,List.getElem_cons_succ]
    have e3:(anc (parents w h b r) (next w h v p))[0]'(by rw [e2];simp)=next w h v p:=by simp only [e2,List.getElem_cons_zero]
    rw [e3]
    exact ⟨hv,h4,p,hp,rfl,h3⟩
   | succ j=>
    simp only [e] at hj ⊢
    simp only [List.getElem_cons_succ]
    exact ih h4 (by omega) j (by simpa using hj)
theorem Dn {a c:Int} (ha:isN w h a) (hcn:isN w h c) (hne:a≠c):∃p:Nat,p<4∧1<(treeNodes (parents w h b r) a c).length∧(treeNodes (parents w h b r) a c)[1]? = some (next w h a p)∧0≤next w h a p:=by
 have dn:=fun {v:Int} (hv:isN w h v)=>(Int.toNat_of_nonneg (Sx hc hr v hv)).symm
 have ra:=Lu hc hr _ ha (dn ha)
 have rc:=Lu hc hr _ hcn (dn hcn)
 have hcom:0≤common (parents w h b r) a c:=by
  unfold common
  cases hf:(anc (parents w h b r) a).find? (fun x=>decide (x∈anc (parents w h b r) c)) with
  | none=>rw [List.find?_eq_none] at hf;exact absurd (by simpa using rc) (hf r ra)
  | some u=>
   have:=qx (List.mem_of_find?_eq_some hf)
   simpa using this.1
 obtain ⟨ma,mc⟩:=T6 hcom
 have ga:=J8 hc hr _ ha (dn ha)
 have gc:=J8 hc hr _ hcn (dn hcn)
 have ea:=Ya hc hr ha
 have ec:=Ya hc hr hcn
 unfold treeNodes
 rw [if_neg (by omega)]
 have ia:=List.idxOf_lt_length_iff.2 ma
 have ic:=List.idxOf_lt_length_iff.2 mc
 have va:(anc (parents w h b r) a)[(anc (parents w h b r) a).idxOf (common (parents w h b r) a c)]=common (parents w h b r) a c:=by
  have:=List.findIdx_getElem (p:=(· == common (parents w h b r) a c)) (xs:=anc (parents w h b r) a) (w:=ia)
  simpa using this
 have vc:(anc (parents w h b r) c)[(anc (parents w h b r) c).idxOf (common (parents w h b r) a c)]=common (parents w h b r) a c:=by
  have:=List.findIdx_getElem (p:=(· == common (parents w h b r) a c)) (xs:=anc (parents w h b r) c) (w:=ic)
  simpa using this
 generalize (anc (parents w h b r) a).idxOf (common (parents w h b r) a c)=ka at *
 generalize (anc (parents w h b r) c).idxOf (common (parents w h b r) a c)=kc at *
 have a0:(anc (parents w h b r) a)[0]'(by omega)=a:=by simp only [ea,List.getElem_cons_zero]
 have c0:(anc (parents w h b r) c)[0]'(by omega)=c:=by simp only [ec,List.getElem_cons_zero]
 by_cases hk:ka=0
 ·subst hk
  rw [a0] at va
  have hkc:kc≠0:=fun hh=>by subst hh;rw [c0] at vc;exact hne (va.trans vc.symm)
  obtain ⟨j,rfl⟩:∃j,kc=j+1:=⟨kc-1,by omega⟩
  obtain ⟨n1,n2,p,hp,hnx,hlk⟩:=gc j ic
  rw [vc,← va] at hnx
  obtain ⟨g1,g2,g3,_⟩:=geo hp n1 (by rw [hnx];exact ha.1)
  rw [hnx] at g1
  obtain ⟨q,hq⟩:=Int.eq_ofNat_of_zero_le g2
  rw [hq] at g1 g3
  refine ⟨q,by omega,by simp;omega,?_,by rw [g1];exact n1.1⟩
  rw [g1]
  have e1:((anc (parents w h b r) a).take (0+1))=[a]:=by rw [ea];rfl
  have e2:(anc (parents w h b r) c).take (j+1)=(anc (parents w h b r) c).take j++[(anc (parents w h b r) c)[j]]:=List.take_succ_eq_append_getElem (by omega)
  rw [e1,List.getElem?_append_right (by simp)]
  rw [e2,List.reverse_append];rfl
 ·obtain ⟨n1,n2,p,hp,hnx,hlk⟩:=ga 0 (by omega)
  rw [a0] at hnx
  refine ⟨p,hp,by simp;omega,?_,by rw [hnx];exact n2.1⟩
  rw [List.getElem?_append_left (by simp;omega),List.getElem?_take,if_pos (by omega),List.getElem?_eq_getElem (by omega),hnx]
end
end Go.Proofs.YtlhaeingdonaeaaGreat.V
set_option linter.all false
namespace Go.Proofs.YtlhaeingdonaeaaGreat.V
open Go Go.VM Go.Proofs
set_option maxRecDepth 10000
def key (g:GrD):Nat×Nat:=(g.1,g.2.1)
theorem Cy {x:NetD} {a p c a' p' c':Nat} (h:has x.1.1 x.1.2.1 x.1.2.2 (4*(a:Int)+p)) (h':has x.1.1 x.1.2.1 x.1.2.2 (4*(a':Int)+p')) (hp:p<4) (hp':p'<4) (hc:c<2) (hc':c'<2)
 (ha:(a:Int)<cnt x.1.1 x.1.2.1) (ha':(a':Int)<cnt x.1.1 x.1.2.1) (e:tgt x a p c=tgt x a' p' c'):a=a'∧p=p':=by
 obtain ⟨u1,_,_⟩:=Y8 (c:=c) h hp hc
 obtain ⟨v1,_,_⟩:=Y8 (c:=c') h' hp' hc'
 obtain ⟨⟨n1,n2⟩,o1,o2⟩:=Sc (c:=c) h hp
 obtain ⟨⟨m1,m2⟩,q1,q2⟩:=Sc (c:=c') h' hp'
 obtain ⟨g1,_,_,_,g5⟩:=geo (w:=x.1.1) (h:=x.1.2.1) (a:=a) hp ⟨by omega,ha⟩ n1
 obtain ⟨k1,_,_,_,k5⟩:=geo (w:=x.1.1) (h:=x.1.2.1) (a:=a') hp' ⟨by omega,ha'⟩ m1
 have e1:next x.1.1 x.1.2.1 a p=next x.1.1 x.1.2.1 a' p':=by omega
 have e2:opp (p:Int)=opp (p':Int):=by omega
 rw [e1,e2] at g1
 rw [e2] at g5
 constructor<;>omega
def still (x:NetD):Prop:=allN x=[]∧enterN x=[]
end Go.Proofs.YtlhaeingdonaeaaGreat.V
set_option linter.all false
namespace Go.Proofs.YtlhaeingdonaeaaGreat.V
open Go Go.VM Go.Proofs
set_option maxRecDepth 10000
variable {frz:Nat} {H:Heap}
noncomputable def idleAt (x:NetD):Int:=if runs x 400 then (match (List.range 401).find? fun i=>decide (idle (runN x i)) with|some i=>(i:Int)|none=>-1) else -1
noncomputable def idled (x:NetD):NetD:=if 0≤idleAt x then runN x (idleAt x).toNat else x
def MadeI (H:Heap) (y:NetD) (k:Int) (r:Value) (H':Heap):Prop:=∃u,r=.tuple #[u,.int .i64 k]∧dNet.Made H y u H'
theorem Lp {x:NetD} (g:runs x 400) {i:Nat} (hi:i<401) (h:idle (runN x i)) (hn:∀j,j<i→¬idle (runN x j)):idleAt x=i∧idled x=runN x i:=by
 have e:idleAt x=i:=by
  unfold idleAt;rw [if_pos g,Su hi (decide_eq_true h) (fun j hj=>decide_eq_false (hn j hj))]
 refine ⟨e,?_⟩
 unfold idled
 rw [e,if_pos (by omega),Int.toNat_natCast]
theorem N9 {x:NetD} (g:runs x 400) (hn:∀j,j<401→¬idle (runN x j)):idleAt x=-1∧idled x=x:=by
 have e:idleAt x=-1:=by
  unfold idleAt;rw [if_pos g,Zf (fun j hj=>decide_eq_false (hn j hj))]
 refine ⟨e,?_⟩
 unfold idled
 rw [e,if_neg (by omega)]
theorem Jj {x:NetD} (g:¬runs x 400):idleAt x=-1∧idled x=x:=by
 have e:idleAt x=-1:=if_neg g
 refine ⟨e,?_⟩
 unfold idled
 rw [e,if_neg (by omega)]
theorem O0 (x:NetD):idleAt x=-1∨(0≤idleAt x∧idleAt x≤400∧runs x 400):=by
 unfold idleAt
 split
 ·rename_i g
  split
  ·rename_i i hi
   have:=List.mem_of_find?_eq_some hi
   have:=List.mem_range.1 this
   exact .inr ⟨by omega,by omega,g⟩
  ·exact .inl rfl
 ·exact .inl rfl
theorem D2 {v:NetV} {x:NetD} (o:dNet.Ow H v x) (h9:allL 66000000 x.2.2.2.2.2.2.1) :
 wp (vcall C frz 144 [dNet.val v x] H) (MadeI H (idled x) (idleAt x)):=by
 have ones:=Qn o
 have ecopy:=fun K (c:Chg H K [])=>X8 (frz:=H.length) (H:=K) (v:=v) (x:=x) (Dt.chg (T:=dNet) o c (by simp))
 have ck:=fun F K (c:Chg H K [])=>Ld (frz:=F) (H:=K) (v:=v) (x:=x) (k:=400) (Dt.chg (T:=dNet) o c (by simp))
 simp only [Qm] at ecopy ck ⊢
 rw [Qb (fn:=Tryz.f144) Tryz.func144 rfl (by kernel_rfl) rfl]
 simp [ones]
 refine Qc (ecopy _ (Chg.app _)) ?_
 rintro _ K ⟨n,rfl,on,cn,mn,dn⟩
 simp at mn
 have qn:=Qn on
 have lK:=cn.1
 simp at lK
 have hF:H.length≤K.length:=by omega
 have ltn:∀i∈dNet.ids n,i<K.length:=fun i hi=>dNet.lt on i hi
 simp [Qm,qn,VM.look,hF]
 obtain ⟨K1,hK1⟩:∃K1,K1=K++[⟨netCells n x,0,48⟩]:=⟨_,rfl⟩
 have c1:Chg K K1 []:=by rw [hK1];exact Chg.app _
 have cK:Chg H K []:=(Chg.app _).trans cn
 have cK1:=cK.trans c1
 have l1:K1.length=K.length+1:=by rw [hK1];simp
 have b1:K1[H.length]? = some ⟨netCells v x,0,48⟩:=Qa (Qa (by simp [netCells]) cn (by simp)) c1 (by simp)
 have bR:K1[H.length+1]? = some ⟨[.int .i64 0,.int .i64 0,.slice none 0 0,.slice none 0 0,.slice none 0 0,.slice none 0 0,.slice none 0 0,.slice none 0 0,.slice none 0 0,.slice none 0 0,.int .i64 0],0,48⟩:=Qa (Qa (by simp) cn (by simp)) c1 (by simp)
 have b3:K1[K.length]? = some ⟨netCells n x,0,48⟩:=by rw [hK1];simp
 have on1:=Dt.chg (T:=dNet) on c1 (by simp)
 have hKs:K++[⟨netCells n x,0,48⟩]=K1:=hK1.symm
 have b1':=b1
 unfold netCells at hKs b1'
 rw [hKs]
 clear hK1 hKs
 have ck':=fun F=>ck F K1 cK1
 have hF1:H.length≤H.length+1:=by omega
 -- what is handed back
 have fin:∀(J:Heap) (w:NetV) (y:NetD) (b:Int),Chg H J []→
  dNet.Ow J w y→(dNet.ids w).Nodup→(∀i∈dNet.ids w,H.length+2≤i)→idled x=y→idleAt x=b→MadeI H (idled x) (idleAt x) (.tuple #[dNet.val w y,.int .i64 b]) (J.set (H.length+1) ⟨netCells w y,0,48⟩):=fun J w y b cJ oJ dJ mJ e1 e2=>by
  rw [e1,e2]
  exact ⟨_,rfl,w,rfl,Dt.chg (T:=dNet) oJ (Qe _ _) (fun i hi hh=>by have:=mJ i hi;simp at hh;omega),cJ.trans' (Qe _ _) (fun i hi=>.inr (by simp at hi;omega)),fun i hi=>by have:=mJ i hi;omega,dJ⟩
 by_cases g0:runs x 400
 rotate_left
 ·obtain ⟨e1,e2⟩:=Jj g0
  have gR:=Qg (r':=⟨netCells n x,0,48⟩) bR
  have hM:=fin K1 n x (-1) cK1 on1 dn (fun i hi=>by have:=mn i hi;omega) e2 e1
  have b3':=b3
  unfold netCells at b3' gR
  simp [VM.look,b1',ones,ck',g0,b3',bR,gR,qn,hF1]
  simpa [Qm,netCells] using hM
 have ht:=g0.1.2.2.2.2.2.2
 have ht2:=g0.2.2
 unfold inR at ht
 have hro:=Tb g0.1
 have ra:=fun i (hi:i≤400)=>Ef (i:=i) hro (R5 g0.1) h9 hi
 simp [VM.look,b1',ones,ck',g0]
 refine Qi (fun q t J=>∃(i:Nat) (w:NetV),q=401-i∧i≤401∧t 1=.pointer (some ⟨H.length,0,some 0⟩)∧t 2=.pointer (some ⟨H.length+1,0,some 0⟩)∧t 4=.pointer (some ⟨K.length,0,some 0⟩)∧t 12=.int .i64 i∧J[K.length]? = some ⟨netCells w (runN x i),0,48⟩∧dNet.Ow J w (runN x i)∧(dNet.ids w).Nodup∧(∀i∈dNet.ids w,H.length+2≤i∧i≠K.length)∧
  J[H.length]? = some ⟨netCells v x,0,48⟩∧
  J[H.length+1]? = some ⟨[.int .i64 0,.int .i64 0,.slice none 0 0,.slice none 0 0,.slice none 0 0,.slice none 0 0,.slice none 0 0,.slice none 0 0,.slice none 0 0,.slice none 0 0,.int .i64 0],0,48⟩∧Chg H J []∧∀j,j<i→¬idle (runN x j)) ?_ (n:=401)
  ⟨0,n,rfl,by omega,by simp,by simp,by simp,by simp,b3,on1,dn,fun i hi=>⟨by have:=mn i hi;omega,by have:=ltn i hi;omega⟩,b1,bR,cK1,by omega⟩
 rintro q t J ⟨i,w,rfl,hi,t1,t2,t4,t12,bJ,oJ,dJ,mJ,bO,bRJ,cJ,hno⟩ ih
 simp [t1,t2,t4,t12]
 refine Qd ?_ ?_<;>intro g
 ·have hi':i<401:=by omega
  obtain ⟨r1,r2,r3,r4⟩:=ra i (by omega)
  have lJ:=Qt bJ
  have ic:=fun F=>Ml (frz:=F) (H:=J) (id:=K.length) (v5:=w.2.2.1) (v8:=w.2.2.2.2.2.1) bJ oJ.2.2.1 oJ.2.2.2.2.2.1
  have oneJ:=Qn oJ
  simp [t1,t2,t4,t12,ic]
  by_cases g1:idle (runN x i)
  ·obtain ⟨e1,e2⟩:=Lp g0 hi' g1 hno
   have gR:=Qg (r':=⟨netCells w (runN x i),0,48⟩) bRJ
   have hM:=fin J w (runN x i) i cJ oJ dJ (fun j hj=>(mJ j hj).1) e2 e1
   have g1':=g1
   unfold idle at g1'
   unfold netCells at bJ gR
   simp [t1,t2,t4,t12,g1',VM.look,bJ,bRJ,gR,oneJ,hF1]
   simpa [Qm,netCells] using hM
  have g1':¬(flits (runN x i).2.2.1=0∧flits (runN x i).2.2.2.2.2.1=0):=g1
  have g1b:(decide (flits (runN x i).2.2.1=0)&&decide (flits (runN x i).2.2.2.2.2.1=0))=false:=by
   rw [← Bool.decide_and];exact decide_eq_false g1'
  have st:=Dp (frz:=H.length) (id:=K.length) (tail:=[]) (e:=48) (by simpa using bJ) oJ dJ (fun i hi=>by have:=(mJ i hi).1;omega) hF (fun hh=>(mJ _ hh).2 rfl) cJ.1 r1 r2 r3 (by rw [r4];unfold inR;omega)
  rw [g1b]
  simp [t1,t2,t4,t12]
  refine Qc st ?_
  rintro _ J2 ⟨w2,s1,s2,s3,s4,s5⟩
  rw [List.append_nil] at s1
  simp [t1,t2,t4,t12]
  refine ih (401-(i+1)) _ _ ⟨i+1,w2,rfl,by omega,by simp [t1],by simp [t2],by simp [t4],?_,s1,s2,s3,fun j hj=>?_,Qa bO s5 (fun hh=>?_),Qa bRJ s5 (fun hh=>?_),cJ.trans' s5 (fun j hj=>?_),fun j hj=>?_⟩ (by omega)
  ·simp [t12];rw [w64 (by omega) (by omega)]
  ·rcases s4 j hj with h|h
   ·exact mJ j h
   ·exact ⟨by omega,by omega⟩
  ·rcases List.mem_cons.1 hh with h|h
   ·omega
   ·have:=(mJ _ h).1;omega
  ·rcases List.mem_cons.1 hh with h|h
   ·omega
   ·have:=(mJ _ h).1;omega
  ·right
   rcases List.mem_cons.1 hj with h|h
   ·omega
   ·have:=(mJ _ h).1;omega
  ·by_cases hji:j<i
   ·exact hno j hji
   ·have:j=i:=by omega
    subst this;exact g1
 ·have:i=401:=by omega
  subst this
  obtain ⟨e1,e2⟩:=N9 g0 hno
  have bO':=bO
  unfold netCells at bO'
  simp [t1,t2,t4,t12,VM.look,bO',ones]
  refine Qc (ecopy J cJ) ?_
  rintro _ J2 ⟨n2,rfl,on2,cn2,mn2,dn2⟩
  have qn2:=Qn on2
  have bR2:=Qa bRJ cn2 (by simp)
  have lR:=Qt bRJ
  have gR:=Qg (r':=⟨netCells n2 x,0,48⟩) bR2
  have hM:=fin J2 n2 x (-1) (cJ.trans cn2) on2 dn2 (fun i hi=>by have:=mn2 i hi;omega) e2 e1
  unfold netCells at gR
  simp [Qm,VM.look,t1,t2,bR2,gR,qn2,hF1]
  simpa [Qm,netCells] using hM
def actOk (k p q r s:Int):Prop:=
 if k=1 then inR 0 p 15∧inR 0 q 15∧inR 0 r 1∧inR 1 s 5 else if k=2 then inR 1 p 100∧q=0∧r=0∧s=0 else if k=3 then p=0∧q=0∧r=0∧s=0
 else if k=4 then inR 0 p 63∧q=0∧r=0∧s=0 else k=5∧inR 1 p 4∧inR 1 q 4∧r=0∧s=0
instance (k p q r s:Int):Decidable (actOk k p q r s):=by unfold actOk;infer_instance
theorem Aw (a b c d e a' b' c' d' e':Int):cseq [0,0,0,0,0] [.int .i64 a,.int .i64 b,.int .i64 c,.int .i64 d,.int .i64 e] [.int .i64 a',.int .i64 b',.int .i64 c',.int .i64 d',.int .i64 e']=some (decide (a=a'∧b=b'∧c=c'∧d=d'∧e=e')):=by
 have:=Dl (a,b,c,d,e) (a',b',c',d',e')
 simpa [pkF,-cseq] using this
theorem By (k p q r s:Int):vcall C frz 79 [.agg #[.int .i64 k,.int .i64 p,.int .i64 q,.int .i64 r,.int .i64 s]] H=some (.bool (decide (actOk k p q r s)),H):=by
 refine wp.exact (by simp) ?_ rfl
 rw [Qb (fn:=Tryz.f79) Tryz.func79 rfl (by kernel_rfl) rfl]
 unfold actOk
 by_cases k1:k=1
 ·by_cases h1:inR 0 p 15
  ·by_cases h2:inR 0 q 15
   ·by_cases h3:inR 0 r 1
    ·by_cases h4:inR 1 s 5<;>simp [VM.look,k1,Qk,h1,h2,h3,h4]
    ·simp [VM.look,k1,Qk,h1,h2,h3]
   ·simp [VM.look,k1,Qk,h1,h2]
  ·simp [VM.look,k1,Qk,h1]
 by_cases k2:k=2
 ·by_cases h1:inR 1 p 100
  ·by_cases h2:q=0
   ·by_cases h3:r=0
    ·by_cases h4:s=0<;>simp [VM.look,k1,k2,Qk,h1,h2,h3,h4]
    ·simp [VM.look,k1,k2,Qk,h1,h2,h3]
   ·simp [VM.look,k1,k2,Qk,h1,h2]
  ·simp [VM.look,k1,k2,Qk,h1]
 by_cases k3:k=3
 ·simp [VM.look,k1,k2,k3,Aw,-cseq]
 by_cases k4:k=4
 ·by_cases h1:inR 0 p 63
  ·by_cases h2:q=0
   ·by_cases h3:r=0
    ·by_cases h4:s=0<;>simp [VM.look,k1,k2,k3,k4,Qk,h1,h2,h3,h4]
    ·simp [VM.look,k1,k2,k3,k4,Qk,h1,h2,h3]
   ·simp [VM.look,k1,k2,k3,k4,Qk,h1,h2]
  ·simp [VM.look,k1,k2,k3,k4,Qk,h1]
 by_cases k5:k=5
 ·by_cases h1:inR 1 p 4
  ·by_cases h2:inR 1 q 4
   ·by_cases h3:r=0
    ·by_cases h4:s=0<;>simp [VM.look,k1,k2,k3,k4,k5,Qk,h1,h2,h3,h4]
    ·simp [VM.look,k1,k2,k3,k4,k5,Qk,h1,h2,h3]
   ·simp [VM.look,k1,k2,k3,k4,k5,Qk,h1,h2]
  ·simp [VM.look,k1,k2,k3,k4,k5,Qk,h1]
 simp [VM.look,k1,k2,k3,k4,k5]
theorem Jb (b:Bool):vcall C frz 141 [.bool b] H=some (.int .i64 (if b then 1 else 0),H):=by
 rw [Qb (fn:=Tryz.f141) Tryz.func141 rfl (by kernel_rfl) rfl]
 cases b<;>simp
def fresh (x:NetD) (m:MeshD) (t:ClassesD):NetD:=(m,t,x.2.2.1,List.replicate x.2.2.2.1.length (-1),List.replicate x.2.2.2.2.1.length 0,x.2.2.2.2.2.1,x.2.2.2.2.2.2.1,x.2.2.2.2.2.2.2)
theorem J6 {xs:List Int} {z:Int} {i:Nat} (h:i<xs.length):(List.replicate i z++xs.drop i).set i z=List.replicate (i+1) z++xs.drop (i+1):=by
 rw [List.set_append_right _ _ (by simp),List.length_replicate,Nat.sub_self,List.drop_eq_getElem_cons h,List.set_cons_zero,List.replicate_succ']
 simp
theorem Rq {v:NetV} {x:NetD} {vm:Value} {w' h':Int} {b':List Int} {vc:Value×Value} {c':ClassesD} (o:dNet.Ow H v x) (om:dMesh.Ow H vm (w',h',b')) (oc:dClasses.Ow H vc c') :
 wp (vcall C frz 182 [dNet.val v x,.agg #[.int .i64 w',.int .i64 h',vm],.agg #[vc.1,vc.2]] H) (dNet.Made H (fresh x (w',h',b') c')):=by
 have ones:=Qn o
 have onem:=Xl om
 have onec:=We oc
 have ecopy:=fun L=>X8 (frz:=H.length) (H:=H++L) (v:=v) (x:=x) (Dt.app (T:=dNet) o)
 obtain ⟨u2,⟨u3,u4⟩,⟨u5,h5⟩,u6,u7,⟨u8,h8⟩,⟨u9,h9⟩,_⟩:=v
 obtain ⟨⟨w,h,b⟩,⟨A,B⟩,buf,own,turn,src,arr,tm⟩:=x
 simp only at ones
 simp only [Qm] at ecopy ⊢
 rw [Qb (fn:=Tryz.f182) Tryz.func182 rfl (by kernel_rfl) rfl]
 simp [ones,onem,onec]
 refine Qc (ecopy _) ?_
 rintro _ K1 ⟨n,rfl,o1,c1,m1,d1⟩
 clear ecopy
 have bM:K1[H.length+1]? = some ⟨[.int .i64 w',.int .i64 h',vm],0,42⟩:=Qa (by simp) c1 (by simp)
 have bC:K1[H.length+2]? = some ⟨[vc.1,vc.2],0,45⟩:=Qa (by simp) c1 (by simp)
 have bR:K1[H.length+3]? = some ⟨[.int .i64 0,.int .i64 0,.slice none 0 0,.slice none 0 0,.slice none 0 0,.slice none 0 0,.slice none 0 0,.slice none 0 0,.slice none 0 0,.slice none 0 0,.int .i64 0],0,48⟩:=Qa (by simp) c1 (by simp)
 have cH:Chg H K1 []:=(Chg.app []).trans c1
 have lc1:=c1.1
 simp at lc1 m1
 have q:=Qn o1
 have lt1:=dNet.lt o1
 obtain ⟨n1,n2,n3,n4,n5,n6,n7,nz⟩:=n
 obtain ⟨y1,y2,y3,y4,y5,y6,y7,_⟩:=o1
 simp only at y1 y2 y3 y4 y5 y6 y7 q
 have eid:dNet.ids (n1,n2,n3,n4,n5,n6,n7,nz)=dMesh.ids n1++(dClasses.ids n2++(dSS.ids n3++(dIntS.ids n4++(dIntS.ids n5++(dSS.ids n6++(dSS.ids n7++[])))))):=rfl
 rw [eid] at m1 d1 lt1
 obtain ⟨d11,d12,_⟩:=List.nodup_append.1 d1
 obtain ⟨d21,d22,_⟩:=List.nodup_append.1 d12
 have mr:∀i∈dSS.ids n3++(dIntS.ids n4++(dIntS.ids n5++(dSS.ids n6++(dSS.ids n7++[])))),H.length+4≤i∧i<K1.length:=fun i hi=>⟨m1 i (List.mem_append.2 (.inr (List.mem_append.2 (.inr hi)))),lt1 i (List.mem_append.2 (.inr (List.mem_append.2 (.inr hi))))⟩
 have ml:∀i∈dMesh.ids n1,H.length+4≤i∧i<K1.length:=fun i hi=>⟨m1 i (List.mem_append.2 (.inl hi)),lt1 i (List.mem_append.2 (.inl hi))⟩
 have mk:∀i∈dClasses.ids n2,H.length+4≤i∧i<K1.length:=fun i hi=>⟨m1 i (List.mem_append.2 (.inr (List.mem_append.2 (.inl hi)))),lt1 i (List.mem_append.2 (.inr (List.mem_append.2 (.inl hi))))⟩
 clear m1 d1 lt1 eid d11 d12 d21
 obtain ⟨d31,d32,d33⟩:=List.nodup_append.1 d22
 obtain ⟨d41,d42,d43⟩:=List.nodup_append.1 d32
 obtain ⟨d51,d52,d53⟩:=List.nodup_append.1 d42
 have in3:∀i∈dSS.ids n3,H.length+4≤i∧i<K1.length:=fun i hi=>mr i (List.mem_append.2 (.inl hi))
 have in4:∀i∈dIntS.ids n4,H.length+4≤i∧i<K1.length:=fun i hi=>mr i (List.mem_append.2 (.inr (List.mem_append.2 (.inl hi))))
 have in5:∀i∈dIntS.ids n5,H.length+4≤i∧i<K1.length:=fun i hi=>mr i (List.mem_append.2 (.inr (List.mem_append.2 (.inr (List.mem_append.2 (.inl hi))))))
 have in6:∀i∈dSS.ids n6,H.length+4≤i∧i<K1.length:=fun i hi=>mr i (List.mem_append.2 (.inr (List.mem_append.2 (.inr (List.mem_append.2 (.inr (List.mem_append.2 (.inl hi))))))))
 have in7:∀i∈dSS.ids n7,H.length+4≤i∧i<K1.length:=fun i hi=>mr i (List.mem_append.2 (.inr (List.mem_append.2 (.inr (List.mem_append.2 (.inr (List.mem_append.2 (.inr (List.mem_append.2 (.inl hi))))))))))
 have x43:∀i∈dIntS.ids n4,i∉dSS.ids n3:=fun i hi hh=>d33 i hh i (List.mem_append.2 (.inl hi)) rfl
 have x53:∀i∈dIntS.ids n5,i∉dSS.ids n3:=fun i hi hh=>d33 i hh i (List.mem_append.2 (.inr (List.mem_append.2 (.inl hi)))) rfl
 have x54:∀i∈dIntS.ids n5,i∉dIntS.ids n4:=fun i hi hh=>d43 i hh i (List.mem_append.2 (.inl hi)) rfl
 have x64:∀i∈dSS.ids n6,i∉dIntS.ids n4:=fun i hi hh=>d43 i hh i (List.mem_append.2 (.inr (List.mem_append.2 (.inl hi)))) rfl
 have x74:∀i∈dSS.ids n7,i∉dIntS.ids n4:=fun i hi hh=>d43 i hh i (List.mem_append.2 (.inr (List.mem_append.2 (.inr (List.mem_append.2 (.inl hi)))))) rfl
 have x65:∀i∈dSS.ids n6,i∉dIntS.ids n5:=fun i hi hh=>d53 i hh i (List.mem_append.2 (.inl hi)) rfl
 have x75:∀i∈dSS.ids n7,i∉dIntS.ids n5:=fun i hi hh=>d53 i hh i (List.mem_append.2 (.inr (List.mem_append.2 (.inl hi)))) rfl
 have hF1:H.length≤K1.length:=by omega
 simp [Qm,VM.look,bM,bC,q,onem,onec,hF1]
 rw [Qf (h:=by kernel_rfl)]
 simp [VM.look,bM,bC,q,onem,onec,hF1]
 obtain ⟨G1,hG1⟩:∃G,G=K1++[⟨[.int .i64 w,.int .i64 h,n1,n2.1,n2.2,n3.1,n4,n5,n6.1,n7.1,.int .i64 tm],0,48⟩]:=⟨_,rfl⟩
 have bO:G1[K1.length]? = some ⟨[.int .i64 w,.int .i64 h,n1,n2.1,n2.2,n3.1,n4,n5,n6.1,n7.1,.int .i64 tm],0,48⟩:=by rw [hG1];simp
 have aG:Chg K1 G1 []:=by rw [hG1];exact Chg.app []
 have gl:K1.length+1≤G1.length:=by rw [hG1];simp
 try rw [← hG1]
 clear hG1
 have bM:=Qa bM aG (by simp)
 have bC:=Qa bC aG (by simp)
 have bR:=Qa bR aG (by simp)
 have cH:=cH.trans aG
 have y3:=Dt.chg0 (T:=dSS) y3 aG
 have y4:=Dt.chg0 (T:=dIntS) y4 aG
 have y5:=Dt.chg0 (T:=dIntS) y5 aG
 have y6:=Dt.chg0 (T:=dSS) y6 aG
 have y7:=Dt.chg0 (T:=dSS) y7 aG
 try simp [VM.look,bM,onem]
 refine Qc (Uq w' h' vm b' (Rd.isI (om.1.rd.chg cH (by simp))) om.2) ?_
 rintro _ G2 ⟨m1,rfl,om1,c2,mm1,dm1⟩
 have qm:=Xl om1
 have lm:=dMesh.lt om1
 have bM:=Qa bM c2 (by simp)
 have bC:=Qa bC c2 (by simp)
 have bR:=Qa bR c2 (by simp)
 have bO:=Qa bO c2 (by simp)
 have cH:=cH.trans c2
 have gl2:=c2.1
 have y3:=Dt.chg0 (T:=dSS) y3 c2
 have y4:=Dt.chg0 (T:=dIntS) y4 c2
 have y5:=Dt.chg0 (T:=dIntS) y5 c2
 have y6:=Dt.chg0 (T:=dSS) y6 c2
 have y7:=Dt.chg0 (T:=dSS) y7 c2
 simp [Ww,VM.look,bC,onec]
 refine Qc (Uc vc.1 vc.2 c'.1 c'.2 (Rd.isI (oc.1.1.rd.chg cH (by simp))) (Rd.isI (oc.2.1.rd.chg cH (by simp))) oc.1.2 oc.2.2) ?_
 rintro _ G3 ⟨m2,rfl,om2,c3,mm2,dm2⟩
 have qc:=We om2
 have lc:=dClasses.lt om2
 have bR:=Qa bR c3 (by simp)
 have bO:=Qa bO c3 (by simp)
 have cH:=cH.trans c3
 have gl3:=c3.1
 have om1:=Dt.chg0 (T:=dMesh) om1 c3
 have y3:=Dt.chg0 (T:=dSS) y3 c3
 have y4:=Dt.chg0 (T:=dIntS) y4 c3
 have y5:=Dt.chg0 (T:=dIntS) y5 c3
 have y6:=Dt.chg0 (T:=dSS) y6 c3
 have y7:=Dt.chg0 (T:=dSS) y7 c3
 have bO1:=Qg (r':=⟨[.int .i64 w',.int .i64 h',m1,n2.1,n2.2,n3.1,n4,n5,n6.1,n7.1,.int .i64 tm],0,48⟩) bO
 have bO2:=Qg (r':=⟨[.int .i64 w',.int .i64 h',m1,m2.1,m2.2,n3.1,n4,n5,n6.1,n7.1,.int .i64 tm],0,48⟩) bO
 have eO:Chg G3 (G3.set K1.length ⟨[.int .i64 w',.int .i64 h',m1,m2.1,m2.2,n3.1,n4,n5,n6.1,n7.1,.int .i64 tm],0,48⟩) [K1.length]:=Qe _ _
 have bR:=Qa bR eO (by simp;omega)
 have cH:=cH.trans' eO (fun i hi=>.inr (by simp at hi;omega))
 have om1:=Dt.chg (T:=dMesh) om1 eO (fun i hi hh=>by have:=mm1 i hi;simp at hh;omega)
 have om2:=Dt.chg (T:=dClasses) om2 eO (fun i hi hh=>by have:=mm2 i hi;simp at hh;omega)
 have y3:=Dt.chg (T:=dSS) y3 eO (fun i hi hh=>by have:=in3 i hi;simp at hh;omega)
 have y4:=Dt.chg (T:=dIntS) y4 eO (fun i hi hh=>by have:=in4 i hi;simp at hh;omega)
 have y5:=Dt.chg (T:=dIntS) y5 eO (fun i hi hh=>by have:=in5 i hi;simp at hh;omega)
 have y6:=Dt.chg (T:=dSS) y6 eO (fun i hi hh=>by have:=in6 i hi;simp at hh;omega)
 have y7:=Dt.chg (T:=dSS) y7 eO (fun i hi hh=>by have:=in7 i hi;simp at hh;omega)
 have gl4:(G3.set K1.length ⟨[.int .i64 w',.int .i64 h',m1,m2.1,m2.2,n3.1,n4,n5,n6.1,n7.1,.int .i64 tm],0,48⟩).length=G3.length:=by simp
 simp [Ww,Wd,VM.look,bO,bO1,q,qm,qc,hF1]
 generalize G3.set K1.length ⟨[.int .i64 w',.int .i64 h',m1,m2.1,m2.2,n3.1,n4,n5,n6.1,n7.1,.int .i64 tm],0,48⟩=G4 at *
 have bO:=bO2
 clear bO2 bM bC aG c2 c3 eO y1 y2
 have hb4:=y4.2
 have hb5:=y5.2
 have l4:=y4.1.rd.len (P:=Tryz.prog) (ty:=24) (by simp)
 try simp [VM.look,bO,q,qm,qc,l4]
 refine Qi (fun m t H'=>∃i:Nat,m=own.length-i∧i≤own.length∧t 6=.pointer (some ⟨H.length+3,0,some 0⟩)∧t 7=.pointer (some ⟨K1.length,0,some 0⟩)∧t 20=.int .i64 own.length∧t 21=.int .i64 i∧Chg G4 H' (dIntS.ids n4)∧Ow Fl.int 3 H' n4 (List.replicate i (-1)++own.drop i)) ?_ (n:=own.length)
  ⟨0,rfl,by omega,by simp,by simp,by simp,by simp,Chg.refl _,by simpa using y4.1⟩
 rintro m t H' ⟨i,rfl,hi,t6,t7,t20,t21,c4,o4⟩ ih
 have bO':=Qa bO c4 (fun hh=>by have:=in4 _ hh;omega)
 have hll:(List.replicate i (-1:Int)++own.drop i).length=own.length:=by simp;omega
 have l4':=o4.rd.len (P:=Tryz.prog) (ty:=24) (by simp)
 rw [hll] at l4'
 simp [t6,t7,t20,t21,VM.look,bO',q,l4']
 refine Qd ?_ ?_<;>intro g
 ·have hi':i<own.length:=by omega
  have q1:=o4.rd.isI.idx (P:=Tryz.prog) (ty:=24) (e:=3) (by simp) (i:=(i:Int)) (by omega) (by omega)
  simp only [Int.toNat_natCast] at q1
  obtain ⟨H5,s5,o5,c5,l5⟩:=o4.put1 (P:=Tryz.prog) (frz:=H.length) rfl (et:=3) (ag:=false) (x:=.int .i64 (-1)) (by simp) (j:=i) (y:=-1) (by omega) rfl rfl rfl (fun j hj=>by have:=in4 j hj;omega)
  rw [J6 hi'] at o5
  simp [t6,t7,t20,t21,VM.look,bO',q,q1,s5]
  refine ih (own.length-(i+1)) _ _ ⟨i+1,rfl,by omega,by simp [t6],by simp [t7],by simp [t20],?_,c4.trans c5,o5⟩ (by omega)
  simp;rw [w64 (by omega) (by omega)]
 have:i=own.length:=by omega
 subst this
 clear ih
 have bR:=Qa bR c4 (fun hh=>by have:=in4 _ hh;omega)
 have bO:=bO'
 have cH:=cH.trans' c4 (fun j hj=>.inr (by have:=in4 j hj;omega))
 have gl5:=c4.1
 have om1:=Dt.chg (T:=dMesh) om1 c4 (fun j hj hh=>by have:=mm1 j hj;have:=in4 j hh;omega)
 have om2:=Dt.chg (T:=dClasses) om2 c4 (fun j hj hh=>by have:=mm2 j hj;have:=in4 j hh;omega)
 have y3:=Dt.chg (T:=dSS) y3 c4 (fun j hj hh=>x43 j hh hj)
 have y5:=Dt.chg (T:=dIntS) y5 c4 x54
 have y6:=Dt.chg (T:=dSS) y6 c4 x64
 have y7:=Dt.chg (T:=dSS) y7 c4 x74
 have o4:Ow Fl.int 3 H' n4 (List.replicate own.length (-1)):=by simpa using o4
 have b4:=y4.2
 have b5:=y5.2
 clear y4 c4 bO' g l4' hll hi
 have l5:=y5.1.rd.len (P:=Tryz.prog) (ty:=24) (by simp)
 simp [t6,t7,t20,t21,VM.look,bO,q,l5]
 refine Qi (fun m t H2=>∃i:Nat,m=turn.length-i∧i≤turn.length∧t 6=.pointer (some ⟨H.length+3,0,some 0⟩)∧t 7=.pointer (some ⟨K1.length,0,some 0⟩)∧t 31=.int .i64 turn.length∧t 32=.int .i64 i∧Chg H' H2 (dIntS.ids n5)∧Ow Fl.int 3 H2 n5 (List.replicate i 0++turn.drop i)) ?_ (n:=turn.length)
  ⟨0,rfl,by omega,by simp [t6],by simp [t7],by simp,by simp,Chg.refl _,by simpa using y5.1⟩
 clear t6 t7 t20 t21
 rintro m t H2 ⟨i,rfl,hi,t6,t7,t31,t32,c5,o5⟩ ih
 have bO':=Qa bO c5 (fun hh=>by have:=in5 _ hh;omega)
 have hll:(List.replicate i (0:Int)++turn.drop i).length=turn.length:=by simp;omega
 simp [t6,t7,t31,t32]
 refine Qd ?_ ?_<;>intro g
 ·have hi':i<turn.length:=by omega
  have q1:=o5.rd.isI.idx (P:=Tryz.prog) (ty:=24) (e:=3) (by simp) (i:=(i:Int)) (by omega) (by omega)
  simp only [Int.toNat_natCast] at q1
  obtain ⟨H5,s5,o5',c5',l5'⟩:=o5.put1 (P:=Tryz.prog) (frz:=H.length) rfl (et:=3) (ag:=false) (x:=.int .i64 0) (by simp) (j:=i) (y:=0) (by omega) rfl rfl rfl (fun j hj=>by have:=in5 j hj;omega)
  rw [J6 hi'] at o5'
  simp [t6,t7,t31,t32,VM.look,bO',q,q1,s5]
  refine ih (turn.length-(i+1)) _ _ ⟨i+1,rfl,by omega,by simp [t6],by simp [t7],by simp [t31],?_,c5.trans c5',o5'⟩ (by omega)
  simp;rw [w64 (by omega) (by omega)]
 have:i=turn.length:=by omega
 subst this
 clear ih
 have bR:=Qa bR c5 (fun hh=>by have:=in5 _ hh;omega)
 have bO:=bO'
 have cH:=cH.trans' c5 (fun j hj=>.inr (by have:=in5 j hj;omega))
 have om1:=Dt.chg (T:=dMesh) om1 c5 (fun j hj hh=>by have:=mm1 j hj;have:=in5 j hh;omega)
 have om2:=Dt.chg (T:=dClasses) om2 c5 (fun j hj hh=>by have:=mm2 j hj;have:=in5 j hh;omega)
 have y3:=Dt.chg (T:=dSS) y3 c5 (fun j hj hh=>x53 j hh hj)
 have o4:=o4.chg c5 (fun j hj hh=>x54 j hh hj)
 have y6:=Dt.chg (T:=dSS) y6 c5 x65
 have y7:=Dt.chg (T:=dSS) y7 c5 x75
 have o5:Ow Fl.int 3 H2 n5 (List.replicate turn.length 0):=by simpa using o5
 have gR:=Qg (r':=⟨[.int .i64 w',.int .i64 h',m1,m2.1,m2.2,n3.1,n4,n5,n6.1,n7.1,.int .i64 tm],0,48⟩) bR
 have hF3:H.length≤H.length+3:=by omega
 have eR:Chg H2 (H2.set (H.length+3) ⟨[.int .i64 w',.int .i64 h',m1,m2.1,m2.2,n3.1,n4,n5,n6.1,n7.1,.int .i64 tm],0,48⟩) [H.length+3]:=Qe _ _
 simp [t6,t7,t31,t32,VM.look,bO,bR,q,qm,qc,gR,hF3]
 refine ⟨(m1,m2,n3,n4,n5,n6,n7,()),rfl,⟨Dt.chg (T:=dMesh) om1 eR (fun j hj hh=>by have:=mm1 j hj;simp at hh;omega),Dt.chg (T:=dClasses) om2 eR (fun j hj hh=>by have:=mm2 j hj;simp at hh;omega),Dt.chg (T:=dSS) y3 eR (fun j hj hh=>by have:=in3 j hj;simp at hh;omega),
  ⟨o4.chg eR (fun j hj hh=>by have:=in4 j hj;simp at hh;omega),by show (List.replicate own.length (-1)).length≤_;simpa using b4⟩,⟨o5.chg eR (fun j hj hh=>by have:=in5 j hj;simp at hh;omega),by show (List.replicate turn.length 0).length≤_;simpa using b5⟩,Dt.chg (T:=dSS) y6 eR (fun j hj hh=>by have:=in6 j hj;simp at hh;omega),Dt.chg (T:=dSS) y7 eR (fun j hj hh=>by have:=in7 j hj;simp at hh;omega),trivial⟩,
  cH.trans' eR (fun j hj=>.inr (by simp at hj;omega)),fun j hj=>?_,?_⟩
 ·rcases List.mem_append.1 hj with hj|hj
  ·have:=mm1 j hj;omega
  rcases List.mem_append.1 hj with hj|hj
  ·have:=mm2 j hj;omega
  ·have:=mr j hj;omega
 ·refine List.nodup_append.2 ⟨dm1,List.nodup_append.2 ⟨dm2,d22,fun a ha b hb e=>by have:=mm2 a ha;have:=mr b hb;omega⟩,fun a ha b hb e=>?_⟩
  rcases List.mem_append.1 hb with hb|hb
  ·have:=lm a ha;have:=mm2 b hb;omega
  ·have:=mm1 a ha;have:=mr b hb;omega
theorem u64w {x:Int} (h1:0≤x) (h2:x≤18446744073709551615):IntKind.u64.wrap x=x:=by
 have:IntKind.u64.wrap x=x%18446744073709551616:=by
  simp [IntKind.wrap,IntKind.bits,IntKind.signed]
 rw [this];omega
theorem Vw (m:Nat) (h:m<4294967296):iand .u64 (m:Int) 4294967295=m:=by
 have:=Du m 4294967295 (by omega) (by omega) .u64 rfl
 have e:((4294967295:Nat):Int)=4294967295:=rfl
 rw [e] at this
 unfold iand
 rw [this,show (4294967295:Nat)=2 ^ 32-1 from rfl,Nat.and_two_pow_sub_one_eq_mod,u64w (by omega) (by omega)]
 omega
theorem ishr32 (m:Nat) (h:m<4294967296):ishr .u64 (m:Int) 32=0:=by
 have:=N5 .u64 m 32 (by decide)
 have e:((32:Nat):Int)=32:=rfl
 rw [e] at this
 rw [this];omega
theorem B7 (n:Nat) (h:n<4294967296):vcall C frz 285 [.int .u64 1,.int .u64 n] H=some (.tuple #[.int .u64 0,.int .u64 n],H):=by
 rw [Qb (fn:=Tryz.f285) Tryz.func285 rfl (by kernel_rfl) rfl]
 have a1:=Vw 1 (by omega)
 have a0:=Vw 0 (by omega)
 have s1:=ishr32 1 (by omega)
 have s0:=ishr32 0 (by omega)
 have an:=Vw n h
 have sn:=ishr32 n h
 simp only [Int.natCast_zero,Int.natCast_one] at a1 a0 s1 s0
 have w0:IntKind.u64.wrap 0=0:=by decide
 have wn:IntKind.u64.wrap (n:Int)=n:=u64w (by omega) (by omega)
 simp [a1,s1,an,sn,wn,w0,a0,s0]
theorem kt (n:Nat) (h:n<4294967296):vcall C frz 282 [.int .u64 1,.int .u64 n] H=some (.tuple #[.int .u64 0,.int .u64 n],H):=by
 rw [Qb (fn:=Tryz.f282) Tryz.func282 rfl (by kernel_rfl) rfl]
 simp [B7 n h]
theorem Rk (c z:Value) (k m:Nat) (j:Nat) (h:j≤m):VM.splice (List.replicate k c++List.replicate m z) k (List.replicate j c)=List.replicate (k+j) c++List.replicate (m-j) z:=by
 unfold VM.splice
 rw [List.take_left' (by simp),List.drop_append,List.drop_of_length_le (by simp)]
 simp only [List.length_replicate,Nat.add_sub_cancel_left,List.nil_append,List.drop_replicate]
 rw [List.replicate_append_replicate]
theorem Dz (id:Nat) (c:Int) (n:Nat) (hr:H[id]? = some ⟨[.int .i64 c],0,3⟩) (h1:1≤n) (h2:n≤536870912) :
 vcall C frz 276 [.slice (some ⟨id,0,some 0⟩) 1 0,.int .i64 n] H=some (.slice (some ⟨H.length,0,some 0⟩) n 0,H++[⟨List.replicate n (.int .i64 c),0,3⟩]):=by
 rw [Qb (fn:=Tryz.f276) Tryz.func276 rfl (by kernel_rfl) rfl]
 have e0:¬(n:Int)<0:=by omega
 have e1:IntKind.u64.wrap (n:Int)=n:=u64w (by omega) (by omega)
 have e2:IntKind.u64.wrap 1=1:=by decide
 have e3:IntKind.i64.wrap (n:Int)=n:=w64 (by omega) (by omega)
 have e4:¬(9223372036854775807:Int)<n:=by omega
 simp [VM.look,hr,e0,e1,e2,e3,e4,kt n (by omega)]
 refine Wq (by omega) ?_
 have lk:∀L,(H++L)[id]? = some ⟨[.int .i64 c],0,3⟩:=fun L=>by rw [List.getElem?_append_left (List.getElem?_eq_some_iff.1 hr).1,hr]
 have er:VM.splice (List.replicate n (Value.int .i64 0)) 0 [.int .i64 c]=List.replicate 1 (.int .i64 c)++List.replicate (n-1) (.int .i64 0):=by
  have:=Rk (.int .i64 c) (.int .i64 0) 0 n 1 h1
  simpa using this
 have m1:Nat.min 1 n=1:=Nat.min_eq_left h1
 simp [VM.look,lk,m1,er]
 refine Xf (fun m t H'=>∃k:Nat,m=n-k∧1≤k∧k≤n∧t 7=.slice (some ⟨H.length,0,some 0⟩) n 0∧t 8=.int .i64 k∧H'=H++[⟨List.replicate k (.int .i64 c)++List.replicate (n-k) (.int .i64 0),0,3⟩]) ?_ (n:=n-1) ⟨1,by simp [e3];exact h1⟩
 rintro m t H' ⟨k,rfl,hk1,hk,h7,h8,rfl⟩ ih
 simp [h7,h8]
 refine Qp _ ?_ ?_<;>intro hkn
 ·simp [h7,h8]
  rw [Qf (h:=by kernel_rfl)]
  simp [h7,h8]
  have hmin:k.min (n-k)=min k (n-k):=rfl
  have hrep:=Rk (.int .i64 c) (.int .i64 0) k (n-k) (min k (n-k)) (Nat.min_le_right _ _)
  have hones:ones (List.replicate k (Value.int .i64 c))=true:=by simp [ones,VM.one]
  refine Wq hk (Wq hk (Wq hones ?_))
  refine ih (n-(k+min k (n-k))) _ _ ⟨k+min k (n-k),rfl,by omega,by omega,by simp [h7],?_,?_⟩ (by omega)
  ·simp [hmin];rw [w64 (by omega) (by omega)]
  ·rw [hrep];congr 3;congr 1;congr 1;omega
 ·have:k=n:=by omega
  subst this
  simp [h7,h8]
theorem Fh {α:Type} {D:Fl α} {e:TypeId} {L H':Heap} {xs:List α} {r:Value} (h:Made D e (H++L) xs r H'):Made D e H xs r H':=by
 obtain ⟨M,rfl,o,n⟩:=h
 exact ⟨L++M,by simp,by simpa using o,fun i hi=>by have:=n i hi;simp at this;omega⟩
theorem Lm (v:Value) (P:List Int) (a b:Int) (hI:IsI H v P) (hl:P.length≤536870911) :
 wp (vcall C frz 233 [v,.int .i64 a,.int .i64 b] H) (Made Fl.int 3 H (treeNodes P a b)):=by
 rw [Qb (fn:=Tryz.f233) Tryz.func233 rfl (by kernel_rfl) rfl]
 simp [F9 _ _ _ _ hI (by omega)]
 refine Qd ?_ ?_<;>intro h0
 ·simp [treeNodes,h0]
  exact ⟨[],by simp,.inl ⟨rfl,rfl⟩,by simp⟩
 ·simp
  refine Qc (Ih v P a hI (by omega)) ?_
  rintro va _ ⟨L1,rfl,oa,na⟩
  simp
  refine Qc (Ih v P b (hI.app _) (by omega)) ?_
  rintro vb _ ⟨L2,rfl,ob,nb⟩
  have ltA:=oa.lt
  have oa:=oa.app (L:=L2)
  have hla:=Tr P a
  have hlb:=Tr P b
  simp only [List.append_assoc] at oa ob
  obtain ⟨ma,mb⟩:=T6 (P:=P) (a:=a) (b:=b) (by omega)
  have ia:=List.idxOf_lt_length_iff.2 ma
  have ib:=List.idxOf_lt_length_iff.2 mb
  simp
  rw [Qf (h:=by kernel_rfl)]
  have e1:IntKind.i64.wrap (((anc P a).idxOf (common P a b):Int)+1)=(((anc P a).idxOf (common P a b)+1:Nat):Int):=by rw [w64 (by omega) (by omega)];omega
  obtain ⟨va',s1,oa',ida⟩:=oa.slice (P:=Tryz.prog) (ty:=24) (by simp) (lo:=none) (hi:=some (.int .i64 (((anc P a).idxOf (common P a b)+1:Nat):Int))) (l:=0) (u:=(anc P a).idxOf (common P a b)+1) rfl rfl (by omega) (by omega)
  obtain ⟨vb',s2,ob',idb⟩:=ob.slice (P:=Tryz.prog) (ty:=24) (by simp) (lo:=none) (hi:=some (.int .i64 ((anc P b).idxOf (common P a b):Int))) (l:=0) (u:=(anc P b).idxOf (common P a b)) rfl rfl (by omega) (by omega)
  rw [List.drop_zero,Nat.sub_zero] at oa' ob'
  have e0:place (anc P a) (common P a b)=((anc P a).idxOf (common P a b):Int):=if_pos ma
  have e00:place (anc P b) (common P a b)=((anc P b).idxOf (common P a b):Int):=if_pos mb
  rw [e1.symm] at s1
  simp [Ol _ _ _ oa.rd.isI (by omega),e0]
  simp only [s1]
  simp [Ol _ _ _ ob.rd.isI (by omega),e00]
  simp only [s2]
  simp
  rw [ida.symm] at na ltA
  rw [idb.symm] at nb
  refine Qc (Fq vb' _ 3 ob' (by simp;omega) (fun i hi=>by have:=nb i hi;simp at this;omega)) ?_
  rintro _ H3 ⟨ob3,c3,l3⟩
  have oa3:=oa'.chg c3 (fun i hi hh=>by have h1:=ltA i hi;have h2:=nb i hh;omega)
  obtain ⟨M,rfl⟩:∃M,H3=H++M:=((Chg.app (H:=H) (L:=L1++L2) []).trans' c3 (fun i hi=>.inr (by have:=nb i hi;simp at this;omega))).ex (by simp)
  simp
  simp [oa3.rd.one',oa3.rd.cells,ob3.rd.one',ob3.rd.cells]
  refine Qc (Q':=Made Fl.int 3 H (treeNodes P a b)) ?_ ?_
  ·refine (Lt (H:=H++(M++[⟨[va',vb'],0,24⟩])) (De (H:=H++(M++[⟨[va',vb'],0,24⟩])) (H.length+M.length) va' vb' ((anc P a).take ((anc P a).idxOf (common P a b)+1)) ((anc P b).take ((anc P b).idxOf (common P a b))).reverse (by simp) ?_ ?_ (by simp;omega))).mono ?_
   ·have:=oa3.rd.isI.app [⟨[va',vb'],0,24⟩];simpa using this
   ·have:=ob3.rd.isI.app [⟨[va',vb'],0,24⟩];simpa using this
   ·intro r H4 h4
    rw [treeNodes,if_neg h0]
    exact Fh h4
  ·intro r H4 h4
   simp
   exact h4
theorem rowget {xs:List Int} {x:Int} (h0:0≤x) (h1:x<xs.length):(xs.map (Value.int .i64))[x.toNat]? = some (.int .i64 (rd xs x)):=by
 obtain ⟨i,rfl⟩:=Int.eq_ofNat_of_zero_le h0
 rw [Z0 (by omega)];simp
theorem Et {xs:List Int} {x:Int} (h0:0≤x) (h1:x<xs.length):xs[x.toNat]'(by omega)=rd xs x:=by
 obtain ⟨i,rfl⟩:=Int.eq_ofNat_of_zero_le h0
 rw [Z0 (by omega)];rfl
theorem rowset {xs:List Int} {x c:Int} (h0:0≤x) (h1:x<xs.length):VM.splice (xs.map (Value.int .i64)) x.toNat [.int .i64 c]=(xs.set x.toNat c).map (.int .i64):=by
 unfold VM.splice
 rw [List.set_eq_take_append_cons_drop,if_pos (by omega)]
 simp
theorem wr1:IntKind.i64.wrap 1=1:=by decide
theorem Ei {w h:Int} {b s rest nx r:List Int} {d:Int} (R:Run w h b s rest nx d r) (i:Inv w h s rest nx d):(rest=[]∧nx=[]∧s=r)∨
 ∃a rest' nx' d',rest++nx=a::(rest'++nx')∧Inv w h s (a::rest') nx' d'∧Run w h b (vis w h b a d' (s,nx')).1 rest' (vis w h b a d' (s,nx')).2 d' r:=by
 cases R with
 | done=>exact .inl ⟨rfl,rfl,rfl⟩
 | level R=>
  cases R with
  | node R=>exact .inr ⟨_,_,[],_,by simp,i.level,R⟩
 | node R=>exact .inr ⟨_,_,_,_,by simp,i,R⟩
theorem Zd (w h:Int) (v:Value) (b:List Int) (root:Int) (hI:IsI H v b) (hl:b.length≤1073741824) :
 wp (vcall C frz 259 [.agg #[.int .i64 w,.int .i64 h,v],.int .i64 root] H) (Made Fl.int 3 H (depths w h b root)):=by
 rw [Qb (fn:=Tryz.f259) Tryz.func259 rfl (by kernel_rfl) rfl]
 have one:=And.intro hI.one' hI.cells
 simp [one,Lk _ _ _ _ _ (hI.app _) hl,-Bool.decide_and]
 refine Qd ?_ ?_<;>intro hR
 ·have R:=Zc hR
  have hc:=Qh w h
  obtain ⟨hm,hr⟩:=hR
  obtain ⟨i0,hq0⟩:=X5 hr
  obtain ⟨r0,r1⟩:=hr
  have hn1:1≤(cnt w h).toNat:=by omega
  have ecn:((cnt w h).toNat:Int)=cnt w h:=by omega
  have rep:=fun F L (hr:(H++⟨[.int .i64 w,.int .i64 h,v],0,42⟩::L)[H.length+1]? = some ⟨[.int .i64 (-1)],0,3⟩)=>Dz (frz:=F) (H:=H++⟨[.int .i64 w,.int .i64 h,v],0,42⟩::L) (H.length+1) (-1) (cnt w h).toNat hr hn1 (by omega)
  rw [ecn] at rep
  simp [one,Wa]
  rw [rep _ _ (by simp)]
  have er:List.replicate (cnt w h).toNat (Value.int .i64 (-1))=(List.replicate (cnt w h).toNat (-1:Int)).map (.int .i64):=by simp
  have es:=rowset (xs:=List.replicate (cnt w h).toNat (-1:Int)) (c:=0) r0 (by simp;omega)
  rw [er]
  simp only [Df]
  have hrl:root<((cnt w h).toNat:Int):=by omega
  simp [r0,r1,hrl,-List.map_replicate,es,-List.map_set]
  refine X1 (by omega) (X1 (by omega) ?_)
  have est:(List.replicate (cnt w h).toNat (-1:Int)).set root.toNat 0=start w h root:=rfl
  rw [est]
  have hlm:b.length≤1073741824:=hl
  refine Qi (fun n t H'=>∃(s don rest nx q:List Int) (d:Int) (g:Nat) (G:Heap),n=(cnt w h).toNat-don.length∧q=don++(rest++nx)∧
   t 2=.pointer (some ⟨H.length,0,some 0⟩)∧t 5=.slice (some ⟨H.length+2,0,some 0⟩) s.length 0∧t 6=.slice (some ⟨H.length+3,0,some g⟩) q.length 0∧t 7=.int .i64 don.length∧
   H'=H++⟨[.int .i64 w,.int .i64 h,v],0,42⟩::⟨[.int .i64 (-1)],0,3⟩::⟨s.map (.int .i64),0,3⟩::⟨q.map (.int .i64),g,3⟩::G∧
   Run w h b s rest nx d (depths w h b root)∧Inv w h s rest nx d∧((don.length+rest.length+nx.length+neg s:Nat):Int)=cnt w h) ?_
   (n:=(cnt w h).toNat) ⟨start w h root,[],[root],[],[root],1,0,[],by simp,by simp,by simp,by simp [start],by simp,by simp,by simp,R,i0,by simp;omega⟩
  clear R i0 hq0 rep
  rintro n t H' ⟨s,don,rest,nx,q,d,g,G,rfl,hqe,h2,h5,h6,h7,rfl,R,i,hq⟩ ih
  have hql:=congrArg List.length hqe
  simp at hql
  simp [h2,h5,h6,h7]
  rcases Ei R i with ⟨rfl,rfl,rfl⟩|⟨a,rest',nx',d',hcat,i',R'⟩
  ·have hlt:¬don.length<q.length:=by simp at hql;omega
   simp [h2,h5,h6,h7,hlt]
   exact ⟨_,rfl,Ow.new (k:=2) rfl (Q0 _).symm (by simp) rfl,by simp⟩
  ·have hlc:=congrArg List.length hcat
   simp at hlc
   have hlt:don.length<q.length:=by omega
   have hget:q[don.length]? = some a:=by rw [hqe,hcat];simp
   have hgv:q[don.length]=a:=by have:=List.getElem?_eq_getElem hlt;rw [hget] at this;exact (Option.some.inj this).symm
   obtain ⟨ha,hda⟩:=i'.fr a (by simp)
   have ha1:=(Yl ha)
   have h1d:=i'.one
   have hsd:=i'.sum
   simp [h2,h5,h6,h7,hlt,hgv]
   refine Qi (fun n t H'=>∃(x:List Int×List Int) (p g:Nat) (G:Heap),n=4-p∧p≤4∧x=(List.range p).foldl (vst w h b a d') (s,q)∧BExt w h d' (s,q) x∧
    t 2=.pointer (some ⟨H.length,0,some 0⟩)∧t 5=.slice (some ⟨H.length+2,0,some 0⟩) x.1.length 0∧t 6=.slice (some ⟨H.length+3,0,some g⟩) x.2.length 0∧t 7=.int .i64 don.length∧
    t 8=.int .i64 a∧t 9=.int .i64 p∧
    H'=H++⟨[.int .i64 w,.int .i64 h,v],0,42⟩::⟨[.int .i64 (-1)],0,3⟩::⟨x.1.map (.int .i64),0,3⟩::⟨x.2.map (.int .i64),g,3⟩::G) ?_
    (n:=4) ⟨(s,q),0,g,G,by simp,by simp,by simp,BExt.rfl',by simp [h2],by simp [h5],by simp [h6],by simp [h7],by simp,by simp,by simp⟩
   clear h2 h5 h6 h7
   rintro n t H' ⟨x,p,g,G,rfl,hp,hx,E,h2,h5,h6,h7,h8,h9,rfl⟩ ih2
   have hlen:(x.1.length:Int)=cnt w h:=by rw [E.len];exact i.len
   have hxq:x.2.length≤16:=by have:=E.sum;simp at this;omega
   simp [h2,h5,h6,h7,h8,h9]
   refine Qd ?_ ?_<;>intro hp4
   ·have hp4':p<4:=by omega
    have e1:IntKind.i64.wrap (4*a)=4*a:=w64 (by omega) (by omega)
    have e2:IntKind.i64.wrap (4*a+p)=4*a+p:=w64 (by omega) (by omega)
    have nxt:=fun (x':List Int×List Int) (t':Env) (g':Nat) (G' H':Heap) (hH:H'=H++⟨[.int .i64 w,.int .i64 h,v],0,42⟩::⟨[.int .i64 (-1)],0,3⟩::⟨x'.1.map (.int .i64),0,3⟩::⟨x'.2.map (.int .i64),g',3⟩::G') (hx':x'=vst w h b a d' x p) (k2:t' 2=.pointer (some ⟨H.length,0,some 0⟩)) (k5:t' 5=.slice (some ⟨H.length+2,0,some 0⟩) x'.1.length 0) (k6:t' 6=.slice (some ⟨H.length+3,0,some g'⟩) x'.2.length 0) (k7:t' 7=.int .i64 don.length) (k8:t' 8=.int .i64 a) (k9:t' 9=.int .i64 (p+1:Nat))=>
     ih2 (4-(p+1)) t' H'
      ⟨x',p+1,g',G',rfl,by omega,by rw [List.range_succ,List.foldl_append,← hx];exact hx',by rw [hx'];exact E.trans (by omega) (O4 hp4' (by omega)),k2,k5,k6,k7,k8,k9,hH⟩ (by omega)
    have w9:IntKind.i64.wrap ((p:Int)+1)=((p+1:Nat):Int):=by rw [w64 (by omega) (by omega)];omega
    simp [h2,h5,h6,h7,h8,h9,one,e1,e2,Li _ _ _ _ _ (hI.app _) hl,hm]
    refine Qd ?_ ?_<;>intro hlk
    ·obtain ⟨_,hn,he⟩:=Wu hp4' hlk
     have hend:=fun F L=>(congrArg (fun z=>some (Value.int .i64 z,H++L)) he)▸Vi (frz:=F) w h v b (4*a+(p:Int)) (hI.app L) hlk.1.1
     have hn1:=hn.1
     have hn2:next w h a p<(x.1.length:Int):=by have:=hn.2;omega
     have hg:=rowget (xs:=x.1) hn1 hn2
     have hr1:=Et hn1 hn2
     have hra:rd x.1 a=d'-1:=by rw [E.old a ha.1 (show 0≤rd s a by omega)];exact hda
     have ha2:a<(x.1.length:Int):=by have:=ha.2;omega
     have hr2:=Et ha.1 ha2
     simp [h2,h5,h6,h7,h8,h9,one,e1,e2,hend,hn1,hn2,hr1]
     refine Qd ?_ ?_<;>intro hz
     ·have hset:=rowset (c:=d') hn1 hn2
      have ev:vst w h b a d' x p=(x.1.set (next w h a p).toNat d',x.2++[next w h a p]):=by unfold vst;rw [if_pos ⟨hlk,hz⟩]
      have wd:IntKind.i64.wrap d'=d':=w64 (by omega) (by omega)
      have ha0:=ha.1
      simp [h2,h5,h6,h7,h8,h9,hn1,hn2,ha0,ha2,hr2,hra,wd]
      refine X1 (by omega) (X1 (by omega) ?_)
      rw [hset]
      refine nxt (x.1.set (next w h a p).toNat d',x.2++[next w h a p]) _ (g+1) (G++[⟨[.int .i64 (next w h a p)],0,3⟩]) _ (by simp) ev.symm (by simp [h2]) (by simp [h5]) (by simp) (by simp [h7]) (by simp [h8]) (by simp [w9])
     ·simp [h2,h5,h6,h7,h8,h9,hz]
      have ev:x=vst w h b a d' x p:=by unfold vst;rw [if_neg (fun hh=>hz hh.2)]
      refine nxt x _ g G _ (by simp) ev (by simp [h2]) (by simp [h5]) (by simp [h6]) (by simp [h7]) (by simp [h8]) (by simp [w9])
    ·simp [h2,h5,h6,h7,h8,h9,hlk]
     have ev:x=vst w h b a d' x p:=by unfold vst;rw [if_neg (fun hh=>hlk hh.1)]
     refine nxt x _ g G _ (by simp) ev (by simp [h2]) (by simp [h5]) (by simp [h6]) (by simp [h7]) (by simp [h8]) (by simp [w9])
   ·have:p=4:=by omega
    subst this
    have e2:x=((vis w h b a d' (s,nx')).1,(don++a::rest')++(vis w h b a d' (s,nx')).2):=by
     rw [hx,hqe,hcat];exact Io (don++a::rest') s nx' |> fun hh=>by simpa [vis] using hh
    simp [h2,h5,h6,h7,h8,h9]
    have hs1:=(Tt (w:=w) (h:=h) (b:=b) (a:=a) (d:=d') (by omega) (s,nx')).sum
    simp only at hs1
    refine ih ((cnt w h).toNat-(don++[a]).length) _ _ ⟨(vis w h b a d' (s,nx')).1,don++[a],rest',(vis w h b a d' (s,nx')).2,x.2,d',g,G,rfl,?_,by simp [h2],?_,by simp [h6],?_,?_,R',i'.node,?_⟩ (by simp;omega)
    ·rw [e2];simp
    ·simp [h5,e2]
    ·simp;rw [w64 (by omega) (by omega)]
    ·rw [e2]
    ·simp;omega
 ·rw [Yv hR]
  simp
  exact ⟨_,rfl,.inl ⟨rfl,rfl⟩,by simp⟩
def pF (w h:Int) (b d:List Int) (i:Int):Nat→Int
 | 0=>-1
 | j+1=>if toRoot w h b d i (3-j) then next w h i (3-j:Nat) else pF w h b d i j
theorem wx {w h:Int} {b d:List Int} {i:Int} (h0:rd d i>0):pF w h b d i 4=par w h b d i:=by
 simp only [par,pF,if_pos h0]
theorem R3 (w h:Int) (v:Value) (b:List Int) (root:Int) (hI:IsI H v b) (hl:b.length≤1073741824) :
 wp (vcall C frz 231 [.agg #[.int .i64 w,.int .i64 h,v],.int .i64 root] H) (Made Fl.int 3 H (parents w h b root)):=by
 rw [Qb (fn:=Tryz.f231) Tryz.func231 rfl (by kernel_rfl) rfl]
 have one:=And.intro hI.one' hI.cells
 have hc:=Qh w h
 simp [one]
 refine Qc (Zd w h v b root (hI.app _) hl) ?_
 rintro vd _ ⟨L,rfl,od,nd⟩
 have od:=od.rd.isI
 simp only [List.append_assoc,List.singleton_append] at od
 have hdl:=Ue w h b root
 have dm:=fun v (hv:v∈depths w h b root)=>Jl hv
 have dv:(depths w h b root)≠[]→rootOk w h b root∧((depths w h b root).length:Int)=cnt w h:=fun hne=>by
  by_cases hR:rootOk w h b root
  ·exact ⟨hR,(W0 hR).1⟩
  ·exact absurd (Yv hR) hne
 unfold parents pars
 generalize depths w h b root=D at *
 have fD:=fun L'=>od.app L'
 simp only [List.append_assoc,List.cons_append,List.nil_append] at fD
 have lD:=fun L'=>(fD L').len (P:=Tryz.prog) (ty:=24) (by simp)
 simp [lD]
 refine Qi (fun n t H'=>∃(i g:Nat) (G:Heap) (o:List Int),n=D.length-i∧i≤D.length∧o=(List.range i).map (fun i:Nat=>par w h b D (i:Int))∧
  t 2=.pointer (some ⟨H.length,0,some 0⟩)∧t 5=vd∧t 6=.slice (some ⟨H.length+(L.length+1),0,some g⟩) o.length 0∧t 16=vd∧t 17=.int .i64 D.length∧t 18=.int .i64 i∧
  H'=H++⟨[.int .i64 w,.int .i64 h,v],0,42⟩::(L++⟨o.map (.int .i64),g,3⟩::G)) ?_ (n:=D.length) ⟨0,0,[],[],by simp⟩
 rintro n t H' ⟨i,g,G,o,rfl,hi,ho,h2,h5,h6,h16,h17,h18,rfl⟩ ih
 simp [h2,h5,h6,h16,h17,h18]
 have hol:o.length=i:=by rw [ho];simp
 refine Qd ?_ ?_<;>intro hid
 ·obtain ⟨⟨hm,hr⟩,hlc⟩:=dv (fun hh=>by rw [hh] at hid;simp at hid)
  have hid':i<D.length:=by omega
  have xD:=fun L'=>(fD L').idx (P:=Tryz.prog) (ty:=24) (e:=3) (by simp) (i:=(i:Int)) (by omega) (by omega)
  have rD:=fun L'=>((fD L').load (P:=Tryz.prog) (e:=3) (by simp) hid').trans (by rw [Qw _ _ hid',← Z0 hid'])
  simp only [Int.toNat_natCast] at xD
  have hd:=dm _ (So (s:=D) (k:=(i:Int)) (by omega) (by omega))
  have w3:IntKind.i64.wrap (rd D i-1)=rd D i-1:=w64 (by omega) (by omega)
  simp [h2,h5,h6,h16,h17,h18,xD,rD]
  refine Qi (fun n t H'=>∃(j:Nat),n=4-j∧j≤4∧(rd D i>0∨j=0)∧
   t 2=.pointer (some ⟨H.length,0,some 0⟩)∧t 5=vd∧t 6=.slice (some ⟨H.length+(L.length+1),0,some g⟩) o.length 0∧t 16=vd∧t 17=.int .i64 D.length∧t 18=.int .i64 i∧
   t 7=.int .i64 i∧t 8=.int .i64 (rd D i)∧t 9=.int .i64 (pF w h b D i j)∧t 10=.int .i64 (3-j:Int)∧
   H'=H++⟨[.int .i64 w,.int .i64 h,v],0,42⟩::(L++⟨o.map (.int .i64),g,3⟩::G)) ?_ (n:=4) ⟨0,by simp [h2,h5,h6,h16,h17,h18,pF]⟩
  clear h2 h5 h6 h16 h17 h18
  rintro n t H' ⟨j,rfl,hj,hpos,h2,h5,h6,h16,h17,h18,h7,h8,h9,h10,rfl⟩ ih2
  simp [h2,h5,h6,h16,h17,h18,h7,h8,h9,h10]
  refine Wo ?_ ?_<;>intro hj3
  ·have hj4:j<4:=by omega
   simp [h2,h5,h6,h16,h17,h18,h7,h8,h9,h10,hj3]
   refine Qd ?_ ?_<;>intro hp0
   ·have ep:(3-(j:Int))=((3-j:Nat):Int):=by omega
    have hp4:3-j<4:=by omega
    have e1:IntKind.i64.wrap (4*(i:Int))=4*i:=w64 (by omega) (by omega)
    have e2:IntKind.i64.wrap (4*(i:Int)+(3-j:Nat))=4*i+(3-j:Nat):=w64 (by omega) (by omega)
    have nxt:=fun (t':Env) (k2:t' 2=.pointer (some ⟨H.length,0,some 0⟩)) (k5:t' 5=vd) (k6:t' 6=.slice (some ⟨H.length+(L.length+1),0,some g⟩) o.length 0) (k16:t' 16=vd) (k17:t' 17=.int .i64 D.length) (k18:t' 18=.int .i64 i) (k7:t' 7=.int .i64 i) (k8:t' 8=.int .i64 (rd D i)) (k9:t' 9=.int .i64 (pF w h b D i (j+1))) (k10:t' 10=.int .i64 (IntKind.i64.wrap (((3-j:Nat):Int)-1)))=>
     ih2 (4-(j+1)) t' (H++⟨[.int .i64 w,.int .i64 h,v],0,42⟩::(L++⟨o.map (.int .i64),g,3⟩::G)) ⟨j+1,rfl,by omega,.inl hp0,k2,k5,k6,k16,k17,k18,k7,k8,k9,by rw [k10,w64 (by omega) (by omega)];congr 1;omega,rfl⟩ (by omega)
    rw [ep] at h10
    simp [h2,h5,h6,h16,h17,h18,h7,h8,h9,h10,e1,e2,one,Li _ _ _ _ _ (hI.app _) hl,hm]
    refine Wo ?_ ?_<;>intro hlk
    ·obtain ⟨_,hn,he⟩:=Wu hp4 hlk
     have hend:=fun F L=>(congrArg (fun z=>some (Value.int .i64 z,H++L)) he)▸Vi (frz:=F) w h v b (4*(i:Int)+(3-j:Nat)) (hI.app L) hlk.1.1
     have xE:=fun L'=>(fD L').idx (P:=Tryz.prog) (ty:=24) (e:=3) (by simp) hn.1 (by have:=hn.2;omega)
     have rE:=fun L'=>((fD L').load (P:=Tryz.prog) (e:=3) (by simp) (j:=(next w h i (3-j:Nat)).toNat) (by have:=hn.1;have:=hn.2;omega))
     have rE':D.getD (next w h i (3-j:Nat)).toNat 0=rd D (next w h i (3-j:Nat)):=rfl
     rw [rE'] at rE
     simp [h2,h5,h6,h16,h17,h18,h7,h8,h9,h10,e1,e2,one,hlk,hend,xE,rE,w3]
     refine Qd ?_ ?_<;>intro hdd
     ·simp [h2,h5,h6,h16,h17,h18,h7,h8,h9,h10,e1,e2,one,hlk,hend]
      refine nxt _ (by simp [h2]) (by simp [h5]) (by simp [h6]) (by simp [h16]) (by simp [h17]) (by simp [h18]) (by simp [h7]) (by simp [h8]) ?_ (by simp [h10])
      simp [pF,toRoot,hlk,hdd]
     ·simp [h2,h5,h6,h16,h17,h18,h7,h8,h9,h10,hdd]
      refine nxt _ (by simp [h2]) (by simp [h5]) (by simp [h6]) (by simp [h16]) (by simp [h17]) (by simp [h18]) (by simp [h7]) (by simp [h8]) ?_ (by simp [h10])
      simp [pF,toRoot,hdd,h9]
    ·simp [h2,h5,h6,h16,h17,h18,h7,h8,h9,h10,hlk]
     refine nxt _ (by simp [h2]) (by simp [h5]) (by simp [h6]) (by simp [h16]) (by simp [h17]) (by simp [h18]) (by simp [h7]) (by simp [h8]) ?_ (by simp [h10])
     simp [pF,toRoot,hlk,h9]
   ·have hj0:j=0:=by omega
    subst hj0
    have he:pF w h b D i 0=par w h b D i:=by unfold par;rw [if_neg hp0];rfl
    rw [he] at h9
    simp [h2,h5,h6,h16,h17,h18,h7,h8,h9,h10,hp0]
    refine X1 (by omega) ?_
    refine ih (D.length-(i+1)) _ _ ⟨i+1,g+1,G++[⟨[.int .i64 (par w h b D i)],0,3⟩],o++[par w h b D i],rfl,by omega,by rw [List.range_succ,List.map_append,← ho];rfl,by simp [h2],by simp [h5],by simp,by simp [h16],by simp [h17],?_,by simp⟩ (by omega)
    simp;rw [w64 (by omega) (by omega)]
  ·have hj4:j=4:=by omega
   subst hj4
   have he:pF w h b D i 4=par w h b D i:=wx (by omega)
   rw [he] at h9
   simp [h2,h5,h6,h16,h17,h18,h7,h8,h9,h10]
   refine X1 (by omega) ?_
   refine ih (D.length-(i+1)) _ _ ⟨i+1,g+1,G++[⟨[.int .i64 (par w h b D i)],0,3⟩],o++[par w h b D i],rfl,by omega,by rw [List.range_succ,List.map_append,← ho];rfl,by simp [h2],by simp [h5],by simp,by simp [h16],by simp [h17],?_,by simp⟩ (by omega)
   simp;rw [w64 (by omega) (by omega)]
 ·have:i=D.length:=by omega
  subst this
  simp [h2,h5,h6,h16,h17,h18]
  rw [← ho]
  exact ⟨_,rfl,Ow.new (k:=L.length+1) (by simp) (Q0 _).symm (by simp) rfl,by simp⟩
theorem Ac (a b:Int):(if a<b then b else a)=max a b:=by omega
theorem Zy {xs:List Int} {a:Int} {i:Nat} (h:i<xs.length):(xs.take (i+1)).foldl max a=max ((xs.take i).foldl max a) xs[i]:=by
 rw [List.take_succ_eq_append_getElem h,List.foldl_append];rfl
theorem kg (v:Value) (xs:List Int) (hI:IsI H v xs) (h0:0<xs.length) (hl:xs.length≤1073741824) (hm:∀x∈xs,-1≤x) :
 vcall C frz 266 [v] H=some (.int .i64 (xs.foldl max (-1)),H):=by
 rw [Qb (fn:=Tryz.f266) Tryz.func266 rfl (by kernel_rfl) rfl]
 have q0:=hI.idx (P:=Tryz.prog) (ty:=24) (e:=3) (by simp) (i:=0) (by omega) (by omega)
 have r0:=(hI.load (P:=Tryz.prog) (e:=3) (by simp) h0).trans (by rw [Qw _ _ h0])
 have n0:¬(xs.length:Int)<1:=by omega
 have e0:xs≠[]:=fun hh=>by rw [hh] at h0;simp at h0
 simp [hI.len,e0,n0,q0,r0]
 refine Xf (fun n t H'=>∃i:Nat,n=xs.length-i∧1≤i∧i≤xs.length∧t 0=v∧t 3=.int .i64 ((xs.take i).foldl max (-1))∧t 4=.int .i64 i∧H'=H) ?_ (n:=xs.length-1) ⟨1,rfl,by omega,by omega,by simp,?_,by simp,rfl⟩
 ·rintro n t H' ⟨i,rfl,h1,hi,k0,k3,k4,rfl⟩ ih
  simp [k0,k3,k4,hI.len]
  refine Qp _ ?_ ?_<;>intro h5
  ·have q1:=hI.idx (P:=Tryz.prog) (ty:=24) (e:=3) (by simp) (i:=(i:Int)) (by omega) (by omega)
   have r1:=(hI.load (P:=Tryz.prog) (e:=3) (by simp) h5).trans (by rw [Qw _ _ h5])
   simp only [Int.toNat_natCast] at q1
   simp [k0,k3,k4,q1,r1]
   refine ih (xs.length-(i+1)) _ _ ⟨i+1,rfl,by omega,by omega,by simp [k0],?_,?_,rfl⟩ (by omega)
   ·simp [Zy h5,Ac]
   ·simp;rw [w64 (by omega) (by omega)]
  ·have:i=xs.length:=by omega
   subst this
   simp [k0,k3,k4]
 ·have:=hm _ (List.getElem_mem h0)
  rw [show (1:Nat)=0+1 from rfl,Zy h0]
  simp;omega
theorem Ru (w h:Int) (v:Value) (b:List Int) (root:Int) (hI:IsI H v b) (hl:b.length≤1073741824) :
 vcall C frz 234 [.agg #[.int .i64 w,.int .i64 h,v],.int .i64 root] H=some (.int .i64 (depthOf w h b root),H):=by
 refine wp.exact (by simp) ?_ rfl
 rw [Qb (fn:=Tryz.f234) Tryz.func234 rfl (by kernel_rfl) rfl]
 have one:=And.intro hI.one' hI.cells
 simp [one,Lk _ _ _ _ _ (hI.app _) hl,-Bool.decide_and]
 refine Qd ?_ ?_<;>intro hR
 ·simp [one]
  refine Qc (Zd w h v b root (hI.app _) hl) ?_
  rintro vd _ ⟨L,rfl,od,nd⟩
  have hc:=Qh w h
  have i:=W0 hR
  have hn:=Yl hR.2
  have hp:=hR.2.2
  have hq:=hR.2.1
  have od:=od.rd.isI
  simp only [List.append_assoc,List.singleton_append] at od
  simp [kg _ _ od (by omega) (by omega) (fun x hx=>(i.2 x hx).1),depthOf]
 ·have hd:depths w h b root=[]:=Yv hR
  simp [depthOf,hd]
theorem Xp (w h:Int) (v:Value) (b:List Int) (hI:IsI H v b) (hl:b.length≤1073741824) :
 vcall C frz 230 [.agg #[.int .i64 w,.int .i64 h,v]] H=some (.bool (decide (conn w h b)),H):=by
 refine wp.exact (by simp) ?_ rfl
 rw [Qb (fn:=Tryz.f230) Tryz.func230 rfl (by kernel_rfl) rfl]
 have one:=And.intro hI.one' hI.cells
 simp [one,Yt _ _ _ _ (hI.app _) hl]
 refine Wo ?_ ?_<;>intro hm
 ·simp [one,hm]
  refine Qc (Zd w h v b 0 (hI.app _) hl) ?_
  rintro vd _ ⟨L,rfl,od,nd⟩
  have hl16:=Ue w h b 0
  have od:=od.rd.isI
  simp only [List.append_assoc,List.singleton_append] at od
  simp [hm,Y6 _ _ _ od (by omega),conn]
 ·simp [conn,hm]
theorem Kr (w h:Int) (v:Value) (b:List Int) (hI:IsI H v b) (hl:b.length≤1073741824) :
 vcall C frz 211 [.agg #[.int .i64 w,.int .i64 h,v]] H=some (.int .i64 (bestRoot w h b),H):=by
 refine wp.exact (by simp) ?_ rfl
 rw [Qb (fn:=Tryz.f211) Tryz.func211 rfl (by kernel_rfl) rfl]
 have one:=And.intro hI.one' hI.cells
 have hc:=Qh w h
 simp [one,Xp _ _ _ _ (hI.app _) hl]
 refine Qd ?_ ?_<;>intro hcn
 ·simp [one,Wa]
  refine Qi (fun n t H'=>∃i:Nat,n=(cnt w h).toNat-i∧i≤(cnt w h).toNat∧t 1=.pointer (some ⟨H.length,0,some 0⟩)∧t 3=.int .i64 ((List.range i).foldl (better w h b) 0)∧t 10=.int .i64 (cnt w h)∧t 11=.int .i64 i∧H'=H++[⟨[.int .i64 w,.int .i64 h,v],0,42⟩]) ?_ (n:=(cnt w h).toNat) ⟨0,by simp⟩
  rintro n t H' ⟨i,rfl,hi,k1,k3,k10,k11,rfl⟩ ih
  simp [k1,k3,k10,k11]
  refine Qd ?_ ?_<;>intro h5
  ·simp [k1,k3,k10,k11]
   rw [Qf (h:=by kernel_rfl)]
   simp [k1,k3,k10,k11,one,Ru _ _ _ _ _ (hI.app _) hl]
   have e:(List.range (i+1)).foldl (better w h b) 0=better w h b ((List.range i).foldl (better w h b) 0) i:=by rw [List.range_succ,List.foldl_append];rfl
   refine Qd ?_ ?_<;>intro h6
   ·simp [k1,k3,k10,k11,h6]
    refine ih ((cnt w h).toNat-(i+1)) _ _ ⟨i+1,rfl,by omega,by simp [k1],?_,by simp [k10],?_,rfl⟩ (by omega)
    ·simp [e,better,h6]
    ·simp;rw [w64 (by omega) (by omega)]
   ·simp [k1,k3,k10,k11,h6]
    refine ih ((cnt w h).toNat-(i+1)) _ _ ⟨i+1,rfl,by omega,by simp [k1],?_,by simp [k10],?_,rfl⟩ (by omega)
    ·simp [e,better,h6,k3]
    ·simp;rw [w64 (by omega) (by omega)]
  ·have:i=(cnt w h).toNat:=by omega
   subst this
   simp [k1,k3,k10,k11,bestRoot,hcn]
 ·simp [bestRoot,hcn]
end Go.Proofs.YtlhaeingdonaeaaGreat.V
set_option linter.all false
namespace Go.Proofs.YtlhaeingdonaeaaGreat.V
open Go Go.VM Go.Proofs
variable {frz:Nat} {H:Heap}
end Go.Proofs.YtlhaeingdonaeaaGreat.V
set_option linter.all false
namespace Go.Proofs.YtlhaeingdonaeaaGreat.V
open Go Go.VM Go.Proofs
set_option maxRecDepth 10000
variable {frz:Nat} {H:Heap}
def firstPort (w h a u:Int):Int:=if next w h a 0=u then 0 else if next w h a 1=u then 1 else if next w h a 2=u then 2 else if next w h a 3=u then 3 else 4
theorem P8 {w h a u:Int} {p:Nat} (hp:p<4) (h1:next w h a p=u) (h2:∀q<p,next w h a (q:Nat)≠u):firstPort w h a u=p:=by
 unfold firstPort
 have:p=0∨p=1∨p=2∨p=3:=by omega
 have g:∀q:Nat,q<p→∀z:Int,z=q→¬next w h a z=u:=fun q hq z hz=>by rw [hz];exact h2 q hq
 rcases this with rfl|rfl|rfl|rfl
 ·rw [if_pos (by exact_mod_cast h1)];rfl
 ·rw [if_neg (g 0 (by omega) 0 rfl),if_pos (by exact_mod_cast h1)];rfl
 ·rw [if_neg (g 0 (by omega) 0 rfl),if_neg (g 1 (by omega) 1 rfl),if_pos (by exact_mod_cast h1)];rfl
 ·rw [if_neg (g 0 (by omega) 0 rfl),if_neg (g 1 (by omega) 1 rfl),if_neg (g 2 (by omega) 2 rfl),if_pos (by exact_mod_cast h1)];rfl
theorem Dr (w h a u:Int) (p:Nat) (hp:p<4) (h1:next w h a p=u) :
 vcall C frz 232 [.agg #[.int .i64 w,.int .i64 h],.int .i64 a,.int .i64 u] H=some (.int .i64 (firstPort w h a u),H):=by
 rw [Qb (fn:=Tryz.f232) Tryz.func232 rfl (by kernel_rfl) rfl]
 simp
 refine Xf (fun n t H'=>∃k:Nat,n=p-k∧k≤p∧t 1=.int .i64 a∧t 2=.int .i64 u∧t 3=.pointer (some ⟨H.length,0,some 0⟩)∧t 7=.int .i64 k∧H'=H++[⟨[.int .i64 w,.int .i64 h],0,40⟩]∧∀q<k,next w h a (q:Nat)≠u) ?_ (n:=p) ⟨0,by simp⟩
 rintro n t H' ⟨k,rfl,hk,k1,k2,k3,k7,rfl,hq⟩ ih
 simp [k1,k2,k3,k7,Um]
 refine Qp _ ?_ ?_<;>intro h5
 ·simp [k1,k2,k3,k7]
  exact (P8 (by omega) h5 hq).symm
 ·have hkp:k≠p:=fun hh=>h5 (by rw [hh];exact h1)
  simp [k1,k2,k3,k7,h5]
  refine ih (p-(k+1)) _ _ ⟨k+1,rfl,by omega,by simp [k1],by simp [k2],by simp [k3],?_,rfl,fun q hq'=>?_⟩ (by omega)
  ·simp;rw [w64 (by omega) (by omega)]
  ·by_cases hqk:q<k
   ·exact hq q hqk
   ·have:q=k:=by omega
    rw [this];exact h5
noncomputable def treePort (w h:Int) (P:List Int) (n i:Nat):Int:=if i/n=i%n then 4 else firstPort w h (i/n:Nat) ((treeNodes P (i/n:Nat) (i%n:Nat)).getD 1 0)
noncomputable def treeTab (w h:Int) (b:List Int) (r:Int):List Int:=(List.range ((cnt w h).toNat*(cnt w h).toNat)).map (treePort w h (parents w h b r) (cnt w h).toNat)
def treeOk (w h:Int) (b:List Int) (r:Int):Prop:=conn w h b∧isN w h r
noncomputable instance (w h:Int) (b:List Int) (r:Int):Decidable (treeOk w h b r):=inferInstanceAs (Decidable (_∧_))
noncomputable def treeTable (w h:Int) (b:List Int) (r:Int):List Int:=if treeOk w h b r then treeTab w h b r else []
theorem Mt (w h:Int) (b:List Int) (r:Int):(treeTab w h b r).length≤256:=by
 have:=Qh w h
 unfold treeTab
 rw [List.length_map,List.length_range]
 have:(cnt w h).toNat*(cnt w h).toNat≤16*16:=Nat.mul_le_mul (by omega) (by omega)
 omega
theorem R2 (w h:Int) (b:List Int) (r:Int):(treeTable w h b r).length≤256:=by
 unfold treeTable;split
 ·exact Mt w h b r
 ·simp
theorem M5 (w h:Int) (v:Value) (b:List Int) (root:Int) (hI:IsI H v b) (hl:b.length≤1073741824) :
 wp (vcall C frz 210 [.agg #[.int .i64 w,.int .i64 h,v],.int .i64 root] H) (Made2 dTable H (treeTable w h b root) (decide (treeOk w h b root))):=by
 rw [Qb (fn:=Tryz.f210) Tryz.func210 rfl (by kernel_rfl) rfl]
 have one:=And.intro hI.one' hI.cells
 have hc:=Qh w h
 have no:∀(L:Heap),¬treeOk w h b root→Made2 dTable H (treeTable w h b root) (decide (treeOk w h b root)) (.tuple #[.agg #[.slice none 0 0],.bool false]) (H++L):=fun L hh=>by
  refine ⟨.agg #[.slice none 0 0],by simp [hh],.slice none 0 0,rfl,⟨.inl ⟨rfl,by simp [treeTable,hh]⟩,?_⟩,Chg.app _,by simp [dTable],by simp [dTable]⟩
  simp [treeTable,hh]
 by_cases hcn:conn w h b
 ·by_cases hr:isN w h root
  ·have hok:treeOk w h b root:=⟨hcn,hr⟩
   simp [one,Xp _ _ _ _ (hI.app _) hl,hcn,Wp,hr]
   refine Qc (R3 w h v b root (hI.app _) hl) ?_
   rintro vp H1 ⟨L,hH1,op,np⟩
   have hpl:=N2 hcn hr
   have tn:=fun {a c:Int} (ha:isN w h a) (hc:isN w h c) (hne:a≠c)=>Dn hcn hr ha hc hne
   have ett:treeTable w h b root=(List.range ((cnt w h).toNat*(cnt w h).toNat)).map (treePort w h (parents w h b root) (cnt w h).toNat):=if_pos hok
   have hcc:(cnt w h).toNat≤16:=by omega
   have hlt2:(cnt w h).toNat*(cnt w h).toNat≤256:=Nat.mul_le_mul hcc hcc
   rw [ett]
   generalize parents w h b root=P at *
   have c1:Chg H H1 []:=by rw [hH1];exact (Chg.app []).trans (Chg.app [])
   have b2:H1[H.length]? = some ⟨[.int .i64 w,.int .i64 h,v],0,42⟩:=by rw [hH1];simp
   have b4:H1[H.length+1]? = some ⟨[.slice none 0 0],0,43⟩:=by rw [hH1];simp
   rw [← hH1] at op
   simp at np
   have lp:=op.lt
   have l1:H.length+2≤H1.length:=by rw [hH1];simp
   clear hH1 L
   have lp1:=op.lt
   generalize hB6:H1.length=B6 at *
   have hPl:P.length=(cnt w h).toNat:=by omega
   simp [VM.look,b2,one,hB6,(op.app (L:=[⟨[.slice none 0 0],0,43⟩])).rd.len]
   refine X1 (by omega) ?_
   refine Qi (fun n t H'=>∃(i:Nat) (vo:Value) (o:List Int),n=(cnt w h).toNat-i∧i≤(cnt w h).toNat∧o=(List.range (i*(cnt w h).toNat)).map (treePort w h P (cnt w h).toNat)∧
   t 2=.pointer (some ⟨H.length,0,some 0⟩)∧t 4=.pointer (some ⟨H.length+1,0,some 0⟩)∧t 6=.pointer (some ⟨B6,0,some 0⟩)∧t 7=vp∧t 27=.int .i64 P.length∧t 28=.int .i64 i∧
   Chg H H' []∧H'[H.length]? = some ⟨[.int .i64 w,.int .i64 h,v],0,42⟩∧H'[H.length+1]? = some ⟨[.slice none 0 0],0,43⟩∧H'[B6]? = some ⟨[vo],0,43⟩∧
   Ow Fl.int 3 H' vp P∧Ow Fl.int 3 H' vo o∧(∀i∈ids vo,B6<i)) ?_ (n:=(cnt w h).toNat)
    ⟨0,.slice none 0 0,[],by simp,by omega,by simp,by simp,by simp,by simp,by simp,by simp,by simp,c1.trans (Chg.app []),Qo b2 _,Qo b4 _,by rw [← hB6];simp,op.app,.inl ⟨rfl,rfl⟩,by simp⟩
   clear b2 b4 op
   rintro n t H' ⟨i,vo,o,rfl,hi,ho,h2,h4,h6,h7,h27,h28,c0,b2,b4,b6,op,oo,no⟩ ih
   simp [h2,h4,h6,h7,h27,h28]
   refine Qd ?_ ?_<;>intro hin
   ·have hin':i<(cnt w h).toNat:=by omega
    simp [h2,h4,h6,h7,h27,h28,op.rd.len]
    refine Qi (fun n t H'=>∃(j:Nat) (vo:Value) (o:List Int),n=(cnt w h).toNat-j∧j≤(cnt w h).toNat∧o=(List.range (i*(cnt w h).toNat+j)).map (treePort w h P (cnt w h).toNat)∧
     t 2=.pointer (some ⟨H.length,0,some 0⟩)∧t 4=.pointer (some ⟨H.length+1,0,some 0⟩)∧t 6=.pointer (some ⟨B6,0,some 0⟩)∧t 7=vp∧t 27=.int .i64 P.length∧t 28=.int .i64 i∧
     t 8=.int .i64 i∧t 32=.int .i64 P.length∧t 33=.int .i64 j∧
     Chg H H' []∧H'[H.length]? = some ⟨[.int .i64 w,.int .i64 h,v],0,42⟩∧H'[H.length+1]? = some ⟨[.slice none 0 0],0,43⟩∧H'[B6]? = some ⟨[vo],0,43⟩∧
   Ow Fl.int 3 H' vp P∧Ow Fl.int 3 H' vo o∧(∀i∈ids vo,B6<i)) ?_ (n:=(cnt w h).toNat) ⟨0,vo,o,by simp,by omega,by simpa using ho,by simp [h2],by simp [h4],by simp [h6],by simp [h7],by simp [h27],by simp [h28],by simp,by simp,by simp,c0,b2,b4,b6,op,oo,no⟩
    clear h2 h4 h6 h7 h27 h28 c0 b2 b4 b6 op oo no ho
    rintro n t H' ⟨j,vo,o,rfl,hj,ho,h2,h4,h6,h7,h27,h28,h8,h32,h33,c0,b2,b4,b6,op,oo,no⟩ ih2
    simp [h2,h4,h6,h7,h27,h28,h8,h32,h33]
    refine Qd ?_ ?_<;>intro hjn
    ·have hjn':j<(cnt w h).toNat:=by omega
     have hol:o.length=i*(cnt w h).toNat+j:=by rw [ho];simp
     have hsm:i*(cnt w h).toNat+j<(cnt w h).toNat*(cnt w h).toNat:=by
      have:=Nat.mul_le_mul_right (cnt w h).toNat (show i+1≤(cnt w h).toNat by omega)
      rw [Nat.succ_mul] at this;omega
     have hdv:(i*(cnt w h).toNat+j)/(cnt w h).toNat=i:=by rw [Nat.mul_comm,Nat.mul_add_div (by omega),Nat.div_eq_of_lt hjn'];omega
     have hmd:(i*(cnt w h).toNat+j)%(cnt w h).toNat=j:=by rw [Nat.mul_comm,Nat.mul_add_mod,Nat.mod_eq_of_lt hjn']
     simp [h2,h4,h6,h7,h27,h28,h8,h32,h33]
     refine Qd ?_ ?_<;>intro hij
     ·have hx:treePort w h P (cnt w h).toNat (i*(cnt w h).toNat+j)=4:=by unfold treePort;rw [hdv,hmd,if_pos (by omega)]
      simp [VM.look,b6,h2,h4,h6,h7,h27,h28,h8,h32,h33]
      obtain ⟨vo',H3,e3,oo3,c3,n3⟩:=oo.push (P:=Tryz.prog) (frz:=H.length) (ty:=24) (a:=4) (by simp) rfl (by omega) (fun i hi=>by have:=no i hi;omega)
      simp only [Fl.int_f] at e3
      have lc:=Qt b6
      have b2:=Qa b2 c3 (fun hh=>by have:=no _ hh;omega)
      have b4:=Qa b4 c3 (fun hh=>by have:=no _ hh;omega)
      have b6:=Qa b6 c3 (fun hh=>by have:=no _ hh;omega)
      have op:=op.chg c3 (fun i hi hh=>by have:=lp i hi;have:=no _ hh;omega)
      have no3:∀i∈ids vo',B6<i:=fun i hi=>by rcases n3 i hi with h|h;exact no i h;omega
      have one3:=And.intro oo3.rd.one' oo3.rd.cells
      simp [e3,VM.look,b6,one3,h2,h4,h6,h7,h27,h28,h8,h32,h33]
      refine X1 (by omega) ?_
      refine ih2 ((cnt w h).toNat-(j+1)) _ _ ⟨j+1,vo',o++[4],rfl,by omega,?_,by simp [h2],by simp [h4],by simp [h6],by simp [h7],by simp [h27],by simp [h28],by simp [h8],by simp [h32],?_,
       (c0.trans' c3 (fun i hi=>.inr (by have:=no i hi;omega))).trans' (Qe _ _) (fun i hi=>.inr (by simp at hi;omega)),Qa b2 (Qe _ _) (by simp;omega),Qa b4 (Qe _ _) (by simp;omega),Qg b6,
       op.chg (Qe _ _) (fun i hi hh=>by have:=lp i hi;simp at hh;omega),oo3.chg (Qe _ _) (fun i hi hh=>by have:=no3 i hi;simp at hh;omega),no3⟩ (by omega)
      ·rw [← Nat.add_assoc,List.range_succ,List.map_append,← ho];simp [hx]
      ·simp;rw [w64 (by omega) (by omega)]
     ·rw [Qf (h:=by kernel_rfl)]
      simp [h2,h4,h6,h7,h27,h28,h8,h32,h33,VM.look,b2]
      obtain ⟨p,hp,htl,htg,hn0⟩:=tn (Wn hin') (Wn hjn') (by omega:(i:Int)≠(j:Int))
      refine Qc (Lm vp P i j op.rd.isI (by omega)) ?_
      rintro vt H2 ⟨L2,hH2,ot,nt⟩
      have c2:Chg H' H2 []:=by rw [hH2];exact Chg.app []
      rw [← hH2] at ot
      clear hH2 L2
      have b2:=Qa b2 c2 (by simp)
      have b4:=Qa b4 c2 (by simp)
      have b6:=Qa b6 c2 (by simp)
      have op:=op.chg c2 (by simp)
      have oo:=oo.chg c2 (by simp)
      have c0:=c0.trans c2
      have q1:=ot.rd.isI.idx (P:=Tryz.prog) (ty:=24) (e:=3) (by simp) (i:=1) (by omega) (by omega)
      have q2:=ot.rd.isI.load (P:=Tryz.prog) (e:=3) (by simp) htl
      have etn:(treeNodes P (i:Int) (j:Int)).getD 1 0=next w h i p:=by rw [List.getD_eq_getElem?_getD,htg];rfl
      have hpt:=fun F L=>Dr (frz:=F) (H:=L) w h i _ p hp etn.symm
      have hx:treePort w h P (cnt w h).toNat (i*(cnt w h).toNat+j)=firstPort w h i ((treeNodes P i j).getD 1 0):=by unfold treePort;rw [hdv,hmd,if_neg (by omega)]
      have q1':vindexAddr Tryz.prog H2 24 vt (.int .i64 1)=some (elp vt 1):=q1
      generalize (treeNodes P (i:Int) (j:Int)).getD 1 0=u at *
      generalize firstPort w h (i:Int) u=y at *
      simp [q1',q2,hpt,h2,h4,h6,h7,h27,h28,h8,h32,h33]
      simp [VM.look,b6,h2,h4,h6,h7,h27,h28,h8,h32,h33]
      obtain ⟨vo',H3,e3,oo3,c3,n3⟩:=oo.push (P:=Tryz.prog) (frz:=H.length) (ty:=24) (a:=y) (by simp) rfl (by omega) (fun i hi=>by have:=no i hi;omega)
      simp only [Fl.int_f] at e3
      have lc:=Qt b6
      have b2:=Qa b2 c3 (fun hh=>by have:=no _ hh;omega)
      have b4:=Qa b4 c3 (fun hh=>by have:=no _ hh;omega)
      have b6:=Qa b6 c3 (fun hh=>by have:=no _ hh;omega)
      have op:=op.chg c3 (fun i hi hh=>by have:=lp i hi;have:=no _ hh;omega)
      have no3:∀i∈ids vo',B6<i:=fun i hi=>by rcases n3 i hi with h|h;exact no i h;omega
      have one3:=And.intro oo3.rd.one' oo3.rd.cells
      simp [e3,VM.look,b6,one3,h2,h4,h6,h7,h27,h28,h8,h32,h33]
      refine X1 (by omega) ?_
      refine ih2 ((cnt w h).toNat-(j+1)) _ _ ⟨j+1,vo',o++[y],rfl,by omega,?_,by simp [h2],by simp [h4],by simp [h6],by simp [h7],by simp [h27],by simp [h28],by simp [h8],by simp [h32],?_,
       (c0.trans' c3 (fun i hi=>.inr (by have:=no i hi;omega))).trans' (Qe _ _) (fun i hi=>.inr (by simp at hi;omega)),Qa b2 (Qe _ _) (by simp;omega),Qa b4 (Qe _ _) (by simp;omega),Qg b6,
       op.chg (Qe _ _) (fun i hi hh=>by have:=lp i hi;simp at hh;omega),oo3.chg (Qe _ _) (fun i hi hh=>by have:=no3 i hi;simp at hh;omega),no3⟩ (by omega)
      ·rw [← Nat.add_assoc,List.range_succ,List.map_append,← ho];simp [hx]
      ·simp;rw [w64 (by omega) (by omega)]
    ·have hjn2:j=(cnt w h).toNat:=by omega
     have hjn':¬j<P.length:=by omega
     simp [h2,h4,h6,h7,h27,h28,h8,h32,h33]
     refine ih ((cnt w h).toNat-(i+1)) _ _ ⟨i+1,vo,o,rfl,by omega,by rw [ho,hjn2,Nat.succ_mul],by simp [h2],by simp [h4],by simp [h6],by simp [h7],by simp [h27],?_,c0,b2,b4,b6,op,oo,no⟩ (by omega)
     simp;rw [w64 (by omega) (by omega)]
   ·have hi2:i=(cnt w h).toNat:=by omega
    have l4:=Qt b4
    rw [hi2] at ho
    rw [ho] at oo
    have l5:∀i∈ids vo,i∉[H.length+1]:=fun i hi hh=>by have:=no i hi;simp at hh;omega
    have g4:=Qg (r':=⟨[vo],0,43⟩) b4
    simp [h2,h4,h6,h7,h27,h28,VM.look,b4,b6,oo.rd.one',oo.rd.cells,g4]
    refine ⟨.agg #[vo],by simp [hok],vo,rfl,⟨oo.chg (Qe _ _) l5,by simp;omega⟩,c0.trans' (Qe _ _) (fun i hi=>.inr (by simp at hi;omega)),fun i hi=>by have:=no i hi;omega,Qx vo⟩
  ·simp [one,Xp _ _ _ _ (hI.app _) hl,hcn,Wp,hr]
   exact no _ (fun hh=>hr hh.2)
 ·simp [one,Xp _ _ _ _ (hI.app _) hl,hcn]
  exact no _ (fun hh=>hcn hh.1)
noncomputable def repair (w h:Int) (b:List Int):ClassesD:=(treeTable w h b (bestRoot w h b),treeTable w h b (bestRoot w h b))
noncomputable def repairOk (w h:Int) (b:List Int):Bool:=decide (treeOk w h b (bestRoot w h b))
theorem Ew (w h:Int) (v:Value) (b:List Int) (hI:IsI H v b) (hl:b.length≤1073741824) :
 wp (vcall C frz 180 [.agg #[.int .i64 w,.int .i64 h,v]] H) (Made2 dClasses H (repair w h b) (repairOk w h b)):=by
 rw [Qb (fn:=Tryz.f180) Tryz.func180 rfl (by kernel_rfl) rfl]
 have one:=And.intro hI.one' hI.cells
 simp [one]
 rw [Qf (h:=by kernel_rfl)]
 simp [one,Kr _ _ _ _ (hI.app _) hl]
 refine Qc (M5 w h v b (bestRoot w h b) (hI.app _) hl) ?_
 rintro _ H1 ⟨_,rfl,vt,rfl,ot,c1,nt,dt⟩
 have b1:H1[H.length+1]? = some ⟨[.slice none 0 0,.slice none 0 0],0,45⟩:=Qa (by simp) c1 (by simp)
 have l1:=Qt b1
 simp at nt
 have cH:Chg H H1 []:=(Chg.app []).trans c1
 have hle:=R2 w h b (bestRoot w h b)
 have hne:¬treeOk w h b (bestRoot w h b)→treeTable w h b (bestRoot w h b)=[]:=fun hh=>if_neg hh
 unfold repair repairOk
 generalize treeTable w h b (bestRoot w h b)=tt at *
 have one1:=Wm ot
 simp [Wl,one1,VM.look,b1]
 by_cases hok:treeOk w h b (bestRoot w h b)
 ·have l0:=cH.1
  simp [hok,l0]
  rw [Qf (h:=by kernel_rfl)]
  simp [one1,l0]
  refine Qc (Zm vt tt (ot.1.rd.isI.app _) (by omega)) ?_
  rintro _ H2 ⟨vu,rfl,ou,c2,nu,du⟩
  have b2:H2[H.length+1]? = some ⟨[.slice none 0 0,.slice none 0 0],0,45⟩:=Qa (Qo b1 _) c2 (by simp)
  have ot2:=Dt.chg0 (T:=dIntS) (Dt.app (T:=dIntS) ot) c2
  have lt1:=dIntS.lt ot
  simp at nu
  have one2:=Wm ou
  have g4:=Qg (r':=⟨[vt,vu],0,45⟩) b2
  simp [Wl,one1,one2,VM.look,b2,g4]
  have h1:∀i∈VM.ids vt,i∉[H.length+1]:=fun i hi hh=>by have:=nt i hi;simp at hh;omega
  have h2:∀i∈VM.ids vu,i∉[H.length+1]:=fun i hi hh=>by have:=nu i hi;simp at hh;omega
  refine ⟨.agg #[vt,vu],by simp [hok],(vt,vu),rfl,⟨Dt.chg (T:=dIntS) ot2 (Qe _ _) h1,Dt.chg (T:=dIntS) ou (Qe _ _) h2⟩,((cH.trans (Chg.app [])).trans c2).trans' (Qe _ _) (fun i hi=>.inr (by simp at hi;omega)),fun i hi=>?_,List.nodup_append.2 ⟨Qx vt,Qx vu,fun i hi j hj hh=>?_⟩⟩
  ·rcases List.mem_append.1 hi with hi|hi
   ·have:=nt i hi;omega
   ·have:=nu i hi;omega
  ·have:=lt1 i hi;have:=nu j hj;omega
 ·obtain rfl:=hne hok
  have l0:=cH.1
  have g4:=Qg (r':=⟨[.slice none 0 0,.slice none 0 0],0,45⟩) (Qo b1 [⟨[vt],0,43⟩])
  have b1':=Qo b1 [⟨[vt],0,43⟩]
  simp [hok,l0,VM.look,b1,b1',g4]
  refine ⟨.agg #[.slice none 0 0,.slice none 0 0],by simp [hok],(.slice none 0 0,.slice none 0 0),rfl,⟨⟨.inl ⟨rfl,rfl⟩,by simp⟩,.inl ⟨rfl,rfl⟩,by simp⟩,(cH.trans (Chg.app [])).trans' (Qe _ _) (fun i hi=>.inr (by simp at hi;omega)),by simp [dClasses],by simp [dClasses]⟩
end Go.Proofs.YtlhaeingdonaeaaGreat.V
set_option linter.all false
namespace Go.Proofs.YtlhaeingdonaeaaGreat.V
open Go Go.VM Go.Proofs
variable {frz:Nat} {H:Heap} {v:Value} {w h:Int} {b:List Int} {root:Int}
theorem E5 (o:dMesh.Ow H v (w,h,b)):wp (vcall C frz 180 [dMesh.val v (w,h,b)] H) (Made2 dClasses H (repair w h b) (repairOk w h b)):=Ew w h v b o.1.rd.isI o.2
end Go.Proofs.YtlhaeingdonaeaaGreat.V
set_option linter.all false
namespace Go.Proofs.YtlhaeingdonaeaaGreat.V
open Go Go.VM Go.Proofs
set_option maxRecDepth 10000
variable {frz:Nat} {H:Heap}
def broke (b:List Int) (c:Int):List Int:=isort (b++[c])
def breakOk (w h:Int) (b:List Int) (c:Int):Prop:=meshOk w h b∧has w h b c
instance (w h:Int) (b:List Int) (c:Int):Decidable (breakOk w h b c):=inferInstanceAs (Decidable (_∧_))
def withBroken (w h:Int) (b:List Int) (c:Int):List Int:=if breakOk w h b c then broke b c else b
theorem Cr {w h:Int} {b:List Int} (hm:meshOk w h b):b.length≤64:=by
 obtain ⟨_,h2,h3⟩:=(K8 w h b).1 hm
 have hc:=Qh w h
 refine Kw h3 (fun c hc'=>?_)
 have:=(h2 c hc').1
 omega
theorem O6 (w h:Int) (v:Value) (b:List Int) (c:Int) (hI:IsI H v b) (hl:b.length≤1073741824) :
 wp (vcall C frz 179 [.agg #[.int .i64 w,.int .i64 h,v],.int .i64 c] H) (Made2 dMesh H (w,h,withBroken w h b c) (decide (breakOk w h b c))):=by
 rw [Qb (fn:=Tryz.f179) Tryz.func179 rfl (by kernel_rfl) rfl]
 have one:=And.intro hI.one' hI.cells
 simp [one]
 refine Qc (Uq w h v b (hI.app _) hl) ?_
 rintro _ H1 ⟨u,rfl,o1,c1,n1,d1⟩
 have cH:Chg H H1 []:=(Chg.app []).trans c1
 have l0:=cH.1
 have b0:H1[H.length]? = some ⟨[.int .i64 w,.int .i64 h,v],0,42⟩:=Qa (by simp) c1 (by simp)
 have b1:H1[H.length+1]? = some ⟨[.int .i64 0,.int .i64 0,.slice none 0 0],0,42⟩:=Qa (by simp) c1 (by simp)
 have l1:=Qt b1
 have hI1:=((hI.rd).chg cH (by simp)).isI
 have ob:Ow Fl.int 3 H1 u b:=o1.1
 have one1:=And.intro ob.rd.one' ob.rd.cells
 have n1':∀i∈VM.ids u,H.length+2≤i:=fun i hi=>by have:=n1 i hi;simp at this;omega
 have lu:=o1.1.lt
 simp [Ww,one,one1,VM.look,b0,b1,Qo b0,Qo b1,Xz _ _ _ _ _ (hI1.app _) hl,-Bool.decide_and]
 by_cases hok:breakOk w h b c
 ·have hok':meshOk w h b∧has w h b c:=hok
  simp [hok',one,one1,VM.look,b0,b1,Qo b0,Qo b1,l0,Nat.le_add_right_of_le l0]
  have hlb:b.length≤1000:=by have:=Cr hok.1;omega
  obtain ⟨u',H2,hap,o2,c2,n2⟩:=(ob.app (L:=[⟨[.int .i64 w,.int .i64 h,u],0,42⟩])).push (P:=Tryz.prog) (frz:=H.length) (ty:=24) (a:=c) (by simp) rfl (by omega) (fun i hi=>by have:=n1' i hi;omega)
  simp at hap n2
  have q2:H2[H1.length]? = some ⟨[.int .i64 w,.int .i64 h,u],0,42⟩:=Qa (by simp) c2 (fun hh=>by have:=lu _ hh;omega)
  have q1:H2[H.length+1]? = some ⟨[.int .i64 0,.int .i64 0,.slice none 0 0],0,42⟩:=Qa (Qo b1 _) c2 (fun hh=>by have:=n1' _ hh;omega)
  have k2:=Qt q2
  have n2':∀i∈VM.ids u',i≠H1.length∧H.length+2≤i:=fun i hi=>by
   rcases n2 i hi with h1|h1
   ·have:=lu i h1;have:=n1' i h1;omega
   ·omega
  have q3:=Qg (r':=⟨[.int .i64 w,.int .i64 h,u'],0,42⟩) q2
  have q4:(H2.set H1.length ⟨[.int .i64 w,.int .i64 h,u'],0,42⟩)[H.length+1]? = some ⟨[.int .i64 0,.int .i64 0,.slice none 0 0],0,42⟩:=Qa q1 (Qe _ _) (by simp;omega)
  have o3:=o2.chg (Qe H1.length ⟨[.int .i64 w,.int .i64 h,u'],0,42⟩) (fun i hi hh=>(n2' i hi).1 (List.mem_singleton.1 hh))
  have one3:=And.intro o2.rd.one' o2.rd.cells
  have c3:Chg H H2 []:=(cH.trans (Chg.app (L:=[⟨[.int .i64 w,.int .i64 h,u],0,42⟩]) [])).trans' c2 (fun i hi=>.inr (by have:=n1' i hi;omega))
  have c4:Chg H2 (H2.set H1.length ⟨[.int .i64 w,.int .i64 h,u'],0,42⟩) [H1.length]:=Qe _ _
  simp [hap,one3,VM.look,q2,q3,q4,l0]
  generalize H2.set H1.length ⟨[.int .i64 w,.int .i64 h,u'],0,42⟩=H3 at *
  refine Qc (qz u' (b++[c]) _ o3 (by simp;omega) (fun i hi=>by have:=n2' i hi;omega) (by have:=c4.1;omega)) ?_
  rintro _ H4 ⟨o5,c5⟩
  have q5:H4[H1.length]? = some ⟨[.int .i64 w,.int .i64 h,u'],0,42⟩:=Qa q3 c5 (fun hh=>by have:=n2' _ hh;omega)
  have q6:H4[H.length+1]? = some ⟨[.int .i64 0,.int .i64 0,.slice none 0 0],0,42⟩:=Qa q4 c5 (fun hh=>by have:=n2' _ hh;omega)
  have q7:=Qg (r':=⟨[.int .i64 w,.int .i64 h,u'],0,42⟩) q6
  simp [one3,VM.look,q5,q6,q7]
  have cc:Chg H H4 []:=(c3.trans' c4 (fun i hi=>.inr (by simp at hi;omega))).trans' c5 (fun i hi=>.inr (by have:=n2' i hi;omega))
  refine ⟨.agg #[.int .i64 w,.int .i64 h,u'],by simp [hok],u',by simp [withBroken,hok,broke,Ww],⟨o5.chg (Qe (H.length+1) _) (fun i hi hh=>by have:=n2' i hi;have:=List.mem_singleton.1 hh;omega) |> fun hh=>by simpa [withBroken,hok,broke] using hh,by simp [withBroken,hok,broke,Gb];omega⟩,cc.trans' (Qe _ _) (fun i hi=>.inr (by simp at hi;omega)),fun i hi=>by have:=n2' i hi;omega,Qx u'⟩
 ·have hok':¬(meshOk w h b∧has w h b c):=hok
  have g:=Qg (r':=⟨[.int .i64 w,.int .i64 h,u],0,42⟩) (Qo b1 [⟨[.int .i64 w,.int .i64 h,u],0,42⟩])
  simp [hok',one,one1,VM.look,b0,b1,Qo b0,Qo b1,l0,Nat.le_add_right_of_le l0,g]
  refine ⟨.agg #[.int .i64 w,.int .i64 h,u],by simp [hok],u,by simp [withBroken,hok,Ww],⟨by simpa [withBroken,hok] using ob.app.chg (Qe _ _) (fun i hi hh=>by have:=n1' i hi;simp at hh;omega),by simpa [withBroken,hok] using hl⟩,(cH.trans (Chg.app [])).trans' (Qe _ _) (fun i hi=>.inr (by simp at hi;omega)),fun i hi=>by have:=n1' i hi;omega,Qx u⟩
theorem O8 {v:Value} {w h:Int} {b:List Int} {c:Int} (o:dMesh.Ow H v (w,h,b)):wp (vcall C frz 179 [dMesh.val v (w,h,b),.int .i64 c] H) (Made2 dMesh H (w,h,withBroken w h b c) (decide (breakOk w h b c))):=O6 w h v b c o.1.rd.isI o.2
def brkOk (x:NetD) (c:Int):Prop:=idleOk x∧breakOk x.1.1 x.1.2.1 x.1.2.2 c∧repairOk x.1.1 x.1.2.1 (withBroken x.1.1 x.1.2.1 x.1.2.2 c)=true
noncomputable instance (x:NetD) (c:Int):Decidable (brkOk x c):=inferInstanceAs (Decidable (_∧_))
noncomputable def brk (x:NetD) (c:Int):NetD:=if brkOk x c then fresh x (x.1.1,x.1.2.1,withBroken x.1.1 x.1.2.1 x.1.2.2 c) (repair x.1.1 x.1.2.1 (withBroken x.1.1 x.1.2.1 x.1.2.2 c)) else x
theorem Gk {v:NetV} {x:NetD} {c:Int} (o:dNet.Ow H v x) :
 wp (vcall C frz 145 [dNet.val v x,.int .i64 c] H) (Made2 dNet H (brk x c) (decide (brkOk x c))):=by
 have ones:=Qn o
 have oo:=fun (K:Heap) (ch:Chg H K [])=>Dt.chg (T:=dNet) o ch (by simp)
 have ii:=fun F K (ch:Chg H K [])=>Nq (frz:=F) (H:=K) (v:=v) (x:=x) (oo K ch)
 have ecopy:=fun K (ch:Chg H K [])=>X8 (frz:=H.length) (H:=K) (v:=v) (x:=x) (oo K ch)
 simp only [Qm] at ii ecopy ⊢
 rw [Qb (fn:=Tryz.f145) Tryz.func145 rfl (by kernel_rfl) rfl]
 have key:∀(y:NetD) (n:NetV) (K K0:Heap) (ok:Bool),dNet.Ow K n y→Chg H K0 []→Chg K0 K []→H.length+1<K0.length→K0[H.length+1]? = some ⟨[.int .i64 0,.int .i64 0,.slice none 0 0,.slice none 0 0,.slice none 0 0,.slice none 0 0,.slice none 0 0,.slice none 0 0,.slice none 0 0,.slice none 0 0,.int .i64 0],0,48⟩→(∀i∈dNet.ids n,K0.length≤i)→(dNet.ids n).Nodup→brk x c=y→decide (brkOk x c)=ok→
  K[H.length+1]? = some ⟨[.int .i64 0,.int .i64 0,.slice none 0 0,.slice none 0 0,.slice none 0 0,.slice none 0 0,.slice none 0 0,.slice none 0 0,.slice none 0 0,.slice none 0 0,.int .i64 0],0,48⟩∧Made2 dNet H (brk x c) (decide (brkOk x c)) (.tuple #[dNet.val n y,.bool ok]) (K.set (H.length+1) ⟨[.int .i64 y.1.1,.int .i64 y.1.2.1,n.1,n.2.1.1,n.2.1.2,n.2.2.1.1,n.2.2.2.1,n.2.2.2.2.1,n.2.2.2.2.2.1.1,n.2.2.2.2.2.2.1.1,.int .i64 y.2.2.2.2.2.2.2],0,48⟩):=by
  intro y n K K0 ok on c0 ck hlt hz mn dn e1 e2
  have bR:K[H.length+1]? = some ⟨[.int .i64 0,.int .i64 0,.slice none 0 0,.slice none 0 0,.slice none 0 0,.slice none 0 0,.slice none 0 0,.slice none 0 0,.slice none 0 0,.slice none 0 0,.int .i64 0],0,48⟩:=Qa hz ck (by simp)
  refine ⟨bR,dNet.val n y,by rw [e2],n,by rw [e1],?_,?_,fun i hi=>by have:=mn i hi;omega,dn⟩
  ·rw [e1];exact Dt.chg (T:=dNet) on (Qe _ _) (fun i hi hh=>by have:=mn i hi;simp at hh;omega)
  ·exact (c0.trans ck).trans' (Qe _ _) (fun i hi=>.inr (by simp at hi;omega))
 have fail:¬brkOk x c→brk x c=x∧decide (brkOk x c)=false:=fun hh=>⟨if_neg hh,decide_eq_false hh⟩
 have bad:∀(K0:Heap),Chg H K0 []→H.length+1<K0.length→K0[H.length+1]? = some ⟨[.int .i64 0,.int .i64 0,.slice none 0 0,.slice none 0 0,.slice none 0 0,.slice none 0 0,.slice none 0 0,.slice none 0 0,.slice none 0 0,.slice none 0 0,.int .i64 0],0,48⟩→¬brkOk x c→∀r K,dNet.Made K0 x r K→∃n,r=netVal n x∧dNet.Ow K n x∧K[H.length+1]? = some ⟨[.int .i64 0,.int .i64 0,.slice none 0 0,.slice none 0 0,.slice none 0 0,.slice none 0 0,.slice none 0 0,.slice none 0 0,.slice none 0 0,.slice none 0 0,.int .i64 0],0,48⟩∧Made2 dNet H (brk x c) (decide (brkOk x c)) (.tuple #[dNet.val n x,.bool false]) (K.set (H.length+1) ⟨[.int .i64 x.1.1,.int .i64 x.1.2.1,n.1,n.2.1.1,n.2.1.2,n.2.2.1.1,n.2.2.2.1,n.2.2.2.2.1,n.2.2.2.2.2.1.1,n.2.2.2.2.2.2.1.1,.int .i64 x.2.2.2.2.2.2.2],0,48⟩):=by
  intro K0 c0 hlt hz hb r K hm
  obtain ⟨n,rfl,on,cn,mn,dn⟩:=hm
  obtain ⟨f1,f2⟩:=fail hb
  obtain ⟨k1,k2⟩:=key x n K K0 false on c0 cn hlt hz mn dn f1 f2
  exact ⟨n,rfl,on,k1,k2⟩
 obtain ⟨G,hG⟩:∃G,G=H++[⟨[.int .i64 x.1.1,.int .i64 x.1.2.1,v.1,v.2.1.1,v.2.1.2,v.2.2.1.1,v.2.2.2.1,v.2.2.2.2.1,v.2.2.2.2.2.1.1,v.2.2.2.2.2.2.1.1,.int .i64 x.2.2.2.2.2.2.2],0,48⟩,⟨[.int .i64 0,.int .i64 0,.slice none 0 0,.slice none 0 0,.slice none 0 0,.slice none 0 0,.slice none 0 0,.slice none 0 0,.slice none 0 0,.slice none 0 0,.int .i64 0],0,48⟩]:=⟨_,rfl⟩
 have cG:Chg H G []:=by rw [hG];exact Chg.app _
 have b0:G[H.length]? = some ⟨[.int .i64 x.1.1,.int .i64 x.1.2.1,v.1,v.2.1.1,v.2.1.2,v.2.2.1.1,v.2.2.2.1,v.2.2.2.2.1,v.2.2.2.2.2.1.1,v.2.2.2.2.2.2.1.1,.int .i64 x.2.2.2.2.2.2.2],0,48⟩:=by rw [hG];simp
 have b1:G[H.length+1]? = some ⟨[.int .i64 0,.int .i64 0,.slice none 0 0,.slice none 0 0,.slice none 0 0,.slice none 0 0,.slice none 0 0,.slice none 0 0,.slice none 0 0,.slice none 0 0,.int .i64 0],0,48⟩:=by rw [hG];simp
 have hlG:G.length=H.length+2:=by rw [hG];simp
 simp [ones]
 rw [← hG]
 clear hG
 refine Qc (O8 (c:=c) (oo G cG).1) ?_
 rintro _ K1 ⟨_,rfl,vm,rfl,om,cm,mm,dm⟩
 have c1:Chg H K1 []:=cG.trans cm
 have b01:=Qa b0 cm (by simp)
 have b11:=Qa b1 cm (by simp)
 have hl1:=cm.1
 have onem:=Xl om
 obtain ⟨B,hB⟩:∃B,B=withBroken x.1.1 x.1.2.1 x.1.2.2 c:=⟨_,rfl⟩
 rw [← hB] at om
 have hl1':H.length≤K1.length:=c1.1
 simp [Ww,onem,VM.look,hl1']
 obtain ⟨K1',hK1⟩:∃K,K=K1++[⟨[.int .i64 x.1.1,.int .i64 x.1.2.1,vm],0,42⟩]:=⟨_,rfl⟩
 have c1':Chg K1 K1' []:=by rw [hK1];exact Chg.app _
 have bm:K1'[K1.length]? = some ⟨[.int .i64 x.1.1,.int .i64 x.1.2.1,vm],0,42⟩:=by rw [hK1];simp
 have om1:=Dt.chg (T:=dMesh) om c1' (by simp)
 rw [← hK1]
 have hrp:=E5 (frz:=H.length) om1
 refine Qc hrp ?_
 rintro _ K2 ⟨_,rfl,vc,rfl,oc,cc,mc,dc⟩
 have onec:=We oc
 have hl2:H.length≤K2.length:=Nat.le_trans hl1' (Nat.le_trans c1'.1 cc.1)
 simp [Wd,onec,VM.look,hl2]
 obtain ⟨K3,hK3⟩:∃K,K=K2++[⟨[vc.1,vc.2],0,45⟩]:=⟨_,rfl⟩
 have c3':Chg K2 K3 []:=by rw [hK3];exact Chg.app _
 have bc:K3[K2.length]? = some ⟨[vc.1,vc.2],0,45⟩:=by rw [hK3];simp
 rw [← hK3]
 have c13:Chg K1' K3 []:=cc.trans c3'
 have cG3:Chg G K3 []:=(cm.trans c1').trans c13
 have c3:Chg H K3 []:=cG.trans cG3
 have b03:=Qa b0 cG3 (by simp)
 have b13:=Qa b1 cG3 (by simp)
 have bm3:=Qa bm c13 (by simp)
 have om3:=Dt.chg (T:=dMesh) om1 c13 (by simp)
 have oc3:=Dt.chg (T:=dClasses) oc c3' (by simp)
 have hl3:H.length+1<K3.length:=Qt b13
 have ii':=fun F=>ii F K3 c3
 simp [VM.look,b03,ones,ii']
 have ffail:¬brkOk x c→wp (vcall C H.length 75 [netVal v x] K3) (fun r K=>∃n,r=netVal n x∧dNet.Ow K n x∧K[H.length+1]? = some ⟨[.int .i64 0,.int .i64 0,.slice none 0 0,.slice none 0 0,.slice none 0 0,.slice none 0 0,.slice none 0 0,.slice none 0 0,.slice none 0 0,.slice none 0 0,.int .i64 0],0,48⟩∧Made2 dNet H (brk x c) (decide (brkOk x c)) (.tuple #[dNet.val n x,.bool false]) (K.set (H.length+1) ⟨[.int .i64 x.1.1,.int .i64 x.1.2.1,n.1,n.2.1.1,n.2.1.2,n.2.2.1.1,n.2.2.2.1,n.2.2.2.2.1,n.2.2.2.2.2.1.1,n.2.2.2.2.2.2.1.1,.int .i64 x.2.2.2.2.2.2.2],0,48⟩)):=fun hb=>(ecopy K3 c3).mono (fun r K hm=>bad K3 c3 hl3 b13 hb r K hm)
 unfold netVal at ffail
 by_cases g0:idleOk x
 rotate_left
 ·simp [g0,VM.look,b03,ones]
  refine Qc (ffail (fun k=>g0 k.1)) ?_
  rintro r K ⟨n,rfl,on,bR,hM⟩
  have qn:=Qn on
  have gR:=Qg (r':=⟨[.int .i64 x.1.1,.int .i64 x.1.2.1,n.1,n.2.1.1,n.2.1.2,n.2.2.1.1,n.2.2.2.1,n.2.2.2.2.1,n.2.2.2.2.2.1.1,n.2.2.2.2.2.2.1.1,.int .i64 x.2.2.2.2.2.2.2],0,48⟩) bR
  have hF:H.length≤K.length:=by have:=Qt bR;omega
  simp [netVal,Qm,VM.look,bR,qn,gR,hF]
  exact hM
 by_cases g1:breakOk x.1.1 x.1.2.1 x.1.2.2 c
 rotate_left
 ·simp [g0,g1,VM.look,b03,ones]
  refine Qc (ffail (fun k=>g1 k.2.1)) ?_
  rintro r K ⟨n,rfl,on,bR,hM⟩
  have qn:=Qn on
  have gR:=Qg (r':=⟨[.int .i64 x.1.1,.int .i64 x.1.2.1,n.1,n.2.1.1,n.2.1.2,n.2.2.1.1,n.2.2.2.1,n.2.2.2.2.1,n.2.2.2.2.2.1.1,n.2.2.2.2.2.2.1.1,.int .i64 x.2.2.2.2.2.2.2],0,48⟩) bR
  have hF:H.length≤K.length:=by have:=Qt bR;omega
  simp [netVal,Qm,VM.look,bR,qn,gR,hF]
  exact hM
 by_cases g2:repairOk x.1.1 x.1.2.1 B=true
 rotate_left
 ·simp [g0,g1,g2,VM.look,b03,ones]
  refine Qc (ffail (fun k=>g2 (by rw [hB];exact k.2.2))) ?_
  rintro r K ⟨n,rfl,on,bR,hM⟩
  have qn:=Qn on
  have gR:=Qg (r':=⟨[.int .i64 x.1.1,.int .i64 x.1.2.1,n.1,n.2.1.1,n.2.1.2,n.2.2.1.1,n.2.2.2.1,n.2.2.2.2.1,n.2.2.2.2.2.1.1,n.2.2.2.2.2.2.1.1,.int .i64 x.2.2.2.2.2.2.2],0,48⟩) bR
  have hF:H.length≤K.length:=by have:=Qt bR;omega
  simp [netVal,Qm,VM.look,bR,qn,gR,hF]
  exact hM
 simp [g0,g1,g2,VM.look,b03,ones,bm3,bc,onem,onec]
 have hok:brkOk x c:=⟨g0,g1,by rw [← hB];exact g2⟩
 have hbr:brk x c=fresh x (x.1.1,x.1.2.1,B) (repair x.1.1 x.1.2.1 B):=by rw [hB];exact if_pos hok
 refine Qc (Rq (frz:=H.length) (oo K3 c3) om3 oc3) ?_
 rintro _ K ⟨n,rfl,on,cn,mn,dn⟩
 obtain ⟨bR,hM⟩:=key _ n K K3 true on c3 cn hl3 b13 mn dn hbr (decide_eq_true hok)
 generalize fresh x (x.1.1,x.1.2.1,B) (repair x.1.1 x.1.2.1 B)=y at *
 have qn:=Qn on
 have gR:=Qg (r':=⟨[.int .i64 y.1.1,.int .i64 y.1.2.1,n.1,n.2.1.1,n.2.1.2,n.2.2.1.1,n.2.2.2.1,n.2.2.2.2.1,n.2.2.2.2.2.1.1,n.2.2.2.2.2.2.1.1,.int .i64 y.2.2.2.2.2.2.2],0,48⟩) bR
 have hF:H.length≤K.length:=by have:=Qt bR;omega
 simp [netVal,Qm,VM.look,bR,qn,gR,hF]
 exact hM
def replOk (x:NetD) (t:ClassesD):Prop:=idleOk x∧classesOk x.1.1 x.1.2.1 x.1.2.2 t.1 t.2
instance (x:NetD) (t:ClassesD):Decidable (replOk x t):=inferInstanceAs (Decidable (_∧_))
def repl (x:NetD) (t:ClassesD):NetD:=if replOk x t then fresh x x.1 t else x
theorem Gj {v:NetV} {x:NetD} {vc:Value×Value} {t:ClassesD} (o:dNet.Ow H v x) (oc:dClasses.Ow H vc t) :
 wp (vcall C frz 184 [dNet.val v x,dClasses.val vc t] H) (Made2 dNet H (repl x t) (decide (replOk x t))):=by
 have ones:=Qn o
 have onec:=We oc
 have ii:=fun F L=>Nq (frz:=F) (H:=H++L) (v:=v) (x:=x) (Dt.app (T:=dNet) o)
 have ck:=fun F L=>Tj (frz:=F) (H:=H++L) x.1.1 x.1.2.1 v.1 vc.1 vc.2 x.1.2.2 t.1 t.2 (Rd.isI o.1.1.rd.app) (Rd.isI oc.1.1.rd.app) (Rd.isI oc.2.1.rd.app) o.1.2
 have ecopy:=fun L=>X8 (frz:=H.length) (H:=H++L) (v:=v) (x:=x) (Dt.app (T:=dNet) o)
 have efresh:=fun L=>Rq (frz:=H.length) (H:=H++L) (v:=v) (x:=x) (vm:=v.1) (w':=x.1.1) (h':=x.1.2.1) (b':=x.1.2.2) (vc:=vc) (c':=t) (Dt.app (T:=dNet) o) (Dt.app (T:=dMesh) o.1) (Dt.app (T:=dClasses) oc)
 simp only [Qm,Wd] at ii ecopy efresh ⊢
 rw [Qb (fn:=Tryz.f184) Tryz.func184 rfl (by kernel_rfl) rfl]
 have hF:H.length≤H.length+2:=by omega
 have key:∀(y:NetD) (n:NetV) (K:Heap) (ok:Bool),dNet.Ow K n y→Chg (H++[⟨[.int .i64 x.1.1,.int .i64 x.1.2.1,v.1,v.2.1.1,v.2.1.2,v.2.2.1.1,v.2.2.2.1,v.2.2.2.2.1,v.2.2.2.2.2.1.1,v.2.2.2.2.2.2.1.1,.int .i64 x.2.2.2.2.2.2.2],0,48⟩,⟨[vc.1,vc.2],0,45⟩,⟨[.int .i64 0,.int .i64 0,.slice none 0 0,.slice none 0 0,.slice none 0 0,.slice none 0 0,.slice none 0 0,.slice none 0 0,.slice none 0 0,.slice none 0 0,.int .i64 0],0,48⟩]) K []→(∀i∈dNet.ids n,H.length+3≤i)→(dNet.ids n).Nodup→repl x t=y→decide (replOk x t)=ok→
  K[H.length+2]? = some ⟨[.int .i64 0,.int .i64 0,.slice none 0 0,.slice none 0 0,.slice none 0 0,.slice none 0 0,.slice none 0 0,.slice none 0 0,.slice none 0 0,.slice none 0 0,.int .i64 0],0,48⟩∧Made2 dNet H (repl x t) (decide (replOk x t)) (.tuple #[dNet.val n y,.bool ok]) (K.set (H.length+2) ⟨[.int .i64 y.1.1,.int .i64 y.1.2.1,n.1,n.2.1.1,n.2.1.2,n.2.2.1.1,n.2.2.2.1,n.2.2.2.2.1,n.2.2.2.2.2.1.1,n.2.2.2.2.2.2.1.1,.int .i64 y.2.2.2.2.2.2.2],0,48⟩):=by
  intro y n K ok on ck mn dn e1 e2
  have bR:K[H.length+2]? = some ⟨[.int .i64 0,.int .i64 0,.slice none 0 0,.slice none 0 0,.slice none 0 0,.slice none 0 0,.slice none 0 0,.slice none 0 0,.slice none 0 0,.slice none 0 0,.int .i64 0],0,48⟩:=Qa (by simp) ck (by simp)
  refine ⟨bR,dNet.val n y,by rw [e2],n,by rw [e1],?_,?_,fun i hi=>by have:=mn i hi;omega,dn⟩
  ·rw [e1];exact Dt.chg (T:=dNet) on (Qe _ _) (fun i hi hh=>by have:=mn i hi;simp at hh;omega)
  ·exact ((Chg.app []).trans ck).trans' (Qe _ _) (fun i hi=>.inr (by simp at hi;omega))
 have fail:¬replOk x t→repl x t=x∧decide (replOk x t)=false:=fun hh=>⟨if_neg hh,decide_eq_false hh⟩
 simp [ones,onec,ii]
 by_cases g1:idleOk x
 rotate_left
 ·simp [g1,ones,onec]
  refine Qc (ecopy _) ?_
  rintro _ K ⟨n,rfl,on,cn,mn,dn⟩
  obtain ⟨f1,f2⟩:=fail (fun k=>g1 k.1)
  simp at mn
  obtain ⟨bR,hm⟩:=key x n K false on cn mn dn f1 f2
  have qn:=Qn on
  have gR:=Qg (r':=⟨[.int .i64 x.1.1,.int .i64 x.1.2.1,n.1,n.2.1.1,n.2.1.2,n.2.2.1.1,n.2.2.2.1,n.2.2.2.2.1,n.2.2.2.2.2.1.1,n.2.2.2.2.2.2.1.1,.int .i64 x.2.2.2.2.2.2.2],0,48⟩) bR
  simp [Qm,VM.look,bR,qn,gR,hF]
  exact hm
 simp [g1,ones,onec,ck]
 by_cases g2:classesOk x.1.1 x.1.2.1 x.1.2.2 t.1 t.2
 rotate_left
 ·simp [g2,ones,onec]
  refine Qc (ecopy _) ?_
  rintro _ K ⟨n,rfl,on,cn,mn,dn⟩
  obtain ⟨f1,f2⟩:=fail (fun k=>g2 k.2)
  simp at mn
  obtain ⟨bR,hm⟩:=key x n K false on cn mn dn f1 f2
  have qn:=Qn on
  have gR:=Qg (r':=⟨[.int .i64 x.1.1,.int .i64 x.1.2.1,n.1,n.2.1.1,n.2.1.2,n.2.2.1.1,n.2.2.2.1,n.2.2.2.2.1,n.2.2.2.2.2.1.1,n.2.2.2.2.2.2.1.1,.int .i64 x.2.2.2.2.2.2.2],0,48⟩) bR
  simp [Qm,VM.look,bR,qn,gR,hF]
  exact hm
 simp [g2,ones,onec]
 refine Qc (efresh _) ?_
 rintro _ K ⟨n,rfl,on,cn,mn,dn⟩
 simp at mn
 have e1:repl x t=fresh x (x.1.1,x.1.2.1,x.1.2.2) t:=if_pos ⟨g1,g2⟩
 obtain ⟨bR,hm⟩:=key _ n K true on cn mn dn e1 (decide_eq_true ⟨g1,g2⟩)
 have qn:=Qn on
 have gR:=Qg (r':=⟨[.int .i64 (fresh x (x.1.1,x.1.2.1,x.1.2.2) t).1.1,.int .i64 (fresh x (x.1.1,x.1.2.1,x.1.2.2) t).1.2.1,n.1,n.2.1.1,n.2.1.2,n.2.2.1.1,n.2.2.2.1,n.2.2.2.2.1,n.2.2.2.2.2.1.1,n.2.2.2.2.2.2.1.1,.int .i64 (fresh x (x.1.1,x.1.2.1,x.1.2.2) t).2.2.2.2.2.2.2],0,48⟩) bR
 simp [Qm,VM.look,bR,qn,gR,hF]
 exact hm
def sendsOk (a:ChipD) (p:PkD):Prop:=chipOk a∧a.2.length≠200∧sendOk a.1 p
instance (a:ChipD) (p:PkD):Decidable (sendsOk a p):=inferInstanceAs (Decidable (_∧_))
def nextP (a:ChipD) (q2 q3 q4 q5:Int):PkD:=((a.2.length:Int)+1,q2,q3,q4,q5)
def chipSend (a:ChipD) (q2 q3 q4 q5:Int):ChipD:=if sendsOk a (nextP a q2 q3 q4 q5) then (sendNet a.1 (nextP a q2 q3 q4 q5),a.2++[nextP a q2 q3 q4 q5]) else a
theorem P0 {K:Heap} {n:ChipV} {y:ChipD} {ok:Bool} {id:Nat} {r:Row} {a:ChipD} {q2 q3 q4 q5:Int} (hid:id=H.length+1) (o:dChip.Ow K n y) (c:Chg H K []) (m:∀i∈dChip.ids n,H.length+2≤i) (d:(dChip.ids n).Nodup) (e1:chipSend a q2 q3 q4 q5=y) (e2:decide (sendsOk a (nextP a q2 q3 q4 q5))=ok) :
 Made2 dChip H (chipSend a q2 q3 q4 q5) (decide (sendsOk a (nextP a q2 q3 q4 q5))) (.tuple #[dChip.val n y,.bool ok]) (K.set id r):=by
 subst hid
 refine ⟨dChip.val n y,by rw [e2],n,by rw [e1],?_,c.trans' (Qe _ _) (fun i hi=>.inr (by simp at hi;omega)),fun i hi=>by have:=m i hi;omega,d⟩
 rw [e1];exact Dt.chg (T:=dChip) o (Qe _ _) (fun i hi hh=>by have:=m i hi;simp at hh;omega)
theorem Jm {v:ChipV} {a:ChipD} {q2 q3 q4 q5:Int} (o:dChip.Ow H v a) :
 wp (vcall C frz 140 [dChip.val v a,.int .i64 q2,.int .i64 q3,.int .i64 q4,.int .i64 q5] H) (Made2 dChip H (chipSend a q2 q3 q4 q5) (decide (sendsOk a (nextP a q2 q3 q4 q5)))):=by
 have oneA:=Qu o
 have ones:=oneA.1
 have one2:=oneA.2
 have ecopy:=fun K (c:Chg H K [])=>Y3 (frz:=H.length) (H:=K) (v:=v) (a:=a) (Dt.chg (T:=dChip) o c (by simp))
 have ck:=fun F K (c:Chg H K [])=>Zp (frz:=F) (H:=K) (v:=v) (a:=a) (Dt.chg (T:=dChip) o c (by simp))
 have esend:=fun (K:Heap) id nv tail hr on nd hf hid hN hs=>A7 (frz:=H.length) (H:=K) (v:=nv) (x:=a.1) (p:=nextP a q2 q3 q4 q5) (id:=id) (e:=51) (tail:=tail) hr on nd hf hid hN hs
 have hlen:=o.2.2
 have e0:=@w6 ((a.2.length:Int)+1) (by omega)
 unfold pkV nextP at esend
 simp only at esend
 simp only [Qj] at ecopy ck ⊢
 rw [Qb (fn:=Tryz.f140) Tryz.func140 rfl (by kernel_rfl) rfl]
 obtain ⟨G,hG⟩:∃G,G=H++[⟨[.int .i64 a.1.1.1,.int .i64 a.1.1.2.1,v.1.1,v.1.2.1.1,v.1.2.1.2,v.1.2.2.1.1,v.1.2.2.2.1,v.1.2.2.2.2.1,v.1.2.2.2.2.2.1.1,v.1.2.2.2.2.2.2.1.1,.int .i64 a.1.2.2.2.2.2.2.2,v.2],0,51⟩,⟨[.int .i64 0,.int .i64 0,.slice none 0 0,.slice none 0 0,.slice none 0 0,.slice none 0 0,.slice none 0 0,.slice none 0 0,.slice none 0 0,.slice none 0 0,.int .i64 0,.slice none 0 0],0,51⟩]:=⟨_,rfl⟩
 have cG:Chg H G []:=by rw [hG];exact Chg.app _
 have b0:G[H.length]? = some ⟨[.int .i64 a.1.1.1,.int .i64 a.1.1.2.1,v.1.1,v.1.2.1.1,v.1.2.1.2,v.1.2.2.1.1,v.1.2.2.2.1,v.1.2.2.2.2.1,v.1.2.2.2.2.2.1.1,v.1.2.2.2.2.2.2.1.1,.int .i64 a.1.2.2.2.2.2.2.2,v.2],0,51⟩:=by rw [hG];simp
 have bR:G[H.length+1]? = some ⟨[.int .i64 0,.int .i64 0,.slice none 0 0,.slice none 0 0,.slice none 0 0,.slice none 0 0,.slice none 0 0,.slice none 0 0,.slice none 0 0,.slice none 0 0,.int .i64 0,.slice none 0 0],0,51⟩:=by rw [hG];simp
 have lG:G.length=H.length+2:=by rw [hG];simp
 simp [ones,one2]
 rw [← hG]
 clear hG
 have liv:=fun K (c:Chg H K [])=>Wy (o.2.1.chg c (by simp))
 have lp:=fun K (c:Chg H K [])=>(o.2.1.rd.chg c (by simp)).len (P:=Tryz.prog) (ty:=49) (by simp)
 rw [Z1 (fl:=([3],[14])) (h:=⟨by kernel_rfl,by kernel_rfl,by kernel_rfl,by kernel_rfl⟩)]
 simp [emps,empOp,empB,VM.look,b0,ones,one2]
 refine Iy (ecopy G cG) ?_
 rintro _ K ⟨n,rfl,on,cn,mn,dn⟩
 refine ⟨by simp,?_⟩
 have cK:Chg H K []:=cG.trans cn
 have b0:=Qa b0 cn (by simp)
 have bR:=Qa bR cn (by simp)
 have oneN:=Qu on
 have qn:=oneN.1
 have qn2:=oneN.2
 have livK:=liv K cK
 have lpK:=lp K cK
 have lK:=cn.1
 have hFK:H.length≤K.length:=by omega
 have hFK1:H.length≤K.length+1:=by omega
 have bA:=fun L=>Qo b0 L
 have livA:=fun L=>liv (K++L) (cK.trans (Chg.app _))
 simp [Qj,emps,empOp,empB,VM.look,b0,bA,ones,one2,qn,qn2,livK,livA,lpK,e0,hFK,hFK1,List.set_append]
 obtain ⟨K2,hK2⟩:∃K2,K2=K++[⟨[.int .i64 a.1.1.1,.int .i64 a.1.1.2.1,n.1.1,n.1.2.1.1,n.1.2.1.2,n.1.2.2.1.1,n.1.2.2.2.1,n.1.2.2.2.2.1,n.1.2.2.2.2.2.1.1,n.1.2.2.2.2.2.2.1.1,.int .i64 a.1.2.2.2.2.2.2.2,n.2],0,51⟩,⟨[.int .i64 (a.2.length+1:Int),.int .i64 q2,.int .i64 q3,.int .i64 q4,.int .i64 q5],0,104⟩]:=⟨_,rfl⟩
 have e2:K++[⟨[.int .i64 a.1.1.1,.int .i64 a.1.1.2.1,n.1.1,n.1.2.1.1,n.1.2.1.2,n.1.2.2.1.1,n.1.2.2.2.1,n.1.2.2.2.2.1,n.1.2.2.2.2.2.1.1,n.1.2.2.2.2.2.2.1.1,.int .i64 a.1.2.2.2.2.2.2.2,n.2],0,51⟩,⟨[.int .i64 (a.2.length+1:Int),.int .i64 q2,.int .i64 q3,.int .i64 q4,.int .i64 q5],0,104⟩]=K2:=hK2.symm
 rw [e2]
 have c12:Chg K K2 []:=by rw [hK2];exact Chg.app _
 have cK2:=cK.trans c12
 have l2:K2.length=K.length+2:=by rw [hK2];simp
 have b0:=Qa b0 c12 (by simp)
 have bR:=Qa bR c12 (by simp)
 have bC:K2[K.length]? = some ⟨[.int .i64 a.1.1.1,.int .i64 a.1.1.2.1,n.1.1,n.1.2.1.1,n.1.2.1.2,n.1.2.2.1.1,n.1.2.2.2.1,n.1.2.2.2.2.1,n.1.2.2.2.2.2.1.1,n.1.2.2.2.2.2.2.1.1,.int .i64 a.1.2.2.2.2.2.2.2,n.2],0,51⟩:=by rw [hK2];simp
 have bP:K2[K.length+1]? = some ⟨[.int .i64 (a.2.length+1:Int),.int .i64 q2,.int .i64 q3,.int .i64 q4,.int .i64 q5],0,104⟩:=by rw [hK2];simp
 have on2:=Dt.chg (T:=dChip) on c12 (by simp)
 clear hK2 e2
 have hF:H.length≤H.length+1:=by omega
 have ff:∀K3,Chg H K3 []→K3[H.length+1]? = some ⟨[.int .i64 0,.int .i64 0,.slice none 0 0,.slice none 0 0,.slice none 0 0,.slice none 0 0,.slice none 0 0,.slice none 0 0,.slice none 0 0,.slice none 0 0,.int .i64 0,.slice none 0 0],0,51⟩→¬sendsOk a (nextP a q2 q3 q4 q5)→wp (vcall C H.length 34 [.agg #[.int .i64 a.1.1.1,.int .i64 a.1.1.2.1,v.1.1,v.1.2.1.1,v.1.2.1.2,v.1.2.2.1.1,v.1.2.2.2.1,v.1.2.2.2.2.1,v.1.2.2.2.2.2.1.1,v.1.2.2.2.2.2.2.1.1,.int .i64 a.1.2.2.2.2.2.2.2,v.2]] K3) (fun r K=>∃n:ChipV,r=dChip.val n a∧dChip.Ow K n a∧K[H.length+1]? = some ⟨[.int .i64 0,.int .i64 0,.slice none 0 0,.slice none 0 0,.slice none 0 0,.slice none 0 0,.slice none 0 0,.slice none 0 0,.slice none 0 0,.slice none 0 0,.int .i64 0,.slice none 0 0],0,51⟩∧Made2 dChip H (chipSend a q2 q3 q4 q5) (decide (sendsOk a (nextP a q2 q3 q4 q5))) (.tuple #[dChip.val n a,.bool false]) (K.set (H.length+1) ⟨[.int .i64 a.1.1.1,.int .i64 a.1.1.2.1,n.1.1,n.1.2.1.1,n.1.2.1.2,n.1.2.2.1.1,n.1.2.2.2.1,n.1.2.2.2.2.1,n.1.2.2.2.2.2.1.1,n.1.2.2.2.2.2.2.1.1,.int .i64 a.1.2.2.2.2.2.2.2,n.2],0,51⟩)):=by
  intro K3 c3 b3 hb
  refine (ecopy K3 c3).mono ?_
  rintro _ K ⟨n,rfl,on,cn,mn,dn⟩
  have h9:=Qt b3
  exact ⟨n,rfl,on,Qa b3 cn (by simp),P0 rfl on (c3.trans cn) (fun i hi=>by have:=mn i hi;omega) dn (if_neg hb) (decide_eq_false hb)⟩
 have ck':=fun F=>ck F K2 cK2
 have lp2:=lp K2 cK2
 by_cases g0:chipOk a
 rotate_left
 ·have hb:¬sendsOk a (nextP a q2 q3 q4 q5):=fun k=>g0 k.1
  simp [VM.look,b0,ones,one2,ck',g0]
  refine Qc (ff K2 cK2 bR hb) ?_
  rintro _ K4 ⟨n4,rfl,on4,b4,hM⟩
  have q4a:=Qu on4
  have gR:=Qg (r':=⟨[.int .i64 a.1.1.1,.int .i64 a.1.1.2.1,n4.1.1,n4.1.2.1.1,n4.1.2.1.2,n4.1.2.2.1.1,n4.1.2.2.2.1,n4.1.2.2.2.2.1,n4.1.2.2.2.2.2.1.1,n4.1.2.2.2.2.2.2.1.1,.int .i64 a.1.2.2.2.2.2.2.2,n4.2],0,51⟩) b4
  simp [Qj,q4a,VM.look,b4,gR,hF]
  simpa [hb,Qj] using hM
 by_cases g1:a.2.length=200
 ·have hb:¬sendsOk a (nextP a q2 q3 q4 q5):=fun k=>k.2.1 g1
  have g1':((a.2.length:Int))=200:=by omega
  simp [VM.look,b0,ones,one2,ck',g0,lp2,g1,g1']
  refine Qc (ff K2 cK2 bR hb) ?_
  rintro _ K4 ⟨n4,rfl,on4,b4,hM⟩
  have q4a:=Qu on4
  have gR:=Qg (r':=⟨[.int .i64 a.1.1.1,.int .i64 a.1.1.2.1,n4.1.1,n4.1.2.1.1,n4.1.2.1.2,n4.1.2.2.1.1,n4.1.2.2.2.1,n4.1.2.2.2.2.1,n4.1.2.2.2.2.2.1.1,n4.1.2.2.2.2.2.2.1.1,.int .i64 a.1.2.2.2.2.2.2.2,n4.2],0,51⟩) b4
  simp [Qj,q4a,VM.look,b4,gR,hF]
  simpa [hb,Qj] using hM
 have g1':¬((a.2.length:Int))=200:=by omega
 simp [VM.look,b0,bC,bP,ones,one2,ck',g0,lp2,g1,g1']
 have hd:=List.nodup_append.1 dn
 have hm1:∀i∈dNet.ids n.1,H.length+2≤i:=fun i hi=>by have:=mn i (List.mem_append_left _ hi);omega
 have hm2:∀i∈VM.ids n.2,H.length+2≤i:=fun i hi=>by have:=mn i (List.mem_append_right _ hi);omega
 have hl1:∀i∈dNet.ids n.1,i<K.length:=fun i hi=>dNet.lt on.1 i hi
 have hl2:∀i∈VM.ids n.2,i<K.length:=fun i hi=>dPk.lt on.2 i hi
 refine Qc (esend K2 K.length n.1 [n.2] bC on2.1 hd.1 (fun i hi=>by have:=hm1 i hi;omega) (fun hh=>by have:=hl1 _ hh;omega) g0.1.2.1.2.2.2.1 (fun l hl=>(g0.1.2.2.2.1 l hl).1)) ?_
 rintro _ K3 ⟨rfl,hps⟩
 by_cases g2:sendOk a.1 (nextP a q2 q3 q4 q5)
 rotate_left
 ·have hb:¬sendsOk a (nextP a q2 q3 q4 q5):=fun k=>g2 k.2.2
  have g2':¬sendOk a.1 ((a.2.length:Int)+1,q2,q3,q4,q5):=g2
  rw [if_neg g2'] at hps
  have b0:=Qa b0 hps (by simp)
  have bR:=Qa bR hps (by simp)
  simp [g2',VM.look,b0,ones,one2]
  refine Qc (ff K3 (cK2.trans hps) bR hb) ?_
  rintro _ K4 ⟨n4,rfl,on4,b4,hM⟩
  have q4a:=Qu on4
  have gR:=Qg (r':=⟨[.int .i64 a.1.1.1,.int .i64 a.1.1.2.1,n4.1.1,n4.1.2.1.1,n4.1.2.1.2,n4.1.2.2.1.1,n4.1.2.2.2.1,n4.1.2.2.2.2.1,n4.1.2.2.2.2.2.1.1,n4.1.2.2.2.2.2.2.1.1,.int .i64 a.1.2.2.2.2.2.2.2,n4.2],0,51⟩) b4
  simp [Qj,q4a,VM.look,b4,gR,hF]
  simpa [hb,Qj] using hM
 have g2':sendOk a.1 ((a.2.length:Int)+1,q2,q3,q4,q5):=g2
 rw [if_pos g2'] at hps
 obtain ⟨hs',o3,d3,i3,c3⟩:=hps
 have hso:sendsOk a (nextP a q2 q3 q4 q5):=⟨g0,g1,g2⟩
 have insrc:=Yu (n:=n.1)
 have bR:=Qa bR c3 (fun hh=>by have:=hm1 _ (insrc _ hh);omega)
 have bC:=Qa bC c3 (fun hh=>by have:=hl1 _ (insrc _ hh);omega)
 have bP:=Qa bP c3 (fun hh=>by have:=hl1 _ (insrc _ hh);omega)
 have op3:=Dt.chg (T:=dPk) on2.2 c3 (fun i hi hh=>hd.2.2 i (insrc _ hh) i hi rfl)
 obtain ⟨r',K4,hap,o4,c4,n4⟩:=op3.1.push (P:=Tryz.prog) (frz:=H.length) (ty:=49) (a:=((a.2.length:Int)+1,q2,q3,q4,q5)) (by simp) rfl (by have:=g0.2.1;omega) (fun i hi=>by have:=hm2 i hi;omega)
 simp only [Uj] at hap
 have bR4:=Qa bR c4 (fun hh=>by have:=hm2 _ hh;omega)
 have bC4:=Qa bC c4 (fun hh=>by have:=hl2 _ hh;omega)
 have l3:=c3.1
 have bC3:=fun L=>Qo bC L
 have bP3:=fun L=>Qo bP L
 have qr:=And.intro o4.rd.one' o4.rd.cells
 have gC:=Qg (r':=⟨[.int .i64 a.1.1.1,.int .i64 a.1.1.2.1,n.1.1,n.1.2.1.1,n.1.2.1.2,n.1.2.2.1.1,n.1.2.2.2.1,n.1.2.2.2.2.1,n.1.2.2.2.2.2.1.1,n.1.2.2.2.2.2.2.1.1,.int .i64 a.1.2.2.2.2.2.2.2,r'],0,51⟩) bC4
 have eC:Chg K4 (K4.set K.length ⟨[.int .i64 a.1.1.1,.int .i64 a.1.1.2.1,n.1.1,n.1.2.1.1,n.1.2.1.2,n.1.2.2.1.1,n.1.2.2.2.1,n.1.2.2.2.2.1,n.1.2.2.2.2.2.1.1,n.1.2.2.2.2.2.2.1.1,.int .i64 a.1.2.2.2.2.2.2.2,r'],0,51⟩) [K.length]:=Qe _ _
 have bR5:=Qa bR4 eC (by simp;omega)
 have gR:=Qg (r':=⟨[.int .i64 a.1.1.1,.int .i64 a.1.1.2.1,n.1.1,n.1.2.1.1,n.1.2.1.2,n.1.2.2.1.1,n.1.2.2.2.1,n.1.2.2.2.2.1,n.1.2.2.2.2.2.1.1,n.1.2.2.2.2.2.2.1.1,.int .i64 a.1.2.2.2.2.2.2.2,r'],0,51⟩) bR5
 have hFK:H.length≤K.length:=by omega
 simp [-Qq,-Qz,g2',VM.look,bC,bC3,bP,bP3,hap,bC4,qr,qn,gC,bR5,gR,hF,hFK]
 have hp1:∀i∈dNet.ids (putSrc n.1 (n.1.2.2.2.2.2.1.1,hs')),H.length+2≤i∧i∉VM.ids n.2∧i≠K.length∧i<K3.length:=fun i hi=>by
  have h9:=dNet.lt o3 i hi
  rcases i3 i hi with g|g
  ·exact ⟨hm1 i g,fun hh=>hd.2.2 i g i hh rfl,by have:=hl1 i g;omega,h9⟩
  ·exact ⟨by omega,fun hh=>by have:=hl2 i hh;omega,by omega,h9⟩
 have hp2:∀i∈VM.ids r',(i∈VM.ids n.2∨K3.length≤i)∧i≠K.length∧H.length+2≤i:=fun i hi=>by
  rcases n4 i hi with g|g
  ·exact ⟨.inl g,by have:=hl2 i g;omega,hm2 i g⟩
  ·exact ⟨.inr g,by omega,by omega⟩
 have fo1:=Dt.chg (T:=dNet) (Dt.chg (T:=dNet) o3 c4 (fun i hi=>(hp1 i hi).2.1)) eC (fun i hi hh=>by have:=(hp1 i hi).2.2.1;simp at hh;omega)
 have fo2:dPk.Ow (K4.set K.length ⟨[.int .i64 a.1.1.1,.int .i64 a.1.1.2.1,n.1.1,n.1.2.1.1,n.1.2.1.2,n.1.2.2.1.1,n.1.2.2.2.1,n.1.2.2.2.2.1,n.1.2.2.2.2.2.1.1,n.1.2.2.2.2.2.2.1.1,.int .i64 a.1.2.2.2.2.2.2.2,r'],0,51⟩) r' (a.2++[((a.2.length:Int)+1,q2,q3,q4,q5)]):=⟨o4.chg eC (fun i hi hh=>by have:=(hp2 i hi).2.1;simp at hh;omega),by have:=g0.2.1;simp;omega⟩
 have:=P0 (K:=K4.set K.length ⟨[.int .i64 a.1.1.1,.int .i64 a.1.1.2.1,n.1.1,n.1.2.1.1,n.1.2.1.2,n.1.2.2.1.1,n.1.2.2.2.1,n.1.2.2.2.2.1,n.1.2.2.2.2.2.1.1,n.1.2.2.2.2.2.2.1.1,.int .i64 a.1.2.2.2.2.2.2.2,r'],0,51⟩) (n:=(putSrc n.1 (n.1.2.2.2.2.2.1.1,hs'),r')) (y:=(sendNet a.1 ((a.2.length:Int)+1,q2,q3,q4,q5),a.2++[((a.2.length:Int)+1,q2,q3,q4,q5)])) (a:=a) (q2:=q2) (q3:=q3) (q4:=q4) (q5:=q5) (r:=⟨[.int .i64 a.1.1.1,.int .i64 a.1.1.2.1,n.1.1,n.1.2.1.1,n.1.2.1.2,n.1.2.2.1.1,n.1.2.2.2.1,n.1.2.2.2.2.1,n.1.2.2.2.2.2.1.1,n.1.2.2.2.2.2.2.1.1,.int .i64 a.1.2.2.2.2.2.2.2,r'],0,51⟩) (H:=H) rfl ⟨fo1,fo2⟩
  (((cK2.trans' c3 (fun i hi=>.inr (by have:=hm1 _ (insrc _ hi);omega))).trans' c4 (fun i hi=>.inr (by have:=hm2 _ hi;omega))).trans' eC (fun i hi=>.inr (by simp at hi;omega)))
  (fun i hi=>by
   rcases List.mem_append.1 hi with hi|hi
   ·exact (hp1 i hi).1
   ·exact (hp2 i hi).2.2)
  (List.nodup_append.2 ⟨d3,Qx r',fun x hx y hy e=>by
   subst e
   rcases (hp2 x hy).1 with g|g
   ·exact (hp1 x hx).2.1 g
   ·have:=(hp1 x hx).2.2.2;omega⟩)
  (if_pos hso) (decide_eq_true hso)
 exact this
def net0:NetD:=((0,0,[]),([],[]),[],[],[],[],[],0)
def netNew (m:MeshD) (t:ClassesD):NetD:=
 if classesOk m.1 m.2.1 m.2.2 t.1 t.2 then (m,t,List.replicate (10*(cnt m.1 m.2.1).toNat) [],List.replicate (10*(cnt m.1 m.2.1).toNat) (-1),List.replicate (5*(cnt m.1 m.2.1).toNat) 0,List.replicate (cnt m.1 m.2.1).toNat [],List.replicate (cnt m.1 m.2.1).toNat [],0) else net0
theorem emptyS {id n:Nat} (h:H[id]? = some ⟨List.replicate n (.slice none 0 0),0,145⟩) (hn:n≤2097152):dSS.Ow H (.slice (some ⟨id,0,some 0⟩) n 0,List.replicate n (.slice none 0 0)) (List.replicate n []):=by
 refine ⟨⟨.inr ⟨id,0,_,by simp,h,?_,by simp,rfl,?_⟩,by simp,fun j a xs ha hx=>?_⟩,by simpa using hn,fun xs hx=>?_⟩
 ·simp [cellsOf,Fl.val]
 ·simp [ones]
 ·rw [List.getElem?_replicate] at ha hx
  split at ha
  ·cases ha;rename_i hj;rw [if_pos hj] at hx;cases hx;exact .inl ⟨rfl,rfl⟩
  ·cases ha
 ·have:=List.eq_of_mem_replicate hx;subst this;simp
theorem zeroI {id n:Nat} (h:H[id]? = some ⟨List.replicate n (.int .i64 0),0,3⟩) (hn:n≤1073741824):dIntS.Ow H (.slice (some ⟨id,0,some 0⟩) n 0) (List.replicate n 0):=by
 refine ⟨.inr ⟨id,0,_,by simp,h,?_,by simp,rfl,?_⟩,by simpa using hn⟩
 ·rw [Q0];simp
 ·simp [ones]
theorem ssIds (id n m:Nat):dSS.ids (.slice (some ⟨id,0,some 0⟩) n 0,List.replicate m (.slice none 0 0))=[id]:=by
 show idsL _ _=_
 have:∀m,(List.replicate m (Value.slice none 0 0)).flatMap ids=[]:=fun m=>by
  induction m with
  | zero=>rfl
  | succ m ih=>rw [List.replicate_succ,List.flatMap_cons,ih];rfl
 unfold idsL;rw [this];rfl
def nV0:NetV:=(.slice none 0 0,(.slice none 0 0,.slice none 0 0),(.slice none 0 0,[]),.slice none 0 0,.slice none 0 0,(.slice none 0 0,[]),(.slice none 0 0,[]),())
theorem Tu:dNet.ids nV0=[]:=by simp [nV0,dNet,dNet0,dAnd,dSS,dMesh,dClasses,dIntS,dTable,dFlat,dNone,idsL,ids]
theorem Ie (K:Heap):dNet.Ow K nV0 net0:=by
 have e1:dIntS.Ow K (.slice none 0 0) []:=⟨.inl ⟨rfl,rfl⟩,by simp⟩
 have e2:dSS.Ow K (.slice none 0 0,[]) []:=⟨⟨.inl ⟨rfl,rfl⟩,rfl,by simp⟩,by simp,by simp⟩
 exact ⟨e1,⟨e1,e1⟩,e2,e1,e1,e2,e2,trivial⟩
theorem Gp {K:Heap} (c:Chg H K []):dNet.Made H net0 (.agg #[.int .i64 0,.int .i64 0,.slice none 0 0,.slice none 0 0,.slice none 0 0,.slice none 0 0,.slice none 0 0,.slice none 0 0,.slice none 0 0,.slice none 0 0,.int .i64 0]) K:=
 ⟨nV0,rfl,Ie K,c,by rw [Tu];simp,by rw [Tu];simp⟩
theorem I4 {vm:Value} {m:MeshD} {vc:Value×Value} {t:ClassesD} (om:dMesh.Ow H vm m) (oc:dClasses.Ow H vc t) :
 wp (vcall C frz 92 [dMesh.val vm m,dClasses.val vc t] H) (Made2 dNet H (netNew m t) (decide (classesOk m.1 m.2.1 m.2.2 t.1 t.2))):=by
 obtain ⟨w,h,b⟩:=m
 obtain ⟨A,B⟩:=t
 have onem:=Xl om
 have onec:=We oc
 obtain ⟨u1,u2⟩:=vc
 rw [Ww,Wd]
 simp only at onem onec ⊢
 rw [Qb (fn:=Tryz.f92) Tryz.func92 rfl (by kernel_rfl) rfl]
 have ck:=fun F L=>Oi (frz:=F) (H:=H++L) w h vm u1 u2 b A B (Rd.isI om.1.rd.app) (Rd.isI oc.1.1.rd.app) (Rd.isI oc.2.1.rd.app) om.2
 simp [onem,onec,ck]
 by_cases g0:classesOk w h b A B
 rotate_left
 ·simp [g0]
  have e:netNew (w,h,b) (A,B)=net0:=if_neg g0
  rw [e]
  exact ⟨_,rfl,Gp (Chg.app _)⟩
 obtain ⟨N,hN⟩:∃N:Nat,cnt w h=N:=⟨(cnt w h).toNat,by have:=Qh w h;omega⟩
 have hNr:=Qh w h
 have eN:(cnt w h).toNat=N:=by rw [hN];simp
 simp [g0,Q6]
 obtain ⟨G0,hG0⟩:∃G,G=H++[⟨[.int .i64 w,.int .i64 h,vm],0,42⟩,⟨[u1,u2],0,45⟩,⟨[.int .i64 0,.int .i64 0,.slice none 0 0,.slice none 0 0,.slice none 0 0,.slice none 0 0,.slice none 0 0,.slice none 0 0,.slice none 0 0,.slice none 0 0,.int .i64 0],0,48⟩]:=⟨_,rfl⟩
 have b0:G0[H.length]? = some ⟨[.int .i64 w,.int .i64 h,vm],0,42⟩:=by rw [hG0];simp
 have b1:G0[H.length+1]? = some ⟨[u1,u2],0,45⟩:=by rw [hG0];simp
 have bR:G0[H.length+2]? = some ⟨[.int .i64 0,.int .i64 0,.slice none 0 0,.slice none 0 0,.slice none 0 0,.slice none 0 0,.slice none 0 0,.slice none 0 0,.slice none 0 0,.slice none 0 0,.int .i64 0],0,48⟩:=by rw [hG0];simp
 have cH:Chg H G0 []:=by rw [hG0];exact Chg.app []
 have lH:G0.length=H.length+3:=by rw [hG0];simp
 rw [← hG0]
 clear hG0
 rw [Qf (h:=by kernel_rfl)]
 simp [VM.look,b0,onem,hN]
 have om0:dMesh.Ow G0 vm (w,h,b):=Dt.chg0 om cH
 have oc0:dClasses.Ow G0 (u1,u2) (A,B):=Dt.chg0 oc cH
 refine Qc (Gz w h vm b om0.1.rd.isI om0.2) ?_
 rintro _ G1 ⟨n1,rfl,o1,c1,m1,d1⟩
 have oc1:=Dt.chg0 oc0 c1
 have b1:=Qa b1 c1 (by simp)
 have bR:=Qa bR c1 (by simp)
 have onen:=Xl o1
 simp [VM.look,b1,onec]
 refine Qc (Nd u1 u2 A B oc1.1.1.rd.isI oc1.2.1.rd.isI oc1.1.2 oc1.2.2) ?_
 rintro _ G2 ⟨⟨n2,n3⟩,rfl,o2,c2,m2,d2⟩
 have lt1:=dMesh.lt o1
 have ltc:=dClasses.lt o2
 have o1:=Dt.chg0 o1 c2
 have bR:=Qa bR c2 (by simp)
 have onen2:=We o2
 obtain ⟨K5,hK5⟩:∃K,K=5*N:=⟨_,rfl⟩
 obtain ⟨K10,hK10⟩:∃K,K=10*N:=⟨_,rfl⟩
 have e5:∀[Inhabited Unit],IntKind.i64.wrap (5*(N:Int))=(K5:Int):=by intro _;rw [w64 (by omega) (by omega)];omega
 have e10:∀[Inhabited Unit],IntKind.i64.wrap (10*(N:Int))=(K10:Int):=by intro _;rw [w64 (by omega) (by omega)];omega
 have hk5:(K5:Int)≤1073741824:=by omega
 have hk10:(K10:Int)≤1073741824:=by omega
 have hk1:(N:Int)≤1073741824:=by omega
 have cH2:Chg H G2 []:=(cH.trans c1).trans c2
 have l2:=cH2.1
 have l01:=c1.1
 have l12:=c2.1
 have hz:H.length≤G2.length+1:=by omega
 have hz4:H.length≤G2.length+4:=by omega
 simp [Ww,Wd,onen,onen2,e5,e10,hk5,hk10,hk1,hz,hz4]
 obtain ⟨G4,hG4⟩:∃G,G=G2++[⟨List.replicate K10 (.slice none 0 0),0,145⟩,⟨List.replicate K5 (.int .i64 0),0,3⟩,⟨List.replicate N (.slice none 0 0),0,145⟩,⟨List.replicate N (.slice none 0 0),0,145⟩,⟨[.int .i64 w,.int .i64 h,n1,n2,n3,.slice (some ⟨G2.length,0,some 0⟩) K10 0,.slice none 0 0,.slice (some ⟨G2.length+1,0,some 0⟩) K5 0,.slice (some ⟨G2.length+2,0,some 0⟩) N 0,.slice (some ⟨G2.length+3,0,some 0⟩) N 0,.int .i64 0],0,48⟩]:=⟨_,rfl⟩
 have e4:G2++[⟨List.replicate K10 (.slice none 0 0),0,145⟩,⟨List.replicate K5 (.int .i64 0),0,3⟩,⟨List.replicate N (.slice none 0 0),0,145⟩,⟨List.replicate N (.slice none 0 0),0,145⟩,⟨[.int .i64 w,.int .i64 h,n1,n2,n3,.slice (some ⟨G2.length,0,some 0⟩) K10 0,.slice none 0 0,.slice (some ⟨G2.length+1,0,some 0⟩) K5 0,.slice (some ⟨G2.length+2,0,some 0⟩) N 0,.slice (some ⟨G2.length+3,0,some 0⟩) N 0,.int .i64 0],0,48⟩]=G4:=hG4.symm
 rw [e4]
 have l4:G4.length=G2.length+5:=by rw [hG4];simp
 have c4:Chg G2 G4 []:=by rw [hG4];exact Chg.app _
 have bN:G4[G2.length+4]? = some ⟨[.int .i64 w,.int .i64 h,n1,n2,n3,.slice (some ⟨G2.length,0,some 0⟩) K10 0,.slice none 0 0,.slice (some ⟨G2.length+1,0,some 0⟩) K5 0,.slice (some ⟨G2.length+2,0,some 0⟩) N 0,.slice (some ⟨G2.length+3,0,some 0⟩) N 0,.int .i64 0],0,48⟩:=by rw [hG4];simp
 have bR:G4[H.length+2]? = some ⟨[.int .i64 0,.int .i64 0,.slice none 0 0,.slice none 0 0,.slice none 0 0,.slice none 0 0,.slice none 0 0,.slice none 0 0,.slice none 0 0,.slice none 0 0,.int .i64 0],0,48⟩:=Qa bR c4 (by simp)
 have o1:=Dt.chg0 o1 c4
 have o2:=Dt.chg0 o2 c4
 have y3:dSS.Ow G4 (.slice (some ⟨G2.length,0,some 0⟩) K10 0,List.replicate K10 (.slice none 0 0)) (List.replicate K10 []):=emptyS (by rw [hG4];simp) (by omega)
 have y5:dIntS.Ow G4 (.slice (some ⟨G2.length+1,0,some 0⟩) K5 0) (List.replicate K5 0):=zeroI (by rw [hG4];simp) (by omega)
 have y6:dSS.Ow G4 (.slice (some ⟨G2.length+2,0,some 0⟩) N 0,List.replicate N (.slice none 0 0)) (List.replicate N []):=emptyS (by rw [hG4];simp) (by omega)
 have y7:dSS.Ow G4 (.slice (some ⟨G2.length+3,0,some 0⟩) N 0,List.replicate N (.slice none 0 0)) (List.replicate N []):=emptyS (by rw [hG4];simp) (by omega)
 clear hG4 e4
 refine Qi (fun n t G=>∃(i:Nat) (own:Value),n=K10-i∧i≤K10∧t 4=.pointer (some ⟨H.length+2,0,some 0⟩)∧t 6=.int .i64 N∧t 7=.pointer (some ⟨G2.length+4,0,some 0⟩)∧t 8=.int .i64 i∧Chg G4 G [G2.length+4]∧G[G2.length+4]? = some ⟨[.int .i64 w,.int .i64 h,n1,n2,n3,.slice (some ⟨G2.length,0,some 0⟩) K10 0,own,.slice (some ⟨G2.length+1,0,some 0⟩) K5 0,.slice (some ⟨G2.length+2,0,some 0⟩) N 0,.slice (some ⟨G2.length+3,0,some 0⟩) N 0,.int .i64 0],0,48⟩∧Ow Fl.int 3 G own (List.replicate i (-1))∧(∀j∈ids own,G4.length≤j)) ?_ (n:=K10)
  ⟨0,.slice none 0 0,rfl,by omega,by simp,by simp,by simp,by simp,Chg.refl _,bN,.inl ⟨rfl,rfl⟩,by simp⟩
 rintro n t G ⟨i,own,rfl,hi,t4,t6,t7,t8,ch,bb,oo,no⟩ ih
 have hF:H.length≤G2.length+4:=by omega
 simp [t4,t6,t7,t8,e10]
 refine Qd ?_ ?_<;>intro g
 ·obtain ⟨r',H2,hap,ow,cw,nw⟩:=oo.push (P:=Tryz.prog) (frz:=H.length) (ty:=24) (a:=-1) (by simp) rfl (by simp;omega) (fun j hj=>by have:=no j hj;omega)
  simp only [Fl.int_f] at hap
  have hlt:=Qt bb
  have bb1:=fun r=>Qo bb [r]
  have bb2:=Qa bb cw (fun hh=>by have:=no _ hh;omega)
  have h9:VM.one r'=true:=ow.rd.one'
  have h10:r'.cells=#[r']:=ow.rd.cells
  simp [-Qq,-Qz,t4,t6,t7,t8,VM.look,bb,bb1,bb2,hap,hF,h9,h10]
  have gR:=Qg (r':=⟨[.int .i64 w,.int .i64 h,n1,n2,n3,.slice (some ⟨G2.length,0,some 0⟩) K10 0,r',.slice (some ⟨G2.length+1,0,some 0⟩) K5 0,.slice (some ⟨G2.length+2,0,some 0⟩) N 0,.slice (some ⟨G2.length+3,0,some 0⟩) N 0,.int .i64 0],0,48⟩) bb2
  refine ih (K10-(i+1)) _ _ ⟨i+1,r',rfl,by omega,by simp [t4],by simp [t6],by simp [t7],?_,?_,gR,?_,fun j hj=>?_⟩ (by omega)
  ·simp [t8];rw [w64 (by omega) (by omega)]
  ·exact (ch.trans' cw (fun j hj=>.inr (no j hj))).trans' (Qe _ _) (fun j hj=>.inl (by simpa using hj))
  ·rw [List.replicate_succ'];exact ow.chg (Qe _ _) (fun j hj hh=>by
    simp at hh;subst hh
    rcases nw _ hj with h1|h1
    ·have:=no _ h1;omega
    ·have:=ch.1;omega)
  ·rcases nw j hj with h1|h1
   ·exact no j h1
   ·have:=ch.1;omega
 ·have hiK:i=K10:=by omega
  rw [hiK] at oo
  have gR:=Qa bR ch (by simp;omega)
  have hne:H.length≤H.length+2:=by omega
  have on1:=Dt.chg (T:=dMesh) o1 ch (fun j hj hh=>by have:=lt1 j hj;simp at hh;omega)
  have on2:=Dt.chg (T:=dClasses) o2 ch (fun j hj hh=>by have:=ltc j hj;simp at hh;omega)
  have on3:=Dt.chg (T:=dSS) y3 ch (fun j hj hh=>by rw [ssIds] at hj;simp at hj hh;omega)
  have on5:=Dt.chg (T:=dIntS) y5 ch (fun j hj hh=>by simp [dIntS,dFlat] at hj hh;omega)
  have on6:=Dt.chg (T:=dSS) y6 ch (fun j hj hh=>by rw [ssIds] at hj;simp at hj hh;omega)
  have on7:=Dt.chg (T:=dSS) y7 ch (fun j hj hh=>by rw [ssIds] at hj;simp at hj hh;omega)
  have on4:dIntS.Ow G own (List.replicate K10 (-1)):=⟨oo,by simp;omega⟩
  have q4:=Yr on4
  have hio:ids own=[]∨∃x,ids own=[x]∧G4.length≤x:=by
   rcases oo with ⟨e,_⟩|⟨x,off,r,e,_⟩
   ·left;rw [e];rfl
   ·right;exact ⟨x,by rw [e];rfl,no x (by rw [e];simp [ids])⟩
  have gR2:=Qg (r':=⟨[.int .i64 w,.int .i64 h,n1,n2,n3,.slice (some ⟨G2.length,0,some 0⟩) K10 0,own,.slice (some ⟨G2.length+1,0,some 0⟩) K5 0,.slice (some ⟨G2.length+2,0,some 0⟩) N 0,.slice (some ⟨G2.length+3,0,some 0⟩) N 0,.int .i64 0],0,48⟩) gR
  have hF2:H.length≤H.length+2:=by omega
  simp [t4,t6,t7,t8,e10,VM.look,bb,gR,onen,onen2,q4,hF2,gR2]
  have eR:Chg G (G.set (H.length+2) ⟨[.int .i64 w,.int .i64 h,n1,n2,n3,.slice (some ⟨G2.length,0,some 0⟩) K10 0,own,.slice (some ⟨G2.length+1,0,some 0⟩) K5 0,.slice (some ⟨G2.length+2,0,some 0⟩) N 0,.slice (some ⟨G2.length+3,0,some 0⟩) N 0,.int .i64 0],0,48⟩) [H.length+2]:=Qe _ _
  have on1:=Dt.chg (T:=dMesh) on1 eR (fun j hj hh=>by have:=m1 j hj;simp at hh;omega)
  have on2:=Dt.chg (T:=dClasses) on2 eR (fun j hj hh=>by have:=m2 j hj;simp at hh;omega)
  have on3:=Dt.chg (T:=dSS) on3 eR (fun j hj hh=>by rw [ssIds] at hj;simp at hj hh;omega)
  have on4:=Dt.chg (T:=dIntS) on4 eR (fun j hj hh=>by have:=no j hj;simp at hh;omega)
  have on5:=Dt.chg (T:=dIntS) on5 eR (fun j hj hh=>by simp [dIntS,dFlat] at hj hh;omega)
  have on6:=Dt.chg (T:=dSS) on6 eR (fun j hj hh=>by rw [ssIds] at hj;simp at hj hh;omega)
  have on7:=Dt.chg (T:=dSS) on7 eR (fun j hj hh=>by rw [ssIds] at hj;simp at hj hh;omega)
  have e:netNew (w,h,b) (A,B)=((w,h,b),(A,B),List.replicate K10 [],List.replicate K10 (-1),List.replicate K5 0,List.replicate N [],List.replicate N [],0):=by
   unfold netNew;rw [if_pos g0];simp only [eN,hK5,hK10]
  have rest:∀l,dSS.ids (.slice (some ⟨G2.length,0,some 0⟩) K10 0,List.replicate K10 (.slice none 0 0))++(dIntS.ids own++(dIntS.ids (.slice (some ⟨G2.length+1,0,some 0⟩) K5 0)++(dSS.ids (.slice (some ⟨G2.length+2,0,some 0⟩) N 0,List.replicate N (.slice none 0 0))++(dSS.ids (.slice (some ⟨G2.length+3,0,some 0⟩) N 0,List.replicate N (.slice none 0 0))++[]))))=l→l.Nodup∧∀i∈l,G2.length≤i:=by
   intro l hl
   rw [ssIds,ssIds,ssIds,show dIntS.ids own=ids own from rfl] at hl
   rcases hio with hx|⟨x,hx,hx2⟩<;>rw [hx] at hl<;>simp [dIntS,dFlat] at hl<;>subst hl
   ·refine ⟨by simp,fun i hi=>?_⟩
    simp at hi;omega
   ·refine ⟨by simp;omega,fun i hi=>?_⟩
    simp at hi;omega
  obtain ⟨r1,r2⟩:=rest _ rfl
  refine ⟨_,rfl,(n1,(n2,n3),(.slice (some ⟨G2.length,0,some 0⟩) K10 0,List.replicate K10 (.slice none 0 0)),own,.slice (some ⟨G2.length+1,0,some 0⟩) K5 0,(.slice (some ⟨G2.length+2,0,some 0⟩) N 0,List.replicate N (.slice none 0 0)),(.slice (some ⟨G2.length+3,0,some 0⟩) N 0,List.replicate N (.slice none 0 0)),()),?_,?_,?_,fun i hi=>?_,?_⟩
  ·rw [e];rfl
  ·rw [e];exact ⟨on1,on2,on3,on4,on5,on6,on7,trivial⟩
  ·exact ((cH2.trans c4).trans' ch (fun j hj=>.inr (by simp at hj;omega))).trans' eR (fun j hj=>.inr (by simp at hj;omega))
  ·rcases List.mem_append.1 hi with hi|hi
   ·have:=m1 i hi;omega
   rcases List.mem_append.1 hi with hi|hi
   ·have:=m2 i hi;omega
   have:=r2 i hi;omega
  ·refine Ym d1 (Ym d2 r1 ltc r2) lt1 (fun i hi=>?_)
   rcases List.mem_append.1 hi with hi|hi
   ·exact m2 i hi
   ·have:=r2 i hi;omega
def alongP (x g:Int):Int:=if x<g then 1 else if g<x then 3 else -1
def acrossP (y g:Int):Int:=if y<g then 2 else if g<y then 0 else -1
def stdPort (w r a to:Int):Int:=
 if a=to then 4 else
 if acrossP (a/w) (to/w)<0∨(0≤alongP (a%w) (to%w)∧((if r=4 then 1+to%2 else r)=1∨((if r=4 then 1+to%2 else r)=3∧alongP (a%w) (to%w)=3))) then alongP (a%w) (to%w) else acrossP (a/w) (to/w)
def stdTab (w r:Int) (n:Nat):List Int:=(List.range (n*n)).map fun i=>stdPort w r (i/n:Nat) (i%n:Nat)
theorem Up (w r:Int) (n:Nat):(stdTab w r n).length=n*n:=by simp [stdTab]
theorem J9 (x g:Int):vcall C frz 235 [.int .i64 x,.int .i64 g] H=some (.int .i64 (alongP x g),H):=by
 rw [Qb (fn:=Tryz.f235) Tryz.func235 rfl (by kernel_rfl) rfl]
 simp
 refine Qp _ ?_ ?_<;>intro h1<;>simp [h1,alongP]
 refine Qp _ ?_ ?_<;>intro h2<;>simp [h2]
theorem Lo (x g:Int):vcall C frz 236 [.int .i64 x,.int .i64 g] H=some (.int .i64 (acrossP x g),H):=by
 rw [Qb (fn:=Tryz.f236) Tryz.func236 rfl (by kernel_rfl) rfl]
 simp
 refine Qp _ ?_ ?_<;>intro h1<;>simp [h1,acrossP]
 refine Qp _ ?_ ?_<;>intro h2<;>simp [h2]
theorem Gg (w h r a to:Int) (hr:1≤r∧r≤4) (ha:isN w h a) (hto:isN w h to) :
 vcall C frz 212 [.agg #[.int .i64 w,.int .i64 h],.int .i64 r,.int .i64 a,.int .i64 to] H=some (.int .i64 (stdPort w r a to),H):=by
 rw [Qb (fn:=Tryz.f212) Tryz.func212 rfl (by kernel_rfl) rfl]
 obtain ⟨hg,a0,_,a1⟩:=Yl ha
 obtain ⟨_,t0,_,t1⟩:=Yl hto
 have hw:=hg.1
 have hir:inR 1 r 4:=hr
 have wz:¬w=0:=by omega
 have e1:a.tmod w=a%w:=Int.tmod_eq_emod_of_nonneg a0
 have e2:to.tmod w=to%w:=Int.tmod_eq_emod_of_nonneg t0
 have e3:a.tdiv w=a/w:=Int.tdiv_eq_ediv_of_nonneg a0
 have e4:to.tdiv w=to/w:=Int.tdiv_eq_ediv_of_nonneg t0
 have e5:to.tmod 2=to%2:=Int.tmod_eq_emod_of_nonneg t0
 have d1:0≤a/w∧a/w≤a:=⟨Int.ediv_nonneg a0 (by omega),Int.ediv_le_self _ a0⟩
 have d2:0≤to/w∧to/w≤to:=⟨Int.ediv_nonneg t0 (by omega),Int.ediv_le_self _ t0⟩
 have f3:=@w6 (a/w) (by omega)
 have f4:=@w6 (to/w) (by omega)
 have f5:=@w6 (1+to%2) (by omega)
 simp [Wp,ha,hto,Qk,hir]
 refine Qp _ ?_ ?_<;>intro h4
 ·subst h4
  simp [e5,f5]
  rw [Qf (h:=by kernel_rfl)]
  simp [VM.look,wz,e1,e2,e3,e4,f3,f4,J9,Lo]
  refine Qp _ ?_ ?_<;>intro h5
  ·simp [h5,stdPort]
  ·have est:stdPort w 4 a to=if acrossP (a/w) (to/w)<0∨(0≤alongP (a%w) (to%w)∧(1+to%2=1∨(1+to%2=3∧alongP (a%w) (to%w)=3))) then alongP (a%w) (to%w) else acrossP (a/w) (to/w):=by simp [stdPort,h5]
   rw [est]
   generalize alongP (a%w) (to%w)=X
   generalize acrossP (a/w) (to/w)=Y
   generalize 1+to%2=R
   simp
   by_cases q1:Y<0
   ·simp [q1]
   ·by_cases q2:0≤X
    ·by_cases q3:R=1
     ·simp [q1,q2,q3]
     ·by_cases q4:R=3
      ·by_cases q5:X=3
       ·simp [q1,q2,q3,q4,q5]
       ·simp [q1,q2,q3,q4,q5]
      ·simp [q1,q2,q3,q4]
    ·simp [q1,q2]
 ·simp [h4]
  rw [Qf (h:=by kernel_rfl)]
  simp [VM.look,wz,e1,e2,e3,e4,f3,f4,J9,Lo]
  refine Qp _ ?_ ?_<;>intro h5
  ·simp [h5,stdPort]
  ·have est:stdPort w r a to=if acrossP (a/w) (to/w)<0∨(0≤alongP (a%w) (to%w)∧(r=1∨(r=3∧alongP (a%w) (to%w)=3))) then alongP (a%w) (to%w) else acrossP (a/w) (to/w):=by simp [stdPort,h4,h5]
   rw [est]
   generalize alongP (a%w) (to%w)=X
   generalize acrossP (a/w) (to/w)=Y
   simp
   by_cases q1:Y<0
   ·simp [q1]
   ·by_cases q2:0≤X
    ·by_cases q3:r=1
     ·simp [q1,q2,q3]
     ·by_cases q4:r=3
      ·by_cases q5:X=3
       ·simp [q1,q2,q3,q4,q5]
       ·simp [q1,q2,q3,q4,q5]
      ·simp [q1,q2,q3,q4]
    ·simp [q1,q2]
theorem Rg (w h r:Int) (n:Nat) (hr:1≤r∧r≤4) (hg:okG w h) (hn:cnt w h=n) :
 wp (vcall C frz 183 [.agg #[.int .i64 w,.int .i64 h],.int .i64 r] H) (Made2 dTable H (stdTab w r n) true):=by
 rw [Qb (fn:=Tryz.f183) Tryz.func183 rfl (by kernel_rfl) rfl]
 have hc:=Qh w h
 have hir:inR 1 r 4:=hr
 have hn2:n*n≤256:=Nat.mul_le_mul (show n≤16 by omega) (show n≤16 by omega)
 simp [Uz,hg,Qk,hir,Wa,hn]
 refine Qi (fun m t H'=>∃(i:Nat) (vo:Value) (o:List Int),m=n-i∧i≤n∧o=(List.range (i*n)).map (fun i=>stdPort w r (i/n:Nat) (i%n:Nat))∧
  t 1=.int .i64 r∧t 2=.pointer (some ⟨H.length,0,some 0⟩)∧t 4=.pointer (some ⟨H.length+1,0,some 0⟩)∧t 6=.pointer (some ⟨H.length+2,0,some 0⟩)∧t 20=.int .i64 n∧t 21=.int .i64 i∧
  Chg H H' []∧H'[H.length]? = some ⟨[.int .i64 w,.int .i64 h],0,40⟩∧H'[H.length+1]? = some ⟨[.slice none 0 0],0,43⟩∧H'[H.length+2]? = some ⟨[vo],0,43⟩∧
  Ow Fl.int 3 H' vo o∧(∀i∈ids vo,H.length+2<i)) ?_ (n:=n) ⟨0,.slice none 0 0,[],by simp,by omega,by simp,by simp,by simp,by simp,by simp,by simp,by simp,Chg.app _,by simp,by simp,by simp,.inl ⟨rfl,rfl⟩,by simp⟩
 rintro m t H' ⟨i,vo,o,rfl,hi,ho,h1,h2,h4,h6,h20,h21,c0,b2,b4,b6,oo,no⟩ ih
 simp [h1,h2,h4,h6,h20,h21]
 refine Qd ?_ ?_<;>intro hin
 ·have hin':i<n:=by omega
  simp [h1,h2,h4,h6,h20,h21,VM.look,b2,Wa,hn]
  refine Qi (fun m t H'=>∃(j:Nat) (vo:Value) (o:List Int),m=n-j∧j≤n∧o=(List.range (i*n+j)).map (fun i=>stdPort w r (i/n:Nat) (i%n:Nat))∧
   t 1=.int .i64 r∧t 2=.pointer (some ⟨H.length,0,some 0⟩)∧t 4=.pointer (some ⟨H.length+1,0,some 0⟩)∧t 6=.pointer (some ⟨H.length+2,0,some 0⟩)∧t 20=.int .i64 n∧t 21=.int .i64 i∧
   t 7=.int .i64 i∧t 25=.int .i64 n∧t 26=.int .i64 j∧
   Chg H H' []∧H'[H.length]? = some ⟨[.int .i64 w,.int .i64 h],0,40⟩∧H'[H.length+1]? = some ⟨[.slice none 0 0],0,43⟩∧H'[H.length+2]? = some ⟨[vo],0,43⟩∧
   Ow Fl.int 3 H' vo o∧(∀i∈ids vo,H.length+2<i)) ?_ (n:=n) ⟨0,vo,o,by simp,by omega,by simpa using ho,by simp [h1],by simp [h2],by simp [h4],by simp [h6],by simp [h20],by simp [h21],by simp,by simp,by simp,c0,b2,b4,b6,oo,no⟩
  clear h1 h2 h4 h6 h20 h21 c0 b2 b4 b6 oo no ho
  rintro m t H' ⟨j,vo,o,rfl,hj,ho,h1,h2,h4,h6,h20,h21,h7,h25,h26,c0,b2,b4,b6,oo,no⟩ ih2
  simp [h1,h2,h4,h6,h20,h21,h7,h25,h26]
  refine Qd ?_ ?_<;>intro hjn
  ·have hjn':j<n:=by omega
   have hol:o.length=i*n+j:=by rw [ho];simp
   have hsm:i*n+j<n*n:=by
    have:=Nat.mul_le_mul_right n (show i+1≤n by omega)
    rw [Nat.succ_mul] at this;omega
   have hdv:(i*n+j)/n=i:=by rw [Nat.mul_comm,Nat.mul_add_div (by omega),Nat.div_eq_of_lt hjn'];omega
   have hmd:(i*n+j)%n=j:=by rw [Nat.mul_comm,Nat.mul_add_mod,Nat.mod_eq_of_lt hjn']
   have sp:=fun F L=>Gg (frz:=F) (H:=L) w h r i j hr ⟨by omega,by omega⟩ ⟨by omega,by omega⟩
   have hx:stdPort w r ((i*n+j)/n:Nat) ((i*n+j)%n:Nat)=stdPort w r i j:=by rw [hdv,hmd]
   simp [h1,h2,h4,h6,h20,h21,h7,h25,h26]
   rw [Qf (h:=by kernel_rfl)]
   obtain ⟨vo',H3,e3,oo3,c3,n3⟩:=oo.push (P:=Tryz.prog) (frz:=H.length) (ty:=24) (a:=stdPort w r i j) (by simp) rfl (by omega) (fun i hi=>by have:=no i hi;omega)
   simp only [Fl.int_f] at e3
   have lc:=Qt b6
   have b2':=Qa b2 c3 (fun hh=>by have:=no _ hh;omega)
   have b4':=Qa b4 c3 (fun hh=>by have:=no _ hh;omega)
   have b6':=Qa b6 c3 (fun hh=>by have:=no _ hh;omega)
   have no3:∀i∈ids vo',H.length+2<i:=fun i hi=>by rcases n3 i hi with h|h;exact no i h;omega
   have one:=And.intro oo.rd.one' oo.rd.cells
   have one3:=And.intro oo3.rd.one' oo3.rd.cells
   have hF:H.length≤H.length+2:=by omega
   simp [VM.look,b2,b6,sp,one,e3,b6',one3,h1,h2,h4,h6,h20,h21,h7,h25,h26]
   refine ih2 (n-(j+1)) _ _ ⟨j+1,vo',o++[stdPort w r i j],rfl,by omega,?_,by simp [h1],by simp [h2],by simp [h4],by simp [h6],by simp [h20],by simp [h21],by simp [h7],by simp [h25],?_,
    (c0.trans' c3 (fun i hi=>.inr (by have:=no i hi;omega))).trans' (Qe _ _) (fun i hi=>.inr (by simp at hi;omega)),Qa b2' (Qe _ _) (by simp),Qa b4' (Qe _ _) (by simp),Qg b6',
    oo3.chg (Qe _ _) (fun i hi hh=>by have:=no3 i hi;simp at hh;omega),no3⟩ (by omega)
   ·rw [← Nat.add_assoc,List.range_succ,List.map_append,← ho];simp only [List.map_cons,List.map_nil,hdv,hmd]
   ·simp;rw [w64 (by omega) (by omega)]
  ·have:j=n:=by omega
   subst this
   simp [h1,h2,h4,h6,h20,h21,h7,h25,h26]
   refine ih (j-(i+1)) _ _ ⟨i+1,vo,o,rfl,by omega,by rw [Nat.succ_mul];exact ho,by simp [h1],by simp [h2],by simp [h4],by simp [h6],by simp [h20],?_,c0,b2,b4,b6,oo,no⟩ (by omega)
   simp;rw [w64 (by omega) (by omega)]
 ·have:i=n:=by omega
  subst this
  have lc:=Qt b6
  have one:=And.intro oo.rd.one' oo.rd.cells
  have g4:=Qg (r':=⟨[vo],0,43⟩) b4
  have hol:o.length=i*i:=by rw [ho];simp
  have hF:H.length≤H.length+1:=by omega
  simp [h1,h2,h4,h6,h20,h21,VM.look,b6,b4,one,g4,hF]
  exact ⟨.agg #[vo],rfl,vo,rfl,⟨(by rw [show stdTab w r i=o from ho.symm];exact oo.chg (Qe _ _) (fun i hi hh=>by have:=no i hi;simp at hh;omega)),by rw [Up];omega⟩,c0.trans' (Qe _ _) (fun i hi=>.inr (by simp at hi;omega)),fun i hi=>by have:=no i hi;omega,Qx vo⟩
theorem Bq (w r a to:Int) (hw:1≤w) (ha:0≤a) (ht:0≤to) (hne:a≠to) (R:Int) (hR:R=if r=4 then 1+to%2 else r) :
 stdPort w r a to=(if (if R=2 then a/w=to/w else if R=3 then to%w<a%w∨a/w=to/w else a%w≠to%w) then (if to%w<a%w then 3 else 1) else (if to/w<a/w then 0 else 2))∨¬(1≤R∧R≤3):=by
 have h1:=Int.emod_add_mul_ediv a w
 have h2:=Int.emod_add_mul_ediv to w
 have h3:¬(a%w=to%w∧a/w=to/w):=fun ⟨e1,e2⟩=>hne (by rw [← h1,← h2,e1,e2])
 unfold stdPort
 rw [if_neg hne,← hR]
 generalize a%w=X at *
 generalize to%w=U at *
 generalize a/w=Y at *
 generalize to/w=V at *
 by_cases hr:1≤R∧R≤3
 rotate_left
 ·exact .inr hr
 left
 unfold alongP acrossP
 obtain rfl|rfl|rfl:R=1∨R=2∨R=3:=by omega
 all_goals simp
 all_goals (repeat' split)<;>first|rfl|omega
theorem Wg (x g:Int):vcall C frz 166 [.int .i64 x,.int .i64 g] H=some (.int .i64 (if g<x then 3 else 1),H):=by
 rw [Qb (fn:=Tryz.f166) Tryz.func166 rfl (by kernel_rfl) rfl]
 simp
 refine Qp _ ?_ ?_<;>intro h1<;>simp [h1]
theorem W4 (x g:Int):vcall C frz 167 [.int .i64 x,.int .i64 g] H=some (.int .i64 (if g<x then 0 else 2),H):=by
 rw [Qb (fn:=Tryz.f167) Tryz.func167 rfl (by kernel_rfl) rfl]
 simp
 refine Qp _ ?_ ?_<;>intro h1<;>simp [h1]
theorem I3 (w h r a to:Int) (hr:1≤r∧r≤4) (ha:isN w h a) (hto:isN w h to) :
 vcall C frz 122 [.agg #[.int .i64 w,.int .i64 h],.int .i64 r,.int .i64 a,.int .i64 to] H=some (.int .i64 (stdPort w r a to),H):=by
 rw [Qb (fn:=Tryz.f122) Tryz.func122 rfl (by kernel_rfl) rfl]
 obtain ⟨hg,a0,_,a1⟩:=Yl ha
 obtain ⟨_,t0,_,t1⟩:=Yl hto
 have hw:=hg.1
 have wz:¬w=0:=by omega
 have e1:a.tmod w=a%w:=Int.tmod_eq_emod_of_nonneg a0
 have e2:to.tmod w=to%w:=Int.tmod_eq_emod_of_nonneg t0
 have e3:a.tdiv w=a/w:=Int.tdiv_eq_ediv_of_nonneg a0
 have e4:to.tdiv w=to/w:=Int.tdiv_eq_ediv_of_nonneg t0
 have e5:to.tmod 2=to%2:=Int.tmod_eq_emod_of_nonneg t0
 have d1:0≤a/w∧a/w≤a:=⟨Int.ediv_nonneg a0 (by omega),Int.ediv_le_self _ a0⟩
 have d2:0≤to/w∧to/w≤to:=⟨Int.ediv_nonneg t0 (by omega),Int.ediv_le_self _ t0⟩
 have f3:=@w6 (a/w) (by omega)
 have f4:=@w6 (to/w) (by omega)
 have f5:=@w6 (1+to%2) (by omega)
 have key:a≠to→∀R,(R=if r=4 then 1+to%2 else r)→1≤R→R≤3→stdPort w r a to=if (if R=2 then a/w=to/w else if R=3 then to%w<a%w∨a/w=to/w else a%w≠to%w) then (if to%w<a%w then 3 else 1) else (if to/w<a/w then 0 else 2):=fun hne R hR r1 r2=>by
  rcases Bq w r a to hw.1 a0 t0 hne R hR with h|h
  ·exact h
  ·exact absurd ⟨r1,r2⟩ h
 simp [VM.look,wz,e1,e2,e3,e4,f3,f4]
 by_cases h4:a=to
 ·subst h4;simp [stdPort]
 have key:=key h4
 clear e1 e2 e3 e4 f3 f4
 generalize a%w=X at *
 generalize to%w=U at *
 generalize a/w=Y at *
 generalize to/w=V at *
 generalize stdPort w r a to=Z at *
 simp [h4]
 have k1:∀[Inhabited Unit],IntKind.i64.wrap 1=1:=by intro _;exact w64 (by omega) (by omega)
 have k2:∀[Inhabited Unit],IntKind.i64.wrap 2=2:=by intro _;exact w64 (by omega) (by omega)
 by_cases r4:r=4
 ·have key:=key _ (if_pos r4).symm (by omega) (by omega)
  have m2:to%2=0∨to%2=1:=by omega
  rcases m2 with m2|m2<;>simp only [m2] at key f5
  ·simp [r4,e5,m2,f5,Wg,W4,k1,k2]
   by_cases h5:X=U<;>simp [h5] at key<;>simp [h5,key,Wg,W4,k1,k2]
  ·simp [r4,e5,m2,f5,Wg,W4,k1,k2]
   by_cases h5:Y=V<;>simp [h5] at key<;>simp [h5,key,Wg,W4,k1,k2]
 ·have key:=key _ (if_neg r4).symm (by omega) (by omega)
  obtain rfl|rfl|rfl:r=1∨r=2∨r=3:=by omega
  ·simp [Wg,W4,k1,k2]
   by_cases h5:X=U<;>simp [h5] at key<;>simp [h5,key,Wg,W4,k1,k2]
  ·simp [Wg,W4,k1,k2]
   by_cases h5:Y=V<;>simp [h5] at key<;>simp [h5,key,Wg,W4,k1,k2]
  ·simp [Wg,W4,k1,k2]
   by_cases h5:U<X
   ·simp [h5] at key;simp [h5,key,Wg,W4,k1,k2]
   ·by_cases h6:Y=V<;>simp [h5,h6] at key<;>simp [h5,h6,key,Wg,W4,k1,k2]
end Go.Proofs.YtlhaeingdonaeaaGreat.V
set_option linter.all false
namespace Go.Proofs.YtlhaeingdonaeaaGreat.V
open Go Go.VM Go.Proofs
set_option maxRecDepth 100000
abbrev rPort (r w a to:Int):Int:=stdPort w r a to
def walkR (r w h to:Int):Nat→Int→List Int→List Int
 | 0,a,out=>if rPort r w a to=4 then (if a=to then out else []) else []
 | f+1,a,out=>if rPort r w a to=4 then (if a=to then out else []) else
  if inR 0 (rPort r w a to) 3∧leads w h (4*a+rPort r w a to) then walkR r w h to f (next w h a (rPort r w a to)) (out++[4*a+rPort r w a to]) else []
theorem S1 {r w h a to:Int} {n:Nat} (hn:cnt w h=n) (ha:isN w h a) (hto:isN w h to):portOf w h (stdTab w r n) a to=rPort r w a to:=by
 obtain ⟨i,rfl⟩:=Int.eq_ofNat_of_zero_le ha.1
 obtain ⟨j,rfl⟩:=Int.eq_ofNat_of_zero_le hto.1
 have h1:=ha.2
 have h2:=hto.2
 unfold portOf rd
 have hj:j<n:=by omega
 have hi:i<n:=by omega
 have hsm:i*n+j<n*n:=by
  have:=Nat.mul_le_mul_right n (show i+1≤n by omega)
  rw [Nat.succ_mul] at this;omega
 have hdv:(i*n+j)/n=i:=by rw [Nat.mul_comm,Nat.mul_add_div (by omega),Nat.div_eq_of_lt hj];omega
 have hmd:(i*n+j)%n=j:=by rw [Nat.mul_comm,Nat.mul_add_mod,Nat.mod_eq_of_lt hj]
 rw [hn,show ((i:Int)*(n:Int)+(j:Int)).toNat=i*n+j by rw [← Int.natCast_mul,← Int.natCast_add];rfl]
 rw [stdTab,List.getD_eq_getElem?_getD,List.getElem?_map,List.getElem?_range hsm]
 simp only [Option.map_some,Option.getD_some,hdv,hmd]
theorem Ju {r w h to:Int} {n:Nat} (hn:cnt w h=n) (hg:okG w h) (hto:isN w h to):∀f a out,isN w h a→walkN w h [] (stdTab w r n) to f a out=walkR r w h to f a out
 | 0,a,out,ha=>by simp only [walkN,walkR,S1 hn ha hto]
 | f+1,a,out,ha=>by
  simp only [walkN,walkR,S1 hn ha hto,stepOk]
  have e:(inR 0 (rPort r w a to) 3∧has w h [] (4*a+rPort r w a to))↔(inR 0 (rPort r w a to) 3∧leads w h (4*a+rPort r w a to)):=by simp [has]
  by_cases h1:rPort r w a to=4
  ·simp [h1]
  ·simp only [h1,if_false]
   by_cases h2:inR 0 (rPort r w a to) 3∧leads w h (4*a+rPort r w a to)
   ·rw [if_pos (e.2 h2),if_pos h2]
    obtain ⟨h3,h4⟩:=e.2 h2
    exact Ju hn hg hto f _ _ (X3 h3 h4).2.2
   ·rw [if_neg (fun k=>h2 (e.1 k)),if_neg h2]
def wkR (r w h:Int) (n:Nat) (a to:Int):List Int:=walkR r w h to n a []
theorem wy {r w h a to:Int} {n:Nat} (hn:cnt w h=n) (hg:okG w h) (ha:isN w h a) (hto:isN w h to):walk w h [] (stdTab w r n) a to=wkR r w h n a to:=by
 unfold walk wkR
 rw [Ju hn hg hto _ _ _ ha,hn];rfl
def chkR1 (r w h:Int) (n:Nat) (a to:Int):Bool:=decide (a=to) || !(wkR r w h n a to).isEmpty
def chkR (r w h n:Nat):Bool:=(List.range n).all fun a=>(List.range n).all fun to=>chkR1 r w h n a to
theorem D6:((List.range 4).all fun r=>(List.range 4).all fun w=>(List.range 4).all fun h=>chkR (r+1) (w+1) (h+1) ((w+1)*(h+1)))=true:=by kernel_rfl
theorem Bx {r w h a to:Int} {n:Nat} (hr:1≤r∧r≤4) (hg:okG w h) (hn:cnt w h=n) (ha:isN w h a) (hto:isN w h to):chkR1 r w h n a to=true:=by
 obtain ⟨⟨w0,w1⟩,h0,h1⟩:=hg
 obtain ⟨i,hi⟩:∃i:Nat,w=((i+1:Nat):Int):=⟨(w-1).toNat,by omega⟩
 obtain ⟨j,hj⟩:∃j:Nat,h=((j+1:Nat):Int):=⟨(h-1).toNat,by omega⟩
 obtain ⟨q,hq⟩:∃j:Nat,r=((j+1:Nat):Int):=⟨(r-1).toNat,by omega⟩
 obtain ⟨k,rfl⟩:=Int.eq_ofNat_of_zero_le ha.1
 obtain ⟨l,rfl⟩:=Int.eq_ofNat_of_zero_le hto.1
 have e9:=D6
 rw [List.all_eq_true] at e9
 have e0:=e9 q (List.mem_range.2 (by omega))
 rw [List.all_eq_true] at e0
 have e1:=e0 i (List.mem_range.2 (by omega))
 rw [List.all_eq_true] at e1
 have e2:=e1 j (List.mem_range.2 (by omega))
 have hk:=ha.2
 have hl:=hto.2
 have hnn:n=(i+1)*(j+1):=by
  rw [cnt,if_pos ⟨⟨w0,w1⟩,h0,h1⟩,hi,hj,← Int.natCast_mul] at hn;omega
 rw [chkR,List.all_eq_true] at e2
 have e3:=e2 k (List.mem_range.2 (by omega))
 rw [List.all_eq_true] at e3
 have e4:=e3 l (List.mem_range.2 (by omega))
 rw [hi,hj,hq,hnn];exact e4
theorem Ec {r w h:Int} {n:Nat} (hr:1≤r∧r≤4) (hg:okG w h) (hn:cnt w h=n):tableOk w h [] (stdTab w r n):=by
 refine ⟨⟨⟨by simp,hg⟩,by rw [Up,hn,Int.natCast_mul]⟩,fun a ha c hc=>⟨fun e=>?_,fun e=>?_⟩⟩
 ·subst e
  rw [S1 hn (Wn ha) (Wn ha)];simp [stdPort]
 ·rw [wy hn hg (Wn ha) (Wn hc)]
  have c:=Bx hr hg hn (Wn ha) (Wn hc)
  rw [chkR1] at c
  simp at c
  rcases c with c|c
  ·omega
  ·exact c
end Go.Proofs.YtlhaeingdonaeaaGreat.V
set_option linter.all false
namespace Go.Proofs.YtlhaeingdonaeaaGreat.V
open Go Go.VM Go.Proofs
set_option maxRecDepth 10000
variable {frz:Nat} {H:Heap}
theorem Fr (w h r:Int) (n:Nat) (hr:1≤r∧r≤4) (hg:okG w h) (hn:cnt w h=n) :
 wp (vcall C frz 70 [.agg #[.int .i64 w,.int .i64 h],.int .i64 r] H) (dTable.Made H (stdTab w r n)):=by
 rw [Qb (fn:=Tryz.f70) Tryz.func70 rfl (by kernel_rfl) rfl]
 have hc:=Qh w h
 have hn2:n*n≤256:=Nat.mul_le_mul (show n≤16 by omega) (show n≤16 by omega)
 have hn2':(n:Int)*(n:Int)≤256:=by
  have:((n*n:Nat):Int)≤256:=by omega
  rwa [Int.natCast_mul] at this
 obtain ⟨M,hM⟩:∃M:Nat,M=n*n:=⟨_,rfl⟩
 have eM:∀[Inhabited Unit],IntKind.i64.wrap ((n:Int)*n)=(M:Int):=by intro _;rw [hM,Int.natCast_mul];exact w64 (by have:=Int.natCast_nonneg (n*n);rw [Int.natCast_mul] at this;omega) (by omega)
 simp [Q6,hn]
 refine Qi (fun m t H'=>∃(i:Nat) (vo:Value) (o:List Int),m=M-i∧i≤M∧o=(List.range i).map (fun i=>stdPort w r (i/n:Nat) (i%n:Nat))∧
  t 1=.int .i64 r∧t 2=.pointer (some ⟨H.length,0,some 0⟩)∧t 4=.pointer (some ⟨H.length+1,0,some 0⟩)∧t 5=.pointer (some ⟨H.length+2,0,some 0⟩)∧t 6=.int .i64 n∧t 7=.int .i64 i∧
  Chg H H' []∧H'[H.length]? = some ⟨[.int .i64 w,.int .i64 h],0,40⟩∧H'[H.length+1]? = some ⟨[.slice none 0 0],0,43⟩∧H'[H.length+2]? = some ⟨[vo],0,43⟩∧
  Ow Fl.int 3 H' vo o∧(∀i∈ids vo,H.length+2<i)) ?_ (n:=M) ⟨0,.slice none 0 0,[],by simp,by omega,by simp,by simp,by simp,by simp,by simp,by simp,by simp,Chg.app _,by simp,by simp,by simp,.inl ⟨rfl,rfl⟩,by simp⟩
 rintro m t H' ⟨i,vo,o,rfl,hi,ho,h1,h2,h4,h5,h6,h7,c0,b2,b4,b6,oo,no⟩ ih
 simp [h1,h2,h4,h5,h6,h7,eM]
 refine Qd ?_ ?_<;>intro hin
 ·have hin':i<M:=by omega
  have hn0:0<n:=by
   rcases Nat.eq_zero_or_pos n with h0|h0
   ·rw [h0] at hM;omega
   ·exact h0
  have hol:o.length=i:=by rw [ho];simp
  have q1:i/n<n:=by rw [Nat.div_lt_iff_lt_mul hn0];omega
  have q2:i%n<n:=Nat.mod_lt _ hn0
  have d1:∀[Inhabited Unit],IntKind.i64.wrap ((i:Int)/(n:Int))=((i/n:Nat):Int):=by intro _;rw [← Int.natCast_ediv];exact w64 (by have:=Int.natCast_nonneg (i/n);omega) (by have:=Int.ofNat_lt.2 q1;omega)
  have d2:(i:Int).tmod n=((i%n:Nat):Int):=by rw [Int.tmod_eq_emod_of_nonneg (by omega)];rfl
  have d3:(i:Int).tdiv n=(i:Int)/n:=Int.tdiv_eq_ediv_of_nonneg (by omega)
  have nz:¬(n:Int)=0:=by omega
  have nz':¬n=0:=by omega
  have sp:=fun F=>I3 (frz:=F) (H:=H') w h r ((i/n:Nat):Int) ((i%n:Nat):Int) hr ⟨Int.natCast_nonneg _,by rw [hn];exact Int.ofNat_lt.2 q1⟩ ⟨Int.natCast_nonneg _,by rw [hn];exact Int.ofNat_lt.2 q2⟩
  obtain ⟨X,hX⟩:∃X,X=((i/n:Nat):Int):=⟨_,rfl⟩
  obtain ⟨Y,hY⟩:∃Y,Y=((i%n:Nat):Int):=⟨_,rfl⟩
  rw [← hX] at d1
  rw [← hY] at d2
  rw [← hX,← hY] at sp
  simp
  rw [Qf (h:=by kernel_rfl)]
  obtain ⟨vo',H3,e3,oo3,c3,n3⟩:=oo.push (P:=Tryz.prog) (frz:=H.length) (ty:=24) (a:=stdPort w r X Y) (by simp) rfl (by omega) (fun i hi=>by have:=no i hi;omega)
  simp only [Fl.int_f] at e3
  have lc:=Qt b6
  have b2':=Qa b2 c3 (fun hh=>by have:=no _ hh;omega)
  have b4':=Qa b4 c3 (fun hh=>by have:=no _ hh;omega)
  have b6':=Qa b6 c3 (fun hh=>by have:=no _ hh;omega)
  have no3:∀i∈ids vo',H.length+2<i:=fun i hi=>by rcases n3 i hi with h|h;exact no i h;omega
  have one:=And.intro oo.rd.one' oo.rd.cells
  have one3:=And.intro oo3.rd.one' oo3.rd.cells
  have hF:H.length≤H.length+2:=by omega
  simp [-Qq,-Qz,VM.look,b2,b6,sp,one,e3,b6',one3,h1,h2,h4,h5,h6,h7,d1,d2,d3,nz,nz',hF]
  refine ih (M-(i+1)) _ _ ⟨i+1,vo',o++[stdPort w r X Y],rfl,by omega,?_,by simp [h1],by simp [h2],by simp [h4],by simp [h5],by simp [h6],?_,
   (c0.trans' c3 (fun i hi=>.inr (by have:=no i hi;omega))).trans' (Qe _ _) (fun i hi=>.inr (by simp at hi;omega)),Qa b2' (Qe _ _) (by simp),Qa b4' (Qe _ _) (by simp),Qg b6',
   oo3.chg (Qe _ _) (fun i hi hh=>by have:=no3 i hi;simp at hh;omega),no3⟩ (by omega)
  ·rw [List.range_succ,List.map_append,← ho];simp only [List.map_cons,List.map_nil,hX,hY]
  ·simp [h7];rw [w64 (by omega) (by omega)]
 ·have:i=M:=by omega
  subst this
  have lc:=Qt b6
  have one:=And.intro oo.rd.one' oo.rd.cells
  have g4:=Qg (r':=⟨[vo],0,43⟩) b4
  have hol:o.length=i:=by rw [ho];simp
  have hF:H.length≤H.length+1:=by omega
  simp [h1,h2,h4,h5,h6,h7,VM.look,b6,b4,one,g4,hF]
  exact ⟨vo,rfl,⟨(by rw [show stdTab w r n=o from by rw [ho,hM];rfl];exact oo.chg (Qe _ _) (fun i hi hh=>by have:=no i hi;simp at hh;omega)),by rw [Up];omega⟩,c0.trans' (Qe _ _) (fun i hi=>.inr (by simp at hi;omega)),fun i hi=>by have:=no i hi;omega,Qx vo⟩
def splitT (w h:Int):ClassesD:=if okG w h then (stdTab w 1 (cnt w h).toNat,stdTab w 2 (cnt w h).toNat) else ([],[])
theorem E2 (w h:Int) :
 wp (vcall C frz 91 [.agg #[.int .i64 w,.int .i64 h]] H) (Made2 dClasses H (splitT w h) (decide (okG w h))):=by
 rw [Qb (fn:=Tryz.f91) Tryz.func91 rfl (by kernel_rfl) rfl]
 simp [Z7]
 by_cases g:okG w h
 rotate_left
 ·simp [g,splitT]
  exact ⟨_,rfl,(.slice none 0 0,.slice none 0 0),rfl,⟨⟨.inl ⟨rfl,rfl⟩,by simp⟩,⟨.inl ⟨rfl,rfl⟩,by simp⟩⟩,Chg.app _,by simp [dClasses,dAnd,dTable,dIntS,dFlat,ids],by simp [dClasses,dAnd,dTable,dIntS,dFlat,ids]⟩
 have st:=fun K r hr=>Fr (frz:=H.length) (H:=K) w h r (cnt w h).toNat hr g (by have:=Qh w h;omega)
 have e:splitT w h=(stdTab w 1 (cnt w h).toNat,stdTab w 2 (cnt w h).toNat):=if_pos g
 rw [e]
 simp only [g,decide_true]
 have st1:=fun K=>st K 1 (by omega)
 have st2:=fun K=>st K 2 (by omega)
 clear st e
 generalize stdTab w 1 (cnt w h).toNat=T1 at *
 generalize stdTab w 2 (cnt w h).toNat=T2 at *
 simp
 rw [Qf (h:=by kernel_rfl)]
 simp [VM.look]
 refine Qc (st1 _) ?_
 rintro _ K1 ⟨v1,rfl,o1,c1,m1,d1⟩
 have cH:Chg H K1 []:=(Chg.app _).trans c1
 have bG:K1[H.length]? = some ⟨[.int .i64 w,.int .i64 h],0,40⟩:=Qa (by simp) c1 (by simp)
 have bR:K1[H.length+1]? = some ⟨[.slice none 0 0,.slice none 0 0],0,45⟩:=Qa (by simp) c1 (by simp)
 have q1:=Wm o1
 have l1:=cH.1
 have lR:=Qt bR
 simp [Wl,q1,VM.look,l1,bG]
 refine Qc (st2 _) ?_
 rintro _ K2 ⟨v2,rfl,o2,c2,m2,d2⟩
 have o1':=Dt.chg (T:=dTable) o1 c2 (by simp)
 have bR:=Qa bR c2 (by simp)
 have cH2:Chg H K2 []:=cH.trans c2
 have q2:=Wm o2
 have l2:=cH2.1
 have gR:=Qg (r':=⟨[v1,v2],0,45⟩) bR
 have hF:H.length≤H.length+1:=by omega
 simp [Wl,q1,q2,VM.look,l2,bR,gR,hF]
 have eR:Chg K2 (K2.set (H.length+1) ⟨[v1,v2],0,45⟩) [H.length+1]:=Qe _ _
 have lt1:=dTable.lt o1
 have m1':∀i∈dTable.ids v1,H.length+2≤i:=fun i hi=>by have:=m1 i hi;simpa using this
 refine ⟨_,rfl,(v1,v2),rfl,⟨Dt.chg (T:=dTable) o1' eR (fun i hi hh=>by have:=m1' i hi;simp at hh;omega),Dt.chg (T:=dTable) o2 eR (fun i hi hh=>by have:=m2 i hi;simp at hh this;omega)⟩,cH2.trans' eR (fun i hi=>.inr (by simp at hi;omega)),fun i hi=>?_,?_⟩
 ·rcases List.mem_append.1 hi with hi|hi
  ·have:=m1' i hi;omega
  ·have:=m2 i hi;omega
 ·exact List.nodup_append.2 ⟨d1,d2,fun a ha b hb e=>by have:=lt1 a ha;have:=m2 b hb;omega⟩
def tabs (x:NetD) (p q:Int):ClassesD:=(stdTab x.1.1 p (cnt x.1.1 x.1.2.1).toNat,stdTab x.1.1 q (cnt x.1.1 x.1.2.1).toNat)
def ruledOk (x:NetD) (p q:Int):Prop:=¬0<x.1.2.2.length∧replOk x (tabs x p q)
instance (x:NetD) (p q:Int):Decidable (ruledOk x p q):=inferInstanceAs (Decidable (_∧_))
def ruledN (x:NetD) (p q:Int):NetD:=if 0<x.1.2.2.length then x else repl x (tabs x p q)
def zNet:List Value:=[.int .i64 0,.int .i64 0,.slice none 0 0,.slice none 0 0,.slice none 0 0,.slice none 0 0,.slice none 0 0,.slice none 0 0,.slice none 0 0,.slice none 0 0,.int .i64 0]
def NetPost (H:Heap) (v:NetV) (y:NetD) (b:Bool) (r:Value) (H':Heap):Prop:=
 ∃w:NetV,r=.tuple #[dNet.val w y,.bool b]∧dNet.Ow H' w y∧(dNet.ids w).Nodup∧(∀i∈dNet.ids w,i∈dNet.ids v∨H.length≤i)∧Chg H H' []
theorem Bo {v:NetV} {x:NetD} {p q:Int} (hp:1≤p∧p≤4) (hq:1≤q∧q≤4) (hg:okG x.1.1 x.1.2.1) (o:dNet.Ow H v x) (nd:(dNet.ids v).Nodup) :
 wp (vcall C frz 146 [dNet.val v x,.int .i64 p,.int .i64 q] H) (NetPost H v (ruledN x p q) (decide (ruledOk x p q))):=by
 have ones:=Qn o
 have hlt:=dNet.lt o
 have st1:=fun K=>Rg (frz:=H.length) (H:=K) x.1.1 x.1.2.1 p (cnt x.1.1 x.1.2.1).toNat hp hg (by have:=Qh x.1.1 x.1.2.1;omega)
 have st2:=fun K=>Rg (frz:=H.length) (H:=K) x.1.1 x.1.2.1 q (cnt x.1.1 x.1.2.1).toNat hq hg (by have:=Qh x.1.1 x.1.2.1;omega)
 have et:tabs x p q=(stdTab x.1.1 p (cnt x.1.1 x.1.2.1).toNat,stdTab x.1.1 q (cnt x.1.1 x.1.2.1).toNat):=rfl
 simp only [Qm]
 rw [Qb (fn:=Tryz.f146) Tryz.func146 rfl (by kernel_rfl) rfl]
 obtain ⟨G,hG⟩:∃G,G=H++[⟨netCells v x,0,48⟩,⟨zNet,0,48⟩]:=⟨_,rfl⟩
 have cG:Chg H G []:=by rw [hG];exact Chg.app _
 have b0:G[H.length]? = some ⟨netCells v x,0,48⟩:=by rw [hG];simp
 have bR:G[H.length+1]? = some ⟨zNet,0,48⟩:=by rw [hG];simp
 have lG:G.length=H.length+2:=by rw [hG];simp
 have hGs:=hG.symm
 have b0':=b0
 unfold netCells zNet at hGs
 unfold netCells at b0'
 simp [ones]
 rw [hGs]
 clear hG hGs
 try simp [VM.look,b0',ones]
 refine Qc (st1 G) ?_
 rintro _ K1 ⟨_,rfl,v1,rfl,o1,c1,m1,d1⟩
 have q1:=Wm o1
 have l1:=c1.1
 have hF1:H.length≤K1.length:=by omega
 obtain ⟨K2,hK2⟩:∃K2,K2=K1++[⟨[v1],0,43⟩]:=⟨_,rfl⟩
 have c12:Chg K1 K2 []:=by rw [hK2];exact Chg.app _
 have l2:K2.length=K1.length+1:=by rw [hK2];simp
 have bA:K2[K1.length]? = some ⟨[v1],0,43⟩:=by rw [hK2];simp
 have b0:=Qa (Qa b0 c1 (by simp)) c12 (by simp)
 have bR:=Qa (Qa bR c1 (by simp)) c12 (by simp)
 have o1:=Dt.chg (T:=dTable) o1 c12 (by simp)
 have hKs:=hK2.symm
 have b0':=b0
 unfold netCells at b0'
 simp [Wl,q1,VM.look,hF1]
 rw [hKs]
 clear hK2 hKs
 simp [VM.look,b0',ones]
 refine Qc (st2 K2) ?_
 rintro _ K3 ⟨_,rfl,v2,rfl,o2,c3,m2,d2⟩
 have q2:=Wm o2
 have l3:=c3.1
 have hF3:H.length≤K3.length:=by omega
 obtain ⟨K4,hK4⟩:∃K4,K4=K3++[⟨[v2],0,43⟩]:=⟨_,rfl⟩
 have c34:Chg K3 K4 []:=by rw [hK4];exact Chg.app _
 have bB:K4[K3.length]? = some ⟨[v2],0,43⟩:=by rw [hK4];simp
 have b0:=Qa (Qa b0 c3 (by simp)) c34 (by simp)
 have bR:=Qa (Qa bR c3 (by simp)) c34 (by simp)
 have bA:=Qa (Qa bA c3 (by simp)) c34 (by simp)
 have o1:=Dt.chg (T:=dTable) (Dt.chg (T:=dTable) o1 c3 (by simp)) c34 (by simp)
 have o2:=Dt.chg (T:=dTable) o2 c34 (by simp)
 have cH4:Chg H K4 []:=(((cG.trans c1).trans c12).trans c3).trans c34
 have on4:=Dt.chg (T:=dNet) o cH4 (by simp)
 have ln:=on4.1.1.rd.len (P:=Tryz.prog) (ty:=24) (by simp)
 have hKs:=hK4.symm
 have b0':=b0
 unfold netCells at b0'
 have hF:H.length≤H.length+1:=by omega
 simp [Wl,q2,VM.look,hF3]
 rw [hKs]
 clear hK4 hKs
 simp [VM.look,b0',ones,ln]
 by_cases g:0<x.1.2.2.length
 ·have gR:=Qg (r':=⟨netCells v x,0,48⟩) bR
  have hM:NetPost H v (ruledN x p q) (decide (ruledOk x p q)) (.tuple #[dNet.val v x,.bool false]) (K4.set (H.length+1) ⟨netCells v x,0,48⟩):=by
   have e1:ruledN x p q=x:=if_pos g
   have e2:decide (ruledOk x p q)=false:=decide_eq_false (fun k=>k.1 g)
   rw [e1,e2]
   exact ⟨v,rfl,Dt.chg (T:=dNet) on4 (Qe _ _) (fun i hi hh=>by have:=hlt i hi;simp at hh;omega),nd,fun i hi=>.inl hi,cH4.trans' (Qe _ _) (fun i hi=>.inr (by simp at hi;omega))⟩
  unfold zNet at bR
  unfold netCells at gR hM
  simp only [Qm] at hM
  simp [VM.look,g,b0',bR,gR,ones,hF]
  simpa using hM
 ·have rp:=Gj (frz:=H.length) on4 (vc:=(v1,v2)) (t:=tabs x p q) ⟨o1,o2⟩
  simp only [Qm,Wd] at rp
  simp [VM.look,g,b0',bA,bB,ones,q1,q2]
  refine Qc rp ?_
  rintro _ K5 ⟨_,rfl,w,rfl,ow,cw,mw,dw⟩
  have l4:=cH4.1
  obtain ⟨y,hy⟩:∃y,y=repl x (tabs x p q):=⟨_,rfl⟩
  rw [← hy] at ow
  have onew:=Qn ow
  have bR:=Qa bR cw (by simp)
  have lR:=Qt bR
  have gR:=Qg (r':=⟨netCells w y,0,48⟩) bR
  have hM:NetPost H v (ruledN x p q) (decide (ruledOk x p q)) (.tuple #[dNet.val w y,.bool (decide (replOk x (tabs x p q)))]) (K5.set (H.length+1) ⟨netCells w y,0,48⟩):=by
   have e1:ruledN x p q=y:=by rw [hy];exact if_neg g
   have e2:decide (ruledOk x p q)=decide (replOk x (tabs x p q)):=by simp [ruledOk,g]
   rw [e1,e2]
   have l12:H.length+2≤K4.length:=by have:=c34.1;omega
   exact ⟨w,rfl,Dt.chg (T:=dNet) ow (Qe _ _) (fun i hi hh=>by have:=mw i hi;simp at hh;omega),dw,fun i hi=>.inr (by have:=mw i hi;omega),(cH4.trans cw).trans' (Qe _ _) (fun i hi=>.inr (by simp at hi;omega))⟩
  unfold zNet at bR
  unfold netCells at gR hM
  simp only [Qm] at hM
  simp [Qm,← hy,VM.look,bR,gR,onew,hF]
  simpa using hM
noncomputable def actN (a:ChipD) (k p q r s:Int):ChipD×Int:=
 if k=1 then (chipSend a p q r s,if sendsOk a (nextP a p q r s) then ((chipSend a p q r s).2.length:Int) else 0)
 else if k=2 then (chipRun a p,(flits (chipRun a p).1.2.2.1:Int)+flits (chipRun a p).1.2.2.2.2.2.1)
 else if k=3 then ((idled a.1,a.2),idleAt a.1)
 else if k=4 then ((brk a.1 p,a.2),if brkOk a.1 p then 1 else 0)
 else ((ruledN a.1 p q,a.2),if ruledOk a.1 p q then 1 else 0)
def ActPost (H:Heap) (v:ChipV) (id:Nat) (y:ChipD) (k:Int) (r:Value) (H':Heap):Prop:=
 r=.int .i64 k∧∃w:ChipV,H'[id]? = some ⟨chipCells w y,0,51⟩∧dChip.Ow H' w y∧(dChip.ids w).Nodup∧(∀i∈dChip.ids w,i∈dChip.ids v∨H.length≤i)∧Chg H H' [id]
theorem S7 {H J:Heap} {v:ChipV} {a:ChipD} {id:Nat} {w:NetV} {y:NetD} {k k':Int} {z:ChipD} (o:dChip.Ow H v a) (nd:(dChip.ids v).Nodup) (hid:id<H.length) (hn:id∉dChip.ids v) (c:Chg H J []) (b:J[id]? = some ⟨chipCells v a,0,51⟩)
 (ow:dNet.Ow J w y) (dw:(dNet.ids w).Nodup) (mw:∀i∈dNet.ids w,i∈dNet.ids v.1∨H.length≤i) (e:z=(y,a.2)) (ek:k'=k) :
 ActPost H v id z k' (.int .i64 k) (J.set id ⟨chipCells (w,v.2) (y,a.2),0,51⟩):=by
 subst e ek
 have hlt:=dChip.lt o
 obtain ⟨n1,n2,n3⟩:=List.nodup_append.1 nd
 have cs:Chg J (J.set id ⟨chipCells (w,v.2) (y,a.2),0,51⟩) [id]:=Qe _ _
 have hw:id∉dNet.ids w:=fun hh=>by
  rcases mw id hh with h|h
  ·exact hn (List.mem_append_left _ h)
  ·omega
 refine ⟨rfl,(w,v.2),Qg b,⟨Dt.chg (T:=dNet) ow cs (fun i hi hh=>by simp at hh;exact hw (hh▸hi)),Dt.chg (T:=dPk) (Dt.chg (T:=dPk) o.2 c (by simp)) cs (fun i hi hh=>by simp at hh;exact hn (List.mem_append_right _ (hh▸hi)))⟩,?_,fun i hi=>?_,(c.mono (fun _ h=>by cases h)).trans cs⟩
 ·refine List.nodup_append.2 ⟨dw,n2,fun x hx z hz e=>?_⟩
  subst e
  rcases mw x hx with h|h
  ·exact n3 x h x hz rfl
  ·have:=hlt x (List.mem_append_right _ hz);omega
 ·rcases List.mem_append.1 hi with h|h
  ·exact (mw i h).imp (fun h=>List.mem_append_left _ h) _root_.id
  ·exact .inl (List.mem_append_right _ h)
theorem N4 {H J:Heap} {v w:ChipV} {y z:ChipD} {id:Nat} {k k':Int} {r:Row} (hid:id<H.length) (c:Chg H J []) (b:J[id]? = some r) (ow:dChip.Ow J w y) (dw:(dChip.ids w).Nodup) (mw:∀i∈dChip.ids w,H.length≤i) (e:z=y) (ek:k'=k) :
 ActPost H v id z k' (.int .i64 k) (J.set id ⟨chipCells w y,0,51⟩):=by
 subst e ek
 exact ⟨rfl,w,Qg b,Dt.chg (T:=dChip) ow (Qe _ _) (fun i hi hh=>by have:=mw i hi;simp at hh;omega),dw,fun i hi=>.inr (mw i hi),(c.mono (fun _ h=>by cases h)).trans (Qe _ _)⟩
theorem ActPost.mono {G J:Heap} {v:ChipV} {id:Nat} {y:ChipD} {k:Int} {r:Value} (h:ActPost G v id y k r J) (c:Chg H G []):ActPost H v id y k r J:=by
 obtain ⟨h1,w,h2,h3,h4,h5,h6⟩:=h
 exact ⟨h1,w,h2,h3,h4,fun i hi=>(h5 i hi).imp _root_.id (fun h=>by have:=c.1;omega),(c.mono (fun _ h=>by cases h)).trans h6⟩
theorem gj {v:ChipV} {a:ChipD} {id:Nat} {k p q r s:Int} (hr:H[id]? = some ⟨chipCells v a,0,51⟩) (o:dChip.Ow H v a) (nd:(dChip.ids v).Nodup) (hid:id∉dChip.ids v) (hfi:frz≤id) (hfH:frz≤H.length) (hc:chipOk a) (ha:actOk k p q r s) (h9:allL 66000000 a.1.2.2.2.2.2.2.1) :
 wp (vcall C frz 80 [.pointer (some ⟨id,0,some 0⟩),.agg #[.int .i64 k,.int .i64 p,.int .i64 q,.int .i64 r,.int .i64 s]] H) (ActPost H v id (actN a k p q r s).1 (actN a k p q r s).2):=by
 have oneA:=Qu o
 have ones:=oneA.1
 have one2:=oneA.2
 have hidl:=Qt hr
 rw [Qb (fn:=Tryz.f80) Tryz.func80 rfl (by kernel_rfl) rfl]
 obtain ⟨G,hG⟩:∃G,G=H++[⟨[.int .i64 k,.int .i64 p,.int .i64 q,.int .i64 r,.int .i64 s],0,79⟩]:=⟨_,rfl⟩
 have cG:Chg H G []:=by rw [hG];exact Chg.app _
 have lG:G.length=H.length+1:=by rw [hG];simp
 have bA:G[H.length]? = some ⟨[.int .i64 k,.int .i64 p,.int .i64 q,.int .i64 r,.int .i64 s],0,79⟩:=by rw [hG];simp
 have hGs:=hG.symm
 simp
 rw [hGs]
 clear hG hGs
 have bC:=Qa hr cG (by simp)
 have oG:=Dt.chg (T:=dChip) o cG (by simp)
 have hidG:id<G.length:=by omega
 have bC':=bC
 unfold chipCells netCells at bC'
 simp only [List.cons_append,List.nil_append] at bC'
 have n1:=(List.nodup_append.1 nd).1
 by_cases k1:k=1
 ·have e1:actN a k p q r s=(chipSend a p q r s,if sendsOk a (nextP a p q r s) then ((chipSend a p q r s).2.length:Int) else 0):=if_pos k1
  have cs:=Jm (frz:=frz) (q2:=p) (q3:=q) (q4:=r) (q5:=s) oG
  simp only [Qj] at cs
  rw [e1]
  simp [VM.look,bA,k1]
  rw [Qf (h:=by kernel_rfl)]
  simp [VM.look,VM.vnil,bA,bC',ones,one2]
  refine Qc cs ?_
  rintro _ J ⟨_,rfl,w,rfl,ow,cw,mw,dw⟩
  obtain ⟨y,hy⟩:∃y,y=chipSend a p q r s:=⟨_,rfl⟩
  rw [← hy] at ow
  have onw:=Qu ow
  have bJ:=Qa bC cw (by simp)
  have gC:=Qg (r':=⟨chipCells w y,0,51⟩) bJ
  have cS:Chg J (J.set id ⟨chipCells w y,0,51⟩) [id]:=Qe _ _
  have hidw:id∉dChip.ids w:=fun hh=>by have:=mw _ hh;omega
  have ln:=(Dt.chg (T:=dPk) ow.2 cS (fun i hi hh=>hidw (List.mem_append_right _ (by simp at hh;exact hh▸hi)))).1.rd.len (P:=Tryz.prog) (ty:=49) (by simp)
  have hb:=ow.2.2
  have fl:=fun F H=>Jb (frz:=F) (H:=H)
  obtain ⟨B,hB⟩:∃B,B=decide (sendsOk a (nextP a p q r s)):=⟨_,rfl⟩
  have hM:=(N4 (v:=v) (z:=y) (k:=if B then (y.2.length:Int) else 0) hidG cw bJ ow dw mw rfl rfl).mono cG
  have hq:(if sendsOk a (nextP a p q r s) then (y.2.length:Int) else 0)=if B then (y.2.length:Int) else 0:=by rw [hB];by_cases g:sendsOk a (nextP a p q r s)<;>simp [g]
  rw [← hB,← hy,hq]
  have w1:∀[Inhabited Unit],IntKind.i64.wrap (y.2.length:Int)=y.2.length:=by intro _;exact w64 (by omega) (by omega)
  unfold chipCells netCells at bJ gC ln hM
  simp only [List.cons_append,List.nil_append] at bJ gC ln hM
  simp [Qj,← hy,VM.look,VM.vnil,bJ,onw,hfi]
  rw [Qf (h:=by kernel_rfl)]
  have w0:∀[Inhabited Unit],IntKind.i64.wrap 0=0:=by intro _;exact w64 (by omega) (by omega)
  cases B<;>simp [VM.look,VM.vnil,gC,onw,fl,ln,w1,w0]<;>simpa using hM
 by_cases k2:k=2
 ·have e1:actN a k p q r s=(chipRun a p,(flits (chipRun a p).1.2.2.1:Int)+flits (chipRun a p).1.2.2.2.2.2.1):=by unfold actN;rw [if_neg k1,if_pos k2]
  have cs:=F6 (frz:=frz) (k:=p) oG h9
  simp only [Qj] at cs
  rw [e1]
  simp [VM.look,bA,k1,k2]
  rw [Qf (h:=by kernel_rfl)]
  simp [VM.look,VM.vnil,bA,bC',ones,one2]
  refine Qc cs ?_
  rintro _ J ⟨_,rfl,w,rfl,ow,cw,mw,dw⟩
  obtain ⟨y,hy⟩:∃y,y=chipRun a p:=⟨_,rfl⟩
  rw [← hy] at ow
  have onw:=Qu ow
  have bJ:=Qa bC cw (by simp)
  have gC:=Qg (r':=⟨chipCells w y,0,51⟩) bJ
  have cS:Chg J (J.set id ⟨chipCells w y,0,51⟩) [id]:=Qe _ _
  have hidw:id∉dChip.ids w:=fun hh=>by have:=mw _ hh;omega
  have oS:=Dt.chg (T:=dNet) ow.1 cS (fun i hi hh=>hidw (List.mem_append_left _ (by simp at hh;exact hh▸hi)))
  have f1:=fun F=>Ua (frz:=F) oS.2.2.1
  have f2:=fun F=>Ua (frz:=F) oS.2.2.2.2.2.1
  have z1:=N7 y.1.2.2.1 ow.1.2.2.1.2.1 ow.1.2.2.1.2.2
  have z2:=N7 y.1.2.2.2.2.2.1 ow.1.2.2.2.2.2.1.2.1 ow.1.2.2.2.2.2.1.2.2
  have w1:∀[Inhabited Unit],IntKind.i64.wrap ((flits y.1.2.2.1:Int)+(flits y.1.2.2.2.2.2.1:Int))=(flits y.1.2.2.1:Int)+flits y.1.2.2.2.2.2.1:=by intro _;exact w64 (by omega) (by omega)
  have hM:=(N4 (v:=v) (z:=y) (k:=(flits y.1.2.2.1:Int)+flits y.1.2.2.2.2.2.1) hidG cw bJ ow dw mw rfl rfl).mono cG
  rw [← hy]
  unfold chipCells netCells at bJ gC f1 f2 hM
  simp only [List.cons_append,List.nil_append] at bJ gC f1 f2 hM
  simp [Qj,← hy,VM.look,VM.vnil,bJ,onw,hfi]
  rw [Qf (h:=by kernel_rfl)]
  simp [VM.look,VM.vnil,gC,onw,f1,f2,w1]
  simpa using hM
 by_cases k3:k=3
 ·have e1:actN a k p q r s=((idled a.1,a.2),idleAt a.1):=by unfold actN;rw [if_neg k1,if_neg k2,if_pos k3]
  have cs:=D2 (frz:=frz) oG.1 h9
  simp only [Qm] at cs
  rw [e1]
  simp [VM.look,VM.vnil,bA,bC',ones,one2,k1,k2,k3]
  refine Qc cs ?_
  rintro _ J ⟨_,rfl,w,rfl,ow,cw,mw,dw⟩
  obtain ⟨y,hy⟩:∃y,y=idled a.1:=⟨_,rfl⟩
  rw [← hy] at ow
  have onw:=Qn ow
  have lJ:=cw.1
  have hFJ:frz≤J.length:=by omega
  obtain ⟨J2,hJ2⟩:∃J2,J2=J++[⟨netCells w y,0,48⟩]:=⟨_,rfl⟩
  have c2:Chg J J2 []:=by rw [hJ2];exact Chg.app _
  have bN:J2[J.length]? = some ⟨netCells w y,0,48⟩:=by rw [hJ2];simp
  have bJ:=Qa (Qa bC cw (by simp)) c2 (by simp)
  have ow2:=Dt.chg (T:=dNet) ow c2 (by simp)
  have hM:=(S7 (k:=idleAt a.1) oG nd hidG hid (cw.trans c2) bJ ow2 dw (fun i hi=>.inr (mw i hi)) (z:=(y,a.2)) rfl rfl).mono cG
  have hJs:=hJ2.symm
  rw [← hy]
  unfold chipCells netCells at bJ hM
  unfold netCells at bN hJs
  simp only [List.cons_append,List.nil_append] at bJ hM
  simp [Qm,← hy,onw,hFJ]
  rw [hJs]
  clear hJ2 hJs
  simp [VM.look,VM.vnil,bN,bJ,onw,hfi]
  simpa using hM
 by_cases k4:k=4
 ·have e1:actN a k p q r s=((brk a.1 p,a.2),if brkOk a.1 p then 1 else 0):=by unfold actN;rw [if_neg k1,if_neg k2,if_neg k3,if_pos k4]
  have cs:=Gk (frz:=frz) (c:=p) oG.1
  simp only [Qm] at cs
  rw [e1]
  simp [VM.look,VM.vnil,bA,k1,k2,k3,k4]
  rw [Qf (h:=by kernel_rfl)]
  simp [VM.look,VM.vnil,bA,bC',ones,one2]
  refine Qc cs ?_
  rintro _ J ⟨_,rfl,w,rfl,ow,cw,mw,dw⟩
  obtain ⟨y,hy⟩:∃y,y=brk a.1 p:=⟨_,rfl⟩
  rw [← hy] at ow
  have onw:=Qn ow
  have bJ:=Qa bC cw (by simp)
  have fl:=fun F H=>Jb (frz:=F) (H:=H)
  obtain ⟨B,hB⟩:∃B,B=decide (brkOk a.1 p):=⟨_,rfl⟩
  have hM:=(S7 (k:=if B then (1:Int) else 0) oG nd hidG hid cw bJ ow dw (fun i hi=>.inr (mw i hi)) (z:=(y,a.2)) rfl rfl).mono cG
  have hq:(if brkOk a.1 p then (1:Int) else 0)=if B then 1 else 0:=by rw [hB];by_cases g:brkOk a.1 p<;>simp [g]
  rw [← hB,← hy,hq]
  unfold chipCells netCells at bJ hM
  simp only [List.cons_append,List.nil_append] at bJ hM
  cases B<;>simp [Qm,← hy,VM.look,VM.vnil,bJ,onw,hfi,fl]<;>simpa using hM
 have hk5:k=5∧inR 1 p 4∧inR 1 q 4:=by
  unfold actOk at ha
  rw [if_neg k1,if_neg k2,if_neg k3,if_neg k4] at ha
  exact ⟨ha.1,ha.2.1,ha.2.2.1⟩
 obtain ⟨k5,hp,hq'⟩:=hk5
 have e1:actN a k p q r s=((ruledN a.1 p q,a.2),if ruledOk a.1 p q then 1 else 0):=by unfold actN;rw [if_neg k1,if_neg k2,if_neg k3,if_neg k4]
 have cs:=Bo (frz:=frz) hp hq' hc.1.1.1.1.1.2 oG.1 n1
 simp only [Qm] at cs
 rw [e1]
 simp [VM.look,VM.vnil,bA,k1,k2,k3,k4,k5]
 rw [Qf (h:=by kernel_rfl)]
 simp [VM.look,VM.vnil,bA,bC',ones,one2]
 refine Qc cs ?_
 rintro _ J ⟨w,rfl,ow,dw,mw,cw⟩
 obtain ⟨y,hy⟩:∃y,y=ruledN a.1 p q:=⟨_,rfl⟩
 rw [← hy] at ow
 have onw:=Qn ow
 have bJ:=Qa bC cw (by simp)
 have fl:=fun F H=>Jb (frz:=F) (H:=H)
 obtain ⟨B,hB⟩:∃B,B=decide (ruledOk a.1 p q):=⟨_,rfl⟩
 have hM:=(S7 (k:=if B then (1:Int) else 0) oG nd hidG hid cw bJ ow dw mw (z:=(y,a.2)) rfl rfl).mono cG
 have hq:(if ruledOk a.1 p q then (1:Int) else 0)=if B then 1 else 0:=by rw [hB];by_cases g:ruledOk a.1 p q<;>simp [g]
 rw [← hB,← hy,hq]
 unfold chipCells netCells at bJ hM
 simp only [List.cons_append,List.nil_append] at bJ hM
 cases B<;>simp [Qm,← hy,VM.look,VM.vnil,bJ,onw,hfi,fl]<;>simpa using hM
def acts (a:ChipD) (k p q r s:Int):Prop:=chipOk a∧actOk k p q r s
instance (a:ChipD) (k p q r s:Int):Decidable (acts a k p q r s):=inferInstanceAs (Decidable (_∧_))
noncomputable def doAct (a:ChipD) (k p q r s:Int):ChipD×Int:=if acts a k p q r s then actN a k p q r s else (a,-1)
def MadeC (H:Heap) (y:ChipD) (k:Int) (r:Value) (H':Heap):Prop:=∃u,r=.tuple #[u,.int .i64 k]∧dChip.Made H y u H'
theorem madeC {K:Heap} {n:ChipV} {y z:ChipD} {k k':Int} {r:Row} (o:dChip.Ow K n y) (c:Chg H K []) (m:∀i∈dChip.ids n,H.length+3≤i) (d:(dChip.ids n).Nodup) (e1:z=y) (e2:k'=k) :
 MadeC H z k' (.tuple #[dChip.val n y,.int .i64 k]) (K.set (H.length+2) r):=by
 subst e1 e2
 exact ⟨dChip.val n z,rfl,n,rfl,Dt.chg (T:=dChip) o (Qe _ _) (fun i hi hh=>by have:=m i hi;simp at hh;omega),c.trans' (Qe _ _) (fun i hi=>.inr (by simp at hi;omega)),fun i hi=>by have:=m i hi;omega,d⟩
theorem Cq {v:ChipV} {a:ChipD} {k p q r s:Int} (o:dChip.Ow H v a) (h9:allL 66000000 a.1.2.2.2.2.2.2.1) :
 wp (vcall C frz 36 [dChip.val v a,.agg #[.int .i64 k,.int .i64 p,.int .i64 q,.int .i64 r,.int .i64 s]] H) (MadeC H (doAct a k p q r s).1 (doAct a k p q r s).2):=by
 have oneA:=Qu o
 have ones:=oneA.1
 have one2:=oneA.2
 have ecopy:=fun K (c:Chg H K [])=>Y3 (frz:=H.length) (H:=K) (v:=v) (a:=a) (Dt.chg (T:=dChip) o c (by simp))
 have ck:=fun F K (c:Chg H K [])=>Zp (frz:=F) (H:=K) (v:=v) (a:=a) (Dt.chg (T:=dChip) o c (by simp))
 have ao:=fun F H=>By (frz:=F) (H:=H) k p q r s
 simp only [Qj] at ecopy ck ⊢
 rw [Qb (fn:=Tryz.f36) Tryz.func36 rfl (by kernel_rfl) rfl]
 obtain ⟨G,hG⟩:∃G,G=H++[⟨chipCells v a,0,51⟩,⟨[.int .i64 k,.int .i64 p,.int .i64 q,.int .i64 r,.int .i64 s],0,79⟩,⟨zChip,0,51⟩]:=⟨_,rfl⟩
 have cG:Chg H G []:=by rw [hG];exact Chg.app _
 have b0:G[H.length]? = some ⟨chipCells v a,0,51⟩:=by rw [hG];simp
 have bA:G[H.length+1]? = some ⟨[.int .i64 k,.int .i64 p,.int .i64 q,.int .i64 r,.int .i64 s],0,79⟩:=by rw [hG];simp
 have bR:G[H.length+2]? = some ⟨zChip,0,51⟩:=by rw [hG];simp
 have lG:G.length=H.length+3:=by rw [hG];simp
 have hGs:=hG.symm
 unfold chipCells netCells zChip at hGs
 simp only [List.cons_append,List.nil_append] at hGs
 simp [ones,one2]
 rw [hGs]
 clear hG hGs
 have b0':=b0
 unfold chipCells netCells at b0'
 simp only [List.cons_append,List.nil_append] at b0'
 try simp [VM.look,b0',ones,one2]
 refine Qc (ecopy G cG) ?_
 rintro _ K ⟨n,rfl,on,cn,mn,dn⟩
 have cK:Chg H K []:=cG.trans cn
 have b0:=Qa b0 cn (by simp)
 have bA:=Qa bA cn (by simp)
 have bR:=Qa bR cn (by simp)
 have oneN:=Qu on
 have qn:=oneN.1
 have qn2:=oneN.2
 have lK:=cn.1
 have hFK:H.length≤K.length:=by omega
 obtain ⟨K2,hK2⟩:∃K2,K2=K++[⟨chipCells n a,0,51⟩]:=⟨_,rfl⟩
 have c12:Chg K K2 []:=by rw [hK2];exact Chg.app _
 have cK2:=cK.trans c12
 have l2:K2.length=K.length+1:=by rw [hK2];simp
 have b0:=Qa b0 c12 (by simp)
 have bA:=Qa bA c12 (by simp)
 have bR:=Qa bR c12 (by simp)
 have bC:K2[K.length]? = some ⟨chipCells n a,0,51⟩:=by rw [hK2];simp
 have on2:=Dt.chg (T:=dChip) on c12 (by simp)
 have hF:H.length≤H.length+2:=by omega
 have mn':∀i∈dChip.ids n,H.length+3≤i:=fun i hi=>by have:=mn i hi;omega
 have ltn:∀i∈dChip.ids n,i<K.length:=fun i hi=>dChip.lt on i hi
 have hKs:=hK2.symm
 unfold chipCells netCells at hKs
 simp only [List.cons_append,List.nil_append] at hKs
 simp [Qj,VM.look,qn,qn2,hFK]
 rw [hKs]
 clear hK2 hKs
 have ck':=fun F=>ck F K2 cK2
 have b0':=b0
 have bC':=bC
 unfold chipCells netCells at b0' bC'
 simp only [List.cons_append,List.nil_append] at b0' bC'
 have gR:=Qg (r':=⟨chipCells n a,0,51⟩) bR
 have bad:¬acts a k p q r s→MadeC H (doAct a k p q r s).1 (doAct a k p q r s).2 (.tuple #[dChip.val n a,.int .i64 (-1)]) (K2.set (H.length+2) ⟨chipCells n a,0,51⟩):=fun hb=>by
  have e:doAct a k p q r s=(a,-1):=if_neg hb
  rw [e]
  exact madeC on2 cK2 mn' dn rfl rfl
 have bR':=bR
 unfold zChip at bR'
 unfold chipCells netCells at gR bad
 simp only [List.cons_append,List.nil_append] at gR bad
 by_cases g0:chipOk a
 rotate_left
 ·have hM:=bad (fun h=>g0 h.1)
  simp [VM.look,b0',ones,one2,ck',g0,bC',qn,qn2,bR',gR,hF]
  simpa [Qj] using hM
 by_cases g1:actOk k p q r s
 rotate_left
 ·have hM:=bad (fun h=>g1 h.2)
  simp [VM.look,b0',ones,one2,ck',g0,bA,ao,g1,bC',qn,qn2,bR',gR,hF]
  simpa [Qj] using hM
 have e:doAct a k p q r s=actN a k p q r s:=if_pos ⟨g0,g1⟩
 have ac:=gj (frz:=H.length) (id:=K.length) bC on2 dn (fun hh=>by have:=ltn _ hh;omega) hFK (by omega) g0 g1 h9
 rw [e]
 simp [VM.look,b0',ones,one2,ck',g0,bA,ao,g1]
 refine Qc ac ?_
 rintro _ J ⟨rfl,w,bJ,ow,dw,mw,cw⟩
 obtain ⟨y,hy⟩:∃y,y=(actN a k p q r s).1:=⟨_,rfl⟩
 obtain ⟨m,hm⟩:∃m,m=(actN a k p q r s).2:=⟨_,rfl⟩
 rw [← hy] at bJ ow ⊢
 rw [← hm]
 have onw:=Qu ow
 have bRJ:=Qa bR cw (by simp;omega)
 have gJ:=Qg (r':=⟨chipCells w y,0,51⟩) bRJ
 have hM:=madeC (H:=H) (z:=y) (k:=m) (r:=⟨chipCells w y,0,51⟩) ow (cK2.trans' cw (fun i hi=>.inr (by simp at hi;omega))) (fun i hi=>by
  rcases mw i hi with h|h
  ·exact mn' i h
  ·omega) dw rfl rfl
 unfold zChip at bRJ
 unfold chipCells netCells at bJ gJ hM
 simp only [List.cons_append,List.nil_append] at bJ gJ hM
 simp [VM.look,bJ,bRJ,gJ,onw,hF]
 simpa [Qj] using hM
theorem Jk {x:NetD} (h:netOk x) {L:Nat} (hL:1000≤L):allL L x.2.2.1:=fun l hl=>by
 obtain ⟨i,hi,rfl⟩:=List.getElem_of_mem hl
 have:=(h.2.2.1 i hi).1
 rw [U7 hi] at this
 omega
theorem Ni {x:NetD} (h:netOk x) {L:Nat} (hL:1000≤L) (h9:allL L x.2.2.2.2.2.2.1) {k:Nat} (hk:k≤400):allL (L+38400) (runN x k).2.2.2.2.2.2.1:=
 Wb (Sb (Jk h hL) h9 k).2 (by omega)
theorem Gs {a:ChipD} {k p q r s:Int} {L:Nat} (hL:1000≤L) (h:allL L a.1.2.2.2.2.2.2.1):allL (L+38400) (doAct a k p q r s).1.1.2.2.2.2.2.2.1:=by
 have h0:allL (L+38400) a.1.2.2.2.2.2.2.1:=Wb h (by omega)
 unfold doAct
 by_cases g:acts a k p q r s
 ·rw [if_pos g]
  have nk:netOk a.1:=g.1.1
  unfold actN
  split
  ·unfold chipSend sendNet withSrc;split<;>exact h0
  ·split
   ·unfold chipRun runNet
    split
    ·show allL (L+38400) (if runs a.1 p then runN a.1 p.toNat else a.1).2.2.2.2.2.2.1
     split
     ·rename_i hr;exact Ni nk hL h (by have:=hr.2.1;unfold inR at this;omega)
     ·exact h0
    ·exact h0
   ·split
    ·show allL (L+38400) (idled a.1).2.2.2.2.2.2.1
     unfold idled
     split
     ·rcases O0 a.1 with e|⟨_,e,_⟩
      ·omega
      ·exact Ni nk hL h (by omega)
     ·exact h0
    ·split
     ·show allL (L+38400) (brk a.1 p).2.2.2.2.2.2.1
      unfold brk;split<;>exact h0
     ·show allL (L+38400) (ruledN a.1 p q).2.2.2.2.2.2.1
      unfold ruledN
      split
      ·exact h0
      ·unfold repl;split<;>exact h0
 ·rw [if_neg g];exact h0
noncomputable def actF (z:ChipD×List Int) (c:PkD):ChipD×List Int:=((doAct z.1 c.1 c.2.1 c.2.2.1 c.2.2.2.1 c.2.2.2.2).1,z.2++[(doAct z.1 c.1 c.2.1 c.2.2.1 c.2.2.2.1 c.2.2.2.2).2])
def canAct (a:ChipD) (l:List PkD):Prop:=chipOk a∧l.length≤30
instance (a:ChipD) (l:List PkD):Decidable (canAct a l):=inferInstanceAs (Decidable (_∧_))
noncomputable def runActs (a:ChipD) (l:List PkD):ChipD×List Int:=if canAct a l then l.foldl actF (a,[]) else (a,[])
noncomputable def actsAt (a:ChipD) (l:List PkD) (i:Nat):ChipD×List Int:=(l.take i).foldl actF (a,[])
theorem Zq {a:ChipD} {l:List PkD} {i:Nat} (h:i<l.length):actsAt a l (i+1)=actF (actsAt a l i) l[i]:=by
 unfold actsAt
 rw [List.take_succ_eq_append_getElem h,List.foldl_append];rfl
theorem Kb {a:ChipD} {l:List PkD} (h:canAct a l):actsAt a l l.length=runActs a l:=by
 unfold actsAt runActs
 rw [if_pos h,List.take_length]
theorem Ux (a:ChipD) (l:List PkD):∀i,i≤l.length→(actsAt a l i).2.length=i
 | 0,_=>rfl
 | i+1,h=>by
  rw [Zq (by omega)]
  show ((actsAt a l i).2++[_]).length=_
  rw [List.length_append,Ux a l i (by omega)];rfl
theorem Ss {a:ChipD} (l:List PkD) {L:Nat} (hL:1000≤L) (h:allL L a.1.2.2.2.2.2.2.1):∀i,i≤l.length→allL (L+38400*i) (actsAt a l i).1.1.2.2.2.2.2.2.1
 | 0,_=>h
 | i+1,hi=>by
  rw [Zq (by omega)]
  exact Wb (Gs (by omega) (Ss l hL h i (by omega))) (by omega)
abbrev dAct:Dt Value (List PkD):=dFlat pkF 79 1073741824
def MadeR (H:Heap) (y:ChipD×List Int) (r:Value) (H':Heap):Prop:=∃(vc:ChipV) (vi:Value),r=.tuple #[dChip.val vc y.1,vi]∧dChip.Ow H' vc y.1∧dIntS.Ow H' vi y.2∧Chg H H' []∧(∀i∈dChip.ids vc,H.length≤i)∧(dChip.ids vc).Nodup∧(∀i∈dIntS.ids vi,H.length≤i)∧(dIntS.ids vi).Nodup∧∀i∈dChip.ids vc,i∉dIntS.ids vi
theorem D9 {lv:Value} {l:List PkD} {i:Nat} (h:Rd pkF H lv l) (hi:i<l.length) (hl:l.length≤1073741824) :
 vindexAddr Tryz.prog H 55 lv (.int .i64 (i:Int))=some (elp lv (i*5))∧vload Tryz.prog H 79 (elp lv (i*5))=some (.agg #[.int .i64 l[i].1,.int .i64 l[i].2.1,.int .i64 l[i].2.2.1,.int .i64 l[i].2.2.2.1,.int .i64 l[i].2.2.2.2]):=by
 have q1:=h.idx (P:=Tryz.prog) (ty:=55) (e:=79) (by simp) (i:=(i:Int)) (by omega) (by omega)
 have q2:=h.load (P:=Tryz.prog) (e:=79) (by simp) hi
 simp only [Int.toNat_natCast,Iw] at q1 q2
 exact ⟨q1,by simpa [Uj] using q2⟩
theorem Xd {α:Type} {D:Fl α} {e:TypeId} {v:Value} {xs:List α} (h:Ow D e H v xs):live1 H v:=by
 rcases h with ⟨rfl,_⟩|⟨id,off,r,rfl,h2,_⟩
 ·trivial
 ·show VM.look H ⟨id,off,some r.gen⟩≠none
  simp [VM.look,h2]
theorem Yx {v:ChipV} {x:ChipD} (o:dChip.Ow H v x):VM.live H (.agg #[.int .i64 x.1.1.1,.int .i64 x.1.1.2.1,v.1.1,v.1.2.1.1,v.1.2.1.2,v.1.2.2.1.1,v.1.2.2.2.1,v.1.2.2.2.2.1,v.1.2.2.2.2.2.1.1,v.1.2.2.2.2.2.2.1.1,.int .i64 x.1.2.2.2.2.2.2.2,v.2]):=fun c hc=>by
 obtain ⟨⟨o1,o2,o3,o4,o5,o6,o7,_⟩,o8⟩:=o
 have a1:=Xd o1.1
 have a2:=Xd o2.1.1
 have a3:=Xd o2.2.1
 have a4:=Xd o3.1.1
 have a5:=Xd o4.1
 have a6:=Xd o5.1
 have a7:=Xd o6.1.1
 have a8:=Xd o7.1.1
 have a9:=Xd o8.1
 simp only [List.mem_cons,List.not_mem_nil,or_false] at hc
 rcases hc with rfl|rfl|rfl|rfl|rfl|rfl|rfl|rfl|rfl|rfl|rfl|rfl<;>first|trivial|assumption
theorem madeR {K:Heap} {n:ChipV} {y z:ChipD×List Int} {vi:Value} {r:Row} (o:dChip.Ow K n y.1) (oi:dIntS.Ow K vi y.2) (c:Chg H K []) (m:∀i∈dChip.ids n,H.length+2≤i) (d:(dChip.ids n).Nodup) (mi:∀i∈dIntS.ids vi,H.length+2≤i)
 (x:∀i∈dChip.ids n,i∉dIntS.ids vi) (e:z=y):MadeR H z (.tuple #[dChip.val n y.1,vi]) (K.set (H.length+1) r):=by
 subst e
 exact ⟨n,vi,rfl,Dt.chg (T:=dChip) o (Qe _ _) (fun i hi hh=>by have:=m i hi;simp at hh;omega),Dt.chg (T:=dIntS) oi (Qe _ _) (fun i hi hh=>by have:=mi i hi;simp at hh;omega),c.trans' (Qe _ _) (fun i hi=>.inr (by simp at hi;omega)),fun i hi=>by have:=m i hi;omega,d,fun i hi=>by have:=mi i hi;omega,Qx vi,x⟩
theorem R8 {v:ChipV} {a:ChipD} {lv:Value} {l:List PkD} (o:dChip.Ow H v a) (ol:dAct.Ow H lv l) (h9:allL 1048576 a.1.2.2.2.2.2.2.1) :
 wp (vcall C frz 11 [dChip.val v a,lv] H) (MadeR H (runActs a l)):=by
 have hr:=ol.1.rd
 have hn:=ol.2
 have oneA:=Qu o
 have ones:=oneA.1
 have one2:=oneA.2
 have ecopy:=fun K (c:Chg H K [])=>Y3 (frz:=H.length) (H:=K) (v:=v) (a:=a) (Dt.chg (T:=dChip) o c (by simp))
 have ck:=fun F K (c:Chg H K [])=>Zp (frz:=F) (H:=K) (v:=v) (a:=a) (Dt.chg (T:=dChip) o c (by simp))
 simp only [Qj] at ecopy ck ⊢
 rw [Qb (fn:=Tryz.f11) Tryz.func11 rfl (by kernel_rfl) rfl]
 obtain ⟨G,hG⟩:∃G,G=H++[⟨chipCells v a,0,51⟩,⟨zChip,0,51⟩]:=⟨_,rfl⟩
 have cG:Chg H G []:=by rw [hG];exact Chg.app _
 have b0:G[H.length]? = some ⟨chipCells v a,0,51⟩:=by rw [hG];simp
 have bR:G[H.length+1]? = some ⟨zChip,0,51⟩:=by rw [hG];simp
 have lG:G.length=H.length+2:=by rw [hG];simp
 have hGs:=hG.symm
 unfold chipCells netCells zChip at hGs
 simp only [List.cons_append,List.nil_append] at hGs
 simp [ones,one2]
 rw [hGs]
 clear hG hGs
 have b0':=b0
 unfold chipCells netCells at b0'
 simp only [List.cons_append,List.nil_append] at b0'
 try simp [VM.look,b0',ones,one2]
 refine Qc (ecopy G cG) ?_
 rintro _ K ⟨n,rfl,on,cn,mn,dn⟩
 have cK:Chg H K []:=cG.trans cn
 have b0:=Qa b0 cn (by simp)
 have bR:=Qa bR cn (by simp)
 have oneN:=Qu on
 have qn:=oneN.1
 have qn2:=oneN.2
 have lK:=cn.1
 have hFK:H.length≤K.length:=by omega
 obtain ⟨K2,hK2⟩:∃K2,K2=K++[⟨[],0,3⟩,⟨chipCells n a,0,51⟩]:=⟨_,rfl⟩
 have c12:Chg K K2 []:=by rw [hK2];exact Chg.app _
 have cK2:=cK.trans c12
 have l2:K2.length=K.length+2:=by rw [hK2];simp
 have b0:=Qa b0 c12 (by simp)
 have bR:=Qa bR c12 (by simp)
 have bC:K2[K.length+1]? = some ⟨chipCells n a,0,51⟩:=by rw [hK2];simp
 have oI:Ow Fl.int 3 K2 (.slice (some ⟨K.length,0,some 0⟩) 0 0) []:=by rw [hK2];exact Ow.new (D:=Fl.int) (xs:=[]) (k:=0) rfl rfl rfl rfl
 have on2:=Dt.chg (T:=dChip) on c12 (by simp)
 have hF:H.length≤H.length+1:=by omega
 have mn':∀i∈dChip.ids n,H.length+2≤i:=fun i hi=>by have:=mn i hi;omega
 have ltn:∀i∈dChip.ids n,i<K.length:=fun i hi=>dChip.lt on i hi
 have hFB:H.length≤K.length+1:=by omega
 have hKs:=hK2.symm
 unfold chipCells netCells at hKs
 simp only [List.cons_append,List.nil_append] at hKs
 simp [Qj,qn,qn2,hFB]
 rw [hKs]
 clear hK2 hKs
 have ck':=fun F=>ck F K2 cK2
 have b0':=b0
 have bC':=bC
 have bR':=bR
 have gR:=Qg (r':=⟨chipCells n a,0,51⟩) bR
 have bad:¬canAct a l→MadeR H (runActs a l) (.tuple #[dChip.val n a,.slice none 0 0]) (K2.set (H.length+1) ⟨chipCells n a,0,51⟩):=fun hb=>
  madeR (y:=(a,[])) on2 ⟨.inl ⟨rfl,rfl⟩,by simp⟩ cK2 mn' dn (by simp [dFlat]) (by simp [dFlat]) (if_neg hb)
 unfold zChip at bR'
 unfold chipCells netCells at b0' bC' gR bad
 simp only [List.cons_append,List.nil_append] at b0' bC' gR bad
 have ll:=fun (J:Heap) (c:Chg H J [])=>(hr.chg c (by simp)).len (P:=Tryz.prog) (ty:=55) (by simp)
 have l2':=ll K2 cK2
 by_cases g0:chipOk a
 rotate_left
 ·have hM:=bad (fun h=>g0 h.1)
  simp [VM.look,b0',ones,one2,ck',g0,bC',qn,qn2,bR',gR,hF]
  simpa [Qj] using hM
 simp [VM.look,b0',ck',g0,l2']
 refine Qd ?_ ?_<;>intro g1
 ·have hM:=bad (fun h=>by have:=h.2;omega)
  simp [VM.look,bC',qn,qn2,bR',gR,hF]
  simpa [Qj] using hM
 have g:canAct a l:=⟨g0,by omega⟩
 simp [l2']
 refine Qi (fun m t H'=>∃(i:Nat) (w:ChipV) (u:Value),m=l.length-i∧i≤l.length∧t 4=.pointer (some ⟨H.length+1,0,some 0⟩)∧t 6=.pointer (some ⟨K.length+1,0,some 0⟩)∧t 7=u∧t 24=lv∧t 25=.int .i64 l.length∧t 26=.int .i64 i∧
  H'[K.length+1]? = some ⟨chipCells w (actsAt a l i).1,0,51⟩∧dChip.Ow H' w (actsAt a l i).1∧(∀j∈dChip.ids w,H.length+2≤j)∧K.length+1∉dChip.ids w∧(dChip.ids w).Nodup∧VM.Ow Fl.int 3 H' u (actsAt a l i).2∧(∀j∈VM.ids u,H.length+2≤j∧j≠K.length+1)∧(∀j∈dChip.ids w,j∉VM.ids u)∧Chg H H' []∧H'[H.length+1]? = some ⟨zChip,0,51⟩) ?_ (n:=l.length)
  ⟨0,n,.slice (some ⟨K.length,0,some 0⟩) 0 0,rfl,by omega,by simp,by simp,by simp,by simp,by simp,by simp,bC,on2,mn',fun hh=>by have:=ltn _ hh;omega,dn,oI,fun j hj=>by simp at hj;omega,fun j hj hh=>by have:=ltn j hj;simp at hh;omega,cK2,bR⟩
 rintro m t J ⟨i,w,u,rfl,hi,t4,t6,t7,t24,t25,t26,bC,ow,mw,nB,dw,ou,mu,xw,cJ,bR⟩ ih
 have lJ:=cJ.1
 have hBJ:=Qt bC
 simp [t26,t25]
 refine Qd ?_ ?_<;>intro h
 rotate_left
 ·have he:i=l.length:=by omega
  subst he
  obtain ⟨y,hy⟩:∃y,y=actsAt a l l.length:=⟨_,rfl⟩
  rw [← hy] at bC ow ou
  have oneW:=Qu ow
  have p1:=oneW.1
  have p2:=oneW.2
  have gR:=Qg (r':=⟨chipCells w y.1,0,51⟩) bR
  have hM:=madeR (r:=⟨chipCells w y.1,0,51⟩) (y:=y) (z:=runActs a l) ow ⟨ou,by rw [hy,Ux a l _ (by omega)];omega⟩ cJ mw dw (fun j hj=>(mu j hj).1) xw (by rw [hy,Kb g])
  unfold zChip at bR
  unfold chipCells netCells at bC gR hM
  simp only [List.cons_append,List.nil_append] at bC gR hM
  simp [t4,t6,t7,VM.look,bC,p1,p2,bR,gR,hF]
  simpa [Qj] using hM
 have hi':i<l.length:=by omega
 obtain ⟨q1,q2⟩:=D9 (hr.chg cJ (by simp)) hi' hn
 have has:=Zq (a:=a) hi'
 obtain ⟨c,hc⟩:∃c,c=l[i]:=⟨_,rfl⟩
 rw [← hc] at q2 has
 obtain ⟨z,hz⟩:∃z,z=actsAt a l i:=⟨_,rfl⟩
 have harr:allL 66000000 z.1.1.2.2.2.2.2.2.1:=by rw [hz];exact Wb (Ss l (by omega) h9 i hi) (by omega)
 have hzl:z.2.length=i:=by rw [hz];exact Ux a l i hi
 rw [← hz] at bC ow ou has
 have hFJ:H.length≤J.length:=lJ
 obtain ⟨J1,hJ1⟩:∃J1,J1=J++[⟨[.int .i64 c.1,.int .i64 c.2.1,.int .i64 c.2.2.1,.int .i64 c.2.2.2.1,.int .i64 c.2.2.2.2],0,79⟩]:=⟨_,rfl⟩
 have cJ1:Chg J J1 []:=by rw [hJ1];exact Chg.app _
 have lJ1:J1.length=J.length+1:=by rw [hJ1];simp
 have bA:J1[J.length]? = some ⟨[.int .i64 c.1,.int .i64 c.2.1,.int .i64 c.2.2.1,.int .i64 c.2.2.2.1,.int .i64 c.2.2.2.2],0,79⟩:=by rw [hJ1];simp
 have bC1:=Qa bC cJ1 (by simp)
 have bR1:=Qa bR cJ1 (by simp)
 have ow1:=Dt.chg (T:=dChip) ow cJ1 (by simp)
 have ou1:=ou.chg cJ1 (by simp)
 have hJs:=hJ1.symm
 simp [t24,t26,q1,q2,hFJ]
 rw [hJs]
 clear hJ1 hJs
 have oneW:=Qu ow
 have p1:=oneW.1
 have p2:=oneW.2
 have bC1':=bC1
 unfold chipCells netCells at bC1'
 simp only [List.cons_append,List.nil_append] at bC1'
 have od:=Cq (frz:=H.length) (k:=c.1) (p:=c.2.1) (q:=c.2.2.1) (r:=c.2.2.2.1) (s:=c.2.2.2.2) ow1 harr
 simp only [Qj] at od
 simp [t6,VM.look,bC1',bA]
 refine Qc od ?_
 rintro _ J2 ⟨_,rfl,w2,rfl,o2,c2,m2,d2⟩
 obtain ⟨y,hy⟩:∃y,y=doAct z.1 c.1 c.2.1 c.2.2.1 c.2.2.2.1 c.2.2.2.2:=⟨_,rfl⟩
 have hnx:actsAt a l (i+1)=(y.1,z.2++[y.2]):=by rw [has,hy];rfl
 rw [← hy] at o2
 have oneY:=Qu o2
 have y1:=oneY.1
 have y2:=oneY.2
 have lJ2:=c2.1
 have bC2:=Qa bC1 c2 (by simp)
 have bR2:=Qa bR1 c2 (by simp)
 have ou2:=ou1.chg c2 (by simp)
 obtain ⟨J3,hJ3⟩:∃J3,J3=J2++[⟨chipCells w2 y.1,0,51⟩]:=⟨_,rfl⟩
 have cJ3:Chg J2 J3 []:=by rw [hJ3];exact Chg.app _
 have lJ3:J3.length=J2.length+1:=by rw [hJ3];simp
 have bY:J3[J2.length]? = some ⟨chipCells w2 y.1,0,51⟩:=by rw [hJ3];simp
 have bC3:=Qa bC2 cJ3 (by simp)
 have bR3:=Qa bR2 cJ3 (by simp)
 have ou3:=ou2.chg cJ3 (by simp)
 have o3:=Dt.chg (T:=dChip) o2 cJ3 (by simp)
 have hFJ2:H.length≤J2.length:=by omega
 have hJs:=hJ3.symm
 unfold chipCells netCells at hJs
 simp only [List.cons_append,List.nil_append] at hJs
 simp [Qj,← hy,y1,y2,hFJ2]
 rw [hJs]
 clear hJ3 hJs
 obtain ⟨u',J4,hap,ou4,c4,n4⟩:=ou3.push (P:=Tryz.prog) (frz:=H.length) (ty:=24) (a:=y.2) (by simp) rfl (by omega) (fun j hj=>by have:=(mu j hj).1;omega)
 simp only [Fl.int_f] at hap
 have ltu:∀j∈VM.ids u,j<J.length:=fun j hj=>ou.lt j hj
 have lJ4:=c4.1
 have bY4:=Qa bY c4 (fun hh=>by have:=ltu _ hh;omega)
 have bC4:=Qa bC3 c4 (fun hh=>(mu _ hh).2 rfl)
 have bR4:=Qa bR3 c4 (fun hh=>by have:=(mu _ hh).1;omega)
 have o4:=Dt.chg (T:=dChip) o3 c4 (fun j hj hh=>by have:=m2 j hj;have:=ltu j hh;omega)
 have bY':=bY
 have bY4':=bY4
 have bC4':=bC4
 have gC:=Qg (r':=⟨chipCells w2 y.1,0,51⟩) bC4
 have cS:Chg J4 (J4.set (K.length+1) ⟨chipCells w2 y.1,0,51⟩) [K.length+1]:=Qe _ _
 obtain ⟨J5,hJ5⟩:∃J5,J5=J4.set (K.length+1) ⟨chipCells w2 y.1,0,51⟩:=⟨_,rfl⟩
 rw [← hJ5] at gC cS
 have o5:=Dt.chg (T:=dChip) o4 cS (fun j hj hh=>by have:=m2 j hj;simp at hh;omega)
 have ou5:=ou4.chg cS (fun j hj hh=>by
  simp at hh;subst hh
  rcases n4 _ hj with h|h
  ·exact (mu _ h).2 rfl
  ·omega)
 have bR5:=Qa bR4 cS (by simp;omega)
 have hJs:=hJ5.symm
 have lv3:=Yx o3
 have lv4:=Yx o4
 have bY3L:=fun L=>Qo bY L
 have lv3L:=fun L=>Yx (Dt.app (T:=dChip) (L:=L) o3)
 unfold chipCells netCells at bY' bY4' bC4' hJs bY3L
 simp only [List.cons_append,List.nil_append] at bY' bY4' bC4' hJs bY3L
 rw [Z1 (fl:=([0],[5])) (h:=⟨by kernel_rfl,by kernel_rfl,by kernel_rfl,by kernel_rfl⟩)]
 simp [emps,empOp,empB,-Qq,-Qz,t6,t7,VM.look,bY',bY3L,bY4',bC4',lv3,lv3L,lv4,hap,y1,y2,hFB]
 rw [hJs]
 clear hJ5 hJs
 simp [t26]
 have cH5:Chg H J5 []:=(((((cJ.trans cJ1).trans c2).trans cJ3).trans' c4 (fun j hj=>.inr (by have:=(mu j hj).1;omega))).trans' cS (fun j hj=>.inr (by simp at hj;omega)))
 refine ih (l.length-(i+1)) _ _ ⟨i+1,w2,u',rfl,by omega,by simp [t4],by simp [t6],by simp,by simp [t24],by simp [t25],?_,by rw [hnx];exact gC,by rw [hnx];exact o5,fun j hj=>by have:=m2 j hj;omega,fun hh=>by have:=m2 _ hh;omega,d2,by rw [hnx];exact ou5,fun j hj=>?_,fun j hj hh=>?_,cH5,bR5⟩ (by omega)
 ·simp;rw [w64 (by omega) (by omega)]
 ·rcases n4 j hj with h|h
  ·exact mu j h
  ·omega
 ·have hlt:=dChip.lt o2 j hj
  rcases n4 j hh with h|h
  ·have:=m2 j hj;have:=ltu j h;omega
  ·omega
def isReplay (a:ChipD) (l:List PkD) (ns:List Int):Prop:=canAct a l∧(runActs a l).2=ns
noncomputable instance (a:ChipD) (l:List PkD) (ns:List Int):Decidable (isReplay a l ns):=inferInstanceAs (Decidable (_∧_))
theorem Uw {v:ChipV} {a:ChipD} {lv nv:Value} {l:List PkD} {ns:List Int} (o:dChip.Ow H v a) (ol:dAct.Ow H lv l) (oN:dIntS.Ow H nv ns) (h9:allL 1048576 a.1.2.2.2.2.2.2.1) :
 vcall C frz 22 [dChip.val v a,lv,nv] H=some (.bool (decide (isReplay a l ns)),H):=by
 have hr:=ol.1.rd
 have hn:=ol.2
 have oneA:=Qu o
 have ones:=oneA.1
 have one2:=oneA.2
 refine wp.exact (by simp) ?_ rfl
 have er:=fun F=>R8 (frz:=F) (H:=H++[⟨chipCells v a,0,51⟩]) (Dt.app (T:=dChip) o) (Dt.app (T:=dAct) ol) h9
 simp only [Qj] at er ⊢
 rw [Qb (fn:=Tryz.f22) Tryz.func22 rfl (by kernel_rfl) rfl]
 obtain ⟨G,hG⟩:∃G,G=H++[⟨chipCells v a,0,51⟩]:=⟨_,rfl⟩
 have cG:Chg H G []:=by rw [hG];exact Chg.app _
 have b0:G[H.length]? = some ⟨chipCells v a,0,51⟩:=by rw [hG];simp
 have lG:G.length=H.length+1:=by rw [hG];simp
 rw [← hG] at er
 have hGs:=hG.symm
 unfold chipCells netCells at hGs
 simp only [List.cons_append,List.nil_append] at hGs
 simp [ones,one2]
 rw [hGs]
 clear hG hGs
 have b0':=b0
 unfold chipCells netCells at b0'
 simp only [List.cons_append,List.nil_append] at b0'
 try simp [VM.look,b0',ones,one2]
 refine Qc (er _) ?_
 rintro _ K ⟨w,u,rfl,ow,ou,c1,mw,dw,mu,du,xw⟩
 obtain ⟨y,hy⟩:∃y,y=runActs a l:=⟨_,rfl⟩
 rw [← hy] at ow ou
 have oneW:=Qu ow
 have p1:=oneW.1
 have p2:=oneW.2
 have lK:=c1.1
 have hFK:H.length≤K.length:=by omega
 obtain ⟨K2,hK2⟩:∃K2,K2=K++[⟨chipCells w y.1,0,51⟩]:=⟨_,rfl⟩
 have c12:Chg K K2 []:=by rw [hK2];exact Chg.app _
 have cK2:Chg H K2 []:=(cG.trans c1).trans c12
 have b2:=Qa (Qa b0 c1 (by simp)) c12 (by simp)
 have ou2:=Dt.chg (T:=dIntS) ou c12 (by simp)
 have oN2:=Dt.chg (T:=dIntS) oN cK2 (by simp)
 have ck:=fun F=>Zp (frz:=F) (H:=K2) (v:=v) (a:=a) (Dt.chg (T:=dChip) o cK2 (by simp))
 have ll:=(hr.chg cK2 (by simp)).len (P:=Tryz.prog) (ty:=55) (by simp)
 have se:=fun F=>Mj (frz:=F) (H:=K2) u nv y.2 ns ou2.1.rd oN2.1.rd ou2.2
 simp only [Qj] at ck
 have hKs:=hK2.symm
 unfold chipCells netCells at hKs b2
 simp only [List.cons_append,List.nil_append] at hKs b2
 simp [Qj,← hy,p1,p2,hFK]
 rw [hKs]
 clear hK2 hKs
 by_cases g0:chipOk a
 ·by_cases g1:l.length≤30
  ·have e:decide (isReplay a l ns)=decide (y.2=ns):=by rw [hy];simp [isReplay,canAct,g0,g1]
   have g1':((l.length:Nat):Int)≤30:=by omega
   rw [e]
   simp [VM.look,b2,ck,g0,ll,g1',se]
  ·have e:decide (isReplay a l ns)=false:=by simp [isReplay,canAct,g0,g1]
   have g1':¬((l.length:Nat):Int)≤30:=by omega
   rw [e]
   simp [VM.look,b2,ck,g0,ll,g1',se]
 ·have e:decide (isReplay a l ns)=false:=by simp [isReplay,canAct,g0]
  rw [e]
  simp [VM.look,b2,ck,g0,ll,se]
end Go.Proofs.YtlhaeingdonaeaaGreat.V
set_option linter.all false
namespace Go.Proofs.YtlhaeingdonaeaaGreat.V
open Go Go.VM Go.Proofs
set_option maxRecDepth 10000
variable {frz:Nat} {H H':Heap} {vb:Value} {code:List Int} {r:Nat}
theorem iand255 (a:Int):0≤iand .i64 a 255∧iand .i64 a 255<256:=by
 unfold iand
 have h1:(BitVec.ofInt IntKind.i64.bits a&&& BitVec.ofInt IntKind.i64.bits 255).toNat≤255:=by
  rw [BitVec.toNat_and]
  exact Nat.le_trans Nat.and_le_right (by decide)
 rw [w64 (by omega) (by omega)]
 omega
def Cur (H:Heap) (r:Nat) (vb:Value) (code:List Int):Prop:=
 ∃(i:Nat) (h:Int),i≤code.length∧H[r]? = some ⟨[vb,.int .i64 i,.int .i64 h],0,130⟩∧Rd Fl.u8 H vb code∧r∉ids vb∧code.length≤1073741824
theorem Cur.lt (h:Cur H r vb code):r<H.length:=by obtain ⟨_,_,_,h2,_⟩:=h;exact Qt h2
theorem Cur.chg {is:List Nat} (h:Cur H r vb code) (c:Chg H H' is) (k:r∉is) (k':∀i∈ids vb,i∉is):Cur H' r vb code:=by
 obtain ⟨i,x,h1,h2,h3,h4,h5⟩:=h
 exact ⟨i,x,h1,Qa h2 c k,h3.chg c k',h4,h5⟩
theorem Ns (vb:Value) (code:List Int) (hb:Rd Fl.u8 H vb code) (hl:code.length≤1073741824) :
 wp (vcall C frz 46 [vb] H) (fun u H'=>∃r,u=.pointer (some ⟨r,0,some 0⟩)∧H.length≤r∧Cur H' r vb code∧Chg H H' []):=by
 rw [Qb (fn:=Tryz.f46) Tryz.func46 rfl (by kernel_rfl) rfl]
 simp [hb.len]
 refine Eb (F:=?F) (k:=?k) (o:=?o) (Q:=?Q) (fun t H'=>H'=H∧t 0=vb∧∃h,t 3=.int .i64 h) ?main ?rest
 case main=>
  intro rest
  refine Qi (fun n t H'=>∃i:Nat,n=code.length-i∧i≤code.length∧t 0=vb∧t 4=.int .i64 i∧(∃h,t 3=.int .i64 h)∧H=H') ?_ (n:=code.length)
   ⟨0,rfl,by omega,by simp,by simp,⟨_,by simp;rfl⟩,rfl⟩
  rintro n t _ ⟨i,rfl,hi,t0,t4,⟨h,t3⟩,rfl⟩ ih
  simp [t0,t3,t4,hb.len]
  refine Wo ?_ ?_<;>intro g1
  ·simp [t0,t3,t4,g1]
   refine Qd ?_ ?_<;>intro g2
   ·have q1:=hb.idx (P:=Tryz.prog) (ty:=67) (e:=5) (by simp) (i:=(i:Int)) (by omega) (by omega)
    have r1:=hb.cell1 (P:=Tryz.prog) (e:=5) rfl (by simp) g1
    simp at q1 r1
    simp [t0,t3,t4,q1,r1]
    refine ih (code.length-(i+1)) _ _ ⟨i+1,rfl,by omega,by simp [t0],?_,⟨_,by simp;rfl⟩,rfl⟩ (by omega)
    simp;rw [w64 (by omega) (by omega)]
   ·simp [t0,t3,t4,-Ti]
    refine rest _ _ ?_
    exact ⟨rfl,by simp [t0],h,by simp [t3]⟩
  ·simp [t0,t3,t4,g1,-Ti]
   refine rest _ _ ?_
   exact ⟨rfl,by simp [t0],h,by simp [t3]⟩
 case rest=>
  rintro t H' ⟨hH,t0,h,t3⟩
  rw [hH]
  simp [t0,t3,hb.one',hb.cells]
  exact ⟨⟨0,h,by omega,by simp,hb.app,fun hh=>by have:=hb.lt _ hh;omega,hl⟩,Chg.app _⟩
theorem Yy (c:Cur H r vb code) (hf:frz≤r):wp (vcall C frz 96 [.pointer (some ⟨r,0,some 0⟩)] H) (fun u H'=>(∃x:Nat,u=.int .i64 x∧x<256)∧Chg H H' [r]∧Cur H' r vb code):=by
 obtain ⟨i,h,hi,hr,hb,hn,hl⟩:=c
 have lt:=Qt hr
 rw [Qb (fn:=Tryz.f96) Tryz.func96 rfl (by kernel_rfl) rfl]
 simp [vnil,VM.look,hr,hf]
 generalize IntKind.i64.wrap (IntKind.i64.wrap (h*6364136223846793005)+1442695040888963407)=h1
 have hr1:=Qg (r':=⟨[vb,.int .i64 i,.int .i64 h1],0,130⟩) hr
 have c1:Chg H (H.set r ⟨[vb,.int .i64 i,.int .i64 h1],0,130⟩) [r]:=Qe _ _
 generalize H.set r ⟨[vb,.int .i64 i,.int .i64 h1],0,130⟩=H1 at *
 have hb1:=hb.chg c1 (fun j hj hh=>by have:=List.mem_singleton.1 hh;subst this;exact hn hj)
 rw [Qf (h:=by kernel_rfl)]
 simp [vnil,VM.look,hr1]
 obtain ⟨x,hx⟩:∃x:Nat,iand .i64 (ixor .i64 (ishr .i64 h1 33) (ishr .i64 h1 45)) 255=x:=⟨_,(Int.toNat_of_nonneg (iand255 _).1).symm⟩
 have hx2:=(iand255 (ixor .i64 (ishr .i64 h1 33) (ishr .i64 h1 45))).2
 rw [hx] at hx2
 simp [hx]
 rw [Qf (h:=by kernel_rfl)]
 simp [vnil,VM.look,hr1,hb1.len]
 refine Qd ?_ ?_<;>intro g1
 ·have q1:=hb1.idx (P:=Tryz.prog) (ty:=67) (e:=5) (by simp) (i:=(i:Int)) (by omega) (by omega)
  have r1:=hb1.cell1 (P:=Tryz.prog) (e:=5) rfl (by simp) g1
  simp at q1 r1
  simp
  rw [Qf (h:=by kernel_rfl)]
  have e1:IntKind.i64.wrap ((i:Int)+1)=((i+1:Nat):Int):=by rw [w64 (by omega) (by omega)];omega
  simp only [vnil,VM.look,hr1,q1,r1]
  simp [vnil,VM.look,hr1,q1,r1,hf]
  generalize hz:IntKind.i64.wrap ((x:Int)+IntKind.i64.wrap code[i])=z
  obtain ⟨y,hy⟩:∃y:Nat,iand .i64 z 255=y:=⟨_,(Int.toNat_of_nonneg (iand255 _).1).symm⟩
  have hy2:=(iand255 z).2
  rw [hy] at hy2
  rw [hy,e1]
  have hr2:=Qg (r':=⟨[vb,.int .i64 (i+1:Nat),.int .i64 h1],0,130⟩) hr1
  have c2:Chg H1 (H1.set r ⟨[vb,.int .i64 (i+1:Nat),.int .i64 h1],0,130⟩) [r]:=Qe _ _
  exact ⟨⟨y,rfl,by omega⟩,c1.trans c2,i+1,h1,by omega,hr2,hb1.chg c2 (fun j hj hh=>by have:=List.mem_singleton.1 hh;subst this;exact hn hj),hn,hl⟩
 ·simp
  exact ⟨⟨x,rfl,by omega⟩,c1,i,h1,hi,hr1,hb1,hn,hl⟩
theorem Lq {x n:Nat} (hn:0<n):(x:Int).tmod (n:Int)=((x%n:Nat):Int):=by rw [Int.tmod_eq_emod_of_nonneg (by omega)];rfl
theorem Wc (c:Cur H r vb code) (hf:frz≤r) (n:Nat) (hn:0<n) (hn2:n<2147483648):wp (vcall C frz 51 [.pointer (some ⟨r,0,some 0⟩),.int .i64 n] H) (fun u H'=>(∃x:Nat,u=.int .i64 x∧x<n)∧Chg H H' [r]∧Cur H' r vb code):=by
 have hn0:¬(n:Int)≤0:=by omega
 have hn1:¬n=0:=by omega
 rw [Qb (fn:=Tryz.f51) Tryz.func51 rfl (by kernel_rfl) rfl]
 simp [hn0,hn1]
 refine Qd ?_ ?_<;>intro g1
 ·simp
  refine Qc (Yy c hf) ?_
  rintro _ H1 ⟨⟨x,rfl,hx⟩,c1,d1⟩
  have hm:x%n<n:=Nat.mod_lt _ hn
  have e1:IntKind.i64.wrap ((x%n:Nat):Int)=((x%n:Nat):Int):=w64 (by omega) (by omega)
  simp [hn1,Lq hn,e1]
  exact ⟨⟨x%n,by simp,hm⟩,c1,d1⟩
 ·simp
  refine Qc (Yy c hf) ?_
  rintro _ H1 ⟨⟨x,rfl,hx⟩,c1,d1⟩
  simp
  refine Qc (Yy d1 hf) ?_
  rintro _ H2 ⟨⟨y,rfl,hy⟩,c2,d2⟩
  simp
  refine Qc (Yy d2 hf) ?_
  rintro _ H3 ⟨⟨z,rfl,hz⟩,c3,d3⟩
  simp
  refine Qc (Yy d3 hf) ?_
  rintro _ H4 ⟨⟨w,rfl,hw⟩,c4,d4⟩
  obtain ⟨q,hq⟩:∃q:Nat,q=x*16777216+y*65536+z*256+w:=⟨_,rfl⟩
  have e1:IntKind.i64.wrap (IntKind.i64.wrap (IntKind.i64.wrap (IntKind.i64.wrap ((x:Int)*16777216)+IntKind.i64.wrap ((y:Int)*65536))+IntKind.i64.wrap ((z:Int)*256))+(w:Int))=(q:Int):=by
   rw [w64 (x:=(x:Int)*16777216) (by omega) (by omega),w64 (x:=(y:Int)*65536) (by omega) (by omega),w64 (x:=(z:Int)*256) (by omega) (by omega),w64 (x:=(x:Int)*16777216+(y:Int)*65536) (by omega) (by omega),w64 (x:=(x:Int)*16777216+(y:Int)*65536+(z:Int)*256) (by omega) (by omega),w64 (by omega) (by omega)]
   omega
  have hm:q%n<n:=Nat.mod_lt _ hn
  have e2:IntKind.i64.wrap ((q%n:Nat):Int)=((q%n:Nat):Int):=w64 (by omega) (by omega)
  simp [hn1,e1,Lq hn,e2]
  exact ⟨⟨q%n,by simp,hm⟩,c1.trans (c2.trans (c3.trans c4)),d4⟩
theorem Vd (c:Cur H r vb code) (hf:frz≤r) (v:Value) (xs:List Int) (hI:IsI H v xs) (hv:r∉ids v) (h0:0<xs.length) (hl:xs.length<2147483648) :
 wp (vcall C frz 154 [.pointer (some ⟨r,0,some 0⟩),v] H) (fun u H'=>(∃x,u=.int .i64 x∧x∈xs)∧Chg H H' [r]∧Cur H' r vb code):=by
 rw [Qb (fn:=Tryz.f154) Tryz.func154 rfl (by kernel_rfl) rfl]
 simp [hI.len]
 refine Qc (Wc c hf xs.length h0 hl) ?_
 rintro _ H1 ⟨⟨x,rfl,hx⟩,c1,d1⟩
 have hI1:=(hI.rd.chg c1 (fun i hi hh=>by have:=List.mem_singleton.1 hh;subst this;exact hv hi)).isI
 have q1:=hI1.idx (P:=Tryz.prog) (ty:=24) (e:=3) (by simp) (i:=(x:Int)) (by omega) (by omega)
 have r1:=(hI1.load (P:=Tryz.prog) (e:=3) (by simp) hx).trans (by rw [Qw _ _ hx])
 simp only [Int.toNat_natCast] at q1
 simp [q1,r1]
 exact ⟨c1,d1⟩
theorem Fx (c:Cur H r vb code) (hf:frz≤r):wp (vcall C frz 93 [.pointer (some ⟨r,0,some 0⟩)] H) (fun u H'=>(∃w h,u=.agg #[.int .i64 w,.int .i64 h]∧okG w h)∧Chg H H' [r]∧Cur H' r vb code):=by
 have lt:=c.lt
 have nb:∀(L:Heap),Cur (H++L) r vb code:=fun L=>by
  obtain ⟨i,x,h1,h2,h3,h4,h5⟩:=c
  exact ⟨i,x,h1,Qo h2 L,h3.app,h4,h5⟩
 rw [Qb (fn:=Tryz.f93) Tryz.func93 rfl (by kernel_rfl) rfl]
 simp
 have i1:=IsI.at (H:=H) (L:=[⟨[.int .i64 0,.int .i64 0],0,40⟩,⟨[.int .i64 1,.int .i64 2,.int .i64 2,.int .i64 3,.int .i64 3,.int .i64 4],0,3⟩]) (k:=1) (xs:=[1,2,2,3,3,4]) rfl
 refine Qc (Vd (nb _) hf _ [1,2,2,3,3,4] i1 (by simp;omega) (by simp) (by simp)) ?_
 rintro _ H1 ⟨⟨w,rfl,hw⟩,c1,d1⟩
 have cH:Chg H H1 [r]:=(Chg.app [r]).trans c1
 have l0:=cH.1
 have b0:H1[H.length]? = some ⟨[.int .i64 0,.int .i64 0],0,40⟩:=Qa (by simp) c1 (by simp;omega)
 have lt1:=d1.lt
 have nb1:∀(L:Heap),Cur (H1++L) r vb code:=fun L=>by
  obtain ⟨i,x,h1,h2,h3,h4,h5⟩:=d1
  exact ⟨i,x,h1,Qo h2 L,h3.app,h4,h5⟩
 simp
 have i2:=IsI.at0 (H:=H1) (L:=[⟨[.int .i64 1,.int .i64 2,.int .i64 2,.int .i64 3,.int .i64 3,.int .i64 4],0,3⟩]) (xs:=[1,2,2,3,3,4]) rfl
 refine Qc (Vd (nb1 _) hf _ [1,2,2,3,3,4] i2 (by simp;omega) (by simp) (by simp)) ?_
 rintro _ H2 ⟨⟨h,rfl,hh⟩,c2,d2⟩
 have b2:H2[H.length]? = some ⟨[.int .i64 0,.int .i64 0],0,40⟩:=Qa (Qo b0 _) c2 (by simp;omega)
 have g2:=Qg (r':=⟨[.int .i64 w,.int .i64 h],0,40⟩) b2
 have hF:frz≤H.length:=by omega
 simp [VM.look,b2,g2,hF]
 have hwr:1≤w∧w≤4:=by simp at hw;omega
 have hhr:1≤h∧h≤4:=by simp at hh;omega
 have c3:Chg H2 (H2.set H.length ⟨[.int .i64 w,.int .i64 h],0,40⟩) [H.length]:=Qe _ _
 refine ⟨⟨w,h,⟨rfl,rfl⟩,hwr,hhr⟩,(cH.trans ((Chg.app [r]).trans c2)).trans' c3 (fun i hi=>.inr (by simp at hi;omega)),?_⟩
 obtain ⟨i,x,h1,h2,h3,h4,h5⟩:=d2
 have vlt:=fun i (hi:i∈ids vb)=>(show i<H.length by obtain ⟨_,_,_,_,k3,_⟩:=c;exact k3.lt i hi)
 exact ⟨i,x,h1,Qa h2 c3 (by simp;omega),h3.chg c3 (fun j hj hh=>by have:=vlt j hj;simp at hh;omega),h4,h5⟩
theorem Cur.app (c:Cur H r vb code) (L:Heap):Cur (H++L) r vb code:=by
 obtain ⟨i,x,h1,h2,h3,h4,h5⟩:=c
 exact ⟨i,x,h1,Qo h2 L,h3.app,h4,h5⟩
theorem Cur.vlt (c:Cur H r vb code):∀i∈ids vb,i<H.length:=by
 obtain ⟨_,_,_,_,k3,_⟩:=c;exact k3.lt
theorem O3 (vb:Value) (code:List Int) (hb:Rd Fl.u8 H vb code) (hl:code.length≤1073741824) :
 wp (vcall C frz 25 [vb] H) (fun u H'=>∃xs:List Int,Ow Fl.int 3 H' u xs∧xs.length=12∧(∀x∈xs,0≤x∧x<10000)∧(∀i∈ids u,H.length≤i)∧Chg H H' []):=by
 rw [Qb (fn:=Tryz.f25) Tryz.func25 rfl (by kernel_rfl) rfl]
 simp
 refine Qc (Ns vb code hb hl) ?_
 rintro _ H1 ⟨r,rfl,hr,c1,ch1⟩
 have lt1:=c1.lt
 have vlt:=hb.lt
 simp
 refine Qi (fun n t H'=>∃(i:Nat) (u:Value) (xs:List Int),n=12-i∧i≤12∧t 3=.pointer (some ⟨r,0,some 0⟩)∧t 4=u∧t 5=.int .i64 i∧Cur H' r vb code∧Ow Fl.int 3 H' u xs∧xs.length=i∧(∀x∈xs,0≤x∧x<10000)∧(∀j∈ids u,H.length≤j∧j≠r)∧Chg H H' []) ?_ (n:=12)
  ⟨0,.slice (some ⟨H1.length,0,some 0⟩) 0 0,[],rfl,by omega,by simp,by simp,by simp,c1.app _,Ow.new0 (D:=Fl.int) (xs:=[]) rfl rfl rfl rfl,rfl,by simp,by have:=ch1.1;simp;omega,ch1.trans (Chg.app [])⟩
 rintro n t H' ⟨i,u,xs,rfl,hi,t3,t4,t5,c,o,hx,hr2,nu,ch⟩ ih
 simp [t3,t4,t5]
 refine Qd ?_ ?_<;>intro g1
 ·simp [t3,t4,t5]
  have bl:=Wc (frz:=H.length) c hr 10000 (by decide) (by decide)
  refine Qc (by simpa using bl) ?_
  rintro _ H2 ⟨⟨x,rfl,hx2⟩,c2,d2⟩
  have o2:=o.chg c2 (fun j hj hh=>(nu j hj).2 (List.mem_singleton.1 hh))
  obtain ⟨u',H3,hap,o3,c3,n3⟩:=o2.push (P:=Tryz.prog) (frz:=H.length) (ty:=24) (a:=(x:Int)) (by simp) rfl (by omega) (fun j hj=>(nu j hj).1)
  simp only [Fl.int_f] at hap
  have l2:=ch.1
  have l3:=c2.1
  have ltr:=d2.lt
  simp [t3,t4,t5,hap]
  refine ih (12-(i+1)) _ _ ⟨i+1,u',xs++[(x:Int)],rfl,by omega,by simp [t3],by simp,?_,d2.chg c3 (fun hh=>(nu _ hh).2 rfl) (fun j hj hh=>by have:=(nu j hh).1;have:=vlt j hj;omega),o3,by simp [hx],fun y hy=>?_,fun j hj=>?_,(ch.trans' c2 (fun j hj=>.inr (by simp at hj;omega))).trans' c3 (fun j hj=>.inr ((nu j hj).1))⟩ (by omega)
  ·simp;rw [w64 (by omega) (by omega)]
  ·rcases List.mem_append.1 hy with hy|hy
   ·exact hr2 y hy
   ·rw [List.mem_singleton.1 hy];omega
  ·rcases n3 j hj with h1|h1
   ·exact nu j h1
   ·omega
 ·simp [t4]
  exact ⟨xs,o,by omega,hr2,fun j hj=>(nu j hj).1,ch⟩
theorem jt (v:Value) (code:List Int) (hb:Rd Fl.u8 H v code):vcall C frz 23 [v] H=some (.bool (decide ((1048576:Int)<code.length)),H):=by
 rw [Qb (fn:=Tryz.f23) Tryz.func23 rfl (by kernel_rfl) rfl]
 simp [hb.len]
end Go.Proofs.YtlhaeingdonaeaaGreat.V
set_option linter.all false
namespace Go.Proofs.YtlhaeingdonaeaaGreat.V
open Go Go.VM Go.Proofs
theorem Sv:∀xs:List Int,cellsOf Fl.u8 xs=xs.map (.int .u8)
 | []=>rfl
 | a::l=>by rw [Wi,Sv l];rfl
theorem Fw {H:Heap} {v:Value} {xs:List Int} (h:IsS (Kn.int .u8) H v xs):Rd Fl.u8 H v xs:=by
 rcases h with h|⟨id,off,r,h1,h2,h3,h4⟩
 ·exact .inl h
 ·have hs:(Kn.int .u8).sz=1:=rfl
  rw [hs] at h3 h4
  have e0:cellsOf Fl.u8 xs=xs.map (.int .u8):=Sv xs
  refine .inr ⟨id,off,r,h1,h2,?_,by simpa using h3⟩
  rw [e0]
  refine List.ext_getElem? fun j=>?_
  by_cases hj:j<xs.length
  ·have:=h4 j xs[j] (by simp [hj])
   have e:(r.cells.drop (off+j*1)).take 1=[.int .u8 xs[j]]:=this
   have e2:=congrArg (·[0]?) e
   simp at e2
   rw [List.getElem?_take,if_pos (by simpa using hj),List.getElem?_drop]
   simp [e2,hj]
  ·rw [List.getElem?_take,if_neg (by simpa using hj),List.getElem?_eq_none (by rw [List.length_map];omega)]
end Go.Proofs.YtlhaeingdonaeaaGreat.V
set_option linter.all false
namespace Go.Proofs.YtlhaeingdonaeaaGreat.V
open Go Go.VM Go.Proofs
set_option maxRecDepth 10000
variable {frz:Nat} {H:Heap} {r:Nat} {vb:Value} {code:List Int}
theorem Cur.set {J:Heap} {id:Nat} {x:Row} (c:Cur J r vb code) (h1:r≠id) (h2:∀i∈ids vb,i≠id):Cur (J.set id x) r vb code:=
 c.chg (Qe _ _) (by simpa using h1) (fun i hi=>by simpa using h2 i hi)
theorem Gu (c:Cur H r vb code) (hf:frz≤r):wp (vcall C frz 48 [.pointer (some ⟨r,0,some 0⟩)] H) (fun u H'=>(∃w h,u=.agg #[.int .i64 w,.int .i64 h]∧okG w h∧2≤cnt w h)∧Chg H H' [r]∧Cur H' r vb code):=by
 have lt:=c.lt
 have vlt:=c.vlt
 rw [Qb (fn:=Tryz.f48) Tryz.func48 rfl (by kernel_rfl) rfl]
 simp
 refine Qc (Fx (c.app _) hf) ?_
 rintro _ K ⟨⟨w,h,rfl,hg⟩,c1,d1⟩
 have cH:Chg H K [r]:=(Chg.app [r]).trans c1
 have l0:=cH.1
 have b0:K[H.length]? = some ⟨[.int .i64 0,.int .i64 0],0,40⟩:=Qa (by simp) c1 (by simp;omega)
 have lK:=Qt b0
 have hF:frz≤H.length:=by omega
 have hFK:frz≤K.length:=by omega
 have nc:=fun F H=>Q6 (frz:=F) (H:=H) w h
 simp [hFK,VM.look,nc]
 refine Qd ?_ ?_<;>intro g
 ·have b1:=Qo b0 [⟨[.int .i64 2,.int .i64 h],0,40⟩]
  have g3:=Qg (r':=⟨[.int .i64 2,.int .i64 h],0,40⟩) b1
  have ltr:=d1.lt
  have h2:okG 2 h∧2≤cnt 2 h:=by
   have e:okG 2 h:=⟨by omega,hg.2⟩
   refine ⟨e,?_⟩
   unfold cnt;rw [if_pos e];have:=hg.2;omega
  simp [VM.look,b1,g3,hFK,hF]
  exact ⟨⟨2,h,⟨rfl,rfl⟩,h2⟩,(cH.trans (Chg.app _)).trans' (Qe _ _) (fun i hi=>.inr (by simp at hi;omega)),(d1.app _).set (by omega) (fun i hi=>by have:=vlt i hi;omega)⟩
 ·have b1:=Qo b0 [⟨[.int .i64 w,.int .i64 h],0,40⟩]
  have g3:=Qg (r':=⟨[.int .i64 w,.int .i64 h],0,40⟩) b1
  have ltr:=d1.lt
  simp [VM.look,b1,g3,hF]
  exact ⟨⟨w,h,⟨rfl,rfl⟩,hg,by omega⟩,(cH.trans (Chg.app _)).trans' (Qe _ _) (fun i hi=>.inr (by simp at hi;omega)),(d1.app _).set (by omega) (fun i hi=>by have:=vlt i hi;omega)⟩
structure Kept (x y:NetD):Prop where
 ok:netOk y
 m:y.1=x.1
 t:y.2.1=x.2.1
 a:y.2.2.2.2.2.2.1=x.2.2.2.2.2.2.1
 tm:y.2.2.2.2.2.2.2=x.2.2.2.2.2.2.2
theorem Kept.trans {x y z:NetD} (h:Kept x y) (k:Kept y z):Kept x z:=⟨k.ok,k.m.trans h.m,k.t.trans h.t,k.a.trans h.a,k.tm.trans h.tm⟩
theorem P4 {m:MeshD} {t:ClassesD} (h:classesOk m.1 m.2.1 m.2.2 t.1 t.2):netOk (netNew m t)∧(netNew m t).1=m∧allL 66000000 (netNew m t).2.2.2.2.2.2.1∧(netNew m t).2.2.2.2.2.2.2=0:=by
 have cr:=Qh m.1 m.2.1
 unfold netNew
 rw [if_pos h]
 refine ⟨⟨h,⟨?_,?_,?_,?_,?_⟩,fun i hi=>?_,fun l hl=>?_,fun o ho=>?_,fun o ho=>?_,?_⟩,rfl,fun l hl=>?_,rfl⟩
 ·simp only [List.length_replicate];omega
 ·simp only [List.length_replicate];omega
 ·simp only [List.length_replicate];omega
 ·simp only [List.length_replicate];omega
 ·simp only [List.length_replicate];omega
 ·have e:(List.replicate (10*(cnt m.1 m.2.1).toNat) ([]:List FlitD)).getD i []=[]:=by
   rw [U7 hi,List.getElem_replicate]
  show bufOk _ _ ((List.replicate (10*(cnt m.1 m.2.1).toNat) ([]:List FlitD)).getD i []) _
  rw [e]
  exact ⟨by simp,by simp,fun f hf=>by simp at hf⟩
 ·have:=List.eq_of_mem_replicate hl;subst this;exact ⟨by simp,fun f hf=>by simp at hf⟩
 ·have:=List.eq_of_mem_replicate ho;subst this;unfold inR;omega
 ·have:=List.eq_of_mem_replicate ho;subst this;unfold inR;omega
 ·exact ⟨show (0:Int)≤0 by omega,show (0:Int)≤1000000 by omega⟩
 ·have:=List.eq_of_mem_replicate hl;subst this;simp
end Go.Proofs.YtlhaeingdonaeaaGreat.V
set_option linter.all false
namespace Go.Proofs.YtlhaeingdonaeaaGreat.V
open Go Go.VM Go.Proofs
set_option maxRecDepth 10000
variable {frz:Nat} {H:Heap}
def chipNew (w h:Int):ChipD:=if okG w h then (netNew (w,h,[]) (splitT w h),[]) else (net0,[])
theorem U9 {w h:Int} (g:okG w h):classesOk w h [] (splitT w h).1 (splitT w h).2:=by
 have hn:cnt w h=((cnt w h).toNat:Int):=by have:=Qh w h;omega
 unfold splitT;rw [if_pos g]
 exact ⟨Ec (by omega) g hn,Ec (by omega) g hn⟩
theorem Ik {K:Heap} {n:NetV} {x:NetD} (c:Chg H K []) (o:dNet.Ow K n x) (m:∀i∈dNet.ids n,H.length≤i) (d:(dNet.ids n).Nodup):dChip.Made H (x,[]) (dChip.val (n,.slice none 0 0) (x,[])) K:=by
 refine ⟨(n,.slice none 0 0),rfl,⟨o,⟨.inl ⟨rfl,rfl⟩,by simp⟩⟩,c,fun i hi=>?_,?_⟩
 ·rcases List.mem_append.1 hi with hi|hi
  ·exact m i hi
  ·simp [dPk,dFlat,ids] at hi
 ·show (dNet.ids n++[]).Nodup
  rw [List.append_nil];exact d
theorem Jq (w h:Int) :
 wp (vcall C frz 47 [.agg #[.int .i64 w,.int .i64 h]] H) (Made2 dChip H (chipNew w h) (decide (okG w h))):=by
 rw [Qb (fn:=Tryz.f47) Tryz.func47 rfl (by kernel_rfl) rfl]
 simp
 refine Qc (E2 w h) ?_
 rintro _ K1 ⟨_,rfl,vc,rfl,oc,c1,m1,d1⟩
 have cH:Chg H K1 []:=(Chg.app _).trans c1
 have bG:K1[H.length]? = some ⟨[.int .i64 w,.int .i64 h],0,40⟩:=Qa (by simp) c1 (by simp)
 have bR:K1[H.length+1]? = some ⟨[.int .i64 0,.int .i64 0,.slice none 0 0,.slice none 0 0,.slice none 0 0,.slice none 0 0,.slice none 0 0,.slice none 0 0,.slice none 0 0,.slice none 0 0,.int .i64 0,.slice none 0 0],0,51⟩:=Qa (by simp) c1 (by simp)
 have onec:=We oc
 have l1:=cH.1
 have lR:=Qt bR
 have bG2:=fun L=>Qo bG L
 have bR2:=fun L=>Qo bR L
 have hF:H.length≤H.length+1:=by omega
 have zero:∀K:Heap,Chg H K []→K[H.length+1]? = some ⟨[.int .i64 0,.int .i64 0,.slice none 0 0,.slice none 0 0,.slice none 0 0,.slice none 0 0,.slice none 0 0,.slice none 0 0,.slice none 0 0,.slice none 0 0,.int .i64 0,.slice none 0 0],0,51⟩→¬okG w h→Made2 dChip H (chipNew w h) (decide (okG w h)) (.tuple #[.agg #[.int .i64 0,.int .i64 0,.slice none 0 0,.slice none 0 0,.slice none 0 0,.slice none 0 0,.slice none 0 0,.slice none 0 0,.slice none 0 0,.slice none 0 0,.int .i64 0,.slice none 0 0],.bool false]) (K.set (H.length+1) ⟨[.int .i64 0,.int .i64 0,.slice none 0 0,.slice none 0 0,.slice none 0 0,.slice none 0 0,.slice none 0 0,.slice none 0 0,.slice none 0 0,.slice none 0 0,.int .i64 0,.slice none 0 0],0,51⟩):=fun K cK bK g=>by
  have e:chipNew w h=(net0,[]):=if_neg g
  rw [e,decide_eq_false g]
  have e2:K.set (H.length+1) ⟨[.int .i64 0,.int .i64 0,.slice none 0 0,.slice none 0 0,.slice none 0 0,.slice none 0 0,.slice none 0 0,.slice none 0 0,.slice none 0 0,.slice none 0 0,.int .i64 0,.slice none 0 0],0,51⟩=K:=by
   apply List.ext_getElem? ;intro j
   rw [List.getElem?_set]
   split
   ·rename_i hj;subst hj;rw [bK];simp [Qt bK]
   ·rfl
  rw [e2]
  exact ⟨_,rfl,Ik cK (Ie K) (by rw [Tu];simp) (by rw [Tu];simp)⟩
 by_cases g:okG w h
 rotate_left
 ·have z:=zero (K1++[⟨[vc.1,vc.2],0,45⟩]) (cH.trans (Chg.app _)) (bR2 _) g
  have gR:=Qg (r':=⟨[.int .i64 0,.int .i64 0,.slice none 0 0,.slice none 0 0,.slice none 0 0,.slice none 0 0,.slice none 0 0,.slice none 0 0,.slice none 0 0,.slice none 0 0,.int .i64 0,.slice none 0 0],0,51⟩) (bR2 [⟨[vc.1,vc.2],0,45⟩])
  simp [Wd,onec,g,VM.look,l1,bR2,gR,hF]
  rw [decide_eq_false g] at z
  exact z
 simp [Wd,onec,g,VM.look,l1,bG2]
 have om:dMesh.Ow (K1++[⟨[vc.1,vc.2],0,45⟩]) (.slice none 0 0) (w,h,[]):=⟨.inl ⟨rfl,rfl⟩,by simp⟩
 have nn:=I4 (frz:=H.length) om (Dt.app (T:=dClasses) (L:=[⟨[vc.1,vc.2],0,45⟩]) oc)
 simp only [Ww,Wd] at nn
 refine Qc nn ?_
 rintro _ K2 ⟨_,rfl,vn,rfl,on,c2,m2,d2⟩
 have bR:=Qa (bR2 [⟨[vc.1,vc.2],0,45⟩]) c2 (by simp)
 have cH2:Chg H K2 []:=(cH.trans (Chg.app _)).trans c2
 have onen:=Qn on
 have l2:=cH2.1
 have ek:classesOk w h [] (splitT w h).1 (splitT w h).2:=U9 g
 have e:chipNew w h=(netNew (w,h,[]) (splitT w h),[]):=if_pos g
 rw [e]
 generalize netNew (w,h,[]) (splitT w h)=x at *
 have bR2:=fun L=>Qo bR L
 have gR:=Qg (r':=⟨[.int .i64 x.1.1,.int .i64 x.1.2.1,vn.1,vn.2.1.1,vn.2.1.2,vn.2.2.1.1,vn.2.2.2.1,vn.2.2.2.2.1,vn.2.2.2.2.2.1.1,vn.2.2.2.2.2.2.1.1,.int .i64 x.2.2.2.2.2.2.2,.slice none 0 0],0,51⟩) (bR2 [⟨[.int .i64 x.1.1,.int .i64 x.1.2.1,vn.1,vn.2.1.1,vn.2.1.2,vn.2.2.1.1,vn.2.2.2.1,vn.2.2.2.2.1,vn.2.2.2.2.2.1.1,vn.2.2.2.2.2.2.1.1,.int .i64 x.2.2.2.2.2.2.2],0,48⟩])
 simp [Qm,onen,g,ek,VM.look,l2,bR2,gR,hF]
 have eR:Chg (K2++[⟨[.int .i64 x.1.1,.int .i64 x.1.2.1,vn.1,vn.2.1.1,vn.2.1.2,vn.2.2.1.1,vn.2.2.2.1,vn.2.2.2.2.1,vn.2.2.2.2.2.1.1,vn.2.2.2.2.2.2.1.1,.int .i64 x.2.2.2.2.2.2.2],0,48⟩]) ((K2++([⟨[.int .i64 x.1.1,.int .i64 x.1.2.1,vn.1,vn.2.1.1,vn.2.1.2,vn.2.2.1.1,vn.2.2.2.1,vn.2.2.2.2.1,vn.2.2.2.2.2.1.1,vn.2.2.2.2.2.2.1.1,.int .i64 x.2.2.2.2.2.2.2],0,48⟩]:List Row)).set (H.length+1) ⟨[.int .i64 x.1.1,.int .i64 x.1.2.1,vn.1,vn.2.1.1,vn.2.1.2,vn.2.2.1.1,vn.2.2.2.1,vn.2.2.2.2.1,vn.2.2.2.2.2.1.1,vn.2.2.2.2.2.2.1.1,.int .i64 x.2.2.2.2.2.2.2,.slice none 0 0],0,51⟩) [H.length+1]:=Qe _ _
 have m2':∀i∈dNet.ids vn,K1.length<i:=fun i hi=>by have:=m2 i hi;simp at this;omega
 have on2:=Dt.chg (T:=dNet) (Dt.app (T:=dNet) (L:=[⟨[.int .i64 x.1.1,.int .i64 x.1.2.1,vn.1,vn.2.1.1,vn.2.1.2,vn.2.2.1.1,vn.2.2.2.1,vn.2.2.2.2.1,vn.2.2.2.2.2.1.1,vn.2.2.2.2.2.2.1.1,.int .i64 x.2.2.2.2.2.2.2],0,48⟩]) on) eR (fun i hi hh=>by have:=m2' i hi;simp at hh;omega)
 exact ⟨_,rfl,Ik ((cH2.trans (Chg.app (L:=[⟨[.int .i64 x.1.1,.int .i64 x.1.2.1,vn.1,vn.2.1.1,vn.2.1.2,vn.2.2.1.1,vn.2.2.2.1,vn.2.2.2.2.1,vn.2.2.2.2.2.1.1,vn.2.2.2.2.2.2.1.1,.int .i64 x.2.2.2.2.2.2.2],0,48⟩]) [])).trans' eR (fun i hi=>.inr (by simp at hi;omega))) on2 (fun i hi=>by have:=m2' i hi;omega) d2⟩
end Go.Proofs.YtlhaeingdonaeaaGreat.V
