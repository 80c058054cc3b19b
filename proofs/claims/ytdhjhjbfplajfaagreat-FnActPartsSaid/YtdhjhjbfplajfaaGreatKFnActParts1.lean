/- Texts of a proof, joined. -/
import Derived.Test.YtdhjhjbfplajfaaGreatKM0
import Derived.Test.YtdhjhjbfplajfaaGreatKM1
import Derived.Test.YtdhjhjbfplajfaaGreatKFnActParts0
set_option linter.all false
namespace Go.Proofs.YtdhjhjbfplajfaaGreat.V
open Go Go.VM Go.Proofs
set_option maxRecDepth 10000
variable {frz:Nat} {H:Heap}
theorem u64w {x:Int} (h1:0≤x) (h2:x≤18446744073709551615):IntKind.u64.wrap x=x:=by
 have:IntKind.u64.wrap x=x%18446744073709551616:=by
  simp [IntKind.wrap,IntKind.bits,IntKind.signed]
 rw [this];omega
theorem Tm (m:Nat) (h:m<4294967296):iand .u64 (m:Int) 4294967295=m:=by
 have:=Ad m 4294967295 (by omega) (by omega) .u64 rfl
 have e:((4294967295:Nat):Int)=4294967295:=rfl
 rw [e] at this
 unfold iand
 rw [this,show (4294967295:Nat)=2 ^ 32-1 from rfl,Nat.and_two_pow_sub_one_eq_mod,u64w (by omega) (by omega)]
 omega
theorem ishr32 (m:Nat) (h:m<4294967296):ishr .u64 (m:Int) 32=0:=by
 have:=Kt .u64 m 32 (by decide)
 have e:((32:Nat):Int)=32:=rfl
 rw [e] at this
 rw [this];omega
theorem wa (n:Nat) (h:n<4294967296):vcall C frz 177 [.int .u64 1,.int .u64 n] H=some (.tuple #[.int .u64 0,.int .u64 n],H):=by
 rw [Qb (fn:=Tryz.f177) Tryz.func177 rfl (by kernel_rfl) rfl]
 have a1:=Tm 1 (by omega)
 have a0:=Tm 0 (by omega)
 have s1:=ishr32 1 (by omega)
 have s0:=ishr32 0 (by omega)
 have an:=Tm n h
 have sn:=ishr32 n h
 simp only [Int.natCast_zero,Int.natCast_one] at a1 a0 s1 s0
 have w0:IntKind.u64.wrap 0=0:=by decide
 have wn:IntKind.u64.wrap (n:Int)=n:=u64w (by omega) (by omega)
 simp [a1,s1,an,sn,wn,w0,a0,s0]
theorem Qa9 (n:Nat) (h:n<4294967296):vcall C frz 174 [.int .u64 1,.int .u64 n] H=some (.tuple #[.int .u64 0,.int .u64 n],H):=by
 rw [Qb (fn:=Tryz.f174) Tryz.func174 rfl (by kernel_rfl) rfl]
 simp [wa n h]
theorem Rt (c z:Value) (k m:Nat) (j:Nat) (h:j≤m):VM.splice (List.replicate k c++List.replicate m z) k (List.replicate j c)=List.replicate (k+j) c++List.replicate (m-j) z:=by
 unfold VM.splice
 rw [List.take_left' (by simp),List.drop_append,List.drop_of_length_le (by simp)]
 simp only [List.length_replicate,Nat.add_sub_cancel_left,List.nil_append,List.drop_replicate]
 rw [List.replicate_append_replicate]
theorem Bp (id:Nat) (c:Int) (n:Nat) (hr:H[id]? = some ⟨[.int .i64 c],0,3⟩) (h1:1≤n) (h2:n≤536870912) :
 vcall C frz 168 [.slice (some ⟨id,0,some 0⟩) 1 0,.int .i64 n] H=some (.slice (some ⟨H.length,0,some 0⟩) n 0,H++[⟨List.replicate n (.int .i64 c),0,3⟩]):=by
 rw [Qb (fn:=Tryz.f168) Tryz.func168 rfl (by kernel_rfl) rfl]
 have e0:¬(n:Int)<0:=by omega
 have e1:IntKind.u64.wrap (n:Int)=n:=u64w (by omega) (by omega)
 have e2:IntKind.u64.wrap 1=1:=by decide
 have e3:IntKind.i64.wrap (n:Int)=n:=w64 (by omega) (by omega)
 have e4:¬(9223372036854775807:Int)<n:=by omega
 simp [VM.look,hr,e0,e1,e2,e3,e4,Qa9 n (by omega)]
 refine Ws (by omega) ?_
 have lk:∀L,(H++L)[id]? = some ⟨[.int .i64 c],0,3⟩:=fun L=>by rw [List.getElem?_append_left (List.getElem?_eq_some_iff.1 hr).1,hr]
 have er:VM.splice (List.replicate n (Value.int .i64 0)) 0 [.int .i64 c]=List.replicate 1 (.int .i64 c)++List.replicate (n-1) (.int .i64 0):=by
  have:=Rt (.int .i64 c) (.int .i64 0) 0 n 1 h1
  simpa using this
 have m1:Nat.min 1 n=1:=Nat.min_eq_left h1
 simp [VM.look,lk,m1,er]
 refine Xg (fun m t H'=>∃k:Nat,m=n-k∧1≤k∧k≤n∧t 7=.slice (some ⟨H.length,0,some 0⟩) n 0∧t 8=.int .i64 k∧H'=H++[⟨List.replicate k (.int .i64 c)++List.replicate (n-k) (.int .i64 0),0,3⟩]) ?_ (n:=n-1) ⟨1,by simp [e3];exact h1⟩
 rintro m t H' ⟨k,rfl,hk1,hk,h7,h8,rfl⟩ ih
 simp [h7,h8]
 refine Qq _ ?_ ?_<;>intro hkn
 ·simp [h7,h8]
  rw [Qf (h:=by kernel_rfl)]
  simp [h7,h8]
  have hmin:k.min (n-k)=min k (n-k):=rfl
  have hrep:=Rt (.int .i64 c) (.int .i64 0) k (n-k) (min k (n-k)) (Nat.min_le_right _ _)
  have hones:ones (List.replicate k (Value.int .i64 c))=true:=by simp [ones,VM.one]
  refine Ws hk (Ws hk (Ws hones ?_))
  refine ih (n-(k+min k (n-k))) _ _ ⟨k+min k (n-k),rfl,by omega,by omega,by simp [h7],?_,?_⟩ (by omega)
  ·simp [hmin];rw [w64 (by omega) (by omega)]
  ·rw [hrep];congr 3;congr 1;congr 1;omega
 ·have:k=n:=by omega
  subst this
  simp [h7,h8]
theorem Dw {α:Type} {D:Fl α} {e:TypeId} {L H':Heap} {xs:List α} {r:Value} (h:Made D e (H++L) xs r H'):Made D e H xs r H':=by
 obtain ⟨M,rfl,o,n⟩:=h
 exact ⟨L++M,by simp,by simpa using o,fun i hi=>by have:=n i hi;simp at this;omega⟩
theorem Kj (v:Value) (P:List Int) (a b:Int) (hI:IsI H v P) (hl:P.length≤536870911) :
 wp (vcall C frz 127 [v,.int .i64 a,.int .i64 b] H) (Made Fl.int 3 H (treeNodes P a b)):=by
 rw [Qb (fn:=Tryz.f127) Tryz.func127 rfl (by kernel_rfl) rfl]
 simp [Al _ _ _ _ hI (by omega)]
 refine Qd ?_ ?_<;>intro h0
 ·simp [treeNodes,h0]
  exact ⟨[],by simp,.inl ⟨rfl,rfl⟩,by simp⟩
 ·simp
  refine Qc (Fh v P a hI (by omega)) ?_
  rintro va _ ⟨L1,rfl,oa,na⟩
  simp
  refine Qc (Fh v P b (hI.app _) (by omega)) ?_
  rintro vb _ ⟨L2,rfl,ob,nb⟩
  have ltA:=oa.lt
  have oa:=oa.app (L:=L2)
  have hla:=S1 P a
  have hlb:=S1 P b
  simp only [List.append_assoc] at oa ob
  obtain ⟨ma,mb⟩:=Zc (P:=P) (a:=a) (b:=b) (by omega)
  have ia:=List.idxOf_lt_length_iff.2 ma
  have ib:=List.idxOf_lt_length_iff.2 mb
  simp
  rw [Qf (h:=by kernel_rfl)]
  have e1:IntKind.i64.wrap (((anc P a).idxOf (common P a b):Int)+1)=(((anc P a).idxOf (common P a b)+1:Nat):Int):=by rw [w64 (by omega) (by omega)];omega
  obtain ⟨va',s1,oa',ida⟩:=oa.slice (P:=Tryz.prog) (ty:=26) (by simp) (lo:=none) (hi:=some (.int .i64 (((anc P a).idxOf (common P a b)+1:Nat):Int))) (l:=0) (u:=(anc P a).idxOf (common P a b)+1) rfl rfl (by omega) (by omega)
  obtain ⟨vb',s2,ob',idb⟩:=ob.slice (P:=Tryz.prog) (ty:=26) (by simp) (lo:=none) (hi:=some (.int .i64 ((anc P b).idxOf (common P a b):Int))) (l:=0) (u:=(anc P b).idxOf (common P a b)) rfl rfl (by omega) (by omega)
  rw [List.drop_zero,Nat.sub_zero] at oa' ob'
  have e0:place (anc P a) (common P a b)=((anc P a).idxOf (common P a b):Int):=if_pos ma
  have e00:place (anc P b) (common P a b)=((anc P b).idxOf (common P a b):Int):=if_pos mb
  rw [e1.symm] at s1
  simp [N4 _ _ _ oa.rd.isI (by omega),e0]
  simp only [s1]
  simp [N4 _ _ _ ob.rd.isI (by omega),e00]
  simp only [s2]
  simp
  rw [ida.symm] at na ltA
  rw [idb.symm] at nb
  refine Qc (De vb' _ 3 ob' (by simp;omega) (fun i hi=>by have:=nb i hi;simp at this;omega)) ?_
  rintro _ H3 ⟨ob3,c3,l3⟩
  have oa3:=oa'.chg c3 (fun i hi hh=>by have h1:=ltA i hi;have h2:=nb i hh;omega)
  obtain ⟨M,rfl⟩:∃M,H3=H++M:=((Chg.app (H:=H) (L:=L1++L2) []).trans' c3 (fun i hi=>.inr (by have:=nb i hi;simp at this;omega))).ex (by simp)
  simp
  simp [oa3.rd.one',oa3.rd.cells,ob3.rd.one',ob3.rd.cells]
  refine Qc (Q':=Made Fl.int 3 H (treeNodes P a b)) ?_ ?_
  ·refine (K8 (H:=H++(M++[⟨[va',vb'],0,26⟩])) (Ba (H:=H++(M++[⟨[va',vb'],0,26⟩])) (H.length+M.length) va' vb' ((anc P a).take ((anc P a).idxOf (common P a b)+1)) ((anc P b).take ((anc P b).idxOf (common P a b))).reverse (by simp) ?_ ?_ (by simp;omega))).mono ?_
   ·have:=oa3.rd.isI.app [⟨[va',vb'],0,26⟩];simpa using this
   ·have:=ob3.rd.isI.app [⟨[va',vb'],0,26⟩];simpa using this
   ·intro r H4 h4
    rw [treeNodes,if_neg h0]
    exact Dw h4
  ·intro r H4 h4
   simp
   exact h4
theorem rowget {xs:List Int} {x:Int} (h0:0≤x) (h1:x<xs.length):(xs.map (Value.int .i64))[x.toNat]? = some (.int .i64 (rd xs x)):=by
 obtain ⟨i,rfl⟩:=Int.eq_ofNat_of_zero_le h0
 rw [Yw (by omega)];simp
theorem C9 {xs:List Int} {x:Int} (h0:0≤x) (h1:x<xs.length):xs[x.toNat]'(by omega)=rd xs x:=by
 obtain ⟨i,rfl⟩:=Int.eq_ofNat_of_zero_le h0
 rw [Yw (by omega)];rfl
theorem rowset {xs:List Int} {x c:Int} (h0:0≤x) (h1:x<xs.length):VM.splice (xs.map (Value.int .i64)) x.toNat [.int .i64 c]=(xs.set x.toNat c).map (.int .i64):=by
 unfold VM.splice
 rw [List.set_eq_take_append_cons_drop,if_pos (by omega)]
 simp
theorem wr1:IntKind.i64.wrap 1=1:=by decide
theorem Cz {w h:Int} {b s rest nx r:List Int} {d:Int} (R:Run w h b s rest nx d r) (i:Inv w h s rest nx d):(rest=[]∧nx=[]∧s=r)∨
 ∃a rest' nx' d',rest++nx=a::(rest'++nx')∧Inv w h s (a::rest') nx' d'∧Run w h b (vis w h b a d' (s,nx')).1 rest' (vis w h b a d' (s,nx')).2 d' r:=by
 cases R with
 | done=>exact .inl ⟨rfl,rfl,rfl⟩
 | level R=>
  cases R with
  | node R=>exact .inr ⟨_,_,[],_,by simp,i.level,R⟩
 | node R=>exact .inr ⟨_,_,_,_,by simp,i,R⟩
theorem Ze (w h:Int) (v:Value) (b:List Int) (root:Int) (hI:IsI H v b) (hl:b.length≤1073741824) :
 wp (vcall C frz 151 [.agg #[.int .i64 w,.int .i64 h,v],.int .i64 root] H) (Made Fl.int 3 H (depths w h b root)):=by
 rw [Qb (fn:=Tryz.f151) Tryz.func151 rfl (by kernel_rfl) rfl]
 have one:=And.intro hI.one' hI.cells
 simp [one,Je _ _ _ _ _ (hI.app _) hl,-Bool.decide_and]
 refine Qd ?_ ?_<;>intro hR
 ·have R:=Zr hR
  have hc:=Qg w h
  obtain ⟨hm,hr⟩:=hR
  obtain ⟨i0,hq0⟩:=X9 hr
  obtain ⟨r0,r1⟩:=hr
  have hn1:1≤(cnt w h).toNat:=by omega
  have ecn:((cnt w h).toNat:Int)=cnt w h:=by omega
  have rep:=fun F L (hr:(H++⟨[.int .i64 w,.int .i64 h,v],0,28⟩::L)[H.length+1]? = some ⟨[.int .i64 (-1)],0,3⟩)=>Bp (frz:=F) (H:=H++⟨[.int .i64 w,.int .i64 h,v],0,28⟩::L) (H.length+1) (-1) (cnt w h).toNat hr hn1 (by omega)
  rw [ecn] at rep
  simp [one,Wd]
  rw [rep _ _ (by simp)]
  have er:List.replicate (cnt w h).toNat (Value.int .i64 (-1))=(List.replicate (cnt w h).toNat (-1:Int)).map (.int .i64):=by simp
  have es:=rowset (xs:=List.replicate (cnt w h).toNat (-1:Int)) (c:=0) r0 (by simp;omega)
  rw [er]
  simp only [C6]
  have hrl:root<((cnt w h).toNat:Int):=by omega
  simp [r0,r1,hrl,-List.map_replicate,es,-List.map_set]
  refine X7 (by omega) (X7 (by omega) ?_)
  have est:(List.replicate (cnt w h).toNat (-1:Int)).set root.toNat 0=start w h root:=rfl
  rw [est]
  have hlm:b.length≤1073741824:=hl
  refine Qi (fun n t H'=>∃(s don rest nx q:List Int) (d:Int) (g:Nat) (G:Heap),n=(cnt w h).toNat-don.length∧q=don++(rest++nx)∧
   t 2=.pointer (some ⟨H.length,0,some 0⟩)∧t 5=.slice (some ⟨H.length+2,0,some 0⟩) s.length 0∧t 6=.slice (some ⟨H.length+3,0,some g⟩) q.length 0∧t 7=.int .i64 don.length∧
   H'=H++⟨[.int .i64 w,.int .i64 h,v],0,28⟩::⟨[.int .i64 (-1)],0,3⟩::⟨s.map (.int .i64),0,3⟩::⟨q.map (.int .i64),g,3⟩::G∧
   Run w h b s rest nx d (depths w h b root)∧Inv w h s rest nx d∧((don.length+rest.length+nx.length+neg s:Nat):Int)=cnt w h) ?_
   (n:=(cnt w h).toNat) ⟨start w h root,[],[root],[],[root],1,0,[],by simp,by simp,by simp,by simp [start],by simp,by simp,by simp,R,i0,by simp;omega⟩
  clear R i0 hq0 rep
  rintro n t H' ⟨s,don,rest,nx,q,d,g,G,rfl,hqe,h2,h5,h6,h7,rfl,R,i,hq⟩ ih
  have hql:=congrArg List.length hqe
  simp at hql
  simp [h2,h5,h6,h7]
  rcases Cz R i with ⟨rfl,rfl,rfl⟩|⟨a,rest',nx',d',hcat,i',R'⟩
  ·have hlt:¬don.length<q.length:=by simp at hql;omega
   simp [h2,h5,h6,h7,hlt]
   exact ⟨_,rfl,Ow.new (k:=2) rfl (Q7 _).symm (by simp) rfl,by simp⟩
  ·have hlc:=congrArg List.length hcat
   simp at hlc
   have hlt:don.length<q.length:=by omega
   have hget:q[don.length]? = some a:=by rw [hqe,hcat];simp
   have hgv:q[don.length]=a:=by have:=List.getElem?_eq_getElem hlt;rw [hget] at this;exact (Option.some.inj this).symm
   obtain ⟨ha,hda⟩:=i'.fr a (by simp)
   have ha1:=(Yh ha)
   have h1d:=i'.one
   have hsd:=i'.sum
   simp [h2,h5,h6,h7,hlt,hgv]
   refine Qi (fun n t H'=>∃(x:List Int×List Int) (p g:Nat) (G:Heap),n=4-p∧p≤4∧x=(List.range p).foldl (vst w h b a d') (s,q)∧BExt w h d' (s,q) x∧
    t 2=.pointer (some ⟨H.length,0,some 0⟩)∧t 5=.slice (some ⟨H.length+2,0,some 0⟩) x.1.length 0∧t 6=.slice (some ⟨H.length+3,0,some g⟩) x.2.length 0∧t 7=.int .i64 don.length∧
    t 8=.int .i64 a∧t 9=.int .i64 p∧
    H'=H++⟨[.int .i64 w,.int .i64 h,v],0,28⟩::⟨[.int .i64 (-1)],0,3⟩::⟨x.1.map (.int .i64),0,3⟩::⟨x.2.map (.int .i64),g,3⟩::G) ?_
    (n:=4) ⟨(s,q),0,g,G,by simp,by simp,by simp,BExt.rfl',by simp [h2],by simp [h5],by simp [h6],by simp [h7],by simp,by simp,by simp⟩
   clear h2 h5 h6 h7
   rintro n t H' ⟨x,p,g,G,rfl,hp,hx,E,h2,h5,h6,h7,h8,h9,rfl⟩ ih2
   have hlen:(x.1.length:Int)=cnt w h:=by rw [E.len];exact i.len
   have hxq:x.2.length≤16:=by have:=E.sum;simp at this;omega
   simp [h2,h5,h6,h7,h8,h9]
   refine Qd ?_ ?_<;>intro hp4
   ·have hp4':p<4:=by omega
    have e1:IntKind.i64.wrap (4*a)=4*a:=w64 (by omega) (by omega)
    have e2:IntKind.i64.wrap (4*a+p)=4*a+p:=w64 (by omega) (by omega)
    have nxt:=fun (x':List Int×List Int) (t':Env) (g':Nat) (G' H':Heap) (hH:H'=H++⟨[.int .i64 w,.int .i64 h,v],0,28⟩::⟨[.int .i64 (-1)],0,3⟩::⟨x'.1.map (.int .i64),0,3⟩::⟨x'.2.map (.int .i64),g',3⟩::G') (hx':x'=vst w h b a d' x p) (k2:t' 2=.pointer (some ⟨H.length,0,some 0⟩)) (k5:t' 5=.slice (some ⟨H.length+2,0,some 0⟩) x'.1.length 0) (k6:t' 6=.slice (some ⟨H.length+3,0,some g'⟩) x'.2.length 0) (k7:t' 7=.int .i64 don.length) (k8:t' 8=.int .i64 a) (k9:t' 9=.int .i64 (p+1:Nat))=>
     ih2 (4-(p+1)) t' H'
      ⟨x',p+1,g',G',rfl,by omega,by rw [List.range_succ,List.foldl_append,← hx];exact hx',by rw [hx'];exact E.trans (by omega) (Ma hp4' (by omega)),k2,k5,k6,k7,k8,k9,hH⟩ (by omega)
    have w9:IntKind.i64.wrap ((p:Int)+1)=((p+1:Nat):Int):=by rw [w64 (by omega) (by omega)];omega
    simp [h2,h5,h6,h7,h8,h9,one,e1,e2,Mx _ _ _ _ _ (hI.app _) hl,hm]
    refine Qd ?_ ?_<;>intro hlk
    ·obtain ⟨_,hn,he⟩:=Wm hp4' hlk
     have hend:=fun F L=>(congrArg (fun z=>some (Value.int .i64 z,H++L)) he)▸Vo (frz:=F) w h v b (4*a+(p:Int)) (hI.app L) hlk.1.1
     have hn1:=hn.1
     have hn2:next w h a p<(x.1.length:Int):=by have:=hn.2;omega
     have hg:=rowget (xs:=x.1) hn1 hn2
     have hr1:=C9 hn1 hn2
     have hra:rd x.1 a=d'-1:=by rw [E.old a ha.1 (show 0≤rd s a by omega)];exact hda
     have ha2:a<(x.1.length:Int):=by have:=ha.2;omega
     have hr2:=C9 ha.1 ha2
     simp [h2,h5,h6,h7,h8,h9,one,e1,e2,hend,hn1,hn2,hr1]
     refine Qd ?_ ?_<;>intro hz
     ·have hset:=rowset (c:=d') hn1 hn2
      have ev:vst w h b a d' x p=(x.1.set (next w h a p).toNat d',x.2++[next w h a p]):=by unfold vst;rw [if_pos ⟨hlk,hz⟩]
      have wd:IntKind.i64.wrap d'=d':=w64 (by omega) (by omega)
      have ha0:=ha.1
      simp [h2,h5,h6,h7,h8,h9,hn1,hn2,ha0,ha2,hr2,hra,wd]
      refine X7 (by omega) (X7 (by omega) ?_)
      rw [hset]
      refine nxt (x.1.set (next w h a p).toNat d',x.2++[next w h a p]) _ (g+1) (G++[⟨[.int .i64 (next w h a p)],0,3⟩]) _ (by simp) ev.symm (by simp [h2]) (by simp [h5]) (by simp) (by simp [h7]) (by simp [h8]) (by simp [w9])
     ·simp [h2,h5,h6,h7,h8,h9,hz]
      have ev:x=vst w h b a d' x p:=by unfold vst;rw [if_neg (fun hh=>hz hh.2)]
      refine nxt x _ g G _ (by simp) ev (by simp [h2]) (by simp [h5]) (by simp [h6]) (by simp [h7]) (by simp [h8]) (by simp [w9])
    ·simp [h2,h5,h6,h7,h8,h9,hlk]
     have ev:x=vst w h b a d' x p:=by unfold vst;rw [if_neg (fun hh=>hlk hh.1)]
     refine nxt x _ g G _ (by simp) ev (by simp [h2]) (by simp [h5]) (by simp [h6]) (by simp [h7]) (by simp [h8]) (by simp [w9])
   ·have:p=4:=by omega
    subst this
    have e2:x=((vis w h b a d' (s,nx')).1,(don++a::rest')++(vis w h b a d' (s,nx')).2):=by
     rw [hx,hqe,hcat];exact Ec (don++a::rest') s nx' |> fun hh=>by simpa [vis] using hh
    simp [h2,h5,h6,h7,h8,h9]
    have hs1:=(S2 (w:=w) (h:=h) (b:=b) (a:=a) (d:=d') (by omega) (s,nx')).sum
    simp only at hs1
    refine ih ((cnt w h).toNat-(don++[a]).length) _ _ ⟨(vis w h b a d' (s,nx')).1,don++[a],rest',(vis w h b a d' (s,nx')).2,x.2,d',g,G,rfl,?_,by simp [h2],?_,by simp [h6],?_,?_,R',i'.node,?_⟩ (by simp;omega)
    ·rw [e2];simp
    ·simp [h5,e2]
    ·simp;rw [w64 (by omega) (by omega)]
    ·rw [e2]
    ·simp;omega
 ·rw [Yz hR]
  simp
  exact ⟨_,rfl,.inl ⟨rfl,rfl⟩,by simp⟩
def pF (w h:Int) (b d:List Int) (i:Int):Nat→Int
 | 0=>-1
 | j+1=>if toRoot w h b d i (3-j) then next w h i (3-j:Nat) else pF w h b d i j
theorem yw {w h:Int} {b d:List Int} {i:Int} (h0:rd d i>0):pF w h b d i 4=par w h b d i:=by
 simp only [par,pF,if_pos h0]
theorem P8 (w h:Int) (v:Value) (b:List Int) (root:Int) (hI:IsI H v b) (hl:b.length≤1073741824) :
 wp (vcall C frz 125 [.agg #[.int .i64 w,.int .i64 h,v],.int .i64 root] H) (Made Fl.int 3 H (parents w h b root)):=by
 rw [Qb (fn:=Tryz.f125) Tryz.func125 rfl (by kernel_rfl) rfl]
 have one:=And.intro hI.one' hI.cells
 have hc:=Qg w h
 simp [one]
 refine Qc (Ze w h v b root (hI.app _) hl) ?_
 rintro vd _ ⟨L,rfl,od,nd⟩
 have od:=od.rd.isI
 simp only [List.append_assoc,List.singleton_append] at od
 have hdl:=Uv w h b root
 have dm:=fun v (hv:v∈depths w h b root)=>I9 hv
 have dv:(depths w h b root)≠[]→rootOk w h b root∧((depths w h b root).length:Int)=cnt w h:=fun hne=>by
  by_cases hR:rootOk w h b root
  ·exact ⟨hR,(Wp hR).1⟩
  ·exact absurd (Yz hR) hne
 unfold parents pars
 generalize depths w h b root=D at *
 have fD:=fun L'=>od.app L'
 simp only [List.append_assoc,List.cons_append,List.nil_append] at fD
 have lD:=fun L'=>(fD L').len (P:=Tryz.prog) (ty:=26) (by simp)
 simp [lD]
 refine Qi (fun n t H'=>∃(i g:Nat) (G:Heap) (o:List Int),n=D.length-i∧i≤D.length∧o=(List.range i).map (fun i:Nat=>par w h b D (i:Int))∧
  t 2=.pointer (some ⟨H.length,0,some 0⟩)∧t 5=vd∧t 6=.slice (some ⟨H.length+(L.length+1),0,some g⟩) o.length 0∧t 16=vd∧t 17=.int .i64 D.length∧t 18=.int .i64 i∧
  H'=H++⟨[.int .i64 w,.int .i64 h,v],0,28⟩::(L++⟨o.map (.int .i64),g,3⟩::G)) ?_ (n:=D.length) ⟨0,0,[],[],by simp⟩
 rintro n t H' ⟨i,g,G,o,rfl,hi,ho,h2,h5,h6,h16,h17,h18,rfl⟩ ih
 simp [h2,h5,h6,h16,h17,h18]
 have hol:o.length=i:=by rw [ho];simp
 refine Qd ?_ ?_<;>intro hid
 ·obtain ⟨⟨hm,hr⟩,hlc⟩:=dv (fun hh=>by rw [hh] at hid;simp at hid)
  have hid':i<D.length:=by omega
  have xD:=fun L'=>(fD L').idx (P:=Tryz.prog) (ty:=26) (e:=3) (by simp) (i:=(i:Int)) (by omega) (by omega)
  have rD:=fun L'=>((fD L').load (P:=Tryz.prog) (e:=3) (by simp) hid').trans (by rw [Qw _ _ hid',← Yw hid'])
  simp only [Int.toNat_natCast] at xD
  have hd:=dm _ (Po (s:=D) (k:=(i:Int)) (by omega) (by omega))
  have w3:IntKind.i64.wrap (rd D i-1)=rd D i-1:=w64 (by omega) (by omega)
  simp [h2,h5,h6,h16,h17,h18,xD,rD]
  refine Qi (fun n t H'=>∃(j:Nat),n=4-j∧j≤4∧(rd D i>0∨j=0)∧
   t 2=.pointer (some ⟨H.length,0,some 0⟩)∧t 5=vd∧t 6=.slice (some ⟨H.length+(L.length+1),0,some g⟩) o.length 0∧t 16=vd∧t 17=.int .i64 D.length∧t 18=.int .i64 i∧
   t 7=.int .i64 i∧t 8=.int .i64 (rd D i)∧t 9=.int .i64 (pF w h b D i j)∧t 10=.int .i64 (3-j:Int)∧
   H'=H++⟨[.int .i64 w,.int .i64 h,v],0,28⟩::(L++⟨o.map (.int .i64),g,3⟩::G)) ?_ (n:=4) ⟨0,by simp [h2,h5,h6,h16,h17,h18,pF]⟩
  clear h2 h5 h6 h16 h17 h18
  rintro n t H' ⟨j,rfl,hj,hpos,h2,h5,h6,h16,h17,h18,h7,h8,h9,h10,rfl⟩ ih2
  simp [h2,h5,h6,h16,h17,h18,h7,h8,h9,h10]
  refine Wq ?_ ?_<;>intro hj3
  ·have hj4:j<4:=by omega
   simp [h2,h5,h6,h16,h17,h18,h7,h8,h9,h10,hj3]
   refine Qd ?_ ?_<;>intro hp0
   ·have ep:(3-(j:Int))=((3-j:Nat):Int):=by omega
    have hp4:3-j<4:=by omega
    have e1:IntKind.i64.wrap (4*(i:Int))=4*i:=w64 (by omega) (by omega)
    have e2:IntKind.i64.wrap (4*(i:Int)+(3-j:Nat))=4*i+(3-j:Nat):=w64 (by omega) (by omega)
    have nxt:=fun (t':Env) (k2:t' 2=.pointer (some ⟨H.length,0,some 0⟩)) (k5:t' 5=vd) (k6:t' 6=.slice (some ⟨H.length+(L.length+1),0,some g⟩) o.length 0) (k16:t' 16=vd) (k17:t' 17=.int .i64 D.length) (k18:t' 18=.int .i64 i) (k7:t' 7=.int .i64 i) (k8:t' 8=.int .i64 (rd D i)) (k9:t' 9=.int .i64 (pF w h b D i (j+1))) (k10:t' 10=.int .i64 (IntKind.i64.wrap (((3-j:Nat):Int)-1)))=>
     ih2 (4-(j+1)) t' (H++⟨[.int .i64 w,.int .i64 h,v],0,28⟩::(L++⟨o.map (.int .i64),g,3⟩::G)) ⟨j+1,rfl,by omega,.inl hp0,k2,k5,k6,k16,k17,k18,k7,k8,k9,by rw [k10,w64 (by omega) (by omega)];congr 1;omega,rfl⟩ (by omega)
    rw [ep] at h10
    simp [h2,h5,h6,h16,h17,h18,h7,h8,h9,h10,e1,e2,one,Mx _ _ _ _ _ (hI.app _) hl,hm]
    refine Wq ?_ ?_<;>intro hlk
    ·obtain ⟨_,hn,he⟩:=Wm hp4 hlk
     have hend:=fun F L=>(congrArg (fun z=>some (Value.int .i64 z,H++L)) he)▸Vo (frz:=F) w h v b (4*(i:Int)+(3-j:Nat)) (hI.app L) hlk.1.1
     have xE:=fun L'=>(fD L').idx (P:=Tryz.prog) (ty:=26) (e:=3) (by simp) hn.1 (by have:=hn.2;omega)
     have rE:=fun L'=>((fD L').load (P:=Tryz.prog) (e:=3) (by simp) (j:=(next w h i (3-j:Nat)).toNat) (by have:=hn.1;have:=hn.2;omega))
     have rE':D.getD (next w h i (3-j:Nat)).toNat 0=rd D (next w h i (3-j:Nat)):=rfl
     rw [rE'] at rE
     simp [h2,h5,h6,h16,h17,h18,h7,h8,h9,h10,e1,e2,one,hlk,hend,xE,rE,w3]
     refine Qd ?_ ?_<;>intro hdd
     ·simp [h2,h5,h6,h16,h17,h18,h7,h8,h9,h10,e1,e2,one,hlk,hend]
      refine nxt _ (by simp [h2]) (by simp [h5]) (by simp [h6]) (by simp [h16]) (by simp [h17]) (by simp [h18]) (by simp [h7]) (by simp [h8]) ?_ (by simp [h10])
      simp [pF,toRoot,hlk,hdd]
     ·simp [h2,h5,h6,h16,h17,h18,h7,h8,h9,h10,hdd]
      refine nxt _ (by simp [h2]) (by simp [h5]) (by simp [h6]) (by simp [h16]) (by simp [h17]) (by simp [h18]) (by simp [h7]) (by simp [h8]) ?_ (by simp [h10])
      simp [pF,toRoot,hdd,h9]
    ·simp [h2,h5,h6,h16,h17,h18,h7,h8,h9,h10,hlk]
     refine nxt _ (by simp [h2]) (by simp [h5]) (by simp [h6]) (by simp [h16]) (by simp [h17]) (by simp [h18]) (by simp [h7]) (by simp [h8]) ?_ (by simp [h10])
     simp [pF,toRoot,hlk,h9]
   ·have hj0:j=0:=by omega
    subst hj0
    have he:pF w h b D i 0=par w h b D i:=by unfold par;rw [if_neg hp0];rfl
    rw [he] at h9
    simp [h2,h5,h6,h16,h17,h18,h7,h8,h9,h10,hp0]
    refine X7 (by omega) ?_
    refine ih (D.length-(i+1)) _ _ ⟨i+1,g+1,G++[⟨[.int .i64 (par w h b D i)],0,3⟩],o++[par w h b D i],rfl,by omega,by rw [List.range_succ,List.map_append,← ho];rfl,by simp [h2],by simp [h5],by simp,by simp [h16],by simp [h17],?_,by simp⟩ (by omega)
    simp;rw [w64 (by omega) (by omega)]
  ·have hj4:j=4:=by omega
   subst hj4
   have he:pF w h b D i 4=par w h b D i:=yw (by omega)
   rw [he] at h9
   simp [h2,h5,h6,h16,h17,h18,h7,h8,h9,h10]
   refine X7 (by omega) ?_
   refine ih (D.length-(i+1)) _ _ ⟨i+1,g+1,G++[⟨[.int .i64 (par w h b D i)],0,3⟩],o++[par w h b D i],rfl,by omega,by rw [List.range_succ,List.map_append,← ho];rfl,by simp [h2],by simp [h5],by simp,by simp [h16],by simp [h17],?_,by simp⟩ (by omega)
   simp;rw [w64 (by omega) (by omega)]
 ·have:i=D.length:=by omega
  subst this
  simp [h2,h5,h6,h16,h17,h18]
  rw [← ho]
  exact ⟨_,rfl,Ow.new (k:=L.length+1) (by simp) (Q7 _).symm (by simp) rfl,by simp⟩
theorem xg (a b:Int):(if a<b then b else a)=max a b:=by omega
theorem Z4 {xs:List Int} {a:Int} {i:Nat} (h:i<xs.length):(xs.take (i+1)).foldl max a=max ((xs.take i).foldl max a) xs[i]:=by
 rw [List.take_succ_eq_append_getElem h,List.foldl_append];rfl
theorem Qbe (v:Value) (xs:List Int) (hI:IsI H v xs) (h0:0<xs.length) (hl:xs.length≤1073741824) (hm:∀x∈xs,-1≤x) :
 vcall C frz 158 [v] H=some (.int .i64 (xs.foldl max (-1)),H):=by
 rw [Qb (fn:=Tryz.f158) Tryz.func158 rfl (by kernel_rfl) rfl]
 have q0:=hI.idx (P:=Tryz.prog) (ty:=26) (e:=3) (by simp) (i:=0) (by omega) (by omega)
 have r0:=(hI.load (P:=Tryz.prog) (e:=3) (by simp) h0).trans (by rw [Qw _ _ h0])
 have n0:¬(xs.length:Int)<1:=by omega
 have e0:xs≠[]:=fun hh=>by rw [hh] at h0;simp at h0
 simp [hI.len,e0,n0,q0,r0]
 refine Xg (fun n t H'=>∃i:Nat,n=xs.length-i∧1≤i∧i≤xs.length∧t 0=v∧t 3=.int .i64 ((xs.take i).foldl max (-1))∧t 4=.int .i64 i∧H'=H) ?_ (n:=xs.length-1) ⟨1,rfl,by omega,by omega,by simp,?_,by simp,rfl⟩
 ·rintro n t H' ⟨i,rfl,h1,hi,k0,k3,k4,rfl⟩ ih
  simp [k0,k3,k4,hI.len]
  refine Qq _ ?_ ?_<;>intro h5
  ·have q1:=hI.idx (P:=Tryz.prog) (ty:=26) (e:=3) (by simp) (i:=(i:Int)) (by omega) (by omega)
   have r1:=(hI.load (P:=Tryz.prog) (e:=3) (by simp) h5).trans (by rw [Qw _ _ h5])
   simp only [Int.toNat_natCast] at q1
   simp [k0,k3,k4,q1,r1]
   refine ih (xs.length-(i+1)) _ _ ⟨i+1,rfl,by omega,by omega,by simp [k0],?_,?_,rfl⟩ (by omega)
   ·simp [Z4 h5,xg]
   ·simp;rw [w64 (by omega) (by omega)]
  ·have:i=xs.length:=by omega
   subst this
   simp [k0,k3,k4]
 ·have:=hm _ (List.getElem_mem h0)
  rw [show (1:Nat)=0+1 from rfl,Z4 h0]
  simp;omega
theorem Oj (w h:Int) (v:Value) (b:List Int) (root:Int) (hI:IsI H v b) (hl:b.length≤1073741824) :
 vcall C frz 128 [.agg #[.int .i64 w,.int .i64 h,v],.int .i64 root] H=some (.int .i64 (depthOf w h b root),H):=by
 refine wp.exact (by simp) ?_ rfl
 rw [Qb (fn:=Tryz.f128) Tryz.func128 rfl (by kernel_rfl) rfl]
 have one:=And.intro hI.one' hI.cells
 simp [one,Je _ _ _ _ _ (hI.app _) hl,-Bool.decide_and]
 refine Qd ?_ ?_<;>intro hR
 ·simp [one]
  refine Qc (Ze w h v b root (hI.app _) hl) ?_
  rintro vd _ ⟨L,rfl,od,nd⟩
  have hc:=Qg w h
  have i:=Wp hR
  have hn:=Yh hR.2
  have hp:=hR.2.2
  have hq:=hR.2.1
  have od:=od.rd.isI
  simp only [List.append_assoc,List.singleton_append] at od
  simp [Qbe _ _ od (by omega) (by omega) (fun x hx=>(i.2 x hx).1),depthOf]
 ·have hd:depths w h b root=[]:=Yz hR
  simp [depthOf,hd]
theorem Xu (w h:Int) (v:Value) (b:List Int) (hI:IsI H v b) (hl:b.length≤1073741824) :
 vcall C frz 124 [.agg #[.int .i64 w,.int .i64 h,v]] H=some (.bool (decide (conn w h b)),H):=by
 refine wp.exact (by simp) ?_ rfl
 rw [Qb (fn:=Tryz.f124) Tryz.func124 rfl (by kernel_rfl) rfl]
 have one:=And.intro hI.one' hI.cells
 simp [one,Yu _ _ _ _ (hI.app _) hl]
 refine Wq ?_ ?_<;>intro hm
 ·simp [one,hm]
  refine Qc (Ze w h v b 0 (hI.app _) hl) ?_
  rintro vd _ ⟨L,rfl,od,nd⟩
  have hl16:=Uv w h b 0
  have od:=od.rd.isI
  simp only [List.append_assoc,List.singleton_append] at od
  simp [hm,Zl _ _ _ od (by omega),conn]
 ·simp [conn,hm]
theorem Iz (w h:Int) (v:Value) (b:List Int) (hI:IsI H v b) (hl:b.length≤1073741824) :
 vcall C frz 111 [.agg #[.int .i64 w,.int .i64 h,v]] H=some (.int .i64 (bestRoot w h b),H):=by
 refine wp.exact (by simp) ?_ rfl
 rw [Qb (fn:=Tryz.f111) Tryz.func111 rfl (by kernel_rfl) rfl]
 have one:=And.intro hI.one' hI.cells
 have hc:=Qg w h
 simp [one,Xu _ _ _ _ (hI.app _) hl]
 refine Qd ?_ ?_<;>intro hcn
 ·simp [one,Wd]
  refine Qi (fun n t H'=>∃i:Nat,n=(cnt w h).toNat-i∧i≤(cnt w h).toNat∧t 1=.pointer (some ⟨H.length,0,some 0⟩)∧t 3=.int .i64 ((List.range i).foldl (better w h b) 0)∧t 10=.int .i64 (cnt w h)∧t 11=.int .i64 i∧H'=H++[⟨[.int .i64 w,.int .i64 h,v],0,28⟩]) ?_ (n:=(cnt w h).toNat) ⟨0,by simp⟩
  rintro n t H' ⟨i,rfl,hi,k1,k3,k10,k11,rfl⟩ ih
  simp [k1,k3,k10,k11]
  refine Qd ?_ ?_<;>intro h5
  ·simp [k1,k3,k10,k11]
   rw [Qf (h:=by kernel_rfl)]
   simp [k1,k3,k10,k11,one,Oj _ _ _ _ _ (hI.app _) hl]
   have e:(List.range (i+1)).foldl (better w h b) 0=better w h b ((List.range i).foldl (better w h b) 0) i:=by rw [List.range_succ,List.foldl_append];rfl
   refine Qd ?_ ?_<;>intro h6
   ·simp [k1,k3,k10,k11,h6]
    refine ih ((cnt w h).toNat-(i+1)) _ _ ⟨i+1,rfl,by omega,by simp [k1],?_,by simp [k10],?_,rfl⟩ (by omega)
    ·simp [e,better,h6]
    ·simp;rw [w64 (by omega) (by omega)]
   ·simp [k1,k3,k10,k11,h6]
    refine ih ((cnt w h).toNat-(i+1)) _ _ ⟨i+1,rfl,by omega,by simp [k1],?_,by simp [k10],?_,rfl⟩ (by omega)
    ·simp [e,better,h6,k3]
    ·simp;rw [w64 (by omega) (by omega)]
  ·have:i=(cnt w h).toNat:=by omega
   subst this
   simp [k1,k3,k10,k11,bestRoot,hcn]
 ·simp [bestRoot,hcn]
end Go.Proofs.YtdhjhjbfplajfaaGreat.V
set_option linter.all false
namespace Go.Proofs.YtdhjhjbfplajfaaGreat.V
open Go Go.VM Go.Proofs
variable {frz:Nat} {H:Heap}
end Go.Proofs.YtdhjhjbfplajfaaGreat.V
set_option linter.all false
namespace Go.Proofs.YtdhjhjbfplajfaaGreat.V
open Go Go.VM
set_option maxRecDepth 100000
def geoB:Bool:=(List.range 5).all fun w=>(List.range 5).all fun h=>(List.range 16).all fun a=>(List.range 4).all fun p=>
 decide (next (w:Int) h a p<0) || (decide (next w h (next w h a p) (opp p)=a)&&(decide (0≤opp p)&&(decide (opp p<4)&&(decide (next (w:Int) h a p≠a)&&decide (opp (opp p)=p)))))
theorem A9:geoB=true:=by decide +kernel
theorem geo {w h a:Int} {p:Nat} (hp:p<4) (ha:isN w h a) (hu:0≤next w h a p):next w h (next w h a p) (opp p)=a∧0≤opp p∧opp p<4∧next w h a p≠a∧opp (opp p)=p:=by
 obtain ⟨⟨⟨a1,a2⟩,b1,b2⟩,c1,c2,c3⟩:=Yh ha
 have h0:=A9
 unfold geoB at h0
 rw [List.all_eq_true] at h0
 have h1:=h0 w.toNat (by simp;omega)
 rw [List.all_eq_true] at h1
 have h2:=h1 h.toNat (by simp;omega)
 rw [List.all_eq_true] at h2
 have h3:=h2 a.toNat (by simp;omega)
 rw [List.all_eq_true] at h3
 have h4:=h3 p (by simp;omega)
 have e1:(w.toNat:Int)=w:=by omega
 have e2:(h.toNat:Int)=h:=by omega
 have e3:(a.toNat:Int)=a:=by omega
 rw [e1,e2,e3] at h4
 simp only [Bool.or_eq_true,Bool.and_eq_true,decide_eq_true_eq] at h4
 rcases h4 with h4|h4
 ·omega
 ·exact h4
theorem Te {w h:Int} {b:List Int} {a:Int} {p:Nat} (hp:p<4) (h1:link w h b (4*a+p)):∃q:Nat,q<4∧link w h b (4*next w h a p+q)∧next w h (next w h a p) q=a:=by
 obtain ⟨ha,hu,he⟩:=Wm hp h1
 obtain ⟨g1,g2,g3,g4,g5⟩:=geo hp ha hu.1
 have e0:(4*a+(p:Int))%4=p:=by omega
 have hb:backC w h (4*a+p)=4*next w h a p+opp p:=by unfold backC;rw [he,e0]
 have h2:=h1.2
 rw [hb] at h2
 obtain ⟨q,hq⟩:=Int.eq_ofNat_of_zero_le g2
 rw [hq] at g1 g3 g5 h2
 have eq1:(4*next w h a p+(q:Int))/4=next w h a p:=by omega
 have eq2:(4*next w h a p+(q:Int))%4=q:=by omega
 refine ⟨q,by omega,⟨h2,?_⟩,g1⟩
 have:backC w h (4*next w h a p+q)=4*a+p:=by unfold backC endC;rw [eq1,eq2,g1,g5]
 rw [this];exact h1.1
structure VOut (w h:Int) (b:List Int) (a d:Int) (l:List Nat) (x y:List Int×List Int):Prop where
 keep:∀v,0≤v→0≤rd x.1 v→rd y.1 v=rd x.1 v
 new:∀v,isN w h v→rd x.1 v<0→0≤rd y.1 v→rd y.1 v=d∧v∈y.2∧∃p:Nat,p<4∧link w h b (4*a+p)∧next w h a p=v
 all:∀p∈l,link w h b (4*a+(p:Nat))→0≤rd y.1 (next w h a p)
 pre:∀v∈x.2,v∈y.2
 len:y.1.length=x.1.length
theorem Fm {w h:Int} {b:List Int} {a d:Int} (hd:0≤d):∀(l:List Nat) (x:List Int×List Int),(∀p∈l,p<4)→(∀v,isN w h v→v<x.1.length)→VOut w h b a d l x (l.foldl (vst w h b a d) x)
 | [],x,_,_=>⟨fun _ _ _=>rfl,fun v _ h1 h2=>by simp only [List.foldl_nil] at h2;omega,fun p hp=>by simp at hp,fun _ h=>h,rfl⟩
 | p::l,x,hl,hlen=>by
  have hp:=hl p (by simp)
  have E:=Ma (w:=w) (h:=h) (b:=b) (a:=a) (x:=x) hp hd
  have ih:=Fm (w:=w) (h:=h) (b:=b) (a:=a) hd l (vst w h b a d x p) (fun q hq=>hl q (by simp [hq])) (by rw [E.len];exact hlen)
  refine ⟨fun v h0 h1=>?_,fun v hv h1 h2=>?_,fun q hq hlk=>?_,fun v hv=>ih.pre v (E.pre v hv),by rw [List.foldl_cons,ih.len,E.len]⟩
  ·have e1:=E.old v h0 h1
   rw [List.foldl_cons,ih.keep v h0 (by omega),e1]
  ·by_cases h3:rd (vst w h b a d x p).1 v<0
   ·exact ih.new v hv h3 h2
   ·have h4:0≤rd (vst w h b a d x p).1 v:=by omega
    have e2:=ih.keep v hv.1 h4
    have:link w h b (4*a+p)∧next w h a p=v∧rd (vst w h b a d x p).1 v=d∧v∈(vst w h b a d x p).2:=by
     unfold vst at h4 ⊢
     split at h4
     ·rename_i hc
      rw [if_pos hc]
      obtain ⟨_,hn,_⟩:=Wm hp hc.1
      have hln:=hlen _ hn
      simp only at h4 ⊢
      rw [Tp hn.1 hln hv.1] at h4 ⊢
      by_cases hvn:v=next w h a p
      ·rw [if_pos hvn];exact ⟨hc.1,hvn.symm,rfl,by simp [hvn]⟩
      ·rw [if_neg hvn] at h4;omega
     ·omega
    rw [List.foldl_cons]
    exact ⟨by rw [e2];exact this.2.2.1,ih.pre v this.2.2.2,p,hp,this.1,this.2.1⟩
  ·rcases List.mem_cons.1 hq with rfl|hq
   ·obtain ⟨_,hn,_⟩:=Wm hp hlk
    have hln:=hlen _ hn
    have h4:0≤rd (vst w h b a d x q).1 (next w h a q):=by
     unfold vst
     split
     ·simp only;rw [Tp hn.1 hln hn.1,if_pos rfl];exact hd
     ·rename_i hc
      by_cases h5:rd x.1 (next w h a q)<0
      ·exact absurd ⟨hlk,h5⟩ hc
      ·omega
    rw [List.foldl_cons,ih.keep _ hn.1 h4];exact h4
   ·exact ih.all q hq hlk
structure Inv2 (w h:Int) (b:List Int) (root:Int) (s rest nx:List Int):Prop where
 cl:∀v,isN w h v→0≤rd s v→v∉rest→v∉nx→∀p:Nat,p<4→link w h b (4*v+p)→0≤rd s (next w h v p)
 pre:∀v,isN w h v→0<rd s v→∃u,isN w h u∧rd s u=rd s v-1∧∃q:Nat,q<4∧link w h b (4*u+q)∧next w h u q=v
 zero:rd s root=0∧∀v,isN w h v→rd s v=0→v=root
theorem Run.inv2 {w h root:Int} {b s rest nx r:List Int} {d:Int} (hr:isN w h root) (R:Run w h b s rest nx d r):Inv w h s rest nx d→Inv2 w h b root s rest nx→Inv2 w h b root r [] []:=by
 induction R with
 | done s d=>exact fun _ j=>j
 | level _ ih=>exact fun i j=>ih i.level ⟨fun v hv h0 h1 h2=>j.cl v hv h0 (by simp) h1,j.pre,j.zero⟩
 | @node s a rest nx d r _ ih=>
  intro i j
  have h1:=i.one
  obtain ⟨ha,hda⟩:=i.fr a (by simp)
  have O:VOut w h b a d (List.range 4) (s,nx) (vis w h b a d (s,nx)):=Fm (by omega) _ _ (by simp) (fun v hv=>by have:=i.len;have:=hv.2;simp only;omega)
  refine ih i.node ⟨fun v hv h0 hn1 hn2 p hp hlk=>?_,fun v hv h0=>?_,?_,fun v hv h0=>?_⟩
  ·have hnx:=(Wm hp hlk).2.1
   by_cases h2:0≤rd s v
   ·by_cases hva:v=a
    ·subst hva;exact O.all p (by simp;omega) hlk
    ·have h3:=j.cl v hv h2 (by simp [hva,hn1]) (fun hh=>hn2 (O.pre v hh)) p hp hlk
     rw [O.keep _ hnx.1 h3];exact h3
   ·exact absurd (O.new v hv (by simp only;omega) h0).2.1 hn2
  ·by_cases h2:0≤rd s v
   ·have e:=O.keep v hv.1 h2
    simp only at e
    rw [e] at h0 ⊢
    obtain ⟨u,hu,hu1,hq⟩:=j.pre v hv h0
    refine ⟨u,hu,?_,hq⟩
    rw [O.keep u hu.1 (by simp only;omega)];exact hu1
   ·obtain ⟨e,_,hq⟩:=O.new v hv (by simp only;omega) (by omega)
    refine ⟨a,ha,?_,hq⟩
    rw [O.keep a ha.1 (by simp only;omega),e];exact hda
  ·have:=j.zero.1
   rw [O.keep root hr.1 (by simp only;omega)];exact this
  ·by_cases h2:0≤rd s v
   ·have e:=O.keep v hv.1 h2
    simp only at e
    exact j.zero.2 v hv (by rw [← e];exact h0)
   ·obtain ⟨e,_⟩:=O.new v hv (by simp only;omega) (by omega)
    omega
theorem Vs {w h root v:Int} (hr:isN w h root) (hv:isN w h v):rd (start w h root) v=if v=root then 0 else -1:=by
 have hc:=Qg w h
 have h1:=hr.2
 have h2:=hv.2
 unfold start
 rw [Tp hr.1 (by simp;omega) hv.1]
 by_cases h3:v=root
 ·rw [if_pos h3,if_pos h3]
 ·rw [if_neg h3,if_neg h3]
  have:=Po (s:=List.replicate (cnt w h).toNat (-1:Int)) hv.1 (by simp;omega)
  exact List.eq_of_mem_replicate this
theorem Gv {w h root:Int} (b:List Int) (hr:isN w h root):Inv2 w h b root (start w h root) [root] []:=by
 refine ⟨fun v hv h0 h1=>?_,fun v hv h0=>?_,by rw [Vs hr hr,if_pos rfl],fun v hv h0=>?_⟩
 ·rw [Vs hr hv] at h0
  split at h0
  ·rename_i h2;simp [h2] at h1
  ·omega
 ·rw [Vs hr hv] at h0;split at h0<;>omega
 ·rw [Vs hr hv] at h0
  split at h0
  ·assumption
  ·omega
theorem Wv {w h root:Int} {b:List Int} (H:rootOk w h b root):Inv2 w h b root (depths w h b root) [] []:=
 (Zr H).inv2 H.2 (X9 H.2).1 (Gv b H.2)
theorem Xa {w h:Int} {b:List Int} (hc:conn w h b) {r:Int} (hr:isN w h r):∀v,isN w h v→0≤rd (depths w h b r) v:=by
 have h0:=xc hc.1.2
 have H0:rootOk w h b 0:=⟨hc.1,h0⟩
 have Hr:rootOk w h b r:=⟨hc.1,hr⟩
 have i0:=Wp H0
 have j0:=Wv H0
 have j:=Wv Hr
 have all0:∀v,isN w h v→0≤rd (depths w h b 0) v:=fun v hv=>by
  have hm:=Po (s:=depths w h b 0) hv.1 (by have:=hv.2;omega)
  have:=(i0.2 _ hm).1
  by_cases h1:rd (depths w h b 0) v=-1
  ·rw [h1] at hm;exact absurd hm hc.2
  ·omega
 have down:∀(n:Nat) v,isN w h v→rd (depths w h b 0) v=n→0≤rd (depths w h b r) v→0≤rd (depths w h b r) 0:=by
  intro n
  induction n with
  | zero=>
   intro v hv h1 h2
   have:=j0.zero.2 v hv (by omega)
   rw [this] at h2;exact h2
  | succ n ih=>
   intro v hv h1 h2
   obtain ⟨u,hu,hu1,q,hq,hlk,hnx⟩:=j0.pre v hv (by omega)
   obtain ⟨q',hq',hlk',hnx'⟩:=Te hq hlk
   rw [hnx] at hlk' hnx'
   have h3:=j.cl v hv h2 (by simp) (by simp) q' hq' hlk'
   rw [hnx'] at h3
   exact ih u hu (by omega) h3
 have hr0:0≤rd (depths w h b r) 0:=by
  have h1:=all0 r hr
  exact down _ r hr (Int.toNat_of_nonneg h1).symm (by have:=j.zero.1;omega)
 have up:∀(n:Nat) v,isN w h v→rd (depths w h b 0) v=n→0≤rd (depths w h b r) v:=by
  intro n
  induction n with
  | zero=>
   intro v hv h1
   have:=j0.zero.2 v hv (by omega)
   rw [this];exact hr0
  | succ n ih=>
   intro v hv h1
   obtain ⟨u,hu,hu1,q,hq,hlk,hnx⟩:=j0.pre v hv (by omega)
   have h3:=j.cl u hu (ih u hu (by omega)) (by simp) (by simp) q hq hlk
   rw [hnx] at h3;exact h3
 exact fun v hv=>up _ v hv (Int.toNat_of_nonneg (all0 v hv)).symm
theorem Jj {w h root:Int} {b:List Int} (H:rootOk w h b root) {v:Int} (hv:isN w h v) (h0:0<rd (depths w h b root) v) :
 ∃p:Nat,p<4∧par w h b (depths w h b root) v=next w h v p∧link w h b (4*v+p)∧rd (depths w h b root) (next w h v p)=rd (depths w h b root) v-1:=by
 rcases Nh w h b (depths w h b root) v with h1|⟨p,hp,h2,h3,_⟩
 ·exfalso
  obtain ⟨u,hu,hu1,q,hq,hlk,hnx⟩:=(Wv H).pre v hv h0
  obtain ⟨q',hq',hlk',hnx'⟩:=Te hq hlk
  rw [hnx] at hlk' hnx'
  have ht:toRoot w h b (depths w h b root) v q':=⟨hlk',by rw [hnx'];exact hu1⟩
  unfold par at h1
  rw [if_pos h0] at h1
  have nn:∀p:Nat,p<4→toRoot w h b (depths w h b root) v p→next w h v p≠-1:=fun p hp ht hh=>by
   have:=(Wm hp ht.1).2.1.1;omega
  by_cases t0:toRoot w h b (depths w h b root) v 0
  ·rw [if_pos t0] at h1;exact nn 0 (by omega) t0 h1
  rw [if_neg t0] at h1
  by_cases t1:toRoot w h b (depths w h b root) v 1
  ·rw [if_pos t1] at h1;exact nn 1 (by omega) t1 h1
  rw [if_neg t1] at h1
  by_cases t2:toRoot w h b (depths w h b root) v 2
  ·rw [if_pos t2] at h1;exact nn 2 (by omega) t2 h1
  rw [if_neg t2] at h1
  by_cases t3:toRoot w h b (depths w h b root) v 3
  ·rw [if_pos t3] at h1;exact nn 3 (by omega) t3 h1
  have:q'=0∨q'=1∨q'=2∨q'=3:=by omega
  rcases this with rfl|rfl|rfl|rfl
  ·exact t0 ht
  ·exact t1 ht
  ·exact t2 ht
  ·exact t3 ht
 ·exact ⟨p,hp,h2,h3.1,h3.2⟩
theorem Pa {w h root:Int} {b:List Int} {v:Int} (h0:0≤v) (h1:v<(depths w h b root).length):rd (parents w h b root) v=par w h b (depths w h b root) v:=by
 obtain ⟨i,rfl⟩:=Int.eq_ofNat_of_zero_le h0
 rw [Yw (by rw [Xo];omega)]
 simp [parents,pars]
section
variable {w h r:Int} {b:List Int} (hc:conn w h b) (hr:isN w h r)
include hc hr
theorem Ks:((parents w h b r).length:Int)=cnt w h:=by rw [Xo];exact (Wp ⟨hc.1,hr⟩).1
theorem Y7 {v:Int} (hv:isN w h v):(v=r∧rd (parents w h b r) v=-1)∨∃p:Nat,p<4∧rd (parents w h b r) v=next w h v p∧link w h b (4*v+p)∧isN w h (next w h v p)∧rd (depths w h b r) (next w h v p)=rd (depths w h b r) v-1:=by
 have H:rootOk w h b r:=⟨hc.1,hr⟩
 have hl:=(Wp H).1
 have hv2:=hv.2
 rw [Pa hv.1 (by omega)]
 have h0:=Xa hc hr v hv
 by_cases h1:rd (depths w h b r) v=0
 ·refine .inl ⟨(Wv H).zero.2 v hv h1,?_⟩
  unfold par;rw [if_neg (by omega)]
 ·obtain ⟨p,hp,h2,h3,h4⟩:=Jj H hv (by omega)
  exact .inr ⟨p,hp,h2,h3,(Wm hp h3).2.1,h4⟩
theorem Xw {v:Int} (hv:isN w h v):anc (parents w h b r) v=v::(if rd (parents w h b r) v=-1 then [] else anc (parents w h b r) (rd (parents w h b r) v)):=by
 have:=Ks hc hr
 exact Kf (Vr ⟨hc.1,hr⟩) hv.1 (by have:=hv.2;omega)
theorem V7:∀(n:Nat) {v:Int},isN w h v→rd (depths w h b r) v=n→r∈anc (parents w h b r) v:=by
 intro n
 induction n with
 | zero=>
  intro v hv h0
  rw [Xw hc hr hv]
  have:=(Wv ⟨hc.1,hr⟩).zero.2 v hv (by omega)
  simp [this]
 | succ n ih=>
  intro v hv h0
  rw [Xw hc hr hv]
  rcases Y7 hc hr hv with ⟨h1,_⟩|⟨p,hp,h2,h3,h4,h5⟩
  ·simp [h1]
  ·rw [h2,if_neg (by have:=h4.1;omega)]
   exact List.mem_cons_of_mem _ (ih h4 (by omega))
theorem Mq:∀(n:Nat) {v:Int},isN w h v→rd (depths w h b r) v=n→∀(j:Nat) (hj:j+1<(anc (parents w h b r) v).length),isN w h (anc (parents w h b r) v)[j]∧isN w h (anc (parents w h b r) v)[j+1]∧
 ∃p:Nat,p<4∧next w h (anc (parents w h b r) v)[j] p=(anc (parents w h b r) v)[j+1]∧link w h b (4*(anc (parents w h b r) v)[j]+p):=by
 intro n
 induction n with
 | zero=>
  intro v hv h0 j hj
  have hroot:=(Wv ⟨hc.1,hr⟩).zero.2 v hv (by omega)
  have e:=Xw hc hr hv
  rcases Y7 hc hr hv with ⟨_,h1⟩|⟨p,hp,h2,h3,h4,h5⟩
  ·rw [h1,if_pos rfl] at e;rw [e] at hj;simp at hj
  ·have:=Xa hc hr _ h4;omega
 | succ n ih=>
  intro v hv h0 j hj
  have e:=Xw hc hr hv
  rcases Y7 hc hr hv with ⟨_,h1⟩|⟨p,hp,h2,h3,h4,h5⟩
  ·rw [h1,if_pos rfl] at e;rw [e] at hj;simp at hj
  ·rw [h2,if_neg (by have:=h4.1;omega)] at e
   have e2:=Xw hc hr h4
   cases j with
   | zero=>
    simp only [e]
    simp only [List.getElem_cons_zero,List.getElem_cons_succ]
    have e3:(anc (parents w h b r) (next w h v p))[0]'(by rw [e2];simp)=next w h v p:=by simp only [e2,List.getElem_cons_zero]
    rw [e3]
    exact ⟨hv,h4,p,hp,rfl,h3⟩
   | succ j=>
    simp only [e] at hj ⊢
    simp only [List.getElem_cons_succ]
    exact ih h4 (by omega) j (by simpa using hj)
theorem Ae {a c:Int} (ha:isN w h a) (hcn:isN w h c) (hne:a≠c):∃p:Nat,p<4∧1<(treeNodes (parents w h b r) a c).length∧(treeNodes (parents w h b r) a c)[1]? = some (next w h a p)∧0≤next w h a p:=by
 have dn:=fun {v:Int} (hv:isN w h v)=>(Int.toNat_of_nonneg (Xa hc hr v hv)).symm
 have ra:=V7 hc hr _ ha (dn ha)
 have rc:=V7 hc hr _ hcn (dn hcn)
 have hcom:0≤common (parents w h b r) a c:=by
  unfold common
  cases hf:(anc (parents w h b r) a).find? (fun x=>decide (x∈anc (parents w h b r) c)) with
  | none=>rw [List.find?_eq_none] at hf;exact absurd (by simpa using rc) (hf r ra)
  | some u=>
   have:=ym (List.mem_of_find?_eq_some hf)
   simpa using this.1
 obtain ⟨ma,mc⟩:=Zc hcom
 have ga:=Mq hc hr _ ha (dn ha)
 have gc:=Mq hc hr _ hcn (dn hcn)
 have ea:=Xw hc hr ha
 have ec:=Xw hc hr hcn
 unfold treeNodes
 rw [if_neg (by omega)]
 have ia:=List.idxOf_lt_length_iff.2 ma
 have ic:=List.idxOf_lt_length_iff.2 mc
 have va:(anc (parents w h b r) a)[(anc (parents w h b r) a).idxOf (common (parents w h b r) a c)]=common (parents w h b r) a c:=by
  have:=List.findIdx_getElem (p:=(· == common (parents w h b r) a c)) (xs:=anc (parents w h b r) a) (w:=ia)
  simpa using this
 have vc:(anc (parents w h b r) c)[(anc (parents w h b r) c).idxOf (common (parents w h b r) a c)]=common (parents w h b r) a c:=by
  have:=List.findIdx_getElem (p:=(· == common (parents w h b r) a c)) (xs:=anc (parents w h b r) c) (w:=ic)
  simpa using this
 generalize (anc (parents w h b r) a).idxOf (common (parents w h b r) a c)=ka at *
 generalize (anc (parents w h b r) c).idxOf (common (parents w h b r) a c)=kc at *
 have a0:(anc (parents w h b r) a)[0]'(by omega)=a:=by simp only [ea,List.getElem_cons_zero]
 have c0:(anc (parents w h b r) c)[0]'(by omega)=c:=by simp only [ec,List.getElem_cons_zero]
 by_cases hk:ka=0
 ·subst hk
  rw [a0] at va
  have hkc:kc≠0:=fun hh=>by subst hh;rw [c0] at vc;exact hne (va.trans vc.symm)
  obtain ⟨j,rfl⟩:∃j,kc=j+1:=⟨kc-1,by omega⟩
  obtain ⟨n1,n2,p,hp,hnx,hlk⟩:=gc j ic
  rw [vc,← va] at hnx
  obtain ⟨g1,g2,g3,_⟩:=geo hp n1 (by rw [hnx];exact ha.1)
  rw [hnx] at g1
  obtain ⟨q,hq⟩:=Int.eq_ofNat_of_zero_le g2
  rw [hq] at g1 g3
  refine ⟨q,by omega,by simp;omega,?_,by rw [g1];exact n1.1⟩
  rw [g1]
  have e1:((anc (parents w h b r) a).take (0+1))=[a]:=by rw [ea];rfl
  have e2:(anc (parents w h b r) c).take (j+1)=(anc (parents w h b r) c).take j++[(anc (parents w h b r) c)[j]]:=List.take_succ_eq_append_getElem (by omega)
  rw [e1,List.getElem?_append_right (by simp)]
  rw [e2,List.reverse_append];rfl
 ·obtain ⟨n1,n2,p,hp,hnx,hlk⟩:=ga 0 (by omega)
  rw [a0] at hnx
  refine ⟨p,hp,by simp;omega,?_,by rw [hnx];exact n2.1⟩
  rw [List.getElem?_append_left (by simp;omega),List.getElem?_take,if_pos (by omega),List.getElem?_eq_getElem (by omega),hnx]
end
end Go.Proofs.YtdhjhjbfplajfaaGreat.V
set_option linter.all false
namespace Go.Proofs.YtdhjhjbfplajfaaGreat.V
open Go Go.VM Go.Proofs
set_option maxRecDepth 10000
variable {frz:Nat} {H:Heap}
def firstPort (w h a u:Int):Int:=if next w h a 0=u then 0 else if next w h a 1=u then 1 else if next w h a 2=u then 2 else if next w h a 3=u then 3 else 4
theorem Vy {w h a u:Int} {p:Nat} (hp:p<4) (h1:next w h a p=u) (h2:∀q<p,next w h a (q:Nat)≠u):firstPort w h a u=p:=by
 unfold firstPort
 have:p=0∨p=1∨p=2∨p=3:=by omega
 have g:∀q:Nat,q<p→∀z:Int,z=q→¬next w h a z=u:=fun q hq z hz=>by rw [hz];exact h2 q hq
 rcases this with rfl|rfl|rfl|rfl
 ·rw [if_pos (by exact_mod_cast h1)];rfl
 ·rw [if_neg (g 0 (by omega) 0 rfl),if_pos (by exact_mod_cast h1)];rfl
 ·rw [if_neg (g 0 (by omega) 0 rfl),if_neg (g 1 (by omega) 1 rfl),if_pos (by exact_mod_cast h1)];rfl
 ·rw [if_neg (g 0 (by omega) 0 rfl),if_neg (g 1 (by omega) 1 rfl),if_neg (g 2 (by omega) 2 rfl),if_pos (by exact_mod_cast h1)];rfl
theorem Bq (w h a u:Int) (p:Nat) (hp:p<4) (h1:next w h a p=u) :
 vcall C frz 126 [.agg #[.int .i64 w,.int .i64 h],.int .i64 a,.int .i64 u] H=some (.int .i64 (firstPort w h a u),H):=by
 rw [Qb (fn:=Tryz.f126) Tryz.func126 rfl (by kernel_rfl) rfl]
 simp
 refine Xg (fun n t H'=>∃k:Nat,n=p-k∧k≤p∧t 1=.int .i64 a∧t 2=.int .i64 u∧t 3=.pointer (some ⟨H.length,0,some 0⟩)∧t 7=.int .i64 k∧H'=H++[⟨[.int .i64 w,.int .i64 h],0,25⟩]∧∀q<k,next w h a (q:Nat)≠u) ?_ (n:=p) ⟨0,by simp⟩
 rintro n t H' ⟨k,rfl,hk,k1,k2,k3,k7,rfl,hq⟩ ih
 simp [k1,k2,k3,k7,U8]
 refine Qq _ ?_ ?_<;>intro h5
 ·simp [k1,k2,k3,k7]
  exact (Vy (by omega) h5 hq).symm
 ·have hkp:k≠p:=fun hh=>h5 (by rw [hh];exact h1)
  simp [k1,k2,k3,k7,h5]
  refine ih (p-(k+1)) _ _ ⟨k+1,rfl,by omega,by simp [k1],by simp [k2],by simp [k3],?_,rfl,fun q hq'=>?_⟩ (by omega)
  ·simp;rw [w64 (by omega) (by omega)]
  ·by_cases hqk:q<k
   ·exact hq q hqk
   ·have:q=k:=by omega
    rw [this];exact h5
noncomputable def treePort (w h:Int) (P:List Int) (n i:Nat):Int:=if i/n=i%n then 4 else firstPort w h (i/n:Nat) ((treeNodes P (i/n:Nat) (i%n:Nat)).getD 1 0)
noncomputable def treeTab (w h:Int) (b:List Int) (r:Int):List Int:=(List.range ((cnt w h).toNat*(cnt w h).toNat)).map (treePort w h (parents w h b r) (cnt w h).toNat)
def treeOk (w h:Int) (b:List Int) (r:Int):Prop:=conn w h b∧isN w h r
noncomputable instance (w h:Int) (b:List Int) (r:Int):Decidable (treeOk w h b r):=inferInstanceAs (Decidable (_∧_))
noncomputable def treeTable (w h:Int) (b:List Int) (r:Int):List Int:=if treeOk w h b r then treeTab w h b r else []
theorem L3 (w h:Int) (b:List Int) (r:Int):(treeTab w h b r).length≤256:=by
 have:=Qg w h
 unfold treeTab
 rw [List.length_map,List.length_range]
 have:(cnt w h).toNat*(cnt w h).toNat≤16*16:=Nat.mul_le_mul (by omega) (by omega)
 omega
theorem Oa (w h:Int) (b:List Int) (r:Int):(treeTable w h b r).length≤256:=by
 unfold treeTable;split
 ·exact L3 w h b r
 ·simp
theorem Jw (w h:Int) (v:Value) (b:List Int) (root:Int) (hI:IsI H v b) (hl:b.length≤1073741824) :
 wp (vcall C frz 110 [.agg #[.int .i64 w,.int .i64 h,v],.int .i64 root] H) (Made2 dTable H (treeTable w h b root) (decide (treeOk w h b root))):=by
 rw [Qb (fn:=Tryz.f110) Tryz.func110 rfl (by kernel_rfl) rfl]
 have one:=And.intro hI.one' hI.cells
 have hc:=Qg w h
 have no:∀(L:Heap),¬treeOk w h b root→Made2 dTable H (treeTable w h b root) (decide (treeOk w h b root)) (.tuple #[.agg #[.slice none 0 0],.bool false]) (H++L):=fun L hh=>by
  refine ⟨.agg #[.slice none 0 0],by simp [hh],.slice none 0 0,rfl,⟨.inl ⟨rfl,by simp [treeTable,hh]⟩,?_⟩,Chg.app _,by simp [dTable],by simp [dTable]⟩
  simp [treeTable,hh]
 by_cases hcn:conn w h b
 ·by_cases hr:isN w h root
  ·have hok:treeOk w h b root:=⟨hcn,hr⟩
   simp [one,Xu _ _ _ _ (hI.app _) hl,hcn,Wu,hr]
   refine Qc (P8 w h v b root (hI.app _) hl) ?_
   rintro vp H1 ⟨L,hH1,op,np⟩
   have hpl:=Ks hcn hr
   have tn:=fun {a c:Int} (ha:isN w h a) (hc:isN w h c) (hne:a≠c)=>Ae hcn hr ha hc hne
   have ett:treeTable w h b root=(List.range ((cnt w h).toNat*(cnt w h).toNat)).map (treePort w h (parents w h b root) (cnt w h).toNat):=if_pos hok
   have hcc:(cnt w h).toNat≤16:=by omega
   have hlt2:(cnt w h).toNat*(cnt w h).toNat≤256:=Nat.mul_le_mul hcc hcc
   rw [ett]
   generalize parents w h b root=P at *
   have c1:Chg H H1 []:=by rw [hH1];exact (Chg.app []).trans (Chg.app [])
   have b2:H1[H.length]? = some ⟨[.int .i64 w,.int .i64 h,v],0,28⟩:=by rw [hH1];simp
   have b4:H1[H.length+1]? = some ⟨[.slice none 0 0],0,30⟩:=by rw [hH1];simp
   rw [← hH1] at op
   simp at np
   have lp:=op.lt
   have l1:H.length+2≤H1.length:=by rw [hH1];simp
   clear hH1 L
   have lp1:=op.lt
   generalize hB6:H1.length=B6 at *
   have hPl:P.length=(cnt w h).toNat:=by omega
   simp [VM.look,b2,one,hB6,(op.app (L:=[⟨[.slice none 0 0],0,30⟩])).rd.len]
   refine X7 (by omega) ?_
   refine Qi (fun n t H'=>∃(i:Nat) (vo:Value) (o:List Int),n=(cnt w h).toNat-i∧i≤(cnt w h).toNat∧o=(List.range (i*(cnt w h).toNat)).map (treePort w h P (cnt w h).toNat)∧
   t 2=.pointer (some ⟨H.length,0,some 0⟩)∧t 4=.pointer (some ⟨H.length+1,0,some 0⟩)∧t 6=.pointer (some ⟨B6,0,some 0⟩)∧t 7=vp∧t 27=.int .i64 P.length∧t 28=.int .i64 i∧
   Chg H H' []∧H'[H.length]? = some ⟨[.int .i64 w,.int .i64 h,v],0,28⟩∧H'[H.length+1]? = some ⟨[.slice none 0 0],0,30⟩∧H'[B6]? = some ⟨[vo],0,30⟩∧
   Ow Fl.int 3 H' vp P∧Ow Fl.int 3 H' vo o∧(∀i∈ids vo,B6<i)) ?_ (n:=(cnt w h).toNat)
    ⟨0,.slice none 0 0,[],by simp,by omega,by simp,by simp,by simp,by simp,by simp,by simp,by simp,c1.trans (Chg.app []),Qp b2 _,Qp b4 _,by rw [← hB6];simp,op.app,.inl ⟨rfl,rfl⟩,by simp⟩
   clear b2 b4 op
   rintro n t H' ⟨i,vo,o,rfl,hi,ho,h2,h4,h6,h7,h27,h28,c0,b2,b4,b6,op,oo,no⟩ ih
   simp [h2,h4,h6,h7,h27,h28]
   refine Qd ?_ ?_<;>intro hin
   ·have hin':i<(cnt w h).toNat:=by omega
    simp [h2,h4,h6,h7,h27,h28,op.rd.len]
    refine Qi (fun n t H'=>∃(j:Nat) (vo:Value) (o:List Int),n=(cnt w h).toNat-j∧j≤(cnt w h).toNat∧o=(List.range (i*(cnt w h).toNat+j)).map (treePort w h P (cnt w h).toNat)∧
     t 2=.pointer (some ⟨H.length,0,some 0⟩)∧t 4=.pointer (some ⟨H.length+1,0,some 0⟩)∧t 6=.pointer (some ⟨B6,0,some 0⟩)∧t 7=vp∧t 27=.int .i64 P.length∧t 28=.int .i64 i∧
     t 8=.int .i64 i∧t 32=.int .i64 P.length∧t 33=.int .i64 j∧
     Chg H H' []∧H'[H.length]? = some ⟨[.int .i64 w,.int .i64 h,v],0,28⟩∧H'[H.length+1]? = some ⟨[.slice none 0 0],0,30⟩∧H'[B6]? = some ⟨[vo],0,30⟩∧
   Ow Fl.int 3 H' vp P∧Ow Fl.int 3 H' vo o∧(∀i∈ids vo,B6<i)) ?_ (n:=(cnt w h).toNat) ⟨0,vo,o,by simp,by omega,by simpa using ho,by simp [h2],by simp [h4],by simp [h6],by simp [h7],by simp [h27],by simp [h28],by simp,by simp,by simp,c0,b2,b4,b6,op,oo,no⟩
    clear h2 h4 h6 h7 h27 h28 c0 b2 b4 b6 op oo no ho
    rintro n t H' ⟨j,vo,o,rfl,hj,ho,h2,h4,h6,h7,h27,h28,h8,h32,h33,c0,b2,b4,b6,op,oo,no⟩ ih2
    simp [h2,h4,h6,h7,h27,h28,h8,h32,h33]
    refine Qd ?_ ?_<;>intro hjn
    ·have hjn':j<(cnt w h).toNat:=by omega
     have hol:o.length=i*(cnt w h).toNat+j:=by rw [ho];simp
     have hsm:i*(cnt w h).toNat+j<(cnt w h).toNat*(cnt w h).toNat:=by
      have:=Nat.mul_le_mul_right (cnt w h).toNat (show i+1≤(cnt w h).toNat by omega)
      rw [Nat.succ_mul] at this;omega
     have hdv:(i*(cnt w h).toNat+j)/(cnt w h).toNat=i:=by rw [Nat.mul_comm,Nat.mul_add_div (by omega),Nat.div_eq_of_lt hjn'];omega
     have hmd:(i*(cnt w h).toNat+j)%(cnt w h).toNat=j:=by rw [Nat.mul_comm,Nat.mul_add_mod,Nat.mod_eq_of_lt hjn']
     simp [h2,h4,h6,h7,h27,h28,h8,h32,h33]
     refine Qd ?_ ?_<;>intro hij
     ·have hx:treePort w h P (cnt w h).toNat (i*(cnt w h).toNat+j)=4:=by unfold treePort;rw [hdv,hmd,if_pos (by omega)]
      simp [VM.look,b6,h2,h4,h6,h7,h27,h28,h8,h32,h33]
      obtain ⟨vo',H3,e3,oo3,c3,n3⟩:=oo.push (P:=Tryz.prog) (frz:=H.length) (ty:=26) (a:=4) (by simp) rfl (by omega) (fun i hi=>by have:=no i hi;omega)
      simp only [Fl.int_f] at e3
      have lc:=Qu b6
      have b2:=Qa b2 c3 (fun hh=>by have:=no _ hh;omega)
      have b4:=Qa b4 c3 (fun hh=>by have:=no _ hh;omega)
      have b6:=Qa b6 c3 (fun hh=>by have:=no _ hh;omega)
      have op:=op.chg c3 (fun i hi hh=>by have:=lp i hi;have:=no _ hh;omega)
      have no3:∀i∈ids vo',B6<i:=fun i hi=>by rcases n3 i hi with h|h;exact no i h;omega
      have one3:=And.intro oo3.rd.one' oo3.rd.cells
      simp [e3,VM.look,b6,one3,h2,h4,h6,h7,h27,h28,h8,h32,h33]
      refine X7 (by omega) ?_
      refine ih2 ((cnt w h).toNat-(j+1)) _ _ ⟨j+1,vo',o++[4],rfl,by omega,?_,by simp [h2],by simp [h4],by simp [h6],by simp [h7],by simp [h27],by simp [h28],by simp [h8],by simp [h32],?_,
       (c0.trans' c3 (fun i hi=>.inr (by have:=no i hi;omega))).trans' (Qe _ _) (fun i hi=>.inr (by simp at hi;omega)),Qa b2 (Qe _ _) (by simp;omega),Qa b4 (Qe _ _) (by simp;omega),Qh b6,
       op.chg (Qe _ _) (fun i hi hh=>by have:=lp i hi;simp at hh;omega),oo3.chg (Qe _ _) (fun i hi hh=>by have:=no3 i hi;simp at hh;omega),no3⟩ (by omega)
      ·rw [← Nat.add_assoc,List.range_succ,List.map_append,← ho];simp [hx]
      ·simp;rw [w64 (by omega) (by omega)]
     ·rw [Qf (h:=by kernel_rfl)]
      simp [h2,h4,h6,h7,h27,h28,h8,h32,h33,VM.look,b2]
      obtain ⟨p,hp,htl,htg,hn0⟩:=tn (Wr hin') (Wr hjn') (by omega:(i:Int)≠(j:Int))
      refine Qc (Kj vp P i j op.rd.isI (by omega)) ?_
      rintro vt H2 ⟨L2,hH2,ot,nt⟩
      have c2:Chg H' H2 []:=by rw [hH2];exact Chg.app []
      rw [← hH2] at ot
      clear hH2 L2
      have b2:=Qa b2 c2 (by simp)
      have b4:=Qa b4 c2 (by simp)
      have b6:=Qa b6 c2 (by simp)
      have op:=op.chg c2 (by simp)
      have oo:=oo.chg c2 (by simp)
      have c0:=c0.trans c2
      have q1:=ot.rd.isI.idx (P:=Tryz.prog) (ty:=26) (e:=3) (by simp) (i:=1) (by omega) (by omega)
      have q2:=ot.rd.isI.load (P:=Tryz.prog) (e:=3) (by simp) htl
      have etn:(treeNodes P (i:Int) (j:Int)).getD 1 0=next w h i p:=by rw [List.getD_eq_getElem?_getD,htg];rfl
      have hpt:=fun F L=>Bq (frz:=F) (H:=L) w h i _ p hp etn.symm
      have hx:treePort w h P (cnt w h).toNat (i*(cnt w h).toNat+j)=firstPort w h i ((treeNodes P i j).getD 1 0):=by unfold treePort;rw [hdv,hmd,if_neg (by omega)]
      have q1':vindexAddr Tryz.prog H2 26 vt (.int .i64 1)=some (elp vt 1):=q1
      generalize (treeNodes P (i:Int) (j:Int)).getD 1 0=u at *
      generalize firstPort w h (i:Int) u=y at *
      simp [q1',q2,hpt,h2,h4,h6,h7,h27,h28,h8,h32,h33]
      simp [VM.look,b6,h2,h4,h6,h7,h27,h28,h8,h32,h33]
      obtain ⟨vo',H3,e3,oo3,c3,n3⟩:=oo.push (P:=Tryz.prog) (frz:=H.length) (ty:=26) (a:=y) (by simp) rfl (by omega) (fun i hi=>by have:=no i hi;omega)
      simp only [Fl.int_f] at e3
      have lc:=Qu b6
      have b2:=Qa b2 c3 (fun hh=>by have:=no _ hh;omega)
      have b4:=Qa b4 c3 (fun hh=>by have:=no _ hh;omega)
      have b6:=Qa b6 c3 (fun hh=>by have:=no _ hh;omega)
      have op:=op.chg c3 (fun i hi hh=>by have:=lp i hi;have:=no _ hh;omega)
      have no3:∀i∈ids vo',B6<i:=fun i hi=>by rcases n3 i hi with h|h;exact no i h;omega
      have one3:=And.intro oo3.rd.one' oo3.rd.cells
      simp [e3,VM.look,b6,one3,h2,h4,h6,h7,h27,h28,h8,h32,h33]
      refine X7 (by omega) ?_
      refine ih2 ((cnt w h).toNat-(j+1)) _ _ ⟨j+1,vo',o++[y],rfl,by omega,?_,by simp [h2],by simp [h4],by simp [h6],by simp [h7],by simp [h27],by simp [h28],by simp [h8],by simp [h32],?_,
       (c0.trans' c3 (fun i hi=>.inr (by have:=no i hi;omega))).trans' (Qe _ _) (fun i hi=>.inr (by simp at hi;omega)),Qa b2 (Qe _ _) (by simp;omega),Qa b4 (Qe _ _) (by simp;omega),Qh b6,
       op.chg (Qe _ _) (fun i hi hh=>by have:=lp i hi;simp at hh;omega),oo3.chg (Qe _ _) (fun i hi hh=>by have:=no3 i hi;simp at hh;omega),no3⟩ (by omega)
      ·rw [← Nat.add_assoc,List.range_succ,List.map_append,← ho];simp [hx]
      ·simp;rw [w64 (by omega) (by omega)]
    ·have hjn2:j=(cnt w h).toNat:=by omega
     have hjn':¬j<P.length:=by omega
     simp [h2,h4,h6,h7,h27,h28,h8,h32,h33]
     refine ih ((cnt w h).toNat-(i+1)) _ _ ⟨i+1,vo,o,rfl,by omega,by rw [ho,hjn2,Nat.succ_mul],by simp [h2],by simp [h4],by simp [h6],by simp [h7],by simp [h27],?_,c0,b2,b4,b6,op,oo,no⟩ (by omega)
     simp;rw [w64 (by omega) (by omega)]
   ·have hi2:i=(cnt w h).toNat:=by omega
    have l4:=Qu b4
    rw [hi2] at ho
    rw [ho] at oo
    have l5:∀i∈ids vo,i∉[H.length+1]:=fun i hi hh=>by have:=no i hi;simp at hh;omega
    have g4:=Qh (r':=⟨[vo],0,30⟩) b4
    simp [h2,h4,h6,h7,h27,h28,VM.look,b4,b6,oo.rd.one',oo.rd.cells,g4]
    refine ⟨.agg #[vo],by simp [hok],vo,rfl,⟨oo.chg (Qe _ _) l5,by simp;omega⟩,c0.trans' (Qe _ _) (fun i hi=>.inr (by simp at hi;omega)),fun i hi=>by have:=no i hi;omega,Qx vo⟩
  ·simp [one,Xu _ _ _ _ (hI.app _) hl,hcn,Wu,hr]
   exact no _ (fun hh=>hr hh.2)
 ·simp [one,Xu _ _ _ _ (hI.app _) hl,hcn]
  exact no _ (fun hh=>hcn hh.1)
theorem Y6 (ys:List Int):ones (cellsOf Fl.int ys)=true:=by
 rw [Q7];unfold ones
 rw [List.all_eq_true]
 intro x hx
 obtain ⟨y,_,rfl⟩:=List.mem_map.1 hx
 rfl
theorem Uz (w h:Int) (v:Value) (b:List Int) (hI:IsI H v b) (hl:b.length≤1073741824):wp (vcall C frz 60 [.agg #[.int .i64 w,.int .i64 h,v]] H) (dMesh.Made H (w,h,b)):=by
 rw [Qb (fn:=Tryz.f60) Tryz.func60 rfl (by kernel_rfl) rfl]
 have one:=And.intro hI.one' hI.cells
 simp [one]
 rw [Vn (h:=⟨by kernel_rfl,by kernel_rfl⟩)]
 simp [emps,empOp,empB,one,(hI.app _).src]
 by_cases h0:b=[]
 ·subst h0
  simp
  exact ⟨_,rfl,⟨.inl ⟨rfl,rfl⟩,by simp⟩,Chg.app _,by simp [dMesh],by simp [dMesh]⟩
 ·simp [h0,hl]
  exact ⟨_,rfl,⟨Ow.new (D:=Fl.int) (e:=3) (xs:=b) (k:=2) (by simp) (Q7 _).symm (by simp) rfl,hl⟩,Chg.app _,by simp [dMesh],Qx (.slice (some ⟨H.length+2,0,some 0⟩) b.length 0)⟩
theorem D5 (w h:Int) (v:Value) (b:List Int) (hI:IsI H v b) (hl:b.length≤1073741824):wp (vcall C frz 56 [.agg #[.int .i64 w,.int .i64 h,v]] H) (dMesh.Made H (w,h,b)):=by
 rw [Qb (fn:=Tryz.f56) Tryz.func56 rfl (by kernel_rfl) rfl]
 have one:=And.intro hI.one' hI.cells
 simp [one]
 rw [Vn (h:=⟨by kernel_rfl,by kernel_rfl⟩)]
 simp [emps,empOp,empB,one,(hI.app _).src]
 by_cases h0:b=[]
 ·subst h0
  simp
  exact ⟨_,rfl,⟨.inl ⟨rfl,rfl⟩,by simp⟩,Chg.app _,by simp [dMesh],by simp [dMesh]⟩
 ·simp [h0,hl]
  exact ⟨_,rfl,⟨Ow.new (D:=Fl.int) (e:=3) (xs:=b) (k:=2) (by simp) (Q7 _).symm (by simp) rfl,hl⟩,Chg.app _,by simp [dMesh],Qx (.slice (some ⟨H.length+2,0,some 0⟩) b.length 0)⟩
theorem Uc (v:Value) (xs:List Int) (hI:IsI H v xs) (hl:xs.length≤1073741824):wp (vcall C frz 81 [.agg #[v]] H) (dTable.Made H xs):=by
 rw [Qb (fn:=Tryz.f81) Tryz.func81 rfl (by kernel_rfl) rfl]
 have one:=And.intro hI.one' hI.cells
 simp [one,(hI.app _).src]
 by_cases h0:xs=[]
 ·subst h0
  simp
  exact ⟨_,rfl,⟨Ow.new (D:=Fl.int) (e:=3) (xs:=[]) (k:=2) (by simp) rfl rfl rfl,by simp⟩,Chg.app _,by simp [dTable],Qx (.slice (some ⟨H.length+2,0,some 0⟩) 0 0)⟩
 ·simp [h0,hl]
  exact ⟨_,rfl,⟨Ow.new (D:=Fl.int) (e:=3) (xs:=xs) (k:=2) (by simp) (Q7 _).symm (by simp) rfl,hl⟩,Chg.app _,by simp [dTable],Qx (.slice (some ⟨H.length+2,0,some 1⟩) xs.length 0)⟩
theorem O0 (v:Value) (xs:List Int) (hI:IsI H v xs) (hl:xs.length≤1073741824):wp (vcall C frz 80 [.agg #[v]] H) (dTable.Made H xs):=by
 rw [Qb (fn:=Tryz.f80) Tryz.func80 rfl (by kernel_rfl) rfl]
 have one:=And.intro hI.one' hI.cells
 simp [one,(hI.app _).src]
 by_cases h0:xs=[]
 ·subst h0
  simp
  exact ⟨_,rfl,⟨Ow.new (D:=Fl.int) (e:=3) (xs:=[]) (k:=2) (by simp) rfl rfl rfl,by simp⟩,Chg.app _,by simp [dTable],Qx (.slice (some ⟨H.length+2,0,some 0⟩) 0 0)⟩
 ·simp [h0,hl]
  exact ⟨_,rfl,⟨Ow.new (D:=Fl.int) (e:=3) (xs:=xs) (k:=2) (by simp) (Q7 _).symm (by simp) rfl,hl⟩,Chg.app _,by simp [dTable],Qx (.slice (some ⟨H.length+2,0,some 1⟩) xs.length 0)⟩
noncomputable def repair (w h:Int) (b:List Int):ClassesD:=(treeTable w h b (bestRoot w h b),treeTable w h b (bestRoot w h b))
noncomputable def repairOk (w h:Int) (b:List Int):Bool:=decide (treeOk w h b (bestRoot w h b))
theorem C4 (w h:Int) (v:Value) (b:List Int) (hI:IsI H v b) (hl:b.length≤1073741824) :
 wp (vcall C frz 88 [.agg #[.int .i64 w,.int .i64 h,v]] H) (Made2 dClasses H (repair w h b) (repairOk w h b)):=by
 rw [Qb (fn:=Tryz.f88) Tryz.func88 rfl (by kernel_rfl) rfl]
 have one:=And.intro hI.one' hI.cells
 simp [one]
 rw [Qf (h:=by kernel_rfl)]
 simp [one,Iz _ _ _ _ (hI.app _) hl]
 refine Qc (Jw w h v b (bestRoot w h b) (hI.app _) hl) ?_
 rintro _ H1 ⟨_,rfl,vt,rfl,ot,c1,nt,dt⟩
 have b1:H1[H.length+1]? = some ⟨[.slice none 0 0,.slice none 0 0],0,32⟩:=Qa (by simp) c1 (by simp)
 have l1:=Qu b1
 simp at nt
 have cH:Chg H H1 []:=(Chg.app []).trans c1
 have hle:=Oa w h b (bestRoot w h b)
 have hne:¬treeOk w h b (bestRoot w h b)→treeTable w h b (bestRoot w h b)=[]:=fun hh=>if_neg hh
 unfold repair repairOk
 generalize treeTable w h b (bestRoot w h b)=tt at *
 have one1:=Wo ot
 simp [Wn,one1,VM.look,b1]
 by_cases hok:treeOk w h b (bestRoot w h b)
 ·have l0:=cH.1
  simp [hok,l0]
  rw [Qf (h:=by kernel_rfl)]
  simp [one1,l0]
  refine Qc (Uc vt tt (ot.1.rd.isI.app _) (by omega)) ?_
  rintro _ H2 ⟨vu,rfl,ou,c2,nu,du⟩
  have b2:H2[H.length+1]? = some ⟨[.slice none 0 0,.slice none 0 0],0,32⟩:=Qa (Qp b1 _) c2 (by simp)
  have ot2:=Dt.chg0 (T:=dIntS) (Dt.app (T:=dIntS) ot) c2
  have lt1:=dIntS.lt ot
  simp at nu
  have one2:=Wo ou
  have g4:=Qh (r':=⟨[vt,vu],0,32⟩) b2
  simp [Wn,one1,one2,VM.look,b2,g4]
  have h1:∀i∈VM.ids vt,i∉[H.length+1]:=fun i hi hh=>by have:=nt i hi;simp at hh;omega
  have h2:∀i∈VM.ids vu,i∉[H.length+1]:=fun i hi hh=>by have:=nu i hi;simp at hh;omega
  refine ⟨.agg #[vt,vu],by simp [hok],(vt,vu),rfl,⟨Dt.chg (T:=dIntS) ot2 (Qe _ _) h1,Dt.chg (T:=dIntS) ou (Qe _ _) h2⟩,((cH.trans (Chg.app [])).trans c2).trans' (Qe _ _) (fun i hi=>.inr (by simp at hi;omega)),fun i hi=>?_,List.nodup_append.2 ⟨Qx vt,Qx vu,fun i hi j hj hh=>?_⟩⟩
  ·rcases List.mem_append.1 hi with hi|hi
   ·have:=nt i hi;omega
   ·have:=nu i hi;omega
  ·have:=lt1 i hi;have:=nu j hj;omega
 ·obtain rfl:=hne hok
  have l0:=cH.1
  have g4:=Qh (r':=⟨[.slice none 0 0,.slice none 0 0],0,32⟩) (Qp b1 [⟨[vt],0,30⟩])
  have b1':=Qp b1 [⟨[vt],0,30⟩]
  simp [hok,l0,VM.look,b1,b1',g4]
  refine ⟨.agg #[.slice none 0 0,.slice none 0 0],by simp [hok],(.slice none 0 0,.slice none 0 0),rfl,⟨⟨.inl ⟨rfl,rfl⟩,by simp⟩,.inl ⟨rfl,rfl⟩,by simp⟩,(cH.trans (Chg.app [])).trans' (Qe _ _) (fun i hi=>.inr (by simp at hi;omega)),by simp [dClasses],by simp [dClasses]⟩
end Go.Proofs.YtdhjhjbfplajfaaGreat.V
set_option linter.all false
namespace Go.Proofs.YtdhjhjbfplajfaaGreat.V
open Go Go.VM Go.Proofs
variable {frz:Nat} {H:Heap} {v:Value} {w h:Int} {b:List Int} {root:Int}
theorem Aa (o:dMesh.Ow H v (w,h,b)):wp (vcall C frz 88 [dMesh.val v (w,h,b)] H) (Made2 dClasses H (repair w h b) (repairOk w h b)):=C4 w h v b o.1.rd.isI o.2
end Go.Proofs.YtdhjhjbfplajfaaGreat.V
set_option linter.all false
namespace Go.Proofs.YtdhjhjbfplajfaaGreat.V
open Go Go.VM Go.Proofs
set_option maxRecDepth 10000
variable {frz:Nat} {H:Heap}
def broke (b:List Int) (c:Int):List Int:=isort (b++[c])
def breakOk (w h:Int) (b:List Int) (c:Int):Prop:=meshOk w h b∧has w h b c
instance (w h:Int) (b:List Int) (c:Int):Decidable (breakOk w h b c):=inferInstanceAs (Decidable (_∧_))
def withBroken (w h:Int) (b:List Int) (c:Int):List Int:=if breakOk w h b c then broke b c else b
theorem ww {w h:Int} {b:List Int} (hm:meshOk w h b):b.length≤64:=by
 obtain ⟨_,h2,h3⟩:=(Gr w h b).1 hm
 have hc:=Qg w h
 refine Ia h3 (fun c hc'=>?_)
 have:=(h2 c hc').1
 omega
theorem Ns (w h:Int) (v:Value) (b:List Int) (c:Int) (hI:IsI H v b) (hl:b.length≤1073741824) :
 wp (vcall C frz 87 [.agg #[.int .i64 w,.int .i64 h,v],.int .i64 c] H) (Made2 dMesh H (w,h,withBroken w h b c) (decide (breakOk w h b c))):=by
 rw [Qb (fn:=Tryz.f87) Tryz.func87 rfl (by kernel_rfl) rfl]
 have one:=And.intro hI.one' hI.cells
 simp [one]
 refine Qc (Uz w h v b (hI.app _) hl) ?_
 rintro _ H1 ⟨u,rfl,o1,c1,n1,d1⟩
 have cH:Chg H H1 []:=(Chg.app []).trans c1
 have l0:=cH.1
 have b0:H1[H.length]? = some ⟨[.int .i64 w,.int .i64 h,v],0,28⟩:=Qa (by simp) c1 (by simp)
 have b1:H1[H.length+1]? = some ⟨[.int .i64 0,.int .i64 0,.slice none 0 0],0,28⟩:=Qa (by simp) c1 (by simp)
 have l1:=Qu b1
 have hI1:=((hI.rd).chg cH (by simp)).isI
 have ob:Ow Fl.int 3 H1 u b:=o1.1
 have one1:=And.intro ob.rd.one' ob.rd.cells
 have n1':∀i∈VM.ids u,H.length+2≤i:=fun i hi=>by have:=n1 i hi;simp at this;omega
 have lu:=o1.1.lt
 simp [Wz,one,one1,VM.look,b0,b1,Qp b0,Qp b1,X5 _ _ _ _ _ (hI1.app _) hl,-Bool.decide_and]
 by_cases hok:breakOk w h b c
 ·have hok':meshOk w h b∧has w h b c:=hok
  simp [hok',one,one1,VM.look,b0,b1,Qp b0,Qp b1,l0,Nat.le_add_right_of_le l0]
  have hlb:b.length≤1000:=by have:=ww hok.1;omega
  obtain ⟨u',H2,hap,o2,c2,n2⟩:=(ob.app (L:=[⟨[.int .i64 w,.int .i64 h,u],0,28⟩])).push (P:=Tryz.prog) (frz:=H.length) (ty:=26) (a:=c) (by simp) rfl (by omega) (fun i hi=>by have:=n1' i hi;omega)
  simp at hap n2
  have q2:H2[H1.length]? = some ⟨[.int .i64 w,.int .i64 h,u],0,28⟩:=Qa (by simp) c2 (fun hh=>by have:=lu _ hh;omega)
  have q1:H2[H.length+1]? = some ⟨[.int .i64 0,.int .i64 0,.slice none 0 0],0,28⟩:=Qa (Qp b1 _) c2 (fun hh=>by have:=n1' _ hh;omega)
  have k2:=Qu q2
  have n2':∀i∈VM.ids u',i≠H1.length∧H.length+2≤i:=fun i hi=>by
   rcases n2 i hi with h1|h1
   ·have:=lu i h1;have:=n1' i h1;omega
   ·omega
  have q3:=Qh (r':=⟨[.int .i64 w,.int .i64 h,u'],0,28⟩) q2
  have q4:(H2.set H1.length ⟨[.int .i64 w,.int .i64 h,u'],0,28⟩)[H.length+1]? = some ⟨[.int .i64 0,.int .i64 0,.slice none 0 0],0,28⟩:=Qa q1 (Qe _ _) (by simp;omega)
  have o3:=o2.chg (Qe H1.length ⟨[.int .i64 w,.int .i64 h,u'],0,28⟩) (fun i hi hh=>(n2' i hi).1 (List.mem_singleton.1 hh))
  have one3:=And.intro o2.rd.one' o2.rd.cells
  have c3:Chg H H2 []:=(cH.trans (Chg.app (L:=[⟨[.int .i64 w,.int .i64 h,u],0,28⟩]) [])).trans' c2 (fun i hi=>.inr (by have:=n1' i hi;omega))
  have c4:Chg H2 (H2.set H1.length ⟨[.int .i64 w,.int .i64 h,u'],0,28⟩) [H1.length]:=Qe _ _
  simp [hap,one3,VM.look,q2,q3,q4,l0]
  generalize H2.set H1.length ⟨[.int .i64 w,.int .i64 h,u'],0,28⟩=H3 at *
  refine Qc (jn u' (b++[c]) _ o3 (by simp;omega) (fun i hi=>by have:=n2' i hi;omega) (by have:=c4.1;omega)) ?_
  rintro _ H4 ⟨o5,c5⟩
  have q5:H4[H1.length]? = some ⟨[.int .i64 w,.int .i64 h,u'],0,28⟩:=Qa q3 c5 (fun hh=>by have:=n2' _ hh;omega)
  have q6:H4[H.length+1]? = some ⟨[.int .i64 0,.int .i64 0,.slice none 0 0],0,28⟩:=Qa q4 c5 (fun hh=>by have:=n2' _ hh;omega)
  have q7:=Qh (r':=⟨[.int .i64 w,.int .i64 h,u'],0,28⟩) q6
  simp [one3,VM.look,q5,q6,q7]
  have cc:Chg H H4 []:=(c3.trans' c4 (fun i hi=>.inr (by simp at hi;omega))).trans' c5 (fun i hi=>.inr (by have:=n2' i hi;omega))
  refine ⟨.agg #[.int .i64 w,.int .i64 h,u'],by simp [hok],u',by simp [withBroken,hok,broke,Wz],⟨o5.chg (Qe (H.length+1) _) (fun i hi hh=>by have:=n2' i hi;have:=List.mem_singleton.1 hh;omega) |> fun hh=>by simpa [withBroken,hok,broke] using hh,by simp [withBroken,hok,broke,Ei];omega⟩,cc.trans' (Qe _ _) (fun i hi=>.inr (by simp at hi;omega)),fun i hi=>by have:=n2' i hi;omega,Qx u'⟩
 ·have hok':¬(meshOk w h b∧has w h b c):=hok
  have g:=Qh (r':=⟨[.int .i64 w,.int .i64 h,u],0,28⟩) (Qp b1 [⟨[.int .i64 w,.int .i64 h,u],0,28⟩])
  simp [hok',one,one1,VM.look,b0,b1,Qp b0,Qp b1,l0,Nat.le_add_right_of_le l0,g]
  refine ⟨.agg #[.int .i64 w,.int .i64 h,u],by simp [hok],u,by simp [withBroken,hok,Wz],⟨by simpa [withBroken,hok] using ob.app.chg (Qe _ _) (fun i hi hh=>by have:=n1' i hi;simp at hh;omega),by simpa [withBroken,hok] using hl⟩,(cH.trans (Chg.app [])).trans' (Qe _ _) (fun i hi=>.inr (by simp at hi;omega)),fun i hi=>by have:=n1' i hi;omega,Qx u⟩
theorem N6 {v:Value} {w h:Int} {b:List Int} {c:Int} (o:dMesh.Ow H v (w,h,b)):wp (vcall C frz 87 [dMesh.val v (w,h,b),.int .i64 c] H) (Made2 dMesh H (w,h,withBroken w h b c) (decide (breakOk w h b c))):=Ns w h v b c o.1.rd.isI o.2
end Go.Proofs.YtdhjhjbfplajfaaGreat.V
set_option linter.all false
namespace Go.Proofs.YtdhjhjbfplajfaaGreat.V
open Go Go.VM Go.Proofs
set_option maxRecDepth 10000
variable {frz:Nat} {H H':Heap} {vb:Value} {code:List Int} {r:Nat}
theorem iand255 (a:Int):0≤iand .i64 a 255∧iand .i64 a 255<256:=by
 unfold iand
 have h1:(BitVec.ofInt IntKind.i64.bits a&&& BitVec.ofInt IntKind.i64.bits 255).toNat≤255:=by
  rw [BitVec.toNat_and]
  exact Nat.le_trans Nat.and_le_right (by decide)
 rw [w64 (by omega) (by omega)]
 omega
def Cur (H:Heap) (r:Nat) (vb:Value) (code:List Int):Prop:=
 ∃(i:Nat) (h:Int),i≤code.length∧H[r]? = some ⟨[vb,.int .i64 i,.int .i64 h],0,71⟩∧Rd Fl.u8 H vb code∧r∉ids vb∧code.length≤1073741824
theorem Cur.lt (h:Cur H r vb code):r<H.length:=by obtain ⟨_,_,_,h2,_⟩:=h;exact Qu h2
theorem Cur.chg {is:List Nat} (h:Cur H r vb code) (c:Chg H H' is) (k:r∉is) (k':∀i∈ids vb,i∉is):Cur H' r vb code:=by
 obtain ⟨i,x,h1,h2,h3,h4,h5⟩:=h
 exact ⟨i,x,h1,Qa h2 c k,h3.chg c k',h4,h5⟩
theorem Jr (vb:Value) (code:List Int) (hb:Rd Fl.u8 H vb code) (hl:code.length≤1073741824) :
 wp (vcall C frz 13 [vb] H) (fun u H'=>∃r,u=.pointer (some ⟨r,0,some 0⟩)∧H.length≤r∧Cur H' r vb code∧Chg H H' []):=by
 rw [Qb (fn:=Tryz.f13) Tryz.func13 rfl (by kernel_rfl) rfl]
 simp [hb.len]
 refine B9 (F:=?F) (k:=?k) (o:=?o) (Q:=?Q) (fun t H'=>H'=H∧t 0=vb∧∃h,t 3=.int .i64 h) ?main ?rest
 case main=>
  intro rest
  refine Qi (fun n t H'=>∃i:Nat,n=code.length-i∧i≤code.length∧t 0=vb∧t 4=.int .i64 i∧(∃h,t 3=.int .i64 h)∧H=H') ?_ (n:=code.length)
   ⟨0,rfl,by omega,by simp,by simp,⟨_,by simp;rfl⟩,rfl⟩
  rintro n t _ ⟨i,rfl,hi,t0,t4,⟨h,t3⟩,rfl⟩ ih
  simp [t0,t3,t4,hb.len]
  refine Wq ?_ ?_<;>intro g1
  ·simp [t0,t3,t4,g1]
   refine Qd ?_ ?_<;>intro g2
   ·have q1:=hb.idx (P:=Tryz.prog) (ty:=22) (e:=5) (by simp) (i:=(i:Int)) (by omega) (by omega)
    have r1:=hb.cell1 (P:=Tryz.prog) (e:=5) rfl (by simp) g1
    simp at q1 r1
    simp [t0,t3,t4,q1,r1]
    refine ih (code.length-(i+1)) _ _ ⟨i+1,rfl,by omega,by simp [t0],?_,⟨_,by simp;rfl⟩,rfl⟩ (by omega)
    simp;rw [w64 (by omega) (by omega)]
   ·simp [t0,t3,t4,-Sl]
    refine rest _ _ ?_
    exact ⟨rfl,by simp [t0],h,by simp [t3]⟩
  ·simp [t0,t3,t4,g1,-Sl]
   refine rest _ _ ?_
   exact ⟨rfl,by simp [t0],h,by simp [t3]⟩
 case rest=>
  rintro t H' ⟨hH,t0,h,t3⟩
  rw [hH]
  simp [t0,t3,hb.one',hb.cells]
  exact ⟨⟨0,h,by omega,by simp,hb.app,fun hh=>by have:=hb.lt _ hh;omega,hl⟩,Chg.app _⟩
theorem Y4 (c:Cur H r vb code) (hf:frz≤r):wp (vcall C frz 49 [.pointer (some ⟨r,0,some 0⟩)] H) (fun u H'=>(∃x:Nat,u=.int .i64 x∧x<256)∧Chg H H' [r]∧Cur H' r vb code):=by
 obtain ⟨i,h,hi,hr,hb,hn,hl⟩:=c
 have lt:=Qu hr
 rw [Qb (fn:=Tryz.f49) Tryz.func49 rfl (by kernel_rfl) rfl]
 simp [vnil,VM.look,hr,hf]
 generalize IntKind.i64.wrap (IntKind.i64.wrap (h*6364136223846793005)+1442695040888963407)=h1
 have hr1:=Qh (r':=⟨[vb,.int .i64 i,.int .i64 h1],0,71⟩) hr
 have c1:Chg H (H.set r ⟨[vb,.int .i64 i,.int .i64 h1],0,71⟩) [r]:=Qe _ _
 generalize H.set r ⟨[vb,.int .i64 i,.int .i64 h1],0,71⟩=H1 at *
 have hb1:=hb.chg c1 (fun j hj hh=>by have:=List.mem_singleton.1 hh;subst this;exact hn hj)
 rw [Qf (h:=by kernel_rfl)]
 simp [vnil,VM.look,hr1]
 obtain ⟨x,hx⟩:∃x:Nat,iand .i64 (ixor .i64 (ishr .i64 h1 33) (ishr .i64 h1 45)) 255=x:=⟨_,(Int.toNat_of_nonneg (iand255 _).1).symm⟩
 have hx2:=(iand255 (ixor .i64 (ishr .i64 h1 33) (ishr .i64 h1 45))).2
 rw [hx] at hx2
 simp [hx]
 rw [Qf (h:=by kernel_rfl)]
 simp [vnil,VM.look,hr1,hb1.len]
 refine Qd ?_ ?_<;>intro g1
 ·have q1:=hb1.idx (P:=Tryz.prog) (ty:=22) (e:=5) (by simp) (i:=(i:Int)) (by omega) (by omega)
  have r1:=hb1.cell1 (P:=Tryz.prog) (e:=5) rfl (by simp) g1
  simp at q1 r1
  simp
  rw [Qf (h:=by kernel_rfl)]
  have e1:IntKind.i64.wrap ((i:Int)+1)=((i+1:Nat):Int):=by rw [w64 (by omega) (by omega)];omega
  simp only [vnil,VM.look,hr1,q1,r1]
  simp [vnil,VM.look,hr1,q1,r1,hf]
  generalize hz:IntKind.i64.wrap ((x:Int)+IntKind.i64.wrap code[i])=z
  obtain ⟨y,hy⟩:∃y:Nat,iand .i64 z 255=y:=⟨_,(Int.toNat_of_nonneg (iand255 _).1).symm⟩
  have hy2:=(iand255 z).2
  rw [hy] at hy2
  rw [hy,e1]
  have hr2:=Qh (r':=⟨[vb,.int .i64 (i+1:Nat),.int .i64 h1],0,71⟩) hr1
  have c2:Chg H1 (H1.set r ⟨[vb,.int .i64 (i+1:Nat),.int .i64 h1],0,71⟩) [r]:=Qe _ _
  exact ⟨⟨y,rfl,by omega⟩,c1.trans c2,i+1,h1,by omega,hr2,hb1.chg c2 (fun j hj hh=>by have:=List.mem_singleton.1 hh;subst this;exact hn hj),hn,hl⟩
 ·simp
  exact ⟨⟨x,rfl,by omega⟩,c1,i,h1,hi,hr1,hb1,hn,hl⟩
theorem M8 {x n:Nat} (hn:0<n):(x:Int).tmod (n:Int)=((x%n:Nat):Int):=by rw [Int.tmod_eq_emod_of_nonneg (by omega)];rfl
theorem We (c:Cur H r vb code) (hf:frz≤r) (n:Nat) (hn:0<n) (hn2:n<2147483648):wp (vcall C frz 24 [.pointer (some ⟨r,0,some 0⟩),.int .i64 n] H) (fun u H'=>(∃x:Nat,u=.int .i64 x∧x<n)∧Chg H H' [r]∧Cur H' r vb code):=by
 have hn0:¬(n:Int)≤0:=by omega
 have hn1:¬n=0:=by omega
 rw [Qb (fn:=Tryz.f24) Tryz.func24 rfl (by kernel_rfl) rfl]
 simp [hn0,hn1]
 refine Qd ?_ ?_<;>intro g1
 ·simp
  refine Qc (Y4 c hf) ?_
  rintro _ H1 ⟨⟨x,rfl,hx⟩,c1,d1⟩
  have hm:x%n<n:=Nat.mod_lt _ hn
  have e1:IntKind.i64.wrap ((x%n:Nat):Int)=((x%n:Nat):Int):=w64 (by omega) (by omega)
  simp [hn1,M8 hn,e1]
  exact ⟨⟨x%n,by simp,hm⟩,c1,d1⟩
 ·simp
  refine Qc (Y4 c hf) ?_
  rintro _ H1 ⟨⟨x,rfl,hx⟩,c1,d1⟩
  simp
  refine Qc (Y4 d1 hf) ?_
  rintro _ H2 ⟨⟨y,rfl,hy⟩,c2,d2⟩
  simp
  refine Qc (Y4 d2 hf) ?_
  rintro _ H3 ⟨⟨z,rfl,hz⟩,c3,d3⟩
  simp
  refine Qc (Y4 d3 hf) ?_
  rintro _ H4 ⟨⟨w,rfl,hw⟩,c4,d4⟩
  obtain ⟨q,hq⟩:∃q:Nat,q=x*16777216+y*65536+z*256+w:=⟨_,rfl⟩
  have e1:IntKind.i64.wrap (IntKind.i64.wrap (IntKind.i64.wrap (IntKind.i64.wrap ((x:Int)*16777216)+IntKind.i64.wrap ((y:Int)*65536))+IntKind.i64.wrap ((z:Int)*256))+(w:Int))=(q:Int):=by
   rw [w64 (x:=(x:Int)*16777216) (by omega) (by omega),w64 (x:=(y:Int)*65536) (by omega) (by omega),w64 (x:=(z:Int)*256) (by omega) (by omega),w64 (x:=(x:Int)*16777216+(y:Int)*65536) (by omega) (by omega),w64 (x:=(x:Int)*16777216+(y:Int)*65536+(z:Int)*256) (by omega) (by omega),w64 (by omega) (by omega)]
   omega
  have hm:q%n<n:=Nat.mod_lt _ hn
  have e2:IntKind.i64.wrap ((q%n:Nat):Int)=((q%n:Nat):Int):=w64 (by omega) (by omega)
  simp [hn1,e1,M8 hn,e2]
  exact ⟨⟨q%n,by simp,hm⟩,c1.trans (c2.trans (c3.trans c4)),d4⟩
theorem Vq (c:Cur H r vb code) (hf:frz≤r) (v:Value) (xs:List Int) (hI:IsI H v xs) (hv:r∉ids v) (h0:0<xs.length) (hl:xs.length<2147483648) :
 wp (vcall C frz 58 [.pointer (some ⟨r,0,some 0⟩),v] H) (fun u H'=>(∃x,u=.int .i64 x∧x∈xs)∧Chg H H' [r]∧Cur H' r vb code):=by
 rw [Qb (fn:=Tryz.f58) Tryz.func58 rfl (by kernel_rfl) rfl]
 simp [hI.len]
 refine Qc (We c hf xs.length h0 hl) ?_
 rintro _ H1 ⟨⟨x,rfl,hx⟩,c1,d1⟩
 have hI1:=(hI.rd.chg c1 (fun i hi hh=>by have:=List.mem_singleton.1 hh;subst this;exact hv hi)).isI
 have q1:=hI1.idx (P:=Tryz.prog) (ty:=26) (e:=3) (by simp) (i:=(x:Int)) (by omega) (by omega)
 have r1:=(hI1.load (P:=Tryz.prog) (e:=3) (by simp) hx).trans (by rw [Qw _ _ hx])
 simp only [Int.toNat_natCast] at q1
 simp [q1,r1]
 exact ⟨c1,d1⟩
theorem D9 (c:Cur H r vb code) (hf:frz≤r):wp (vcall C frz 29 [.pointer (some ⟨r,0,some 0⟩)] H) (fun u H'=>(∃w h,u=.agg #[.int .i64 w,.int .i64 h]∧okG w h)∧Chg H H' [r]∧Cur H' r vb code):=by
 have lt:=c.lt
 have nb:∀(L:Heap),Cur (H++L) r vb code:=fun L=>by
  obtain ⟨i,x,h1,h2,h3,h4,h5⟩:=c
  exact ⟨i,x,h1,Qp h2 L,h3.app,h4,h5⟩
 rw [Qb (fn:=Tryz.f29) Tryz.func29 rfl (by kernel_rfl) rfl]
 simp
 have i1:=IsI.at (H:=H) (L:=[⟨[.int .i64 0,.int .i64 0],0,25⟩,⟨[.int .i64 1,.int .i64 2,.int .i64 2,.int .i64 3,.int .i64 3,.int .i64 4],0,3⟩]) (k:=1) (xs:=[1,2,2,3,3,4]) rfl
 refine Qc (Vq (nb _) hf _ [1,2,2,3,3,4] i1 (by simp;omega) (by simp) (by simp)) ?_
 rintro _ H1 ⟨⟨w,rfl,hw⟩,c1,d1⟩
 have cH:Chg H H1 [r]:=(Chg.app [r]).trans c1
 have l0:=cH.1
 have b0:H1[H.length]? = some ⟨[.int .i64 0,.int .i64 0],0,25⟩:=Qa (by simp) c1 (by simp;omega)
 have lt1:=d1.lt
 have nb1:∀(L:Heap),Cur (H1++L) r vb code:=fun L=>by
  obtain ⟨i,x,h1,h2,h3,h4,h5⟩:=d1
  exact ⟨i,x,h1,Qp h2 L,h3.app,h4,h5⟩
 simp
 have i2:=IsI.at0 (H:=H1) (L:=[⟨[.int .i64 1,.int .i64 2,.int .i64 2,.int .i64 3,.int .i64 3,.int .i64 4],0,3⟩]) (xs:=[1,2,2,3,3,4]) rfl
 refine Qc (Vq (nb1 _) hf _ [1,2,2,3,3,4] i2 (by simp;omega) (by simp) (by simp)) ?_
 rintro _ H2 ⟨⟨h,rfl,hh⟩,c2,d2⟩
 have b2:H2[H.length]? = some ⟨[.int .i64 0,.int .i64 0],0,25⟩:=Qa (Qp b0 _) c2 (by simp;omega)
 have g2:=Qh (r':=⟨[.int .i64 w,.int .i64 h],0,25⟩) b2
 have hF:frz≤H.length:=by omega
 simp [VM.look,b2,g2,hF]
 have hwr:1≤w∧w≤4:=by simp at hw;omega
 have hhr:1≤h∧h≤4:=by simp at hh;omega
 have c3:Chg H2 (H2.set H.length ⟨[.int .i64 w,.int .i64 h],0,25⟩) [H.length]:=Qe _ _
 refine ⟨⟨w,h,⟨rfl,rfl⟩,hwr,hhr⟩,(cH.trans ((Chg.app [r]).trans c2)).trans' c3 (fun i hi=>.inr (by simp at hi;omega)),?_⟩
 obtain ⟨i,x,h1,h2,h3,h4,h5⟩:=d2
 have vlt:=fun i (hi:i∈ids vb)=>(show i<H.length by obtain ⟨_,_,_,_,k3,_⟩:=c;exact k3.lt i hi)
 exact ⟨i,x,h1,Qa h2 c3 (by simp;omega),h3.chg c3 (fun j hj hh=>by have:=vlt j hj;simp at hh;omega),h4,h5⟩
theorem Cur.app (c:Cur H r vb code) (L:Heap):Cur (H++L) r vb code:=by
 obtain ⟨i,x,h1,h2,h3,h4,h5⟩:=c
 exact ⟨i,x,h1,Qp h2 L,h3.app,h4,h5⟩
theorem Cur.vlt (c:Cur H r vb code):∀i∈ids vb,i<H.length:=by
 obtain ⟨_,_,_,_,k3,_⟩:=c;exact k3.lt
theorem Mg (vb:Value) (code:List Int) (hb:Rd Fl.u8 H vb code) (hl:code.length≤1073741824) :
 wp (vcall C frz 10 [vb] H) (fun u H'=>∃xs:List Int,Ow Fl.int 3 H' u xs∧xs.length=12∧(∀x∈xs,0≤x∧x<10000)∧(∀i∈ids u,H.length≤i)∧Chg H H' []):=by
 rw [Qb (fn:=Tryz.f10) Tryz.func10 rfl (by kernel_rfl) rfl]
 simp
 refine Qc (Jr vb code hb hl) ?_
 rintro _ H1 ⟨r,rfl,hr,c1,ch1⟩
 have lt1:=c1.lt
 have vlt:=hb.lt
 simp
 refine Qi (fun n t H'=>∃(i:Nat) (u:Value) (xs:List Int),n=12-i∧i≤12∧t 3=.pointer (some ⟨r,0,some 0⟩)∧t 4=u∧t 5=.int .i64 i∧Cur H' r vb code∧Ow Fl.int 3 H' u xs∧xs.length=i∧(∀x∈xs,0≤x∧x<10000)∧(∀j∈ids u,H.length≤j∧j≠r)∧Chg H H' []) ?_ (n:=12)
  ⟨0,.slice (some ⟨H1.length,0,some 0⟩) 0 0,[],rfl,by omega,by simp,by simp,by simp,c1.app _,Ow.new0 (D:=Fl.int) (xs:=[]) rfl rfl rfl rfl,rfl,by simp,by have:=ch1.1;simp;omega,ch1.trans (Chg.app [])⟩
 rintro n t H' ⟨i,u,xs,rfl,hi,t3,t4,t5,c,o,hx,hr2,nu,ch⟩ ih
 simp [t3,t4,t5]
 refine Qd ?_ ?_<;>intro g1
 ·simp [t3,t4,t5]
  have bl:=We (frz:=H.length) c hr 10000 (by decide) (by decide)
  refine Qc (by simpa using bl) ?_
  rintro _ H2 ⟨⟨x,rfl,hx2⟩,c2,d2⟩
  have o2:=o.chg c2 (fun j hj hh=>(nu j hj).2 (List.mem_singleton.1 hh))
  obtain ⟨u',H3,hap,o3,c3,n3⟩:=o2.push (P:=Tryz.prog) (frz:=H.length) (ty:=26) (a:=(x:Int)) (by simp) rfl (by omega) (fun j hj=>(nu j hj).1)
  simp only [Fl.int_f] at hap
  have l2:=ch.1
  have l3:=c2.1
  have ltr:=d2.lt
  simp [t3,t4,t5,hap]
  refine ih (12-(i+1)) _ _ ⟨i+1,u',xs++[(x:Int)],rfl,by omega,by simp [t3],by simp,?_,d2.chg c3 (fun hh=>(nu _ hh).2 rfl) (fun j hj hh=>by have:=(nu j hh).1;have:=vlt j hj;omega),o3,by simp [hx],fun y hy=>?_,fun j hj=>?_,(ch.trans' c2 (fun j hj=>.inr (by simp at hj;omega))).trans' c3 (fun j hj=>.inr ((nu j hj).1))⟩ (by omega)
  ·simp;rw [w64 (by omega) (by omega)]
  ·rcases List.mem_append.1 hy with hy|hy
   ·exact hr2 y hy
   ·rw [List.mem_singleton.1 hy];omega
  ·rcases n3 j hj with h1|h1
   ·exact nu j h1
   ·omega
 ·simp [t4]
  exact ⟨xs,o,by omega,hr2,fun j hj=>(nu j hj).1,ch⟩
theorem Qbk (v:Value) (code:List Int) (hb:Rd Fl.u8 H v code):vcall C frz 5 [v] H=some (.bool (decide ((1048576:Int)<code.length)),H):=by
 rw [Qb (fn:=Tryz.f5) Tryz.func5 rfl (by kernel_rfl) rfl]
 simp [hb.len]
end Go.Proofs.YtdhjhjbfplajfaaGreat.V
set_option linter.all false
namespace Go.Proofs.YtdhjhjbfplajfaaGreat.V
open Go Go.VM Go.Proofs
theorem S9:∀xs:List Int,cellsOf Fl.u8 xs=xs.map (.int .u8)
 | []=>rfl
 | a::l=>by rw [Wj,S9 l];rfl
theorem Dq {H:Heap} {v:Value} {xs:List Int} (h:IsS (Kn.int .u8) H v xs):Rd Fl.u8 H v xs:=by
 rcases h with h|⟨id,off,r,h1,h2,h3,h4⟩
 ·exact .inl h
 ·have hs:(Kn.int .u8).sz=1:=rfl
  rw [hs] at h3 h4
  have e0:cellsOf Fl.u8 xs=xs.map (.int .u8):=S9 xs
  refine .inr ⟨id,off,r,h1,h2,?_,by simpa using h3⟩
  rw [e0]
  refine List.ext_getElem? fun j=>?_
  by_cases hj:j<xs.length
  ·have:=h4 j xs[j] (by simp [hj])
   have e:(r.cells.drop (off+j*1)).take 1=[.int .u8 xs[j]]:=this
   have e2:=congrArg (·[0]?) e
   simp at e2
   rw [List.getElem?_take,if_pos (by simpa using hj),List.getElem?_drop]
   simp [e2,hj]
  ·rw [List.getElem?_take,if_neg (by simpa using hj),List.getElem?_eq_none (by rw [List.length_map];omega)]
end Go.Proofs.YtdhjhjbfplajfaaGreat.V
set_option linter.all false
namespace Go.Proofs.YtdhjhjbfplajfaaGreat.V
open Go Go.VM Go.Proofs
set_option maxRecDepth 10000
variable {frz:Nat} {H:Heap}
theorem Gf (v u:Value) (xs ys:List Int) (hI:IsI H v xs) (hJ:IsI H u ys) (hl:xs.length≤1073741824):vcall C frz 12 [v,u] H=some (.bool (decide (xs=ys)),H):=by
 refine wp.exact (by simp) ?_ rfl
 rw [Qb (fn:=Tryz.f12) Tryz.func12 rfl (by kernel_rfl) rfl]
 simp [hI.len,hJ.len]
 refine Qd ?_ ?_<;>intro g0
 ·have hle:xs.length=ys.length:=by omega
  simp
  refine Qi (fun n t H'=>∃i:Nat,n=xs.length-i∧i≤xs.length∧t 0=v∧t 1=u∧t 5=.int .i64 i∧H'=H∧xs.take i=ys.take i) ?_ (n:=xs.length) ⟨0,rfl,by omega,by simp,by simp,by simp,rfl,rfl⟩
  rintro n t H' ⟨i,rfl,hi,t0,t1,t5,hH,he⟩ ih
  rw [hH]
  simp [t0,t1,t5,hI.len]
  refine Qd ?_ ?_<;>intro g1
  ·have q1:=hI.idx (P:=Tryz.prog) (ty:=26) (e:=3) (by simp) (i:=(i:Int)) (by omega) (by omega)
   have r1:=(hI.load (P:=Tryz.prog) (e:=3) (by simp) g1).trans (by rw [Qw _ _ g1])
   have q2:=hJ.idx (P:=Tryz.prog) (ty:=26) (e:=3) (by simp) (i:=(i:Int)) (by omega) (by omega)
   have g1':i<ys.length:=by omega
   have r2:=(hJ.load (P:=Tryz.prog) (e:=3) (by simp) g1').trans (by rw [Qw _ _ g1'])
   simp only [Int.toNat_natCast] at q1 q2
   simp [t0,t1,t5]
   rw [Qf (h:=by kernel_rfl)]
   simp [t0,t1,t5,q1,r1,q2,r2]
   refine Qd ?_ ?_<;>intro g2
   ·simp [t0,t1,t5]
    refine ih (xs.length-(i+1)) _ _ ⟨i+1,rfl,by omega,by simp [t0],by simp [t1],?_,rfl,?_⟩ (by omega)
    ·simp;rw [w64 (by omega) (by omega)]
    ·rw [List.take_succ_eq_append_getElem g1,List.take_succ_eq_append_getElem g1',he,g2]
   ·simp
    intro hh;subst hh;exact g2 rfl
  ·have him:i=xs.length:=by omega
   simp
   rw [him,List.take_length] at he
   rw [he,hle,List.take_length]
 ·simp
  intro hh;exact g0 (by rw [hh])
theorem Vw:∀(hs:List Value),(hs.flatMap ids).Nodup→∀{i j:Nat} {a b:Value},i≠j→hs[i]? = some a→hs[j]? = some b→∀x∈ids a,x∉ids b
 | [],_,i,j,a,b,_,h1,_=>by simp at h1
 | c::hs,nd,i,j,a,b,hij,h1,h2=>by
  rw [List.flatMap_cons] at nd
  obtain ⟨n1,n2,n3⟩:=List.nodup_append.1 nd
  intro x hx hx'
  cases i with
  | zero=>
   cases j with
   | zero=>exact absurd rfl hij
   | succ j=>
    simp at h1 h2
    subst h1
    exact n3 x hx x (List.mem_flatMap.2 ⟨b,List.mem_of_getElem? h2,hx'⟩) rfl
  | succ i=>
   cases j with
   | zero=>
    simp at h1 h2
    subst h2
    exact n3 x hx' x (List.mem_flatMap.2 ⟨a,List.mem_of_getElem? h1,hx⟩) rfl
   | succ j=>exact Vw hs n2 (i:=i) (j:=j) (fun e=>hij (by omega)) (by simpa using h1) (by simpa using h2) x hx hx'
def ahead (a:SSD) (i:Nat):Nat:=((a.take i).map List.length).sum
theorem R5 (a:SSD) {i:Nat} (h:i<a.length):ahead a (i+1)=ahead a i+(a.getD i []).length:=by
 unfold ahead;rw [B5 a h,List.getD_eq_getElem?_getD,List.getElem?_eq_getElem h];rfl
theorem Pm (a:SSD) (h2:∀xs∈a,xs.length≤67108864):∀i,i≤a.length→ahead a i≤67108864*i
 | 0,_=>by simp [ahead]
 | i+1,h=>by
  have:=Pm a h2 i (by omega)
  have hm:=h2 _ (List.getElem_mem (show i<a.length by omega))
  rw [R5 a (by omega),List.getD_eq_getElem?_getD,List.getElem?_eq_getElem (by omega)]
  simp;omega
theorem O2 (v:Value) (xs:List Int) (hI:Rd Fl.int H v xs) (hl:xs.length≤1073741824):∃r L,vappend Tryz.prog frz H 26 26 (.slice none 0 0) v=some (r,H++L)∧dIntS.Ow (H++L) r xs∧(∀i∈ids r,H.length≤i):=by
 have hs:=hI.src
 simp only [Fl.int_n] at hs
 by_cases h0:xs=[]
 ·subst h0
  refine ⟨.slice none 0 0,[],?_,⟨.inl ⟨rfl,rfl⟩,by simp⟩,by simp⟩
  simp [hs]
 ·refine ⟨.slice (some ⟨H.length,0,some 0⟩) xs.length 0,[⟨cellsOf Fl.int xs,0,3⟩],?_,⟨Ow.new0 rfl rfl (Y6 xs) rfl,hl⟩,by simp⟩
  have:xs.length≠0:=fun hh=>h0 (List.length_eq_zero_iff.1 hh)
  simp [hs,h0,hl,Y6]
theorem Z9 (v:Value) (hs:List Value) (xss:SSD) (hI:RdL flF H v hs xss) (hb:xss.length≤2097152) (hb2:∀xs∈xss,xs.length≤67108864) :
 wp (vcall C frz 62 [v] H) (dSS.Made H xss):=by
 rw [Qb (fn:=Tryz.f62) Tryz.func62 rfl (by kernel_rfl) rfl]
 have hl:=hI.2.1
 simp [(hI.app).1.len (P:=Tryz.prog) (ty:=33) (by simp),hl]
 refine Qi (fun n t H'=>∃(i:Nat) (out:Value) (gs:List Value),n=xss.length-i∧i≤xss.length∧t 7=v∧t 8=.int .i64 xss.length∧t 9=.int .i64 i∧t 3=out∧gs.length=i∧Ow Fl.val 82 H' out gs∧Chg H H' []∧
  (∀(j:Nat) (a:Value) (xs:List FlitD),gs[j]? = some a→xss[j]? = some xs→Ow flF 115 H' a xs)∧(∀x∈idsL out gs,H.length≤x∧x<H'.length)∧(idsL out gs).Nodup) ?_ (n:=xss.length)
  ⟨0,.slice (some ⟨H.length,0,some 0⟩) 0 0,[],rfl,by omega,by simp,by simp,by simp,by simp,rfl,Ow.new0 (D:=Fl.val) (xs:=[]) rfl rfl rfl rfl,Chg.app _,by simp,by simp [idsL],by simp [idsL]⟩
 rintro n t H' ⟨i,out,gs,rfl,hi,t7,t8,t9,t3,hgl,o,c,hin,hids,hnd⟩ ih
 have rd:=hI.chg c (by simp)
 have l0:=c.1
 simp [t7,t8,t9,t3,rd.1.len (P:=Tryz.prog) (ty:=33) (by simp),hl]
 refine Qd ?_ ?_<;>intro h
 ·have h':i<xss.length:=by omega
  obtain ⟨u,a1,a2,a3,a4⟩:=W9 rd (ty:=33) (e:=82) (by simp) (by simp) h'
  have hm:=hb2 _ (List.getElem_mem h')
  have a2':vindexAddr Tryz.prog (H'++[⟨[],0,115⟩]) 33 v (.int .i64 i)=some (elp v i):=by
   obtain ⟨_,_,q,_,_⟩:=W9 (rd.app (L:=[⟨[],0,115⟩])) (ty:=33) (e:=82) (by simp) (by simp) h';exact q
  have a3':vload Tryz.prog (H'++[⟨[],0,115⟩]) 82 (elp v i)=some u:=by
   obtain ⟨u',q1,_,q,_⟩:=W9 (rd.app (L:=[⟨[],0,115⟩])) (ty:=33) (e:=82) (by simp) (by simp) h'
   rw [a1] at q1;cases q1;exact q
  have o0:Ow flF 115 (H'++[⟨[],0,115⟩]) (.slice (some ⟨H'.length,0,some 0⟩) 0 0) []:=Ow.new0 (D:=flF) (xs:=[]) rfl rfl rfl rfl
  obtain ⟨r,H2,hap,or_,c1,n1⟩:=o0.append (P:=Tryz.prog) (frz:=H.length) (ty:=82) (a4.app (L:=[⟨[],0,115⟩])) (by simp) (Vl _) (by simp;omega) (by simp;omega)
  rw [List.nil_append] at or_
  have l1:=c1.1
  simp at l1
  have cc1:Chg H' H2 []:=(Chg.app []).trans' c1 (fun x hx=>.inr (by simp at hx;omega))
  have nr:∀x∈ids r,H'.length≤x:=fun x hx=>by
   rcases n1 x hx with h1|h1
   ·simp at h1;omega
   ·simp at h1;omega
  have oo:=o.chg cc1 (by simp)
  have hout:∀x∈ids out,H.length≤x∧x<H'.length:=fun x hx=>hids x (List.mem_append.2 (.inl hx))
  obtain ⟨out',H4,hap2,o4,c4,n4⟩:=oo.push (P:=Tryz.prog) (frz:=H.length) (ty:=33) (a:=r) (by simp) (by simp [or_.rd.one']) (by omega) (fun x hx=>(hout x hx).1)
  simp only [Fl.val_f] at hap2
  have l4:=c4.1
  have one:=And.intro or_.rd.one' or_.rd.cells
  have rlt:=or_.lt
  have o4lt:=o4.lt
  simp [-Qy,t7,t8,t9,t3,a2,a3,a2',a3',hap,hap2,one]
  refine ih (xss.length-(i+1)) _ _ ⟨i+1,out',gs++[r],rfl,by omega,by simp [t7],by simp [t8],?_,by simp,by simp [hgl],o4,(c.trans cc1).trans' c4 (fun x hx=>.inr (hout x hx).1),fun j a xs ha hx=>?_,fun x hx=>?_,?_⟩ (by omega)
  ·simp;rw [w64 (by omega) (by omega)]
  ·by_cases hj:j<gs.length
   ·rw [List.getElem?_append_left hj] at ha
    refine ((hin j a xs ha hx).chg cc1 (by simp)).chg c4 (fun y hy hh=>?_)
    exact (List.nodup_append.1 hnd).2.2 y hh y (List.mem_flatMap.2 ⟨a,List.mem_of_getElem? ha,hy⟩) rfl
   ·rw [List.getElem?_append_right (by omega)] at ha
    have hj2:=(List.getElem?_eq_some_iff.1 ha).1
    simp at hj2
    have:j=i:=by omega
    subst this
    rw [show j-gs.length=0 by omega] at ha
    simp at ha
    subst ha
    rw [List.getElem?_eq_getElem h'] at hx
    cases hx
    exact or_.chg c4 (fun y hy hh=>by have:=nr y hy;have:=(hout y hh).2;omega)
  ·rcases List.mem_append.1 hx with hx|hx
   ·have h2:=o4lt x hx
    rcases n4 x hx with h1|h1
    ·exact ⟨(hout x h1).1,h2⟩
    ·exact ⟨by omega,h2⟩
   ·rw [List.flatMap_append] at hx
    rcases List.mem_append.1 hx with hx|hx
    ·have:=hids x (List.mem_append.2 (.inr hx));omega
    ·simp at hx
     have:=nr x hx;have:=rlt x hx;omega
  ·obtain ⟨d1,d2,d3⟩:=List.nodup_append.1 hnd
   have hgl2:∀x∈gs.flatMap ids,x<H'.length:=fun x hx=>(hids x (List.mem_append.2 (.inr hx))).2
   refine List.nodup_append.2 ⟨Qx _,?_,fun a ha b hb e=>?_⟩
   ·rw [List.flatMap_append]
    exact Yq d2 (by simpa using Qx r) (n:=H'.length) hgl2 (fun x hx=>by simp at hx;exact nr x hx)
   ·subst e
    rw [List.flatMap_append] at hb
    rcases n4 a ha with h1|h1
    ·rcases List.mem_append.1 hb with hb|hb
     ·exact d3 a h1 a hb rfl
     ·simp at hb
      have:=nr a hb;have:=(hout a h1).2;omega
    ·rcases List.mem_append.1 hb with hb|hb
     ·have:=hgl2 a hb;omega
     ·simp at hb
      have:=rlt a hb;omega
 ·have:i=xss.length:=by omega
  subst this
  simp [t7,t8,t9,t3]
  exact ⟨(out,gs),rfl,⟨⟨o,hgl,hin⟩,hb,hb2⟩,c,fun x hx=>(hids x hx).1,hnd⟩
theorem Ur (v1 v2:Value) (A B:List Int) (h1:IsI H v1 A) (h2:IsI H v2 B) (l1:A.length≤1073741824) (l2:B.length≤1073741824) :
 wp (vcall C frz 61 [.agg #[v1,v2]] H) (dClasses.Made H (A,B)):=by
 rw [Qb (fn:=Tryz.f61) Tryz.func61 rfl (by kernel_rfl) rfl]
 have one:=And.intro (And.intro h1.one' h1.cells) (And.intro h2.one' h2.cells)
 simp [one]
 try rw [Qf (h:=by kernel_rfl)]
 simp [one]
 refine Qc (Uc v1 A (h1.app _) l1) ?_
 rintro _ H1 ⟨u1,rfl,o1,c1,n1,d1⟩
 have b0:H1[H.length]? = some ⟨[v1,v2],0,32⟩:=Qa (by simp) c1 (by simp)
 have bR:H1[H.length+1]? = some ⟨[.slice none 0 0,.slice none 0 0],0,32⟩:=Qa (by simp) c1 (by simp)
 have cH1:Chg H H1 []:=(Chg.app []).trans c1
 have lc:=c1.1
 simp at n1 lc
 have onu:=Wo o1
 have lt1:=dTable.lt o1
 simp [Wn,VM.look,b0,one]
 refine Qc (Uc v2 B (Rd.isI (h2.rd.chg cH1 (by simp))) l2) ?_
 rintro _ H2 ⟨u2,rfl,o2,c2,n2,d2⟩
 have bR:=Qa bR c2 (by simp)
 have o1:=Dt.chg0 (T:=dTable) o1 c2
 have onu2:=Wo o2
 have gR:=Qh (r':=⟨[u1,u2],0,32⟩) bR
 have hF:H.length≤H.length+1:=by omega
 have eR:Chg H2 (H2.set (H.length+1) ⟨[u1,u2],0,32⟩) [H.length+1]:=Qe _ _
 simp [Wn,VM.look,bR,onu,onu2,gR,hF]
 refine ⟨(u1,u2),rfl,⟨Dt.chg (T:=dTable) o1 eR (fun i hi hh=>by have:=n1 i hi;simp at hh;omega),Dt.chg (T:=dTable) o2 eR (fun i hi hh=>by have:=n2 i hi;simp at hh;omega)⟩,(cH1.trans c2).trans' eR (fun i hi=>.inr (by simp at hi;omega)),fun i hi=>?_,?_⟩
 ·rcases List.mem_append.1 hi with hi|hi
  ·have:=n1 i hi;omega
  ·have:=n2 i hi;omega
 ·exact List.nodup_append.2 ⟨d1,d2,fun a ha b hb e=>by have:=lt1 a ha;have:=n2 b hb;omega⟩
theorem Np (v1 v2:Value) (A B:List Int) (h1:IsI H v1 A) (h2:IsI H v2 B) (l1:A.length≤1073741824) (l2:B.length≤1073741824) :
 wp (vcall C frz 57 [.agg #[v1,v2]] H) (dClasses.Made H (A,B)):=by
 rw [Qb (fn:=Tryz.f57) Tryz.func57 rfl (by kernel_rfl) rfl]
 have one:=And.intro (And.intro h1.one' h1.cells) (And.intro h2.one' h2.cells)
 simp [one]
 try rw [Qf (h:=by kernel_rfl)]
 simp [one]
 refine Qc (O0 v1 A (h1.app _) l1) ?_
 rintro _ H1 ⟨u1,rfl,o1,c1,n1,d1⟩
 have b0:H1[H.length]? = some ⟨[v1,v2],0,32⟩:=Qa (by simp) c1 (by simp)
 have bR:H1[H.length+1]? = some ⟨[.slice none 0 0,.slice none 0 0],0,32⟩:=Qa (by simp) c1 (by simp)
 have cH1:Chg H H1 []:=(Chg.app []).trans c1
 have lc:=c1.1
 simp at n1 lc
 have onu:=Wo o1
 have lt1:=dTable.lt o1
 simp [Wn,VM.look,b0,one]
 refine Qc (O0 v2 B (Rd.isI (h2.rd.chg cH1 (by simp))) l2) ?_
 rintro _ H2 ⟨u2,rfl,o2,c2,n2,d2⟩
 have bR:=Qa bR c2 (by simp)
 have o1:=Dt.chg0 (T:=dTable) o1 c2
 have onu2:=Wo o2
 have gR:=Qh (r':=⟨[u1,u2],0,32⟩) bR
 have hF:H.length≤H.length+1:=by omega
 have eR:Chg H2 (H2.set (H.length+1) ⟨[u1,u2],0,32⟩) [H.length+1]:=Qe _ _
 simp [Wn,VM.look,bR,onu,onu2,gR,hF]
 refine ⟨(u1,u2),rfl,⟨Dt.chg (T:=dTable) o1 eR (fun i hi hh=>by have:=n1 i hi;simp at hh;omega),Dt.chg (T:=dTable) o2 eR (fun i hi hh=>by have:=n2 i hi;simp at hh;omega)⟩,(cH1.trans c2).trans' eR (fun i hi=>.inr (by simp at hi;omega)),fun i hi=>?_,?_⟩
 ·rcases List.mem_append.1 hi with hi|hi
  ·have:=n1 i hi;omega
  ·have:=n2 i hi;omega
 ·exact List.nodup_append.2 ⟨d1,d2,fun a ha b hb e=>by have:=lt1 a ha;have:=n2 b hb;omega⟩
theorem Ya {v:NetV} {x:NetD} (o:dNet.Ow H v x):wp (vcall C frz 32 [dNet.val v x] H) (dNet.Made H x):=by
 have ones:=Qn o
 obtain ⟨u2,⟨u3,u4⟩,⟨u5,h5⟩,u6,u7,⟨u8,h8⟩,⟨u9,h9⟩,_⟩:=v
 obtain ⟨⟨w,h,b⟩,⟨A,B⟩,buf,own,turn,src,arr,tm⟩:=x
 obtain ⟨y1,y2,y3,y4,y5,y6,y7,_⟩:=o
 simp only at y1 y2 y3 y4 y5 y6 y7 ones
 rw [Qk]
 rw [Qb (fn:=Tryz.f32) Tryz.func32 rfl (by kernel_rfl) rfl]
 have hF:H.length≤H.length+1:=by omega
 simp [ones]
 rw [Vn (h:=⟨by kernel_rfl,by kernel_rfl⟩)]
 obtain ⟨G0,hG0⟩:∃G,G=H++[⟨[.int .i64 w,.int .i64 h,u2,u3,u4,u5,u6,u7,u8,u9,.int .i64 tm],0,35⟩,⟨[.int .i64 0,.int .i64 0,.slice none 0 0,.slice none 0 0,.slice none 0 0,.slice none 0 0,.slice none 0 0,.slice none 0 0,.slice none 0 0,.slice none 0 0,.int .i64 0],0,35⟩]:=⟨_,rfl⟩
 have b0:G0[H.length]? = some ⟨[.int .i64 w,.int .i64 h,u2,u3,u4,u5,u6,u7,u8,u9,.int .i64 tm],0,35⟩:=by rw [hG0];simp
 have bR:G0[H.length+1]? = some ⟨[.int .i64 0,.int .i64 0,.slice none 0 0,.slice none 0 0,.slice none 0 0,.slice none 0 0,.slice none 0 0,.slice none 0 0,.slice none 0 0,.slice none 0 0,.int .i64 0],0,35⟩:=by rw [hG0];simp
 have cH:Chg H G0 []:=by rw [hG0];exact Chg.app []
 have lH:H.length+2≤G0.length:=by rw [hG0];simp
 rw [← hG0]
 clear hG0
 have z1:dMesh.Ow G0 u2 (w,h,b):=Dt.chg0 y1 cH
 have z2:dClasses.Ow G0 (u3,u4) (A,B):=Dt.chg0 y2 cH
 have z3:dSS.Ow G0 (u5,h5) buf:=Dt.chg0 y3 cH
 have z4:dIntS.Ow G0 u6 own:=Dt.chg0 y4 cH
 have z5:dIntS.Ow G0 u7 turn:=Dt.chg0 y5 cH
 have z6:dSS.Ow G0 (u8,h8) src:=Dt.chg0 y6 cH
 have z7:dSS.Ow G0 (u9,h9) arr:=Dt.chg0 y7 cH
 clear y1 y2 y3 y4 y5 y6 y7
 simp [emps,empOp,empB,VM.look,b0,ones]
 refine Qc (Uz w h u2 b z1.1.rd.isI z1.2) ?_
 rintro _ G1 ⟨n1,rfl,o1,c1,m1,d1⟩
 have q1:=W7 o1
 have lt1:=dMesh.lt o1
 have lc1:=c1.1
 have b0:=Qa b0 c1 (by simp)
 have bR:=Qa bR c1 (by simp)
 have cH:=cH.trans c1
 have z2:=Dt.chg0 (T:=dClasses) z2 c1
 have z3:=Dt.chg0 (T:=dSS) z3 c1
 have z4:=Dt.chg0 (T:=dIntS) z4 c1
 have z5:=Dt.chg0 (T:=dIntS) z5 c1
 have z6:=Dt.chg0 (T:=dSS) z6 c1
 have z7:=Dt.chg0 (T:=dSS) z7 c1
 try simp [-Qo,Wz,VM.look,b0,ones]
 refine Qc (Ur u3 u4 A B z2.1.1.rd.isI z2.2.1.rd.isI z2.1.2 z2.2.2) ?_
 rintro _ G2 ⟨n2,rfl,o2,c2,m2,d2⟩
 have q2:=Q5 o2
 have lt2:=dClasses.lt o2
 have lc2:=c2.1
 have b0:=Qa b0 c2 (by simp)
 have bR:=Qa bR c2 (by simp)
 have cH:=cH.trans c2
 have z3:=Dt.chg0 (T:=dSS) z3 c2
 have z4:=Dt.chg0 (T:=dIntS) z4 c2
 have z5:=Dt.chg0 (T:=dIntS) z5 c2
 have z6:=Dt.chg0 (T:=dSS) z6 c2
 have z7:=Dt.chg0 (T:=dSS) z7 c2
 have o1:=Dt.chg0 (T:=dMesh) o1 c2
 try simp [-Qo,Wg,VM.look,b0,ones]
 refine Qc (Z9 u5 h5 buf z3.1.rd z3.2.1 z3.2.2) ?_
 rintro _ G3 ⟨n3,rfl,o3,c3,m3,d3⟩
 have q3:=Ui o3
 have lt3:=dSS.lt o3
 have lc3:=c3.1
 have b0:=Qa b0 c3 (by simp)
 have bR:=Qa bR c3 (by simp)
 have cH:=cH.trans c3
 have z4:=Dt.chg0 (T:=dIntS) z4 c3
 have z5:=Dt.chg0 (T:=dIntS) z5 c3
 have z6:=Dt.chg0 (T:=dSS) z6 c3
 have z7:=Dt.chg0 (T:=dSS) z7 c3
 have o1:=Dt.chg0 (T:=dMesh) o1 c3
 have o2:=Dt.chg0 (T:=dClasses) o2 c3
 try simp [-Qo,show dSS.val n3 buf=n3.1 from rfl,VM.look,b0,ones]
 obtain ⟨n4,L4,hap4,o4,m4⟩:=O2 (frz:=H.length) u6 own z4.1.rd z4.2
 have c4:Chg G3 (G3++L4) []:=Chg.app _
 have d4:=Qx n4
 have q4:=Yt o4
 simp [-Qo,hap4,VM.look]
 generalize G3++L4=G4 at *
 have lt4:=dIntS.lt o4
 have lc4:=c4.1
 have b0:=Qa b0 c4 (by simp)
 have bR:=Qa bR c4 (by simp)
 have cH:=cH.trans c4
 have z5:=Dt.chg0 (T:=dIntS) z5 c4
 have z6:=Dt.chg0 (T:=dSS) z6 c4
 have z7:=Dt.chg0 (T:=dSS) z7 c4
 have o1:=Dt.chg0 (T:=dMesh) o1 c4
 have o2:=Dt.chg0 (T:=dClasses) o2 c4
 have o3:=Dt.chg0 (T:=dSS) o3 c4
 try simp [-Qo,VM.look,b0,ones]
 obtain ⟨n5,L5,hap5,o5,m5⟩:=O2 (frz:=H.length) u7 turn z5.1.rd z5.2
 have c5:Chg G4 (G4++L5) []:=Chg.app _
 have d5:=Qx n5
 have q5:=Yt o5
 simp [-Qo,hap5,VM.look]
 generalize G4++L5=G5 at *
 have lt5:=dIntS.lt o5
 have lc5:=c5.1
 have b0:=Qa b0 c5 (by simp)
 have bR:=Qa bR c5 (by simp)
 have cH:=cH.trans c5
 have z6:=Dt.chg0 (T:=dSS) z6 c5
 have z7:=Dt.chg0 (T:=dSS) z7 c5
 have o1:=Dt.chg0 (T:=dMesh) o1 c5
 have o2:=Dt.chg0 (T:=dClasses) o2 c5
 have o3:=Dt.chg0 (T:=dSS) o3 c5
 have o4:=Dt.chg0 (T:=dIntS) o4 c5
 try simp [-Qo,VM.look,b0,ones]
 refine Qc (Z9 u8 h8 src z6.1.rd z6.2.1 z6.2.2) ?_
 rintro _ G6 ⟨n6,rfl,o6,c6,m6,d6⟩
 have q6:=Ui o6
 have lt6:=dSS.lt o6
 have lc6:=c6.1
 have b0:=Qa b0 c6 (by simp)
 have bR:=Qa bR c6 (by simp)
 have cH:=cH.trans c6
 have z7:=Dt.chg0 (T:=dSS) z7 c6
 have o1:=Dt.chg0 (T:=dMesh) o1 c6
 have o2:=Dt.chg0 (T:=dClasses) o2 c6
 have o3:=Dt.chg0 (T:=dSS) o3 c6
 have o4:=Dt.chg0 (T:=dIntS) o4 c6
 have o5:=Dt.chg0 (T:=dIntS) o5 c6
 try simp [-Qo,show dSS.val n6 src=n6.1 from rfl,VM.look,b0,ones]
 refine Qc (Z9 u9 h9 arr z7.1.rd z7.2.1 z7.2.2) ?_
 rintro _ G7 ⟨n7,rfl,o7,c7,m7,d7⟩
 have q7:=Ui o7
 have lt7:=dSS.lt o7
 have lc7:=c7.1
 have b0:=Qa b0 c7 (by simp)
 have bR:=Qa bR c7 (by simp)
 have cH:=cH.trans c7
 have o1:=Dt.chg0 (T:=dMesh) o1 c7
 have o2:=Dt.chg0 (T:=dClasses) o2 c7
 have o3:=Dt.chg0 (T:=dSS) o3 c7
 have o4:=Dt.chg0 (T:=dIntS) o4 c7
 have o5:=Dt.chg0 (T:=dIntS) o5 c7
 have o6:=Dt.chg0 (T:=dSS) o6 c7
 have gR:=Qh (r':=⟨[.int .i64 w,.int .i64 h,n1,n2.1,n2.2,n3.1,n4,n5,n6.1,n7.1,.int .i64 tm],0,35⟩) bR
 have eR:Chg G7 (G7.set (H.length+1) ⟨[.int .i64 w,.int .i64 h,n1,n2.1,n2.2,n3.1,n4,n5,n6.1,n7.1,.int .i64 tm],0,35⟩) [H.length+1]:=Qe _ _
 have o1:=Dt.chg (T:=dMesh) o1 eR (fun i hi hh=>by have:=m1 i hi;simp at hh;omega)
 have o2:=Dt.chg (T:=dClasses) o2 eR (fun i hi hh=>by have:=m2 i hi;simp at hh;omega)
 have o3:=Dt.chg (T:=dSS) o3 eR (fun i hi hh=>by have:=m3 i hi;simp at hh;omega)
 have o4:=Dt.chg (T:=dIntS) o4 eR (fun i hi hh=>by have:=m4 i hi;simp at hh;omega)
 have o5:=Dt.chg (T:=dIntS) o5 eR (fun i hi hh=>by have:=m5 i hi;simp at hh;omega)
 have o6:=Dt.chg (T:=dSS) o6 eR (fun i hi hh=>by have:=m6 i hi;simp at hh;omega)
 have o7:=Dt.chg (T:=dSS) o7 eR (fun i hi hh=>by have:=m7 i hi;simp at hh;omega)
 have cH:=cH.trans' eR (fun i hi=>.inr (by simp at hi;omega))
 simp [show dSS.val n7 arr=n7.1 from rfl,VM.look,b0,bR,gR,hF,q1,q2,q3,q4,q5,q6,q7]
 refine ⟨(n1,n2,n3,n4,n5,n6,n7,()),rfl,⟨o1,o2,o3,o4,o5,o6,o7,trivial⟩,cH,fun i hi=>?_,?_⟩
 ·rcases List.mem_append.1 hi with hi|hi
  ·have:=m1 i hi;omega
  rcases List.mem_append.1 hi with hi|hi
  ·have:=m2 i hi;omega
  rcases List.mem_append.1 hi with hi|hi
  ·have:=m3 i hi;omega
  rcases List.mem_append.1 hi with hi|hi
  ·have:=m4 i hi;omega
  rcases List.mem_append.1 hi with hi|hi
  ·have:=m5 i hi;omega
  rcases List.mem_append.1 hi with hi|hi
  ·have:=m6 i hi;omega
  rcases List.mem_append.1 hi with hi|hi
  ·have:=m7 i hi;omega
  ·simp [dNone] at hi
 ·have z7:(dSS.ids n7++[]).Nodup∧∀i∈dSS.ids n7++[],G6.length≤i:=⟨by simpa using d7,fun i hi=>by simp at hi;have:=m7 i hi;omega⟩
  have z6:(dSS.ids n6++(dSS.ids n7++[])).Nodup∧∀i∈dSS.ids n6++(dSS.ids n7++[]),G5.length≤i:=⟨Yq d6 z7.1 lt6 z7.2,fun i hi=>by rcases List.mem_append.1 hi with hi|hi;(have:=m6 i hi;omega);(have:=z7.2 i hi;omega)⟩
  have z5:(dIntS.ids n5++(dSS.ids n6++(dSS.ids n7++[]))).Nodup∧∀i∈dIntS.ids n5++(dSS.ids n6++(dSS.ids n7++[])),G4.length≤i:=⟨Yq d5 z6.1 lt5 z6.2,fun i hi=>by rcases List.mem_append.1 hi with hi|hi;(have:=m5 i hi;omega);(have:=z6.2 i hi;omega)⟩
  have z4:(dIntS.ids n4++(dIntS.ids n5++(dSS.ids n6++(dSS.ids n7++[])))).Nodup∧∀i∈dIntS.ids n4++(dIntS.ids n5++(dSS.ids n6++(dSS.ids n7++[]))),G3.length≤i:=⟨Yq d4 z5.1 lt4 z5.2,fun i hi=>by rcases List.mem_append.1 hi with hi|hi;(have:=m4 i hi;omega);(have:=z5.2 i hi;omega)⟩
  have z3:(dSS.ids n3++(dIntS.ids n4++(dIntS.ids n5++(dSS.ids n6++(dSS.ids n7++[]))))).Nodup∧∀i∈dSS.ids n3++(dIntS.ids n4++(dIntS.ids n5++(dSS.ids n6++(dSS.ids n7++[])))),G2.length≤i:=⟨Yq d3 z4.1 lt3 z4.2,fun i hi=>by rcases List.mem_append.1 hi with hi|hi;(have:=m3 i hi;omega);(have:=z4.2 i hi;omega)⟩
  have z2:(dClasses.ids n2++(dSS.ids n3++(dIntS.ids n4++(dIntS.ids n5++(dSS.ids n6++(dSS.ids n7++[])))))).Nodup∧∀i∈dClasses.ids n2++(dSS.ids n3++(dIntS.ids n4++(dIntS.ids n5++(dSS.ids n6++(dSS.ids n7++[]))))),G1.length≤i:=⟨Yq d2 z3.1 lt2 z3.2,fun i hi=>by rcases List.mem_append.1 hi with hi|hi;(have:=m2 i hi;omega);(have:=z3.2 i hi;omega)⟩
  exact Yq d1 z2.1 lt1 z2.2
def net0:NetD:=((0,0,[]),([],[]),[],[],[],[],[],0)
def netNew (m:MeshD) (t:ClassesD):NetD:=
 if classesOk m.1 m.2.1 m.2.2 t.1 t.2 then (m,t,List.replicate (10*(cnt m.1 m.2.1).toNat) [],List.replicate (10*(cnt m.1 m.2.1).toNat) (-1),List.replicate (5*(cnt m.1 m.2.1).toNat) 0,List.replicate (cnt m.1 m.2.1).toNat [],List.replicate (cnt m.1 m.2.1).toNat [],0) else net0
theorem emptyS {id n:Nat} (h:H[id]? = some ⟨List.replicate n (.slice none 0 0),0,82⟩) (hn:n≤2097152):dSS.Ow H (.slice (some ⟨id,0,some 0⟩) n 0,List.replicate n (.slice none 0 0)) (List.replicate n []):=by
 refine ⟨⟨.inr ⟨id,0,_,by simp,h,?_,by simp,rfl,?_⟩,by simp,fun j a xs ha hx=>?_⟩,by simpa using hn,fun xs hx=>?_⟩
 ·simp [cellsOf,Fl.val]
 ·simp [ones]
 ·rw [List.getElem?_replicate] at ha hx
  split at ha
  ·cases ha;rename_i hj;rw [if_pos hj] at hx;cases hx;exact .inl ⟨rfl,rfl⟩
  ·cases ha
 ·have:=List.eq_of_mem_replicate hx;subst this;simp
theorem zeroI {id n:Nat} (h:H[id]? = some ⟨List.replicate n (.int .i64 0),0,3⟩) (hn:n≤1073741824):dIntS.Ow H (.slice (some ⟨id,0,some 0⟩) n 0) (List.replicate n 0):=by
 refine ⟨.inr ⟨id,0,_,by simp,h,?_,by simp,rfl,?_⟩,by simpa using hn⟩
 ·rw [Q7];simp
 ·simp [ones]
theorem ssIds (id n m:Nat):dSS.ids (.slice (some ⟨id,0,some 0⟩) n 0,List.replicate m (.slice none 0 0))=[id]:=by
 show idsL _ _=_
 have:∀m,(List.replicate m (Value.slice none 0 0)).flatMap ids=[]:=fun m=>by
  induction m with
  | zero=>rfl
  | succ m ih=>rw [List.replicate_succ,List.flatMap_cons,ih];rfl
 unfold idsL;rw [this];rfl
def nV0:NetV:=(.slice none 0 0,(.slice none 0 0,.slice none 0 0),(.slice none 0 0,[]),.slice none 0 0,.slice none 0 0,(.slice none 0 0,[]),(.slice none 0 0,[]),())
theorem S4:dNet.ids nV0=[]:=by simp [nV0,dNet,dNet0,dAnd,dSS,dMesh,dClasses,dIntS,dTable,dFlat,dNone,idsL,ids]
theorem Gz (K:Heap):dNet.Ow K nV0 net0:=by
 have e1:dIntS.Ow K (.slice none 0 0) []:=⟨.inl ⟨rfl,rfl⟩,by simp⟩
 have e2:dSS.Ow K (.slice none 0 0,[]) []:=⟨⟨.inl ⟨rfl,rfl⟩,rfl,by simp⟩,by simp,by simp⟩
 exact ⟨e1,⟨e1,e1⟩,e2,e1,e1,e2,e2,trivial⟩
theorem Cc {K:Heap} (c:Chg H K []):dNet.Made H net0 (.agg #[.int .i64 0,.int .i64 0,.slice none 0 0,.slice none 0 0,.slice none 0 0,.slice none 0 0,.slice none 0 0,.slice none 0 0,.slice none 0 0,.slice none 0 0,.int .i64 0]) K:=
 ⟨nV0,rfl,Gz K,c,by rw [S4];simp,by rw [S4];simp⟩
theorem Es {vm:Value} {m:MeshD} {vc:Value×Value} {t:ClassesD} (om:dMesh.Ow H vm m) (oc:dClasses.Ow H vc t) :
 wp (vcall C frz 28 [dMesh.val vm m,dClasses.val vc t] H) (Made2 dNet H (netNew m t) (decide (classesOk m.1 m.2.1 m.2.2 t.1 t.2))):=by
 obtain ⟨w,h,b⟩:=m
 obtain ⟨A,B⟩:=t
 have onem:=W7 om
 have onec:=Q5 oc
 obtain ⟨u1,u2⟩:=vc
 rw [Wz,Wg]
 simp only at onem onec ⊢
 rw [Qb (fn:=Tryz.f28) Tryz.func28 rfl (by kernel_rfl) rfl]
 have ck:=fun F L=>N3 (frz:=F) (H:=H++L) w h vm u1 u2 b A B (Rd.isI om.1.rd.app) (Rd.isI oc.1.1.rd.app) (Rd.isI oc.2.1.rd.app) om.2
 simp [onem,onec,ck]
 by_cases g0:classesOk w h b A B
 rotate_left
 ·simp [g0]
  have e:netNew (w,h,b) (A,B)=net0:=if_neg g0
  rw [e]
  exact ⟨_,rfl,Cc (Chg.app _)⟩
 obtain ⟨N,hN⟩:∃N:Nat,cnt w h=N:=⟨(cnt w h).toNat,by have:=Qg w h;omega⟩
 have hNr:=Qg w h
 have eN:(cnt w h).toNat=N:=by rw [hN];simp
 simp [g0,Wa]
 obtain ⟨G0,hG0⟩:∃G,G=H++[⟨[.int .i64 w,.int .i64 h,vm],0,28⟩,⟨[u1,u2],0,32⟩,⟨[.int .i64 0,.int .i64 0,.slice none 0 0,.slice none 0 0,.slice none 0 0,.slice none 0 0,.slice none 0 0,.slice none 0 0,.slice none 0 0,.slice none 0 0,.int .i64 0],0,35⟩]:=⟨_,rfl⟩
 have b0:G0[H.length]? = some ⟨[.int .i64 w,.int .i64 h,vm],0,28⟩:=by rw [hG0];simp
 have b1:G0[H.length+1]? = some ⟨[u1,u2],0,32⟩:=by rw [hG0];simp
 have bR:G0[H.length+2]? = some ⟨[.int .i64 0,.int .i64 0,.slice none 0 0,.slice none 0 0,.slice none 0 0,.slice none 0 0,.slice none 0 0,.slice none 0 0,.slice none 0 0,.slice none 0 0,.int .i64 0],0,35⟩:=by rw [hG0];simp
 have cH:Chg H G0 []:=by rw [hG0];exact Chg.app []
 have lH:G0.length=H.length+3:=by rw [hG0];simp
 rw [← hG0]
 clear hG0
 rw [Qf (h:=by kernel_rfl)]
 simp [VM.look,b0,onem,hN]
 have om0:dMesh.Ow G0 vm (w,h,b):=Dt.chg0 om cH
 have oc0:dClasses.Ow G0 (u1,u2) (A,B):=Dt.chg0 oc cH
 refine Qc (D5 w h vm b om0.1.rd.isI om0.2) ?_
 rintro _ G1 ⟨n1,rfl,o1,c1,m1,d1⟩
 have oc1:=Dt.chg0 oc0 c1
 have b1:=Qa b1 c1 (by simp)
 have bR:=Qa bR c1 (by simp)
 have onen:=W7 o1
 simp [VM.look,b1,onec]
 refine Qc (Np u1 u2 A B oc1.1.1.rd.isI oc1.2.1.rd.isI oc1.1.2 oc1.2.2) ?_
 rintro _ G2 ⟨⟨n2,n3⟩,rfl,o2,c2,m2,d2⟩
 have lt1:=dMesh.lt o1
 have ltc:=dClasses.lt o2
 have o1:=Dt.chg0 o1 c2
 have bR:=Qa bR c2 (by simp)
 have onen2:=Q5 o2
 obtain ⟨K5,hK5⟩:∃K,K=5*N:=⟨_,rfl⟩
 obtain ⟨K10,hK10⟩:∃K,K=10*N:=⟨_,rfl⟩
 have e5:∀[Inhabited Unit],IntKind.i64.wrap (5*(N:Int))=(K5:Int):=by intro _;rw [w64 (by omega) (by omega)];omega
 have e10:∀[Inhabited Unit],IntKind.i64.wrap (10*(N:Int))=(K10:Int):=by intro _;rw [w64 (by omega) (by omega)];omega
 have hk5:(K5:Int)≤1073741824:=by omega
 have hk10:(K10:Int)≤1073741824:=by omega
 have hk1:(N:Int)≤1073741824:=by omega
 have cH2:Chg H G2 []:=(cH.trans c1).trans c2
 have l2:=cH2.1
 have l01:=c1.1
 have l12:=c2.1
 have hz:H.length≤G2.length+1:=by omega
 have hz4:H.length≤G2.length+4:=by omega
 simp [Wz,Wg,onen,onen2,e5,e10,hk5,hk10,hk1,hz,hz4]
 obtain ⟨G4,hG4⟩:∃G,G=G2++[⟨List.replicate K10 (.slice none 0 0),0,82⟩,⟨List.replicate K5 (.int .i64 0),0,3⟩,⟨List.replicate N (.slice none 0 0),0,82⟩,⟨List.replicate N (.slice none 0 0),0,82⟩,⟨[.int .i64 w,.int .i64 h,n1,n2,n3,.slice (some ⟨G2.length,0,some 0⟩) K10 0,.slice none 0 0,.slice (some ⟨G2.length+1,0,some 0⟩) K5 0,.slice (some ⟨G2.length+2,0,some 0⟩) N 0,.slice (some ⟨G2.length+3,0,some 0⟩) N 0,.int .i64 0],0,35⟩]:=⟨_,rfl⟩
 have e4:G2++[⟨List.replicate K10 (.slice none 0 0),0,82⟩,⟨List.replicate K5 (.int .i64 0),0,3⟩,⟨List.replicate N (.slice none 0 0),0,82⟩,⟨List.replicate N (.slice none 0 0),0,82⟩,⟨[.int .i64 w,.int .i64 h,n1,n2,n3,.slice (some ⟨G2.length,0,some 0⟩) K10 0,.slice none 0 0,.slice (some ⟨G2.length+1,0,some 0⟩) K5 0,.slice (some ⟨G2.length+2,0,some 0⟩) N 0,.slice (some ⟨G2.length+3,0,some 0⟩) N 0,.int .i64 0],0,35⟩]=G4:=hG4.symm
 rw [e4]
 have l4:G4.length=G2.length+5:=by rw [hG4];simp
 have c4:Chg G2 G4 []:=by rw [hG4];exact Chg.app _
 have bN:G4[G2.length+4]? = some ⟨[.int .i64 w,.int .i64 h,n1,n2,n3,.slice (some ⟨G2.length,0,some 0⟩) K10 0,.slice none 0 0,.slice (some ⟨G2.length+1,0,some 0⟩) K5 0,.slice (some ⟨G2.length+2,0,some 0⟩) N 0,.slice (some ⟨G2.length+3,0,some 0⟩) N 0,.int .i64 0],0,35⟩:=by rw [hG4];simp
 have bR:G4[H.length+2]? = some ⟨[.int .i64 0,.int .i64 0,.slice none 0 0,.slice none 0 0,.slice none 0 0,.slice none 0 0,.slice none 0 0,.slice none 0 0,.slice none 0 0,.slice none 0 0,.int .i64 0],0,35⟩:=Qa bR c4 (by simp)
 have o1:=Dt.chg0 o1 c4
 have o2:=Dt.chg0 o2 c4
 have y3:dSS.Ow G4 (.slice (some ⟨G2.length,0,some 0⟩) K10 0,List.replicate K10 (.slice none 0 0)) (List.replicate K10 []):=emptyS (by rw [hG4];simp) (by omega)
 have y5:dIntS.Ow G4 (.slice (some ⟨G2.length+1,0,some 0⟩) K5 0) (List.replicate K5 0):=zeroI (by rw [hG4];simp) (by omega)
 have y6:dSS.Ow G4 (.slice (some ⟨G2.length+2,0,some 0⟩) N 0,List.replicate N (.slice none 0 0)) (List.replicate N []):=emptyS (by rw [hG4];simp) (by omega)
 have y7:dSS.Ow G4 (.slice (some ⟨G2.length+3,0,some 0⟩) N 0,List.replicate N (.slice none 0 0)) (List.replicate N []):=emptyS (by rw [hG4];simp) (by omega)
 clear hG4 e4
 refine Qi (fun n t G=>∃(i:Nat) (own:Value),n=K10-i∧i≤K10∧t 4=.pointer (some ⟨H.length+2,0,some 0⟩)∧t 6=.int .i64 N∧t 7=.pointer (some ⟨G2.length+4,0,some 0⟩)∧t 8=.int .i64 i∧Chg G4 G [G2.length+4]∧G[G2.length+4]? = some ⟨[.int .i64 w,.int .i64 h,n1,n2,n3,.slice (some ⟨G2.length,0,some 0⟩) K10 0,own,.slice (some ⟨G2.length+1,0,some 0⟩) K5 0,.slice (some ⟨G2.length+2,0,some 0⟩) N 0,.slice (some ⟨G2.length+3,0,some 0⟩) N 0,.int .i64 0],0,35⟩∧Ow Fl.int 3 G own (List.replicate i (-1))∧(∀j∈ids own,G4.length≤j)) ?_ (n:=K10)
  ⟨0,.slice none 0 0,rfl,by omega,by simp,by simp,by simp,by simp,Chg.refl _,bN,.inl ⟨rfl,rfl⟩,by simp⟩
 rintro n t G ⟨i,own,rfl,hi,t4,t6,t7,t8,ch,bb,oo,no⟩ ih
 have hF:H.length≤G2.length+4:=by omega
 simp [t4,t6,t7,t8,e10]
 refine Qd ?_ ?_<;>intro g
 ·obtain ⟨r',H2,hap,ow,cw,nw⟩:=oo.push (P:=Tryz.prog) (frz:=H.length) (ty:=26) (a:=-1) (by simp) rfl (by simp;omega) (fun j hj=>by have:=no j hj;omega)
  simp only [Fl.int_f] at hap
  have hlt:=Qu bb
  have bb1:=fun r=>Qp bb [r]
  have bb2:=Qa bb cw (fun hh=>by have:=no _ hh;omega)
  have h9:VM.one r'=true:=ow.rd.one'
  have h10:r'.cells=#[r']:=ow.rd.cells
  simp [-Qo,-Qy,t4,t6,t7,t8,VM.look,bb,bb1,bb2,hap,hF,h9,h10]
  have gR:=Qh (r':=⟨[.int .i64 w,.int .i64 h,n1,n2,n3,.slice (some ⟨G2.length,0,some 0⟩) K10 0,r',.slice (some ⟨G2.length+1,0,some 0⟩) K5 0,.slice (some ⟨G2.length+2,0,some 0⟩) N 0,.slice (some ⟨G2.length+3,0,some 0⟩) N 0,.int .i64 0],0,35⟩) bb2
  refine ih (K10-(i+1)) _ _ ⟨i+1,r',rfl,by omega,by simp [t4],by simp [t6],by simp [t7],?_,?_,gR,?_,fun j hj=>?_⟩ (by omega)
  ·simp [t8];rw [w64 (by omega) (by omega)]
  ·exact (ch.trans' cw (fun j hj=>.inr (no j hj))).trans' (Qe _ _) (fun j hj=>.inl (by simpa using hj))
  ·rw [List.replicate_succ'];exact ow.chg (Qe _ _) (fun j hj hh=>by
    simp at hh;subst hh
    rcases nw _ hj with h1|h1
    ·have:=no _ h1;omega
    ·have:=ch.1;omega)
  ·rcases nw j hj with h1|h1
   ·exact no j h1
   ·have:=ch.1;omega
 ·have hiK:i=K10:=by omega
  rw [hiK] at oo
  have gR:=Qa bR ch (by simp;omega)
  have hne:H.length≤H.length+2:=by omega
  have on1:=Dt.chg (T:=dMesh) o1 ch (fun j hj hh=>by have:=lt1 j hj;simp at hh;omega)
  have on2:=Dt.chg (T:=dClasses) o2 ch (fun j hj hh=>by have:=ltc j hj;simp at hh;omega)
  have on3:=Dt.chg (T:=dSS) y3 ch (fun j hj hh=>by rw [ssIds] at hj;simp at hj hh;omega)
  have on5:=Dt.chg (T:=dIntS) y5 ch (fun j hj hh=>by simp [dIntS,dFlat] at hj hh;omega)
  have on6:=Dt.chg (T:=dSS) y6 ch (fun j hj hh=>by rw [ssIds] at hj;simp at hj hh;omega)
  have on7:=Dt.chg (T:=dSS) y7 ch (fun j hj hh=>by rw [ssIds] at hj;simp at hj hh;omega)
  have on4:dIntS.Ow G own (List.replicate K10 (-1)):=⟨oo,by simp;omega⟩
  have q4:=Yt on4
  have hio:ids own=[]∨∃x,ids own=[x]∧G4.length≤x:=by
   rcases oo with ⟨e,_⟩|⟨x,off,r,e,_⟩
   ·left;rw [e];rfl
   ·right;exact ⟨x,by rw [e];rfl,no x (by rw [e];simp [ids])⟩
  have gR2:=Qh (r':=⟨[.int .i64 w,.int .i64 h,n1,n2,n3,.slice (some ⟨G2.length,0,some 0⟩) K10 0,own,.slice (some ⟨G2.length+1,0,some 0⟩) K5 0,.slice (some ⟨G2.length+2,0,some 0⟩) N 0,.slice (some ⟨G2.length+3,0,some 0⟩) N 0,.int .i64 0],0,35⟩) gR
  have hF2:H.length≤H.length+2:=by omega
  simp [t4,t6,t7,t8,e10,VM.look,bb,gR,onen,onen2,q4,hF2,gR2]
  have eR:Chg G (G.set (H.length+2) ⟨[.int .i64 w,.int .i64 h,n1,n2,n3,.slice (some ⟨G2.length,0,some 0⟩) K10 0,own,.slice (some ⟨G2.length+1,0,some 0⟩) K5 0,.slice (some ⟨G2.length+2,0,some 0⟩) N 0,.slice (some ⟨G2.length+3,0,some 0⟩) N 0,.int .i64 0],0,35⟩) [H.length+2]:=Qe _ _
  have on1:=Dt.chg (T:=dMesh) on1 eR (fun j hj hh=>by have:=m1 j hj;simp at hh;omega)
  have on2:=Dt.chg (T:=dClasses) on2 eR (fun j hj hh=>by have:=m2 j hj;simp at hh;omega)
  have on3:=Dt.chg (T:=dSS) on3 eR (fun j hj hh=>by rw [ssIds] at hj;simp at hj hh;omega)
  have on4:=Dt.chg (T:=dIntS) on4 eR (fun j hj hh=>by have:=no j hj;simp at hh;omega)
  have on5:=Dt.chg (T:=dIntS) on5 eR (fun j hj hh=>by simp [dIntS,dFlat] at hj hh;omega)
  have on6:=Dt.chg (T:=dSS) on6 eR (fun j hj hh=>by rw [ssIds] at hj;simp at hj hh;omega)
  have on7:=Dt.chg (T:=dSS) on7 eR (fun j hj hh=>by rw [ssIds] at hj;simp at hj hh;omega)
  have e:netNew (w,h,b) (A,B)=((w,h,b),(A,B),List.replicate K10 [],List.replicate K10 (-1),List.replicate K5 0,List.replicate N [],List.replicate N [],0):=by
   unfold netNew;rw [if_pos g0];simp only [eN,hK5,hK10]
  have rest:∀l,dSS.ids (.slice (some ⟨G2.length,0,some 0⟩) K10 0,List.replicate K10 (.slice none 0 0))++(dIntS.ids own++(dIntS.ids (.slice (some ⟨G2.length+1,0,some 0⟩) K5 0)++(dSS.ids (.slice (some ⟨G2.length+2,0,some 0⟩) N 0,List.replicate N (.slice none 0 0))++(dSS.ids (.slice (some ⟨G2.length+3,0,some 0⟩) N 0,List.replicate N (.slice none 0 0))++[]))))=l→l.Nodup∧∀i∈l,G2.length≤i:=by
   intro l hl
   rw [ssIds,ssIds,ssIds,show dIntS.ids own=ids own from rfl] at hl
   rcases hio with hx|⟨x,hx,hx2⟩<;>rw [hx] at hl<;>simp [dIntS,dFlat] at hl<;>subst hl
   ·refine ⟨by simp,fun i hi=>?_⟩
    simp at hi;omega
   ·refine ⟨by simp;omega,fun i hi=>?_⟩
    simp at hi;omega
  obtain ⟨r1,r2⟩:=rest _ rfl
  refine ⟨_,rfl,(n1,(n2,n3),(.slice (some ⟨G2.length,0,some 0⟩) K10 0,List.replicate K10 (.slice none 0 0)),own,.slice (some ⟨G2.length+1,0,some 0⟩) K5 0,(.slice (some ⟨G2.length+2,0,some 0⟩) N 0,List.replicate N (.slice none 0 0)),(.slice (some ⟨G2.length+3,0,some 0⟩) N 0,List.replicate N (.slice none 0 0)),()),?_,?_,?_,fun i hi=>?_,?_⟩
  ·rw [e];rfl
  ·rw [e];exact ⟨on1,on2,on3,on4,on5,on6,on7,trivial⟩
  ·exact ((cH2.trans c4).trans' ch (fun j hj=>.inr (by simp at hj;omega))).trans' eR (fun j hj=>.inr (by simp at hj;omega))
  ·rcases List.mem_append.1 hi with hi|hi
   ·have:=m1 i hi;omega
   rcases List.mem_append.1 hi with hi|hi
   ·have:=m2 i hi;omega
   have:=r2 i hi;omega
  ·refine Yq d1 (Yq d2 r1 ltc r2) lt1 (fun i hi=>?_)
   rcases List.mem_append.1 hi with hi|hi
   ·exact m2 i hi
   ·have:=r2 i hi;omega
def alongP (x g:Int):Int:=if x<g then 1 else if g<x then 3 else -1
def acrossP (y g:Int):Int:=if y<g then 2 else if g<y then 0 else -1
def stdPort (w r a to:Int):Int:=
 if a=to then 4 else
 if acrossP (a/w) (to/w)<0∨(0≤alongP (a%w) (to%w)∧((if r=4 then 1+to%2 else r)=1∨((if r=4 then 1+to%2 else r)=3∧alongP (a%w) (to%w)=3))) then alongP (a%w) (to%w) else acrossP (a/w) (to/w)
def stdTab (w r:Int) (n:Nat):List Int:=(List.range (n*n)).map fun i=>stdPort w r (i/n:Nat) (i%n:Nat)
theorem U0 (w r:Int) (n:Nat):(stdTab w r n).length=n*n:=by simp [stdTab]
theorem F0 (x g:Int):vcall C frz 129 [.int .i64 x,.int .i64 g] H=some (.int .i64 (alongP x g),H):=by
 rw [Qb (fn:=Tryz.f129) Tryz.func129 rfl (by kernel_rfl) rfl]
 simp
 refine Qq _ ?_ ?_<;>intro h1<;>simp [h1,alongP]
 refine Qq _ ?_ ?_<;>intro h2<;>simp [h2]
theorem Lx (x g:Int):vcall C frz 130 [.int .i64 x,.int .i64 g] H=some (.int .i64 (acrossP x g),H):=by
 rw [Qb (fn:=Tryz.f130) Tryz.func130 rfl (by kernel_rfl) rfl]
 simp
 refine Qq _ ?_ ?_<;>intro h1<;>simp [h1,acrossP]
 refine Qq _ ?_ ?_<;>intro h2<;>simp [h2]
theorem Di (w h r a to:Int) (hr:1≤r∧r≤4) (ha:isN w h a) (hto:isN w h to) :
 vcall C frz 112 [.agg #[.int .i64 w,.int .i64 h],.int .i64 r,.int .i64 a,.int .i64 to] H=some (.int .i64 (stdPort w r a to),H):=by
 rw [Qb (fn:=Tryz.f112) Tryz.func112 rfl (by kernel_rfl) rfl]
 obtain ⟨hg,a0,_,a1⟩:=Yh ha
 obtain ⟨_,t0,_,t1⟩:=Yh hto
 have hw:=hg.1
 have hir:inR 1 r 4:=hr
 have wz:¬w=0:=by omega
 have e1:a.tmod w=a%w:=Int.tmod_eq_emod_of_nonneg a0
 have e2:to.tmod w=to%w:=Int.tmod_eq_emod_of_nonneg t0
 have e3:a.tdiv w=a/w:=Int.tdiv_eq_ediv_of_nonneg a0
 have e4:to.tdiv w=to/w:=Int.tdiv_eq_ediv_of_nonneg t0
 have e5:to.tmod 2=to%2:=Int.tmod_eq_emod_of_nonneg t0
 have d1:0≤a/w∧a/w≤a:=⟨Int.ediv_nonneg a0 (by omega),Int.ediv_le_self _ a0⟩
 have d2:0≤to/w∧to/w≤to:=⟨Int.ediv_nonneg t0 (by omega),Int.ediv_le_self _ t0⟩
 have f3:=@w6 (a/w) (by omega)
 have f4:=@w6 (to/w) (by omega)
 have f5:=@w6 (1+to%2) (by omega)
 simp [Wu,ha,hto,Ql,hir]
 refine Qq _ ?_ ?_<;>intro h4
 ·subst h4
  simp [e5,f5]
  rw [Qf (h:=by kernel_rfl)]
  simp [VM.look,wz,e1,e2,e3,e4,f3,f4,F0,Lx]
  refine Qq _ ?_ ?_<;>intro h5
  ·simp [h5,stdPort]
  ·have est:stdPort w 4 a to=if acrossP (a/w) (to/w)<0∨(0≤alongP (a%w) (to%w)∧(1+to%2=1∨(1+to%2=3∧alongP (a%w) (to%w)=3))) then alongP (a%w) (to%w) else acrossP (a/w) (to/w):=by simp [stdPort,h5]
   rw [est]
   generalize alongP (a%w) (to%w)=X
   generalize acrossP (a/w) (to/w)=Y
   generalize 1+to%2=R
   simp
   by_cases q1:Y<0
   ·simp [q1]
   ·by_cases q2:0≤X
    ·by_cases q3:R=1
     ·simp [q1,q2,q3]
     ·by_cases q4:R=3
      ·by_cases q5:X=3
       ·simp [q1,q2,q3,q4,q5]
       ·simp [q1,q2,q3,q4,q5]
      ·simp [q1,q2,q3,q4]
    ·simp [q1,q2]
 ·simp [h4]
  rw [Qf (h:=by kernel_rfl)]
  simp [VM.look,wz,e1,e2,e3,e4,f3,f4,F0,Lx]
  refine Qq _ ?_ ?_<;>intro h5
  ·simp [h5,stdPort]
  ·have est:stdPort w r a to=if acrossP (a/w) (to/w)<0∨(0≤alongP (a%w) (to%w)∧(r=1∨(r=3∧alongP (a%w) (to%w)=3))) then alongP (a%w) (to%w) else acrossP (a/w) (to/w):=by simp [stdPort,h4,h5]
   rw [est]
   generalize alongP (a%w) (to%w)=X
   generalize acrossP (a/w) (to/w)=Y
   simp
   by_cases q1:Y<0
   ·simp [q1]
   ·by_cases q2:0≤X
    ·by_cases q3:r=1
     ·simp [q1,q2,q3]
     ·by_cases q4:r=3
      ·by_cases q5:X=3
       ·simp [q1,q2,q3,q4,q5]
       ·simp [q1,q2,q3,q4,q5]
      ·simp [q1,q2,q3,q4]
    ·simp [q1,q2]
theorem Pe (w h r:Int) (n:Nat) (hr:1≤r∧r≤4) (hg:okG w h) (hn:cnt w h=n) :
 wp (vcall C frz 91 [.agg #[.int .i64 w,.int .i64 h],.int .i64 r] H) (Made2 dTable H (stdTab w r n) true):=by
 rw [Qb (fn:=Tryz.f91) Tryz.func91 rfl (by kernel_rfl) rfl]
 have hc:=Qg w h
 have hir:inR 1 r 4:=hr
 have hn2:n*n≤256:=Nat.mul_le_mul (show n≤16 by omega) (show n≤16 by omega)
 simp [Vk,hg,Ql,hir,Wd,hn]
 refine Qi (fun m t H'=>∃(i:Nat) (vo:Value) (o:List Int),m=n-i∧i≤n∧o=(List.range (i*n)).map (fun i=>stdPort w r (i/n:Nat) (i%n:Nat))∧
  t 1=.int .i64 r∧t 2=.pointer (some ⟨H.length,0,some 0⟩)∧t 4=.pointer (some ⟨H.length+1,0,some 0⟩)∧t 6=.pointer (some ⟨H.length+2,0,some 0⟩)∧t 20=.int .i64 n∧t 21=.int .i64 i∧
  Chg H H' []∧H'[H.length]? = some ⟨[.int .i64 w,.int .i64 h],0,25⟩∧H'[H.length+1]? = some ⟨[.slice none 0 0],0,30⟩∧H'[H.length+2]? = some ⟨[vo],0,30⟩∧
  Ow Fl.int 3 H' vo o∧(∀i∈ids vo,H.length+2<i)) ?_ (n:=n) ⟨0,.slice none 0 0,[],by simp,by omega,by simp,by simp,by simp,by simp,by simp,by simp,by simp,Chg.app _,by simp,by simp,by simp,.inl ⟨rfl,rfl⟩,by simp⟩
 rintro m t H' ⟨i,vo,o,rfl,hi,ho,h1,h2,h4,h6,h20,h21,c0,b2,b4,b6,oo,no⟩ ih
 simp [h1,h2,h4,h6,h20,h21]
 refine Qd ?_ ?_<;>intro hin
 ·have hin':i<n:=by omega
  simp [h1,h2,h4,h6,h20,h21,VM.look,b2,Wd,hn]
  refine Qi (fun m t H'=>∃(j:Nat) (vo:Value) (o:List Int),m=n-j∧j≤n∧o=(List.range (i*n+j)).map (fun i=>stdPort w r (i/n:Nat) (i%n:Nat))∧
   t 1=.int .i64 r∧t 2=.pointer (some ⟨H.length,0,some 0⟩)∧t 4=.pointer (some ⟨H.length+1,0,some 0⟩)∧t 6=.pointer (some ⟨H.length+2,0,some 0⟩)∧t 20=.int .i64 n∧t 21=.int .i64 i∧
   t 7=.int .i64 i∧t 25=.int .i64 n∧t 26=.int .i64 j∧
   Chg H H' []∧H'[H.length]? = some ⟨[.int .i64 w,.int .i64 h],0,25⟩∧H'[H.length+1]? = some ⟨[.slice none 0 0],0,30⟩∧H'[H.length+2]? = some ⟨[vo],0,30⟩∧
   Ow Fl.int 3 H' vo o∧(∀i∈ids vo,H.length+2<i)) ?_ (n:=n) ⟨0,vo,o,by simp,by omega,by simpa using ho,by simp [h1],by simp [h2],by simp [h4],by simp [h6],by simp [h20],by simp [h21],by simp,by simp,by simp,c0,b2,b4,b6,oo,no⟩
  clear h1 h2 h4 h6 h20 h21 c0 b2 b4 b6 oo no ho
  rintro m t H' ⟨j,vo,o,rfl,hj,ho,h1,h2,h4,h6,h20,h21,h7,h25,h26,c0,b2,b4,b6,oo,no⟩ ih2
  simp [h1,h2,h4,h6,h20,h21,h7,h25,h26]
  refine Qd ?_ ?_<;>intro hjn
  ·have hjn':j<n:=by omega
   have hol:o.length=i*n+j:=by rw [ho];simp
   have hsm:i*n+j<n*n:=by
    have:=Nat.mul_le_mul_right n (show i+1≤n by omega)
    rw [Nat.succ_mul] at this;omega
   have hdv:(i*n+j)/n=i:=by rw [Nat.mul_comm,Nat.mul_add_div (by omega),Nat.div_eq_of_lt hjn'];omega
   have hmd:(i*n+j)%n=j:=by rw [Nat.mul_comm,Nat.mul_add_mod,Nat.mod_eq_of_lt hjn']
   have sp:=fun F L=>Di (frz:=F) (H:=L) w h r i j hr ⟨by omega,by omega⟩ ⟨by omega,by omega⟩
   have hx:stdPort w r ((i*n+j)/n:Nat) ((i*n+j)%n:Nat)=stdPort w r i j:=by rw [hdv,hmd]
   simp [h1,h2,h4,h6,h20,h21,h7,h25,h26]
   rw [Qf (h:=by kernel_rfl)]
   obtain ⟨vo',H3,e3,oo3,c3,n3⟩:=oo.push (P:=Tryz.prog) (frz:=H.length) (ty:=26) (a:=stdPort w r i j) (by simp) rfl (by omega) (fun i hi=>by have:=no i hi;omega)
   simp only [Fl.int_f] at e3
   have lc:=Qu b6
   have b2':=Qa b2 c3 (fun hh=>by have:=no _ hh;omega)
   have b4':=Qa b4 c3 (fun hh=>by have:=no _ hh;omega)
   have b6':=Qa b6 c3 (fun hh=>by have:=no _ hh;omega)
   have no3:∀i∈ids vo',H.length+2<i:=fun i hi=>by rcases n3 i hi with h|h;exact no i h;omega
   have one:=And.intro oo.rd.one' oo.rd.cells
   have one3:=And.intro oo3.rd.one' oo3.rd.cells
   have hF:H.length≤H.length+2:=by omega
   simp [VM.look,b2,b6,sp,one,e3,b6',one3,h1,h2,h4,h6,h20,h21,h7,h25,h26]
   refine ih2 (n-(j+1)) _ _ ⟨j+1,vo',o++[stdPort w r i j],rfl,by omega,?_,by simp [h1],by simp [h2],by simp [h4],by simp [h6],by simp [h20],by simp [h21],by simp [h7],by simp [h25],?_,
    (c0.trans' c3 (fun i hi=>.inr (by have:=no i hi;omega))).trans' (Qe _ _) (fun i hi=>.inr (by simp at hi;omega)),Qa b2' (Qe _ _) (by simp),Qa b4' (Qe _ _) (by simp),Qh b6',
    oo3.chg (Qe _ _) (fun i hi hh=>by have:=no3 i hi;simp at hh;omega),no3⟩ (by omega)
   ·rw [← Nat.add_assoc,List.range_succ,List.map_append,← ho];simp only [List.map_cons,List.map_nil,hdv,hmd]
   ·simp;rw [w64 (by omega) (by omega)]
  ·have:j=n:=by omega
   subst this
   simp [h1,h2,h4,h6,h20,h21,h7,h25,h26]
   refine ih (j-(i+1)) _ _ ⟨i+1,vo,o,rfl,by omega,by rw [Nat.succ_mul];exact ho,by simp [h1],by simp [h2],by simp [h4],by simp [h6],by simp [h20],?_,c0,b2,b4,b6,oo,no⟩ (by omega)
   simp;rw [w64 (by omega) (by omega)]
 ·have:i=n:=by omega
  subst this
  have lc:=Qu b6
  have one:=And.intro oo.rd.one' oo.rd.cells
  have g4:=Qh (r':=⟨[vo],0,30⟩) b4
  have hol:o.length=i*i:=by rw [ho];simp
  have hF:H.length≤H.length+1:=by omega
  simp [h1,h2,h4,h6,h20,h21,VM.look,b6,b4,one,g4,hF]
  exact ⟨.agg #[vo],rfl,vo,rfl,⟨(by rw [show stdTab w r i=o from ho.symm];exact oo.chg (Qe _ _) (fun i hi hh=>by have:=no i hi;simp at hh;omega)),by rw [U0];omega⟩,c0.trans' (Qe _ _) (fun i hi=>.inr (by simp at hi;omega)),fun i hi=>by have:=no i hi;omega,Qx vo⟩
theorem wt (w r a to:Int) (hw:1≤w) (ha:0≤a) (ht:0≤to) (hne:a≠to) (R:Int) (hR:R=if r=4 then 1+to%2 else r) :
 stdPort w r a to=(if (if R=2 then a/w=to/w else if R=3 then to%w<a%w∨a/w=to/w else a%w≠to%w) then (if to%w<a%w then 3 else 1) else (if to/w<a/w then 0 else 2))∨¬(1≤R∧R≤3):=by
 have h1:=Int.emod_add_mul_ediv a w
 have h2:=Int.emod_add_mul_ediv to w
 have h3:¬(a%w=to%w∧a/w=to/w):=fun ⟨e1,e2⟩=>hne (by rw [← h1,← h2,e1,e2])
 unfold stdPort
 rw [if_neg hne,← hR]
 generalize a%w=X at *
 generalize to%w=U at *
 generalize a/w=Y at *
 generalize to/w=V at *
 by_cases hr:1≤R∧R≤3
 rotate_left
 ·exact .inr hr
 left
 unfold alongP acrossP
 obtain rfl|rfl|rfl:R=1∨R=2∨R=3:=by omega
 all_goals simp
 all_goals (repeat' split)<;>first|rfl|omega
theorem Wh (x g:Int):vcall C frz 99 [.int .i64 x,.int .i64 g] H=some (.int .i64 (if g<x then 3 else 1),H):=by
 rw [Qb (fn:=Tryz.f99) Tryz.func99 rfl (by kernel_rfl) rfl]
 simp
 refine Qq _ ?_ ?_<;>intro h1<;>simp [h1]
theorem W2 (x g:Int):vcall C frz 100 [.int .i64 x,.int .i64 g] H=some (.int .i64 (if g<x then 0 else 2),H):=by
 rw [Qb (fn:=Tryz.f100) Tryz.func100 rfl (by kernel_rfl) rfl]
 simp
 refine Qq _ ?_ ?_<;>intro h1<;>simp [h1]
theorem Do (w h r a to:Int) (hr:1≤r∧r≤4) (ha:isN w h a) (hto:isN w h to) :
 vcall C frz 78 [.agg #[.int .i64 w,.int .i64 h],.int .i64 r,.int .i64 a,.int .i64 to] H=some (.int .i64 (stdPort w r a to),H):=by
 rw [Qb (fn:=Tryz.f78) Tryz.func78 rfl (by kernel_rfl) rfl]
 obtain ⟨hg,a0,_,a1⟩:=Yh ha
 obtain ⟨_,t0,_,t1⟩:=Yh hto
 have hw:=hg.1
 have wz:¬w=0:=by omega
 have e1:a.tmod w=a%w:=Int.tmod_eq_emod_of_nonneg a0
 have e2:to.tmod w=to%w:=Int.tmod_eq_emod_of_nonneg t0
 have e3:a.tdiv w=a/w:=Int.tdiv_eq_ediv_of_nonneg a0
 have e4:to.tdiv w=to/w:=Int.tdiv_eq_ediv_of_nonneg t0
 have e5:to.tmod 2=to%2:=Int.tmod_eq_emod_of_nonneg t0
 have d1:0≤a/w∧a/w≤a:=⟨Int.ediv_nonneg a0 (by omega),Int.ediv_le_self _ a0⟩
 have d2:0≤to/w∧to/w≤to:=⟨Int.ediv_nonneg t0 (by omega),Int.ediv_le_self _ t0⟩
 have f3:=@w6 (a/w) (by omega)
 have f4:=@w6 (to/w) (by omega)
 have f5:=@w6 (1+to%2) (by omega)
 have key:a≠to→∀R,(R=if r=4 then 1+to%2 else r)→1≤R→R≤3→stdPort w r a to=if (if R=2 then a/w=to/w else if R=3 then to%w<a%w∨a/w=to/w else a%w≠to%w) then (if to%w<a%w then 3 else 1) else (if to/w<a/w then 0 else 2):=fun hne R hR r1 r2=>by
  rcases wt w r a to hw.1 a0 t0 hne R hR with h|h
  ·exact h
  ·exact absurd ⟨r1,r2⟩ h
 simp [VM.look,wz,e1,e2,e3,e4,f3,f4]
 by_cases h4:a=to
 ·subst h4;simp [stdPort]
 have key:=key h4
 clear e1 e2 e3 e4 f3 f4
 generalize a%w=X at *
 generalize to%w=U at *
 generalize a/w=Y at *
 generalize to/w=V at *
 generalize stdPort w r a to=Z at *
 simp [h4]
 have k1:∀[Inhabited Unit],IntKind.i64.wrap 1=1:=by intro _;exact w64 (by omega) (by omega)
 have k2:∀[Inhabited Unit],IntKind.i64.wrap 2=2:=by intro _;exact w64 (by omega) (by omega)
 by_cases r4:r=4
 ·have key:=key _ (if_pos r4).symm (by omega) (by omega)
  have m2:to%2=0∨to%2=1:=by omega
  rcases m2 with m2|m2<;>simp only [m2] at key f5
  ·simp [r4,e5,m2,f5,Wh,W2,k1,k2]
   by_cases h5:X=U<;>simp [h5] at key<;>simp [h5,key,Wh,W2,k1,k2]
  ·simp [r4,e5,m2,f5,Wh,W2,k1,k2]
   by_cases h5:Y=V<;>simp [h5] at key<;>simp [h5,key,Wh,W2,k1,k2]
 ·have key:=key _ (if_neg r4).symm (by omega) (by omega)
  obtain rfl|rfl|rfl:r=1∨r=2∨r=3:=by omega
  ·simp [Wh,W2,k1,k2]
   by_cases h5:X=U<;>simp [h5] at key<;>simp [h5,key,Wh,W2,k1,k2]
  ·simp [Wh,W2,k1,k2]
   by_cases h5:Y=V<;>simp [h5] at key<;>simp [h5,key,Wh,W2,k1,k2]
  ·simp [Wh,W2,k1,k2]
   by_cases h5:U<X
   ·simp [h5] at key;simp [h5,key,Wh,W2,k1,k2]
   ·by_cases h6:Y=V<;>simp [h5,h6] at key<;>simp [h5,h6,key,Wh,W2,k1,k2]
end Go.Proofs.YtdhjhjbfplajfaaGreat.V
set_option linter.all false
namespace Go.Proofs.YtdhjhjbfplajfaaGreat.V
open Go Go.VM Go.Proofs
set_option maxRecDepth 100000
abbrev rPort (r w a to:Int):Int:=stdPort w r a to
def walkR (r w h to:Int):Nat→Int→List Int→List Int
 | 0,a,out=>if rPort r w a to=4 then (if a=to then out else []) else []
 | f+1,a,out=>if rPort r w a to=4 then (if a=to then out else []) else
  if inR 0 (rPort r w a to) 3∧leads w h (4*a+rPort r w a to) then walkR r w h to f (next w h a (rPort r w a to)) (out++[4*a+rPort r w a to]) else []
theorem Rk {r w h a to:Int} {n:Nat} (hn:cnt w h=n) (ha:isN w h a) (hto:isN w h to):portOf w h (stdTab w r n) a to=rPort r w a to:=by
 obtain ⟨i,rfl⟩:=Int.eq_ofNat_of_zero_le ha.1
 obtain ⟨j,rfl⟩:=Int.eq_ofNat_of_zero_le hto.1
 have h1:=ha.2
 have h2:=hto.2
 unfold portOf rd
 have hj:j<n:=by omega
 have hi:i<n:=by omega
 have hsm:i*n+j<n*n:=by
  have:=Nat.mul_le_mul_right n (show i+1≤n by omega)
  rw [Nat.succ_mul] at this;omega
 have hdv:(i*n+j)/n=i:=by rw [Nat.mul_comm,Nat.mul_add_div (by omega),Nat.div_eq_of_lt hj];omega
 have hmd:(i*n+j)%n=j:=by rw [Nat.mul_comm,Nat.mul_add_mod,Nat.mod_eq_of_lt hj]
 rw [hn,show ((i:Int)*(n:Int)+(j:Int)).toNat=i*n+j by rw [← Int.natCast_mul,← Int.natCast_add];rfl]
 rw [stdTab,List.getD_eq_getElem?_getD,List.getElem?_map,List.getElem?_range hsm]
 simp only [Option.map_some,Option.getD_some,hdv,hmd]
theorem Fk {r w h to:Int} {n:Nat} (hn:cnt w h=n) (hg:okG w h) (hto:isN w h to):∀f a out,isN w h a→walkN w h [] (stdTab w r n) to f a out=walkR r w h to f a out
 | 0,a,out,ha=>by simp only [walkN,walkR,Rk hn ha hto]
 | f+1,a,out,ha=>by
  simp only [walkN,walkR,Rk hn ha hto,stepOk]
  have e:(inR 0 (rPort r w a to) 3∧has w h [] (4*a+rPort r w a to))↔(inR 0 (rPort r w a to) 3∧leads w h (4*a+rPort r w a to)):=by simp [has]
  by_cases h1:rPort r w a to=4
  ·simp [h1]
  ·simp only [h1,if_false]
   by_cases h2:inR 0 (rPort r w a to) 3∧leads w h (4*a+rPort r w a to)
   ·rw [if_pos (e.2 h2),if_pos h2]
    obtain ⟨h3,h4⟩:=e.2 h2
    exact Fk hn hg hto f _ _ (Ye h3 h4).2.2
   ·rw [if_neg (fun k=>h2 (e.1 k)),if_neg h2]
def wkR (r w h:Int) (n:Nat) (a to:Int):List Int:=walkR r w h to n a []
theorem yq {r w h a to:Int} {n:Nat} (hn:cnt w h=n) (hg:okG w h) (ha:isN w h a) (hto:isN w h to):walk w h [] (stdTab w r n) a to=wkR r w h n a to:=by
 unfold walk wkR
 rw [Fk hn hg hto _ _ _ ha,hn];rfl
def chkR1 (r w h:Int) (n:Nat) (a to:Int):Bool:=decide (a=to) || !(wkR r w h n a to).isEmpty
def chkR (r w h n:Nat):Bool:=(List.range n).all fun a=>(List.range n).all fun to=>chkR1 r w h n a to
theorem Cl:((List.range 4).all fun r=>(List.range 4).all fun w=>(List.range 4).all fun h=>chkR (r+1) (w+1) (h+1) ((w+1)*(h+1)))=true:=by kernel_rfl
theorem A7 {r w h a to:Int} {n:Nat} (hr:1≤r∧r≤4) (hg:okG w h) (hn:cnt w h=n) (ha:isN w h a) (hto:isN w h to):chkR1 r w h n a to=true:=by
 obtain ⟨⟨w0,w1⟩,h0,h1⟩:=hg
 obtain ⟨i,hi⟩:∃i:Nat,w=((i+1:Nat):Int):=⟨(w-1).toNat,by omega⟩
 obtain ⟨j,hj⟩:∃j:Nat,h=((j+1:Nat):Int):=⟨(h-1).toNat,by omega⟩
 obtain ⟨q,hq⟩:∃j:Nat,r=((j+1:Nat):Int):=⟨(r-1).toNat,by omega⟩
 obtain ⟨k,rfl⟩:=Int.eq_ofNat_of_zero_le ha.1
 obtain ⟨l,rfl⟩:=Int.eq_ofNat_of_zero_le hto.1
 have e9:=Cl
 rw [List.all_eq_true] at e9
 have e0:=e9 q (List.mem_range.2 (by omega))
 rw [List.all_eq_true] at e0
 have e1:=e0 i (List.mem_range.2 (by omega))
 rw [List.all_eq_true] at e1
 have e2:=e1 j (List.mem_range.2 (by omega))
 have hk:=ha.2
 have hl:=hto.2
 have hnn:n=(i+1)*(j+1):=by
  rw [cnt,if_pos ⟨⟨w0,w1⟩,h0,h1⟩,hi,hj,← Int.natCast_mul] at hn;omega
 rw [chkR,List.all_eq_true] at e2
 have e3:=e2 k (List.mem_range.2 (by omega))
 rw [List.all_eq_true] at e3
 have e4:=e3 l (List.mem_range.2 (by omega))
 rw [hi,hj,hq,hnn];exact e4
theorem Cw {r w h:Int} {n:Nat} (hr:1≤r∧r≤4) (hg:okG w h) (hn:cnt w h=n):tableOk w h [] (stdTab w r n):=by
 refine ⟨⟨⟨by simp,hg⟩,by rw [U0,hn,Int.natCast_mul]⟩,fun a ha c hc=>⟨fun e=>?_,fun e=>?_⟩⟩
 ·subst e
  rw [Rk hn (Wr ha) (Wr ha)];simp [stdPort]
 ·rw [yq hn hg (Wr ha) (Wr hc)]
  have c:=A7 hr hg hn (Wr ha) (Wr hc)
  rw [chkR1] at c
  simp at c
  rcases c with c|c
  ·omega
  ·exact c
end Go.Proofs.YtdhjhjbfplajfaaGreat.V
set_option linter.all false
namespace Go.Proofs.YtdhjhjbfplajfaaGreat.V
open Go Go.VM Go.Proofs
set_option maxRecDepth 10000
variable {frz:Nat} {H:Heap}
theorem Ed (w h r:Int) (n:Nat) (hr:1≤r∧r≤4) (hg:okG w h) (hn:cnt w h=n) :
 wp (vcall C frz 54 [.agg #[.int .i64 w,.int .i64 h],.int .i64 r] H) (dTable.Made H (stdTab w r n)):=by
 rw [Qb (fn:=Tryz.f54) Tryz.func54 rfl (by kernel_rfl) rfl]
 have hc:=Qg w h
 have hn2:n*n≤256:=Nat.mul_le_mul (show n≤16 by omega) (show n≤16 by omega)
 have hn2':(n:Int)*(n:Int)≤256:=by
  have:((n*n:Nat):Int)≤256:=by omega
  rwa [Int.natCast_mul] at this
 obtain ⟨M,hM⟩:∃M:Nat,M=n*n:=⟨_,rfl⟩
 have eM:∀[Inhabited Unit],IntKind.i64.wrap ((n:Int)*n)=(M:Int):=by intro _;rw [hM,Int.natCast_mul];exact w64 (by have:=Int.natCast_nonneg (n*n);rw [Int.natCast_mul] at this;omega) (by omega)
 simp [Wa,hn]
 refine Qi (fun m t H'=>∃(i:Nat) (vo:Value) (o:List Int),m=M-i∧i≤M∧o=(List.range i).map (fun i=>stdPort w r (i/n:Nat) (i%n:Nat))∧
  t 1=.int .i64 r∧t 2=.pointer (some ⟨H.length,0,some 0⟩)∧t 4=.pointer (some ⟨H.length+1,0,some 0⟩)∧t 5=.pointer (some ⟨H.length+2,0,some 0⟩)∧t 6=.int .i64 n∧t 7=.int .i64 i∧
  Chg H H' []∧H'[H.length]? = some ⟨[.int .i64 w,.int .i64 h],0,25⟩∧H'[H.length+1]? = some ⟨[.slice none 0 0],0,30⟩∧H'[H.length+2]? = some ⟨[vo],0,30⟩∧
  Ow Fl.int 3 H' vo o∧(∀i∈ids vo,H.length+2<i)) ?_ (n:=M) ⟨0,.slice none 0 0,[],by simp,by omega,by simp,by simp,by simp,by simp,by simp,by simp,by simp,Chg.app _,by simp,by simp,by simp,.inl ⟨rfl,rfl⟩,by simp⟩
 rintro m t H' ⟨i,vo,o,rfl,hi,ho,h1,h2,h4,h5,h6,h7,c0,b2,b4,b6,oo,no⟩ ih
 simp [h1,h2,h4,h5,h6,h7,eM]
 refine Qd ?_ ?_<;>intro hin
 ·have hin':i<M:=by omega
  have hn0:0<n:=by
   rcases Nat.eq_zero_or_pos n with h0|h0
   ·rw [h0] at hM;omega
   ·exact h0
  have hol:o.length=i:=by rw [ho];simp
  have q1:i/n<n:=by rw [Nat.div_lt_iff_lt_mul hn0];omega
  have q2:i%n<n:=Nat.mod_lt _ hn0
  have d1:∀[Inhabited Unit],IntKind.i64.wrap ((i:Int)/(n:Int))=((i/n:Nat):Int):=by intro _;rw [← Int.natCast_ediv];exact w64 (by have:=Int.natCast_nonneg (i/n);omega) (by have:=Int.ofNat_lt.2 q1;omega)
  have d2:(i:Int).tmod n=((i%n:Nat):Int):=by rw [Int.tmod_eq_emod_of_nonneg (by omega)];rfl
  have d3:(i:Int).tdiv n=(i:Int)/n:=Int.tdiv_eq_ediv_of_nonneg (by omega)
  have nz:¬(n:Int)=0:=by omega
  have nz':¬n=0:=by omega
  have sp:=fun F=>Do (frz:=F) (H:=H') w h r ((i/n:Nat):Int) ((i%n:Nat):Int) hr ⟨Int.natCast_nonneg _,by rw [hn];exact Int.ofNat_lt.2 q1⟩ ⟨Int.natCast_nonneg _,by rw [hn];exact Int.ofNat_lt.2 q2⟩
  obtain ⟨X,hX⟩:∃X,X=((i/n:Nat):Int):=⟨_,rfl⟩
  obtain ⟨Y,hY⟩:∃Y,Y=((i%n:Nat):Int):=⟨_,rfl⟩
  rw [← hX] at d1
  rw [← hY] at d2
  rw [← hX,← hY] at sp
  simp
  rw [Qf (h:=by kernel_rfl)]
  obtain ⟨vo',H3,e3,oo3,c3,n3⟩:=oo.push (P:=Tryz.prog) (frz:=H.length) (ty:=26) (a:=stdPort w r X Y) (by simp) rfl (by omega) (fun i hi=>by have:=no i hi;omega)
  simp only [Fl.int_f] at e3
  have lc:=Qu b6
  have b2':=Qa b2 c3 (fun hh=>by have:=no _ hh;omega)
  have b4':=Qa b4 c3 (fun hh=>by have:=no _ hh;omega)
  have b6':=Qa b6 c3 (fun hh=>by have:=no _ hh;omega)
  have no3:∀i∈ids vo',H.length+2<i:=fun i hi=>by rcases n3 i hi with h|h;exact no i h;omega
  have one:=And.intro oo.rd.one' oo.rd.cells
  have one3:=And.intro oo3.rd.one' oo3.rd.cells
  have hF:H.length≤H.length+2:=by omega
  simp [-Qo,-Qy,VM.look,b2,b6,sp,one,e3,b6',one3,h1,h2,h4,h5,h6,h7,d1,d2,d3,nz,nz',hF]
  refine ih (M-(i+1)) _ _ ⟨i+1,vo',o++[stdPort w r X Y],rfl,by omega,?_,by simp [h1],by simp [h2],by simp [h4],by simp [h5],by simp [h6],?_,
   (c0.trans' c3 (fun i hi=>.inr (by have:=no i hi;omega))).trans' (Qe _ _) (fun i hi=>.inr (by simp at hi;omega)),Qa b2' (Qe _ _) (by simp),Qa b4' (Qe _ _) (by simp),Qh b6',
   oo3.chg (Qe _ _) (fun i hi hh=>by have:=no3 i hi;simp at hh;omega),no3⟩ (by omega)
  ·rw [List.range_succ,List.map_append,← ho];simp only [List.map_cons,List.map_nil,hX,hY]
  ·simp [h7];rw [w64 (by omega) (by omega)]
 ·have:i=M:=by omega
  subst this
  have lc:=Qu b6
  have one:=And.intro oo.rd.one' oo.rd.cells
  have g4:=Qh (r':=⟨[vo],0,30⟩) b4
  have hol:o.length=i:=by rw [ho];simp
  have hF:H.length≤H.length+1:=by omega
  simp [h1,h2,h4,h5,h6,h7,VM.look,b6,b4,one,g4,hF]
  exact ⟨vo,rfl,⟨(by rw [show stdTab w r n=o from by rw [ho,hM];rfl];exact oo.chg (Qe _ _) (fun i hi hh=>by have:=no i hi;simp at hh;omega)),by rw [U0];omega⟩,c0.trans' (Qe _ _) (fun i hi=>.inr (by simp at hi;omega)),fun i hi=>by have:=no i hi;omega,Qx vo⟩
def splitT (w h:Int):ClassesD:=if okG w h then (stdTab w 1 (cnt w h).toNat,stdTab w 2 (cnt w h).toNat) else ([],[])
theorem Bd (w h:Int) :
 wp (vcall C frz 27 [.agg #[.int .i64 w,.int .i64 h]] H) (Made2 dClasses H (splitT w h) (decide (okG w h))):=by
 rw [Qb (fn:=Tryz.f27) Tryz.func27 rfl (by kernel_rfl) rfl]
 simp [Ug]
 by_cases g:okG w h
 rotate_left
 ·simp [g,splitT]
  exact ⟨_,rfl,(.slice none 0 0,.slice none 0 0),rfl,⟨⟨.inl ⟨rfl,rfl⟩,by simp⟩,⟨.inl ⟨rfl,rfl⟩,by simp⟩⟩,Chg.app _,by simp [dClasses,dAnd,dTable,dIntS,dFlat,ids],by simp [dClasses,dAnd,dTable,dIntS,dFlat,ids]⟩
 have st:=fun K r hr=>Ed (frz:=H.length) (H:=K) w h r (cnt w h).toNat hr g (by have:=Qg w h;omega)
 have e:splitT w h=(stdTab w 1 (cnt w h).toNat,stdTab w 2 (cnt w h).toNat):=if_pos g
 rw [e]
 simp only [g,decide_true]
 have st1:=fun K=>st K 1 (by omega)
 have st2:=fun K=>st K 2 (by omega)
 clear st e
 generalize stdTab w 1 (cnt w h).toNat=T1 at *
 generalize stdTab w 2 (cnt w h).toNat=T2 at *
 simp
 rw [Qf (h:=by kernel_rfl)]
 simp [VM.look]
 refine Qc (st1 _) ?_
 rintro _ K1 ⟨v1,rfl,o1,c1,m1,d1⟩
 have cH:Chg H K1 []:=(Chg.app _).trans c1
 have bG:K1[H.length]? = some ⟨[.int .i64 w,.int .i64 h],0,25⟩:=Qa (by simp) c1 (by simp)
 have bR:K1[H.length+1]? = some ⟨[.slice none 0 0,.slice none 0 0],0,32⟩:=Qa (by simp) c1 (by simp)
 have q1:=Wo o1
 have l1:=cH.1
 have lR:=Qu bR
 simp [Wn,q1,VM.look,l1,bG]
 refine Qc (st2 _) ?_
 rintro _ K2 ⟨v2,rfl,o2,c2,m2,d2⟩
 have o1':=Dt.chg (T:=dTable) o1 c2 (by simp)
 have bR:=Qa bR c2 (by simp)
 have cH2:Chg H K2 []:=cH.trans c2
 have q2:=Wo o2
 have l2:=cH2.1
 have gR:=Qh (r':=⟨[v1,v2],0,32⟩) bR
 have hF:H.length≤H.length+1:=by omega
 simp [Wn,q1,q2,VM.look,l2,bR,gR,hF]
 have eR:Chg K2 (K2.set (H.length+1) ⟨[v1,v2],0,32⟩) [H.length+1]:=Qe _ _
 have lt1:=dTable.lt o1
 have m1':∀i∈dTable.ids v1,H.length+2≤i:=fun i hi=>by have:=m1 i hi;simpa using this
 refine ⟨_,rfl,(v1,v2),rfl,⟨Dt.chg (T:=dTable) o1' eR (fun i hi hh=>by have:=m1' i hi;simp at hh;omega),Dt.chg (T:=dTable) o2 eR (fun i hi hh=>by have:=m2 i hi;simp at hh this;omega)⟩,cH2.trans' eR (fun i hi=>.inr (by simp at hi;omega)),fun i hi=>?_,?_⟩
 ·rcases List.mem_append.1 hi with hi|hi
  ·have:=m1' i hi;omega
  ·have:=m2 i hi;omega
 ·exact List.nodup_append.2 ⟨d1,d2,fun a ha b hb e=>by have:=lt1 a ha;have:=m2 b hb;omega⟩
end Go.Proofs.YtdhjhjbfplajfaaGreat.V
set_option linter.all false
namespace Go.Proofs.YtdhjhjbfplajfaaGreat.V
open Go Go.VM Go.Proofs
set_option maxRecDepth 10000
abbrev GrD:=Nat×Nat×Nat
def upd (s:SSD) (k:Nat) (f:List FlitD→List FlitD):SSD:=s.set k (f (s.getD k []))
@[simp] theorem V9 (s:SSD) (k:Nat) (f:List FlitD→List FlitD):(upd s k f).length=s.length:=by simp [upd]
theorem Wl {s:SSD} {k:Nat} (f:List FlitD→List FlitD) (h:k<s.length):(upd s k f).getD k []=f (s.getD k []):=by
 simp [upd,List.getD_eq_getElem?_getD,h]
theorem Q0 {s:SSD} {k j:Nat} (f:List FlitD→List FlitD) (h:k≠j):(upd s k f).getD j []=s.getD j []:=by
 simp [upd,List.getD_eq_getElem?_getD,List.getElem?_set_ne h]
theorem C1 {s:SSD} {k j:Nat} (f g:List FlitD→List FlitD) (h:k≠j):upd (upd s k f) j g=upd (upd s j g) k f:=by
 have e1:=Q0 (s:=s) f h
 have e2:=Q0 (s:=s) g h.symm
 show (upd s k f).set j (g ((upd s k f).getD j []))=(upd s j g).set k (f ((upd s j g).getD k []))
 rw [e1,e2]
 exact List.set_comm _ _ h
theorem G9 (s:SSD) (k:Nat) (f g:List FlitD→List FlitD):upd (upd s k f) k g=upd s k (fun l=>g (f l)):=by
 by_cases h:k<s.length
 ·show (upd s k f).set k (g ((upd s k f).getD k []))=_
  rw [Wl f h]
  simp [upd]
 ·simp [upd,List.set_eq_of_length_le (Nat.le_of_not_lt h)]
theorem C0 {s:SSD} {k j:Nat} (f:FlitD) (h:s.getD k []≠[]):upd (upd s j (·++[f])) k (List.drop 1)=upd (upd s k (List.drop 1)) j (·++[f]):=by
 by_cases e:j=k
 ·subst e
  rw [G9,G9]
  unfold upd
  congr 1
  cases hh:s.getD j [] with
  | nil=>exact absurd hh h
  | cons a l=>rfl
 ·exact C1 _ _ e
def headL (l:List FlitD):FlitD:=l.headD (0,0,0,false,false)
def headOf (x:NetD) (j:Nat):FlitD:=headL (x.2.2.1.getD j [])
def frm (g:GrD):Nat:=10*g.1+g.2.2
def tgt (x:NetD) (a p c:Nat):Nat:=(10*next x.1.1 x.1.2.1 a p+2*opp p+c).toNat
def outAt (a p c:Nat):Nat:=10*a+2*p+c
def popS (s:SSD) (g:GrD):SSD:=upd s (frm g) (List.drop 1)
def pushS (x:NetD) (s:SSD) (g:GrD):SSD:=if g.2.1=4 then s else upd s (tgt x g.1 g.2.1 (g.2.2%2)) (·++[headOf x (frm g)])
def arrS (x:NetD) (s:SSD) (g:GrD):SSD:=if g.2.1=4 then upd s g.1 (·++[headOf x (frm g)]) else s
def ownS (x:NetD) (s:List Int) (g:GrD):List Int:=s.set (outAt g.1 g.2.1 (g.2.2%2)) (if (headOf x (frm g)).2.2.2.2 then -1 else ((g.2.2/2:Nat):Int))
def turnS (s:List Int) (g:GrD):List Int:=s.set (5*g.1+g.2.1) (((g.2.2+1)%10:Nat):Int)
def srcHead (x:NetD) (k:Nat):FlitD:=headL (x.2.2.2.2.2.1.getD k [])
def entAt (x:NetD) (k:Nat):Nat:=(10*(k:Int)+8+(srcHead x k).2.2.1).toNat
def entS (x:NetD) (s:SSD) (k:Nat):SSD:=upd s (entAt x k) (·++[srcHead x k])
def srcS (s:SSD) (k:Nat):SSD:=upd s k (List.drop 1)
def wantedN (x:NetD) (a i:Nat):Int:=
 if x.2.2.1.getD (10*a+i) []=[] then -1
 else if (headOf x (10*a+i)).2.2.2.1 then portOf x.1.1 x.1.2.1 (if i%2=1 then x.2.1.2 else x.2.1.1) a (headOf x (10*a+i)).2.1
 else match (List.range 5).find? fun p=>x.2.2.2.1.getD (outAt a p (i%2)) 0=((i/2:Nat):Int) with
  | some p=>(p:Int)
  | none=>-1
def roomN (x:NetD) (a p c:Nat):Prop:=p=4∨(has x.1.1 x.1.2.1 x.1.2.2 (4*a+p)∧(x.2.2.1.getD (tgt x a p c) []).length<3)
noncomputable instance (x:NetD) (a p c:Nat):Decidable (roomN x a p c):=inferInstanceAs (Decidable (_∨_))
def reqN (x:NetD) (a i p:Nat):Prop:=wantedN x a i=(p:Int)∧roomN x a p (i%2)∧
 x.2.2.2.1.getD (outAt a p (i%2)) 0=if (headOf x (10*a+i)).2.2.2.1 then -1 else ((i/2:Nat):Int)
noncomputable instance (x:NetD) (a i p:Nat):Decidable (reqN x a i p):=inferInstanceAs (Decidable (_∧_))
noncomputable def reqsN (x:NetD) (a p:Nat):List Nat:=(List.range 10).filter fun i=>reqN x a i p
def firstF (t:Int) (l:List Int):Int:=l.foldl (fun b y=>if b<0∨(y-t+10)%10<(b-t+10)%10 then y else b) (-1)
noncomputable def freeN (x:NetD) (a p:Nat) (u:List Bool):List Nat:=(reqsN x a p).filter fun i=>!u.getD (i/2) false
noncomputable def pickN (x:NetD) (a p:Nat) (u:List Bool):Int:=firstF (x.2.2.2.2.1.getD (5*a+p) 0) ((freeN x a p u).map Int.ofNat)
noncomputable def grStep (x:NetD) (a:Nat) (st:List GrD×List Bool) (p:Nat):List GrD×List Bool:=
 if 0≤pickN x a p st.2 then (st.1++[(a,p,(pickN x a p st.2).toNat)],st.2.set ((pickN x a p st.2).toNat/2) true) else st
noncomputable def grTo (x:NetD) (a p:Nat):List GrD×List Bool:=(List.range p).foldl (grStep x a) ([],List.replicate 5 false)
noncomputable def grN (x:NetD) (a:Nat):List GrD:=(grTo x a 5).1
noncomputable def allTo (x:NetD) (n:Nat):List GrD:=(List.range n).flatMap (grN x)
noncomputable def allN (x:NetD):List GrD:=allTo x (cnt x.1.1 x.1.2.1).toNat
def entersN (x:NetD) (k:Nat):Prop:=x.2.2.2.2.2.1.getD k []≠[]∧(x.2.2.1.getD (entAt x k) []).length<3
noncomputable instance (x:NetD) (k:Nat):Decidable (entersN x k):=inferInstanceAs (Decidable (_∧_))
noncomputable def enterN (x:NetD):List Nat:=(List.range (cnt x.1.1 x.1.2.1).toNat).filter fun k=>entersN x k
noncomputable def stepN (x:NetD):NetD:=
 (x.1,x.2.1,(enterN x).foldl (entS x) ((allN x).foldl (pushS x) ((allN x).foldl popS x.2.2.1)),(allN x).foldl (ownS x) x.2.2.2.1,(allN x).foldl turnS x.2.2.2.2.1,
  (enterN x).foldl srcS x.2.2.2.2.2.1,(allN x).foldl (arrS x) x.2.2.2.2.2.2.1,x.2.2.2.2.2.2.2+1)
def bothS (x:NetD) (s:SSD) (g:GrD):SSD:=pushS x (popS s g) g
@[simp] theorem Ko (s:SSD) (g:GrD):(popS s g).length=s.length:=V9 _ _ _
@[simp] theorem Tc (x:NetD) (s:SSD) (g:GrD):(pushS x s g).length=s.length:=by unfold pushS;split<;>simp
@[simp] theorem Lk (x:NetD) (s:SSD) (g:GrD):(arrS x s g).length=s.length:=by unfold arrS;split<;>simp
@[simp] theorem Mu (x:NetD) (s:List Int) (g:GrD):(ownS x s g).length=s.length:=by unfold ownS;simp
@[simp] theorem Oo (s:List Int) (g:GrD):(turnS s g).length=s.length:=by unfold turnS;simp
@[simp] theorem Jm (x:NetD) (s:SSD) (k:Nat):(entS x s k).length=s.length:=V9 _ _ _
@[simp] theorem Ku (s:SSD) (k:Nat):(srcS s k).length=s.length:=V9 _ _ _
theorem Wi {α β:Type} {f:List β→α→List β} (h:∀s a,(f s a).length=s.length):∀(l:List α) (s:List β),(l.foldl f s).length=s.length
 | [],s=>rfl
 | a::l,s=>by rw [List.foldl_cons,Wi h l,h]
theorem Xz {α β:Type} (f:β→α→β) (s:β) {l:List α} {i:Nat} (h:i<l.length):(l.take (i+1)).foldl f s=f ((l.take i).foldl f s) l[i]:=by
 rw [List.take_succ_eq_append_getElem h,List.foldl_append];rfl
theorem Cp {x:NetD} {s:SSD} {g g':GrD} (h:s.getD (frm g') []≠[]):popS (pushS x s g) g'=pushS x (popS s g') g:=by
 unfold popS pushS
 by_cases e:g.2.1=4
 ·rw [if_pos e,if_pos e]
 ·rw [if_neg e,if_neg e];exact C0 _ h
theorem Ea (x:NetD):∀(l:List GrD) (s:SSD),(l.map frm).Nodup→(∀g∈l,s.getD (frm g) []≠[])→l.foldl (bothS x) s=l.foldl (pushS x) (l.foldl popS s)
 | [],s,_,_=>rfl
 | g::l,s,nd,hs=>by
  obtain ⟨n1,n2⟩:=List.nodup_cons.1 nd
  have hne:∀g'∈l,frm g≠frm g':=fun g' hg e=>n1 (e▸List.mem_map_of_mem hg)
  have h1:∀g'∈l,(popS s g).getD (frm g') []≠[]:=fun g' hg=>by
   rw [popS,Q0 _ (hne g' hg)];exact hs g' (List.mem_cons_of_mem _ hg)
  have h2:∀g'∈l,(bothS x s g).getD (frm g') []≠[]:=fun g' hg=>by
   have:=h1 g' hg
   unfold bothS pushS
   split
   ·exact this
   ·by_cases e:tgt x g.1 g.2.1 (g.2.2%2)=frm g'
    ·rw [e]
     by_cases hl:frm g'<(popS s g).length
     ·rw [Wl _ hl];simp
     ·simp [List.getD_eq_getElem?_getD,List.getElem?_eq_none (Nat.le_of_not_lt hl)] at this
    ·rw [Q0 _ e];exact this
  rw [List.foldl_cons,Ea x l _ n2 h2]
  have key:∀(m:List GrD) (z:SSD),(m.map frm).Nodup→(∀g'∈m,z.getD (frm g') []≠[])→m.foldl popS (pushS x z g)=pushS x (m.foldl popS z) g:=by
   intro m
   induction m with
   | nil=>intro z _ _;rfl
   | cons g' m ih=>
    intro z nz hz
    obtain ⟨z1,z2⟩:=List.nodup_cons.1 nz
    rw [List.foldl_cons,List.foldl_cons,Cp (hz g' (List.mem_cons_self ..))]
    refine ih _ z2 fun g2 hg2=>?_
    have hne2:frm g'≠frm g2:=fun e=>z1 (e▸List.mem_map_of_mem hg2)
    rw [popS,Q0 _ hne2];exact hz g2 (List.mem_cons_of_mem _ hg2)
  show l.foldl (pushS x) (l.foldl popS (pushS x (popS s g) g))=_
  rw [key l (popS s g) n2 h1]
  rfl
theorem Ti (t:Int):∀(l:List Int) (b:Int),(l.foldl (fun b y=>if b<0∨(y-t+10)%10<(b-t+10)%10 then y else b) b)=b∨(l.foldl (fun b y=>if b<0∨(y-t+10)%10<(b-t+10)%10 then y else b) b)∈l
 | [],b=>.inl rfl
 | y::l,b=>by
  rw [List.foldl_cons]
  rcases Ti t l (if b<0∨(y-t+10)%10<(b-t+10)%10 then y else b) with h|h
  ·rw [h];split
   ·exact .inr (List.mem_cons_self ..)
   ·exact .inl rfl
  ·exact .inr (List.mem_cons_of_mem _ h)
theorem Gy {t:Int} {l:List Int} (h:0≤firstF t l):firstF t l∈l:=by
 rcases Ti t l (-1) with g|g
 ·unfold firstF at h;rw [g] at h;omega
 ·exact g
theorem Jn {x:NetD} {a p:Nat} {u:List Bool} (h:0≤pickN x a p u):(pickN x a p u).toNat∈freeN x a p u:=by
 have:=Gy h
 obtain ⟨i,hi,he⟩:=List.mem_map.1 this
 have e:pickN x a p u=(i:Int):=he.symm
 rw [e];simpa using hi
theorem Re {x:NetD} {a p i:Nat} {u:List Bool} (h:i∈freeN x a p u):i<10∧reqN x a i p∧u.getD (i/2) false=false:=by
 obtain ⟨h1,h2⟩:=List.mem_filter.1 h
 obtain ⟨h3,h4⟩:=List.mem_filter.1 h1
 exact ⟨List.mem_range.1 h3,by simpa using h4,by simpa using h2⟩
theorem Tv (x:NetD) (a p:Nat):grTo x a (p+1)=grStep x a (grTo x a p) p:=by
 unfold grTo;rw [List.range_succ,List.foldl_append];rfl
structure GrOk (x:NetD) (a p:Nat) (st:List GrD×List Bool):Prop where
 len:st.2.length=5
 at':∀g∈st.1,g.1=a∧g.2.1<p∧g.2.2<10∧reqN x a g.2.2 g.2.1∧st.2.getD (g.2.2/2) false=true
 nd:(st.1.map frm).Nodup
 le:st.1.length≤p
theorem Bs {u:List Bool} {k j:Nat} (h:u.getD j false=true):(u.set k true).getD j false=true:=by
 simp only [List.getD_eq_getElem?_getD,List.getElem?_set] at *
 split
 ·split<;>simp_all
 ·exact h
theorem Un (x:NetD) (a:Nat):∀p,p≤5→GrOk x a p (grTo x a p)
 | 0,_=>⟨rfl,fun g h=>by simp [grTo] at h,by simp [grTo],by simp [grTo]⟩
 | p+1,hp=>by
  obtain ⟨h1,h2,h3,h4⟩:=Un x a p (by omega)
  rw [Tv]
  unfold grStep
  generalize grTo x a p=st at *
  split
  ·rename_i hk
   obtain ⟨k1,k2,k3⟩:=Re (Jn hk)
   generalize hk':(pickN x a p st.2).toNat=k at *
   refine ⟨by simpa using h1,fun g hg=>?_,?_,by simp only [List.length_append,List.length_cons,List.length_nil];omega⟩
   ·rcases List.mem_append.1 hg with hg|hg
    ·obtain ⟨g1,g2,g3,g4,g5⟩:=h2 g hg
     exact ⟨g1,by omega,g3,g4,Bs g5⟩
    ·have:=List.mem_singleton.1 hg
     subst this
     exact ⟨rfl,by simp,k1,k2,by show (st.2.set (k/2) true).getD (k/2) false=true;rw [List.getD_eq_getElem?_getD,List.getElem?_set_self (by rw [h1];omega)];rfl⟩
   ·rw [List.map_append]
    refine List.nodup_append.2 ⟨h3,by simp,fun y hy z hz e=>?_⟩
    obtain ⟨g,hg,rfl⟩:=List.mem_map.1 hy
    simp at hz
    obtain ⟨g1,g2,g3,g4,g5⟩:=h2 g hg
    have:g.2.2=k:=by have:frm g=frm (a,p,k):=e.trans hz;unfold frm at this;simp only at this;omega
    rw [this,k3] at g5
    simp at g5
  ·exact ⟨h1,fun g hg=>by obtain ⟨g1,g2,g3,g4,g5⟩:=h2 g hg;exact ⟨g1,by omega,g3,g4,g5⟩,h3,by omega⟩
theorem U7 (x:NetD) (n:Nat):allTo x (n+1)=allTo x n++grN x n:=by
 unfold allTo;rw [List.range_succ,List.flatMap_append];simp
theorem qx (x:NetD) (a:Nat):(grN x a).length≤5:=(Un x a 5 (by omega)).le
theorem Y3 (x:NetD):∀n,(∀g∈allTo x n,g.1<n∧g.2.1<5∧g.2.2<10∧reqN x g.1 g.2.2 g.2.1)∧((allTo x n).map frm).Nodup∧(allTo x n).length≤5*n
 | 0=>⟨fun g h=>by simp [allTo] at h,by simp [allTo],by simp [allTo]⟩
 | n+1=>by
  obtain ⟨h1,h2,h3⟩:=Y3 x n
  obtain ⟨_,k2,k3,k4⟩:=Un x n 5 (by omega)
  rw [U7]
  refine ⟨fun g hg=>?_,?_,by simp [grN];omega⟩
  ·rcases List.mem_append.1 hg with hg|hg
   ·obtain ⟨a1,a2⟩:=h1 g hg;exact ⟨by omega,a2⟩
   ·obtain ⟨a1,a2,a3,a4,_⟩:=k2 g hg
    exact ⟨by omega,a2,a3,by rw [a1];exact a4⟩
  ·rw [List.map_append]
   refine List.nodup_append.2 ⟨h2,k3,fun y hy z hz e=>?_⟩
   obtain ⟨g,hg,rfl⟩:=List.mem_map.1 hy
   obtain ⟨g',hg',rfl⟩:=List.mem_map.1 hz
   have a1:=h1 g hg
   have a2:=k2 g' hg'
   unfold frm at e;omega
theorem Zb {x:NetD} {g:GrD} (h:g∈allN x):(g.1:Int)<cnt x.1.1 x.1.2.1∧g.2.1<5∧g.2.2<10∧reqN x g.1 g.2.2 g.2.1:=by
 obtain ⟨h1,h2⟩:=(Y3 x _).1 g h
 exact ⟨by omega,h2⟩
theorem Sx (x:NetD):((allN x).map frm).Nodup:=(Y3 x _).2.1
theorem Ka (x:NetD):(allN x).length≤80:=by
 have:=(Y3 x (cnt x.1.1 x.1.2.1).toNat).2.2
 have:=Qg x.1.1 x.1.2.1
 unfold allN;omega
theorem Mp {x:NetD} {a i p:Nat} (h:reqN x a i p):x.2.2.1.getD (10*a+i) []≠[]:=fun e=>by
 have:=h.1
 unfold wantedN at this
 rw [if_pos e] at this
 omega
theorem Tn {l:List FlitD} (h:l≠[]):headL l∈l:=by
 cases l with
 | nil=>exact absurd rfl h
 | cons a l=>exact List.mem_cons_self ..
def allP (P:Nat→FlitD→Prop) (s:SSD):Prop:=∀j,∀f∈s.getD j [],P j f
def runOk (x:NetD):Prop:=classesOk x.1.1 x.1.2.1 x.1.2.2 x.2.1.1 x.2.1.2∧sizesOk x∧allP (fun j f=>f.2.2.1=(j:Int)%2∧flitOk x.1.1 x.1.2.1 f) x.2.2.1∧allP (fun _ f=>flitOk x.1.1 x.1.2.1 f) x.2.2.2.2.2.1∧∀o∈x.2.2.2.2.1,inR 0 o 9
theorem Ov {P:Nat→FlitD→Prop} {s:SSD} {k:Nat} (h:allP P s):allP P (upd s k (List.drop 1)):=fun j f hf=>by
 by_cases e:k=j
 ·subst e
  by_cases hl:k<s.length
  ·rw [Wl _ hl] at hf;exact h k f (List.mem_of_mem_drop hf)
  ·simp [upd,List.getD_eq_getElem?_getD,List.getElem?_eq_none (Nat.le_of_not_lt hl),List.set_eq_of_length_le (Nat.le_of_not_lt hl)] at hf
 ·rw [Q0 _ e] at hf;exact h j f hf
theorem Nb {P:Nat→FlitD→Prop} {s:SSD} {k:Nat} {y:FlitD} (h:allP P s) (hy:P k y):allP P (upd s k (·++[y])):=fun j f hf=>by
 by_cases e:k=j
 ·subst e
  by_cases hl:k<s.length
  ·rw [Wl _ hl] at hf
   rcases List.mem_append.1 hf with hf|hf
   ·exact h k f hf
   ·rw [List.mem_singleton.1 hf];exact hy
  ·simp [upd,List.getD_eq_getElem?_getD,List.getElem?_eq_none (Nat.le_of_not_lt hl),List.set_eq_of_length_le (Nat.le_of_not_lt hl)] at hf
 ·rw [Q0 _ e] at hf;exact h j f hf
theorem Xk {α β:Type} {f:β→α→β} (I:β→Prop):∀(l:List α) (s:β),I s→(∀s a,a∈l→I s→I (f s a))→I (l.foldl f s)
 | [],s,h,_=>h
 | a::l,s,h,k=>Xk I l _ (k s a (List.mem_cons_self ..) h) fun s b hb=>k s b (List.mem_cons_of_mem _ hb)
theorem Tl {x:NetD} {a p c:Nat} (h:has x.1.1 x.1.2.1 x.1.2.2 (4*(a:Int)+p)) (hp:p<4) :
 isN x.1.1 x.1.2.1 (next x.1.1 x.1.2.1 a p)∧0≤opp p∧opp p<4:=by
 obtain ⟨_,_,h3⟩:=Ye (w:=x.1.1) (h:=x.1.2.1) (a:=a) (p:=p) (b:=x.1.2.2) ⟨by omega,by omega⟩ h
 refine ⟨h3,?_⟩
 unfold opp
 rw [if_neg (by omega),if_pos (by omega)]
 omega
theorem Yj {x:NetD} {a p c:Nat} (h:has x.1.1 x.1.2.1 x.1.2.2 (4*(a:Int)+p)) (hp:p<4) (hc:c<2) :
 ((tgt x a p c:Nat):Int)=10*next x.1.1 x.1.2.1 a p+2*opp p+c∧((tgt x a p c:Nat):Int)<10*cnt x.1.1 x.1.2.1∧((tgt x a p c:Nat):Int)%2=c:=by
 obtain ⟨⟨h1,h2⟩,h3,h4⟩:=Tl (c:=c) h hp
 unfold tgt
 generalize next x.1.1 x.1.2.1 a p=N at *
 generalize opp p=O at *
 refine ⟨by omega,by omega,by omega⟩
theorem wb {x:NetD} (h:runOk x) {a i p:Nat} (r:reqN x a i p):(headOf x (10*a+i)).2.2.1=((10*a+i:Nat):Int)%2∧flitOk x.1.1 x.1.2.1 (headOf x (10*a+i)):=
 h.2.2.1 _ _ (Tn (Mp r))
theorem Tz {x:NetD} (h:runOk x) {k:Nat} (r:x.2.2.2.2.2.1.getD k []≠[]):flitOk x.1.1 x.1.2.1 (srcHead x k)∧(entAt x k:Int)=10*k+8+(srcHead x k).2.2.1∧(entAt x k:Int)%2=(srcHead x k).2.2.1:=by
 have:=h.2.2.2.1 k _ (Tn r)
 have h2:=this.2
 unfold inR at h2
 refine ⟨this,?_⟩
 unfold entAt srcHead
 omega
theorem Xq {x:NetD} {k:Nat} (h:k∈enterN x):(k:Int)<cnt x.1.1 x.1.2.1∧entersN x k:=by
 obtain ⟨h1,h2⟩:=List.mem_filter.1 h
 have:=List.mem_range.1 h1
 exact ⟨by omega,by simpa using h2⟩
theorem T7 (x:NetD):(enterN x).Nodup:=List.Pairwise.filter _ List.nodup_range
theorem Pn (x:NetD):(enterN x).length≤16:=by
 have h1:=List.length_filter_le (fun k=>decide (entersN x k)) (List.range (cnt x.1.1 x.1.2.1).toNat)
 have:=Qg x.1.1 x.1.2.1
 rw [List.length_range] at h1
 unfold enterN;omega
theorem Py {x:NetD} (h:runOk x):runOk (stepN x):=by
 have hx:=h
 obtain ⟨h1,⟨s1,s2,s3,s4,s5⟩,h3,h4,h5⟩:=h
 refine ⟨h1,⟨?_,?_,?_,?_,?_⟩,?_,?_,?_⟩
 ·show (((enterN x).foldl (entS x) ((allN x).foldl (pushS x) ((allN x).foldl popS x.2.2.1))).length:Int)=_
  rw [Wi (Jm x),Wi (Tc x),Wi Ko];exact s1
 ·show (((allN x).foldl (ownS x) x.2.2.2.1).length:Int)=_
  rw [Wi (Mu x)];exact s2
 ·show (((allN x).foldl turnS x.2.2.2.2.1).length:Int)=_
  rw [Wi Oo];exact s3
 ·show (((enterN x).foldl srcS x.2.2.2.2.2.1).length:Int)=_
  rw [Wi Ku];exact s4
 ·show (((allN x).foldl (arrS x) x.2.2.2.2.2.2.1).length:Int)=_
  rw [Wi (Lk x)];exact s5
 ·refine Xk _ _ _ (Xk _ _ _ (Xk _ _ _ h3 fun s g hg hs=>Ov hs) fun s g hg hs=>?_) fun s k hk hs=>?_
  ·unfold pushS
   split
   ·exact hs
   ·rename_i hp
    obtain ⟨a1,a2,a3,a4⟩:=Zb hg
    have hh:=a4.2.1
    rcases hh with hh|⟨hh,_⟩
    ·exact absurd hh hp
    obtain ⟨t1,t2,t3⟩:=Yj (c:=g.2.2%2) hh (by omega) (by omega)
    obtain ⟨e1,e2⟩:=wb hx a4
    refine Nb hs ⟨?_,e2⟩
    show (headOf x (10*g.1+g.2.2)).2.2.1=_
    rw [e1,t3];omega
  ·obtain ⟨_,e1,_⟩:=Xq hk
   obtain ⟨f1,f2,f3⟩:=Tz hx e1
   exact Nb hs ⟨f3.symm,f1⟩
 ·exact Xk _ _ _ h4 fun s k hk hs=>Ov hs
 ·refine Xk (fun s:List Int=>∀o∈s,inR 0 o 9) _ _ h5 fun s g hg hs o ho=>?_
  rcases List.mem_or_eq_of_mem_set ho with ho|rfl
  ·exact hs o ho
  ·unfold inR;omega
def allL (L:Nat) (s:SSD):Prop:=∀l∈s,l.length≤L
theorem G8 {s:SSD} {k:Nat} {f:List FlitD→List FlitD} {l:List FlitD} (h:l∈upd s k f):l∈s∨(l=f (s.getD k [])∧k<s.length):=by
 unfold upd at h
 by_cases hl:k<s.length
 ·rcases List.mem_or_eq_of_mem_set h with h|h
  ·exact .inl h
  ·exact .inr ⟨h,hl⟩
 ·rw [List.set_eq_of_length_le (Nat.le_of_not_lt hl)] at h;exact .inl h
theorem Z1 {s:SSD} {k:Nat} (hl:k<s.length):s.getD k []∈s:=by
 simp [List.getD_eq_getElem?_getD,hl]
theorem Oq {L:Nat} {s:SSD} {k:Nat} (h:allL L s):allL L (upd s k (List.drop 1)):=fun l hl=>by
 rcases G8 hl with hl|⟨rfl,hk⟩
 ·exact h l hl
 ·have:=h _ (Z1 hk);rw [List.length_drop];omega
theorem Tk {L:Nat} {s:SSD} {k:Nat} {y:FlitD} (h:allL L s):allL (L+1) (upd s k (·++[y])):=fun l hl=>by
 rcases G8 hl with hl|⟨rfl,hk⟩
 ·have:=h l hl;omega
 ·have:=h _ (Z1 hk);simp only [List.length_append,List.length_cons,List.length_nil];omega
theorem Q6 {L M:Nat} {s:SSD} (h:allL L s) (k:L≤M):allL M s:=fun l hl=>by have:=h l hl;omega
theorem Xf {α:Type} {f:SSD→α→SSD} (hf:∀s a L,allL L s→allL (L+1) (f s a)):∀(l:List α) (s:SSD) (L:Nat),allL L s→allL (L+l.length) (l.foldl f s)
 | [],s,L,h=>by simpa using h
 | a::l,s,L,h=>by
  have:=Xf hf l (f s a) (L+1) (hf s a L h)
  rw [List.foldl_cons,List.length_cons]
  exact Q6 this (by omega)
theorem Na {L:Nat} (l:List GrD) (s:SSD) (h:allL L s):allL L (l.foldl popS s):=Xk _ _ _ h fun s g hg hs=>Oq hs
theorem Ep {L:Nat} (l:List Nat) (s:SSD) (h:allL L s):allL L (l.foldl srcS s):=Xk _ _ _ h fun s g hg hs=>Oq hs
theorem Td (x:NetD) (s:SSD) (g:GrD) (L:Nat) (h:allL L s):allL (L+1) (pushS x s g):=by
 unfold pushS;split
 ·exact Q6 h (by omega)
 ·exact Tk h
theorem Lr (x:NetD) (s:SSD) (g:GrD) (L:Nat) (h:allL L s):allL (L+1) (arrS x s g):=by
 unfold arrS;split
 ·exact Tk h
 ·exact Q6 h (by omega)
theorem Lz (x:NetD) (s:SSD) (k:Nat) (L:Nat) (h:allL L s):allL (L+1) (entS x s k):=Tk h
theorem En {x:NetD} {L:Nat} (h1:allL L x.2.2.1) (h2:allL L x.2.2.2.2.2.2.1):allL (L+96) (stepN x).2.2.1∧allL (L+96) (stepN x).2.2.2.2.2.2.1:=by
 have a1:=Ka x
 have a2:=Pn x
 refine ⟨?_,?_⟩
 ·exact Q6 (Xf (Lz x) (enterN x) _ _ (Xf (Td x) (allN x) _ _ (Na (allN x) _ h1))) (by omega)
 ·exact Q6 (Xf (Lr x) (allN x) _ _ h2) (by omega)
end Go.Proofs.YtdhjhjbfplajfaaGreat.V
set_option linter.all false
namespace Go.Proofs.YtdhjhjbfplajfaaGreat.V
open Go Go.VM Go.Proofs
set_option maxRecDepth 10000
variable {frz:Nat} {H:Heap}
def flits (a:SSD):Nat:=ahead a a.length
theorem Kh (a:SSD) (h1:a.length≤2097152) (h2:∀xs∈a,xs.length≤67108864):flits a≤140737488355328:=by
 have:=Pm a h2 a.length (Nat.le_refl _)
 unfold flits;omega
def idle (x:NetD):Prop:=flits x.2.2.1=0∧flits x.2.2.2.2.2.1=0
instance (x:NetD):Decidable (idle x):=inferInstanceAs (Decidable (_∧_))
def idleOk (x:NetD):Prop:=netOk x∧idle x
instance (x:NetD):Decidable (idleOk x):=inferInstanceAs (Decidable (_∧_))
theorem Uh {v:SSV} {a:SSD} (h:dSS.Ow H v a):vcall C frz 66 [v.1] H=some (.int .i64 (flits a),H):=by
 refine wp.exact (by simp) ?_ rfl
 rw [Qb (fn:=Tryz.f66) Tryz.func66 rfl (by kernel_rfl) rfl]
 obtain ⟨ho,h1,h2⟩:=h
 have rd:=ho.rd
 have ll:=rd.1.len (P:=Tryz.prog) (ty:=33) (by simp)
 have el:=rd.2.1
 rw [el] at ll
 simp [ll]
 refine Qi (fun m t H'=>∃i:Nat,m=a.length-i∧i≤a.length∧t 3=.int .i64 (ahead a i)∧t 6=v.1∧t 7=.int .i64 a.length∧t 8=.int .i64 i∧H'=H) ?_ (n:=a.length) ⟨0,rfl,by omega,by simp [ahead],by simp,by simp,by simp,rfl⟩
 rintro m t H' ⟨i,rfl,hi,t3,t6,t7,t8,rfl⟩ ih
 simp [t3,t6,t7,t8]
 refine Qd ?_ ?_<;>intro g
 ·have hi':i<a.length:=by omega
  obtain ⟨u,_,a2,a3,a4⟩:=W9 rd (ty:=33) (e:=82) (by simp) (by simp) hi'
  have lu:=a4.len (P:=Tryz.prog) (ty:=82) (by simp)
  have al:=Pm a h2 i (by omega)
  have asx:=R5 a hi'
  have hm:=h2 _ (List.getElem_mem hi')
  have hg:a.getD i []=a[i]:=by simp [List.getD_eq_getElem?_getD,hi']
  rw [hg] at asx
  have w1:∀[Inhabited Unit],IntKind.i64.wrap ((ahead a i:Int)+(a[i].length:Int))=((ahead a (i+1):Nat):Int):=by intro _;rw [w64 (by omega) (by omega),asx];omega
  simp [t3,t6,t7,t8,a2,a3,lu,w1]
  refine ih (a.length-(i+1)) _ _ ⟨i+1,rfl,by omega,by simp,by simp [t6],by simp [t7],?_,rfl⟩ (by omega)
  simp;rw [w64 (by omega) (by omega)]
 ·have:i=a.length:=by omega
  subst this
  simp [t3,t6,t7,t8,flits]
theorem Ju {id:Nat} {w h tm:Int} {u2 u3 u4 u6 u7 u9:Value} {v5 v8:SSV} {buf src:SSD} (hr:H[id]? = some ⟨[.int .i64 w,.int .i64 h,u2,u3,u4,v5.1,u6,u7,v8.1,u9,.int .i64 tm],0,35⟩)
 (h5:dSS.Ow H v5 buf) (h8:dSS.Ow H v8 src):vcall C frz 85 [.pointer (some ⟨id,0,some 0⟩)] H=some (.bool (decide (flits buf=0∧flits src=0)),H):=by
 rw [Qb (fn:=Tryz.f85) Tryz.func85 rfl (by kernel_rfl) rfl]
 have e1:=fun F=>Uh (frz:=F) h5
 have e2:=fun F=>Uh (frz:=F) h8
 by_cases g:flits buf=0
 ·simp [VM.vnil,VM.look,hr,e1,e2,g]
 ·simp [VM.vnil,VM.look,hr,e1,e2,g]
theorem Kg {v:NetV} {x:NetD} (o:dNet.Ow H v x):vcall C frz 89 [dNet.val v x] H=some (.bool (decide (idleOk x)),H):=by
 have nk:=fun F L=>Sy (frz:=F) (H:=H++L) (v:=v) (x:=x) (Dt.app (T:=dNet) o)
 have ones:=Qn o
 obtain ⟨u2,⟨u3,u4⟩,⟨u5,h5⟩,u6,u7,⟨u8,h8⟩,⟨u9,h9⟩,_⟩:=v
 obtain ⟨⟨w,h,b⟩,⟨A,B⟩,buf,own,turn,src,arr,tm⟩:=x
 obtain ⟨o2,o3,o5,o6,o7,o8,o9,_⟩:=o
 simp only at o2 o3 o5 o6 o7 o8 o9 ones
 rw [Qk]
 simp only [Qk] at nk
 refine wp.exact (by simp) ?_ rfl
 rw [Qb (fn:=Tryz.f89) Tryz.func89 rfl (by kernel_rfl) rfl]
 have ii:=fun F=>Ju (frz:=F) (H:=H++[⟨[.int .i64 w,.int .i64 h,u2,u3,u4,u5,u6,u7,u8,u9,.int .i64 tm],0,35⟩]) (id:=H.length) (w:=w) (h:=h) (tm:=tm) (u2:=u2) (u3:=u3) (u4:=u4) (u6:=u6) (u7:=u7) (u9:=u9) (v5:=(u5,h5)) (v8:=(u8,h8)) (by simp) (Dt.app o5) (Dt.app o8)
 have hY:decide (idleOk ((w,h,b),(A,B),buf,own,turn,src,arr,tm))=(decide (netOk ((w,h,b),(A,B),buf,own,turn,src,arr,tm))&&decide (flits buf=0∧flits src=0)):=by
  rw [Bool.eq_iff_iff,Bool.and_eq_true,decide_eq_true_eq,decide_eq_true_eq,decide_eq_true_eq];exact Iff.rfl
 generalize decide (idleOk ((w,h,b),(A,B),buf,own,turn,src,arr,tm))=Y at *
 generalize decide (netOk ((w,h,b),(A,B),buf,own,turn,src,arr,tm))=P1 at *
 generalize decide (flits buf=0∧flits src=0)=P2 at *
 simp [ones,nk]
 cases P1<;>simp [ones,ii,hY]
end Go.Proofs.YtdhjhjbfplajfaaGreat.V
set_option linter.all false
namespace Go.Proofs.YtdhjhjbfplajfaaGreat.V
open Go Go.VM Go.Proofs
set_option maxRecDepth 10000
theorem Jb {α β:Type} {f:α→β} {l:List α} (nd:(l.map f).Nodup) {i:Nat} (h:i<l.length):f l[i]∉(l.take i).map f:=fun hh=>by
 have e:(l.take i).map f++(l.drop i).map f=l.map f:=by rw [← List.map_append,List.take_append_drop]
 rw [← e] at nd
 have hm:f l[i]∈(l.drop i).map f:=List.mem_map_of_mem (by rw [List.drop_eq_getElem_cons h];exact List.mem_cons_self ..)
 exact (List.nodup_append.1 nd).2.2 _ hh _ hm rfl
theorem Fz:∀(l:List GrD) (s:SSD) (j:Nat),j∉l.map frm→(l.foldl popS s).getD j []=s.getD j []
 | [],s,j,_=>rfl
 | g::l,s,j,h=>by
  rw [List.foldl_cons,Fz l _ j (fun hh=>h (List.mem_cons_of_mem _ hh)),popS,Q0]
  exact fun e=>h (e▸List.mem_cons_self ..)
theorem Fw:∀(l:List Nat) (s:SSD) (j:Nat),j∉l→(l.foldl srcS s).getD j []=s.getD j []
 | [],s,j,_=>rfl
 | g::l,s,j,h=>by
  rw [List.foldl_cons,Fw l _ j (fun hh=>h (List.mem_cons_of_mem _ hh)),srcS,Q0]
  exact fun e=>h (e▸List.mem_cons_self ..)
theorem Zz {x:NetD} (h:netOk x):runOk x:=by
 obtain ⟨h1,h2,h3,h4,h5,h6,h7⟩:=h
 refine ⟨h1,h2,fun j f hf=>?_,fun j f hf=>?_,h6⟩
 ·by_cases hl:j<x.2.2.1.length
  ·obtain ⟨_,k2,k3⟩:=h3 j hl
   exact ⟨k2 f hf,k3 f hf⟩
  ·simp [List.getD_eq_getElem?_getD,List.getElem?_eq_none (Nat.le_of_not_lt hl)] at hf
 ·by_cases hl:j<x.2.2.2.2.2.1.length
  ·exact (h4 _ (Z1 hl)).2 f hf
  ·simp [List.getD_eq_getElem?_getD,List.getElem?_eq_none (Nat.le_of_not_lt hl)] at hf
theorem we {w h:Int} {b T:List Int} (k:tableOk w h b T) {a c:Int} (ha:isN w h a) (hc:isN w h c):inR 0 (portOf w h T a c) 4:=by
 obtain ⟨h1,h2⟩:=k
 have ha':=ha
 have hc':=hc
 obtain ⟨a1,a2⟩:=ha'
 obtain ⟨c1,c2⟩:=hc'
 have e1:((a.toNat:Nat):Int)=a:=by omega
 have e2:((c.toNat:Nat):Int)=c:=by omega
 obtain ⟨g1,g2⟩:=h2 a.toNat (by omega) c.toNat (by omega)
 rw [e1] at g1 g2
 rw [e2] at g2
 by_cases e:a=c
 ·subst e;rw [g1 rfl];exact ⟨by omega,by omega⟩
 ·have hw:=g2 (fun hh=>e (by omega))
  by_cases so:stepOk w h b T a c
  ·exact ⟨so.1.1,by have:=so.1.2;omega⟩
  ·exfalso
   apply hw
   obtain ⟨f,hf⟩:∃f,(cnt w h).toNat=f+1:=⟨(cnt w h).toNat-1,by omega⟩
   unfold walk
   rw [hf]
   simp only [walkN]
   rw [if_neg so]
   split
   ·first|rfl|rw [if_neg e]
   ·rfl
def older (x:NetD) (k:Int):NetD:=(x.1,x.2.1,x.2.2.1,x.2.2.2.1,x.2.2.2.2.1,x.2.2.2.2.2.1,x.2.2.2.2.2.2.1,x.2.2.2.2.2.2.2+k)
theorem Zd {s:SSD} (h:flits s=0) (j:Nat):s.getD j []=[]:=by
 by_cases hl:j<s.length
 ·have:=It s _ (Z1 hl)
  unfold flits ahead at h
  rw [List.take_length] at h
  exact List.length_eq_zero_iff.1 (by omega)
 ·simp [List.getD_eq_getElem?_getD,List.getElem?_eq_none (Nat.le_of_not_lt hl)]
noncomputable def runN (x:NetD):Nat→NetD
 | 0=>x
 | k+1=>stepN (runN x k)
theorem By {x:NetD} (h:runOk x):∀k,runOk (runN x k)
 | 0=>h
 | k+1=>Py (By h k)
theorem Pf {x:NetD} {L:Nat} (h1:allL L x.2.2.1) (h2:allL L x.2.2.2.2.2.2.1):∀k,allL (L+96*k) (runN x k).2.2.1∧allL (L+96*k) (runN x k).2.2.2.2.2.2.1
 | 0=>⟨h1,h2⟩
 | k+1=>by
  obtain ⟨a,b⟩:=Pf h1 h2 k
  exact En (x:=runN x k) a b
theorem Pu (x:NetD):∀k:Nat,(runN x k).2.2.2.2.2.2.2=x.2.2.2.2.2.2.2+(k:Int)
 | 0=>by simp [runN]
 | k+1=>by
  show (runN x k).2.2.2.2.2.2.2+1=_
  rw [Pu x k];omega
end Go.Proofs.YtdhjhjbfplajfaaGreat.V
set_option linter.all false
namespace Go.Proofs.YtdhjhjbfplajfaaGreat.V
open Go Go.VM Go.Proofs
set_option maxRecDepth 10000
variable {frz:Nat} {H:Heap}
theorem W1 {α:Type} {D:Fl α} {e:TypeId} {v:Value} {xs:List α} (h:Ow D e H v xs):VM.live H v:=by
 rcases h with ⟨rfl,_⟩|⟨id,off,r,rfl,h2,_⟩
 ·trivial
 ·show VM.look H ⟨id,off,some r.gen⟩≠none
  simp [VM.look,h2]
theorem Ld {hs:List Value} {k:Nat} (hk:k<hs.length) (a':Value):(hs.set k a').flatMap ids=(hs.take k).flatMap ids++(ids a'++(hs.drop (k+1)).flatMap ids):=by
 rw [List.set_eq_take_append_cons_drop,if_pos hk,List.flatMap_append,List.flatMap_cons]
theorem wh {hs:List Value} {k:Nat} (hk:k<hs.length):hs.flatMap ids=(hs.take k).flatMap ids++(ids hs[k]++(hs.drop (k+1)).flatMap ids):=by
 have:=Ld hk hs[k]
 rwa [List.set_getElem_self] at this
theorem S8 {α:Type} {D:Fl α} {e oe:TypeId} {H H1:Heap} {v a':Value} {hs:List Value} {xss:List (List α)} {k:Nat} {ys:List α} {frz:Nat} {et:TypeId} {ag:Bool} (h:OwL D e oe H v hs xss) (nd:(idsL v hs).Nodup) (hk:k<hs.length)
 (c:Chg H H1 (ids hs[k])) (o:Ow D e H1 a' ys) (hi:∀i∈ids a',i∈ids hs[k]∨H.length≤i) (hf:∀i∈idsL v hs,frz≤i) (he:tsz Tryz.prog et=some (ag,1)) :
 ∃H2,vstore Tryz.prog frz H1 et a' (elp v k)=some H2∧OwL D e oe H2 v (hs.set k a') (xss.set k ys)∧Chg H H2 (idsL v hs)∧(idsL v (hs.set k a')).Nodup∧(∀i∈idsL v (hs.set k a'),i∈idsL v hs∨H.length≤i)∧H2.length=H1.length:=by
 have hlt:=h.lt
 have hfa:=wh hk
 have hfs:=Ld hk a'
 unfold idsL at nd hf hlt ⊢
 rw [hfa] at nd hf hlt ⊢
 rw [hfs]
 obtain ⟨n1,n2,n3⟩:=List.nodup_append.1 nd
 obtain ⟨m1,m2,m3⟩:=List.nodup_append.1 n2
 obtain ⟨p1,p2,p3⟩:=List.nodup_append.1 m2
 have dv:∀i∈ids v,i∉ids hs[k]:=fun i hi hh=>n3 i hi i (List.mem_append_right _ (List.mem_append_left _ hh)) rfl
 have o1:Ow Fl.val oe H1 v hs:=h.1.chg c dv
 have q:VM.one a'=true∧a'.cells=#[a']:=⟨o.rd.one',o.rd.cells⟩
 obtain ⟨H2,s1,s2,s3,s4⟩:=o1.put1 (P:=Tryz.prog) (frz:=frz) rfl (et:=et) (ag:=ag) he (j:=k) (x:=a') (y:=a') hk q.2 q.1 rfl (fun i hi=>hf i (List.mem_append_left _ hi))
 have hlen:∀i,i<H.length→i<H1.length:=fun i hi=>Nat.lt_of_lt_of_le hi c.1
 have dva:∀i∈ids a',i∉ids v:=fun i hi' hh=>by
  rcases hi i hi' with g|g
  ·exact dv i hh g
  ·have:=hlt i (List.mem_append_left _ hh);omega
 refine ⟨H2,s1,⟨s2,by simpa using h.2.1,fun j b zs hb hz=>?_⟩,?_,?_,fun i hi'=>?_,s4⟩
 ·by_cases hjk:k=j
  ·subst hjk
   rw [List.getElem?_set_self hk] at hb
   have hkx:k<xss.length:=h.2.1▸hk
   rw [List.getElem?_set_self hkx] at hz
   cases hb;cases hz
   exact o.chg s3 dva
  ·rw [List.getElem?_set_ne hjk] at hb hz
   have hb':=h.2.2 j b zs hb hz
   have hfl:=Vw hs (by rw [hfa];exact n2) (fun e=>hjk e.symm) hb (List.getElem?_eq_getElem hk)
   refine (hb'.chg c hfl).chg s3 (fun i hi' hh=>?_)
   have hm:i∈hs.flatMap ids:=List.mem_flatMap.2 ⟨b,List.mem_of_getElem? hb,hi'⟩
   rw [hfa] at hm
   exact n3 i hh i hm rfl
 ·exact (c.mono (fun i hi=>List.mem_append_right _ (List.mem_append_right _ (List.mem_append_left _ hi)))).trans (s3.mono (fun i hi=>List.mem_append_left _ hi))
 ·refine List.nodup_append.2 ⟨n1,List.nodup_append.2 ⟨m1,List.nodup_append.2 ⟨Qx a',p2,fun x hx y hy e=>?_⟩,fun x hx y hy e=>?_⟩,fun x hx y hy e=>?_⟩
  ·subst e
   rcases hi x hx with g|g
   ·exact p3 x g x hy rfl
   ·have:=hlt x (List.mem_append_right _ (List.mem_append_right _ (List.mem_append_right _ hy)));omega
  ·subst e
   rcases List.mem_append.1 hy with hy|hy
   ·rcases hi x hy with g|g
    ·exact m3 x hx x (List.mem_append_left _ g) rfl
    ·have:=hlt x (List.mem_append_right _ (List.mem_append_left _ hx));omega
   ·exact m3 x hx x (List.mem_append_right _ hy) rfl
  ·subst e
   rcases List.mem_append.1 hy with hy|hy
   ·exact n3 x hx x (List.mem_append_left _ hy) rfl
   ·rcases List.mem_append.1 hy with hy|hy
    ·exact dva x hy hx
    ·exact n3 x hx x (List.mem_append_right _ (List.mem_append_right _ hy)) rfl
 ·rcases List.mem_append.1 hi' with hi'|hi'
  ·exact .inl (List.mem_append_left _ hi')
  rcases List.mem_append.1 hi' with hi'|hi'
  ·exact .inl (List.mem_append_right _ (List.mem_append_left _ hi'))
  rcases List.mem_append.1 hi' with hi'|hi'
  ·rcases hi i hi' with g|g
   ·exact .inl (List.mem_append_right _ (List.mem_append_right _ (List.mem_append_left _ g)))
   ·exact .inr g
  ·exact .inl (List.mem_append_right _ (List.mem_append_right _ (List.mem_append_right _ hi')))
def flitsOf (w h:Int) (p:PkD):List FlitD:=if packetOk w h p then (List.range p.2.2.2.2.toNat).map fun i:Nat=>(p.1,p.2.2.1,p.2.2.2.1,decide ((i:Int)=0),decide ((i:Int)=p.2.2.2.2-1)) else []
theorem Dp (w h:Int) (p:PkD) :
 wp (vcall C frz 103 [.agg #[.int .i64 w,.int .i64 h],pkV p] H) (fun r H'=>Ow flF 115 H' r (flitsOf w h p)∧(∀i∈ids r,H.length≤i)∧Chg H H' []):=by
 rw [Qb (fn:=Tryz.f103) Tryz.func103 rfl (by kernel_rfl) rfl]
 have pk:=fun F H=>Rz (frz:=F) (H:=H) w h p
 obtain ⟨q1,q2,q3,q4,q5⟩:=p
 unfold pkV at pk ⊢
 simp only at pk
 have cG:Chg H (H++[⟨[.int .i64 w,.int .i64 h],0,25⟩,⟨[.int .i64 q1,.int .i64 q2,.int .i64 q3,.int .i64 q4,.int .i64 q5],0,63⟩,⟨[],0,115⟩]) []:=Chg.app _
 have o0:Ow flF 115 (H++[⟨[.int .i64 w,.int .i64 h],0,25⟩,⟨[.int .i64 q1,.int .i64 q2,.int .i64 q3,.int .i64 q4,.int .i64 q5],0,63⟩,⟨[],0,115⟩]) (.slice (some ⟨H.length+2,0,some 0⟩) 0 0) []:=Ow.new (D:=flF) (xs:=[]) (k:=2) rfl rfl rfl rfl
 simp [VM.look,pk]
 by_cases g:packetOk w h (q1,q2,q3,q4,q5)
 rotate_left
 ·have e:flitsOf w h (q1,q2,q3,q4,q5)=[]:=if_neg g
  rw [e]
  simp [g]
  first|exact ⟨o0,by simp,cG⟩|exact ⟨o0,by simp,cG.2⟩|exact ⟨o0,cG⟩
 obtain ⟨n,hn⟩:∃n:Nat,q5=n:=⟨q5.toNat,by have:=g.2.2.2.2.2;unfold inR at this;simp only at this;omega⟩
 have hn5:n≤5:=by have:=g.2.2.2.2.2;unfold inR at this;simp only at this;omega
 subst hn
 have hfl:flitsOf w h (q1,q2,q3,q4,(n:Int))=(List.range n).map fun i:Nat=>(q1,q3,q4,decide ((i:Int)=0),decide ((i:Int)=(n:Int)-1)):=by
  unfold flitsOf;rw [if_pos g];simp only [Int.toNat_natCast]
 simp [g,VM.look]
 refine Qi (fun m t H'=>∃(i:Nat) (out:Value),m=n-i∧i≤n∧t 3=.pointer (some ⟨H.length+1,0,some 0⟩)∧t 5=out∧t 14=.int .i64 (n:Int)∧t 15=.int .i64 i∧Chg H H' []∧H'[H.length]? = some ⟨[.int .i64 w,.int .i64 h],0,25⟩∧H'[H.length+1]? = some ⟨[.int .i64 q1,.int .i64 q2,.int .i64 q3,.int .i64 q4,.int .i64 (n:Int)],0,63⟩∧Ow flF 115 H' out ((List.range i).map fun i:Nat=>(q1,q3,q4,decide ((i:Int)=0),decide ((i:Int)=(n:Int)-1)))∧(∀j∈ids out,H.length+2≤j)) ?_ (n:=n)
  ⟨0,.slice (some ⟨H.length+2,0,some 0⟩) 0 0,rfl,by omega,by simp,by simp,by simp,by simp,cG,by simp,by simp,o0,by simp⟩
 rintro m t H' ⟨i,out,rfl,hi,t3,t5,t14,t15,ch,b0,b1,oo,no⟩ ih
 simp [t3,t5,t14,t15,VM.look,b0,b1]
 refine Qd ?_ ?_<;>intro g1
 ·
  have e5:=@w6 ((n:Int)-1) (by omega)
  obtain ⟨Bh,hBh⟩:∃B,B=decide ((i:Int)=0):=⟨_,rfl⟩
  obtain ⟨Bt,hBt⟩:∃B,B=decide ((i:Int)=(n:Int)-1):=⟨_,rfl⟩
  have z1:∀[Inhabited Unit],(decide (i=0))=Bh:=by intro _;rw [hBh];simp
  have z2:∀[Inhabited Unit],(decide ((i:Int)=(n:Int)-1))=Bt:=by intro _;rw [hBt]
  obtain ⟨r',H3,hap,o3,c3,n3⟩:=oo.push (P:=Tryz.prog) (frz:=H.length) (ty:=82) (a:=(q1,q3,q4,Bh,Bt)) (by simp) rfl (by simp;omega) (fun j hj=>by have:=no j hj;omega)
  simp only [Xh] at hap
  simp [-Qo,-Qy,t3,t5,t14,t15,VM.look,b0,b1,e5,z1,z2,hap]
  refine ih (n-(i+1)) _ _ ⟨i+1,r',rfl,by omega,by simp [t3],by simp,by simp [t14],?_,ch.trans' c3 (fun j hj=>.inr (by have:=no j hj;omega)),Qa b0 c3 (fun hh=>by have:=no _ hh;omega),Qa b1 c3 (fun hh=>by have:=no _ hh;omega),?_,fun j hj=>?_⟩ (by omega)
  ·simp [t15];rw [w64 (by omega) (by omega)]
  ·rw [List.range_succ,List.map_append,List.map_cons,List.map_nil,← hBh,← hBt];exact o3
  ·rcases n3 j hj with h1|h1
   ·exact no j h1
   ·have:=Qu b1;omega
 ·have:i=n:=by omega
  subst this
  simp [t3,t5,t14,t15]
  exact ⟨by rw [hfl];exact oo,fun j hj=>by have:=no j hj;omega,ch⟩
theorem R9 {P A S A':List Nat} {N:Nat} (nd:(P++(A++S)).Nodup) (lt:∀i∈P++(A++S),i<N) (na:A'.Nodup) (h:∀i∈A',i∈A∨N≤i):(P++(A'++S)).Nodup∧(∀i∈P++(A'++S),i∈P++(A++S)∨N≤i):=by
 obtain ⟨n1,n2,n3⟩:=List.nodup_append.1 nd
 obtain ⟨m1,m2,m3⟩:=List.nodup_append.1 n2
 refine ⟨List.nodup_append.2 ⟨n1,List.nodup_append.2 ⟨na,m2,fun a ha b hb e=>?_⟩,fun a ha b hb e=>?_⟩,fun i hi=>?_⟩
 ·subst e
  rcases h a ha with g|g
  ·exact m3 a g a hb rfl
  ·have:=lt a (List.mem_append_right _ (List.mem_append_right _ hb));omega
 ·subst e
  rcases List.mem_append.1 hb with hb|hb
  ·rcases h a hb with g|g
   ·exact n3 a ha a (List.mem_append_left _ g) rfl
   ·have:=lt a (List.mem_append_left _ ha);omega
  ·exact n3 a ha a (List.mem_append_right _ hb) rfl
 ·rcases List.mem_append.1 hi with hi|hi
  ·exact .inl (List.mem_append_left _ hi)
  rcases List.mem_append.1 hi with hi|hi
  ·rcases h i hi with g|g
   ·exact .inl (List.mem_append_right _ (List.mem_append_left _ g))
   ·exact .inr g
  ·exact .inl (List.mem_append_right _ (List.mem_append_right _ hi))
theorem R7 {P A S:List Nat} (nd:(P++(A++S)).Nodup):(∀i∈P,i∉A)∧(∀i∈S,i∉A):=by
 obtain ⟨n1,n2,n3⟩:=List.nodup_append.1 nd
 obtain ⟨m1,m2,m3⟩:=List.nodup_append.1 n2
 exact ⟨fun i hi hh=>n3 i hi i (List.mem_append_left _ hh) rfl,fun i hi hh=>m3 i hh i hi rfl⟩
def withBuf (x:NetD) (s:SSD):NetD:=(x.1,x.2.1,s,x.2.2.2.1,x.2.2.2.2.1,x.2.2.2.2.2.1,x.2.2.2.2.2.2.1,x.2.2.2.2.2.2.2)
def putBuf (n:NetV) (u:SSV):NetV:=(n.1,n.2.1,u,n.2.2.2.1,n.2.2.2.2.1,n.2.2.2.2.2.1,n.2.2.2.2.2.2.1,n.2.2.2.2.2.2.2)
theorem J0 {K K':Heap} {n:NetV} {x:NetD} {u:SSV} {s:SSD} (on:dNet.Ow K n x) (nd:(dNet.ids n).Nodup) (c:Chg K K' (dSS.ids n.2.2.1)) (os:dSS.Ow K' u s) (na:(dSS.ids u).Nodup) (hi:∀i∈dSS.ids u,i∈dSS.ids n.2.2.1∨K.length≤i) :
 dNet.Ow K' (putBuf n u) (withBuf x s)∧(dNet.ids (putBuf n u)).Nodup∧∀i∈dNet.ids (putBuf n u),i∈dNet.ids n∨K.length≤i:=by
 have lt:=dNet.lt on
 have e:dNet.ids n=(dMesh.ids n.1++dClasses.ids n.2.1)++(dSS.ids n.2.2.1++(dIntS.ids n.2.2.2.1++(dIntS.ids n.2.2.2.2.1++(dSS.ids n.2.2.2.2.2.1++(dSS.ids n.2.2.2.2.2.2.1++[]))))):=by
  show dMesh.ids n.1++(dClasses.ids n.2.1++(dSS.ids n.2.2.1++(dIntS.ids n.2.2.2.1++(dIntS.ids n.2.2.2.2.1++(dSS.ids n.2.2.2.2.2.1++(dSS.ids n.2.2.2.2.2.2.1++[]))))))=_
  simp only [List.append_assoc]
 have e':dNet.ids (putBuf n u)=(dMesh.ids n.1++dClasses.ids n.2.1)++(dSS.ids u++(dIntS.ids n.2.2.2.1++(dIntS.ids n.2.2.2.2.1++(dSS.ids n.2.2.2.2.2.1++(dSS.ids n.2.2.2.2.2.2.1++[]))))):=by
  show dMesh.ids n.1++(dClasses.ids n.2.1++(dSS.ids u++(dIntS.ids n.2.2.2.1++(dIntS.ids n.2.2.2.2.1++(dSS.ids n.2.2.2.2.2.1++(dSS.ids n.2.2.2.2.2.2.1++[]))))))=_
  simp only [List.append_assoc]
 rw [e] at nd lt ⊢
 rw [e']
 obtain ⟨m1,m2⟩:=R9 nd lt na hi
 obtain ⟨d1,d2⟩:=R7 nd
 obtain ⟨o1,o2,o3,o4,o5,o6,o7,_⟩:=on
 exact ⟨⟨Dt.chg (T:=dMesh) o1 c (fun i hi=>d1 i (List.mem_append_left _ (hi))),Dt.chg (T:=dClasses) o2 c (fun i hi=>d1 i (List.mem_append_right _ hi)),os,Dt.chg (T:=dIntS) o4 c (fun i hi=>d2 i (List.mem_append_left _ hi)),Dt.chg (T:=dIntS) o5 c (fun i hi=>d2 i (List.mem_append_right _ (List.mem_append_left _ hi))),Dt.chg (T:=dSS) o6 c (fun i hi=>d2 i (List.mem_append_right _ (List.mem_append_right _ (List.mem_append_left _ hi)))),Dt.chg (T:=dSS) o7 c (fun i hi=>d2 i (List.mem_append_right _ (List.mem_append_right _ (List.mem_append_right _ (List.mem_append_left _ hi))))),trivial⟩,m1,m2⟩
theorem Yb {n:NetV}:∀i∈dSS.ids n.2.2.1,i∈dNet.ids n:=fun i hi=>by
 show i∈dMesh.ids n.1++(dClasses.ids n.2.1++(dSS.ids n.2.2.1++(dIntS.ids n.2.2.2.1++(dIntS.ids n.2.2.2.2.1++(dSS.ids n.2.2.2.2.2.1++(dSS.ids n.2.2.2.2.2.2.1++[]))))))
 simp only [List.mem_append];right;right;left;exact hi
theorem T4 {n:NetV} (nd:(dNet.ids n).Nodup):(dSS.ids n.2.2.1).Nodup:=by
 have e:dNet.ids n=(dMesh.ids n.1++dClasses.ids n.2.1)++(dSS.ids n.2.2.1++(dIntS.ids n.2.2.2.1++(dIntS.ids n.2.2.2.2.1++(dSS.ids n.2.2.2.2.2.1++(dSS.ids n.2.2.2.2.2.2.1++[]))))):=by
  show dMesh.ids n.1++(dClasses.ids n.2.1++(dSS.ids n.2.2.1++(dIntS.ids n.2.2.2.1++(dIntS.ids n.2.2.2.2.1++(dSS.ids n.2.2.2.2.2.1++(dSS.ids n.2.2.2.2.2.2.1++[]))))))=_
  simp only [List.append_assoc]
 rw [e] at nd
 exact (List.nodup_append.1 (List.nodup_append.1 nd).2.1).1
def withOwn (x:NetD) (s:List Int):NetD:=(x.1,x.2.1,x.2.2.1,s,x.2.2.2.2.1,x.2.2.2.2.2.1,x.2.2.2.2.2.2.1,x.2.2.2.2.2.2.2)
def putOwn (n:NetV) (u:Value):NetV:=(n.1,n.2.1,n.2.2.1,u,n.2.2.2.2.1,n.2.2.2.2.2.1,n.2.2.2.2.2.2.1,n.2.2.2.2.2.2.2)
theorem J6 {K K':Heap} {n:NetV} {x:NetD} {u:Value} {s:List Int} (on:dNet.Ow K n x) (nd:(dNet.ids n).Nodup) (c:Chg K K' (dIntS.ids n.2.2.2.1)) (os:dIntS.Ow K' u s) (na:(dIntS.ids u).Nodup) (hi:∀i∈dIntS.ids u,i∈dIntS.ids n.2.2.2.1∨K.length≤i) :
 dNet.Ow K' (putOwn n u) (withOwn x s)∧(dNet.ids (putOwn n u)).Nodup∧∀i∈dNet.ids (putOwn n u),i∈dNet.ids n∨K.length≤i:=by
 have lt:=dNet.lt on
 have e:dNet.ids n=((dMesh.ids n.1++dClasses.ids n.2.1)++dSS.ids n.2.2.1)++(dIntS.ids n.2.2.2.1++(dIntS.ids n.2.2.2.2.1++(dSS.ids n.2.2.2.2.2.1++(dSS.ids n.2.2.2.2.2.2.1++[])))):=by
  show dMesh.ids n.1++(dClasses.ids n.2.1++(dSS.ids n.2.2.1++(dIntS.ids n.2.2.2.1++(dIntS.ids n.2.2.2.2.1++(dSS.ids n.2.2.2.2.2.1++(dSS.ids n.2.2.2.2.2.2.1++[]))))))=_
  simp only [List.append_assoc]
 have e':dNet.ids (putOwn n u)=((dMesh.ids n.1++dClasses.ids n.2.1)++dSS.ids n.2.2.1)++(dIntS.ids u++(dIntS.ids n.2.2.2.2.1++(dSS.ids n.2.2.2.2.2.1++(dSS.ids n.2.2.2.2.2.2.1++[])))):=by
  show dMesh.ids n.1++(dClasses.ids n.2.1++(dSS.ids n.2.2.1++(dIntS.ids u++(dIntS.ids n.2.2.2.2.1++(dSS.ids n.2.2.2.2.2.1++(dSS.ids n.2.2.2.2.2.2.1++[]))))))=_
  simp only [List.append_assoc]
 rw [e] at nd lt ⊢
 rw [e']
 obtain ⟨m1,m2⟩:=R9 nd lt na hi
 obtain ⟨d1,d2⟩:=R7 nd
 obtain ⟨o1,o2,o3,o4,o5,o6,o7,_⟩:=on
 exact ⟨⟨Dt.chg (T:=dMesh) o1 c (fun i hi=>d1 i (List.mem_append_left _ (List.mem_append_left _ (hi)))),Dt.chg (T:=dClasses) o2 c (fun i hi=>d1 i (List.mem_append_left _ (List.mem_append_right _ hi))),Dt.chg (T:=dSS) o3 c (fun i hi=>d1 i (List.mem_append_right _ hi)),os,Dt.chg (T:=dIntS) o5 c (fun i hi=>d2 i (List.mem_append_left _ hi)),Dt.chg (T:=dSS) o6 c (fun i hi=>d2 i (List.mem_append_right _ (List.mem_append_left _ hi))),Dt.chg (T:=dSS) o7 c (fun i hi=>d2 i (List.mem_append_right _ (List.mem_append_right _ (List.mem_append_left _ hi)))),trivial⟩,m1,m2⟩
theorem T0 {n:NetV}:∀i∈dIntS.ids n.2.2.2.1,i∈dNet.ids n:=fun i hi=>by
 show i∈dMesh.ids n.1++(dClasses.ids n.2.1++(dSS.ids n.2.2.1++(dIntS.ids n.2.2.2.1++(dIntS.ids n.2.2.2.2.1++(dSS.ids n.2.2.2.2.2.1++(dSS.ids n.2.2.2.2.2.2.1++[]))))))
 simp only [List.mem_append];right;right;right;left;exact hi
theorem Dc {n:NetV} (nd:(dNet.ids n).Nodup):(dIntS.ids n.2.2.2.1).Nodup:=by
 have e:dNet.ids n=((dMesh.ids n.1++dClasses.ids n.2.1)++dSS.ids n.2.2.1)++(dIntS.ids n.2.2.2.1++(dIntS.ids n.2.2.2.2.1++(dSS.ids n.2.2.2.2.2.1++(dSS.ids n.2.2.2.2.2.2.1++[])))):=by
  show dMesh.ids n.1++(dClasses.ids n.2.1++(dSS.ids n.2.2.1++(dIntS.ids n.2.2.2.1++(dIntS.ids n.2.2.2.2.1++(dSS.ids n.2.2.2.2.2.1++(dSS.ids n.2.2.2.2.2.2.1++[]))))))=_
  simp only [List.append_assoc]
 rw [e] at nd
 exact (List.nodup_append.1 (List.nodup_append.1 nd).2.1).1
def withTurn (x:NetD) (s:List Int):NetD:=(x.1,x.2.1,x.2.2.1,x.2.2.2.1,s,x.2.2.2.2.2.1,x.2.2.2.2.2.2.1,x.2.2.2.2.2.2.2)
def putTurn (n:NetV) (u:Value):NetV:=(n.1,n.2.1,n.2.2.1,n.2.2.2.1,u,n.2.2.2.2.2.1,n.2.2.2.2.2.2.1,n.2.2.2.2.2.2.2)
theorem Kb {K K':Heap} {n:NetV} {x:NetD} {u:Value} {s:List Int} (on:dNet.Ow K n x) (nd:(dNet.ids n).Nodup) (c:Chg K K' (dIntS.ids n.2.2.2.2.1)) (os:dIntS.Ow K' u s) (na:(dIntS.ids u).Nodup) (hi:∀i∈dIntS.ids u,i∈dIntS.ids n.2.2.2.2.1∨K.length≤i) :
 dNet.Ow K' (putTurn n u) (withTurn x s)∧(dNet.ids (putTurn n u)).Nodup∧∀i∈dNet.ids (putTurn n u),i∈dNet.ids n∨K.length≤i:=by
 have lt:=dNet.lt on
 have e:dNet.ids n=(((dMesh.ids n.1++dClasses.ids n.2.1)++dSS.ids n.2.2.1)++dIntS.ids n.2.2.2.1)++(dIntS.ids n.2.2.2.2.1++(dSS.ids n.2.2.2.2.2.1++(dSS.ids n.2.2.2.2.2.2.1++[]))):=by
  show dMesh.ids n.1++(dClasses.ids n.2.1++(dSS.ids n.2.2.1++(dIntS.ids n.2.2.2.1++(dIntS.ids n.2.2.2.2.1++(dSS.ids n.2.2.2.2.2.1++(dSS.ids n.2.2.2.2.2.2.1++[]))))))=_
  simp only [List.append_assoc]
 have e':dNet.ids (putTurn n u)=(((dMesh.ids n.1++dClasses.ids n.2.1)++dSS.ids n.2.2.1)++dIntS.ids n.2.2.2.1)++(dIntS.ids u++(dSS.ids n.2.2.2.2.2.1++(dSS.ids n.2.2.2.2.2.2.1++[]))):=by
  show dMesh.ids n.1++(dClasses.ids n.2.1++(dSS.ids n.2.2.1++(dIntS.ids n.2.2.2.1++(dIntS.ids u++(dSS.ids n.2.2.2.2.2.1++(dSS.ids n.2.2.2.2.2.2.1++[]))))))=_
  simp only [List.append_assoc]
 rw [e] at nd lt ⊢
 rw [e']
 obtain ⟨m1,m2⟩:=R9 nd lt na hi
 obtain ⟨d1,d2⟩:=R7 nd
 obtain ⟨o1,o2,o3,o4,o5,o6,o7,_⟩:=on
 exact ⟨⟨Dt.chg (T:=dMesh) o1 c (fun i hi=>d1 i (List.mem_append_left _ (List.mem_append_left _ (List.mem_append_left _ (hi))))),Dt.chg (T:=dClasses) o2 c (fun i hi=>d1 i (List.mem_append_left _ (List.mem_append_left _ (List.mem_append_right _ hi)))),Dt.chg (T:=dSS) o3 c (fun i hi=>d1 i (List.mem_append_left _ (List.mem_append_right _ hi))),Dt.chg (T:=dIntS) o4 c (fun i hi=>d1 i (List.mem_append_right _ hi)),os,Dt.chg (T:=dSS) o6 c (fun i hi=>d2 i (List.mem_append_left _ hi)),Dt.chg (T:=dSS) o7 c (fun i hi=>d2 i (List.mem_append_right _ (List.mem_append_left _ hi))),trivial⟩,m1,m2⟩
theorem Vb {n:NetV}:∀i∈dIntS.ids n.2.2.2.2.1,i∈dNet.ids n:=fun i hi=>by
 show i∈dMesh.ids n.1++(dClasses.ids n.2.1++(dSS.ids n.2.2.1++(dIntS.ids n.2.2.2.1++(dIntS.ids n.2.2.2.2.1++(dSS.ids n.2.2.2.2.2.1++(dSS.ids n.2.2.2.2.2.2.1++[]))))))
 simp only [List.mem_append];right;right;right;right;left;exact hi
theorem I3 {n:NetV} (nd:(dNet.ids n).Nodup):(dIntS.ids n.2.2.2.2.1).Nodup:=by
 have e:dNet.ids n=(((dMesh.ids n.1++dClasses.ids n.2.1)++dSS.ids n.2.2.1)++dIntS.ids n.2.2.2.1)++(dIntS.ids n.2.2.2.2.1++(dSS.ids n.2.2.2.2.2.1++(dSS.ids n.2.2.2.2.2.2.1++[]))):=by
  show dMesh.ids n.1++(dClasses.ids n.2.1++(dSS.ids n.2.2.1++(dIntS.ids n.2.2.2.1++(dIntS.ids n.2.2.2.2.1++(dSS.ids n.2.2.2.2.2.1++(dSS.ids n.2.2.2.2.2.2.1++[]))))))=_
  simp only [List.append_assoc]
 rw [e] at nd
 exact (List.nodup_append.1 (List.nodup_append.1 nd).2.1).1
def withSrc (x:NetD) (s:SSD):NetD:=(x.1,x.2.1,x.2.2.1,x.2.2.2.1,x.2.2.2.2.1,s,x.2.2.2.2.2.2.1,x.2.2.2.2.2.2.2)
def putSrc (n:NetV) (u:SSV):NetV:=(n.1,n.2.1,n.2.2.1,n.2.2.2.1,n.2.2.2.2.1,u,n.2.2.2.2.2.2.1,n.2.2.2.2.2.2.2)
theorem Ry {K K':Heap} {n:NetV} {x:NetD} {u:SSV} {s:SSD} (on:dNet.Ow K n x) (nd:(dNet.ids n).Nodup) (c:Chg K K' (dSS.ids n.2.2.2.2.2.1)) (os:dSS.Ow K' u s) (na:(dSS.ids u).Nodup) (hi:∀i∈dSS.ids u,i∈dSS.ids n.2.2.2.2.2.1∨K.length≤i) :
 dNet.Ow K' (putSrc n u) (withSrc x s)∧(dNet.ids (putSrc n u)).Nodup∧∀i∈dNet.ids (putSrc n u),i∈dNet.ids n∨K.length≤i:=by
 have lt:=dNet.lt on
 have e:dNet.ids n=((((dMesh.ids n.1++dClasses.ids n.2.1)++dSS.ids n.2.2.1)++dIntS.ids n.2.2.2.1)++dIntS.ids n.2.2.2.2.1)++(dSS.ids n.2.2.2.2.2.1++(dSS.ids n.2.2.2.2.2.2.1++[])):=by
  show dMesh.ids n.1++(dClasses.ids n.2.1++(dSS.ids n.2.2.1++(dIntS.ids n.2.2.2.1++(dIntS.ids n.2.2.2.2.1++(dSS.ids n.2.2.2.2.2.1++(dSS.ids n.2.2.2.2.2.2.1++[]))))))=_
  simp only [List.append_assoc]
 have e':dNet.ids (putSrc n u)=((((dMesh.ids n.1++dClasses.ids n.2.1)++dSS.ids n.2.2.1)++dIntS.ids n.2.2.2.1)++dIntS.ids n.2.2.2.2.1)++(dSS.ids u++(dSS.ids n.2.2.2.2.2.2.1++[])):=by
  show dMesh.ids n.1++(dClasses.ids n.2.1++(dSS.ids n.2.2.1++(dIntS.ids n.2.2.2.1++(dIntS.ids n.2.2.2.2.1++(dSS.ids u++(dSS.ids n.2.2.2.2.2.2.1++[]))))))=_
  simp only [List.append_assoc]
 rw [e] at nd lt ⊢
 rw [e']
 obtain ⟨m1,m2⟩:=R9 nd lt na hi
 obtain ⟨d1,d2⟩:=R7 nd
 obtain ⟨o1,o2,o3,o4,o5,o6,o7,_⟩:=on
 exact ⟨⟨Dt.chg (T:=dMesh) o1 c (fun i hi=>d1 i (List.mem_append_left _ (List.mem_append_left _ (List.mem_append_left _ (List.mem_append_left _ (hi)))))),Dt.chg (T:=dClasses) o2 c (fun i hi=>d1 i (List.mem_append_left _ (List.mem_append_left _ (List.mem_append_left _ (List.mem_append_right _ hi))))),Dt.chg (T:=dSS) o3 c (fun i hi=>d1 i (List.mem_append_left _ (List.mem_append_left _ (List.mem_append_right _ hi)))),Dt.chg (T:=dIntS) o4 c (fun i hi=>d1 i (List.mem_append_left _ (List.mem_append_right _ hi))),Dt.chg (T:=dIntS) o5 c (fun i hi=>d1 i (List.mem_append_right _ hi)),os,Dt.chg (T:=dSS) o7 c (fun i hi=>d2 i (List.mem_append_left _ hi)),trivial⟩,m1,m2⟩
theorem Y5 {n:NetV}:∀i∈dSS.ids n.2.2.2.2.2.1,i∈dNet.ids n:=fun i hi=>by
 show i∈dMesh.ids n.1++(dClasses.ids n.2.1++(dSS.ids n.2.2.1++(dIntS.ids n.2.2.2.1++(dIntS.ids n.2.2.2.2.1++(dSS.ids n.2.2.2.2.2.1++(dSS.ids n.2.2.2.2.2.2.1++[]))))))
 simp only [List.mem_append];right;right;right;right;right;left;exact hi
theorem O3 {n:NetV} (nd:(dNet.ids n).Nodup):(dSS.ids n.2.2.2.2.2.1).Nodup:=by
 have e:dNet.ids n=((((dMesh.ids n.1++dClasses.ids n.2.1)++dSS.ids n.2.2.1)++dIntS.ids n.2.2.2.1)++dIntS.ids n.2.2.2.2.1)++(dSS.ids n.2.2.2.2.2.1++(dSS.ids n.2.2.2.2.2.2.1++[])):=by
  show dMesh.ids n.1++(dClasses.ids n.2.1++(dSS.ids n.2.2.1++(dIntS.ids n.2.2.2.1++(dIntS.ids n.2.2.2.2.1++(dSS.ids n.2.2.2.2.2.1++(dSS.ids n.2.2.2.2.2.2.1++[]))))))=_
  simp only [List.append_assoc]
 rw [e] at nd
 exact (List.nodup_append.1 (List.nodup_append.1 nd).2.1).1
def withArr (x:NetD) (s:SSD):NetD:=(x.1,x.2.1,x.2.2.1,x.2.2.2.1,x.2.2.2.2.1,x.2.2.2.2.2.1,s,x.2.2.2.2.2.2.2)
def putArr (n:NetV) (u:SSV):NetV:=(n.1,n.2.1,n.2.2.1,n.2.2.2.1,n.2.2.2.2.1,n.2.2.2.2.2.1,u,n.2.2.2.2.2.2.2)
theorem Gt {K K':Heap} {n:NetV} {x:NetD} {u:SSV} {s:SSD} (on:dNet.Ow K n x) (nd:(dNet.ids n).Nodup) (c:Chg K K' (dSS.ids n.2.2.2.2.2.2.1)) (os:dSS.Ow K' u s) (na:(dSS.ids u).Nodup) (hi:∀i∈dSS.ids u,i∈dSS.ids n.2.2.2.2.2.2.1∨K.length≤i) :
 dNet.Ow K' (putArr n u) (withArr x s)∧(dNet.ids (putArr n u)).Nodup∧∀i∈dNet.ids (putArr n u),i∈dNet.ids n∨K.length≤i:=by
 have lt:=dNet.lt on
 have e:dNet.ids n=(((((dMesh.ids n.1++dClasses.ids n.2.1)++dSS.ids n.2.2.1)++dIntS.ids n.2.2.2.1)++dIntS.ids n.2.2.2.2.1)++dSS.ids n.2.2.2.2.2.1)++(dSS.ids n.2.2.2.2.2.2.1++[]):=by
  show dMesh.ids n.1++(dClasses.ids n.2.1++(dSS.ids n.2.2.1++(dIntS.ids n.2.2.2.1++(dIntS.ids n.2.2.2.2.1++(dSS.ids n.2.2.2.2.2.1++(dSS.ids n.2.2.2.2.2.2.1++[]))))))=_
  simp only [List.append_assoc]
 have e':dNet.ids (putArr n u)=(((((dMesh.ids n.1++dClasses.ids n.2.1)++dSS.ids n.2.2.1)++dIntS.ids n.2.2.2.1)++dIntS.ids n.2.2.2.2.1)++dSS.ids n.2.2.2.2.2.1)++(dSS.ids u++[]):=by
  show dMesh.ids n.1++(dClasses.ids n.2.1++(dSS.ids n.2.2.1++(dIntS.ids n.2.2.2.1++(dIntS.ids n.2.2.2.2.1++(dSS.ids n.2.2.2.2.2.1++(dSS.ids u++[]))))))=_
  simp only [List.append_assoc]
 rw [e] at nd lt ⊢
 rw [e']
 obtain ⟨m1,m2⟩:=R9 nd lt na hi
 obtain ⟨d1,d2⟩:=R7 nd
 obtain ⟨o1,o2,o3,o4,o5,o6,o7,_⟩:=on
 exact ⟨⟨Dt.chg (T:=dMesh) o1 c (fun i hi=>d1 i (List.mem_append_left _ (List.mem_append_left _ (List.mem_append_left _ (List.mem_append_left _ (List.mem_append_left _ (hi))))))),Dt.chg (T:=dClasses) o2 c (fun i hi=>d1 i (List.mem_append_left _ (List.mem_append_left _ (List.mem_append_left _ (List.mem_append_left _ (List.mem_append_right _ hi)))))),Dt.chg (T:=dSS) o3 c (fun i hi=>d1 i (List.mem_append_left _ (List.mem_append_left _ (List.mem_append_left _ (List.mem_append_right _ hi))))),Dt.chg (T:=dIntS) o4 c (fun i hi=>d1 i (List.mem_append_left _ (List.mem_append_left _ (List.mem_append_right _ hi)))),Dt.chg (T:=dIntS) o5 c (fun i hi=>d1 i (List.mem_append_left _ (List.mem_append_right _ hi))),Dt.chg (T:=dSS) o6 c (fun i hi=>d1 i (List.mem_append_right _ hi)),os,trivial⟩,m1,m2⟩
theorem Tg {n:NetV}:∀i∈dSS.ids n.2.2.2.2.2.2.1,i∈dNet.ids n:=fun i hi=>by
 show i∈dMesh.ids n.1++(dClasses.ids n.2.1++(dSS.ids n.2.2.1++(dIntS.ids n.2.2.2.1++(dIntS.ids n.2.2.2.2.1++(dSS.ids n.2.2.2.2.2.1++(dSS.ids n.2.2.2.2.2.2.1++[]))))))
 simp only [List.mem_append];right;right;right;right;right;right;left;exact hi
theorem Ev {n:NetV} (nd:(dNet.ids n).Nodup):(dSS.ids n.2.2.2.2.2.2.1).Nodup:=by
 have e:dNet.ids n=(((((dMesh.ids n.1++dClasses.ids n.2.1)++dSS.ids n.2.2.1)++dIntS.ids n.2.2.2.1)++dIntS.ids n.2.2.2.2.1)++dSS.ids n.2.2.2.2.2.1)++(dSS.ids n.2.2.2.2.2.2.1++[]):=by
  show dMesh.ids n.1++(dClasses.ids n.2.1++(dSS.ids n.2.2.1++(dIntS.ids n.2.2.2.1++(dIntS.ids n.2.2.2.2.1++(dSS.ids n.2.2.2.2.2.1++(dSS.ids n.2.2.2.2.2.2.1++[]))))))=_
  simp only [List.append_assoc]
 rw [e] at nd
 exact (List.nodup_append.1 (List.nodup_append.1 nd).2.1).1
def sendNet (x:NetD) (p:PkD):NetD:=withSrc x (x.2.2.2.2.2.1.set p.2.1.toNat (x.2.2.2.2.2.1.getD p.2.1.toNat []++flitsOf x.1.1 x.1.2.1 p))
theorem N0 {K:Heap} {u:Value} {hs:List Value} {xss:SSD} {k:Nat} {ys:List FlitD} (h:OwL flF 115 82 K u hs (xss.set k ys)) (h1:xss.length≤2097152) (h2:∀xs∈xss,xs.length≤67108864) (h3:ys.length≤67108864):dSS.Ow K (u,hs) (xss.set k ys):=
 ⟨h,by simpa using h1,fun xs hx=>by
  rcases List.mem_or_eq_of_mem_set hx with hx|rfl
  ·exact h2 xs hx
  ·exact h3⟩
def netCells (v:NetV) (x:NetD):List Value:=[.int .i64 x.1.1,.int .i64 x.1.2.1,v.1,v.2.1.1,v.2.1.2,v.2.2.1.1,v.2.2.2.1,v.2.2.2.2.1,v.2.2.2.2.2.1.1,v.2.2.2.2.2.2.1.1,.int .i64 x.2.2.2.2.2.2.2]
def sendOk (x:NetD) (p:PkD):Prop:=packetOk x.1.1 x.1.2.1 p∧((x.2.2.2.2.2.1.getD p.2.1.toNat []).length:Int)+p.2.2.2.2≤60
instance (x:NetD) (p:PkD):Decidable (sendOk x p):=inferInstanceAs (Decidable (_∧_))
theorem Pk {w h:Int} {p:PkD} (g:packetOk w h p):((flitsOf w h p).length:Int)=p.2.2.2.2:=by
 unfold flitsOf;rw [if_pos g]
 have:=g.2.2.2.2.2;unfold inR at this;simp;omega
theorem Ik {w h:Int} {p:PkD} (g:¬packetOk w h p):flitsOf w h p=[]:=if_neg g
theorem je {v:NetV} {x:NetD} {p:PkD} {id:Nat} {e:TypeId} {tail:List Value} (hr:H[id]? = some ⟨netCells v x++tail,0,e⟩) (o:dNet.Ow H v x) (nd:(dNet.ids v).Nodup) (hf:∀i∈dNet.ids v,frz≤i) (hid:id∉dNet.ids v) (hN:(x.2.2.2.2.2.1.length:Int)=cnt x.1.1 x.1.2.1) (hs:∀l∈x.2.2.2.2.2.1,l.length≤60) :
 wp (vcall C frz 82 [.pointer (some ⟨id,0,some 0⟩),pkV p] H) (fun r H'=>r=.bool (decide (sendOk x p))∧
  if sendOk x p then ∃hs':List Value,dNet.Ow H' (putSrc v (v.2.2.2.2.2.1.1,hs')) (sendNet x p)∧(dNet.ids (putSrc v (v.2.2.2.2.2.1.1,hs'))).Nodup∧(∀i∈dNet.ids (putSrc v (v.2.2.2.2.2.1.1,hs')),i∈dNet.ids v∨H.length≤i)∧Chg H H' (dSS.ids v.2.2.2.2.2.1) else Chg H H' []):=by
 have ones:=Qn o
 have fo:=fun F H=>Dp (frz:=F) (H:=H) x.1.1 x.1.2.1 p
 rw [Qb (fn:=Tryz.f82) Tryz.func82 rfl (by kernel_rfl) rfl]
 have hlt:=Qu hr
 unfold netCells at hr
 simp only [List.cons_append,List.nil_append] at hr
 obtain ⟨q1,q2,q3,q4,q5⟩:=p
 unfold pkV at fo ⊢
 simp only at fo
 have hr1:=fun r=>Qp hr [r]
 simp
 rw [Qf (h:=by kernel_rfl)]
 simp [VM.look,VM.vnil,hr1]
 refine Qc (fo _ _) ?_
 rintro y K ⟨oy,ny,c1⟩
 have hr2:=Qa (hr1 _) c1 (by simp)
 have b3:K[H.length]? = some ⟨[.int .i64 q1,.int .i64 q2,.int .i64 q3,.int .i64 q4,.int .i64 q5],0,63⟩:=Qa (by simp) c1 (by simp)
 have cH:Chg H K []:=(Chg.app _).trans c1
 have on:=Dt.chg (T:=dNet) o cH (by simp)
 have ly:=oy.rd.len (P:=Tryz.prog) (ty:=82) (by simp)
 simp
 rw [Qf (h:=by kernel_rfl)]
 by_cases g0:packetOk x.1.1 x.1.2.1 (q1,q2,q3,q4,q5)
 rotate_left
 ·have hso:¬sendOk x (q1,q2,q3,q4,q5):=fun k=>g0 k.1
  rw [Ik g0] at ly
  simp [ly,hso]
  exact cH
 have hfl:=Pk g0
 have hto:=g0.2.1
 unfold isN at hto
 simp only at hfl hto
 obtain ⟨m,rfl⟩:∃m:Nat,q2=m:=⟨q2.toNat,by omega⟩
 have hml:m<x.2.2.2.2.2.1.length:=by omega
 have hgd:x.2.2.2.2.2.1.getD m []=x.2.2.2.2.2.1[m]:=by simp [List.getD_eq_getElem?_getD,List.getElem?_eq_getElem hml]
 have hsm:=hs _ (List.getElem_mem hml)
 have hln:=g0.2.2.2.2.2
 unfold inR at hln
 simp only at hln
 have hfn:¬q5=0:=by omega
 obtain ⟨o1,o2,o3,o4,o5,o6,o7,_⟩:=on
 obtain ⟨a,a1,a2,a3,a4⟩:=W9 o6.1.rd (ty:=33) (e:=82) (by simp) (by simp) hml
 have la:=a4.len (P:=Tryz.prog) (ty:=82) (by simp)
 have e1:=@w6 ((x.2.2.2.2.2.1[m].length:Int)+q5) (by omega)
 simp [VM.look,VM.vnil,ly,hfn,hr2,b3,a2,a3,la,hfl,e1]
 refine Qd ?_ ?_<;>intro g1
 ·have hso:¬sendOk x (q1,(m:Int),q3,q4,q5):=fun k=>by have:=k.2;simp only [Int.toNat_natCast,hgd] at this;omega
  simp [hso]
  exact cH
 have hso:sendOk x (q1,(m:Int),q3,q4,q5):=⟨g0,by simp only [Int.toNat_natCast,hgd];omega⟩
 simp
 have liv:=W1 o6.1.1
 have qa:VM.one a=true∧a.cells=#[a]:=⟨a4.one',a4.cells⟩
 have hml':m<v.2.2.2.2.2.1.2.length:=by rw [o6.1.2.1];exact hml
 have ea:v.2.2.2.2.2.1.2[m]=a:=by rw [List.getElem?_eq_getElem hml'] at a1;exact Option.some.inj a1
 have oa:Ow flF 115 K a x.2.2.2.2.2.1[m]:=o6.1.2.2 m a _ a1 (by simp [hml])
 have h6:=Y5 (n:=v)
 have ha6:∀i∈ids a,i∈dSS.ids v.2.2.2.2.2.1:=fun i hi=>Zy a1 hi
 have nd6:=O3 nd
 have lt6:∀i∈dSS.ids v.2.2.2.2.2.1,i<H.length:=fun i hi=>dNet.lt o i (h6 i hi)
 obtain ⟨a',K3,hap,oa',c3,na'⟩:=oa.append (P:=Tryz.prog) (frz:=frz) (ty:=82) oy.rd (by simp) (Vl _) (by omega) (fun i hi=>hf i (h6 i (ha6 i hi)))
 have c3':Chg K K3 (ids v.2.2.2.2.2.1.2[m]):=by rw [ea];exact c3
 obtain ⟨K4,hst,oL,c4,ndL,idL,l4⟩:=S8 (frz:=frz) (et:=82) (ag:=false) o6.1 nd6 hml' c3' oa' (by rw [ea];exact na') (fun i hi=>hf i (h6 i hi)) (by simp)
 have b33:=Qa b3 c3 (fun hh=>by have:=lt6 _ (ha6 _ hh);omega)
 have b35:=Qa hr2 c3 (fun hh=>hid (h6 _ (ha6 _ hh)))
 have dav:∀i∈ids v.2.2.2.2.2.1.1,i∉ids a:=fun i hi hh=>(List.nodup_append.1 nd6).2.2 i hi i (List.mem_flatMap.2 ⟨a,List.mem_of_getElem? a1,hh⟩) rfl
 have ol3:=o6.1.1.chg c3 dav
 have liv3:=W1 ol3
 have hsl:=o6.1.2.1
 have ix3:=ol3.rd.idx (P:=Tryz.prog) (ty:=33) (e:=82) (by simp) (i:=(m:Int)) (by omega) (by omega)
 have b43:=Qa b3 c4 (fun hh=>by have:=lt6 _ hh;omega)
 have b45:=Qa hr2 c4 (fun hh=>hid (h6 _ hh))
 have liv4:=W1 oL.1
 have qa':VM.one a'=true∧a'.cells=#[a']:=⟨oa'.rd.one',oa'.rd.cells⟩
 simp only [Int.toNat_natCast,Nat.mul_one,show Fl.val.n=1 from rfl] at ix3
 rw [Z5 (fl:=([3,5],[17])) (h:=⟨by kernel_rfl,by kernel_rfl,by kernel_rfl,by kernel_rfl⟩)]
 simp [emps,empOp,empB,-Qo,-Qy,VM.look,VM.vnil,hr2,b3,a2,a3,hap,hst,b33,b35,ix3,liv,liv3,b43,b45,liv4,ones,qa',hso]
 have en:sendNet x (q1,m,q3,q4,q5)=withSrc x (x.2.2.2.2.2.1.set m (x.2.2.2.2.2.1[m]++flitsOf x.1.1 x.1.2.1 (q1,m,q3,q4,q5))):=by
  unfold sendNet
  simp only [Int.toNat_natCast,hgd]
 rw [en]
 have on2:dNet.Ow K v x:=⟨o1,o2,o3,o4,o5,o6,o7,trivial⟩
 have lK:=cH.1
 obtain ⟨p1,p2,p3⟩:=Ry (u:=(v.2.2.2.2.2.1.1,v.2.2.2.2.2.1.2.set m a')) on2 nd c4 (N0 oL o6.2.1 o6.2.2 (by simp;omega)) ndL idL
 refine ⟨_,p1,p2,fun i hi=>?_,(cH.mono (fun _ h=>by cases h)).trans c4⟩
 rcases p3 i hi with g|g
 ·exact .inl g
 ·exact .inr (by omega)
theorem front {K:Heap} {u:Value} {xs:List FlitD} (rd:Rd flF K u xs) (h:xs≠[]) :
 vindexAddr Tryz.prog K 82 u (.int .i64 0)=some (elp u 0)∧vfieldAddr Tryz.prog K 115 1 (elp u 0)=some (elp u 1)∧vfieldAddr Tryz.prog K 115 2 (elp u 0)=some (elp u 2)∧
 vfieldAddr Tryz.prog K 115 3 (elp u 0)=some (elp u 3)∧vload Tryz.prog K 3 (elp u 1)=some (.int .i64 (headL xs).2.1)∧vload Tryz.prog K 3 (elp u 2)=some (.int .i64 (headL xs).2.2.1)∧
 vload Tryz.prog K 4 (elp u 3)=some (.bool (headL xs).2.2.2.1)∧vload Tryz.prog K 115 (elp u 0)=some (.agg (flF.f (headL xs)).toArray):=by
 have h0:0<xs.length:=List.length_pos_iff.2 h
 have z0:=rd.idx (P:=Tryz.prog) (ty:=82) (e:=115) (by simp) (i:=0) (by omega) (by omega)
 have f1:=rd.field (P:=Tryz.prog) (s:=115) (f:=1) (o:=1) (n:=1) (ag:=false) (by simp) (j:=0) h0
 have f2:=rd.field (P:=Tryz.prog) (s:=115) (f:=2) (o:=2) (n:=1) (ag:=false) (by simp) (j:=0) h0
 have f3:=rd.field (P:=Tryz.prog) (s:=115) (f:=3) (o:=3) (n:=1) (ag:=false) (by simp) (j:=0) h0
 have c1:=rd.cell (P:=Tryz.prog) (e:=3) (by simp) h0 (c:=1) (by decide)
 have c2:=rd.cell (P:=Tryz.prog) (e:=3) (by simp) h0 (c:=2) (by decide)
 have c3:=rd.cell (P:=Tryz.prog) (e:=4) (by simp) h0 (c:=3) (by decide)
 have q2:=rd.load (P:=Tryz.prog) (e:=115) (by simp) h0
 have e:headL xs=xs[0]:=by cases xs with
  | nil=>exact absurd rfl h
  | cons a l=>rfl
 rw [e]
 simp only [Int.toNat_natCast,Se,Int.toNat_zero,Nat.zero_mul,Nat.zero_add,Nat.add_zero] at z0 f1 f2 f3 c1 c2 c3 q2
 simp only [Xh] at c1 c2 c3
 simp at c1 c2 c3
 exact ⟨z0,f1,f2,f3,c1,c2,c3,q2⟩
theorem Rr {P:Nat→Bool} {n p:Nat} (hp:p<n) (h:P p=true) (hn:∀q,q<p→P q=false):(List.range n).find? P=some p:=by
 rw [List.find?_eq_some_iff_append]
 refine ⟨h,List.range p,(List.range' (p+1) (n-(p+1))),?_,fun q hq=>by simpa using hn q (List.mem_range.1 hq)⟩
 rw [List.range_eq_range',List.range_eq_range']
 have e:n=p+(1+(n-(p+1))):=by omega
 conv=>lhs;rw [e,← List.range'_append_1]
 rw [Nat.add_comm 1,List.range'_succ];simp
theorem Zt {P:Nat→Bool} {n:Nat} (hn:∀q,q<n→P q=false):(List.range n).find? P=none:=by
 rw [List.find?_eq_none];intro q hq;simp [hn q (List.mem_range.1 hq)]
theorem Za (n p c:Int):vcall C frz 107 [.int .i64 n,.int .i64 p,.int .i64 c] H=some (.int .i64 (if inR 0 n 15∧inR 0 p 4∧inR 0 c 1 then 10*n+2*p+c else -1),H):=by
 rw [Qb (fn:=Tryz.f107) Tryz.func107 rfl (by kernel_rfl) rfl]
 by_cases h1:inR 0 n 15
 ·by_cases h2:inR 0 p 4
  ·by_cases h3:inR 0 c 1
   ·simp [Ql,h1,h2,h3]
    unfold inR at h1 h2 h3
    have e1:=@w6 (5*n) (by omega)
    have e2:=@w6 (5*n+p) (by omega)
    have e3:∀[Inhabited Unit],IntKind.i64.wrap ((5*n+p)*2)=10*n+2*p:=by intro _;rw [w64 (by omega) (by omega)];omega
    have e4:=@w6 (10*n+2*p+c) (by omega)
    simp [e1,e2,e3,e4]
   ·simp [Ql,h1,h2,h3]
  ·simp [Ql,h1,h2]
 ·simp [Ql,h1]
theorem U6 {n p c:Nat} (h1:n<16) (h2:p<5) (h3:c<2):vcall C frz 107 [.int .i64 (n:Int),.int .i64 (p:Int),.int .i64 (c:Int)] H=some (.int .i64 (outAt n p c:Nat),H):=by
 rw [Za,if_pos ⟨⟨by omega,by omega⟩,⟨by omega,by omega⟩,⟨by omega,by omega⟩⟩]
 congr 3
theorem zf (w h:Int) (v:Value) (b:List Int) (c:Int) (hI:IsI H v b) (hl:b.length≤1073741824) :
 vcall C frz 120 [.agg #[.int .i64 w,.int .i64 h,v],.int .i64 c] H=some (.bool (decide (has w h b c)),H):=by
 rw [Qb (fn:=Tryz.f120) Tryz.func120 rfl (by kernel_rfl) rfl]
 simp [hI.one',hI.cells,Mn]
 refine Q9 _ _ ?_ ?_<;>intro h2<;>simp [h2,has,Zl _ _ _ (hI.app _) hl,-Bool.decide_and]
theorem Kk {v:NetV} {x:NetD} {id a p c:Nat} {e:TypeId} {tail:List Value} (hr:H[id]? = some ⟨netCells v x++tail,0,e⟩) (o:dNet.Ow H v x) (ha:(a:Int)<cnt x.1.1 x.1.2.1) (hp:p<5) (hc:c<2) :
 vcall C frz 106 [.pointer (some ⟨id,0,some 0⟩),.int .i64 a,.int .i64 p,.int .i64 c] H=some (.int .i64 (if p≠4∧has x.1.1 x.1.2.1 x.1.2.2 (4*(a:Int)+p) then (tgt x a p c:Int) else -1),H):=by
 have ones:=Qn o
 have hl:=o.1.2
 have hI:=Rd.isI o.1.1.rd
 have cr:=Qg x.1.1 x.1.2.1
 rw [Qb (fn:=Tryz.f106) Tryz.func106 rfl (by kernel_rfl) rfl]
 unfold netCells at hr
 simp only [List.cons_append,List.nil_append] at hr
 have e1:=@w6 (4*(a:Int)) (by omega)
 have e2:∀[Inhabited Unit],IntKind.i64.wrap (4*(a:Int)+(p:Int))=4*(a:Int)+p:=by intro _;exact w64 (by omega) (by omega)
 have lv:=fun F=>zf (frz:=F) (H:=H) x.1.1 x.1.2.1 v.1 x.1.2.2 (4*(a:Int)+p) hI hl
 by_cases h4:p=4
 ·subst h4;simp
 have h4':¬(p:Int)=4:=by omega
 by_cases hh:has x.1.1 x.1.2.1 x.1.2.2 (4*(a:Int)+p)
 ·obtain ⟨t1,t2⟩:=Ye (w:=x.1.1) (h:=x.1.2.1) (a:=a) (p:=p) (b:=x.1.2.2) ⟨by omega,by omega⟩ hh
  obtain ⟨t2,t3⟩:=t2
  obtain ⟨u1,u2,u3⟩:=Yj (c:=c) hh (by omega) hc
  obtain ⟨s1,s2,s3⟩:=Tl (c:=c) hh (by omega)
  have en:=fun F=>Vo (frz:=F) (H:=H) x.1.1 x.1.2.1 v.1 x.1.2.2 (4*(a:Int)+p) hI hh.1
  rw [t1,t2] at en
  have ex:(10*next x.1.1 x.1.2.1 a p+2*opp p+c)=(tgt x a p c:Int):=u1.symm
  have hin:inR 0 (next x.1.1 x.1.2.1 a p) 15∧inR 0 (opp p) 4∧inR 0 (c:Int) 1:=⟨⟨s1.1,by have:=s1.2;omega⟩,⟨s2,by omega⟩,⟨by omega,by omega⟩⟩
  simp [VM.look,VM.vnil,hr,ones,e1,e2,lv,hh,h4,h4',en,Ps,Za,hin,ex]
 ·simp [VM.look,VM.vnil,hr,ones,e1,e2,lv,hh,h4,h4']
theorem Em {v:NetV} {x:NetD} {id a p c:Nat} {e:TypeId} {tail:List Value} (hr:H[id]? = some ⟨netCells v x++tail,0,e⟩) (o:dNet.Ow H v x) (hx:runOk x) (ha:(a:Int)<cnt x.1.1 x.1.2.1) (hp:p<5) (hc:c<2) :
 vcall C frz 172 [.pointer (some ⟨id,0,some 0⟩),.int .i64 a,.int .i64 p,.int .i64 c] H=some (.bool (decide (roomN x a p c)),H):=by
 have ones:=Qn o
 have bh:=fun F=>Kk (frz:=F) hr o ha hp hc
 rw [Qb (fn:=Tryz.f172) Tryz.func172 rfl (by kernel_rfl) rfl]
 unfold netCells at hr
 simp only [List.cons_append,List.nil_append] at hr
 by_cases h4:p=4
 ·subst h4;simp [roomN]
 have h4':¬(p:Int)=4:=by omega
 by_cases hh:has x.1.1 x.1.2.1 x.1.2.2 (4*(a:Int)+p)
 ·obtain ⟨u1,u2,u3⟩:=Yj (c:=c) hh (by omega) hc
  have hl:tgt x a p c<x.2.2.1.length:=by have:=hx.2.1.1;omega
  obtain ⟨u,a1,a2,a3,a4⟩:=W9 o.2.2.1.1.rd (ty:=33) (e:=82) (by simp) (by simp) hl
  have la:=a4.len (P:=Tryz.prog) (ty:=82) (by simp)
  have hgd:x.2.2.1[tgt x a p c]?.getD []=x.2.2.1[tgt x a p c]:=by simp [hl]
  simp [VM.look,VM.vnil,hr,ones,h4,h4',bh,hh,a2,a3,la,roomN,hgd]
  try omega
 ·simp [VM.look,VM.vnil,hr,ones,h4,h4',bh,hh,roomN]
theorem L8 (u1 u2:Value) (A B:List Int) (c:Int) (h1:IsI H u1 A) (h2:IsI H u2 B) :
 wp (vcall C frz 175 [.agg #[u1,u2],.int .i64 c] H) (fun r H'=>r=.agg #[if c=1 then u2 else u1]∧∃L,H'=H++L):=by
 rw [Qb (fn:=Tryz.f175) Tryz.func175 rfl (by kernel_rfl) rfl]
 have one:=And.intro (And.intro h1.one' h1.cells) (And.intro h2.one' h2.cells)
 simp [one]
 refine Qd ?_ ?_<;>intro g<;>simp [g,one]
theorem Am {v:NetV} {x:NetD} {id a i:Nat} {e:TypeId} {tail:List Value} (hr:H[id]? = some ⟨netCells v x++tail,0,e⟩) (o:dNet.Ow H v x) (hx:runOk x) (ha:(a:Int)<cnt x.1.1 x.1.2.1) (hi:i<10) :
 vcall C frz 171 [.pointer (some ⟨id,0,some 0⟩),.int .i64 a,.int .i64 i] H=some (.int .i64 (wantedN x a i),H):=by
 refine wp.exact (by simp) ?_ rfl
 have ones:=Qn o
 have cr:=Qg x.1.1 x.1.2.1
 rw [Qb (fn:=Tryz.f171) Tryz.func171 rfl (by kernel_rfl) rfl]
 unfold netCells at hr
 simp only [List.cons_append,List.nil_append] at hr
 obtain ⟨d,hd⟩:∃d,d=10*a+i:=⟨_,rfl⟩
 obtain ⟨c,hc⟩:∃c,c=i%2:=⟨_,rfl⟩
 obtain ⟨q,hq⟩:∃q,q=i/2:=⟨_,rfl⟩
 generalize hY:wantedN x a i=Y
 unfold wantedN at hY
 rw [← hd,← hc,← hq] at hY
 have e1:=@w6 (10*(a:Int)) (by omega)
 have e2:∀[Inhabited Unit],IntKind.i64.wrap (10*(a:Int)+(i:Int))=(d:Int):=by intro _;rw [w64 (by omega) (by omega)];omega
 have e3:∀[Inhabited Unit],(i:Int).tmod 2=(c:Int):=by intro _;rw [tmod2];omega
 have e4:∀[Inhabited Unit],IntKind.i64.wrap ((i:Int)/2)=(q:Int):=by intro _;rw [w64 (by omega) (by omega)];omega
 have hl:d<x.2.2.1.length:=by have:=hx.2.1.1;omega
 obtain ⟨u,a1,a2,a3,a4⟩:=W9 o.2.2.1.1.rd (ty:=33) (e:=82) (by simp) (by simp) hl
 have la:=a4.len (P:=Tryz.prog) (ty:=82) (by simp)
 have hgd:x.2.2.1.getD d []=x.2.2.1[d]:=by simp [List.getD_eq_getElem?_getD,hl]
 have hho:headOf x d=headL x.2.2.1[d]:=by unfold headOf;rw [hgd]
 have qa:VM.one u=true∧u.cells=#[u]:=⟨a4.one',a4.cells⟩
 simp [VM.look,VM.vnil,hr,ones,e1,e2,a2,a3,la]
 rw [hgd,hho] at hY
 by_cases g0:x.2.2.1[d]=[]
 ·rw [if_pos g0] at hY
  simp [g0,hY]
 rw [if_neg g0] at hY
 have g0':¬(x.2.2.1[d].length:Int)=0:=by
  have:=List.length_pos_iff.2 g0;omega
 have g0n:¬x.2.2.1[d].length=0:=by omega
 have fr:=fun L=>front (a4.app (L:=L)) g0
 have zL:=fun L=>(fr L).1
 have fL:=fun L=>(fr L).2.1
 have cL:=fun L=>(fr L).2.2.2.2.1
 clear fr
 obtain ⟨z0,f1,f2,f3,c1,c2,c3,_⟩:=front a4 g0
 obtain ⟨k1,k2⟩:=hx.2.2.1 d _ (by rw [hgd];exact Tn g0)
 generalize headL x.2.2.1[d]=f at *
 simp [-vfieldAddr,W6,g0',g0n,g0,z0,f3,c3]
 by_cases g1:f.2.2.2.1=true
 ·rw [if_pos g1] at hY
  simp only [g1]
  simp
  rw [Qf (h:=by kernel_rfl)]
  have hcl:f.2.2.1=(c:Int):=by rw [k1];omega
  have hi1:IsI H v.2.1.1 x.2.1.1:=Rd.isI o.2.1.1.1.rd
  have hi2:IsI H v.2.1.2 x.2.1.2:=Rd.isI o.2.1.2.1.rd
  simp [-vfieldAddr,W6,VM.look,VM.vnil,hr,ones,z0,f1,f2,c1,c2,hcl]
  refine Qc (L8 v.2.1.1 v.2.1.2 x.2.1.1 x.2.1.2 (c:Int) hi1 hi2) ?_
  rintro _ K ⟨rfl,L,rfl⟩
  have hT:IsI H (if (c:Int)=1 then v.2.1.2 else v.2.1.1) (if c=1 then x.2.1.2 else x.2.1.1):=by
   by_cases h1:c=1
   ·simp [h1,hi2]
   ·rw [if_neg (by omega),if_neg h1];exact hi1
  have hok:tableOk x.1.1 x.1.2.1 x.1.2.2 (if c=1 then x.2.1.2 else x.2.1.1):=by split;exact hx.1.2;exact hx.1.1
  have hin:=we hok (a:=a) (c:=f.2.1) ⟨by omega,ha⟩ k2.1
  generalize (if (c:Int)=1 then v.2.1.2 else v.2.1.1)=uT at *
  generalize (if c=1 then x.2.1.2 else x.2.1.1)=T at *
  have pt:=fun F=>Lu (frz:=F) (H:=H++L) x.1.1 x.1.2.1 v.1 uT x.1.2.2 T a f.2.1 (Rd.isI o.1.1.rd.app) (hT.app _) o.1.2 hok.1 ⟨by omega,ha⟩ k2.1
  rw [hY,if_pos (hY▸hin)] at pt
  simp [-vfieldAddr,W6,ones,hT.one',hT.cells,pt,zL,fL,cL]
 ·rw [if_neg g1] at hY
  simp only [g1]
  simp
  refine Qi (fun n t H'=>∃p:Nat,n=5-p∧p≤5∧t 0=.pointer (some ⟨id,0,some 0⟩)∧t 1=.int .i64 a∧t 2=.int .i64 i∧t 8=.int .i64 p∧H'=H∧∀r,r<p→decide (x.2.2.2.1.getD (outAt a r c) 0=(q:Int))=false) ?_ (n:=5) ⟨0,by simp,by omega,by simp,by simp,by simp,by simp,rfl,by omega⟩
  rintro n t H' ⟨p,rfl,hp,t0,t1,t2,t8,rfl,hk⟩ ih
  simp [t0,t1,t2,t8]
  refine Qd ?_ ?_<;>intro g
  ·have hp':p<5:=by omega
   have bA:=fun F=>U6 (frz:=F) (H:=H') (n:=a) (p:=p) (c:=c) (by omega) hp' (by omega)
   have hz:outAt a p c<x.2.2.2.1.length:=by have:=hx.2.1.2.1;unfold outAt;omega
   have hgo:x.2.2.2.1.getD (outAt a p c) 0=x.2.2.2.1[outAt a p c]:=by simp [List.getD_eq_getElem?_getD,hz]
   have hk2:=hk
   generalize hzz:outAt a p c=z at *
   have rd:=Rd.isI o.2.2.2.1.1.rd
   have q1:=rd.idx (P:=Tryz.prog) (ty:=26) (e:=3) (by simp) (i:=(z:Int)) (by omega) (by omega)
   have q2:=rd.load (P:=Tryz.prog) (e:=3) (by simp) hz
   simp only [Int.toNat_natCast] at q1 q2
   rw [hgo] at q2
   simp [t0,t1,t2,t8]
   rw [Qf (h:=by kernel_rfl)]
   simp [VM.look,VM.vnil,hr,ones,t0,t1,t2,t8,e3,e4,bA,q1,q2]
   refine Qd ?_ ?_<;>intro g2
   ·simp [t0,t1,t2,t8]
    rw [Rr hp' (by rw [hzz,hgo];exact decide_eq_true g2) hk] at hY
    exact hY
   ·simp [t0,t1,t2,t8]
    refine ih (5-(p+1)) _ _ ⟨p+1,rfl,by omega,by simp [t0],by simp [t1],by simp [t2],?_,rfl,fun r hr'=>?_⟩ (by omega)
    ·simp;rw [w64 (by omega) (by omega)]
    ·by_cases hrp:r<p
     ·exact hk r hrp
     ·have:r=p:=by omega
      subst this
      rw [hzz,hgo];exact decide_eq_false g2
  ·have:p=5:=by omega
   subst this
   rw [Zt hk] at hY
   simp [t0,t1,t2,t8,hY]
theorem Lf {v:NetV} {x:NetD} {id a i p:Nat} {e:TypeId} {tail:List Value} (hr:H[id]? = some ⟨netCells v x++tail,0,e⟩) (o:dNet.Ow H v x) (hx:runOk x) (ha:(a:Int)<cnt x.1.1 x.1.2.1) (hi:i<10) (hp:p<5) :
 vcall C frz 161 [.pointer (some ⟨id,0,some 0⟩),.int .i64 a,.int .i64 i,.int .i64 p] H=some (.bool (decide (reqN x a i p)),H):=by
 refine wp.exact (by simp) ?_ rfl
 have ones:=Qn o
 have cr:=Qg x.1.1 x.1.2.1
 obtain ⟨d,hd⟩:∃d,d=10*a+i:=⟨_,rfl⟩
 obtain ⟨c,hc⟩:∃c,c=i%2:=⟨_,rfl⟩
 obtain ⟨q,hq⟩:∃q,q=i/2:=⟨_,rfl⟩
 have wn:=fun F=>Am (frz:=F) hr o hx ha hi
 have rm:=fun F=>Em (frz:=F) (c:=c) hr o hx ha hp (by omega)
 have bA:=fun F=>U6 (frz:=F) (H:=H) (n:=a) (p:=p) (c:=c) (by omega) hp (by omega)
 rw [Qb (fn:=Tryz.f161) Tryz.func161 rfl (by kernel_rfl) rfl]
 unfold netCells at hr
 simp only [List.cons_append,List.nil_append] at hr
 generalize hY:decide (reqN x a i p)=Y
 have no:¬reqN x a i p→Y=false:=fun hh=>by rw [← hY];exact decide_eq_false hh
 have e0:¬(p:Int)<0:=by omega
 have e1:=@w6 (10*(a:Int)) (by omega)
 have e2:∀[Inhabited Unit],IntKind.i64.wrap (10*(a:Int)+(i:Int))=(d:Int):=by intro _;rw [w64 (by omega) (by omega)];omega
 have e3:∀[Inhabited Unit],(i:Int).tmod 2=(c:Int):=by intro _;rw [tmod2];omega
 have e4:∀[Inhabited Unit],IntKind.i64.wrap ((i:Int)/2)=(q:Int):=by intro _;rw [w64 (by omega) (by omega)];omega
 by_cases g1:wantedN x a i=(p:Int)
 rotate_left
 ·simp [e0,wn,g1];exact no (fun k=>g1 k.1)
 by_cases g2:roomN x a p c
 rotate_left
 ·simp [e0,wn,g1,e3,rm,g2];exact no (fun k=>g2 (hc▸k.2.1))
 have hl:d<x.2.2.1.length:=by have:=hx.2.1.1;omega
 obtain ⟨u,a1,a2,a3,a4⟩:=W9 o.2.2.1.1.rd (ty:=33) (e:=82) (by simp) (by simp) hl
 have hgd:x.2.2.1.getD d []=x.2.2.1[d]:=by simp [List.getD_eq_getElem?_getD,hl]
 have hho:headOf x d=headL x.2.2.1[d]:=by unfold headOf;rw [hgd]
 have g0:x.2.2.1[d]≠[]:=fun hh=>by
  unfold wantedN at g1
  rw [← hd,hgd,if_pos hh] at g1
  omega
 obtain ⟨z0,f1,f2,f3,c1,c2,c3,_⟩:=front a4 g0
 have hz:outAt a p c<x.2.2.2.1.length:=by have:=hx.2.1.2.1;unfold outAt;omega
 have hgo:x.2.2.2.1.getD (outAt a p c) 0=x.2.2.2.1[outAt a p c]:=by simp [List.getD_eq_getElem?_getD,hz]
 have key:reqN x a i p↔x.2.2.2.1[outAt a p c]=if (headL x.2.2.1[d]).2.2.2.1 then -1 else (q:Int):=by
  unfold reqN;rw [← hd,← hc,← hq,hgo,hho]
  exact ⟨fun k=>k.2.2,fun k=>⟨g1,g2,k⟩⟩
 generalize hzz:outAt a p c=z at *
 generalize headL x.2.2.1[d]=f at *
 have rd:=Rd.isI o.2.2.2.1.1.rd
 have q1:=rd.idx (P:=Tryz.prog) (ty:=26) (e:=3) (by simp) (i:=(z:Int)) (by omega) (by omega)
 have q2:=rd.load (P:=Tryz.prog) (e:=3) (by simp) hz
 simp only [Int.toNat_natCast] at q1 q2
 rw [hgo] at q2
 have qa:VM.one u=true∧u.cells=#[u]:=⟨a4.one',a4.cells⟩
 simp [e0,wn,g1,e3,rm,g2]
 rw [Qf (h:=by kernel_rfl)]
 simp [VM.look,VM.vnil,hr,ones,e3,bA,q1,q2]
 simp [-vfieldAddr,W6,VM.look,VM.vnil,hr,ones,e1,e2,a2,a3,z0,f3,c3]
 by_cases g3:f.2.2.2.1=true
 ·simp only [g3,if_true] at key ⊢
  simp [e4]
  rw [← hY];simp only [key]
 ·simp only [g3,if_false] at key ⊢
  simp [e4]
  rw [← hY];simp only [key]
  try simp
theorem Io {v:NetV} {x:NetD} {id a p:Nat} {e:TypeId} {tail:List Value} (hr:H[id]? = some ⟨netCells v x++tail,0,e⟩) (o:dNet.Ow H v x) (hx:runOk x) (ha:(a:Int)<cnt x.1.1 x.1.2.1) (hp:p<5) :
 wp (vcall C frz 137 [.pointer (some ⟨id,0,some 0⟩),.int .i64 a,.int .i64 p] H) (fun r H'=>Ow Fl.int 3 H' r ((reqsN x a p).map Int.ofNat)∧(∀i∈ids r,H.length≤i)∧Chg H H' []):=by
 rw [Qb (fn:=Tryz.f137) Tryz.func137 rfl (by kernel_rfl) rfl]
 simp
 refine Qi (fun n t H'=>∃(i:Nat) (r:Value),n=10-i∧i≤10∧t 0=.pointer (some ⟨id,0,some 0⟩)∧t 1=.int .i64 a∧t 2=.int .i64 p∧t 7=r∧t 10=.int .i64 i∧Chg H H' []∧Ow Fl.int 3 H' r (((List.range i).filter fun i=>reqN x a i p).map Int.ofNat)∧(∀j∈ids r,H.length≤j)) ?_ (n:=10)
  ⟨0,.slice (some ⟨H.length,0,some 0⟩) 0 0,rfl,by omega,by simp,by simp,by simp,by simp,by simp,Chg.app _,Ow.new0 (D:=Fl.int) (xs:=[]) rfl rfl rfl rfl,by simp⟩
 rintro n t H' ⟨i,r,rfl,hi,t0,t1,t2,t7,t10,ch,oo,nr⟩ ih
 simp [t0,t1,t2,t7,t10]
 refine Qd ?_ ?_<;>intro g
 ·have hi':i<10:=by omega
  have rq:=fun F=>Lf (frz:=F) (i:=i) (Qa hr ch (by simp)) (Dt.chg (T:=dNet) o ch (by simp)) hx ha hi' hp
  have hfl:=List.length_filter_le (fun i=>decide (reqN x a i p)) (List.range i)
  rw [List.length_range] at hfl
  simp [t0,t1,t2,t7,t10,rq]
  refine Qd ?_ ?_<;>intro g1
  ·obtain ⟨r',H2,hap,o2,c2,n2⟩:=oo.push (P:=Tryz.prog) (frz:=H.length) (ty:=26) (a:=(i:Int)) (by simp) rfl (by simp;omega) nr
   simp only [Fl.int_f] at hap
   have l0:=ch.1
   simp [t0,t1,t2,t7,t10,hap]
   refine ih (10-(i+1)) _ _ ⟨i+1,r',rfl,by omega,by simp [t0],by simp [t1],by simp [t2],by simp,?_,ch.trans' c2 (fun j hj=>.inr (nr j hj)),?_,fun j hj=>?_⟩ (by omega)
   ·simp [t10];rw [w64 (by omega) (by omega)]
   ·rw [List.range_succ,List.filter_append,List.map_append];simpa [g1] using o2
   ·rcases n2 j hj with h1|h1
    ·exact nr j h1
    ·have:=ch.1;omega
  ·simp [t0,t1,t2,t7,t10]
   refine ih (10-(i+1)) _ _ ⟨i+1,r,rfl,by omega,by simp [t0],by simp [t1],by simp [t2],by simp [t7],?_,ch,?_,nr⟩ (by omega)
   ·simp [t10];rw [w64 (by omega) (by omega)]
   ·rw [List.range_succ,List.filter_append,List.map_append];simpa [g1] using oo
 ·have:i=10:=by omega
  subst this
  simp [t0,t1,t2,t7,t10]
  exact ⟨oo,nr,ch⟩
theorem Jc {y t:Int} (h1:inR 0 y 9) (h2:inR 0 t 9):∀[Inhabited Unit],(IntKind.i64.wrap (IntKind.i64.wrap (y-t)+10)).tmod 10=(y-t+10)%10:=by
 intro _
 unfold inR at h1 h2
 rw [w64 (x:=y-t) (by omega) (by omega),w64 (by omega) (by omega),Int.tmod_eq_emod_of_nonneg (by omega)]
def firstTo (t:Int) (l:List Int) (i:Nat):Int:=firstF t (l.take i)
theorem N9 (t:Int) {l:List Int} {i:Nat} (h:i<l.length):firstTo t l (i+1)=if firstTo t l i<0∨(l[i]-t+10)%10<(firstTo t l i-t+10)%10 then l[i] else firstTo t l i:=by
 unfold firstTo firstF
 rw [List.take_succ_eq_append_getElem h,List.foldl_append];rfl
theorem Ix {t:Int} {l:List Int} {i:Nat} (h:∀y∈l,inR 0 y 9):firstTo t l i=-1∨inR 0 (firstTo t l i) 9:=by
 rcases Ti t (l.take i) (-1) with g|g
 ·exact .inl g
 ·exact .inr (h _ (List.mem_of_mem_take g))
theorem Lo (v:Value) (l:List Int) (k:Int) (hI:IsI H v l) (hl:l.length≤1073741824) (h1:∀y∈l,inR 0 y 9) (h2:inR 0 k 9) :
 vcall C frz 139 [v,.int .i64 k] H=some (.int .i64 (firstF k l),H):=by
 refine wp.exact (by simp) ?_ rfl
 rw [Qb (fn:=Tryz.f139) Tryz.func139 rfl (by kernel_rfl) rfl]
 have ai:∀F,vcall C F 39 [v,.int .i64 0,.int .i64 9] H=some (.bool true,H):=fun F=>by rw [Uf v l 0 9 hI hl,decide_eq_true h1]
 simp [ai,Ql,h1,h2,hI.len]
 refine Qi (fun n t H'=>∃i:Nat,n=l.length-i∧i≤l.length∧t 1=.int .i64 k∧t 5=.int .i64 (firstTo k l i)∧t 16=v∧t 17=.int .i64 l.length∧t 18=.int .i64 i∧H'=H) ?_ (n:=l.length)
  ⟨0,rfl,by omega,by simp,by simp [firstTo,firstF],by simp,by simp,by simp,rfl⟩
 rintro n t H' ⟨i,rfl,hi,t1,t5,t16,t17,t18,rfl⟩ ih
 simp [t1,t5,t16,t17,t18]
 refine Qd ?_ ?_<;>intro g
 ·have hi':i<l.length:=by omega
  have hs:=N9 k hi'
  have hy:=h1 _ (List.getElem_mem hi')
  have tv:=Jc hy h2
  simp [t1,t5,t16,t17,t18,hI.idx,hI.load,Qw,hi']
  rcases Ix (t:=k) (i:=i) h1 with g1|g1
  ·rw [g1] at hs
   simp [g1] at hs
   simp [t1,t5,t16,t17,t18,g1]
   refine ih (l.length-(i+1)) _ _ ⟨i+1,rfl,by omega,by simp [t1],by simp [hs],by simp [t16],by simp [t17],?_,rfl⟩ (by omega)
   simp [t18];rw [w64 (by omega) (by omega)]
  ·have tb:=Jc g1 h2
   have g2:¬firstTo k l i<0:=by unfold inR at g1;omega
   simp [t1,t5,t16,t17,t18,g2,tv,tb]
   refine Qd ?_ ?_<;>intro g3
   ·rw [if_pos (.inr (by omega))] at hs
    simp [t1,t5,t16,t17,t18]
    refine ih (l.length-(i+1)) _ _ ⟨i+1,rfl,by omega,by simp [t1],by simp [hs],by simp [t16],by simp [t17],?_,rfl⟩ (by omega)
    simp [t18];rw [w64 (by omega) (by omega)]
   ·rw [if_neg (by omega)] at hs
    simp [t1,t5,t16,t17,t18]
    refine ih (l.length-(i+1)) _ _ ⟨i+1,rfl,by omega,by simp [t1],by simp [hs,t5],by simp [t16],by simp [t17],?_,rfl⟩ (by omega)
    simp [t18];rw [w64 (by omega) (by omega)]
 ·have:i=l.length:=by omega
  subst this
  simp [t1,t5,t16,t17,t18,firstTo]
end Go.Proofs.YtdhjhjbfplajfaaGreat.V
set_option linter.all false
namespace Go.Proofs.YtdhjhjbfplajfaaGreat.V
open Go Go.VM Go.Proofs
set_option maxRecDepth 10000
variable {frz:Nat} {H:Heap} {v:Value} {xs ys:List Int} {e:TypeId}
theorem qo (o:Ow Fl.int 3 H v xs) (h0:0<xs.length) {l:Nat} (hl:l≤xs.length):∃z,∀(H':Heap) (ys:List Int),Ow Fl.int 3 H' v ys→ys.length=xs.length→
 vslice Tryz.prog H' 26 (some (.int .i64 (l:Nat))) none v=some z∧Ow Fl.int 3 H' z (ys.drop l)∧ids z=ids v:=by
 rcases o with ⟨_,rfl⟩|⟨id,off,r,rfl,k2,k3,k4,k5,k6⟩
 ·simp at h0
 ·refine ⟨.slice (some ⟨id,off+l*1,some r.gen⟩) (xs.length-l) 0,fun H' ys o' hlen=>?_⟩
  obtain ⟨z',h1,h2,h3⟩:=o'.slice (P:=Tryz.prog) (ty:=26) (lo:=some (.int .i64 (l:Int))) (hi:=none) (l:=l) (u:=ys.length) (by simp) rfl rfl (by omega) (Nat.le_refl _)
  have e:(ys.drop l).take (ys.length-l)=ys.drop l:=List.take_of_length_le (by simp)
  rw [e] at h2
  have hz:z'=.slice (some ⟨id,off+l*1,some r.gen⟩) (xs.length-l) 0:=by
   rcases o' with ⟨hv,_⟩|⟨id',off',r',hv,q2,q3,q4,q5,q6⟩
   ·cases hv
   ·injection hv with hv1 hv2
    injection hv1 with hv1
    injection hv1 with i1 i2 i3
    injection i3 with i3
    subst i1 i2
    have hle:(l:Int)≤(xs.length:Int):=by omega
    simp [vslice,VM.look,q2,i3,vbound,q5,hle] at h1
    simp [← h1,i3]
  rw [← hz]
  exact ⟨h1,h2,h3⟩
theorem Bx (o:Ow Fl.int 3 H v ys) (h0:0<ys.length) {l:Nat} (hl:l≤ys.length) {z:Value} (hz:vslice Tryz.prog H 26 (some (.int .i64 (l:Nat))) none v=some z) (hf:∀i∈ids v,frz≤i) :
 ∃H' zs,vclear Tryz.prog frz H 26 z=some (undef,H')∧zs.length=ys.length∧zs.take l=ys.take l∧Ow Fl.int 3 H' v zs∧Chg H H' (ids v):=by
 rcases o with ⟨_,rfl⟩|⟨id,off,r,rfl,k2,k3,k4,k5,k6⟩
 ·simp at h0
 ·have hle:(l:Int)≤(ys.length:Int):=by omega
  simp [vslice,VM.look,k2,vbound,k5,hle] at hz
  subst hz
  have hfr:frz≤id:=hf id (by simp)
  have hn:Fl.int.n=1:=rfl
  rw [hn] at k3 k4
  have hroom:off+l+(ys.length-l)≤r.cells.length:=by omega
  refine ⟨H.set id { r with cells:=VM.splice r.cells (off+l) (List.replicate (ys.length-l) [Value.int .i64 0]).flatten },ys.take l++List.replicate (ys.length-l) 0,?_,by simp;omega,by rw [List.take_append_of_le_length (by simp;omega),List.take_take,Nat.min_self],?_,Qe _ _⟩
  ·simp [vclear,VM.look,k2,hfr,hroom,ones,VM.one]
  ·have hcl:((List.replicate (ys.length-l) [Value.int .i64 0]).flatten).length=ys.length-l:=by simp
   have hlt:id<H.length:=Qu k2
   have hzl:(ys.take l++List.replicate (ys.length-l) (0:Int)).length=ys.length:=by simp;omega
   refine .inr ⟨id,off,{ r with cells:=VM.splice r.cells (off+l) (List.replicate (ys.length-l) [Value.int .i64 0]).flatten },by rw [hzl],by simp [hlt],?_,?_,k5,Zx k6 (by simp [ones,VM.one])⟩
   ·rw [hzl,hn,Yr k3 k4 (by rw [hcl];omega),Q7,Q7]
    unfold VM.splice
    rw [hcl]
    have e1:(List.map (Value.int .i64) ys).drop (l+(ys.length-l))=[]:=by rw [List.drop_eq_nil_iff];simp;omega
    rw [e1,List.append_nil,List.map_append,List.map_take]
    simp
   ·rw [hzl,hn,Zi (by rw [hcl];omega)];exact k4
end Go.Proofs.YtdhjhjbfplajfaaGreat.V
set_option linter.all false
namespace Go.Proofs.YtdhjhjbfplajfaaGreat.V
open Go Go.VM Go.Proofs
set_option maxRecDepth 10000
variable {frz:Nat} {H:Heap}
def placeP (p:Int→Bool) (b:List Int):Int:=if b.any p then b.findIdx p else -1
theorem D3 {p:Int→Bool} {b:List Int} {i:Nat} (h:i<b.length) (h1:∀x∈b.take i,p x=false) (h2:p b[i]=true):placeP p b=i:=by
 unfold placeP
 rw [if_pos (List.any_eq_true.2 ⟨b[i],List.getElem_mem h,h2⟩)]
 congr 1
 rw [List.findIdx_eq h]
 refine ⟨h2,fun j hj=>?_⟩
 refine Bool.eq_false_iff.1 ?_ |> fun hh=>by simpa using hh
 exact h1 _ (by rw [List.mem_take_iff_getElem];exact ⟨j,by omega,rfl⟩)
theorem Lm (v f:Value) (p:Int→Bool) (b:List Int) (hI:IsI H v b) (hl:b.length≤1073741824)
 (hf:∀x∈b,vclos (vcall C H.length) f [.int .i64 x] H=some (.bool (p x),H)) :
 vcall C frz 160 [v,f] H=some (.int .i64 (placeP p b),H):=by
 rw [Qb (fn:=Tryz.f160) Tryz.func160 rfl (by kernel_rfl) rfl]
 simp [hI.len]
 refine Xg (fun n t H'=>∃i:Nat,n=b.length-i∧i≤b.length∧t 0=v∧t 1=f∧t 6=v∧t 7=.int .i64 b.length∧t 8=.int .i64 i∧H'=H∧∀x∈b.take i,p x=false) ?_ (n:=b.length) ⟨0,by simp⟩
 rintro n t H' ⟨i,rfl,hi,h0,h1,h2,h3,h4,rfl,hj⟩ ih
 simp [h0,h1,h2,h3,h4,hI.len]
 refine Qq _ ?_ ?_<;>intro h5
 ·simp [h0,h1,h2,h3,h4,h5,hI.idx,hI.load,Qw,hf]
  refine vg _ ?_ ?_<;>intro h6<;>simp [h0,h1,h2,h3,h4,h6]
  ·rw [D3 h5 hj h6]
  ·refine ih (b.length-(i+1)) _ _ ⟨i+1,rfl,by omega,by simp [h0],by simp [h1],by simp [h2],by simp [h3],?_,rfl,?_⟩ (by omega)
   ·simp;rw [w64 (by omega) (by omega)]
   ·rw [List.take_succ_eq_append_getElem h5]
    intro x hx
    rcases List.mem_append.1 hx with hx|hx
    ·exact hj x hx
    ·rw [List.mem_singleton.1 hx];exact h6
 ·have:i=b.length:=by omega
  subst this
  simp [h0,h1,h2,h3]
  rw [List.take_length] at hj
  rw [placeP,if_neg]
  rw [List.any_eq_true]
  rintro ⟨x,hx,hp⟩
  rw [hj x hx] at hp;cases hp
end Go.Proofs.YtdhjhjbfplajfaaGreat.V
