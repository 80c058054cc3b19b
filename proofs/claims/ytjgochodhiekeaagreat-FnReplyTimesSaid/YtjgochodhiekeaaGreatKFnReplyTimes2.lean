/- Texts of a proof, joined. -/
import Derived.Test.YtjgochodhiekeaaGreatKM0
import Derived.Test.YtjgochodhiekeaaGreatKM1
import Derived.Test.YtjgochodhiekeaaGreatKFnReplyTimes0
import Derived.Test.YtjgochodhiekeaaGreatKFnReplyTimes1
set_option linter.all false
namespace Go.Proofs.YtjgochodhiekeaaGreat.V
open Go Go.VM Go.Proofs
set_option maxRecDepth 10000
variable {frz:Nat} {H:Heap}
def grF:Fl GrD:=⟨3,fun a=>[.int .i64 a.1,.int .i64 a.2.1,.int .i64 a.2.2],fun _=>rfl⟩
@[simp] theorem xa:grF.n=3:=rfl
theorem Vs (a:GrD):grF.f a=[.int .i64 a.1,.int .i64 a.2.1,.int .i64 a.2.2]:=rfl
theorem M7 (xs:List GrD):ones (cellsOf grF xs)=true:=by
 induction xs with
 | nil=>rfl
 | cons a l ih=>rw [Wn];simp [ih,Vs]
theorem C4 {K:Heap} {e:TypeId} {v:Value} {u:List Bool} (o:Ow Fl.bool e K v u) {j:Nat} (hj:j<u.length):vload Tryz.prog K 4 (elp v j)=some (.bool (u.getD j false)):=by
 rw [o.rd.cell1 (P:=Tryz.prog) rfl (by simp) hj]
 simp [List.getD_eq_getElem?_getD,hj]
theorem Eo {x:NetD} {a p:Nat} {u:List Bool}:((reqsN x a p).map Int.ofNat).filter (fun y=>!u.getD (y/2).toNat false)=(freeN x a p u).map Int.ofNat:=by
 rw [List.filter_map]
 unfold freeN
 congr 1
theorem Ii {x:NetD} {a p:Nat} {u:List Bool}:∀y∈(freeN x a p u).map Int.ofNat,inR 0 y 9:=fun y hy=>by
 obtain ⟨i,hi,rfl⟩:=List.mem_map.1 hy
 have:=(U3 hi).1
 unfold inR;show (0:Int)≤(i:Int)∧(i:Int)≤9;omega
theorem Lk {x:NetD} {a p:Nat} {u:List Bool}:((freeN x a p u).map Int.ofNat).length≤10:=by
 rw [List.length_map]
 have h1:=List.length_filter_le (fun i=>!u.getD (i/2) false) (reqsN x a p)
 have h2:=List.length_filter_le (fun i=>decide (reqN x a i p)) (List.range 10)
 rw [List.length_range] at h2
 unfold freeN;unfold reqsN at h1 ⊢;omega
theorem Ix {x:NetD} {a p:Nat} {u:List Bool} (h:0≤pickN x a p u):∃k:Nat,pickN x a p u=k∧k<10:=by
 have:=(U3 (Ls h)).1
 exact ⟨(pickN x a p u).toNat,by omega,this⟩
theorem Dc {K:Heap} {e:TypeId} {R:Nat} {u:List Bool} (o:Ow Fl.bool e K (.slice (some ⟨R,0,some 0⟩) 5 0) u) {j:Nat} (hj:j<5):vindexAddr Tryz.prog K 132 (.pointer (some ⟨R,0,some 0⟩)) (.int .i64 (j:Int))=some (elp (.slice (some ⟨R,0,some 0⟩) 5 0) j):=by
 have hl:=Wb o
 have hj':(j:Int)<5:=by omega
 simp only [VM.live] at hl
 unfold vindexAddr
 cases hh:VM.look K ⟨R,0,some 0⟩ with
 | none=>exact absurd hh hl
 | some r=>simp [elp,hj',hh]
theorem Fk {K:Heap} {e:TypeId} {R i:Nat} {u:List Bool} (o:Ow Fl.bool e K (.slice (some ⟨R,0,some 0⟩) 5 0) u) (hl:u.length=5) (hi:i<10) :
 vcall C frz 126 [.int .i64 (i:Int),.pointer (some ⟨R,0,some 0⟩)] K=some (.bool (u.getD (i/2) false),K):=by
 rw [Qb (fn:=Tryz.f126) Tryz.func126 rfl (by kernel_rfl) rfl]
 obtain ⟨q,hq⟩:∃q,q=i/2:=⟨_,rfl⟩
 rw [← hq]
 have e4:∀[Inhabited Unit],IntKind.i64.wrap ((i:Int)/2)=(q:Int):=by intro _;rw [w64 (by omega) (by omega)];omega
 have q1:=Dc o (j:=q) (by omega)
 have q2:=C4 o (j:=q) (by omega)
 simp [e4,q1,q2]
theorem Fy {v:NetV} {x:NetD} {id a:Nat} {e:TypeId} {tail:List Value} (hr:H[id]? = some ⟨netCells v x++tail,0,e⟩) (o:dNet.Ow H v x) (hx:runOk x) (ha:(a:Int)<cnt x.1.1 x.1.2.1) :
 wp (vcall C frz 114 [.pointer (some ⟨id,0,some 0⟩),.int .i64 a] H) (fun r H'=>Ow grF 107 H' r (grN x a)∧(∀i∈ids r,H.length≤i)∧Chg H H' []):=by
 have ones:=Qd o
 have cr:=Qg x.1.1 x.1.2.1
 have hidl:=Qz hr
 rw [Qb (fn:=Tryz.f114) Tryz.func114 rfl (by kernel_rfl) rfl]
 have oB0:Ow Fl.bool 132 (H++[⟨[],0,107⟩,⟨[.bool false,.bool false,.bool false,.bool false,.bool false],0,132⟩]) (.slice (some ⟨H.length+1,0,some 0⟩) 5 0) (List.replicate 5 false):=Ow.new (D:=Fl.bool) (xs:=List.replicate 5 false) (k:=1) rfl rfl rfl rfl
 have oG0:Ow grF 107 (H++[⟨[],0,107⟩,⟨[.bool false,.bool false,.bool false,.bool false,.bool false],0,132⟩]) (.slice (some ⟨H.length,0,some 0⟩) 0 0) []:=Ow.new0 (D:=grF) (xs:=[]) rfl rfl rfl rfl
 have bp:bplaces Tryz.prog 132=some [(0,1),(1,1),(2,1),(3,1),(4,1)]:=by kernel_rfl
 simp [bp]
 refine Qk (fun n t H'=>∃(p:Nat) (r:Value),n=5-p∧p≤5∧t 0=.pointer (some ⟨id,0,some 0⟩)∧t 1=.int .i64 a∧t 5=r∧t 6=.pointer (some ⟨H.length+1,0,some 0⟩)∧t 7=.int .i64 p∧Chg H H' []∧
  Ow Fl.bool 132 H' (.slice (some ⟨H.length+1,0,some 0⟩) 5 0) (grTo x a p).2∧Ow grF 107 H' r (grTo x a p).1∧(∀j∈ids r,H.length≤j∧j≠H.length+1)) ?_ (n:=5)
  ⟨0,.slice (some ⟨H.length,0,some 0⟩) 0 0,rfl,by omega,by simp,by simp,by simp,by simp,by simp,Chg.app _,oB0,oG0,by simp⟩
 rintro n t H' ⟨p,r,rfl,hp,t0,t1,t5,t6,t7,ch,oB,oG,nG⟩ ih
 simp [t0,t1,t5,t6,t7]
 refine Qh ?_ ?_<;>intro g
 ·have hp':p<5:=by omega
  obtain ⟨l5,gat,gnd,gle⟩:=Y6 x a p hp
  have gs:=Xi x a p
  unfold grStep at gs
  have r1:=Qa hr ch (by simp)
  have o1:=Dt.chg (T:=dNet) o ch (by simp)
  have hbl:H.length+1<H'.length:=oB.lt _ (by simp)
  generalize grTo x a p=st at *
  simp [t0,t1,t5,t6,t7]
  refine Qf (Jp r1 o1 hx ha hp') ?_
  rintro L H1 ⟨oL,nL,cL⟩
  have oB1:=oB.chg cL (by simp)
  have oG1:=oG.chg cL (by simp)
  have c1:=ch.trans cL
  simp [t0,t1,t5,t6,t7]
  have hrl:((reqsN x a p).map Int.ofNat).length≤10:=by
   rw [List.length_map]
   have h2:=List.length_filter_le (fun i=>decide (reqN x a i p)) (List.range 10)
   rw [List.length_range] at h2
   exact h2
  refine Qf (O7 L _ (fun y=>st.2.getD (y/2).toNat false) _ oL (by omega) (fun i hi=>by have:=nL i hi;have:=ch.1;omega) (fun K hK F y hy=>?_)) ?_
  ·obtain ⟨i,hi,rfl⟩:=List.mem_map.1 hy
   have hi10:i<10:=List.mem_range.1 (List.mem_filter.1 hi).1
   have:=Fk (frz:=F) (i:=i) (oB1.chg hK (fun j hj hh=>by have:=nL j hh;simp at hj;omega)) l5 hi10
   simp
   exact this
  rintro U H2 ⟨oU,nU,cU⟩
  have fm:((reqsN x a p).map Int.ofNat).filter (fun y=>!(fun y=>st.2.getD (y/2).toNat false) y)=(freeN x a p st.2).map Int.ofNat:=Eo
  rw [fm] at oU
  have c2:=c1.trans' cU (fun i hi=>.inr (by have:=nL i hi;have:=ch.1;omega))
  have oB2:=oB1.chg cU (fun j hj hh=>by have:=nL j hh;simp at hj;omega)
  have lG:=oG.lt
  have oG2:=oG1.chg cU (fun j hj hh=>by have:=nL j hh;have:=lG j hj;omega)
  have r2:=Qa hr c2 (by simp)
  have o2:=Dt.chg (T:=dNet) o c2 (by simp)
  unfold netCells at r2
  simp only [List.cons_append,List.nil_append] at r2
  obtain ⟨z,hz⟩:∃z,z=5*a+p:=⟨_,rfl⟩
  have hzl:z<x.2.2.2.2.1.length:=by have:=hx.2.1.2.2.1;omega
  have e1:=@w6 (5*(a:Int)) (by omega)
  have e2:∀[Inhabited Unit],IntKind.i64.wrap (5*(a:Int)+(p:Int))=(z:Int):=by intro _;rw [w64 (by omega) (by omega)];omega
  have rd:=Rd.isI o2.2.2.2.2.1.1.rd
  have q1:=rd.idx (P:=Tryz.prog) (ty:=26) (e:=3) (by simp) (i:=(z:Int)) (by omega) (by omega)
  have q2:=rd.load (P:=Tryz.prog) (e:=3) (by simp) hzl
  simp only [Int.toNat_natCast] at q1 q2
  have hti:inR 0 (x.2.2.2.2.1.getD z 0) 9:=by
   have:x.2.2.2.2.1.getD z 0=x.2.2.2.2.1[z]:=by simp [List.getD_eq_getElem?_getD,hzl]
   rw [this];exact hx.2.2.2.2 _ (List.getElem_mem hzl)
  have ff:=fun F=>Mj (frz:=F) (H:=H2) U _ _ oU.rd.isI (by have:=Lk (x:=x) (a:=a) (p:=p) (u:=st.2);omega) Ii hti
  have hpk:firstF (x.2.2.2.2.1.getD z 0) ((freeN x a p st.2).map Int.ofNat)=pickN x a p st.2:=by rw [hz];rfl
  rw [hpk] at ff
  generalize x.2.2.2.2.1.getD z 0=T at *
  simp [t0,t1,t5,t6,t7,VM.look,VM.vnil,r2,ones,e1,e2,q1,q2,ff]
  by_cases g2:0≤pickN x a p st.2
  rotate_left
  ·rw [if_neg g2] at gs
   simp [t0,t1,t5,t6,t7,g2]
   refine ih (5-(p+1)) _ _ ⟨p+1,r,rfl,by omega,by simp [t0],by simp [t1],by simp [t5],by simp [t6],?_,c2,by rw [gs];exact oB2,by rw [gs];exact oG2,nG⟩ (by omega)
   simp [t7];rw [w64 (by omega) (by omega)]
  rw [if_pos g2] at gs
  obtain ⟨k,hk,hk10⟩:=Ix g2
  rw [hk,Int.toNat_natCast] at gs
  obtain ⟨q,hq⟩:∃q,q=k/2:=⟨_,rfl⟩
  rw [← hq] at gs
  have e4:∀[Inhabited Unit],IntKind.i64.wrap ((k:Int)/2)=(q:Int):=by intro _;rw [w64 (by omega) (by omega)];omega
  have ai:=Dc oB2 (j:=q) (by omega)
  obtain ⟨H3,s3,oB3,c3,l3⟩:=oB2.put1 (P:=Tryz.prog) (frz:=H.length) rfl (et:=4) (ag:=false) (by simp) (j:=q) (x:=.bool true) (y:=true) (by omega) rfl rfl rfl (fun i hi=>by simp at hi;omega)
  have c03:=c2.trans' c3 (fun i hi=>.inr (by simp at hi;omega))
  have oG3:=oG2.chg c3 (fun j hj hh=>(nG j hj).2 (by simpa using hh))
  have l03:=c03.1
  obtain ⟨r',H4,hap,oG4,c4,n4⟩:=oG3.push (P:=Tryz.prog) (frz:=H.length) (ty:=76) (a:=(a,p,k)) (by simp) rfl (by omega) (fun i hi=>(nG i hi).1)
  simp only [Vs] at hap
  have oB4:=oB3.chg c4 (fun j hj hh=>by simp at hj;exact (nG j hh).2 hj)
  have l2:=c2.1
  have l13:=ch.1
  have lcU:=cU.1
  have lcL:=cL.1
  simp [-Qe,-Qm,t0,t1,t5,t6,t7,hk,e4,ai,s3,hap]
  refine ih (5-(p+1)) _ _ ⟨p+1,r',rfl,by omega,by simp [t0],by simp [t1],by simp,by simp [t6],?_,c03.trans' c4 (fun i hi=>.inr (nG i hi).1),by rw [gs];exact oB4,by rw [gs];exact oG4,fun j hj=>?_⟩ (by omega)
  ·simp [t7];rw [w64 (by omega) (by omega)]
  ·rcases n4 j hj with h1|h1
   ·exact nG j h1
   ·omega
 ·have:p=5:=by omega
  subst this
  simp [t0,t1,t5,t6,t7]
  exact ⟨oG,fun i hi=>(nG i hi).1,ch⟩
theorem P6 (x:NetD) (n:Nat):(allTo x n).length≤5*n:=(Yk x n).2.2
noncomputable def enterTo (x:NetD) (n:Nat):List Nat:=(List.range n).filter fun k=>entersN x k
theorem Vq (x:NetD) (n:Nat):enterTo x (n+1)=if entersN x n then enterTo x n++[n] else enterTo x n:=by
 unfold enterTo;rw [List.range_succ,List.filter_append]
 by_cases h:entersN x n<;>simp [h]
theorem Tq (x:NetD) (n:Nat):(enterTo x n).length≤n:=by
 have:=List.length_filter_le (fun k=>decide (entersN x k)) (List.range n)
 rw [List.length_range] at this;exact this
theorem Lc {v:NetV} {x:NetD} {id:Nat} {e:TypeId} {tail:List Value} (hr:H[id]? = some ⟨netCells v x++tail,0,e⟩) (o:dNet.Ow H v x) (hx:runOk x) :
 wp (vcall C frz 96 [.pointer (some ⟨id,0,some 0⟩)] H) (fun r H'=>Ow grF 107 H' r (allN x)∧(∀i∈ids r,H.length≤i)∧Chg H H' []):=by
 have ones:=Qd o
 obtain ⟨N,hN⟩:∃N:Nat,cnt x.1.1 x.1.2.1=N:=⟨(cnt x.1.1 x.1.2.1).toNat,by have:=Qg x.1.1 x.1.2.1;omega⟩
 have hN2:N≤16:=by have:=Qg x.1.1 x.1.2.1;omega
 have hall:allN x=allTo x N:=by unfold allN;rw [hN,Int.toNat_natCast]
 have hidl:=Qz hr
 rw [Qb (fn:=Tryz.f96) Tryz.func96 rfl (by kernel_rfl) rfl]
 have hr':=hr
 unfold netCells at hr'
 simp only [List.cons_append,List.nil_append] at hr'
 have rd:=(RdL.app (L:=[⟨[],0,107⟩]) o.2.2.2.2.2.1.1.rd)
 have ll:=rd.1.len (P:=Tryz.prog) (ty:=55) (by simp)
 rw [rd.2.1] at ll
 have hsl:x.2.2.2.2.2.1.length=N:=by have:=hx.2.1.2.2.2.1;omega
 rw [hsl] at ll
 rw [hall]
 simp [VM.look,VM.vnil,hr',Qx hr',ones,ll]
 refine Qk (fun n t H'=>∃(i:Nat) (r:Value),n=N-i∧i≤N∧t 0=.pointer (some ⟨id,0,some 0⟩)∧t 3=r∧t 10=.int .i64 N∧t 11=.int .i64 i∧Chg H H' []∧Ow grF 107 H' r (allTo x i)∧(∀j∈ids r,H.length≤j)) ?_ (n:=N)
  ⟨0,.slice (some ⟨H.length,0,some 0⟩) 0 0,rfl,by omega,by simp,by simp,by simp,by simp,Chg.app _,Ow.new0 (D:=grF) (xs:=[]) rfl rfl rfl rfl,by simp⟩
 rintro n t H' ⟨i,r,rfl,hi,t0,t3,t10,t11,ch,oo,nr⟩ ih
 simp [t0,t3,t10,t11]
 refine Qh ?_ ?_<;>intro g
 ·have hi':i<N:=by omega
  have r1:=Qa hr ch (by simp)
  have o1:=Dt.chg (T:=dNet) o ch (by simp)
  simp [t0,t3,t10,t11]
  refine Qf (Fy r1 o1 hx (a:=i) (by omega)) ?_
  rintro L H1 ⟨oL,nL,cL⟩
  have l1:=ch.1
  have l2:=cL.1
  have al:=P6 x i
  have gl:=J8 x i
  obtain ⟨r',H2,hap,o2,c2,n2⟩:=(oo.chg cL (by simp)).append (P:=Tryz.prog) (frz:=H.length) (ty:=76) oL.rd (by simp) (M7 _) (by omega) nr
  have asu:=Za x i
  simp [-Qe,-Qm,t0,t3,t10,t11,hap]
  refine ih (N-(i+1)) _ _ ⟨i+1,r',rfl,by omega,by simp [t0],by simp,by simp [t10],?_,(ch.trans cL).trans' c2 (fun j hj=>.inr (nr j hj)),by rw [asu];exact o2,fun j hj=>?_⟩ (by omega)
  ·simp [t11];rw [w64 (by omega) (by omega)]
  ·rcases n2 j hj with h1|h1
   ·exact nr j h1
   ·omega
 ·have:i=N:=by omega
  subst this
  simp [t0,t3,t10,t11]
  exact ⟨oo,nr,ch⟩
theorem Ko {v:NetV} {x:NetD} {id:Nat} {e:TypeId} {tail:List Value} (hr:H[id]? = some ⟨netCells v x++tail,0,e⟩) (o:dNet.Ow H v x) (hx:runOk x) :
 wp (vcall C frz 97 [.pointer (some ⟨id,0,some 0⟩)] H) (fun r H'=>Ow Fl.int 3 H' r ((enterN x).map Int.ofNat)∧(∀i∈ids r,H.length≤i)∧Chg H H' []):=by
 have ones:=Qd o
 obtain ⟨N,hN⟩:∃N:Nat,cnt x.1.1 x.1.2.1=N:=⟨(cnt x.1.1 x.1.2.1).toNat,by have:=Qg x.1.1 x.1.2.1;omega⟩
 have hN2:N≤16:=by have:=Qg x.1.1 x.1.2.1;omega
 have hall:enterN x=enterTo x N:=by unfold enterN enterTo;rw [hN,Int.toNat_natCast]
 have hidl:=Qz hr
 rw [Qb (fn:=Tryz.f97) Tryz.func97 rfl (by kernel_rfl) rfl]
 unfold netCells at hr
 simp only [List.cons_append,List.nil_append] at hr
 have rd:=(RdL.app (L:=[⟨[],0,3⟩]) o.2.2.2.2.2.1.1.rd)
 have ll:=rd.1.len (P:=Tryz.prog) (ty:=55) (by simp)
 rw [rd.2.1] at ll
 have hsl:x.2.2.2.2.2.1.length=N:=by have:=hx.2.1.2.2.2.1;omega
 have hbl:x.2.2.1.length=10*N:=by have:=hx.2.1.1;omega
 rw [hsl] at ll
 rw [hall]
 simp [VM.look,VM.vnil,hr,Qx hr,ones,ll]
 refine Qk (fun n t H'=>∃(i:Nat) (r:Value),n=N-i∧i≤N∧t 0=.pointer (some ⟨id,0,some 0⟩)∧t 3=r∧t 10=v.2.2.2.2.2.1.1∧t 11=.int .i64 N∧t 12=.int .i64 i∧Chg H H' []∧Ow Fl.int 3 H' r ((enterTo x i).map Int.ofNat)∧(∀j∈ids r,H.length≤j)) ?_ (n:=N)
  ⟨0,.slice (some ⟨H.length,0,some 0⟩) 0 0,rfl,by omega,by simp,by simp,by simp,by simp,by simp,Chg.app _,Ow.new0 (D:=Fl.int) (xs:=[]) rfl rfl rfl rfl,by simp⟩
 rintro n t H' ⟨i,r,rfl,hi,t0,t3,t10,t11,t12,ch,oo,nr⟩ ih
 simp [t0,t3,t10,t11,t12]
 refine Qh ?_ ?_<;>intro g
 rotate_left
 ·have:i=N:=by omega
  subst this
  simp [t0,t3,t10,t11,t12]
  exact ⟨oo,nr,ch⟩
 have hi':i<N:=by omega
 have r1:=Qa hr ch (by simp)
 have o1:=Dt.chg (T:=dNet) o ch (by simp)
 have his:i<x.2.2.2.2.2.1.length:=by omega
 obtain ⟨u,a1,a2,a3,a4⟩:=Q5 o1.2.2.2.2.2.1.1.rd (ty:=55) (e:=100) (by simp) (by simp) his
 have la:=a4.len (P:=Tryz.prog) (ty:=100) (by simp)
 have qa:VM.one u=true∧u.cells=#[u]:=⟨a4.one',a4.cells⟩
 have hgd:x.2.2.2.2.2.1.getD i []=x.2.2.2.2.2.1[i]:=by simp [List.getD_eq_getElem?_getD,his]
 have hes:=Vq x i
 have hel:=Tq x i
 simp [t0,t3,t10,t11,t12,a2,a3]
 rw [Qo (h:=by kernel_rfl)]
 by_cases g0:x.2.2.2.2.2.1[i]=[]
 ·have hne:¬entersN x i:=fun k=>k.1 (by rw [hgd];exact g0)
  rw [if_neg hne] at hes
  rw [g0] at la
  simp [t0,t3,t10,t11,t12,la]
  refine ih (N-(i+1)) _ _ ⟨i+1,r,rfl,by omega,by simp [t0],by simp [t3],by simp [t10],by simp [t11],?_,ch,by rw [hes];exact oo,nr⟩ (by omega)
  simp [t12];rw [w64 (by omega) (by omega)]
 have g0':0<x.2.2.2.2.2.1[i].length:=List.length_pos_iff.2 g0
 obtain ⟨z0,f1,f2,f3,c1,c2,c3,_⟩:=front a4 g0
 obtain ⟨en1,en2,en3⟩:=Zl hx (k:=i) (by rw [hgd];exact g0)
 have hsh:srcHead x i=headL x.2.2.2.2.2.1[i]:=by unfold srcHead;rw [hgd]
 have hcl:=en1.2
 rw [hsh] at en2 hcl
 generalize headL x.2.2.2.2.2.1[i]=f at *
 have bA:∀F,vcall C F 99 [.int .i64 (i:Int),.int .i64 4,.int .i64 f.2.2.1] H'=some (.int .i64 (entAt x i:Int),H'):=fun F=>by
  rw [Y3,if_pos ⟨⟨by omega,by omega⟩,⟨by omega,by omega⟩,hcl⟩,en2];congr 3
 have key:entersN x i↔(x.2.2.1.getD (entAt x i) []).length<3:=⟨fun k=>k.2,fun k=>⟨by rw [hgd];exact g0,k⟩⟩
 have hzl:entAt x i<x.2.2.1.length:=by unfold inR at hcl;omega
 generalize entAt x i=z at *
 obtain ⟨u',b1,b2,b3,b4⟩:=Q5 o1.2.2.1.1.rd (ty:=55) (e:=100) (by simp) (by simp) hzl
 have lb:=b4.len (P:=Tryz.prog) (ty:=100) (by simp)
 have hgz:x.2.2.1.getD z []=x.2.2.1[z]:=by simp [List.getD_eq_getElem?_getD,hzl]
 have qb:VM.one u'=true∧u'.cells=#[u']:=⟨b4.one',b4.cells⟩
 rw [hgz] at key
 simp [-vfieldAddr,Qu,t0,t3,t10,t11,t12,la,g0',VM.look,VM.vnil,r1,ones,z0,f2,c2,bA,b2,b3,lb]
 refine Qh ?_ ?_<;>intro g1
 ·rw [if_pos (key.2 (by omega))] at hes
  obtain ⟨r',H2,hap,o2,c2',n2⟩:=oo.push (P:=Tryz.prog) (frz:=H.length) (ty:=26) (a:=(i:Int)) (by simp) rfl (by simp;omega) nr
  simp only [Fl.int_f] at hap
  have l0:=ch.1
  simp [t0,t3,t10,t11,t12,hap]
  refine ih (N-(i+1)) _ _ ⟨i+1,r',rfl,by omega,by simp [t0],by simp,by simp [t10],by simp [t11],?_,ch.trans' c2' (fun j hj=>.inr (nr j hj)),?_,fun j hj=>?_⟩ (by omega)
  ·simp [t12];rw [w64 (by omega) (by omega)]
  ·rw [hes,List.map_append];exact o2
  ·rcases n2 j hj with h1|h1
   ·exact nr j h1
   ·omega
 ·rw [if_neg (fun k=>by have:=key.1 k;omega)] at hes
  simp [t0,t3,t10,t11,t12]
  refine ih (N-(i+1)) _ _ ⟨i+1,r,rfl,by omega,by simp [t0],by simp [t3],by simp [t10],by simp [t11],?_,ch,by rw [hes];exact oo,nr⟩ (by omega)
  simp [t12];rw [w64 (by omega) (by omega)]
noncomputable def freeTo (x:NetD) (a p:Nat) (u:List Bool) (n:Nat):List Nat:=(List.range n).filter fun i=>!u.getD (i/2) false&&decide (reqN x a i p)
theorem Jj (x:NetD) (a p:Nat) (u:List Bool):freeTo x a p u 10=freeN x a p u:=by
 unfold freeTo freeN reqsN;rw [List.filter_filter]
theorem Mi (x:NetD) (a p:Nat) (u:List Bool) (n:Nat):freeTo x a p u (n+1)=if u.getD (n/2) false=false∧reqN x a n p then freeTo x a p u n++[n] else freeTo x a p u n:=by
 unfold freeTo;rw [List.range_succ,List.filter_append]
 by_cases h:u.getD (n/2) false=false
 ·by_cases h2:reqN x a n p
  ·rw [if_pos ⟨h,h2⟩];simp only [List.filter_cons,h,h2];simp
  ·rw [if_neg (fun k=>h2 k.2)];simp only [List.filter_cons,h,h2];simp
 ·rw [if_neg (fun k=>h k.1)]
  have h':u.getD (n/2) false=true:=by simpa using h
  simp only [List.filter_cons,h'];simp
theorem Je (x:NetD) (a p:Nat) (u:List Bool) (n:Nat):(freeTo x a p u n).length≤n:=by
 have:=List.length_filter_le (fun i=>!u.getD (i/2) false&&decide (reqN x a i p)) (List.range n)
 rw [List.length_range] at this;exact this
theorem C1 {K:Heap} {e:TypeId} {v:Value} {u:List Bool} (o:Ow Fl.bool e K v u) {j:Nat} (hj:j<u.length):vindexAddr Tryz.prog K 127 v (.int .i64 (j:Int))=some (elp v j):=by
 have:=o.rd.idx (P:=Tryz.prog) (ty:=127) (e:=4) (by simp) (i:=(j:Int)) (by omega) (by omega)
 simpa using this
theorem Lj {v:NetV} {x:NetD} {a:Nat} (o:dNet.Ow H v x) (hx:runOk x) (ha:(a:Int)<cnt x.1.1 x.1.2.1) :
 wp (vcall C frz 81 [dNet.val v x,.int .i64 a] H) (fun r H'=>Ow grF 107 H' r (grN x a)∧(∀i∈ids r,H.length≤i)∧Chg H H' []):=by
 have ones:=Qd o
 have cr:=Qg x.1.1 x.1.2.1
 simp only [Qc]
 rw [Qb (fn:=Tryz.f81) Tryz.func81 rfl (by kernel_rfl) rfl]
 obtain ⟨G,hG⟩:∃G,G=H++[⟨netCells v x,0,57⟩,⟨[],0,107⟩,⟨[.bool false,.bool false,.bool false,.bool false,.bool false],0,4⟩]:=⟨_,rfl⟩
 have oB0:Ow Fl.bool 4 G (.slice (some ⟨H.length+2,0,some 0⟩) 5 0) (List.replicate 5 false):=by rw [hG];exact Ow.new (D:=Fl.bool) (xs:=List.replicate 5 false) (k:=2) rfl rfl rfl rfl
 have oG0:Ow grF 107 G (.slice (some ⟨H.length+1,0,some 0⟩) 0 0) []:=by rw [hG];exact Ow.new (D:=grF) (xs:=[]) (k:=1) rfl rfl rfl rfl
 have cG:Chg H G []:=by rw [hG];exact Chg.app _
 have hr:G[H.length]? = some ⟨netCells v x,0,57⟩:=by rw [hG];simp
 have hGs:H++[⟨netCells v x,0,57⟩,⟨[],0,107⟩,⟨[.bool false,.bool false,.bool false,.bool false,.bool false],0,4⟩]=G:=hG.symm
 have lG0:G.length=H.length+3:=by rw [hG];simp
 unfold netCells at hr hGs
 simp [ones]
 rw [hGs]
 clear hG hGs
 refine Qk (fun n t H'=>∃(p:Nat) (r:Value),n=5-p∧p≤5∧t 1=.int .i64 a∧t 2=.pointer (some ⟨H.length,0,some 0⟩)∧t 5=r∧t 6=.slice (some ⟨H.length+2,0,some 0⟩) 5 0∧t 7=.int .i64 p∧Chg H H' []∧H'[H.length]? = some ⟨netCells v x,0,57⟩∧
  Ow Fl.bool 4 H' (.slice (some ⟨H.length+2,0,some 0⟩) 5 0) (grTo x a p).2∧Ow grF 107 H' r (grTo x a p).1∧(∀j∈ids r,H.length+1≤j∧j≠H.length+2)) ?_ (n:=5)
  ⟨0,.slice (some ⟨H.length+1,0,some 0⟩) 0 0,rfl,by omega,by simp,by simp,by simp,by simp,by simp,cG,by unfold netCells;exact hr,oB0,oG0,by simp⟩
 rintro n t H' ⟨p,r,rfl,hp,t1,t2,t5,t6,t7,ch,b0,oB,oG,nG⟩ ih
 simp [t1,t2,t5,t6,t7]
 refine Qh ?_ ?_<;>intro g
 rotate_left
 ·have:p=5:=by omega
  subst this
  simp [t1,t2,t5,t6,t7]
  exact ⟨oG,fun i hi=>by have:=(nG i hi).1;omega,ch⟩
 have hp':p<5:=by omega
 obtain ⟨l5,gat,gnd,gle⟩:=Y6 x a p hp
 have gs:=Xi x a p
 unfold grStep at gs
 have hbl:H.length+2<H'.length:=oB.lt _ (by simp)
 have lGr:=oG.lt
 generalize grTo x a p=st at *
 simp [t1,t2,t5,t6,t7]
 refine Qk (fun n t1' H1=>∃(i:Nat) (f:Value),n=10-i∧i≤10∧t1' 1=.int .i64 a∧t1' 2=.pointer (some ⟨H.length,0,some 0⟩)∧t1' 5=r∧t1' 6=.slice (some ⟨H.length+2,0,some 0⟩) 5 0∧t1' 7=.int .i64 p∧t1' 8=f∧t1' 9=.int .i64 i∧Chg H' H1 []∧
  Ow Fl.int 3 H1 f ((freeTo x a p st.2 i).map Int.ofNat)∧(∀j∈ids f,H'.length≤j)) ?_ (n:=10)
  ⟨0,.slice (some ⟨H'.length,0,some 0⟩) 0 0,rfl,by omega,by simp [t1],by simp [t2],by simp [t5],by simp [t6],by simp [t7],by simp,by simp,Chg.app _,Ow.new0 (D:=Fl.int) (xs:=[]) rfl rfl rfl rfl,by simp⟩
 clear t1 t2 t5 t6 t7
 rintro n t H1 ⟨i,f,rfl,hi,t1,t2,t5,t6,t7,t8,t9,c1,oF,nF⟩ ih2
 have c01:=ch.trans c1
 have b1:=Qa b0 c1 (by simp)
 have o1:=Dt.chg (T:=dNet) o c01 (by simp)
 have oB1:=oB.chg c1 (by simp)
 unfold netCells at b1
 have l1:=c1.1
 simp [t1,t2,t5,t6,t7,t8,t9]
 refine Qh ?_ ?_<;>intro g1
 ·have hi':i<10:=by omega
  obtain ⟨q,hq⟩:∃q,q=i/2:=⟨_,rfl⟩
  have e4:∀[Inhabited Unit],IntKind.i64.wrap ((i:Int)/2)=(q:Int):=by intro _;rw [w64 (by omega) (by omega)];omega
  have fs:=Mi x a p st.2 i
  have fl:=Je x a p st.2 i
  rw [← hq] at fs
  have q1:=C1 oB1 (j:=q) (by omega)
  have q2:=C4 oB1 (j:=q) (by omega)
  have rq:=fun F=>Ou (frz:=F) (H:=H1) (i:=i) o1 hx ha hi' hp'
  simp only [Qc] at rq
  generalize st.2.getD q false=B at *
  simp [t1,t2,t5,t6,t7,t8,t9,e4,q1,q2]
  cases B with
  | true=>
   rw [if_neg (by simp)] at fs
   simp [t1,t2,t5,t6,t7,t8,t9]
   refine ih2 (10-(i+1)) _ _ ⟨i+1,f,rfl,by omega,by simp [t1],by simp [t2],by simp [t5],by simp [t6],by simp [t7],by simp [t8],?_,c1,by rw [fs];exact oF,nF⟩ (by omega)
   simp [t9];rw [w64 (by omega) (by omega)]
  | false=>
   simp [t1,t2,t5,t6,t7,t8,t9,VM.look,b1,ones,rq]
   by_cases g2:reqN x a i p
   ·rw [if_pos ⟨rfl,g2⟩] at fs
    obtain ⟨f',H2,hap,o2,c2,n2⟩:=oF.push (P:=Tryz.prog) (frz:=H.length) (ty:=26) (a:=(i:Int)) (by simp) rfl (by simp;omega) (fun j hj=>by have:=nF j hj;omega)
    simp only [Fl.int_f] at hap
    have hF1:H.length≤H1.length:=by omega
    simp [t1,t2,t5,t6,t7,t8,t9,g2,hap,hF1]
    refine ih2 (10-(i+1)) _ _ ⟨i+1,f',rfl,by omega,by simp [t1],by simp [t2],by simp [t5],by simp [t6],by simp [t7],by simp,?_,c1.trans' c2 (fun j hj=>.inr (nF j hj)),?_,fun j hj=>?_⟩ (by omega)
    ·simp [t9];rw [w64 (by omega) (by omega)]
    ·rw [fs,List.map_append];exact o2
    ·rcases n2 j hj with h1|h1
     ·exact nF j h1
     ·omega
   ·rw [if_neg (fun k=>g2 k.2)] at fs
    simp [t1,t2,t5,t6,t7,t8,t9,g2]
    refine ih2 (10-(i+1)) _ _ ⟨i+1,f,rfl,by omega,by simp [t1],by simp [t2],by simp [t5],by simp [t6],by simp [t7],by simp [t8],?_,c1,by rw [fs];exact oF,nF⟩ (by omega)
    simp [t9];rw [w64 (by omega) (by omega)]
 have hi10:i=10:=by omega
 subst hi10
 clear ih2
 rw [Jj] at oF
 obtain ⟨z,hz⟩:∃z,z=5*a+p:=⟨_,rfl⟩
 have hzl:z<x.2.2.2.2.1.length:=by have:=hx.2.1.2.2.1;omega
 have e1:=@w6 (5*(a:Int)) (by omega)
 have e2:∀[Inhabited Unit],IntKind.i64.wrap (5*(a:Int)+(p:Int))=(z:Int):=by intro _;rw [w64 (by omega) (by omega)];omega
 have rd:=Rd.isI o1.2.2.2.2.1.1.rd
 have q1:=rd.idx (P:=Tryz.prog) (ty:=26) (e:=3) (by simp) (i:=(z:Int)) (by omega) (by omega)
 have q2:=rd.load (P:=Tryz.prog) (e:=3) (by simp) hzl
 simp only [Int.toNat_natCast] at q1 q2
 have hti:inR 0 (x.2.2.2.2.1.getD z 0) 9:=by
  have:x.2.2.2.2.1.getD z 0=x.2.2.2.2.1[z]:=by simp [List.getD_eq_getElem?_getD,hzl]
  rw [this];exact hx.2.2.2.2 _ (List.getElem_mem hzl)
 have ff:=fun F=>Nl (frz:=F) (H:=H1) f _ _ oF.rd.isI (by have:=Lk (x:=x) (a:=a) (p:=p) (u:=st.2);omega) Ii hti
 have hpk:firstF (x.2.2.2.2.1.getD z 0) ((freeN x a p st.2).map Int.ofNat)=pickN x a p st.2:=by rw [hz];rfl
 rw [hpk] at ff
 have oG1:=oG.chg c1 (by simp)
 generalize x.2.2.2.2.1.getD z 0=T at *
 simp [t1,t2,t5,t6,t7,t8,t9,VM.look,b1,ones,e1,e2,q1,q2,ff]
 by_cases g2:0≤pickN x a p st.2
 rotate_left
 ·rw [if_neg g2] at gs
  simp [t1,t2,t5,t6,t7,g2]
  refine ih (5-(p+1)) _ _ ⟨p+1,r,rfl,by omega,by simp [t1],by simp [t2],by simp [t5],by simp [t6],?_,ch.trans c1,by unfold netCells;exact b1,by rw [gs];exact oB1,by rw [gs];exact oG1,nG⟩ (by omega)
  simp [t7];rw [w64 (by omega) (by omega)]
 rw [if_pos g2] at gs
 obtain ⟨k,hk,hk10⟩:=Ix g2
 rw [hk,Int.toNat_natCast] at gs
 obtain ⟨q,hq⟩:∃q,q=k/2:=⟨_,rfl⟩
 rw [← hq] at gs
 have e4:∀[Inhabited Unit],IntKind.i64.wrap ((k:Int)/2)=(q:Int):=by intro _;rw [w64 (by omega) (by omega)];omega
 have ai:=C1 oB1 (j:=q) (by omega)
 obtain ⟨H3,s3,oB3,c3,l3⟩:=oB1.put1 (P:=Tryz.prog) (frz:=H.length) rfl (et:=4) (ag:=false) (by simp) (j:=q) (x:=.bool true) (y:=true) (by omega) rfl rfl rfl (fun i hi=>by simp at hi;omega)
 have c13:=(ch.trans c1).trans' c3 (fun i hi=>.inr (by simp at hi;omega))
 have oG3:=oG1.chg c3 (fun j hj hh=>(nG j hj).2 (by simpa using hh))
 have b3:=Qa b1 c3 (by simp)
 obtain ⟨r',H4,hap,oG4,c4,n4⟩:=oG3.push (P:=Tryz.prog) (frz:=H.length) (ty:=76) (a:=(a,p,k)) (by simp) rfl (by omega) (fun i hi=>by have:=(nG i hi).1;omega)
 simp only [Vs] at hap
 have oB4:=oB3.chg c4 (fun j hj hh=>by simp at hj;exact (nG j hh).2 hj)
 have b4:=Qa b3 c4 (fun hh=>by have:=(nG _ hh).1;omega)
 simp [-Qe,-Qm,t1,t2,t5,t6,t7,hk,e4,ai,s3,hap]
 refine ih (5-(p+1)) _ _ ⟨p+1,r',rfl,by omega,by simp [t1],by simp [t2],by simp,by simp [t6],?_,c13.trans' c4 (fun i hi=>.inr (by have:=(nG i hi).1;omega)),by unfold netCells;exact b4,by rw [gs];exact oB4,by rw [gs];exact oG4,fun j hj=>?_⟩ (by omega)
 ·simp [t7];rw [w64 (by omega) (by omega)]
 ·rcases n4 j hj with h1|h1
  ·exact nG j h1
  ·have:=c3.1;omega
theorem Mv {v:NetV} {x:NetD} (o:dNet.Ow H v x) (hx:runOk x) :
 wp (vcall C frz 45 [dNet.val v x] H) (fun r H'=>Ow grF 107 H' r (allN x)∧(∀i∈ids r,H.length≤i)∧Chg H H' []):=by
 have ones:=Qd o
 obtain ⟨N,hN⟩:∃N:Nat,cnt x.1.1 x.1.2.1=N:=⟨(cnt x.1.1 x.1.2.1).toNat,by have:=Qg x.1.1 x.1.2.1;omega⟩
 have hN2:N≤16:=by have:=Qg x.1.1 x.1.2.1;omega
 have hall:allN x=allTo x N:=by unfold allN;rw [hN,Int.toNat_natCast]
 simp only [Qc]
 rw [Qb (fn:=Tryz.f45) Tryz.func45 rfl (by kernel_rfl) rfl]
 obtain ⟨G,hG⟩:∃G,G=H++[⟨netCells v x,0,57⟩,⟨[],0,107⟩]:=⟨_,rfl⟩
 have oG0:Ow grF 107 G (.slice (some ⟨H.length+1,0,some 0⟩) 0 0) []:=by rw [hG];exact Ow.new (D:=grF) (xs:=[]) (k:=1) rfl rfl rfl rfl
 have cG:Chg H G []:=by rw [hG];exact Chg.app _
 have hr:G[H.length]? = some ⟨netCells v x,0,57⟩:=by rw [hG];simp
 have hGs:H++[⟨netCells v x,0,57⟩,⟨[],0,107⟩]=G:=hG.symm
 have lG0:G.length=H.length+2:=by rw [hG];simp
 unfold netCells at hr hGs
 rw [hall]
 simp [ones]
 rw [hGs]
 clear hG hGs
 refine Qk (fun n t H'=>∃(i:Nat) (r:Value),n=N-i∧i≤N∧t 1=.pointer (some ⟨H.length,0,some 0⟩)∧t 3=r∧t 4=.int .i64 i∧Chg H H' []∧H'[H.length]? = some ⟨netCells v x,0,57⟩∧Ow grF 107 H' r (allTo x i)∧(∀j∈ids r,H.length+1≤j)) ?_ (n:=N)
  ⟨0,.slice (some ⟨H.length+1,0,some 0⟩) 0 0,rfl,by omega,by simp,by simp,by simp,cG,by unfold netCells;exact hr,oG0,by simp⟩
 rintro n t H' ⟨i,r,rfl,hi,t1,t3,t4,ch,b0,oo,nr⟩ ih
 have o1:=Dt.chg (T:=dNet) o ch (by simp)
 have b0':=b0
 unfold netCells at b0'
 have nc:=fun F=>Wj (frz:=F) (H:=H') x.1.1 x.1.2.1
 have nc2:=fun F=>Qw (frz:=F) (H:=H') x.1.1 x.1.2.1
 rw [hN] at nc nc2
 simp [t1,t3,t4,VM.look,b0',ones,nc,nc2]
 refine Qh ?_ ?_<;>intro g
 ·have hi':i<N:=by omega
  have gr:=Lj (frz:=H.length) (a:=i) o1 hx (by omega)
  simp only [Qc] at gr
  simp [t1,t3,t4,VM.look,b0',ones]
  refine Qf gr ?_
  rintro L H1 ⟨oL,nL,cL⟩
  have l1:=ch.1
  have l2:=cL.1
  have al:=P6 x i
  have gl:=J8 x i
  have b1:=Qa b0 cL (by simp)
  obtain ⟨r',H2,hap,o2,c2,n2⟩:=(oo.chg cL (by simp)).append (P:=Tryz.prog) (frz:=H.length) (ty:=76) oL.rd (by simp) (M7 _) (by omega) (fun j hj=>by have:=nr j hj;omega)
  have asu:=Za x i
  simp [-Qe,-Qm,t1,t3,t4,hap]
  refine ih (N-(i+1)) _ _ ⟨i+1,r',rfl,by omega,by simp [t1],by simp,?_,(ch.trans cL).trans' c2 (fun j hj=>.inr (by have:=nr j hj;omega)),Qa b1 c2 (fun hh=>by have:=nr _ hh;omega),by rw [asu];exact o2,fun j hj=>?_⟩ (by omega)
  ·simp [t4];rw [w64 (by omega) (by omega)]
  ·rcases n2 j hj with h1|h1
   ·exact nr j h1
   ·have:=Qz b0;omega
 ·have:i=N:=by omega
  subst this
  simp [t1,t3,t4]
  exact ⟨oo,fun j hj=>by have:=nr j hj;omega,ch⟩
theorem Uf {v:NetV} {x:NetD} (o:dNet.Ow H v x) (hx:runOk x) :
 wp (vcall C frz 46 [dNet.val v x] H) (fun r H'=>Ow Fl.int 3 H' r ((enterN x).map Int.ofNat)∧(∀i∈ids r,H.length≤i)∧Chg H H' []):=by
 have ones:=Qd o
 obtain ⟨N,hN⟩:∃N:Nat,cnt x.1.1 x.1.2.1=N:=⟨(cnt x.1.1 x.1.2.1).toNat,by have:=Qg x.1.1 x.1.2.1;omega⟩
 have hN2:N≤16:=by have:=Qg x.1.1 x.1.2.1;omega
 have hall:enterN x=enterTo x N:=by unfold enterN enterTo;rw [hN,Int.toNat_natCast]
 simp only [Qc]
 rw [Qb (fn:=Tryz.f46) Tryz.func46 rfl (by kernel_rfl) rfl]
 have hsl:x.2.2.2.2.2.1.length=N:=by have:=hx.2.1.2.2.2.1;omega
 have hbl:x.2.2.1.length=10*N:=by have:=hx.2.1.1;omega
 obtain ⟨G,hG⟩:∃G,G=H++[⟨netCells v x,0,57⟩,⟨[],0,3⟩]:=⟨_,rfl⟩
 have oG0:Ow Fl.int 3 G (.slice (some ⟨H.length+1,0,some 0⟩) 0 0) []:=by rw [hG];exact Ow.new (D:=Fl.int) (xs:=[]) (k:=1) rfl rfl rfl rfl
 have cG:Chg H G []:=by rw [hG];exact Chg.app _
 have hr:G[H.length]? = some ⟨netCells v x,0,57⟩:=by rw [hG];simp
 have hGs:H++[⟨netCells v x,0,57⟩,⟨[],0,3⟩]=G:=hG.symm
 unfold netCells at hr hGs
 rw [hall]
 simp [ones]
 rw [hGs]
 clear hG hGs
 refine Qk (fun n t H'=>∃(i:Nat) (r:Value),n=N-i∧i≤N∧t 1=.pointer (some ⟨H.length,0,some 0⟩)∧t 3=r∧t 4=.int .i64 i∧Chg H H' []∧H'[H.length]? = some ⟨netCells v x,0,57⟩∧Ow Fl.int 3 H' r ((enterTo x i).map Int.ofNat)∧(∀j∈ids r,H.length+1≤j)) ?_ (n:=N)
  ⟨0,.slice (some ⟨H.length+1,0,some 0⟩) 0 0,rfl,by omega,by simp,by simp,by simp,cG,by unfold netCells;exact hr,oG0,by simp⟩
 rintro n t H' ⟨i,r,rfl,hi,t1,t3,t4,ch,b0,oo,nr⟩ ih
 have r1:=b0
 unfold netCells at r1
 have o1:=Dt.chg (T:=dNet) o ch (by simp)
 have rd:=o1.2.2.2.2.2.1.1.rd
 have ll:=rd.1.len (P:=Tryz.prog) (ty:=55) (by simp)
 rw [rd.2.1,hsl] at ll
 simp [t1,t3,t4,VM.look,r1,ones,ll]
 refine Qh ?_ ?_<;>intro g
 rotate_left
 ·have:i=N:=by omega
  subst this
  simp [t1,t3,t4]
  exact ⟨oo,fun j hj=>by have:=nr j hj;omega,ch⟩
 have hi':i<N:=by omega
 have his:i<x.2.2.2.2.2.1.length:=by omega
 obtain ⟨u,a1,a2,a3,a4⟩:=Q5 o1.2.2.2.2.2.1.1.rd (ty:=55) (e:=100) (by simp) (by simp) his
 have la:=a4.len (P:=Tryz.prog) (ty:=100) (by simp)
 have qa:VM.one u=true∧u.cells=#[u]:=⟨a4.one',a4.cells⟩
 have hgd:x.2.2.2.2.2.1.getD i []=x.2.2.2.2.2.1[i]:=by simp [List.getD_eq_getElem?_getD,his]
 have hes:=Vq x i
 have hel:=Tq x i
 simp [t1,t3,t4]
 rw [Qo (h:=by kernel_rfl)]
 by_cases g0:x.2.2.2.2.2.1[i]=[]
 ·have hne:¬entersN x i:=fun k=>k.1 (by rw [hgd];exact g0)
  rw [if_neg hne] at hes
  rw [g0] at la
  simp [t1,t3,t4,VM.look,r1,ones,a2,a3,la]
  refine ih (N-(i+1)) _ _ ⟨i+1,r,rfl,by omega,by simp [t1],by simp [t3],?_,ch,b0,by rw [hes];exact oo,nr⟩ (by omega)
  simp [t4];rw [w64 (by omega) (by omega)]
 have g0':0<x.2.2.2.2.2.1[i].length:=List.length_pos_iff.2 g0
 obtain ⟨z0,f1,f2,f3,c1,c2,c3,_⟩:=front a4 g0
 obtain ⟨en1,en2,en3⟩:=Zl hx (k:=i) (by rw [hgd];exact g0)
 have hsh:srcHead x i=headL x.2.2.2.2.2.1[i]:=by unfold srcHead;rw [hgd]
 have hcl:=en1.2
 rw [hsh] at en2 hcl
 generalize headL x.2.2.2.2.2.1[i]=f at *
 have key:entersN x i↔(x.2.2.1.getD (entAt x i) []).length<3:=⟨fun k=>k.2,fun k=>⟨by rw [hgd];exact g0,k⟩⟩
 have hzl:entAt x i<x.2.2.1.length:=by unfold inR at hcl;omega
 unfold inR at hcl
 generalize entAt x i=z at *
 have e1:=@w6 (10*(i:Int)) (by omega)
 have e2:=@w6 (10*(i:Int)+8) (by omega)
 have e3:∀[Inhabited Unit],IntKind.i64.wrap (10*(i:Int)+8+f.2.2.1)=(z:Int):=by intro _;rw [w64 (by omega) (by omega)];omega
 obtain ⟨u',b1,b2,b3,b4⟩:=Q5 o1.2.2.1.1.rd (ty:=55) (e:=100) (by simp) (by simp) hzl
 have lb:=b4.len (P:=Tryz.prog) (ty:=100) (by simp)
 have hgz:x.2.2.1.getD z []=x.2.2.1[z]:=by simp [List.getD_eq_getElem?_getD,hzl]
 have qb:VM.one u'=true∧u'.cells=#[u']:=⟨b4.one',b4.cells⟩
 rw [hgz] at key
 simp [-vfieldAddr,Qu,t1,t3,t4,la,g0',VM.look,r1,ones,a2,a3,z0,f2,c2,e1,e2,e3,b2,b3,lb]
 refine Qh ?_ ?_<;>intro g1
 ·rw [if_pos (key.2 (by omega))] at hes
  obtain ⟨r',H2,hap,o2,c2',n2⟩:=oo.push (P:=Tryz.prog) (frz:=H.length) (ty:=26) (a:=(i:Int)) (by simp) rfl (by simp;omega) (fun j hj=>by have:=nr j hj;omega)
  simp only [Fl.int_f] at hap
  have l0:=ch.1
  simp [t1,t3,t4,hap]
  refine ih (N-(i+1)) _ _ ⟨i+1,r',rfl,by omega,by simp [t1],by simp,?_,ch.trans' c2' (fun j hj=>.inr (by have:=nr j hj;omega)),Qa b0 c2' (fun hh=>by have:=nr _ hh;omega),?_,fun j hj=>?_⟩ (by omega)
  ·simp [t4];rw [w64 (by omega) (by omega)]
  ·rw [hes,List.map_append];exact o2
  ·rcases n2 j hj with h1|h1
   ·exact nr j h1
   ·have:=Qz b0;omega
 ·rw [if_neg (fun k=>by have:=key.1 k;omega)] at hes
  simp [t1,t3,t4]
  refine ih (N-(i+1)) _ _ ⟨i+1,r,rfl,by omega,by simp [t1],by simp [t3],?_,ch,b0,by rw [hes];exact oo,nr⟩ (by omega)
  simp [t4];rw [w64 (by omega) (by omega)]
theorem Ki {s:SSD} {j:Nat} (h:j<s.length) (f:List FlitD→List FlitD):upd s j f=s.set j (f s[j]):=by
 unfold upd;rw [List.getD_eq_getElem?_getD,List.getElem?_eq_getElem h];rfl
structure Put (K K3:Heap) (u u':SSV) (s':SSD):Prop where
 hd:u'.1=u.1
 ow:dSS.Ow K3 u' s'
 nd:(dSS.ids u').Nodup
 ids:∀i∈dSS.ids u',i∈dSS.ids u∨K.length≤i
 chg:Chg K K3 (dSS.ids u)
theorem Xw {K:Heap} {u:SSV} {s:SSD} (o:dSS.Ow K u s) {j:Nat} (hj:j<s.length) :
 ∃a,u.2[j]? = some a∧vindexAddr Tryz.prog K 55 u.1 (.int .i64 (j:Int))=some (elp u.1 j)∧vload Tryz.prog K 100 (elp u.1 j)=some a∧Ow flF 103 K a s[j]∧VM.one a=true∧a.cells=#[a]∧VM.live K u.1:=by
 obtain ⟨a,a1,a2,a3,a4⟩:=Q5 o.1.rd (ty:=55) (e:=100) (by simp) (by simp) hj
 have oa:=o.1.2.2 j a s[j] a1 (by simp [hj])
 exact ⟨a,a1,a2,a3,oa,a4.one',a4.cells,Wb o.1.1⟩
theorem Zz {K:Heap} {u:SSV} {s:SSD} {j:Nat} {a:Value} (o:dSS.Ow K u s) (nd:(dSS.ids u).Nodup) (hj:j<s.length) (hb:s[j].length+1≤67108864) (hf:∀i∈dSS.ids u,frz≤i) (ha:u.2[j]? = some a) (y:FlitD) :
 ∃a' K2 K3,vappend Tryz.prog frz (K++[⟨flF.f y,0,103⟩]) 100 100 a (.slice (some ⟨K.length,0,some 0⟩) 1 0)=some (a',K2)∧vindexAddr Tryz.prog K2 55 u.1 (.int .i64 (j:Int))=some (elp u.1 j)∧
  vstore Tryz.prog frz K2 100 a' (elp u.1 j)=some K3∧VM.live K2 u.1∧VM.live K3 u.1∧VM.one a'=true∧a'.cells=#[a']∧Chg K K2 (ids a)∧Put K K3 u (u.1,u.2.set j a') (upd s j (·++[y])):=by
 have hj':j<u.2.length:=by rw [o.1.2.1];exact hj
 have ea:u.2[j]=a:=by rw [List.getElem?_eq_getElem hj'] at ha;exact Option.some.inj ha
 have oa:Ow flF 103 K a s[j]:=o.1.2.2 j a _ ha (by simp [hj])
 have hia:∀i∈ids a,i∈dSS.ids u:=fun i hi=>Xa ha hi
 obtain ⟨a',K2,hap,oa',c2,na'⟩:=oa.push (P:=Tryz.prog) (frz:=frz) (ty:=100) (a:=y) (by simp) rfl (by omega) (fun i hi=>hf i (hia i hi))
 have c2':Chg K K2 (ids u.2[j]):=by rw [ea];exact c2
 obtain ⟨K3,hst,oL,c3,ndL,idL,l3⟩:=U8 (frz:=frz) (et:=100) (ag:=false) o.1 nd hj' c2' oa' (by rw [ea];exact na') (fun i hi=>hf i hi) (by simp)
 have dav:∀i∈ids u.1,i∉ids a:=fun i hi hh=>(List.nodup_append.1 nd).2.2 i hi i (List.mem_flatMap.2 ⟨a,List.mem_of_getElem? ha,hh⟩) rfl
 have ol2:=o.1.1.chg c2 dav
 have hsl:=o.1.2.1
 have ix2:=ol2.rd.idx (P:=Tryz.prog) (ty:=55) (e:=100) (by simp) (i:=(j:Int)) (by omega) (by omega)
 simp only [Int.toNat_natCast,Nat.mul_one,show Fl.val.n=1 from rfl] at ix2
 have hup:=Ki hj (·++[y])
 refine ⟨a',K2,K3,hap,ix2,hst,Wb ol2,Wb oL.1,oa'.rd.one',oa'.rd.cells,c2,rfl,?_,ndL,idL,c3⟩
 rw [hup]
 exact Re oL o.2.1 o.2.2 (by simp;omega)
theorem Bs {K:Heap} {u:SSV} {s:SSD} {j:Nat} {a:Value} (o:dSS.Ow K u s) (nd:(dSS.ids u).Nodup) (hj:j<s.length) (hne:s[j]≠[]) (hf:∀i∈dSS.ids u,frz≤i) (hfK:frz≤K.length) (ha:u.2[j]? = some a) :
 ∃z a' K2 K3,vload Tryz.prog (K++[⟨[],0,103⟩]) 100 (elp u.1 j)=some a∧vindexAddr Tryz.prog (K++[⟨[],0,103⟩]) 55 u.1 (.int .i64 (j:Int))=some (elp u.1 j)∧
  vslice Tryz.prog (K++[⟨[],0,103⟩]) 100 (some (.int .i64 1)) none a=some z∧
  vappend Tryz.prog frz (K++[⟨[],0,103⟩]) 100 100 (.slice (some ⟨K.length,0,some 0⟩) 0 0) z=some (a',K2)∧vindexAddr Tryz.prog K2 55 u.1 (.int .i64 (j:Int))=some (elp u.1 j)∧
  vstore Tryz.prog frz K2 100 a' (elp u.1 j)=some K3∧VM.live (K++[⟨[],0,103⟩]) u.1∧VM.live K2 u.1∧VM.live K3 u.1∧VM.one a'=true∧a'.cells=#[a']∧Chg K K2 []∧Put K K3 u (u.1,u.2.set j a') (upd s j (List.drop 1)):=by
 have hj':j<u.2.length:=by rw [o.1.2.1];exact hj
 have ea:u.2[j]=a:=by rw [List.getElem?_eq_getElem hj'] at ha;exact Option.some.inj ha
 have o1:=Dt.app (T:=dSS) (L:=[⟨[],0,103⟩]) o
 obtain ⟨a1,h1,h2,h3,oa,h4,h5,h6⟩:=Xw o1 hj
 have e1:a1=a:=by rw [ha] at h1;exact (Option.some.inj h1).symm
 subst e1
 have hsl:=o.1.2.1
 have hpos:=List.length_pos_iff.2 hne
 obtain ⟨z,hz,oz,nz⟩:=oa.slice (P:=Tryz.prog) (ty:=100) (lo:=some (.int .i64 1)) (hi:=none) (l:=1) (u:=s[j].length) (by simp) rfl rfl (by omega) (Nat.le_refl _)
 have et:(s[j].drop 1).take (s[j].length-1)=s[j].drop 1:=List.take_of_length_le (by simp)
 rw [et] at oz
 have hlb:=o.2.2 _ (List.getElem_mem hj)
 have on:Ow flF 103 (K++[⟨[],0,103⟩]) (.slice (some ⟨K.length,0,some 0⟩) 0 0) []:=Ow.new0 (D:=flF) (xs:=[]) rfl rfl rfl rfl
 obtain ⟨a',K2,hap,oa',c2,na'⟩:=on.append (P:=Tryz.prog) (frz:=frz) (ty:=100) oz.rd (by simp) (Yv _) (by simp;omega) (fun i hi=>by simp at hi;omega)
 rw [List.nil_append] at oa'
 have c12:Chg K K2 []:=(Chg.app _).trans' c2 (fun i hi=>.inr (by simp at hi;omega))
 obtain ⟨K3,hst,oL,c3,ndL,idL,l3⟩:=U8 (frz:=frz) (et:=100) (ag:=false) o.1 nd hj' (c12.mono (fun _ h=>by cases h)) oa' (fun i hi=>by
  rcases na' i hi with g|g
  ·right;simp at g;omega
  ·right;simp at g;omega) (fun i hi=>hf i hi) (by simp)
 have ol2:=o.1.1.chg c12 (by simp)
 have ix2:=ol2.rd.idx (P:=Tryz.prog) (ty:=55) (e:=100) (by simp) (i:=(j:Int)) (by omega) (by omega)
 simp only [Int.toNat_natCast,Nat.mul_one,show Fl.val.n=1 from rfl] at ix2
 have hup:=Ki hj (List.drop 1)
 refine ⟨z,a',K2,K3,h3,h2,hz,hap,ix2,hst,h6,Wb ol2,Wb oL.1,oa'.rd.one',oa'.rd.cells,c12,rfl,?_,ndL,idL,c3⟩
 rw [hup]
 exact Re oL o.2.1 o.2.2 (by simp;omega)
theorem Nq {K:Heap} {u:SSV} {s:SSD} {j:Nat} {a:Value} (o:dSS.Ow K u s) (nd:(dSS.ids u).Nodup) (hj:j<s.length) (hne:s[j]≠[]) (hf:∀i∈dSS.ids u,frz≤i) (ha:u.2[j]? = some a) :
 ∃z a' K2 K3,vslice Tryz.prog K 100 (some (.int .i64 1)) none a=some z∧
  vappend Tryz.prog frz K 100 100 (.slice none 0 0) z=some (a',K2)∧vindexAddr Tryz.prog K2 55 u.1 (.int .i64 (j:Int))=some (elp u.1 j)∧
  vstore Tryz.prog frz K2 100 a' (elp u.1 j)=some K3∧VM.live K2 u.1∧VM.live K3 u.1∧VM.one a'=true∧a'.cells=#[a']∧Chg K K2 []∧Put K K3 u (u.1,u.2.set j a') (upd s j (List.drop 1)):=by
 have hj':j<u.2.length:=by rw [o.1.2.1];exact hj
 obtain ⟨a1,h1,h2,h3,oa,h4,h5,h6⟩:=Xw o hj
 have e1:a1=a:=by rw [ha] at h1;exact (Option.some.inj h1).symm
 subst e1
 have hsl:=o.1.2.1
 have hpos:=List.length_pos_iff.2 hne
 obtain ⟨z,hz,oz,nz⟩:=oa.slice (P:=Tryz.prog) (ty:=100) (lo:=some (.int .i64 1)) (hi:=none) (l:=1) (u:=s[j].length) (by simp) rfl rfl (by omega) (Nat.le_refl _)
 have et:(s[j].drop 1).take (s[j].length-1)=s[j].drop 1:=List.take_of_length_le (by simp)
 rw [et] at oz
 have hlb:=o.2.2 _ (List.getElem_mem hj)
 have on:Ow flF 103 K (.slice none 0 0) []:=.inl ⟨rfl,rfl⟩
 obtain ⟨a',K2,hap,oa',c12,na'⟩:=on.append (P:=Tryz.prog) (frz:=frz) (ty:=100) oz.rd (by simp) (Yv _) (by simp;omega) (by simp)
 rw [List.nil_append] at oa'
 obtain ⟨K3,hst,oL,c3,ndL,idL,l3⟩:=U8 (frz:=frz) (et:=100) (ag:=false) o.1 nd hj' (c12.mono (fun i h=>by simp at h)) oa' (fun i hi=>by
  rcases na' i hi with g|g
  ·simp at g
  ·exact .inr g) (fun i hi=>hf i hi) (by simp)
 have c12':Chg K K2 []:=c12.mono (fun i h=>by simp at h)
 have ol2:=o.1.1.chg c12' (by simp)
 have ix2:=ol2.rd.idx (P:=Tryz.prog) (ty:=55) (e:=100) (by simp) (i:=(j:Int)) (by omega) (by omega)
 simp only [Int.toNat_natCast,Nat.mul_one,show Fl.val.n=1 from rfl] at ix2
 have hup:=Ki hj (List.drop 1)
 refine ⟨z,a',K2,K3,hz,hap,ix2,hst,Wb ol2,Wb oL.1,oa'.rd.one',oa'.rd.cells,c12',rfl,?_,ndL,idL,c3⟩
 rw [hup]
 exact Re oL o.2.1 o.2.2 (by simp;omega)
theorem Fs {α:Type} {D:Fl α} {e:TypeId} {K:Heap} {v:Value} {xs:List α} (o:Ow D e K v xs) (h:0<xs.length) (j:Nat):VM.vnil K (elp v j)=some (elp v j):=by
 rcases o with ⟨_,rfl⟩|⟨id,off,r,rfl,h2,_⟩
 ·simp at h
 ·simp [elp,VM.vnil,VM.look,h2]
def vw (v:NetV) (h5 h8 h9:List Value):NetV:=(v.1,v.2.1,(v.2.2.1.1,h5),v.2.2.2.1,v.2.2.2.2.1,(v.2.2.2.2.2.1.1,h8),(v.2.2.2.2.2.2.1.1,h9),v.2.2.2.2.2.2.2)
structure NS (H K:Heap) (W:List Nat) (v:NetV) (y:NetD) (h5 h8 h9:List Value):Prop where
 ow:dNet.Ow K (vw v h5 h8 h9) y
 nd:(dNet.ids (vw v h5 h8 h9)).Nodup
 ids:∀i∈dNet.ids (vw v h5 h8 h9),i∈dNet.ids v∨H.length≤i
 chg:Chg H K (W++dNet.ids v)
theorem NS.start {v:NetV} {y:NetD} (W:List Nat) (o:dNet.Ow H v y) (nd:(dNet.ids v).Nodup):NS H H W v y v.2.2.1.2 v.2.2.2.2.2.1.2 v.2.2.2.2.2.2.1.2:=
 ⟨o,nd,fun i hi=>.inl hi,Chg.refl _⟩
theorem NS.other {K K':Heap} {W:List Nat} {v:NetV} {y:NetD} {h5 h8 h9:List Value} {I:List Nat} (n:NS H K W v y h5 h8 h9) (c:Chg K K' I) (hd:∀i∈dNet.ids (vw v h5 h8 h9),i∉I) (hI:∀i∈I,i∈W∨H.length≤i):NS H K' W v y h5 h8 h9:=
 ⟨Dt.chg (T:=dNet) n.ow c hd,n.nd,n.ids,n.chg.trans' c (fun i hi=>(hI i hi).imp (fun h=>List.mem_append_left _ h) id)⟩
theorem NS.step {K K':Heap} {W:List Nat} {v:NetV} {y y':NetD} {h5 h8 h9 h5' h8' h9':List Value} {I:List Nat} (n:NS H K W v y h5 h8 h9) (c:Chg K K' I) (hI:∀i∈I,i∈dNet.ids (vw v h5 h8 h9))
 (o:dNet.Ow K' (vw v h5' h8' h9') y') (nd:(dNet.ids (vw v h5' h8' h9')).Nodup) (hi:∀i∈dNet.ids (vw v h5' h8' h9'),i∈dNet.ids (vw v h5 h8 h9)∨K.length≤i):NS H K' W v y' h5' h8' h9':=
 ⟨o,nd,fun i h=>by
  rcases hi i h with g|g
  ·exact n.ids i g
  ·have:=n.chg.1;right;omega,n.chg.trans' c (fun i h=>(n.ids i (hI i h)).imp (fun h=>List.mem_append_right _ h) id)⟩
theorem NS.buf {K K':Heap} {W:List Nat} {v:NetV} {y:NetD} {h5 h8 h9 h5':List Value} {s':SSD} (n:NS H K W v y h5 h8 h9) (p:Put K K' (v.2.2.1.1,h5) (v.2.2.1.1,h5') s') :
 NS H K' W v (withBuf y s') h5' h8 h9∧(∀i∈dNet.ids (vw v h5' h8 h9),i∈dNet.ids (vw v h5 h8 h9)∨K.length≤i)∧Chg K K' (dNet.ids (vw v h5 h8 h9)):=by
 obtain ⟨a,b,c⟩:=Kv (n:=vw v h5 h8 h9) (u:=(v.2.2.1.1,h5')) n.ow n.nd p.chg p.ow p.nd p.ids
 exact ⟨n.step p.chg (fun i hi=>Wo (n:=vw v h5 h8 h9) i hi) a b c,c,p.chg.mono (fun i hi=>Wo (n:=vw v h5 h8 h9) i hi)⟩
theorem NS.src {K K':Heap} {W:List Nat} {v:NetV} {y:NetD} {h5 h8 h9 h8':List Value} {s':SSD} (n:NS H K W v y h5 h8 h9) (p:Put K K' (v.2.2.2.2.2.1.1,h8) (v.2.2.2.2.2.1.1,h8') s') :
 NS H K' W v (withSrc y s') h5 h8' h9∧(∀i∈dNet.ids (vw v h5 h8' h9),i∈dNet.ids (vw v h5 h8 h9)∨K.length≤i)∧Chg K K' (dNet.ids (vw v h5 h8 h9)):=by
 obtain ⟨a,b,c⟩:=Uy (n:=vw v h5 h8 h9) (u:=(v.2.2.2.2.2.1.1,h8')) n.ow n.nd p.chg p.ow p.nd p.ids
 exact ⟨n.step p.chg (fun i hi=>X0 (n:=vw v h5 h8 h9) i hi) a b c,c,p.chg.mono (fun i hi=>X0 (n:=vw v h5 h8 h9) i hi)⟩
theorem NS.arr {K K':Heap} {W:List Nat} {v:NetV} {y:NetD} {h5 h8 h9 h9':List Value} {s':SSD} (n:NS H K W v y h5 h8 h9) (p:Put K K' (v.2.2.2.2.2.2.1.1,h9) (v.2.2.2.2.2.2.1.1,h9') s') :
 NS H K' W v (withArr y s') h5 h8 h9'∧(∀i∈dNet.ids (vw v h5 h8 h9'),i∈dNet.ids (vw v h5 h8 h9)∨K.length≤i)∧Chg K K' (dNet.ids (vw v h5 h8 h9)):=by
 obtain ⟨a,b,c⟩:=L6 (n:=vw v h5 h8 h9) (u:=(v.2.2.2.2.2.2.1.1,h9')) n.ow n.nd p.chg p.ow p.nd p.ids
 exact ⟨n.step p.chg (fun i hi=>Yx (n:=vw v h5 h8 h9) i hi) a b c,c,p.chg.mono (fun i hi=>Yx (n:=vw v h5 h8 h9) i hi)⟩
theorem NS.own {K:Heap} {W:List Nat} {v:NetV} {y:NetD} {h5 h8 h9:List Value} (n:NS H K W v y h5 h8 h9) (hf:∀i∈dNet.ids (vw v h5 h8 h9),frz≤i) {j:Nat} (hj:j<y.2.2.2.1.length) (z:Int) :
 ∃K',vstore Tryz.prog frz K 3 (.int .i64 z) (elp v.2.2.2.1 j)=some K'∧NS H K' W v (withOwn y (y.2.2.2.1.set j z)) h5 h8 h9∧Chg K K' (dNet.ids (vw v h5 h8 h9)):=by
 obtain ⟨K',s,o,c,l⟩:=n.ow.2.2.2.1.1.put1 (P:=Tryz.prog) (frz:=frz) rfl (et:=3) (ag:=false) (by simp) hj (x:=.int .i64 z) (y:=z) rfl rfl rfl (fun i hi=>hf i (Td (n:=vw v h5 h8 h9) i hi))
 obtain ⟨a,b,c'⟩:=L8 (n:=vw v h5 h8 h9) (u:=v.2.2.2.1) (s:=y.2.2.2.1.set j z) n.ow n.nd c ⟨o,by have:=n.ow.2.2.2.1.2;simpa using this⟩ (Fe (n:=vw v h5 h8 h9) n.nd) (fun i hi=>.inl hi)
 exact ⟨K',s,n.step c (fun i hi=>Td (n:=vw v h5 h8 h9) i hi) a b c',c.mono (fun i hi=>Td (n:=vw v h5 h8 h9) i hi)⟩
theorem NS.turn {K:Heap} {W:List Nat} {v:NetV} {y:NetD} {h5 h8 h9:List Value} (n:NS H K W v y h5 h8 h9) (hf:∀i∈dNet.ids (vw v h5 h8 h9),frz≤i) {j:Nat} (hj:j<y.2.2.2.2.1.length) (z:Int) :
 ∃K',vstore Tryz.prog frz K 3 (.int .i64 z) (elp v.2.2.2.2.1 j)=some K'∧NS H K' W v (withTurn y (y.2.2.2.2.1.set j z)) h5 h8 h9∧Chg K K' (dNet.ids (vw v h5 h8 h9)):=by
 obtain ⟨K',s,o,c,l⟩:=n.ow.2.2.2.2.1.1.put1 (P:=Tryz.prog) (frz:=frz) rfl (et:=3) (ag:=false) (by simp) hj (x:=.int .i64 z) (y:=z) rfl rfl rfl (fun i hi=>hf i (Un (n:=vw v h5 h8 h9) i hi))
 obtain ⟨a,b,c'⟩:=N8 (n:=vw v h5 h8 h9) (u:=v.2.2.2.2.1) (s:=y.2.2.2.2.1.set j z) n.ow n.nd c ⟨o,by have:=n.ow.2.2.2.2.1.2;simpa using this⟩ (Kf (n:=vw v h5 h8 h9) n.nd) (fun i hi=>.inl hi)
 exact ⟨K',s,n.step c (fun i hi=>Un (n:=vw v h5 h8 h9) i hi) a b c',c.mono (fun i hi=>Un (n:=vw v h5 h8 h9) i hi)⟩
noncomputable def nPop (x:NetD) (i:Nat):NetD:=withBuf x (((allN x).take i).foldl popS x.2.2.1)
noncomputable def nPush (x y:NetD) (i:Nat):NetD:=
 (y.1,y.2.1,((allN x).take i).foldl (pushS x) y.2.2.1,((allN x).take i).foldl (ownS x) y.2.2.2.1,((allN x).take i).foldl turnS y.2.2.2.2.1,y.2.2.2.2.2.1,((allN x).take i).foldl (arrS x) y.2.2.2.2.2.2.1,y.2.2.2.2.2.2.2)
noncomputable def nEnt (x y:NetD) (i:Nat):NetD:=
 (y.1,y.2.1,((enterN x).take i).foldl (entS x) y.2.2.1,y.2.2.2.1,y.2.2.2.2.1,((enterN x).take i).foldl srcS y.2.2.2.2.2.1,y.2.2.2.2.2.2.1,y.2.2.2.2.2.2.2)
theorem Cx (x:NetD):stepN x=older (nEnt x (nPush x (nPop x (allN x).length) (allN x).length) (enterN x).length) 1:=by
 unfold nEnt nPush nPop older withBuf
 simp only [List.take_length]
 rfl
def tgI (x:NetD) (g:GrD):Int:=if g.2.1=4 then -1 else (tgt x g.1 g.2.1 (g.2.2%2):Int)
theorem Ov {K:Heap} {e:TypeId} {v:Value} {l:List GrD} (o:Ow grF e K v l) {i:Nat} (hi:i<l.length) :
 vindexAddr Tryz.prog K 76 v (.int .i64 (i:Int))=some (elp v (i*3))∧vload Tryz.prog K 107 (elp v (i*3))=some (.agg (grF.f l[i]).toArray):=by
 have q1:=o.rd.idx (P:=Tryz.prog) (ty:=76) (e:=107) (by simp) (i:=(i:Int)) (by omega) (by omega)
 have q2:=o.rd.load (P:=Tryz.prog) (e:=107) (by simp) hi
 simp only [Int.toNat_natCast,xa] at q1 q2
 exact ⟨q1,q2⟩
def StepPost (H:Heap) (v:NetV) (y:NetD) (id:Nat) (e:TypeId) (tail:List Value) (_:Value) (H':Heap):Prop:=
 ∃v':NetV,H'[id]? = some ⟨netCells v' y++tail,0,e⟩∧dNet.Ow H' v' y∧(dNet.ids v').Nodup∧(∀i∈dNet.ids v',i∈dNet.ids v∨H.length≤i)∧Chg H H' (id::dNet.ids v)
theorem Xb {K:Heap} {w:Value} (h:VM.live K w) (hw:∃a n c,w=.slice (some a) n c) (j:Nat):VM.vnil K (elp w j)=some (elp w j):=by
 obtain ⟨a,n,c,rfl⟩:=hw
 simp only [VM.live,live1] at h
 show (match VM.look K a with|some _=>some (Value.pointer (some ⟨a.block,a.off+j,a.spot⟩))|none=>none)=_
 cases hh:VM.look K a with
 | none=>exact absurd hh h
 | some r=>rfl
theorem Nk {α:Type} {D:Fl α} {e:TypeId} {K:Heap} {v:Value} {xs:List α} (o:Ow D e K v xs) (h:0<xs.length):∃a n c,v=.slice (some a) n c:=by
 rcases o with ⟨_,rfl⟩|⟨id,off,r,rfl,h2,_⟩
 ·simp at h
 ·exact ⟨_,_,_,rfl⟩
theorem Gw {x:NetD} {i:Nat} (h:i<(allN x).length):nPop x (i+1)=withBuf (nPop x i) (upd (nPop x i).2.2.1 (frm (allN x)[i]) (List.drop 1)):=by
 unfold nPop;rw [Ws _ _ h];rfl
theorem Nx (x:NetD) (i:Nat):(nPop x i).2.2.1.length=x.2.2.1.length:=Qt R6 _ _
theorem Cs {x:NetD} {i:Nat} (h:i<(allN x).length):(nPop x i).2.2.1.getD (frm (allN x)[i]) []=x.2.2.1.getD (frm (allN x)[i]) []:=Iq _ _ _ (Vt (Ye x) h)
theorem Bg {K:Heap} {e:TypeId} {v:Value} {l:List FlitD} (o:Ow flF e K v l) {i:Nat} (hi:i<l.length) :
 vindexAddr Tryz.prog K 100 v (.int .i64 (i:Int))=some (elp v (i*5))∧vload Tryz.prog K 103 (elp v (i*5))=some (.agg (flF.f l[i]).toArray)∧vfieldAddr Tryz.prog K 103 4 (elp v (i*5))=some (elp v (i*5+4))∧vload Tryz.prog K 4 (elp v (i*5+4))=some (.bool l[i].2.2.2.2):=by
 have q1:=o.rd.idx (P:=Tryz.prog) (ty:=100) (e:=103) (by simp) (i:=(i:Int)) (by omega) (by omega)
 have q2:=o.rd.load (P:=Tryz.prog) (e:=103) (by simp) hi
 have q3:=o.rd.field (P:=Tryz.prog) (s:=103) (f:=4) (o:=4) (n:=1) (ag:=false) (by simp) (j:=i*5) (by omega)
 have q4:=o.rd.cell (P:=Tryz.prog) (e:=4) (by simp) hi (c:=4) (by decide)
 simp only [Int.toNat_natCast,Yu] at q1 q2 q4
 simp only [Wc] at q4
 simp at q4
 exact ⟨q1,q2,q3,q4⟩
theorem S6 {K:Heap} {v:Value} {l:List Int} (h:IsI K v l) {i:Nat} (hi:i<l.length) :
 vindexAddr Tryz.prog K 26 v (.int .i64 (i:Int))=some (elp v i)∧vload Tryz.prog K 3 (elp v i)=some (.int .i64 l[i]):=by
 have q1:=h.idx (P:=Tryz.prog) (ty:=26) (e:=3) (by simp) (i:=(i:Int)) (by omega) (by omega)
 have q2:=h.load (P:=Tryz.prog) (e:=3) (by simp) hi
 simp only [Int.toNat_natCast] at q1
 rw [Q1 _ _ hi] at q2
 exact ⟨q1,q2⟩
theorem Jl {x y:NetD} {i:Nat} (h:i<(allN x).length):nPush x y (i+1)=withTurn (withOwn (withArr (withBuf (nPush x y i) (pushS x (nPush x y i).2.2.1 (allN x)[i])) (arrS x (nPush x y i).2.2.2.2.2.2.1 (allN x)[i])) (ownS x (nPush x y i).2.2.2.1 (allN x)[i])) (turnS (nPush x y i).2.2.2.2.1 (allN x)[i]):=by
 unfold nPush;simp only [Ws _ _ h];rfl
theorem Om {x y:NetD} {i:Nat} (h:i<(enterN x).length):nEnt x y (i+1)=withSrc (withBuf (nEnt x y i) (entS x (nEnt x y i).2.2.1 (enterN x)[i])) (srcS (nEnt x y i).2.2.2.2.2.1 (enterN x)[i]):=by
 unfold nEnt;simp only [Ws _ _ h];rfl
theorem Af {v:NetV} {x:NetD} {id:Nat} {e:TypeId} {tail:List Value} (hr:H[id]? = some ⟨netCells v x++tail,0,e⟩) (o:dNet.Ow H v x) (nd:(dNet.ids v).Nodup) (hf:∀i∈dNet.ids v,frz≤i) (hfi:frz≤id) (hid:id∉dNet.ids v) (hfH:frz≤H.length) (hx:runOk x) (hb5:allL 67000000 x.2.2.1) (hb9:allL 67000000 x.2.2.2.2.2.2.1) (ht:inR 0 x.2.2.2.2.2.2.2 1000000) :
 wp (vcall C frz 64 [.pointer (some ⟨id,0,some 0⟩)] H) (StepPost H v (stepN x) id e tail):=by
 have ones:=Qd o
 have cr:=Qg x.1.1 x.1.2.1
 have hidl:=Qz hr
 have hlt:=dNet.lt o
 rw [Qb (fn:=Tryz.f64) Tryz.func64 rfl (by kernel_rfl) rfl]
 simp
 refine Qf (Lc hr o hx) ?_
 rintro gl H1 ⟨oG,nG,cG⟩
 simp
 refine Qf (Ko (Qa hr cG (by simp)) (Dt.chg (T:=dNet) o cG (by simp)) hx) ?_
 rintro el H2 ⟨oE,nE,cE⟩
 simp
 obtain ⟨G,hG⟩:∃G,G=H2++[⟨[],0,103⟩,⟨[],0,3⟩]:=⟨_,rfl⟩
 have oM0:Ow flF 103 G (.slice (some ⟨H2.length,0,some 0⟩) 0 0) []:=by rw [hG];exact Ow.new0 (D:=flF) (xs:=[]) rfl rfl rfl rfl
 have oT0:Ow Fl.int 3 G (.slice (some ⟨H2.length+1,0,some 0⟩) 0 0) []:=by rw [hG];exact Ow.new (D:=Fl.int) (xs:=[]) (k:=1) rfl rfl rfl rfl
 have c2G:Chg H2 G []:=by rw [hG];exact Chg.app _
 have lG:G.length=H2.length+2:=by rw [hG];simp
 have c0G:Chg H G []:=(cG.trans cE).trans c2G
 have l1:=cG.1
 have l2:=cE.1
 have oG1:=(oG.chg cE (by simp)).chg c2G (by simp)
 have oE1:=oE.chg c2G (by simp)
 have hGs:H2++[⟨[],0,103⟩,⟨[],0,3⟩]=G:=hG.symm
 have ltG:∀i∈ids gl,i<H1.length:=oG.lt
 have ltE:∀i∈ids el,i<H2.length:=oE.lt
 have hgl:=oG1.rd.len (P:=Tryz.prog) (ty:=76) (by simp)
 rw [hGs]
 clear hG hGs
 have hL:=Vr x
 have hat:=fun g (hg:g∈allN x)=>W3 hg
 have hnd:=Ye x
 simp [hgl]
 -- the targets
 refine Qk (fun n t H'=>∃(i:Nat) (r:Value),n=(allN x).length-i∧i≤(allN x).length∧t 0=.pointer (some ⟨id,0,some 0⟩)∧t 2=gl∧t 3=el∧t 4=.slice (some ⟨H2.length,0,some 0⟩) 0 0∧t 5=r∧t 25=gl∧t 26=.int .i64 (allN x).length∧t 27=.int .i64 i∧
  Chg G H' [H2.length+1]∧Ow Fl.int 3 H' r (((allN x).take i).map (tgI x))∧(∀j∈ids r,j=H2.length+1∨G.length≤j)) ?_ (n:=(allN x).length)
  ⟨0,.slice (some ⟨H2.length+1,0,some 0⟩) 0 0,rfl,by omega,by simp,by simp,by simp,by simp,by simp,by simp,by simp,by simp,Chg.refl _,oT0,by simp⟩
 rintro n t H' ⟨i,r,rfl,hi,t0,t2,t3,t4,t5,t25,t26,t27,ch,oT,nT⟩ ih
 simp [t0,t2,t3,t4,t5,t25,t26,t27]
 refine Qh ?_ ?_<;>intro g
 ·have hi':i<(allN x).length:=by omega
  have oG2:=oG1.chg ch (fun j hj hh=>by have:=ltG j hj;simp at hh;omega)
  obtain ⟨q1,q2⟩:=Ov oG2 hi'
  obtain ⟨m1,m2,m3,m4⟩:=hat _ (List.getElem_mem hi')
  have htk:(allN x).take (i+1)=(allN x).take i++[(allN x)[i]]:=List.take_succ_eq_append_getElem hi'
  generalize (allN x)[i]=gg at *
  have cH':Chg H H' []:=c0G.trans' ch (fun j hj=>.inr (by simp at hj;omega))
  obtain ⟨c,hc⟩:∃c,c=gg.2.2%2:=⟨_,rfl⟩
  have e3:∀[Inhabited Unit],(gg.2.2:Int).tmod 2=(c:Int):=by intro _;rw [tmod2];omega
  have e3':∀[Inhabited Unit],(gg.2.2:Int)%2=(c:Int):=by intro _;omega
  have bh:=fun F L=>Mw (frz:=F) (H:=H'++L) (a:=gg.1) (p:=gg.2.1) (c:=c) (Qx (Qa hr cH' (by simp)) L) (Dt.app (T:=dNet) (Dt.chg (T:=dNet) o cH' (by simp))) m1 m2 (by omega)
  have ht:(if gg.2.1≠4∧has x.1.1 x.1.2.1 x.1.2.2 (4*(gg.1:Int)+gg.2.1) then (tgt x gg.1 gg.2.1 c:Int) else -1)=tgI x gg:=by
   unfold tgI
   rw [← hc]
   by_cases h4:gg.2.1=4
   ·rw [if_neg (fun k=>k.1 h4),if_pos h4]
   ·rcases m4.2.1 with k|⟨k,_⟩
    ·exact absurd k h4
    ·rw [if_pos ⟨h4,k⟩,if_neg h4]
  rw [ht] at bh
  obtain ⟨T,hT⟩:∃T,T=tgI x gg:=⟨_,rfl⟩
  rw [← hT] at bh
  simp [t0,t2,t3,t4,t5,t25,t26,t27,q1,q2,Vs,VM.look,e3,e3',bh]
  have hF:frz≤H'.length:=by have:=cH'.1;omega
  have l3:=ch.1
  obtain ⟨r',H3,hap,oT3,c3,n3⟩:=(oT.app (L:=[⟨[.int .i64 (gg.1:Int),.int .i64 (gg.2.1:Int),.int .i64 (gg.2.2:Int)],0,107⟩])).push (P:=Tryz.prog) (frz:=frz) (ty:=26) (a:=T) (by simp) rfl (by simp;omega) (fun j hj=>by have:=nT j hj;omega)
  simp only [Fl.int_f,List.append_assoc,List.cons_append,List.nil_append,List.length_append,List.length_cons,List.length_nil] at hap
  simp [-Qe,-Qm,t0,t2,t3,t4,t5,t25,t26,t27,hF,hap]
  refine ih ((allN x).length-(i+1)) _ _ ⟨i+1,r',rfl,by omega,by simp [t0],by simp [t2],by simp [t3],by simp [t4],by simp,by simp [t25],by simp [t26],?_,?_,by rw [htk,List.map_append,List.map_cons,List.map_nil,← hT];exact oT3,fun j hj=>?_⟩ (by omega)
  ·simp [t27];rw [w64 (by omega) (by omega)]
  ·exact (ch.trans (Chg.app _)).trans' c3 (fun j hj=>(nT j hj).imp (fun h=>by simp [h]) _root_.id)
  ·rcases n3 j hj with h1|h1
   ·exact nT j h1
   ·simp at h1;omega
 ·have hil:i=(allN x).length:=by omega
  subst hil
  rw [List.take_length] at oT
  clear ih
  have cK0:Chg H H' []:=c0G.trans' ch (fun j hj=>.inr (by simp at hj;omega))
  have oG2:=oG1.chg ch (fun j hj hh=>by have:=ltG j hj;simp at hh;omega)
  have oE2:=oE1.chg ch (fun j hj hh=>by have:=ltE j hj;simp at hh;omega)
  have oM2:=oM0.chg ch (by simp)
  have hgl2:=oG2.rd.len (P:=Tryz.prog) (ty:=76) (by simp)
  have ltT:∀j∈ids r,j<H'.length:=oT.lt
  have nT':∀j∈ids r,H2.length<j:=fun j hj=>by rcases nT j hj with h|h<;>omega
  have hr0:=Qa hr cK0 (by simp)
  have ns0:NS H' H' [H2.length] v x _ _ _:=NS.start [H2.length] (Dt.chg (T:=dNet) o cK0 (by simp)) nd
  have lK0:H2.length+2≤H'.length:=by have:=ch.1;omega
  simp [t0,t2,t3,t4,t5,t25,t26,t27,hgl2]
  -- the pops
  clear ch oT0 oG1 oE1 oM0 hgl c2G
  refine Qk (fun n t K=>∃(i:Nat) (mv:Value) (h5:List Value),n=(allN x).length-i∧i≤(allN x).length∧t 0=.pointer (some ⟨id,0,some 0⟩)∧t 2=gl∧t 3=el∧t 4=mv∧t 5=r∧t 44=gl∧t 45=.int .i64 (allN x).length∧t 46=.int .i64 i∧
   NS H' K [H2.length] v (nPop x i) h5 v.2.2.2.2.2.1.2 v.2.2.2.2.2.2.1.2∧Ow flF 103 K mv (((allN x).take i).map fun g=>headOf x (frm g))∧(∀j∈ids mv,(j=H2.length∨H'.length≤j)∧j∉dNet.ids (vw v h5 v.2.2.2.2.2.1.2 v.2.2.2.2.2.2.1.2))) ?_ (n:=(allN x).length)
   ⟨0,.slice (some ⟨H2.length,0,some 0⟩) 0 0,v.2.2.1.2,rfl,by omega,by simp [t0],by simp [t2],by simp [t3],by simp [t4],by simp [t5],by simp,by simp,by simp,ns0,oM2,fun j hj=>⟨.inl (by simpa using hj),fun hh=>by have:=hlt j hh;simp at hj;omega⟩⟩
  clear t0 t2 t3 t4 t5 t25 t26 t27
  rintro n t K ⟨i,mv,h5,rfl,hi,t0,t2,t3,t4,t5,t44,t45,t46,ns,oM,nM⟩ ih
  simp [t0,t2,t3,t4,t5,t44,t45,t46]
  refine Qh ?_ ?_<;>intro g
  ·have hi':i<(allN x).length:=by omega
   have oG3:=oG2.chg ns.chg (fun j hj hh=>by
    have h1:=ltG j hj
    have h2:=nG j hj
    rcases List.mem_append.1 hh with hh|hh
    ·simp at hh;omega
    ·have:=hlt j hh;omega)
   obtain ⟨q1,q2⟩:=Ov oG3 hi'
   obtain ⟨m1,m2,m3,m4⟩:=hat _ (List.getElem_mem hi')
   have htk:(allN x).take (i+1)=(allN x).take i++[(allN x)[i]]:=List.take_succ_eq_append_getElem hi'
   have hps:=Gw hi'
   have hpa:=Cs hi'
   generalize (allN x)[i]=gg at *
   obtain ⟨j,hj⟩:∃j,j=frm gg:=⟨_,rfl⟩
   rw [← hj] at hps hpa
   have hjl:j<(nPop x i).2.2.1.length:=by rw [Nx];have:=hx.2.1.1;unfold frm at hj;omega
   have hgd:(nPop x i).2.2.1.getD j []=(nPop x i).2.2.1[j]:=by simp [List.getD_eq_getElem?_getD,hjl]
   have hne:(nPop x i).2.2.1[j]≠[]:=by rw [← hgd,hpa,hj];exact Yh m4
   have hhd:headL (nPop x i).2.2.1[j]=headOf x (frm gg):=by rw [← hgd,hpa,hj];rfl
   have e1:=@w6 (10*(gg.1:Int)) (by omega)
   have e2:∀[Inhabited Unit],IntKind.i64.wrap (10*(gg.1:Int)+(gg.2.2:Int))=(j:Int):=by intro _;unfold frm at hj;rw [w64 (by omega) (by omega)];omega
   have hrK:=Qa hr0 ns.chg (fun hh=>by
    rcases List.mem_append.1 hh with hh|hh
    ·simp at hh;omega
    ·exact hid hh)
   unfold netCells at hrK
   simp only [List.cons_append,List.nil_append] at hrK
   obtain ⟨A,hA⟩:∃A,A=K++[⟨[.int .i64 (gg.1:Int),.int .i64 (gg.2.1:Int),.int .i64 (gg.2.2:Int)],0,107⟩]:=⟨_,rfl⟩
   have cA:Chg K A []:=by rw [hA];exact Chg.app _
   have lA:A.length=K.length+1:=by rw [hA];simp
   have bx:A[K.length]? = some ⟨[.int .i64 (gg.1:Int),.int .i64 (gg.2.1:Int),.int .i64 (gg.2.2:Int)],0,107⟩:=by rw [hA];simp
   have nsA:=ns.other cA (by simp) (by simp)
   have oMA:=oM.chg cA (by simp)
   have hrA:=Qa hrK cA (by simp)
   obtain ⟨a,a1,a2,a3,oa,qa1,qa2,lvA⟩:=Xw (u:=(v.2.2.1.1,h5)) nsA.ow.2.2.1 hjl
   obtain ⟨z0,_,_,_,_,_,_,zw⟩:=front oa.rd hne
   rw [hhd] at zw
   have ltM:=oM.lt
   have lcK:=ns.chg.1
   obtain ⟨f,hfe⟩:∃f,f=headOf x (frm gg):=⟨_,rfl⟩
   rw [← hfe] at zw
   obtain ⟨mv',B,hap,oM',cB,nB⟩:=oMA.push (P:=Tryz.prog) (frz:=frz) (ty:=100) (a:=f) (by simp) rfl (by simp;omega) (fun k hk=>by have:=(nM k hk).1;omega)
   have nsB:=nsA.other cB (fun k hk hh=>(nM k hh).2 hk) (fun k hk=>(nM k hk).1.imp (fun h=>by simp [h]) _root_.id)
   have hfn:∀k∈dNet.ids (vw v h5 v.2.2.2.2.2.1.2 v.2.2.2.2.2.2.1.2),frz≤k:=fun k hk=>by
    rcases ns.ids k hk with g|g
    ·exact hf k g
    ·omega
   have lcB:=cB.1
   obtain ⟨z,a',K2,K3,p1,p2,p3,p4,p5,p6,lv1,lv2,lv3,qb1,qb2,c2,pt⟩:=Bs (frz:=frz) (u:=(v.2.2.1.1,h5)) nsB.ow.2.2.1 (X1 (n:=vw v h5 v.2.2.2.2.2.1.2 v.2.2.2.2.2.2.1.2) nsB.nd) hjl hne (fun k hk=>hfn k (Wo (n:=vw v h5 v.2.2.2.2.2.1.2 v.2.2.2.2.2.2.1.2) k hk)) (by omega) a1
   simp only at a2 a3 lvA p1 p2 p5 p6 lv1 lv2 lv3
   obtain ⟨nsC,nC,cC⟩:=nsB.buf pt
   have hw:=Nk nsA.ow.2.2.1.1.1 (by show 0<h5.length;have:=nsA.ow.2.2.1.1.2.1;have h2:(vw v h5 v.2.2.2.2.2.1.2 v.2.2.2.2.2.2.1.2).2.2.1.2=h5:=rfl;rw [h2] at this;omega)
   have hw':∃a n c,v.2.2.1.1=.slice (some a) n c:=hw
   have vA:=Xb lvA hw' j
   have lvB:VM.live B v.2.2.1.1:=Wb nsB.ow.2.2.1.1.1
   have vB:=Xb lvB hw' j
   have v1:=Xb lv1 hw' j
   have v2:=Xb lv2 hw' j
   have aB:vload Tryz.prog B 100 (elp v.2.2.1.1 j)=some a:=by
    obtain ⟨ab,b1,b2,b3,_⟩:=Xw (u:=(v.2.2.1.1,h5)) nsB.ow.2.2.1 hjl
    rw [a1] at b1;cases b1;exact b3
   have hFK:frz≤K.length:=by omega
   have hFA:frz≤A.length:=by omega
   have hFB:frz≤B.length:=by omega
   simp only [Wc] at hap zw
   have hAs:K++[⟨[.int .i64 (gg.1:Int),.int .i64 (gg.2.1:Int),.int .i64 (gg.2.2:Int)],0,107⟩]=A:=hA.symm
   simp [t0,t2,t3,t4,t5,t44,t45,t46,q1,q2,Vs]
   rw [hAs]
   clear hA hAs
   rw [Qo (h:=by kernel_rfl)]
   have vI:VM.vnil A (.pointer (some ⟨id,0,some 0⟩))=some (.pointer (some ⟨id,0,some 0⟩)):=by simp [VM.vnil,VM.look,hrA]
   simp [-Qe,-Qm,t0,t2,t3,t4,t5,t44,t45,t46,VM.look,hrA,vI,bx,ones,e1,e2,a2,vA,a3,z0,zw,hFK,hFA,hap,hFB,vB,v1,v2,p1,p3,p4,p6,qa1,qa2,qb1,qb2]
   have ltN:∀k∈dNet.ids (vw v h5 v.2.2.2.2.2.1.2 v.2.2.2.2.2.2.1.2),k<K.length:=fun k hk=>dNet.lt ns.ow k hk
   have dMN:∀k∈ids mv',k∉dNet.ids (vw v h5 v.2.2.2.2.2.1.2 v.2.2.2.2.2.2.1.2):=fun k hk hh=>by
    rcases nB k hk with h|h
    ·exact (nM k h).2 hh
    ·have:=ltN k hh;omega
   have ltM':=oM'.lt
   refine ih ((allN x).length-(i+1)) _ _ ⟨i+1,mv',h5.set j a',rfl,by omega,by simp [t0],by simp [t2],by simp [t3],by simp,by simp [t5],by simp [t44],by simp [t45],?_,by rw [hps];exact nsC,?_,fun k hk=>⟨?_,fun hh=>?_⟩⟩ (by omega)
   ·simp [t46];rw [w64 (by omega) (by omega)]
   ·rw [htk,List.map_append,List.map_cons,List.map_nil,← hfe];exact oM'.chg cC dMN
   ·rcases nB k hk with h|h
    ·exact (nM k h).1
    ·right;omega
   ·rcases nC k hh with h|h
    ·exact dMN k hk h
    ·have:=ltM' k hk;omega
  ·have hil:i=(allN x).length:=by omega
   subst hil
   rw [List.take_length] at oM
   clear ih
   -- between the loops: the network w,y1
   have hrK:K[id]? = some ⟨netCells (vw v h5 v.2.2.2.2.2.1.2 v.2.2.2.2.2.2.1.2) (nPop x (allN x).length)++tail,0,e⟩:=Qa hr0 ns.chg (fun hh=>by
    rcases List.mem_append.1 hh with hh|hh
    ·simp at hh;omega
    ·exact hid hh)
   have hdn:∀k,H.length≤k→k<H2.length∨H2.length<k→k<H'.length→k∉[H2.length]++dNet.ids v:=fun k h1 h2 h3 hh=>by
    rcases List.mem_append.1 hh with hh|hh
    ·simp at hh;omega
    ·have:=hlt k hh;omega
   have lG1:H1.length≤H2.length:=cE.1
   have oG3:=oG2.chg ns.chg (fun k hk=>hdn k (nG k hk) (.inl (by have:=ltG k hk;omega)) (by have:=ltG k hk;omega))
   have oE3:=oE2.chg ns.chg (fun k hk=>hdn k (by have:=nE k hk;omega) (.inl (ltE k hk)) (by have:=ltE k hk;omega))
   have oT3:=oT.chg ns.chg (fun k hk=>hdn k (by have:=nT' k hk;omega) (.inr (nT' k hk)) (ltT k hk))
   have hfw:∀k∈dNet.ids (vw v h5 v.2.2.2.2.2.1.2 v.2.2.2.2.2.2.1.2),(k∈dNet.ids v∨H'.length≤k):=ns.ids
   have nM':=fun k hk=>(nM k hk).2
   have hgl3:=oG3.rd.len (P:=Tryz.prog) (ty:=76) (by simp)
   have c1K:=ns.chg
   have b5:allL 67000000 (nPop x (allN x).length).2.2.1:=Oh _ _ hb5
   have l5:(nPop x (allN x).length).2.2.1.length=x.2.2.1.length:=Nx x _
   have ns1:NS K K [] (vw v h5 v.2.2.2.2.2.1.2 v.2.2.2.2.2.2.1.2) (nPop x (allN x).length) _ _ _:=NS.start [] ns.ow ns.nd
   simp [t0,t2,t3,t4,t5,t44,t45,t46,hgl3]
   clear ns hr0 oG2 oE2 oM2 oT nM hgl2
   generalize hw:vw v h5 v.2.2.2.2.2.1.2 v.2.2.2.2.2.2.1.2=w at *
   obtain ⟨y1,hy1⟩:∃y1,y1=nPop x (allN x).length:=⟨_,rfl⟩
   rw [← hy1] at hrK b5 l5 ns1
   have ye:y1.1=x.1∧y1.2.1=x.2.1∧y1.2.2.2.1=x.2.2.2.1∧y1.2.2.2.2.1=x.2.2.2.2.1∧y1.2.2.2.2.2.1=x.2.2.2.2.2.1∧y1.2.2.2.2.2.2.1=x.2.2.2.2.2.2.1∧y1.2.2.2.2.2.2.2=x.2.2.2.2.2.2.2:=by rw [hy1];exact ⟨rfl,rfl,rfl,rfl,rfl,rfl,rfl⟩
   have lK1:H'.length≤K.length:=c1K.1
   have hidw:id∉dNet.ids w:=fun hh=>by
    rcases hfw _ hh with h|h
    ·exact hid h
    ·omega
   have hgw:∀k,H.length≤k→k<H'.length→k∉dNet.ids w:=fun k h1 h2 hh=>by
    rcases hfw k hh with h|h
    ·have:=hlt k h;omega
    ·omega
   have hff:∀k∈dNet.ids w,frz≤k:=fun k hk=>by
    rcases hfw k hk with h|h
    ·exact hf k h
    ·omega
   have onew:=Qd (v:=w) ns1.ow
   -- the pushes
   refine Qk (fun n t J=>∃(i:Nat) (g5 g9:List Value),n=(allN x).length-i∧i≤(allN x).length∧t 0=.pointer (some ⟨id,0,some 0⟩)∧t 3=el∧t 4=mv∧t 5=r∧t 78=gl∧t 79=.int .i64 (allN x).length∧t 80=.int .i64 i∧
    NS K J [] w (nPush x y1 i) g5 w.2.2.2.2.2.1.2 g9) ?_ (n:=(allN x).length)
    ⟨0,w.2.2.1.2,w.2.2.2.2.2.2.1.2,rfl,by omega,by simp [t0],by simp [t3],by simp [t4],by simp [t5],by simp,by simp,by simp,ns1⟩
   clear t0 t2 t3 t4 t5 t44 t45 t46
   rintro n t J ⟨i,g5,g9,rfl,hi,t0,t3,t4,t5,t78,t79,t80,ns⟩ ih
   simp [t0,t3,t4,t5,t78,t79,t80]
   refine Qh ?_ ?_<;>intro g
   ·have hi':i<(allN x).length:=by omega
    have oG4:=oG3.chg ns.chg (fun k hk hh=>by
     rw [List.nil_append] at hh
     exact hgw k (nG k hk) (by have:=ltG k hk;omega) hh)
    obtain ⟨q1,q2⟩:=Ov oG4 hi'
    obtain ⟨m1,m2,m3,m4⟩:=hat _ (List.getElem_mem hi')
    have hps:=Jl (y:=y1) hi'
    have lmv:i<((allN x).map fun g=>headOf x (frm g)).length:=by simpa using hi'
    have lti:i<((allN x).map (tgI x)).length:=by simpa using hi'
    have emv:((allN x).map fun g=>headOf x (frm g))[i]=headOf x (frm (allN x)[i]):=by simp
    have eti:((allN x).map (tgI x))[i]=tgI x (allN x)[i]:=by simp
    obtain ⟨J1,hJ1⟩:∃J1,J1=J++[⟨grF.f (allN x)[i],0,107⟩]:=⟨_,rfl⟩
    have cJ:Chg J J1 []:=by rw [hJ1];exact Chg.app _
    have lJ:J1.length=J.length+1:=by rw [hJ1];simp
    have bx:J1[J.length]? = some ⟨grF.f (allN x)[i],0,107⟩:=by rw [hJ1];simp
    have hJs:J++[⟨grF.f (allN x)[i],0,107⟩]=J1:=hJ1.symm
    generalize (allN x)[i]=gg at *
    simp only [Vs] at bx hJs
    have nsA:=ns.other cJ (by simp) (by simp)
    obtain ⟨c,hc⟩:∃c,c=gg.2.2%2:=⟨_,rfl⟩
    obtain ⟨q,hq⟩:∃q,q=gg.2.2/2:=⟨_,rfl⟩
    obtain ⟨f,hfe⟩:∃f,f=headOf x (frm gg):=⟨_,rfl⟩
    rw [← hfe] at emv
    have hFJ:frz≤J.length:=by have:=ns.chg.1;omega
    have rowA:∀J':Heap,Chg K J' ([]++dNet.ids w)→J'[id]? = some ⟨netCells w y1++tail,0,e⟩:=fun J' c=>Qa hrK c (by simpa using hidw)
    have mvA:∀J':Heap,Chg K J' ([]++dNet.ids w)→Ow flF 103 J' mv _:=fun J' c=>oM.chg c (fun k hk=>by simpa using nM' k hk)
    have tlA:∀J':Heap,Chg K J' ([]++dNet.ids w)→Ow Fl.int 3 J' r _:=fun J' c=>oT3.chg c (fun k hk hh=>by rw [List.nil_append] at hh;exact hgw k (by have:=nT' k hk;omega) (ltT k hk) hh)
    have e3:∀[Inhabited Unit],(gg.2.2:Int).tmod 2=(c:Int):=by intro _;rw [tmod2];omega
    have e3':∀[Inhabited Unit],(gg.2.2:Int)%2=(c:Int):=by intro _;omega
    have e4:∀[Inhabited Unit],IntKind.i64.wrap ((gg.2.2:Int)/2)=(q:Int):=by intro _;rw [w64 (by omega) (by omega)];omega
    have rA:=rowA J1 nsA.chg
    unfold netCells at rA
    simp only [List.cons_append,List.nil_append] at rA
    obtain ⟨u1,u2⟩:=S6 (tlA J1 nsA.chg).rd.isI lti
    rw [eti] at u2
    have hNx:(x.2.2.1.length:Int)=10*cnt x.1.1 x.1.2.1:=hx.2.1.1
    have l9:(nPush x y1 i).2.2.2.2.2.2.1.length=x.2.2.2.2.2.2.1.length:=by rw [← ye.2.2.2.2.2.1];exact Qt (Rt x) _ _
    have l5':(nPush x y1 i).2.2.1.length=x.2.2.1.length:=by rw [← l5];exact Qt (Yq x) _ _
    have h9l:gg.1<(nPush x y1 i).2.2.2.2.2.2.1.length:=by rw [l9];have:=hx.2.1.2.2.2.2;omega
    obtain ⟨a9,r1,r2,r3,r4,r5,r6,r7⟩:=Xw (u:=(w.2.2.2.2.2.2.1.1,g9)) nsA.ow.2.2.2.2.2.2.1 h9l
    simp only at r2 r3 r7
    have vI:∀J':Heap,J'[id]? = some ⟨netCells w y1++tail,0,e⟩→VM.vnil J' (.pointer (some ⟨id,0,some 0⟩))=some (.pointer (some ⟨id,0,some 0⟩)):=fun J' h=>by simp [VM.vnil,VM.look,h]
    have vI1:=vI J1 (rowA J1 nsA.chg)
    simp [t0,t3,t4,t5,t78,t79,t80,q1,q2,Vs]
    rw [hJs]
    clear hJ1 hJs
    rw [Qo (h:=by kernel_rfl)]
    have hlw:∀k∈dNet.ids (vw w g5 w.2.2.2.2.2.1.2 g9),k<J.length:=fun k hk=>dNet.lt ns.ow k hk
    have hfg:∀k∈dNet.ids (vw w g5 w.2.2.2.2.2.1.2 g9),frz≤k:=fun k hk=>by
     rcases ns.ids k hk with h|h
     ·exact hff k h
     ·omega
    have b5i:=Q0 (Wl (Z8 x) ((allN x).take i) y1.2.2.1 67000000 b5) (show _≤67000080 by simp;omega)
    have b9i:=Q0 (Wl (Rc x) ((allN x).take i) y1.2.2.2.2.2.2.1 67000000 (by rw [ye.2.2.2.2.2.1];exact hb9)) (show _≤67000080 by simp;omega)
    obtain ⟨w1,w2,w3,w4⟩:=Bg (mvA J1 nsA.chg) lmv
    rw [emv] at w2
    simp only [Wc] at w2
    have hJJ:([⟨[.int .i64 f.1,.int .i64 f.2.1,.int .i64 f.2.2.1,.bool f.2.2.2.1,.bool f.2.2.2.2],0,103⟩]:Heap)=[⟨flF.f f,0,103⟩]:=rfl
    have hFJ1:frz≤J1.length:=by omega
    have hF1:frz≤J.length+1:=by omega
    simp [t0,t3,t4,t5,t78,t79,t80,VM.look,rA,vI1,bx,onew,r2,u1,u2,hFJ]
    -- the flit is put
    refine Ij (F:=?FA1) (k:=?kA1) (Q:=?QA1) (fun t J2=>∃(g5' g9':List Value),t 0=.pointer (some ⟨id,0,some 0⟩)∧t 3=el∧t 4=mv∧t 5=r∧t 11=.int .i64 i∧t 12=.pointer (some ⟨J.length,0,some 0⟩)∧t 78=gl∧t 79=.int .i64 (allN x).length∧t 80=.int .i64 i∧
     J2[J.length]? = some ⟨[.int .i64 (gg.1:Int),.int .i64 (gg.2.1:Int),.int .i64 (gg.2.2:Int)],0,107⟩∧NS K J2 [] w (withArr (withBuf (nPush x y1 i) (pushS x (nPush x y1 i).2.2.1 gg)) (arrS x (nPush x y1 i).2.2.2.2.2.2.1 gg)) g5' w.2.2.2.2.2.1.2 g9'∧∀k∈dNet.ids (vw w g5' w.2.2.2.2.2.1.2 g9'),k≠J.length) ?main ?rest
    case main=>
     intro rest
     by_cases h4:gg.2.1=4
     ·have hT:tgI x gg=-1:=by unfold tgI;rw [if_pos h4]
      obtain ⟨a',K2,K3,hap,p5,p6,lv2,lv3,qb1,qb2,c2,pt⟩:=Zz (frz:=frz) (u:=(w.2.2.2.2.2.2.1.1,g9)) nsA.ow.2.2.2.2.2.2.1 (Ok (n:=vw w g5 w.2.2.2.2.2.1.2 g9) nsA.nd) h9l (by have:=b9i _ (List.getElem_mem h9l);omega) (fun k hk=>hfg k (Yx (n:=vw w g5 w.2.2.2.2.2.1.2 g9) k hk)) r1 f
      simp only at p5 p6 lv2 lv3
      obtain ⟨nsC,nC,cC⟩:=nsA.arr pt
      have hwa:=Nk nsA.ow.2.2.2.2.2.2.1.1.1 (by show 0<g9.length;have:=nsA.ow.2.2.2.2.2.2.1.1.2.1;have h2:(vw w g5 w.2.2.2.2.2.1.2 g9).2.2.2.2.2.2.1.2=g9:=rfl;rw [h2] at this;omega)
      have v1:=Xb r7 hwa gg.1
      have v2:=Xb lv2 hwa gg.1
      have bx3:=Qa bx cC (fun hh=>by have:=hlw _ hh;omega)
      simp only [Wc] at hap
      simp [hT]
      rw [Qo (h:=by kernel_rfl)]
      simp [-Qe,-Qm,t0,t3,t4,t5,t78,t79,t80,VM.look,v1,r3,w1,w2,hap,v2,p6,r5,r6,qb1,qb2,hFJ1]
      refine rest _ _ ?_
      have e1:withArr (withBuf (nPush x y1 i) (pushS x (nPush x y1 i).2.2.1 gg)) (arrS x (nPush x y1 i).2.2.2.2.2.2.1 gg)=withArr (nPush x y1 i) (upd (nPush x y1 i).2.2.2.2.2.2.1 gg.1 (·++[f])):=by
       unfold pushS arrS;rw [if_pos h4,if_pos h4,hfe];rfl
      rw [e1]
      exact ⟨g5,g9.set gg.1 a',by simp [t0],by simp [t3],by simp [t4],by simp [t5],by simp,by simp,by simp [t78],by simp [t79],by simp [t80],bx3,nsC,fun k hk=>by rcases nC k hk with h|h;(have:=hlw k h;omega);omega⟩
     ·obtain ⟨hh,hroom⟩:=m4.2.1.resolve_left h4
      rw [← hc] at hroom
      obtain ⟨s1,s2,s3⟩:=Xn (c:=c) hh (by omega) (by omega)
      obtain ⟨z,hz⟩:∃z,z=tgt x gg.1 gg.2.1 c:=⟨_,rfl⟩
      rw [← hz] at s1 s2 s3
      have hT:tgI x gg=(z:Int):=by unfold tgI;rw [if_neg h4,← hc,hz]
      have hzl:z<(nPush x y1 i).2.2.1.length:=by rw [l5'];omega
      obtain ⟨az,d1,d2,d3,d4,d5,d6,d7⟩:=Xw (u:=(w.2.2.1.1,g5)) nsA.ow.2.2.1 hzl
      simp only at d2 d3 d7
      obtain ⟨a',K2,K3,hap,p5,p6,lv2,lv3,qb1,qb2,c2,pt⟩:=Zz (frz:=frz) (u:=(w.2.2.1.1,g5)) nsA.ow.2.2.1 (X1 (n:=vw w g5 w.2.2.2.2.2.1.2 g9) nsA.nd) hzl (by have:=b5i _ (List.getElem_mem hzl);omega) (fun k hk=>hfg k (Wo (n:=vw w g5 w.2.2.2.2.2.1.2 g9) k hk)) d1 f
      simp only at p5 p6 lv2 lv3
      obtain ⟨nsC,nC,cC⟩:=nsA.buf pt
      have hwa:=Nk nsA.ow.2.2.1.1.1 (by show 0<g5.length;have:=nsA.ow.2.2.1.1.2.1;have h2:(vw w g5 w.2.2.2.2.2.1.2 g9).2.2.1.2=g5:=rfl;rw [h2] at this;omega)
      have v1:=Xb d7 hwa z
      have v2:=Xb lv2 hwa z
      have bx3:=Qa bx cC (fun hh=>by have:=hlw _ hh;omega)
      rw [hT] at u2
      simp only [Wc] at hap
      simp [hT]
      rw [Qo (h:=by kernel_rfl)]
      simp [t0,t3,t4,t5,t78,t79,t80,VM.look,rA,vI1,onew,u1,u2,d2]
      rw [Qo (h:=by kernel_rfl)]
      simp [-Qe,-Qm,t0,t3,t4,t5,t78,t79,t80,VM.look,v1,d3,w1,w2,hap,v2,p6,d5,d6,qb1,qb2,hFJ1]
      refine rest _ _ ?_
      have e1:withArr (withBuf (nPush x y1 i) (pushS x (nPush x y1 i).2.2.1 gg)) (arrS x (nPush x y1 i).2.2.2.2.2.2.1 gg)=withBuf (nPush x y1 i) (upd (nPush x y1 i).2.2.1 z (·++[f])):=by
       unfold pushS arrS;rw [if_neg h4,if_neg h4,hfe,hz,hc];rfl
      rw [e1]
      exact ⟨g5.set z a',g9,by simp [t0],by simp [t3],by simp [t4],by simp [t5],by simp,by simp,by simp [t78],by simp [t79],by simp [t80],bx3,nsC,fun k hk=>by rcases nC k hk with h|h;(have:=hlw k h;omega);omega⟩
    case rest=>
     rintro t J2 ⟨g5',g9',t0,t3,t4,t5,t11,t12,t78,t79,t80,bx2,ns2,hlw2⟩
     obtain ⟨s2,hs2⟩:∃s2,s2=withArr (withBuf (nPush x y1 i) (pushS x (nPush x y1 i).2.2.1 gg)) (arrS x (nPush x y1 i).2.2.2.2.2.2.1 gg):=⟨_,rfl⟩
     rw [← hs2] at hps ns2
     have own2:s2.2.2.2.1=(nPush x y1 i).2.2.2.1:=by rw [hs2];rfl
     have turn2:s2.2.2.2.2.1=(nPush x y1 i).2.2.2.2.1:=by rw [hs2];rfl
     have lown:s2.2.2.2.1.length=x.2.2.2.1.length:=by rw [own2,← ye.2.2.1];exact Qt (Sq x) _ _
     have lturn:s2.2.2.2.2.1.length=x.2.2.2.2.1.length:=by rw [turn2,← ye.2.2.2.1];exact Qt Vv _ _
     clear hs2
     have rA2:=rowA J2 ns2.chg
     have vI2:=vI J2 rA2
     unfold netCells at rA2
     simp only [List.cons_append,List.nil_append] at rA2
     obtain ⟨z,hz⟩:∃z,z=outAt gg.1 gg.2.1 c:=⟨_,rfl⟩
     have hzl:z<s2.2.2.2.1.length:=by rw [lown,hz];have:=hx.2.1.2.1;unfold outAt;omega
     have bA:=fun F=>Us (frz:=F) (H:=J2) (n:=gg.1) (p:=gg.2.1) (c:=c) (by omega) m2 (by omega)
     rw [← hz] at bA
     obtain ⟨o1,_⟩:=S6 (Rd.isI ns2.ow.2.2.2.1.1.rd) hzl
     have o1':vindexAddr Tryz.prog J2 26 w.2.2.2.1 (.int .i64 (z:Int))=some (elp w.2.2.2.1 z):=o1
     have hfg2:∀k∈dNet.ids (vw w g5' w.2.2.2.2.2.1.2 g9'),frz≤k:=fun k hk=>by
      rcases ns2.ids k hk with h|h
      ·exact hff k h
      ·have:=ns2.chg.1;omega
     obtain ⟨J3,st3,ns3,c3⟩:=ns2.own (frz:=frz) hfg2 hzl (q:Int)
     have vo:=Fs ns2.ow.2.2.2.1.1 (by omega) z
     have vo':VM.vnil J2 (elp w.2.2.2.1 z)=some (elp w.2.2.2.1 z):=vo
     rw [Qo (h:=by kernel_rfl)]
     have hnot:J.length∉dNet.ids (vw w g5' w.2.2.2.2.2.1.2 g9'):=fun hh=>hlw2 _ hh rfl
     have bx3:=Qa bx2 c3 hnot
     obtain ⟨y1',y2',y3',y4'⟩:=Bg (mvA J3 ns3.chg) lmv
     rw [emv] at y4'
     have vo3:VM.vnil J3 (elp w.2.2.2.1 z)=some (elp w.2.2.2.1 z):=Fs (v:=w.2.2.2.1) ns3.ow.2.2.2.1.1 (by show 0<(s2.2.2.2.1.set z (q:Int)).length;simp;omega) z
     simp [-vfieldAddr,Qu,t0,t3,t4,t5,t11,t12,t78,t79,t80,VM.look,rA2,vI2,bx2,onew,e3,e3',bA,o1',e4,vo',st3,y1',y3',y4']
     have hos:ownS x s2.2.2.2.1 gg=s2.2.2.2.1.set z (if f.2.2.2.2 then -1 else (q:Int)):=by unfold ownS;rw [← hfe,hz,hc,hq]
     -- the owner
     refine Ij (F:=?FA2) (k:=?kA2) (Q:=?QA2) (fun t J4=>t 0=.pointer (some ⟨id,0,some 0⟩)∧t 3=el∧t 4=mv∧t 5=r∧t 12=.pointer (some ⟨J.length,0,some 0⟩)∧t 78=gl∧t 79=.int .i64 (allN x).length∧t 80=.int .i64 i∧
      J4[J.length]? = some ⟨[.int .i64 (gg.1:Int),.int .i64 (gg.2.1:Int),.int .i64 (gg.2.2:Int)],0,107⟩∧NS K J4 [] w (withOwn s2 (ownS x s2.2.2.2.1 gg)) g5' w.2.2.2.2.2.1.2 g9') ?main2 ?rest2
     case main2=>
      intro rest
      cases ht:f.2.2.2.2 with
      | false=>
       rw [ht,if_neg (by simp)] at hos
       simp
       refine rest _ _ ?_
       rw [hos]
       exact ⟨by simp [t0],by simp [t3],by simp [t4],by simp [t5],by simp [t12],by simp [t78],by simp [t79],by simp [t80],bx3,ns3⟩
      | true=>
       rw [ht,if_pos rfl] at hos
       obtain ⟨J4,st4,ns4,c4⟩:=ns3.own (frz:=frz) hfg2 (j:=z) (by show z<(s2.2.2.2.1.set z (q:Int)).length;simp;omega) (-1)
       have e1:withOwn (withOwn s2 (s2.2.2.2.1.set z (q:Int))) ((withOwn s2 (s2.2.2.2.1.set z (q:Int))).2.2.2.1.set z (-1))=withOwn s2 (s2.2.2.2.1.set z (-1)):=by
        show withOwn s2 ((s2.2.2.2.1.set z (q:Int)).set z (-1))=_
        rw [List.set_set]
       rw [e1] at ns4
       simp [t0,t3,t4,t5,t11,t12,t78,t79,t80,vo3,st4]
       refine rest _ _ ?_
       rw [hos]
       exact ⟨by simp [t0],by simp [t3],by simp [t4],by simp [t5],by simp [t12],by simp [t78],by simp [t79],by simp [t80],Qa bx3 c4 hnot,ns4⟩
     case rest2=>
      rintro t J4 ⟨t0,t3,t4,t5,t12,t78,t79,t80,bx4,ns4⟩
      have rA4:=rowA J4 ns4.chg
      have vI4:=vI J4 rA4
      unfold netCells at rA4
      simp only [List.cons_append,List.nil_append] at rA4
      obtain ⟨zt,hzt⟩:∃zt,zt=5*gg.1+gg.2.1:=⟨_,rfl⟩
      obtain ⟨d,hd⟩:∃d,d=(gg.2.2+1)%10:=⟨_,rfl⟩
      have hztl:zt<s2.2.2.2.2.1.length:=by rw [lturn,hzt];have:=hx.2.1.2.2.1;omega
      obtain ⟨o4,_⟩:=S6 (Rd.isI ns4.ow.2.2.2.2.1.1.rd) hztl
      have o4':vindexAddr Tryz.prog J4 26 w.2.2.2.2.1 (.int .i64 (zt:Int))=some (elp w.2.2.2.2.1 zt):=o4
      obtain ⟨J5,st5,ns5,c5⟩:=ns4.turn (frz:=frz) hfg2 (j:=zt) hztl (d:Int)
      have k1:=@w6 (5*(gg.1:Int)) (by omega)
      have k2:∀[Inhabited Unit],IntKind.i64.wrap (5*(gg.1:Int)+(gg.2.1:Int))=(zt:Int):=by intro _;rw [w64 (by omega) (by omega)];omega
      have k3:=@w6 ((gg.2.2:Int)+1) (by omega)
      have k4:∀[Inhabited Unit],((gg.2.2:Int)+1).tmod 10=(d:Int):=by intro _;rw [Int.tmod_eq_emod_of_nonneg (by omega)];omega
      have k4':∀[Inhabited Unit],((gg.2.2:Int)+1)%10=(d:Int):=by intro _;omega
      have hts:turnS s2.2.2.2.2.1 gg=s2.2.2.2.2.1.set zt (d:Int):=by unfold turnS;rw [hzt,hd]
      rw [← own2,← turn2,hts] at hps
      rw [Qo (h:=by kernel_rfl)]
      simp [t0,t3,t4,t5,t12,t78,t79,t80,VM.look,rA4,vI4,bx4,onew,k1,k2,k3,k4,k4',o4',st5]
      refine ih ((allN x).length-(i+1)) _ _ ⟨i+1,g5',g9',rfl,by omega,by simp [t0],by simp [t3],by simp [t4],by simp [t5],by simp [t78],by simp [t79],?_,by rw [hps];exact ns5⟩ (by omega)
      simp [t80];rw [w64 (by omega) (by omega)]
   ·have hil:i=(allN x).length:=by omega
    subst hil
    clear ih
    have oE4:=oE3.chg ns.chg (fun k hk hh=>by
     rw [List.nil_append] at hh
     exact hgw k (by have:=nE k hk;omega) (by have:=ltE k hk;omega) hh)
    have hel:=oE4.rd.len (P:=Tryz.prog) (ty:=26) (by simp)
    rw [List.length_map] at hel
    obtain ⟨y3,hy3⟩:∃y3,y3=nPush x y1 (allN x).length:=⟨_,rfl⟩
    rw [← hy3] at ns
    have ye3:y3.1=x.1∧y3.2.1=x.2.1∧y3.2.2.2.2.2.1=x.2.2.2.2.2.1∧y3.2.2.2.2.2.2.2=x.2.2.2.2.2.2.2:=by rw [hy3];exact ⟨ye.1,ye.2.1,ye.2.2.2.2.1,ye.2.2.2.2.2.2⟩
    have l53:y3.2.2.1.length=x.2.2.1.length:=by rw [hy3,← l5];exact Qt (Yq x) _ _
    have b53:allL 67000080 y3.2.2.1:=by
     rw [hy3]
     refine Q0 (Wl (Z8 x) ((allN x).take (allN x).length) y1.2.2.1 67000000 b5) ?_
     simp;omega
    have hE:=Y9 x
    have hEat:=fun k (hk:k∈enterN x)=>Wm hk
    have hEnd:=X5 x
    simp [t0,t3,t4,t5,t78,t79,t80,hel]
    -- what enters
    refine Qk (fun n t J=>∃(i:Nat) (g5 g8:List Value),n=(enterN x).length-i∧i≤(enterN x).length∧t 0=.pointer (some ⟨id,0,some 0⟩)∧t 158=el∧t 159=.int .i64 (enterN x).length∧t 160=.int .i64 i∧
     NS K J [] w (nEnt x y3 i) g5 g8 g9) ?_ (n:=(enterN x).length)
     ⟨0,g5,w.2.2.2.2.2.1.2,rfl,by omega,by simp [t0],by simp,by simp,by simp,ns⟩
    clear t0 t3 t4 t5 t78 t79 t80 oE4 hel ns
    rintro n t J ⟨i,g5,g8,rfl,hi,t0,t158,t159,t160,ns⟩ ih
    simp [t0,t158,t159,t160]
    refine Qh ?_ ?_<;>intro g
    ·have hi':i<(enterN x).length:=by omega
     have oE4:=oE3.chg ns.chg (fun k hk hh=>by
      rw [List.nil_append] at hh
      exact hgw k (by have:=nE k hk;omega) (by have:=ltE k hk;omega) hh)
     obtain ⟨u1,u2⟩:=S6 oE4.rd.isI (i:=i) (by simpa using hi')
     have eel:((enterN x).map Int.ofNat)[i]'(by simpa using hi')=((enterN x)[i]:Int):=by simp
     rw [eel] at u2
     obtain ⟨m1,m2⟩:=hEat _ (List.getElem_mem hi')
     have hps:=Om (y:=y3) hi'
     have hsat:(nEnt x y3 i).2.2.2.2.2.1.getD (enterN x)[i] []=x.2.2.2.2.2.1.getD (enterN x)[i] []:=by
      rw [← ye3.2.2.1]
      have hnt:=Vt (f:=fun k:Nat=>k) (by simpa using hEnd) hi'
      exact Nr _ _ _ (by simpa using hnt)
     generalize (enterN x)[i]=k at *
     have hks:k<(nEnt x y3 i).2.2.2.2.2.1.length:=by
      have:(nEnt x y3 i).2.2.2.2.2.1.length=y3.2.2.2.2.2.1.length:=Qt Sh _ _
      rw [this,ye3.2.2.1];have:=hx.2.1.2.2.2.1;omega
     have hgd:(nEnt x y3 i).2.2.2.2.2.1.getD k []=(nEnt x y3 i).2.2.2.2.2.1[k]:=by simp [List.getD_eq_getElem?_getD,hks]
     have hne:(nEnt x y3 i).2.2.2.2.2.1[k]≠[]:=by rw [← hgd,hsat];exact m2.1
     have hhd:headL (nEnt x y3 i).2.2.2.2.2.1[k]=srcHead x k:=by rw [← hgd,hsat];rfl
     obtain ⟨en1,en2,en3⟩:=Zl hx m2.1
     have hcl:=en1.2
     obtain ⟨f,hfe⟩:∃f,f=srcHead x k:=⟨_,rfl⟩
     obtain ⟨z,hz⟩:∃z,z=entAt x k:=⟨_,rfl⟩
     rw [← hfe,← hz] at en2
     rw [← hfe] at hhd hcl
     have hzl:z<(nEnt x y3 i).2.2.1.length:=by
      have:(nEnt x y3 i).2.2.1.length=y3.2.2.1.length:=Qt (U6 x) _ _
      rw [this,l53];have:=hx.2.1.1;unfold inR at hcl;omega
     have b5i:=Q0 (Wl (Sg x) ((enterN x).take i) y3.2.2.1 67000080 b53) (show _≤67000096 by simp;omega)
     have rA:∀J':Heap,Chg K J' ([]++dNet.ids w)→J'[id]? = some ⟨netCells w y1++tail,0,e⟩:=fun J' c=>Qa hrK c (by simpa using hidw)
     have vI:∀J':Heap,J'[id]? = some ⟨netCells w y1++tail,0,e⟩→VM.vnil J' (.pointer (some ⟨id,0,some 0⟩))=some (.pointer (some ⟨id,0,some 0⟩)):=fun J' h=>by simp [VM.vnil,VM.look,h]
     obtain ⟨J1,hJ1⟩:∃J1,J1=J++[⟨flF.f f,0,103⟩]:=⟨_,rfl⟩
     have cJ:Chg J J1 []:=by rw [hJ1];exact Chg.app _
     have lJ:J1.length=J.length+1:=by rw [hJ1];simp
     have bx:J1[J.length]? = some ⟨flF.f f,0,103⟩:=by rw [hJ1];simp
     have hJs:J++[⟨flF.f f,0,103⟩]=J1:=hJ1.symm
     simp only [Wc] at bx hJs
     have nsA:=ns.other cJ (by simp) (by simp)
     have hlw:∀l∈dNet.ids (vw w g5 g8 g9),l<J.length:=fun l hl=>dNet.lt ns.ow l hl
     have hFJ:frz≤J.length:=by have:=ns.chg.1;omega
     have hfg:∀l∈dNet.ids (vw w g5 g8 g9),frz≤l:=fun l hl=>by
      rcases ns.ids l hl with h|h
      ·exact hff l h
      ·omega
     obtain ⟨a8,r1,r2,r3,r4,r5,r6,r7⟩:=Xw (u:=(w.2.2.2.2.2.1.1,g8)) ns.ow.2.2.2.2.2.1 hks
     simp only at r2 r3 r7
     obtain ⟨z0,_,_,_,_,_,_,zw⟩:=front r4.rd hne
     rw [hhd] at zw
     simp only [Wc] at zw
     obtain ⟨az,d1,d2,d3,d4,d5,d6,d7⟩:=Xw (u:=(w.2.2.1.1,g5)) nsA.ow.2.2.1 hzl
     simp only at d2 d3 d7
     obtain ⟨a',K2,K3,hap,p5,p6,lv2,lv3,qb1,qb2,c2,pt⟩:=Zz (frz:=frz) (u:=(w.2.2.1.1,g5)) nsA.ow.2.2.1 (X1 (n:=vw w g5 g8 g9) nsA.nd) hzl (by have:=b5i _ (List.getElem_mem hzl);omega) (fun l hl=>hfg l (Wo (n:=vw w g5 g8 g9) l hl)) d1 f
     simp only at p5 p6 lv2 lv3
     obtain ⟨nsB,nB,cB⟩:=nsA.buf pt
     simp only [Wc] at hap
     have hfg2:∀l∈dNet.ids (vw w (g5.set z a') g8 g9),frz≤l:=fun l hl=>by
      rcases nB l hl with h|h
      ·exact hfg l h
      ·omega
     have hFK3:frz≤K3.length:=by have:=cB.1;omega
     obtain ⟨a8',s1,s2,s3,s4,s5,s6,s7⟩:=Xw (u:=(w.2.2.2.2.2.1.1,g8)) nsB.ow.2.2.2.2.2.1 hks
     have ea8:a8'=a8:=by rw [r1] at s1;exact (Option.some.inj s1).symm
     subst ea8
     simp only at s2 s3 s7
     obtain ⟨zz,b',M2,M3,t3',t4',t5',t6',mv2,mv3,qc1,qc2,cc2,pt2⟩:=Nq (frz:=frz) (u:=(w.2.2.2.2.2.1.1,g8)) nsB.ow.2.2.2.2.2.1 (V9 (n:=vw w (g5.set z a') g8 g9) nsB.nd) hks hne (fun l hl=>hfg2 l (X0 (n:=vw w (g5.set z a') g8 g9) l hl)) s1
     simp only at t5' t6' mv2 mv3
     obtain ⟨nsC,nC,cC⟩:=nsB.src pt2
     have rJ:=rA J ns.chg
     have rJ1:=rA J1 nsA.chg
     have rK3:=rA K3 nsB.chg
     have vJ:=vI J rJ
     have vJ1:=vI J1 rJ1
     have vK3:=vI K3 rK3
     have hidg:id∉dNet.ids (vw w g5 g8 g9):=fun hh=>by
      rcases ns.ids _ hh with h|h
      ·exact hidw h
      ·have:=Qz hrK;omega
     have rK2:K2[id]? = some ⟨netCells w y1++tail,0,e⟩:=Qa rJ1 c2 (fun hh=>hidg (Wo (n:=vw w g5 g8 g9) id (Xa d1 hh)))
     have rM2:M2[id]? = some ⟨netCells w y1++tail,0,e⟩:=Qa rK3 cc2 (by simp)
     have rM3:=rA M3 nsC.chg
     have rJL:=fun L=>Qx rJ1 L
     have lvL:∀L:Heap,VM.live (J1++L) w.2.2.1.1:=fun L=>Wb (v:=w.2.2.1.1) (Ow.app (L:=L) nsA.ow.2.2.1.1.1)
     have rM:∀L:Heap,(K3++L)[id]? = some ⟨netCells w y1++tail,0,e⟩:=fun L=>Qx rK3 L
     have vM:=fun L=>vI (K3++L) (rM L)
     unfold netCells at rJ rJ1 rK3 rM rK2 rM2 rM3 rJL
     simp only [List.cons_append,List.nil_append] at rJ rJ1 rK3 rM rK2 rM2 rM3 rJL
     have bA:∀F,vcall C F 99 [.int .i64 (k:Int),.int .i64 4,.int .i64 f.2.2.1] J1=some (.int .i64 (z:Int),J1):=fun F=>by
      rw [Y3,if_pos ⟨⟨by omega,by omega⟩,⟨by omega,by omega⟩,hcl⟩,en2];congr 3
     simp [t0,t158,t159,t160,u1,u2,VM.look,rJ,vJ,onew,r2,r3,r5,r6,z0,zw]
     rw [hJs]
     clear hJ1 hJs
     simp [t0,t158,t159,t160,VM.look,bx,bA]
     rw [Xr (fl:=([3],[16])) (h:=⟨by kernel_rfl,by kernel_rfl,by kernel_rfl,by kernel_rfl⟩)]
     simp [emps,empOp,empB,-Qe,-Qm,t0,t158,t159,t160,VM.look,rJ1,vJ1,onew,d2,d3,d5,d6,bx,hap,p5,p6,d7,lv2,lv3,qb1,qb2,hFJ,rJL,lvL,rK2,rK3]
     rw [X8 (h:=⟨by kernel_rfl,by kernel_rfl⟩)]
     simp [emps,empOp,empB,-Qe,-Qm,t0,t158,t159,t160,VM.look,rK3,vK3,onew,s2,s3,s5,s6,s7,rM,vM,t3',t4',t5',t6',rM2,rM3,mv2,mv3,qc1,qc2,hFK3]
     refine ih ((enterN x).length-(i+1)) _ _ ⟨i+1,g5.set z a',g8.set k b',rfl,by omega,by simp [t0],by simp [t158],by simp [t159],?_,?_⟩ (by omega)
     ·simp [t160];rw [w64 (by omega) (by omega)]
     ·rw [hps]
      have e1:entS x (nEnt x y3 i).2.2.1 k=upd (nEnt x y3 i).2.2.1 z (·++[f]):=by unfold entS;rw [← hz,← hfe]
      rw [e1]
      exact nsC
    ·have hil:i=(enterN x).length:=by omega
     subst hil
     clear ih
     have ec:netCells w y1=netCells w x:=by unfold netCells;rw [ye.1,ye.2.2.2.2.2.2]
     have rJ:J[id]? = some ⟨netCells w x++tail,0,e⟩:=by rw [← ec];exact Qa hrK ns.chg (by simpa using hidw)
     have hse:stepN x=older (nEnt x y3 (enterN x).length) 1:=by rw [Cx,← hy1,← hy3]
     have lJ:=ns.chg.1
     unfold netCells at rJ
     simp only [List.cons_append,List.nil_append] at rJ
     have vJ:VM.vnil J (.pointer (some ⟨id,0,some 0⟩))=some (.pointer (some ⟨id,0,some 0⟩)):=by simp [VM.vnil,VM.look,rJ]
     have et:∀[Inhabited Unit],IntKind.i64.wrap (x.2.2.2.2.2.2.2+1)=x.2.2.2.2.2.2.2+1:=by intro _;unfold inR at ht;exact w64 (by omega) (by omega)
     simp [t0,t158,t159,t160,VM.look,rJ,vJ,et,hfi]
     have hidg:id∉dNet.ids (vw w g5 g8 g9):=fun hh=>by
      rcases ns.ids _ hh with h|h
      ·exact hidw h
      ·have:=Qz hrK;omega
     refine ⟨vw w g5 g8 g9,Qn rJ,?_,ns.nd,fun k hk=>?_,?_⟩
     ·rw [hse]
      exact Dt.chg (T:=dNet) ns.ow (Qj _ _) (fun k hk hh=>by simp at hh;exact hidg (hh▸hk))
     ·rcases ns.ids k hk with h|h
      ·rcases hfw k h with h|h
       ·exact .inl h
       ·exact .inr (by omega)
      ·exact .inr (by omega)
     ·have c1:Chg H K (id::dNet.ids v):=(cK0.mono (fun _ h=>by cases h)).trans' c1K (fun k hk=>by
       rcases List.mem_append.1 hk with h|h
       ·simp at h;exact .inr (by omega)
       ·exact .inl (List.mem_cons_of_mem _ h))
      refine (c1.trans' ns.chg (fun k hk=>?_)).trans (Chg.mono (Qj _ _) (fun k hk=>by simp at hk;rw [hk];exact List.mem_cons_self ..))
      rw [List.nil_append] at hk
      rcases hfw k hk with h|h
      ·exact .inl (List.mem_cons_of_mem _ h)
      ·exact .inr (by omega)
noncomputable def nBoth (x:NetD) (i:Nat):NetD:=
 (x.1,x.2.1,((allN x).take i).foldl (bothS x) x.2.2.1,((allN x).take i).foldl (ownS x) x.2.2.2.1,((allN x).take i).foldl turnS x.2.2.2.2.1,x.2.2.2.2.2.1,((allN x).take i).foldl (arrS x) x.2.2.2.2.2.2.1,x.2.2.2.2.2.2.2)
theorem Kk {x:NetD} {i:Nat} (h:i<(allN x).length):nBoth x (i+1)=withTurn (withOwn (withArr (withBuf (nBoth x i) (pushS x (upd (nBoth x i).2.2.1 (frm (allN x)[i]) (List.drop 1)) (allN x)[i])) (arrS x (nBoth x i).2.2.2.2.2.2.1 (allN x)[i])) (ownS x (nBoth x i).2.2.2.1 (allN x)[i])) (turnS (nBoth x i).2.2.2.2.1 (allN x)[i]):=by
 unfold nBoth;simp only [Ws _ _ h];rfl
theorem Po (x:NetD) (s:SSD) (g:GrD):(bothS x s g).length=s.length:=by unfold bothS;simp
theorem Ev {x:NetD} {i:Nat} (h:i<(allN x).length):(nBoth x i).2.2.1.getD (frm (allN x)[i]) []≠[]:=
 Ik x _ _ _ (Vt (Ye x) h) (Yh (W3 (List.getElem_mem h)).2.2.2)
theorem Dd (x:NetD):stepN x=older (nEnt x (nBoth x (allN x).length) (enterN x).length) 1:=by
 have e:=Ot x (allN x) x.2.2.1 (Ye x) (fun g hg=>Yh (W3 hg).2.2.2)
 unfold nEnt nBoth older
 simp only [List.take_length]
 rw [e]
 rfl
theorem Pk {v:NetV} {x:NetD} (o:dNet.Ow H v x) (hx:runOk x) (hb5:allL 67000000 x.2.2.1) (hb9:allL 67000000 x.2.2.2.2.2.2.1) (ht:inR 0 x.2.2.2.2.2.2.2 1000000) :
 wp (vcall C frz 47 [dNet.val v x] H) (dNet.Made H (stepN x)):=by
 have ones:=Qd o
 have cr:=Qg x.1.1 x.1.2.1
 have hlt:=dNet.lt o
 have ecopy:=fun L=>Y0 (frz:=H.length) (H:=H++L) (v:=v) (x:=x) (Dt.app (T:=dNet) o)
 simp only [Qc] at ecopy ⊢
 rw [Qb (fn:=Tryz.f47) Tryz.func47 rfl (by kernel_rfl) rfl]
 simp [ones]
 refine Qf (ecopy _) ?_
 rintro _ K ⟨n,rfl,on,cn,mn,dn⟩
 simp at mn
 have qn:=Qd on
 have lK:=cn.1
 simp at lK
 have hF:H.length≤K.length:=by omega
 simp [Qc,qn,VM.look,hF]
 obtain ⟨K1,hK1⟩:∃K1,K1=K++[⟨netCells n x,0,57⟩]:=⟨_,rfl⟩
 have c1:Chg K K1 []:=by rw [hK1];exact Chg.app _
 have l1:K1.length=K.length+1:=by rw [hK1];simp
 have cK:Chg H K []:=(Chg.app _).trans cn
 have cK1:=cK.trans c1
 have b1:K1[H.length]? = some ⟨netCells v x,0,57⟩:=Qa (Qa (by simp [netCells]) cn (by simp)) c1 (by simp)
 have bR:K1[H.length+1]? = some ⟨[.int .i64 0,.int .i64 0,.slice none 0 0,.slice none 0 0,.slice none 0 0,.slice none 0 0,.slice none 0 0,.slice none 0 0,.slice none 0 0,.slice none 0 0,.int .i64 0],0,57⟩:=Qa (Qa (by simp) cn (by simp)) c1 (by simp)
 have b3:K1[K.length]? = some ⟨netCells n x,0,57⟩:=by rw [hK1];simp
 have hKs:K++[⟨netCells n x,0,57⟩]=K1:=hK1.symm
 have o1:=Dt.chg (T:=dNet) o cK1 (by simp)
 have on1:=Dt.chg (T:=dNet) on c1 (by simp)
 have ltn:∀i∈dNet.ids n,i<K.length:=fun i hi=>dNet.lt on i hi
 have b1':=b1
 unfold netCells at hKs b1'
 rw [hKs]
 clear hK1 hKs
 have eal:=Mv (frz:=H.length) o1 hx
 simp only [Qc] at eal
 simp [VM.look,b1',ones]
 refine Qf eal ?_
 rintro gl K2 ⟨oG,nG,cG⟩
 have l2:=cG.1
 have b1:=Qa b1 cG (by simp)
 have bR:=Qa bR cG (by simp)
 have b3:=Qa b3 cG (by simp)
 have o2:=Dt.chg (T:=dNet) o1 cG (by simp)
 have on2:=Dt.chg (T:=dNet) on1 cG (by simp)
 have cK2:=cK1.trans cG
 have hidn:K.length∉dNet.ids n:=fun hh=>by have:=ltn _ hh;omega
 have ns0:NS K2 K2 [] n x _ _ _:=NS.start [] on2 dn
 have hL:=Vr x
 have hat:=fun g (hg:g∈allN x)=>W3 hg
 have ltG:=oG.lt
 have hmn:∀k∈dNet.ids n,H.length+2≤k:=mn
 have rowO:∀J:Heap,Chg K2 J ([]++dNet.ids n)→J[H.length]? = some ⟨netCells v x,0,57⟩:=fun J c=>Qa b1 c (fun hh=>by have:=hmn _ (by simpa using hh);omega)
 have rowR:=fun (J:Heap) (c:Chg K2 J ([]++dNet.ids n))=>Qa bR c (fun hh=>by have:=hmn _ (by simpa using hh);omega)
 have rowN:∀J:Heap,Chg K2 J ([]++dNet.ids n)→J[K.length]? = some ⟨netCells n x,0,57⟩:=fun J c=>Qa b3 c (by simpa using hidn)
 have cHJ:∀J:Heap,Chg K2 J ([]++dNet.ids n)→Chg H J []:=fun J c=>cK2.trans' c (fun k hk=>.inr (by have:=hmn k (by simpa using hk);omega))
 have glJ:∀J:Heap,Chg K2 J ([]++dNet.ids n)→Ow grF 107 J gl (allN x):=fun J c=>oG.chg c (fun k hk hh=>by have:=nG k hk;have:=ltn k (by simpa using hh);omega)
 have hNx:(x.2.2.1.length:Int)=10*cnt x.1.1 x.1.2.1:=hx.2.1.1
 simp
 -- the grants
 refine Qk (fun m t J=>∃(i:Nat) (g5 g9:List Value),m=(allN x).length-i∧i≤(allN x).length∧t 1=.pointer (some ⟨H.length,0,some 0⟩)∧t 2=.pointer (some ⟨H.length+1,0,some 0⟩)∧t 3=.pointer (some ⟨K.length,0,some 0⟩)∧t 4=gl∧t 5=.int .i64 i∧
  NS K2 J [] n (nBoth x i) g5 n.2.2.2.2.2.1.2 g9) ?_ (n:=(allN x).length)
  ⟨0,n.2.2.1.2,n.2.2.2.2.2.2.1.2,rfl,by omega,by simp,by simp,by simp,by simp,by simp,ns0⟩
 rintro m t J ⟨i,g5,g9,rfl,hi,t1,t2,t3,t4,t5,ns⟩ ih
 have hgl:=(glJ J ns.chg).rd.len (P:=Tryz.prog) (ty:=76) (by simp)
 simp [t1,t2,t3,t4,t5,hgl]
 refine Qh ?_ ?_<;>intro g
 ·have hi':i<(allN x).length:=by omega
  obtain ⟨q1,q2⟩:=Ov (glJ J ns.chg) hi'
  obtain ⟨m1,m2,m3,m4⟩:=hat _ (List.getElem_mem hi')
  have hps:=Kk hi'
  have hne0:=Ev hi'
  obtain ⟨J1,hJ1⟩:∃J1,J1=J++[⟨grF.f (allN x)[i],0,107⟩]:=⟨_,rfl⟩
  have cJ:Chg J J1 []:=by rw [hJ1];exact Chg.app _
  have lJ:J1.length=J.length+1:=by rw [hJ1];simp
  have bx1:J1[J.length]? = some ⟨grF.f (allN x)[i],0,107⟩:=by rw [hJ1];simp
  have hJs:J++[⟨grF.f (allN x)[i],0,107⟩]=J1:=hJ1.symm
  generalize (allN x)[i]=gg at *
  simp only [Vs] at bx1 hJs
  have nsA:=ns.other cJ (by simp) (by simp)
  obtain ⟨c,hc⟩:∃c,c=gg.2.2%2:=⟨_,rfl⟩
  obtain ⟨q,hq⟩:∃q,q=gg.2.2/2:=⟨_,rfl⟩
  obtain ⟨j,hj⟩:∃j,j=frm gg:=⟨_,rfl⟩
  obtain ⟨f,hfe⟩:∃f,f=headOf x (frm gg):=⟨_,rfl⟩
  have hjx:j<x.2.2.1.length:=by unfold frm at hj;omega
  have l5':(nBoth x i).2.2.1.length=x.2.2.1.length:=Qt (Po x) _ _
  have l9':(nBoth x i).2.2.2.2.2.2.1.length=x.2.2.2.2.2.2.1.length:=Qt (Rt x) _ _
  have hjl:j<(nBoth x i).2.2.1.length:=by omega
  rw [← hj] at hps hne0 hfe
  have hgd:(nBoth x i).2.2.1.getD j []=(nBoth x i).2.2.1[j]:=by simp [List.getD_eq_getElem?_getD,hjl]
  have hne:(nBoth x i).2.2.1[j]≠[]:=by rw [← hgd];exact hne0
  have hgx:x.2.2.1.getD j []=x.2.2.1[j]:=by simp [List.getD_eq_getElem?_getD,hjx]
  have hnx:x.2.2.1[j]≠[]:=by rw [← hgx,hj];exact Yh m4
  have hhd:headL x.2.2.1[j]=f:=by rw [← hgx,hfe];rfl
  have e1:=@w6 (10*(gg.1:Int)) (by omega)
  have e2:∀[Inhabited Unit],IntKind.i64.wrap (10*(gg.1:Int)+(gg.2.2:Int))=(j:Int):=by intro _;unfold frm at hj;rw [w64 (by omega) (by omega)];omega
  have e3:∀[Inhabited Unit],(gg.2.2:Int).tmod 2=(c:Int):=by intro _;rw [tmod2];omega
  have e3':∀[Inhabited Unit],(gg.2.2:Int)%2=(c:Int):=by intro _;omega
  have e4:∀[Inhabited Unit],IntKind.i64.wrap ((gg.2.2:Int)/2)=(q:Int):=by intro _;rw [w64 (by omega) (by omega)];omega
  have rO1:=rowO J1 nsA.chg
  unfold netCells at rO1
  obtain ⟨a0,z1,z2,z3,z4,z5,z6,z7⟩:=Xw (u:=v.2.2.1) (Dt.chg (T:=dNet) o (cHJ J1 nsA.chg) (by simp)).2.2.1 hjx
  obtain ⟨z0,_,_,_,_,_,_,zw⟩:=front z4.rd hnx
  rw [hhd] at zw
  obtain ⟨J2,hJ2⟩:∃J2,J2=J1++[⟨flF.f f,0,103⟩]:=⟨_,rfl⟩
  have cJ2:Chg J1 J2 []:=by rw [hJ2];exact Chg.app _
  have lJ2:J2.length=J1.length+1:=by rw [hJ2];simp
  have bx2:J2[J1.length]? = some ⟨flF.f f,0,103⟩:=by rw [hJ2];simp
  have hJ2s:J1++[⟨flF.f f,0,103⟩]=J2:=hJ2.symm
  simp only [Wc] at bx2 hJ2s zw
  have bx12:=Qa bx1 cJ2 (by simp)
  have nsB:=nsA.other cJ2 (by simp) (by simp)
  have hlw:∀k∈dNet.ids (vw n g5 n.2.2.2.2.2.1.2 g9),k<J.length:=fun k hk=>dNet.lt ns.ow k hk
  have hfg:∀k∈dNet.ids (vw n g5 n.2.2.2.2.2.1.2 g9),H.length≤k:=fun k hk=>by
   rcases ns.ids k hk with h|h
   ·have:=hmn k h;omega
   ·omega
  have hFJ:H.length≤J.length:=by have:=ns.chg.1;omega
  have hFJ1:H.length≤J1.length:=by omega
  have b5i:=Q0 (Wl (Pw x) ((allN x).take i) x.2.2.1 67000000 hb5) (show _≤67000080 by simp;omega)
  have b9i:=Q0 (Wl (Rc x) ((allN x).take i) x.2.2.2.2.2.2.1 67000000 hb9) (show _≤67000080 by simp;omega)
  -- out of the input
  obtain ⟨ab,r1,r2,r3,r4,r5,r6,r7⟩:=Xw (u:=(n.2.2.1.1,g5)) nsB.ow.2.2.1 hjl
  simp only at r2 r3 r7
  obtain ⟨z,a',M2,M3,p3,p4,p5,p6,lv2,lv3,qb1,qb2,c2,pt⟩:=Nq (frz:=H.length) (u:=(n.2.2.1.1,g5)) nsB.ow.2.2.1 (X1 (n:=vw n g5 n.2.2.2.2.2.1.2 g9) nsB.nd) hjl hne (fun k hk=>hfg k (Wo (n:=vw n g5 n.2.2.2.2.2.1.2 g9) k hk)) r1
  simp only at p5 p6 lv2 lv3
  obtain ⟨nsC,nC,cC⟩:=nsB.buf pt
  have bx13:=Qa bx12 cC (fun hh=>by have:=hlw _ hh;omega)
  have bx23:=Qa bx2 cC (fun hh=>by have:=hlw _ hh;omega)
  have rN2:=rowN J2 nsB.chg
  unfold netCells at rN2
  have lM3:=cC.1
  simp [t1,t2,t3,t4,t5,q1,q2,Vs,hFJ]
  rw [hJs]
  clear hJ1 hJs
  simp [t1,t2,t3,t4,t5,VM.look,bx1,rO1,ones,e1,e2,e3,e3',z2,z3,z5,z6,z0,zw,hFJ1]
  rw [hJ2s]
  clear hJ2 hJ2s
  rw [X8 (h:=⟨by kernel_rfl,by kernel_rfl⟩)]
  simp [emps,empOp,empB,-Qe,-Qm,t1,t2,t3,t4,t5,VM.look,rN2,qn,r2,r3,r5,r6,p3,p4,p5,p6,qb1,qb2,bx13,e4]
  have rN3:=rowN M3 nsC.chg
  have rO3:=rowO M3 nsC.chg
  have hlw2:∀k∈dNet.ids (vw n (g5.set j a') n.2.2.2.2.2.1.2 g9),k<J.length∨J2.length≤k:=fun k hk=>(nC k hk).imp (hlw k) _root_.id
  have hfg2:∀k∈dNet.ids (vw n (g5.set j a') n.2.2.2.2.2.1.2 g9),H.length≤k:=fun k hk=>by
   rcases nC k hk with h|h
   ·exact hfg k h
   ·omega
  have hidg:K.length∉dNet.ids (vw n (g5.set j a') n.2.2.2.2.2.1.2 g9):=fun hh=>by
   rcases nsC.ids _ hh with h|h
   ·exact hidn h
   ·omega
  have rNL:=fun L=>Qx rN3 L
  have bxL:=fun L=>Qx bx13 L
  have hFM3:H.length≤M3.length:=by omega
  unfold netCells at rO3
  -- into the output
  refine Ep (F:=?FB1) (k1:=?kB1) (k2:=?kB2) (Q:=?QB1) (fun cc t J4=>∃(g5' g9':List Value),cc=.bool f.2.2.2.2∧t 1=.pointer (some ⟨H.length,0,some 0⟩)∧t 2=.pointer (some ⟨H.length+1,0,some 0⟩)∧t 3=.pointer (some ⟨K.length,0,some 0⟩)∧t 4=gl∧t 5=.int .i64 i∧
   t 6=.pointer (some ⟨J.length,0,some 0⟩)∧t 8=.int .i64 c∧t 11=.int .i64 q∧J4[J.length]? = some ⟨[.int .i64 (gg.1:Int),.int .i64 (gg.2.1:Int),.int .i64 (gg.2.2:Int)],0,107⟩∧
   NS K2 J4 [] n (withArr (withBuf (nBoth x i) (pushS x (upd (nBoth x i).2.2.1 j (List.drop 1)) gg)) (arrS x (nBoth x i).2.2.2.2.2.2.1 gg)) g5' n.2.2.2.2.2.1.2 g9'∧∀k∈dNet.ids (vw n g5' n.2.2.2.2.2.1.2 g9'),k≠J.length) ?mainB ?restB
  case mainB=>
   intro rest
   by_cases h4:gg.2.1=4
   ·have h4c:(gg.2.1:Int)=4:=by omega
    have h9l:gg.1<(nBoth x i).2.2.2.2.2.2.1.length:=by rw [l9'];have:=hx.2.1.2.2.2.2;omega
    obtain ⟨a9,d1,d2,d3,d4,d5,d6,d7⟩:=Xw (u:=(n.2.2.2.2.2.2.1.1,g9)) nsC.ow.2.2.2.2.2.2.1 h9l
    simp only at d2 d3 d7
    obtain ⟨b',Q2,Q3,hap,s5,s6,mv2,mv3,qc1,qc2,cc2,pt2⟩:=Zz (frz:=H.length) (u:=(n.2.2.2.2.2.2.1.1,g9)) nsC.ow.2.2.2.2.2.2.1 (Ok (n:=vw n (g5.set j a') n.2.2.2.2.2.1.2 g9) nsC.nd) h9l (Nat.le_trans (Nat.succ_le_succ (b9i _ (List.getElem_mem h9l))) (by decide)) (fun k hk=>hfg2 k (Yx (n:=vw n (g5.set j a') n.2.2.2.2.2.1.2 g9) k hk)) d1 f
    simp only at s5 s6 mv2 mv3
    obtain ⟨nsD,nD,cD⟩:=nsC.arr pt2
    have hia:∀k∈ids a9,k∈dNet.ids (vw n (g5.set j a') n.2.2.2.2.2.1.2 g9):=fun k hk=>Yx (n:=vw n (g5.set j a') n.2.2.2.2.2.1.2 g9) k (Xa d1 hk)
    have rNQ2:=Qa rN3 cc2 (fun hh=>hidg (hia _ hh))
    have rNQ3:=rowN Q3 nsD.chg
    have bxQ2:=Qa bx13 cc2 (fun hh=>by have:=hlw2 _ (hia _ hh);omega)
    have bxQ3:=Qa bx13 cD (fun hh=>by have:=hlw2 _ hh;omega)
    have lvL:∀L:Heap,VM.live (M3++L) n.2.2.2.2.2.2.1.1:=fun L=>Wb (v:=n.2.2.2.2.2.2.1.1) (Ow.app (L:=L) nsC.ow.2.2.2.2.2.2.1.1.1)
    have bxfQ:=Qa bx23 cD (fun hh=>by have:=hlw2 _ hh;omega)
    unfold netCells at rN3 rNL rNQ2 rNQ3
    simp only [Wc] at hap
    simp [h4]
    rw [Xr (fl:=([1,3],[14])) (h:=⟨by kernel_rfl,by kernel_rfl,by kernel_rfl,by kernel_rfl⟩)]
    simp [emps,empOp,empB,-Qe,-Qm,t1,t2,t3,t4,t5,VM.look,rN3,qn,bx13,bx23,d2,d3,d5,d6,d7,hap,s5,s6,qc1,qc2,mv2,mv3,rNL,bxL,rNQ2,rNQ3,bxQ2,bxQ3,lvL,hFM3,e4,bxfQ]
    refine rest _ _ _ ?_
    have ea:withArr (withBuf (nBoth x i) (pushS x (upd (nBoth x i).2.2.1 j (List.drop 1)) gg)) (arrS x (nBoth x i).2.2.2.2.2.2.1 gg)=withArr (withBuf (nBoth x i) (upd (nBoth x i).2.2.1 j (List.drop 1))) (upd (nBoth x i).2.2.2.2.2.2.1 gg.1 (·++[f])):=by
     unfold pushS arrS;rw [if_pos h4,if_pos h4,hfe,hj]
    rw [ea]
    exact ⟨g5.set j a',g9.set gg.1 b',rfl,by simp [t1],by simp [t2],by simp [t3],by simp [t4],by simp [t5],by simp,by simp,by simp,bxQ3,nsD,fun k hk=>by rcases nD k hk with h|h;(have:=hlw2 k h;omega);omega⟩
   ·obtain ⟨hh,hroom⟩:=m4.2.1.resolve_left h4
    rw [← hc] at hroom
    have h4c:¬(gg.2.1:Int)=4:=by omega
    obtain ⟨s1,s2,s3⟩:=Xn (c:=c) hh (by omega) (by omega)
    obtain ⟨o1,o2,o3⟩:=Zi (c:=c) hh (by omega)
    obtain ⟨zt,hz⟩:∃zt,zt=tgt x gg.1 gg.2.1 c:=⟨_,rfl⟩
    rw [← hz] at s1 s2 s3
    have hzl:zt<(upd (nBoth x i).2.2.1 j (List.drop 1)).length:=by rw [Z4,l5'];omega
    have nn:=fun F=>Yd (frz:=F) (H:=M3) x.1.1 x.1.2.1 gg.1 gg.2.1
    have so:=fun F=>Tg (frz:=F) (H:=M3) gg.2.1
    obtain ⟨o4,o5⟩:=o1
    generalize next x.1.1 x.1.2.1 gg.1 gg.2.1=N at *
    generalize opp (gg.2.1:Int)=O at *
    have k3:=@w6 (10*N) (by omega)
    have k4:=@w6 (2*O) (by omega)
    have k5:=@w6 (10*N+2*O) (by omega)
    have k6:∀[Inhabited Unit],IntKind.i64.wrap (10*N+2*O+(c:Int))=(zt:Int):=by intro _;rw [w64 (by omega) (by omega)];omega
    have b5u:allL 67000080 (upd (nBoth x i).2.2.1 j (List.drop 1)):=Z0 b5i
    obtain ⟨a9,d1,d2,d3,d4,d5,d6,d7⟩:=Xw (u:=(n.2.2.1.1,g5.set j a')) nsC.ow.2.2.1 hzl
    simp only at d2 d3 d7
    obtain ⟨b',Q2,Q3,hap,s5,s6,mv2,mv3,qc1,qc2,cc2,pt2⟩:=Zz (frz:=H.length) (u:=(n.2.2.1.1,g5.set j a')) nsC.ow.2.2.1 (X1 (n:=vw n (g5.set j a') n.2.2.2.2.2.1.2 g9) nsC.nd) hzl (Nat.le_trans (Nat.succ_le_succ (b5u _ (List.getElem_mem hzl))) (by decide)) (fun k hk=>hfg2 k (Wo (n:=vw n (g5.set j a') n.2.2.2.2.2.1.2 g9) k hk)) d1 f
    simp only at s5 s6 mv2 mv3
    obtain ⟨nsD,nD,cD⟩:=nsC.buf pt2
    have hia:∀k∈ids a9,k∈dNet.ids (vw n (g5.set j a') n.2.2.2.2.2.1.2 g9):=fun k hk=>Wo (n:=vw n (g5.set j a') n.2.2.2.2.2.1.2 g9) k (Xa d1 hk)
    have rNQ2:=Qa rN3 cc2 (fun hh=>hidg (hia _ hh))
    have rNQ3:=rowN Q3 nsD.chg
    have bxQ2:=Qa bx13 cc2 (fun hh=>by have:=hlw2 _ (hia _ hh);omega)
    have bxQ3:=Qa bx13 cD (fun hh=>by have:=hlw2 _ hh;omega)
    have lvL:∀L:Heap,VM.live (M3++L) n.2.2.1.1:=fun L=>Wb (v:=n.2.2.1.1) (Ow.app (L:=L) nsC.ow.2.2.1.1.1)
    have bxfQ:=Qa bx23 cD (fun hh=>by have:=hlw2 _ hh;omega)
    unfold netCells at rN3 rNL rNQ2 rNQ3
    simp only [Wc] at hap
    simp [h4c]
    rw [Qo (h:=by kernel_rfl)]
    simp [t1,t2,t3,t4,t5,VM.look,rO3,ones,bx13,nn,so,k3,k4,k5,k6]
    rw [Xr (fl:=([1],[12])) (h:=⟨by kernel_rfl,by kernel_rfl,by kernel_rfl,by kernel_rfl⟩)]
    simp [emps,empOp,empB,-Qe,-Qm,t1,t2,t3,t4,t5,VM.look,rN3,qn,bx13,bx23,d2,d3,d5,d6,d7,hap,s5,s6,qc1,qc2,mv2,mv3,rNL,bxL,rNQ2,rNQ3,bxQ2,bxQ3,lvL,hFM3,e4,bxfQ]
    refine rest _ _ _ ?_
    have ea:withArr (withBuf (nBoth x i) (pushS x (upd (nBoth x i).2.2.1 j (List.drop 1)) gg)) (arrS x (nBoth x i).2.2.2.2.2.2.1 gg)=withBuf (nBoth x i) (upd (upd (nBoth x i).2.2.1 j (List.drop 1)) zt (·++[f])):=by
     unfold pushS arrS;rw [if_neg h4,if_neg h4,hfe,hj,hz,hc];rfl
    rw [ea]
    exact ⟨(g5.set j a').set zt b',g9,rfl,by simp [t1],by simp [t2],by simp [t3],by simp [t4],by simp [t5],by simp,by simp,by simp,bxQ3,nsD,fun k hk=>by rcases nD k hk with h|h;(have:=hlw2 k h;omega);omega⟩
  case restB=>
   rintro cc t J4 ⟨g5',g9',rfl,t1,t2,t3,t4,t5,t6,t8,t11,bx4,ns4,hnJ⟩
   obtain ⟨s2,hs2⟩:∃s2,s2=withArr (withBuf (nBoth x i) (pushS x (upd (nBoth x i).2.2.1 j (List.drop 1)) gg)) (arrS x (nBoth x i).2.2.2.2.2.2.1 gg):=⟨_,rfl⟩
   rw [← hs2] at hps ns4
   have own2:s2.2.2.2.1=(nBoth x i).2.2.2.1:=by rw [hs2];rfl
   have turn2:s2.2.2.2.2.1=(nBoth x i).2.2.2.2.1:=by rw [hs2];rfl
   have lown:s2.2.2.2.1.length=x.2.2.2.1.length:=by rw [own2];exact Qt (Sq x) _ _
   have lturn:s2.2.2.2.2.1.length=x.2.2.2.2.1.length:=by rw [turn2];exact Qt Vv _ _
   clear hs2
   obtain ⟨zo,hz⟩:∃zo,zo=outAt gg.1 gg.2.1 c:=⟨_,rfl⟩
   have hzl:zo<s2.2.2.2.1.length:=by rw [lown,hz];have:=hx.2.1.2.1;unfold outAt;omega
   have hfg4:∀k∈dNet.ids (vw n g5' n.2.2.2.2.2.1.2 g9'),H.length≤k:=fun k hk=>by
    rcases ns4.ids k hk with h|h
    ·have:=hmn k h;omega
    ·omega
   obtain ⟨V,hV⟩:∃V:Int,V=if f.2.2.2.2 then -1 else (q:Int):=⟨_,rfl⟩
   obtain ⟨J5,st5,ns5,c5⟩:=ns4.own (frz:=H.length) hfg4 hzl V
   have hnot:J.length∉dNet.ids (vw n g5' n.2.2.2.2.2.1.2 g9'):=fun hh=>hnJ _ hh rfl
   have bx5:=Qa bx4 c5 hnot
   obtain ⟨zt,hzt⟩:∃zt,zt=5*gg.1+gg.2.1:=⟨_,rfl⟩
   obtain ⟨d,hd⟩:∃d,d=(gg.2.2+1)%10:=⟨_,rfl⟩
   have hztl:zt<s2.2.2.2.2.1.length:=by rw [lturn,hzt];have:=hx.2.1.2.2.1;omega
   obtain ⟨o5,_⟩:=S6 (Rd.isI ns4.ow.2.2.2.1.1.rd) hzl
   have o5':vindexAddr Tryz.prog J4 26 n.2.2.2.1 (.int .i64 (zo:Int))=some (elp n.2.2.2.1 zo):=o5
   obtain ⟨o4,_⟩:=S6 (Rd.isI ns5.ow.2.2.2.2.1.1.rd) (l:=s2.2.2.2.2.1) hztl
   have o4':vindexAddr Tryz.prog J5 26 n.2.2.2.2.1 (.int .i64 (zt:Int))=some (elp n.2.2.2.2.1 zt):=o4
   obtain ⟨J6,st6,ns6,c6⟩:=ns5.turn (frz:=H.length) hfg4 (j:=zt) hztl (d:Int)
   have k1:=@w6 (5*(gg.1:Int)) (by omega)
   have k2:∀[Inhabited Unit],IntKind.i64.wrap (5*(gg.1:Int)+(gg.2.1:Int))=(zt:Int):=by intro _;rw [w64 (by omega) (by omega)];omega
   have k3:=@w6 ((gg.2.2:Int)+1) (by omega)
   have k4:∀[Inhabited Unit],((gg.2.2:Int)+1).tmod 10=(d:Int):=by intro _;rw [Int.tmod_eq_emod_of_nonneg (by omega)];omega
   have k4':∀[Inhabited Unit],((gg.2.2:Int)+1)%10=(d:Int):=by intro _;omega
   have k7:=@w6 (2*(gg.2.1:Int)) (by omega)
   have k8:=@w6 (10*(gg.1:Int)+2*(gg.2.1:Int)) (by omega)
   have k9:∀[Inhabited Unit],IntKind.i64.wrap (10*(gg.1:Int)+2*(gg.2.1:Int)+(c:Int))=(zo:Int):=by intro _;rw [hz];unfold outAt;rw [w64 (by omega) (by omega)];omega
   have hos:ownS x s2.2.2.2.1 gg=s2.2.2.2.1.set zo V:=by unfold ownS;rw [hV,hz,hc,hq,hfe,hj]
   have hts:turnS s2.2.2.2.2.1 gg=s2.2.2.2.2.1.set zt (d:Int):=by unfold turnS;rw [hzt,hd]
   rw [← own2,← turn2,hts,hos] at hps
   have rN4:=rowN J4 ns4.chg
   have rN5:=rowN J5 ns5.chg
   unfold netCells at rN4 rN5
   cases ht:f.2.2.2.2 with
   | false=>
    rw [ht,if_neg (by simp)] at hV
    subst hV
    simp [t1,t2,t3,t4,t5,t6,t8,t11,VM.look,rN4,rN5,qn,bx4,bx5,e1,k1,k2,k3,k4,k4',k7,k8,k9,o5',o4',st5,st6]
    refine ih ((allN x).length-(i+1)) _ _ ⟨i+1,g5',g9',rfl,by omega,by simp [t1],by simp [t2],by simp [t3],by simp [t4],?_,by rw [hps];exact ns6⟩ (by omega)
    simp [t5];rw [w64 (by omega) (by omega)]
   | true=>
    rw [ht,if_pos rfl] at hV
    subst hV
    simp [t1,t2,t3,t4,t5,t6,t8,t11,VM.look,rN4,rN5,qn,bx4,bx5,e1,k1,k2,k3,k4,k4',k7,k8,k9,o5',o4',st5,st6]
    refine ih ((allN x).length-(i+1)) _ _ ⟨i+1,g5',g9',rfl,by omega,by simp [t1],by simp [t2],by simp [t3],by simp [t4],?_,by rw [hps];exact ns6⟩ (by omega)
    simp [t5];rw [w64 (by omega) (by omega)]
 ·have hil:i=(allN x).length:=by omega
  subst hil
  clear ih
  have rO:=rowO J ns.chg
  have oJ:=Dt.chg (T:=dNet) o (cHJ J ns.chg) (by simp)
  have ent:=Uf (frz:=H.length) oJ hx
  simp only [Qc] at ent
  have rO':=rO
  unfold netCells at rO'
  simp [t1,t2,t3,t4,t5,VM.look,rO',ones]
  refine Qf ent ?_
  rintro el J1 ⟨oE,nE,cE⟩
  have ltE:=oE.lt
  have lE:=cE.1
  have lJ:=ns.chg.1
  -- between the loops: the network w,y3
  obtain ⟨y3,hy3⟩:∃y3,y3=nBoth x (allN x).length:=⟨_,rfl⟩
  rw [← hy3] at ns
  have ye3:y3.1=x.1∧y3.2.1=x.2.1∧y3.2.2.2.2.2.1=x.2.2.2.2.2.1∧y3.2.2.2.2.2.2.2=x.2.2.2.2.2.2.2:=by rw [hy3];exact ⟨rfl,rfl,rfl,rfl⟩
  have l53:y3.2.2.1.length=x.2.2.1.length:=by rw [hy3];exact Qt (Po x) _ _
  have b53:allL 67000080 y3.2.2.1:=by
   rw [hy3]
   refine Q0 (Wl (Pw x) ((allN x).take (allN x).length) x.2.2.1 67000000 hb5) ?_
   simp;omega
  have hlw:∀k∈dNet.ids (vw n g5 n.2.2.2.2.2.1.2 g9),k<J.length:=fun k hk=>dNet.lt ns.ow k hk
  have hfw:∀k∈dNet.ids (vw n g5 n.2.2.2.2.2.1.2 g9),k∈dNet.ids n∨K2.length≤k:=ns.ids
  have rN1:J1[K.length]? = some ⟨netCells (vw n g5 n.2.2.2.2.2.1.2 g9) x,0,57⟩:=Qa (rowN J ns.chg) cE (by simp)
  have rO1:=Qa rO cE (by simp)
  have rR1:=Qa (rowR J ns.chg) cE (by simp)
  have ns1:NS J1 J1 [] (vw n g5 n.2.2.2.2.2.1.2 g9) y3 _ _ _:=NS.start [] (Dt.chg (T:=dNet) ns.ow cE (by simp)) ns.nd
  have cHJ1:Chg H J1 []:=(cHJ J ns.chg).trans cE
  clear rO' rO oJ ent
  generalize hw:vw n g5 n.2.2.2.2.2.1.2 g9=w at *
  have hidw:K.length∉dNet.ids w:=fun hh=>by
   rcases hfw _ hh with h|h
   ·exact hidn h
   ·omega
  have hmw:∀k∈dNet.ids w,H.length+2≤k:=fun k hk=>by
   rcases hfw k hk with h|h
   ·exact hmn k h
   ·omega
  have onew:=Qd (v:=w) ns1.ow
  have hE:=Y9 x
  have hEat:=fun k (hk:k∈enterN x)=>Wm hk
  have hEnd:=X5 x
  clear rowO rowR rowN cHJ glJ ns
  have rowO:∀J:Heap,Chg J1 J ([]++dNet.ids w)→J[H.length]? = some ⟨netCells v x,0,57⟩:=fun J c=>Qa rO1 c (fun hh=>by have:=hmw _ (by simpa using hh);omega)
  have rowR:=fun (J:Heap) (c:Chg J1 J ([]++dNet.ids w))=>Qa rR1 c (fun hh=>by have:=hmw _ (by simpa using hh);omega)
  have rowN:∀J:Heap,Chg J1 J ([]++dNet.ids w)→J[K.length]? = some ⟨netCells w x,0,57⟩:=fun J c=>Qa rN1 c (by simpa using hidw)
  have cHJ:∀J:Heap,Chg J1 J ([]++dNet.ids w)→Chg H J []:=fun J c=>cHJ1.trans' c (fun k hk=>.inr (by have:=hmw k (by simpa using hk);omega))
  have elJ:∀J':Heap,Chg J1 J' ([]++dNet.ids w)→Ow Fl.int 3 J' el ((enterN x).map Int.ofNat):=fun J' c=>oE.chg c (fun k hk hh=>by have:=nE k hk;have:=hlw k (by simpa using hh);omega)
  simp [t1,t2,t3,t4,t5]
  -- what enters
  refine Qk (fun m t J=>∃(i:Nat) (g5 g8:List Value),m=(enterN x).length-i∧i≤(enterN x).length∧t 1=.pointer (some ⟨H.length,0,some 0⟩)∧t 2=.pointer (some ⟨H.length+1,0,some 0⟩)∧t 3=.pointer (some ⟨K.length,0,some 0⟩)∧t 12=el∧t 13=.int .i64 i∧
   NS J1 J [] w (nEnt x y3 i) g5 g8 w.2.2.2.2.2.2.1.2) ?_ (n:=(enterN x).length)
   ⟨0,w.2.2.1.2,w.2.2.2.2.2.1.2,rfl,by omega,by simp [t1],by simp [t2],by simp [t3],by simp,by simp,ns1⟩
  clear t1 t2 t3 t4 t5
  rintro m t J ⟨i,g5,g8,rfl,hi,t1,t2,t3,t12,t13,ns⟩ ih
  have hel:=(elJ J ns.chg).rd.len (P:=Tryz.prog) (ty:=26) (by simp)
  rw [List.length_map] at hel
  simp [t1,t2,t3,t12,t13,hel]
  refine Qh ?_ ?_<;>intro g
  ·have hi':i<(enterN x).length:=by omega
   obtain ⟨u1,u2⟩:=S6 (elJ J ns.chg).rd.isI (i:=i) (by simpa using hi')
   have eel:((enterN x).map Int.ofNat)[i]'(by simpa using hi')=((enterN x)[i]:Int):=by simp
   rw [eel] at u2
   obtain ⟨m1,m2⟩:=hEat _ (List.getElem_mem hi')
   have hps:=Om (y:=y3) hi'
   have hsat:(nEnt x y3 i).2.2.2.2.2.1.getD (enterN x)[i] []=x.2.2.2.2.2.1.getD (enterN x)[i] []:=by
    rw [← ye3.2.2.1]
    have hnt:=Vt (f:=fun k:Nat=>k) (by simpa using hEnd) hi'
    exact Nr _ _ _ (by simpa using hnt)
   generalize (enterN x)[i]=k at *
   have hkx:k<x.2.2.2.2.2.1.length:=by have:=hx.2.1.2.2.2.1;omega
   have hks:k<(nEnt x y3 i).2.2.2.2.2.1.length:=by
    have:(nEnt x y3 i).2.2.2.2.2.1.length=y3.2.2.2.2.2.1.length:=Qt Sh _ _
    rw [this,ye3.2.2.1];exact hkx
   have hgd:(nEnt x y3 i).2.2.2.2.2.1.getD k []=(nEnt x y3 i).2.2.2.2.2.1[k]:=by simp [List.getD_eq_getElem?_getD,hks]
   have hne:(nEnt x y3 i).2.2.2.2.2.1[k]≠[]:=by rw [← hgd,hsat];exact m2.1
   have hgx:x.2.2.2.2.2.1.getD k []=x.2.2.2.2.2.1[k]:=by simp [List.getD_eq_getElem?_getD,hkx]
   have hnx:x.2.2.2.2.2.1[k]≠[]:=by rw [← hgx];exact m2.1
   obtain ⟨en1,en2,en3⟩:=Zl hx m2.1
   have hcl:=en1.2
   obtain ⟨f,hfe⟩:∃f,f=srcHead x k:=⟨_,rfl⟩
   have hhd:headL x.2.2.2.2.2.1[k]=f:=by rw [← hgx,hfe];rfl
   obtain ⟨z,hz⟩:∃z,z=entAt x k:=⟨_,rfl⟩
   rw [← hfe,← hz] at en2
   rw [← hfe] at hcl
   unfold inR at hcl
   have hzl:z<(nEnt x y3 i).2.2.1.length:=by
    have:(nEnt x y3 i).2.2.1.length=y3.2.2.1.length:=Qt (U6 x) _ _
    rw [this,l53];have:=hx.2.1.1;omega
   have b5i:allL 67000096 (nEnt x y3 i).2.2.1:=Q0 (Wl (Sg x) ((enterN x).take i) y3.2.2.1 67000080 b53) (show _≤67000096 by simp;omega)
   obtain ⟨J2,hJ2⟩:∃J2,J2=J++[⟨flF.f f,0,103⟩]:=⟨_,rfl⟩
   have cJ:Chg J J2 []:=by rw [hJ2];exact Chg.app _
   have lJ2:J2.length=J.length+1:=by rw [hJ2];simp
   have bx:J2[J.length]? = some ⟨flF.f f,0,103⟩:=by rw [hJ2];simp
   have hJs:J++[⟨flF.f f,0,103⟩]=J2:=hJ2.symm
   simp only [Wc] at bx hJs
   have nsA:=ns.other cJ (by simp) (by simp)
   have hlJ:∀l∈dNet.ids (vw w g5 g8 w.2.2.2.2.2.2.1.2),l<J.length:=fun l hl=>dNet.lt ns.ow l hl
   have hFJ:H.length≤J.length:=by have:=ns.chg.1;omega
   have hFJ2:H.length≤J2.length:=by omega
   have hfg:∀l∈dNet.ids (vw w g5 g8 w.2.2.2.2.2.2.1.2),H.length≤l:=fun l hl=>by
    rcases ns.ids l hl with h|h
    ·have:=hmw l h;omega
    ·omega
   obtain ⟨a0,z1,z2,z3,z4,z5,z6,z7⟩:=Xw (u:=v.2.2.2.2.2.1) (Dt.chg (T:=dNet) o (cHJ J ns.chg) (by simp)).2.2.2.2.2.1 hkx
   obtain ⟨z0,_,_,_,_,_,_,zw⟩:=front z4.rd hnx
   rw [hhd] at zw
   simp only [Wc] at zw
   obtain ⟨az,d1,d2,d3,d4,d5,d6,d7⟩:=Xw (u:=(w.2.2.1.1,g5)) nsA.ow.2.2.1 hzl
   simp only at d2 d3 d7
   obtain ⟨a',M2,M3,hap,p5,p6,lv2,lv3,qb1,qb2,c2,pt⟩:=Zz (frz:=H.length) (u:=(w.2.2.1.1,g5)) nsA.ow.2.2.1 (X1 (n:=vw w g5 g8 w.2.2.2.2.2.2.1.2) nsA.nd) hzl (Nat.le_trans (Nat.succ_le_succ (b5i _ (List.getElem_mem hzl))) (by decide)) (fun l hl=>hfg l (Wo (n:=vw w g5 g8 w.2.2.2.2.2.2.1.2) l hl)) d1 f
   simp only at p5 p6 lv2 lv3
   obtain ⟨nsB,nB,cB⟩:=nsA.buf pt
   simp only [Wc] at hap
   have hfg2:∀l∈dNet.ids (vw w (g5.set z a') g8 w.2.2.2.2.2.2.1.2),H.length≤l:=fun l hl=>by
    rcases nB l hl with h|h
    ·exact hfg l h
    ·omega
   obtain ⟨a8,s1,s2,s3,s4,s5,s6,s7⟩:=Xw (u:=(w.2.2.2.2.2.1.1,g8)) nsB.ow.2.2.2.2.2.1 hks
   simp only at s2 s3 s7
   obtain ⟨zz,b',N2,N3,t3',t4',t5',t6',mv2,mv3,qc1,qc2,cc2,pt2⟩:=Nq (frz:=H.length) (u:=(w.2.2.2.2.2.1.1,g8)) nsB.ow.2.2.2.2.2.1 (V9 (n:=vw w (g5.set z a') g8 w.2.2.2.2.2.2.1.2) nsB.nd) hks hne (fun l hl=>hfg2 l (X0 (n:=vw w (g5.set z a') g8 w.2.2.2.2.2.2.1.2) l hl)) s1
   simp only at t5' t6' mv2 mv3
   obtain ⟨nsC,nC,cC⟩:=nsB.src pt2
   have hidg:K.length∉dNet.ids (vw w g5 g8 w.2.2.2.2.2.2.1.2):=fun hh=>by
    rcases ns.ids _ hh with h|h
    ·exact hidw h
    ·omega
   have hia:∀l∈ids az,l∈dNet.ids (vw w g5 g8 w.2.2.2.2.2.2.1.2):=fun l hl=>Wo (n:=vw w g5 g8 w.2.2.2.2.2.2.1.2) l (Xa d1 hl)
   have rO1:=rowO J ns.chg
   have rN2:=rowN J2 nsA.chg
   have rNL:=fun L=>Qx rN2 L
   have rNM2:=Qa rN2 c2 (fun hh=>hidg (hia _ hh))
   have rNM3:=rowN M3 nsB.chg
   have bxL:=fun L=>Qx bx L
   have lvL:∀L:Heap,VM.live (J2++L) w.2.2.1.1:=fun L=>Wb (v:=w.2.2.1.1) (Ow.app (L:=L) nsA.ow.2.2.1.1.1)
   unfold netCells at rO1 rN2 rNL rNM2 rNM3
   have k1:=@w6 (10*(k:Int)) (by omega)
   have k2:=@w6 (10*(k:Int)+8) (by omega)
   have k3:∀[Inhabited Unit],IntKind.i64.wrap (10*(k:Int)+8+f.2.2.1)=(z:Int):=by intro _;rw [w64 (by omega) (by omega)];omega
   simp [t1,t2,t3,t12,t13,u1,u2,VM.look,rO1,ones,z2,z3,z5,z6,z0,zw,hFJ]
   rw [hJs]
   clear hJ2 hJs
   simp [t1,t2,t3,t12,t13,VM.look,bx,k1,k2,k3]
   rw [Xr (fl:=([1],[12])) (h:=⟨by kernel_rfl,by kernel_rfl,by kernel_rfl,by kernel_rfl⟩)]
   simp [emps,empOp,empB,-Qe,-Qm,t1,t2,t3,t12,t13,VM.look,rN2,onew,d2,d3,d5,d6,d7,bx,hap,p5,p6,lv2,lv3,qb1,qb2,rNL,rNM2,rNM3,bxL,lvL,hFJ2]
   rw [X8 (h:=⟨by kernel_rfl,by kernel_rfl⟩)]
   simp [emps,empOp,empB,-Qe,-Qm,t1,t2,t3,t12,t13,VM.look,rNM3,onew,s2,s3,s5,s6,t3',t4',t5',t6',qc1,qc2]
   refine ih ((enterN x).length-(i+1)) _ _ ⟨i+1,g5.set z a',g8.set k b',rfl,by omega,by simp [t1],by simp [t2],by simp [t3],by simp [t12],?_,?_⟩ (by omega)
   ·simp [t13];rw [w64 (by omega) (by omega)]
   ·rw [hps]
    have e1:entS x (nEnt x y3 i).2.2.1 k=upd (nEnt x y3 i).2.2.1 z (·++[f]):=by unfold entS;rw [← hz,← hfe]
    rw [e1]
    exact nsC
  ·have hil:i=(enterN x).length:=by omega
   subst hil
   clear ih
   have hse:stepN x=older (nEnt x y3 (enterN x).length) 1:=by rw [Dd,← hy3]
   have et:∀[Inhabited Unit],IntKind.i64.wrap (x.2.2.2.2.2.2.2+1)=x.2.2.2.2.2.2.2+1:=by intro _;unfold inR at ht;exact w64 (by omega) (by omega)
   have rO2:=rowO J ns.chg
   have rN2:=rowN J ns.chg
   have rR2:=rowR J ns.chg
   unfold netCells at rO2 rN2
   have gN:=Qn (r':=⟨[.int .i64 x.1.1,.int .i64 x.1.2.1,w.1,w.2.1.1,w.2.1.2,w.2.2.1.1,w.2.2.2.1,w.2.2.2.2.1,w.2.2.2.2.2.1.1,w.2.2.2.2.2.2.1.1,.int .i64 (x.2.2.2.2.2.2.2+1)],0,57⟩) rN2
   have cN:Chg J (J.set K.length ⟨[.int .i64 x.1.1,.int .i64 x.1.2.1,w.1,w.2.1.1,w.2.1.2,w.2.2.1.1,w.2.2.2.1,w.2.2.2.2.1,w.2.2.2.2.2.1.1,w.2.2.2.2.2.2.1.1,.int .i64 (x.2.2.2.2.2.2.2+1)],0,57⟩) [K.length]:=Qj _ _
   have rR3:=Qa rR2 cN (by simp;omega)
   have gR:=Qn (r':=⟨[.int .i64 x.1.1,.int .i64 x.1.2.1,w.1,w.2.1.1,w.2.1.2,w.2.2.1.1,w.2.2.2.1,w.2.2.2.2.1,w.2.2.2.2.2.1.1,w.2.2.2.2.2.2.1.1,.int .i64 (x.2.2.2.2.2.2.2+1)],0,57⟩) rR3
   have cR:Chg (J.set K.length ⟨[.int .i64 x.1.1,.int .i64 x.1.2.1,w.1,w.2.1.1,w.2.1.2,w.2.2.1.1,w.2.2.2.1,w.2.2.2.2.1,w.2.2.2.2.2.1.1,w.2.2.2.2.2.2.1.1,.int .i64 (x.2.2.2.2.2.2.2+1)],0,57⟩) ((J.set K.length ⟨[.int .i64 x.1.1,.int .i64 x.1.2.1,w.1,w.2.1.1,w.2.1.2,w.2.2.1.1,w.2.2.2.1,w.2.2.2.2.1,w.2.2.2.2.2.1.1,w.2.2.2.2.2.2.1.1,.int .i64 (x.2.2.2.2.2.2.2+1)],0,57⟩).set (H.length+1) ⟨[.int .i64 x.1.1,.int .i64 x.1.2.1,w.1,w.2.1.1,w.2.1.2,w.2.2.1.1,w.2.2.2.1,w.2.2.2.2.1,w.2.2.2.2.2.1.1,w.2.2.2.2.2.2.1.1,.int .i64 (x.2.2.2.2.2.2.2+1)],0,57⟩) [H.length+1]:=Qj _ _
   have hF1:H.length≤H.length+1:=by omega
   have hidg:K.length∉dNet.ids (vw w g5 g8 w.2.2.2.2.2.2.1.2):=fun hh=>by
    rcases ns.ids _ hh with h|h
    ·exact hidw h
    ·omega
   have hmg:∀k∈dNet.ids (vw w g5 g8 w.2.2.2.2.2.2.1.2),H.length+2≤k:=fun k hk=>by
    rcases ns.ids k hk with h|h
    ·exact hmw k h
    ·omega
   simp [t1,t2,t3,t12,t13,VM.look,rO2,rN2,ones,onew,et,hF,gN,rR3,gR,hF1]
   refine ⟨vw w g5 g8 w.2.2.2.2.2.2.1.2,rfl,?_,?_,fun k hk=>by have:=hmg k hk;omega,ns.nd⟩
   ·rw [hse]
    exact Dt.chg (T:=dNet) (Dt.chg (T:=dNet) ns.ow cN (fun k hk hh=>by simp at hh;exact hidg (hh▸hk))) cR (fun k hk hh=>by have:=hmg k hk;simp at hh;omega)
   ·exact ((cHJ J ns.chg).trans' cN (fun k hk=>.inr (by simp at hk;omega))).trans' cR (fun k hk=>.inr (by simp at hk;omega))
def runs (x:NetD) (k:Int):Prop:=netOk x∧inR 0 k 400∧x.2.2.2.2.2.2.2+k≤1000000
instance (x:NetD) (k:Int):Decidable (runs x k):=inferInstanceAs (Decidable (_∧_))
theorem V4 {x:NetD} (h:netOk x):allL 66000000 x.2.2.1:=fun l hl=>by
 obtain ⟨i,hi,rfl⟩:=List.getElem_of_mem hl
 have:=(h.2.2.1 i hi).1
 rw [Xy hi] at this
 omega
theorem Kz {x:NetD} (h:runOk x) (h5:allL 66000000 x.2.2.1) (h9:allL 66000000 x.2.2.2.2.2.2.1) {i:Nat} (hi:i≤400):runOk (runN x i)∧allL 67000000 (runN x i).2.2.1∧allL 67000000 (runN x i).2.2.2.2.2.2.1∧(runN x i).2.2.2.2.2.2.2=x.2.2.2.2.2.2.2+i:=by
 obtain ⟨a,b⟩:=My h5 h9 i
 exact ⟨Ek h i,Q0 a (by omega),Q0 b (by omega),Rn x i⟩
theorem Eh {v:NetV} {x:NetD} {k:Int} (o:dNet.Ow H v x):vcall C frz 62 [dNet.val v x,.int .i64 k] H=some (.bool (decide (runs x k)),H):=by
 refine wp.exact (by simp) ?_ rfl
 have ones:=Qd o
 have nk:=fun F L=>Nt (frz:=F) (H:=H++L) (v:=v) (x:=x) (Dt.app (T:=dNet) o)
 simp only [Qc] at nk ⊢
 rw [Qb (fn:=Tryz.f62) Tryz.func62 rfl (by kernel_rfl) rfl]
 generalize hY:decide (runs x k)=Y
 have no:¬runs x k→Y=false:=fun hh=>by rw [← hY];exact decide_eq_false hh
 by_cases h1:netOk x
 rotate_left
 ·simp [ones,VM.look,nk,h1];exact no (fun k=>h1 k.1)
 by_cases h2:inR 0 k 400
 rotate_left
 ·simp [ones,VM.look,nk,h1,Qr,h2];exact no (fun k=>h2 k.2.1)
 have ht:=h1.2.2.2.2.2.2
 unfold inR at ht
 have e1:∀[Inhabited Unit],IntKind.i64.wrap (x.2.2.2.2.2.2.2+k)=x.2.2.2.2.2.2.2+k:=by intro _;unfold inR at h2;exact w64 (by omega) (by omega)
 have key:runs x k↔x.2.2.2.2.2.2.2+k≤1000000:=⟨fun h=>h.2.2,fun h=>⟨h1,h2,h⟩⟩
 simp [ones,VM.look,nk,h1,Qr,h2,e1]
 rw [← hY];simp only [key]
def RunPost (H:Heap) (v:NetV) (y:NetD) (r:Value) (H':Heap):Prop:=
 ∃w:NetV,r=dNet.val w y∧dNet.Ow H' w y∧(dNet.ids w).Nodup∧(∀i∈dNet.ids w,i∈dNet.ids v∨H.length≤i)∧Chg H H' []
theorem Fq {v:NetV} {x:NetD} {m:Nat} (o:dNet.Ow H v x) (nd:(dNet.ids v).Nodup) (hm4:m≤400) (hx:runOk x) (h5:allL 66000000 x.2.2.1) (h9:allL 66000000 x.2.2.2.2.2.2.1) (ht:0≤x.2.2.2.2.2.2.2) (ht2:x.2.2.2.2.2.2.2+m≤1000000) :
 wp (vcall C frz 70 [dNet.val v x,.int .i64 m] H) (RunPost H v (runN x m)):=by
 have ones:=Qd o
 have hlt:=dNet.lt o
 have ra:=fun i (hi:i≤m)=>Kz (i:=i) hx h5 h9 (by omega)
 simp only [Qc]
 rw [Qb (fn:=Tryz.f70) Tryz.func70 rfl (by kernel_rfl) rfl]
 obtain ⟨G,hG⟩:∃G,G=H++[⟨netCells v x,0,57⟩,⟨[.int .i64 0,.int .i64 0,.slice none 0 0,.slice none 0 0,.slice none 0 0,.slice none 0 0,.slice none 0 0,.slice none 0 0,.slice none 0 0,.slice none 0 0,.int .i64 0],0,57⟩]:=⟨_,rfl⟩
 have cG:Chg H G []:=by rw [hG];exact Chg.app _
 have b1:G[H.length]? = some ⟨netCells v x,0,57⟩:=by rw [hG];simp
 have bR:G[H.length+1]? = some ⟨[.int .i64 0,.int .i64 0,.slice none 0 0,.slice none 0 0,.slice none 0 0,.slice none 0 0,.slice none 0 0,.slice none 0 0,.slice none 0 0,.slice none 0 0,.int .i64 0],0,57⟩:=by rw [hG];simp
 have hGs:=hG.symm
 unfold netCells at hGs
 simp [ones]
 rw [hGs]
 clear hG hGs
 have hF0:H.length≤H.length:=Nat.le_refl _
 have hF1:H.length≤H.length+1:=by omega
 refine Qk (fun q t J=>∃(i:Nat) (w:NetV),q=m-i∧i≤m∧t 1=.int .i64 m∧t 2=.pointer (some ⟨H.length,0,some 0⟩)∧t 4=.pointer (some ⟨H.length+1,0,some 0⟩)∧t 5=.int .i64 i∧J[H.length]? = some ⟨netCells w (runN x i),0,57⟩∧dNet.Ow J w (runN x i)∧(dNet.ids w).Nodup∧(∀i∈dNet.ids w,i∈dNet.ids v∨H.length+2≤i)∧
  J[H.length+1]? = some ⟨[.int .i64 0,.int .i64 0,.slice none 0 0,.slice none 0 0,.slice none 0 0,.slice none 0 0,.slice none 0 0,.slice none 0 0,.slice none 0 0,.slice none 0 0,.int .i64 0],0,57⟩∧Chg H J []) ?_ (n:=m)
  ⟨0,v,rfl,by omega,by simp,by simp,by simp,by simp,b1,Dt.chg (T:=dNet) o cG (by simp),nd,fun i hi=>.inl hi,bR,cG⟩
 rintro q t J ⟨i,w,rfl,hi,t1,t2,t4,t5,bJ,oJ,dJ,mJ,bRJ,cJ⟩ ih
 have oneJ:=Qd oJ
 have hdis:∀k∈dNet.ids w,k≠H.length∧k≠H.length+1:=fun k hk=>by
  rcases mJ k hk with h|h
  ·have:=hlt k h;exact ⟨by omega,by omega⟩
  ·exact ⟨by omega,by omega⟩
 -- what is handed back
 have fin:∀(y:NetD) (J:Heap),Chg H J []→dNet.Ow J w y→RunPost H v y (dNet.val w y) (J.set (H.length+1) ⟨netCells w y,0,57⟩):=fun y J cJ oJ=>
  ⟨w,rfl,Dt.chg (T:=dNet) oJ (Qj _ _) (fun k hk hh=>by have:=(hdis k hk).2;simp at hh;omega),dJ,fun k hk=>(mJ k hk).imp _root_.id (fun h=>by omega),cJ.trans' (Qj _ _) (fun k hk=>.inr (by simp at hk;omega))⟩
 simp [t1,t2,t4,t5]
 refine Qh ?_ ?_<;>intro g
 ·have hi':i<m:=by omega
  obtain ⟨r1,r2,r3,r4⟩:=ra i (by omega)
  have lJ:=Qz bJ
  have idl:=fun F=>Od (frz:=F) oJ
  simp only [Qc] at idl
  have bJ':=bJ
  unfold netCells at bJ'
  simp [t1,t2,t4,t5,VM.look,bJ',oneJ,idl]
  by_cases g1:idle (runN x i)
  ·have hrun:runN x m=older (runN x i) ((m-i:Nat):Int):=by
    have h1:=O3 x i (m-i)
    rw [show i+(m-i)=m by omega] at h1
    rw [h1,N4 g1]
   have e1:=@w6 ((runN x i).2.2.2.2.2.2.2+(m:Int)) (by omega)
   have e2:∀[Inhabited Unit],IntKind.i64.wrap ((runN x i).2.2.2.2.2.2.2+(m:Int)-(i:Int))=(runN x i).2.2.2.2.2.2.2+((m-i:Nat):Int):=by intro _;rw [w64 (by omega) (by omega)];omega
   obtain ⟨T,hT⟩:∃T,T=(runN x i).2.2.2.2.2.2.2+((m-i:Nat):Int):=⟨_,rfl⟩
   rw [← hT] at e2
   have hod:older (runN x i) ((m-i:Nat):Int)=((runN x i).1,(runN x i).2.1,(runN x i).2.2.1,(runN x i).2.2.2.1,(runN x i).2.2.2.2.1,(runN x i).2.2.2.2.2.1,(runN x i).2.2.2.2.2.2.1,T):=by unfold older;rw [hT]
   rw [hrun,hod]
   generalize runN x i=z at *
   have gN:=Qn (r':=⟨netCells w (z.1,z.2.1,z.2.2.1,z.2.2.2.1,z.2.2.2.2.1,z.2.2.2.2.2.1,z.2.2.2.2.2.2.1,T),0,57⟩) bJ
   have cN:Chg J (J.set H.length ⟨netCells w (z.1,z.2.1,z.2.2.1,z.2.2.2.1,z.2.2.2.2.1,z.2.2.2.2.2.1,z.2.2.2.2.2.2.1,T),0,57⟩) [H.length]:=Qj _ _
   have bR3:=Qa bRJ cN (by simp)
   have gR:=Qn (r':=⟨netCells w (z.1,z.2.1,z.2.2.1,z.2.2.2.1,z.2.2.2.2.1,z.2.2.2.2.2.1,z.2.2.2.2.2.2.1,T),0,57⟩) bR3
   have hM:=fin (z.1,z.2.1,z.2.2.1,z.2.2.2.1,z.2.2.2.2.1,z.2.2.2.2.2.1,z.2.2.2.2.2.2.1,T) _ (cJ.trans' cN (fun k hk=>.inr (by simp at hk;omega))) (Dt.chg (T:=dNet) oJ cN (fun k hk hh=>by have:=(hdis k hk).1;simp at hh;omega))
   unfold netCells at gN bR3 gR hM
   simp only at gN bR3 gR hM
   simp [t1,t2,t4,t5,VM.look,bJ',oneJ,g1,e1,e2,gN,bR3,gR,hF1]
   simpa [Qc] using hM
  have st:=Pk (frz:=H.length) oJ r1 r2 r3 (by rw [r4];unfold inR;omega)
  simp only [Qc] at st
  simp [t1,t2,t4,t5,VM.look,bJ',oneJ,g1]
  refine Qf st ?_
  rintro _ J2 ⟨w2,rfl,s2,s5,s4,s3⟩
  have one2:=Qd s2
  have bJ2:=Qa bJ s5 (by simp)
  have bRJ2:=Qa bRJ s5 (by simp)
  have hg:runN x (i+1)=stepN (runN x i):=rfl
  have gN:=Qn (r':=⟨netCells w2 (stepN (runN x i)),0,57⟩) bJ2
  have cN:Chg J2 (J2.set H.length ⟨netCells w2 (stepN (runN x i)),0,57⟩) [H.length]:=Qj _ _
  have hF2:H.length≤H.length:=Nat.le_refl _
  have l2:=s5.1
  have l3:=Qz bRJ
  have bJ2':=bJ2
  unfold netCells at bJ2'
  simp [Qc,t1,t2,t4,t5,VM.look,bJ2',one2]
  refine ih (m-(i+1)) _ _ ⟨i+1,w2,rfl,by omega,by simp [t1],by simp [t2],by simp [t4],?_,gN,Dt.chg (T:=dNet) s2 cN (fun k hk hh=>by have:=s4 k hk;simp at hh;omega),s3,fun k hk=>.inr (by have:=s4 k hk;omega),Qa bRJ2 cN (by simp),(cJ.trans s5).trans' cN (fun k hk=>.inr (by simp at hk;omega))⟩ (by omega)
  simp [t5];rw [w64 (by omega) (by omega)]
 ·have:i=m:=by omega
  subst this
  have gR:=Qn (r':=⟨netCells w (runN x i),0,57⟩) bRJ
  have hM:=fin (runN x i) J cJ oJ
  unfold netCells at bJ gR hM
  simp [t1,t2,t4,t5,VM.look,bJ,bRJ,gR,oneJ,hF1]
  simpa [Qc] using hM
def actOk (k p q r s:Int):Prop:=
 if k=1 then inR 0 p 15∧inR 0 q 15∧inR 0 r 1∧inR 1 s 5 else if k=2 then inR 1 p 100∧q=0∧r=0∧s=0 else if k=3 then p=0∧q=0∧r=0∧s=0
 else if k=4 then inR 0 p 63∧q=0∧r=0∧s=0 else k=5∧inR 1 p 4∧inR 1 q 4∧r=0∧s=0
instance (k p q r s:Int):Decidable (actOk k p q r s):=by unfold actOk;infer_instance
theorem F2 (b:Bool):vcall C frz 78 [.bool b] H=some (.int .i64 (if b then 1 else 0),H):=by
 rw [Qb (fn:=Tryz.f78) Tryz.func78 rfl (by kernel_rfl) rfl]
 cases b<;>simp
end Go.Proofs.YtjgochodhiekeaaGreat.V
set_option linter.all false
namespace Go.Proofs.YtjgochodhiekeaaGreat.V
open Go Go.VM Go.Proofs
set_option maxRecDepth 10000
variable {frz:Nat} {H:Heap} {r:Nat} {vb:Value} {code:List Int}
theorem Cur.set {J:Heap} {id:Nat} {x:Row} (c:Cur J r vb code) (h1:r≠id) (h2:∀i∈ids vb,i≠id):Cur (J.set id x) r vb code:=
 c.chg (Qj _ _) (by simpa using h1) (fun i hi=>by simpa using h2 i hi)
theorem G8 (c:Cur H r vb code) (hf:frz≤r):wp (vcall C frz 11 [.pointer (some ⟨r,0,some 0⟩)] H) (fun u H'=>(∃w h,u=.agg #[.int .i64 w,.int .i64 h]∧okG w h∧2≤cnt w h)∧Chg H H' [r]∧Cur H' r vb code):=by
 have lt:=c.lt
 have vlt:=c.vlt
 rw [Qb (fn:=Tryz.f11) Tryz.func11 rfl (by kernel_rfl) rfl]
 simp
 refine Qf (Fg (c.app _) hf) ?_
 rintro _ K ⟨⟨w,h,rfl,hg⟩,c1,d1⟩
 have cH:Chg H K [r]:=(Chg.app [r]).trans c1
 have l0:=cH.1
 have b0:K[H.length]? = some ⟨[.int .i64 0,.int .i64 0],0,25⟩:=Qa (by simp) c1 (by simp;omega)
 have lK:=Qz b0
 have hF:frz≤H.length:=by omega
 have hFK:frz≤K.length:=by omega
 have nc:=fun F H=>Qw (frz:=F) (H:=H) w h
 simp [hFK,VM.look,nc]
 refine Qh ?_ ?_<;>intro g
 ·have b1:=Qx b0 [⟨[.int .i64 2,.int .i64 h],0,25⟩]
  have g3:=Qn (r':=⟨[.int .i64 2,.int .i64 h],0,25⟩) b1
  have ltr:=d1.lt
  have h2:okG 2 h∧2≤cnt 2 h:=by
   have e:okG 2 h:=⟨by omega,hg.2⟩
   refine ⟨e,?_⟩
   unfold cnt;rw [if_pos e];have:=hg.2;omega
  simp [VM.look,b1,g3,hFK,hF]
  exact ⟨⟨2,h,⟨rfl,rfl⟩,h2⟩,(cH.trans (Chg.app _)).trans' (Qj _ _) (fun i hi=>.inr (by simp at hi;omega)),(d1.app _).set (by omega) (fun i hi=>by have:=vlt i hi;omega)⟩
 ·have b1:=Qx b0 [⟨[.int .i64 w,.int .i64 h],0,25⟩]
  have g3:=Qn (r':=⟨[.int .i64 w,.int .i64 h],0,25⟩) b1
  have ltr:=d1.lt
  simp [VM.look,b1,g3,hF]
  exact ⟨⟨w,h,⟨rfl,rfl⟩,hg,by omega⟩,(cH.trans (Chg.app _)).trans' (Qj _ _) (fun i hi=>.inr (by simp at hi;omega)),(d1.app _).set (by omega) (fun i hi=>by have:=vlt i hi;omega)⟩
theorem O5 {w h:Int} {id:Nat} (hid:id<1000) (hg:okG w h) (h2:2≤cnt w h) (c:Cur H r vb code) (hf:frz≤r):wp (vcall C frz 22 [.pointer (some ⟨r,0,some 0⟩),.agg #[.int .i64 w,.int .i64 h],.int .i64 id] H) (fun u H'=>(∃p:PkD,u=pkV p∧(1≤id→packetOk w h p))∧Chg H H' [r]∧Cur H' r vb code):=by
 have lt:=c.lt
 have vlt:=c.vlt
 have cr:=Qg w h
 obtain ⟨N,hN⟩:∃N:Nat,cnt w h=N:=⟨(cnt w h).toNat,by omega⟩
 have nc:=fun F H=>Qw (frz:=F) (H:=H) w h
 rw [hN] at nc h2
 rw [Qb (fn:=Tryz.f22) Tryz.func22 rfl (by kernel_rfl) rfl]
 have e1:∀[Inhabited Unit],IntKind.i64.wrap ((N:Int)-1)=((N-1:Nat):Int):=by intro _;rw [w64 (by omega) (by omega)];omega
 simp [VM.look,nc]
 refine Qf (Wp (c.app _) hf N (by omega) (by omega)) ?_
 rintro _ K1 ⟨⟨a,rfl,ha⟩,c1,d1⟩
 have e2:=@w6 ((a:Int)+1) (by omega)
 simp [e1,e2]
 refine Qf (Wp d1 hf (N-1) (by omega) (by omega)) ?_
 rintro _ K2 ⟨⟨b,rfl,hb⟩,c2,d2⟩
 have e3:∀[Inhabited Unit],IntKind.i64.wrap ((a:Int)+1+(b:Int))=(a:Int)+1+b:=by intro _;exact w64 (by omega) (by omega)
 have e4:¬(N:Int)=0:=by omega
 have e4':¬N=0:=by omega
 simp [e3,e4,e4']
 have bl:=Wp (frz:=frz) d2 hf 2 (by decide) (by decide)
 refine Qf (by simpa using bl) ?_
 rintro _ K3 ⟨⟨x,rfl,hx⟩,c3,d3⟩
 simp
 have bl:=Wp (frz:=frz) d3 hf 5 (by decide) (by decide)
 refine Qf (by simpa using bl) ?_
 rintro _ K4 ⟨⟨y,rfl,hy⟩,c4,d4⟩
 have cH:Chg H K4 [r]:=((((Chg.app [r]).trans c1).trans c2).trans c3).trans c4
 have b0:K4[H.length+1]? = some ⟨[.int .i64 0,.int .i64 0,.int .i64 0,.int .i64 0,.int .i64 0],0,38⟩:=Qa (Qa (Qa (Qa (by simp) c1 (by simp;omega)) c2 (by simp;omega)) c3 (by simp;omega)) c4 (by simp;omega)
 have hF:frz≤H.length+1:=by omega
 have hm:((a:Int)+1+(b:Int)).tmod (N:Int)=(((a+1+b)%N:Nat):Int):=by rw [show (a:Int)+1+(b:Int)=((a+1+b:Nat):Int) by omega];exact Sm (by omega)
 have hlt:(a+1+b)%N<N:=Nat.mod_lt _ (by omega)
 have e5:∀[Inhabited Unit],IntKind.i64.wrap (((a+1+b)%N:Nat):Int)=(((a+1+b)%N:Nat):Int):=by intro _;exact w64 (by omega) (by omega)
 have e6:=@w6 (1+(y:Int)) (by omega)
 have gP:=Qn (r':=⟨[.int .i64 id,.int .i64 a,.int .i64 (((a:Int)+1+(b:Int)).tmod (N:Int)),.int .i64 x,.int .i64 (1+(y:Int))],0,38⟩) b0
 have ltr:=d4.lt
 simp [VM.look,b0,e6,hF,gP]
 have pko:1≤id→packetOk w h ((id:Int),(a:Int),((a:Int)+1+(b:Int)).tmod (N:Int),(x:Int),1+(y:Int)):=fun h1=>by
  rw [hm]
  refine ⟨⟨by omega,by show (id:Int)≤9999;omega⟩,⟨by show (0:Int)≤a;omega,by show (a:Int)<cnt w h;omega⟩,⟨by show (0:Int)≤(((a+1+b)%N:Nat):Int);omega,by show (((a+1+b)%N:Nat):Int)<cnt w h;omega⟩,?_,⟨by show (0:Int)≤x;omega,by show (x:Int)≤1;omega⟩,⟨by show (1:Int)≤1+(y:Int);omega,by show 1+(y:Int)≤5;omega⟩⟩
  show (a:Int)≠(((a+1+b)%N:Nat):Int)
  have ha9:a<N:=by omega
  by_cases q:a+1+b<N
  ·rw [Nat.mod_eq_of_lt q];omega
  ·rw [Nat.mod_eq_sub_mod (by omega),Nat.mod_eq_of_lt (by omega)];omega
 exact ⟨⟨_,_,_,_,_,rfl,pko⟩,cH.trans' (Qj _ _) (fun i hi=>.inr (by simp at hi;omega)),d4.set (by omega) (fun i hi=>by have:=vlt i hi;omega)⟩
theorem Pd {w h:Int} (hg:okG w h) (h2:2≤cnt w h) (c:Cur H r vb code) (hf:frz≤r):wp (vcall C frz 14 [.pointer (some ⟨r,0,some 0⟩),.agg #[.int .i64 w,.int .i64 h]] H) (fun u H'=>∃xs:List PkD,Ow pkF 38 H' u xs∧(xs.length≤7∧∀q∈xs,packetOk w h q)∧(∀i∈ids u,H.length≤i)∧Chg H H' [r]∧Cur H' r vb code):=by
 have lt:=c.lt
 have vlt:=c.vlt
 rw [Qb (fn:=Tryz.f14) Tryz.func14 rfl (by kernel_rfl) rfl]
 simp
 refine Qk (fun n t H'=>∃(i:Nat) (u:Value) (xs:List PkD),n=7-i∧i≤7∧t 0=.pointer (some ⟨r,0,some 0⟩)∧t 3=.pointer (some ⟨H.length,0,some 0⟩)∧t 5=u∧t 6=.int .i64 i∧Cur H' r vb code∧H'[H.length]? = some ⟨[.int .i64 w,.int .i64 h],0,25⟩∧Ow pkF 38 H' u xs∧(xs.length=i∧∀q∈xs,packetOk w h q)∧(∀j∈ids u,H.length+1≤j)∧Chg H H' [r]) ?_ (n:=7)
  ⟨0,.slice (some ⟨H.length+1,0,some 0⟩) 0 0,[],rfl,by omega,by simp,by simp,by simp,by simp,c.app _,by simp,Ow.new (D:=pkF) (xs:=[]) (k:=1) rfl rfl rfl rfl,⟨rfl,by simp⟩,by simp,Chg.app _⟩
 rintro n t H' ⟨i,u,xs,rfl,hi,t0,t3,t5,t6,cc,b3,o,hx,nu,ch⟩ ih
 have l1:=ch.1
 obtain ⟨hx,hxq⟩:=hx
 have bl:=Wp (frz:=frz) cc hf 7 (by decide) (by decide)
 simp [t0,t3,t5,t6]
 refine Qf (by simpa using bl) ?_
 rintro _ H2 ⟨⟨x,rfl,hx2⟩,c2,d2⟩
 have o2:=o.chg c2 (fun j hj hh=>by have:=nu j hj;simp at hh;omega)
 have b32:=Qa b3 c2 (by simp;omega)
 have l2:=c2.1
 simp [t0,t3,t5,t6]
 refine Qh ?_ ?_<;>intro g
 ·have e1:∀[Inhabited Unit],IntKind.i64.wrap ((i:Int)+1)=((i+1:Nat):Int):=by intro _;rw [w64 (by omega) (by omega)];omega
  simp [t0,t3,t5,t6,VM.look,b32]
  have pk:=O5 (frz:=frz) (id:=i+1) (by omega) hg h2 d2 hf
  rw [e1]
  refine Qf pk ?_
  rintro _ H3 ⟨⟨p,rfl,hpq⟩,c3,d3⟩
  have o3:=o2.chg c3 (fun j hj hh=>by have:=nu j hj;simp at hh;omega)
  have b33:=Qa b32 c3 (by simp;omega)
  have l3:=c3.1
  obtain ⟨u',H4,hap,o4,c4,n4⟩:=o3.push (P:=Tryz.prog) (frz:=frz) (ty:=33) (a:=p) (by simp) rfl (by omega) (fun j hj=>by have:=nu j hj;omega)
  have hlt:=Qz b33
  simp [-Qe,-Qm,t0,t3,t5,t6,pkV,Ui]
  simp only [Ui] at hap
  simp [-Qe,-Qm,t0,t3,t5,t6,hap]
  refine ih (7-(i+1)) _ _ ⟨i+1,u',xs++[p],rfl,by omega,by simp [t0],by simp [t3],by simp,?_,d3.chg c4 (fun hh=>by have:=nu _ hh;omega) (fun j hj hh=>by have:=nu j hh;have:=vlt j hj;omega),Qa b33 c4 (fun hh=>by have:=nu _ hh;omega),o4,⟨by simp [hx],fun q hq=>by
   rcases List.mem_append.1 hq with hq|hq
   ·exact hxq q hq
   ·rw [List.mem_singleton.1 hq];exact hpq (by omega)⟩,fun j hj=>?_,((ch.trans c2).trans c3).trans' c4 (fun j hj=>.inr (by have:=nu j hj;omega))⟩ (by omega)
  ·simp [t6];exact e1
  ·rcases n4 j hj with h1|h1
   ·exact nu j h1
   ·omega
 ·simp [t0,t3,t5,t6]
  exact ⟨xs,o2,⟨by omega,fun _ _ _ _ _ hq=>hxq _ hq⟩,fun j hj=>by have:=nu j hj;omega,ch.trans c2,d2⟩
structure Kept (x y:NetD):Prop where
 ok:netOk y
 m:y.1=x.1
 t:y.2.1=x.2.1
 a:y.2.2.2.2.2.2.1=x.2.2.2.2.2.2.1
 tm:y.2.2.2.2.2.2.2=x.2.2.2.2.2.2.2
theorem Kept.trans {x y z:NetD} (h:Kept x y) (k:Kept y z):Kept x z:=⟨k.ok,k.m.trans h.m,k.t.trans h.t,k.a.trans h.a,k.tm.trans h.tm⟩
theorem Ga {x:NetD} (h:netOk x) (p:PkD):Kept x (sendP x p):=by
 unfold sendP
 split
 ·rename_i g
  obtain ⟨_,g1,g2⟩:=g
  obtain ⟨h1,⟨s1,s2,s3,s4,s5⟩,h3,h4,h5,h6,h7⟩:=h
  refine ⟨⟨h1,⟨s1,s2,s3,?_,s5⟩,h3,fun l hl=>?_,h5,h6,h7⟩,rfl,rfl,rfl,rfl⟩
  ·show ((x.2.2.2.2.2.1.set _ _).length:Int)=_
   rw [List.length_set];exact s4
  ·rcases List.mem_or_eq_of_mem_set hl with hl|rfl
   ·exact h4 l hl
   ·have hf:=U0 g1
    refine ⟨by rw [List.length_append];omega,fun f hf'=>?_⟩
    rcases List.mem_append.1 hf' with hf'|hf'
    ·by_cases hl:p.2.1.toNat<x.2.2.2.2.2.1.length
     ·exact (h4 _ (Zr hl)).2 f hf'
     ·simp [List.getD_eq_getElem?_getD,List.getElem?_eq_none (Nat.le_of_not_lt hl)] at hf'
    ·unfold flitsOf at hf'
     rw [if_pos g1] at hf'
     obtain ⟨i,_,rfl⟩:=List.mem_map.1 hf'
     exact ⟨g1.2.2.1,g1.2.2.2.2.1⟩
 ·exact ⟨h,rfl,rfl,rfl,rfl⟩
theorem Ua {m:MeshD} {t:ClassesD} (h:classesOk m.1 m.2.1 m.2.2 t.1 t.2):netOk (netNew m t)∧(netNew m t).1=m∧allL 66000000 (netNew m t).2.2.2.2.2.2.1∧(netNew m t).2.2.2.2.2.2.2=0:=by
 have cr:=Qg m.1 m.2.1
 unfold netNew
 rw [if_pos h]
 refine ⟨⟨h,⟨?_,?_,?_,?_,?_⟩,fun i hi=>?_,fun l hl=>?_,fun o ho=>?_,fun o ho=>?_,?_⟩,rfl,fun l hl=>?_,rfl⟩
 ·simp only [List.length_replicate];omega
 ·simp only [List.length_replicate];omega
 ·simp only [List.length_replicate];omega
 ·simp only [List.length_replicate];omega
 ·simp only [List.length_replicate];omega
 ·have e:(List.replicate (10*(cnt m.1 m.2.1).toNat) ([]:List FlitD)).getD i []=[]:=by
   rw [Xy hi,List.getElem_replicate]
  show bufOk _ _ ((List.replicate (10*(cnt m.1 m.2.1).toNat) ([]:List FlitD)).getD i []) _
  rw [e]
  exact ⟨by simp,by simp,fun f hf=>by simp at hf⟩
 ·have:=List.eq_of_mem_replicate hl;subst this;exact ⟨by simp,fun f hf=>by simp at hf⟩
 ·have:=List.eq_of_mem_replicate ho;subst this;unfold inR;omega
 ·have:=List.eq_of_mem_replicate ho;subst this;unfold inR;omega
 ·exact ⟨show (0:Int)≤0 by omega,show (0:Int)≤1000000 by omega⟩
 ·have:=List.eq_of_mem_replicate hl;subst this;simp
def zNet0:List Value:=[.int .i64 0,.int .i64 0,.slice none 0 0,.slice none 0 0,.slice none 0 0,.slice none 0 0,.slice none 0 0,.slice none 0 0,.slice none 0 0,.slice none 0 0,.int .i64 0]
def cnS (x:NetD) (xs:List PkD):Nat→Nat
 | 0=>0
 | i+1=>cnS x xs i+(if netOk ((xs.take i).foldl sendP x)∧sendOk ((xs.take i).foldl sendP x) (xs.getD i pk0) then 1 else 0)
theorem Kc {v:NetV} {x:NetD} {lv:Value} {xs:List PkD} (hx:netOk x) (o:dNet.Ow H v x) (hl:Rd pkF H lv xs) (hn:xs.length≤40) :
 wp (vcall C frz 42 [dNet.val v x,lv] H) (fun u H'=>∃n,u=.tuple #[n,.int .i64 (cnS x xs xs.length:Nat)]∧dNet.Made H (xs.foldl sendP x) n H'):=by
 have ones:=Qd o
 have ecopy:=fun L=>Y0 (frz:=H.length) (H:=H++L) (v:=v) (x:=x) (Dt.app (T:=dNet) o)
 have nk:=fun F K (c:Chg H K [])=>Vi (frz:=F) (H:=K) (v:=v) (x:=x) (Dt.chg (T:=dNet) o c (by simp))
 simp only [Qc] at ecopy nk ⊢
 rw [Qb (fn:=Tryz.f42) Tryz.func42 rfl (by kernel_rfl) rfl]
 simp [ones]
 refine Qf (ecopy _) ?_
 rintro _ K ⟨n,rfl,on,cn,mn,dn⟩
 simp at mn
 have qn:=Qd on
 have lK:=cn.1
 simp at lK
 have hF:H.length≤K.length:=by omega
 have ltn:∀i∈dNet.ids n,i<K.length:=fun i hi=>dNet.lt on i hi
 simp [Qc,qn,VM.look,hF]
 obtain ⟨K1,hK1⟩:∃K1,K1=K++[⟨netCells n x,0,57⟩]:=⟨_,rfl⟩
 have c1:Chg K K1 []:=by rw [hK1];exact Chg.app _
 have cK:Chg H K []:=(Chg.app _).trans cn
 have cK1:=cK.trans c1
 have l1:K1.length=K.length+1:=by rw [hK1];simp
 have b1:K1[H.length]? = some ⟨netCells v x,0,57⟩:=Qa (Qa (by simp [netCells]) cn (by simp)) c1 (by simp)
 have bR:K1[H.length+1]? = some ⟨zNet0,0,57⟩:=Qa (Qa (by simp [zNet0]) cn (by simp)) c1 (by simp)
 have b3:K1[K.length]? = some ⟨netCells n x,0,57⟩:=by rw [hK1];simp
 have on1:=Dt.chg (T:=dNet) on c1 (by simp)
 have hKs:K++[⟨netCells n x,0,57⟩]=K1:=hK1.symm
 have b1':=b1
 unfold netCells at hKs b1'
 rw [hKs]
 clear hK1 hKs
 have nk':=fun F=>nk F K1 cK1
 have hF1:H.length≤H.length+1:=by omega
 have lv1:=(hl.chg cK1 (by simp)).len (P:=Tryz.prog) (ty:=33) (by simp)
 have hn':¬40<(xs.length:Int):=by omega
 have hn2:¬40<xs.length:=by omega
 simp [VM.look,b1',ones,nk',hx,lv1,hn',hn2]
 refine Qk (fun q t J=>∃(i:Nat) (w:NetV) (k:Nat),q=xs.length-i∧i≤xs.length∧t 1=lv∧t 4=.pointer (some ⟨H.length+1,0,some 0⟩)∧t 6=.pointer (some ⟨K.length,0,some 0⟩)∧t 7=.int .i64 k∧(k≤i∧k=cnS x xs i)∧t 8=.int .i64 i∧J[K.length]? = some ⟨netCells w ((xs.take i).foldl sendP x),0,57⟩∧
  dNet.Ow J w ((xs.take i).foldl sendP x)∧(dNet.ids w).Nodup∧(∀i∈dNet.ids w,H.length+2≤i∧i≠K.length)∧J[H.length+1]? = some ⟨zNet0,0,57⟩∧Chg H J []) ?_ (n:=xs.length)
  ⟨0,n,0,rfl,by omega,by simp,by simp,by simp,by simp,⟨by omega,rfl⟩,by simp,b3,on1,dn,fun i hi=>⟨by have:=mn i hi;omega,by have:=ltn i hi;omega⟩,bR,cK1⟩
 rintro q t J ⟨i,w,k,rfl,hi,t1,t4,t6,t7,hk,t8,bJ,oJ,dJ,mJ,bRJ,cJ⟩ ih
 have lv2:=(hl.chg cJ (by simp)).len (P:=Tryz.prog) (ty:=33) (by simp)
 have oneJ:=Qd oJ
 simp [t1,t4,t6,t7,t8,lv2]
 refine Qh ?_ ?_<;>intro g
 ·have hi':i<xs.length:=by omega
  have lJ:=Qz bJ
  have q1:=(hl.chg cJ (by simp)).idx (P:=Tryz.prog) (ty:=33) (e:=38) (by simp) (i:=(i:Int)) (by omega) (by omega)
  have q2:=(hl.chg cJ (by simp)).load (P:=Tryz.prog) (e:=38) (by simp) hi'
  simp only [Int.toNat_natCast,Tl] at q1 q2
  have hts:=Ws sendP x hi'
  have sp:=Pc (frz:=H.length) (p:=xs[i]) oJ
  simp only [Qc] at sp
  unfold pkV at sp
  have bJ':=bJ
  unfold netCells at bJ'
  simp only [Ui] at q2
  simp [t1,t4,t6,t7,t8]
  rw [Qo (h:=by kernel_rfl)]
  simp [t1,t4,t6,t7,t8,VM.look,bJ',oneJ,q1,q2]
  refine Qf sp ?_
  rintro _ J2 ⟨_,rfl,w2,rfl,s2,s5,s4,s3⟩
  rw [← hts] at s2
  obtain ⟨y,hy⟩:∃y,y=(xs.take (i+1)).foldl sendP x:=⟨_,rfl⟩
  have hy':sendP ((xs.take i).foldl sendP x) xs[i]=y:=by rw [hy,hts]
  rw [← hy] at s2
  have one2:=Qd s2
  have l2:=s5.1
  have hFJ:H.length≤J2.length:=by have:=cJ.1;omega
  obtain ⟨J3,hJ3⟩:∃J3,J3=J2++[⟨netCells w2 y,0,57⟩]:=⟨_,rfl⟩
  have c3:Chg J2 J3 []:=by rw [hJ3];exact Chg.app _
  have bN:J3[J2.length]? = some ⟨netCells w2 y,0,57⟩:=by rw [hJ3];simp
  have bJ3:=Qa (Qa bJ s5 (by simp)) c3 (by simp)
  have bRJ3:=Qa (Qa bRJ s5 (by simp)) c3 (by simp)
  have s6:=Dt.chg (T:=dNet) s2 c3 (by simp)
  have gN:=Qn (r':=⟨netCells w2 y,0,57⟩) bJ3
  have cN:Chg J3 (J3.set K.length ⟨netCells w2 y,0,57⟩) [K.length]:=Qj _ _
  have hJs:=hJ3.symm
  have bN':=bN
  have bJ3':=bJ3
  unfold netCells at bN' bJ3' hJs
  have bit:=fun F H=>F2 (frz:=F) (H:=H)
  simp [Qc,hy',one2,hFJ]
  rw [hJs]
  clear hJ3 hJs
  obtain ⟨hk,hkc⟩:=hk
  have ek:∀b:Bool,∃k':Nat,k'=k+(if b=true then 1 else 0)∧k'≤i+1∧∀[Inhabited Unit],IntKind.i64.wrap ((k:Int)+(if b=true then 1 else 0))=(k':Int):=fun b=>by
   cases b
   ·exact ⟨k,rfl,by omega,by intro _;simp;exact w64 (by omega) (by omega)⟩
   ·exact ⟨k+1,rfl,by omega,by intro _;simp;rw [w64 (by omega) (by omega)]⟩
  obtain ⟨B,hB⟩:∃B,B=decide (netOk ((xs.take i).foldl sendP x)∧sendOk ((xs.take i).foldl sendP x) xs[i]):=⟨_,rfl⟩
  obtain ⟨k',hkk,hk',ek'⟩:=ek B
  have hcn:k'=cnS x xs (i+1):=by
   rw [hkk,hB,hkc]
   have e:xs.getD i pk0=xs[i]:=by simp [List.getD_eq_getElem?_getD,hi']
   simp only [cnS,e]
   congr 1
   by_cases q:netOk ((xs.take i).foldl sendP x)∧sendOk ((xs.take i).foldl sendP x) xs[i]
   ·rw [if_pos q,decide_eq_true q];rfl
   ·rw [if_neg q,decide_eq_false q];rfl
  simp [t1,t4,t6,t7,t8,VM.look,bN',bJ3',one2,hF,bit,← Bool.decide_and,← hB,ek']
  refine ih (xs.length-(i+1)) _ _ ⟨i+1,w2,k',rfl,by omega,by simp [t1],by simp [t4],by simp [t6],by simp,⟨hk',hcn⟩,?_,by rw [← hy];exact gN,by rw [← hy];exact Dt.chg (T:=dNet) s6 cN (fun j hj hh=>by have:=s4 j hj;simp at hh;omega),s3,fun j hj=>⟨by have:=s4 j hj;have:=cJ.1;have:=Qz bRJ;omega,by have:=s4 j hj;omega⟩,Qa bRJ3 cN (by simp;omega),((cJ.trans s5).trans c3).trans' cN (fun j hj=>.inr (by simp at hj;omega))⟩ (by omega)
  simp [t8];rw [w64 (by omega) (by omega)]
 ·have:i=xs.length:=by omega
  subst this
  rw [List.take_length] at bJ oJ
  have gR:=Qn (r':=⟨netCells w (xs.foldl sendP x),0,57⟩) bRJ
  unfold zNet0 at bRJ
  unfold netCells at bJ gR
  simp [t1,t4,t6,t7,t8,VM.look,bJ,bRJ,gR,oneJ,hF1]
  exact ⟨_,⟨rfl,by rw [hk.2]⟩,w,rfl,Dt.chg (T:=dNet) oJ (Qj _ _) (fun j hj hh=>by have:=(mJ j hj).1;simp at hh;omega),cJ.trans' (Qj _ _) (fun j hj=>.inr (by simp at hj;omega)),fun j hj=>by have:=(mJ j hj).1;omega,dJ⟩
end Go.Proofs.YtjgochodhiekeaaGreat.V
set_option linter.all false
namespace Go.Proofs.YtjgochodhiekeaaGreat.V
open Go Go.VM Go.Proofs
set_option maxRecDepth 10000
variable {frz:Nat} {H:Heap}
end Go.Proofs.YtjgochodhiekeaaGreat.V
set_option linter.all false
namespace Go.Proofs.YtjgochodhiekeaaGreat.V
open Go Go.VM Go.Proofs
set_option maxRecDepth 10000
theorem T4 (l m:List FlitD):tailIds (l++m)=tailIds l++tailIds m:=by simp [tailIds]
def firstFl (p:PkD) (n:Nat):List FlitD:=(List.range n).map fun i:Nat=>(p.1,p.2.2.1,p.2.2.2.1,decide ((i:Int)=0),false)
theorem On (p:PkD) (n:Nat):firstFl p (n+1)=firstFl p n++[(p.1,p.2.2.1,p.2.2.2.1,decide ((n:Int)=0),false)]:=by
 unfold firstFl;rw [List.range_succ,List.map_append];rfl
theorem Ss {w h:Int} {p:PkD} (g:packetOk w h p):∃n:Nat,flitsOf w h p=firstFl p n++[(p.1,p.2.2.1,p.2.2.2.1,decide ((n:Int)=0),true)]:=by
 have h5:=g.2.2.2.2.2
 unfold inR at h5
 obtain ⟨n,hn⟩:∃n:Nat,p.2.2.2.2.toNat=n+1:=⟨p.2.2.2.2.toNat-1,by omega⟩
 have hp:p.2.2.2.2=(n:Int)+1:=by omega
 refine ⟨n,?_⟩
 unfold flitsOf
 rw [if_pos g,hn,List.range_succ,List.map_append,hp]
 congr 1
 ·unfold firstFl
  refine List.map_congr_left fun i hi=>?_
  have:=List.mem_range.1 hi
  have e:decide ((i:Int)=(n:Int)+1-1)=false:=by rw [decide_eq_false_iff_not];omega
  rw [e]
 ·simp
theorem Ty (p:PkD):∀n,Str none (firstFl p n) (if n=0 then none else some (p.1,p.2.2.1,p.2.2.2.1))
 | 0=>rfl
 | n+1=>by
  rw [On,if_neg (by omega)]
  have:=(Ty p n).snoc (f:=(p.1,p.2.2.1,p.2.2.2.1,decide ((n:Int)=0),false)) ?_
  ·exact this
  ·by_cases e:n=0
   ·rw [if_pos e];exact .inl ⟨by subst e;simp,rfl⟩
   ·rw [if_neg e];exact .inr ⟨by simp;omega,rfl⟩
theorem Tt {w h:Int} {p:PkD} (g:packetOk w h p):Str none (flitsOf w h p) none:=by
 obtain ⟨n,e⟩:=Ss g
 rw [e]
 refine (Ty p n).snoc (f:=(p.1,p.2.2.1,p.2.2.2.1,decide ((n:Int)=0),true)) ?_
 by_cases e:n=0
 ·rw [if_pos e];exact .inl ⟨by subst e;simp,rfl⟩
 ·rw [if_neg e];exact .inr ⟨by simp;omega,rfl⟩
theorem Pe {w h:Int} {p:PkD} (g:packetOk w h p):tailIds (flitsOf w h p)=[p.1]:=by
 obtain ⟨n,e⟩:=Ss g
 have h1:tailIds (firstFl p n)=[]:=by
  unfold tailIds
  rw [List.filter_eq_nil_iff.2]
  ·rfl
  ·intro y hy
   unfold firstFl at hy
   obtain ⟨i,_,rfl⟩:=List.mem_map.1 hy
   simp [isTail]
 rw [e,T4,h1]
 rfl
theorem Tm {w h:Int} {p:PkD} {y:FlitD} (hy:y∈flitsOf w h p):p.1=y.1∧p.2.2.1=y.2.1∧p.2.2.2.1=y.2.2.1:=by
 unfold flitsOf at hy
 split at hy
 ·obtain ⟨i,_,rfl⟩:=List.mem_map.1 hy;exact ⟨rfl,rfl,rfl⟩
 ·simp at hy
theorem Kw {x:NetD} {list:List PkD} {s t c:Nat} (h:∀p∈list,packetOk x.1.1 x.1.2.1 p):tailIds (flowFl x list s t c)=sentIds list s t c:=by
 unfold flowFl sentIds
 have h':∀p∈list.filter (fun p=>decide (isFlow s t c p)),packetOk x.1.1 x.1.2.1 p:=fun p hp=>h p (List.mem_filter.1 hp).1
 generalize list.filter (fun p=>decide (isFlow s t c p))=l at *
 induction l with
 | nil=>rfl
 | cons p l ih=>
  rw [List.flatMap_cons,T4,Pe (h' p (List.mem_cons_self ..)),ih fun q hq=>h' q (List.mem_cons_of_mem _ hq)]
  rfl
theorem De {x:NetD} {list:List PkD} {s t c:Nat} (h:∀p∈list,packetOk x.1.1 x.1.2.1 p):Str none (flowFl x list s t c) none:=by
 unfold flowFl
 have h':∀p∈list.filter (fun p=>decide (isFlow s t c p)),packetOk x.1.1 x.1.2.1 p:=fun p hp=>h p (List.mem_filter.1 hp).1
 generalize list.filter (fun p=>decide (isFlow s t c p))=l at *
 induction l with
 | nil=>rfl
 | cons p l ih=>
  rw [List.flatMap_cons]
  exact (Tt (h' p (List.mem_cons_self ..))).app (ih fun q hq=>h' q (List.mem_cons_of_mem _ hq))
theorem Lo {A:SSD} {list:List PkD} (u:Uniq list) {t:Nat} (gA:∀y∈A.getD t [],Gen list y) (s c:Nat):((A.getD t []).filter fun f=>f.2.2.1=(c:Int)).filter (inF list s t c)=(A.getD t []).filter (inF list s t c):=by
 rw [List.filter_filter]
 refine List.filter_congr fun y hy=>?_
 by_cases e:inF list s t c y=true
 ·rw [e];simp [(Js u (gA y hy) e).2]
 ·have e:inF list s t c y=false:=by simpa using e
  rw [e];rfl
theorem Good.still {x:NetD} {list:List PkD} {B:SSD} {O:List Int} {A S:SSD} (lB:B.length=10*nC x) (lO:O.length=10*nC x) (lA:A.length=nC x) (lS:S.length=nC x) (hB:∀j,B.getD j []=[]) (hS:∀j,S.getD j []=[]) (hO:∀o∈O,o=-1)
 (gA:∀(t:Nat) y,y∈A.getD t []→Gen list y∧y.2.1=(t:Int)) (w7:∀t c:Nat,t<nC x→c<2→Str none ((A.getD t []).filter fun f=>f.2.2.1=(c:Int)) none)
 (zz:∀s t c:Nat,s<nC x→t<nC x→c<2→(A.getD t []).filter (inF list s t c)=flowFl x list s t c):Good x list B O A S:=by
 have eO:∀a p c,a<nC x→p<5→c<2→O.getD (outAt a p c) 0=-1:=fun a p c ha hp hc=>by
  have hl:outAt a p c<O.length:=by unfold outAt;omega
  rw [List.getD_eq_getElem?_getD,List.getElem?_eq_getElem hl]
  exact hO _ (List.getElem_mem hl)
 refine ⟨lB,lO,lA,lS,fun j y hy=>?_,fun j y hy=>?_,fun j y hy=>?_,gA,fun j hne=>absurd (hB j) hne,⟨fun _=>none,fun _=>none,fun _=>none,⟨fun _ _ _ _ _ _ _=>rfl,fun a p c q h1 h2 h3 h4 h5=>?_,fun a q c k h1 h2 h3 h4=>?_,fun a p c h1 h2 h3 h4=>?_,fun k c h1 h2=>?_,fun k h1=>?_,w7⟩,⟨fun _ _ e=>by simp at e,fun _ _ e=>by simp at e,fun _ _ _ _ _ _ _ _ _ _ _ e=>by simp at e,fun _ _ _ _ _ _ _ _ e=>by simp at e⟩⟩,fun s t c R L h1 h2 h3 rt=>⟨?_,fun j y hy=>?_,fun k y hy=>?_⟩⟩
 ·rw [hB] at hy;simp at hy
 ·rw [hB] at hy;simp at hy
 ·rw [hS] at hy;simp at hy
 ·rw [eO a p c h1 h2 h3] at h5;omega
 ·simp at h4
 ·rw [hB];rfl
 ·rw [hB];rfl
 ·rw [hS];rfl
 ·have ec:∀L,cat (fun n=>(B.getD (R n) []).filter (inF list s t c)) L=[]:=fun L=>by
   induction L with
   | zero=>show (B.getD (R 0) []).filter _=[];rw [hB];rfl
   | succ L ih=>show (B.getD (R (L+1)) []).filter _++cat _ L=[];rw [hB,ih];rfl
  rw [ec,hS,zz s t c h1 h2 h3]
  simp
 ·rw [hB] at hy;simp at hy
 ·rw [hS] at hy;simp at hy
theorem Fp {x:NetD} {list:List PkD} (hn:netOk x) (hi:idle x) (h:Sent (stat x) list) (g:GoodN x list) :
 (∀s t c:Nat,s<nC x→t<nC x→c<2→(x.2.2.2.2.2.2.1.getD t []).filter (inF list s t c)=flowFl x list s t c)∧∀t c:Nat,t<nC x→c<2→Str none ((x.2.2.2.2.2.2.1.getD t []).filter fun f=>f.2.2.1=(c:Int)) none:=by
 have hB:=Xh hi.1
 have hS:=Xh hi.2
 have zz:∀s t c:Nat,s<nC x→t<nC x→c<2→(x.2.2.2.2.2.2.1.getD t []).filter (inF list s t c)=flowFl x list s t c:=fun s t c hs ht hc=>by
  obtain ⟨R,L,rt⟩:=Sf (x:=stat x) (Vy (x:=stat x) hn.1) hs ht hc
  have z:=(g.fl s t c R L hs ht hc rt).z1
  have ec:∀L,cat (fun n=>(x.2.2.1.getD (R n) []).filter (inF list s t c)) L=[]:=fun L=>by
   induction L with
   | zero=>show (x.2.2.1.getD (R 0) []).filter _=[];rw [hB];rfl
   | succ L ih=>show (x.2.2.1.getD (R (L+1)) []).filter _++cat _ L=[];rw [hB,ih];rfl
  rw [ec,hS] at z
  simp at z
  exact z
 refine ⟨zz,fun t c ht hc=>?_⟩
 obtain ⟨st,fr,sr,w,_⟩:=g.wf
 have w7:=w.w7 t c ht hc
 generalize hl:((x.2.2.2.2.2.2.1.getD t []).filter fun f=>f.2.2.1=(c:Int))=l at *
 cases hu:st (outAt t 4 c) with
 | none=>rw [hu] at w7;exact w7
 | some k=>
  exfalso
  rw [hu] at w7
  have hne:l≠[]:=fun e=>by rw [e] at w7;have:(none:Option Key)=some k:=w7;simp at this
  obtain ⟨m,y,e⟩:∃m y,l=m++[y]:=⟨l.dropLast,l.getLast hne,(List.dropLast_concat_getLast hne).symm⟩
  rw [e] at w7
  obtain ⟨_,_,_,ek⟩:=w7.unsnoc
  have nt:=(Yc ek.symm).1
  have hy:y∈x.2.2.2.2.2.2.1.getD t []∧y.2.2.1=(c:Int):=by
   have:y∈l:=by rw [e];simp
   rw [← hl] at this
   simpa using List.mem_filter.1 this
  obtain ⟨⟨p,hp,p1,p2,p3⟩,p4⟩:=g.gA t y hy.1
  obtain ⟨_,⟨q1,q2⟩,_,_⟩:=h.ok p hp
  have hnn:=Vd x
  have q2':p.2.1<cnt x.1.1 x.1.2.1:=q2
  have es:((p.2.1.toNat:Nat):Int)=p.2.1:=by omega
  have hF:inF list p.2.1.toNat t c y=true:=by
   unfold inF
   rw [decide_eq_true_eq]
   exact ⟨p,hp,p1,by rw [es],by rw [p2,p4],by rw [p3,hy.2]⟩
  have z:=zz p.2.1.toNat t c (by omega) ht hc
  have ea:=Lo h.u (fun y hy=>(g.gA t y hy).1) p.2.1.toNat c
  rw [hl,e,List.filter_append,List.filter_cons_of_pos hF,z] at ea
  have sf:=De (x:=stat x) (s:=p.2.1.toNat) (t:=t) (c:=c) h.ok
  have sf':Str none (flowFl x list p.2.1.toNat t c) none:=sf
  rw [← ea] at sf'
  obtain ⟨_,_,_,ek2⟩:=sf'.unsnoc
  rw [← ek] at ek2
  simp at ek2
end Go.Proofs.YtjgochodhiekeaaGreat.V
set_option linter.all false
namespace Go.Proofs.YtjgochodhiekeaaGreat.V
open Go Go.VM Go.Proofs
set_option maxRecDepth 10000
variable {frz:Nat} {H:Heap}
def chipRuns (a:ChipD) (k:Int):Prop:=chipOk a∧runs a.1 k
instance (a:ChipD) (k:Int):Decidable (chipRuns a k):=inferInstanceAs (Decidable (_∧_))
end Go.Proofs.YtjgochodhiekeaaGreat.V
set_option linter.all false
namespace Go.Proofs.YtjgochodhiekeaaGreat.V
open Go Go.VM Go.Proofs
set_option maxRecDepth 10000
theorem E5 {x:NetD} {list:List PkD} {p:PkD} (hn:netOk x) (hS:Sent (stat x) list) (hnew:∀q∈list,q.1≠p.1) (hp:packetOk x.1.1 x.1.2.1 p) (g:GoodN x list):GoodN (sendNet x p) (list++[p]):=by
 have hnn:=Vd x
 have hp0:=hp
 obtain ⟨_,⟨q1,q2⟩,_,_,q3,_⟩:=hp
 have hk:p.2.1.toNat<nC x:=by omega
 have gen:∀y,Gen list y→Gen (list++[p]) y:=fun y ⟨q,hq,e⟩=>⟨q,List.mem_append_left _ hq,e⟩
 have genp:∀y,y∈flitsOf x.1.1 x.1.2.1 p→Gen (list++[p]) y:=fun y hy=>⟨p,by simp,Tm hy⟩
 have inO:∀s t c y,Gen list y→inF (list++[p]) s t c y=inF list s t c y:=fun s t c y ⟨q,hq,e1,_⟩=>by
  unfold inF
  congr 1
  apply propext
  constructor
  ·rintro ⟨r,hr,r1,r2⟩
   rcases List.mem_append.1 hr with hr|hr
   ·exact ⟨r,hr,r1,r2⟩
   ·rw [List.mem_singleton.1 hr] at r1
    exact absurd (e1.trans r1.symm) (hnew q hq)
  ·rintro ⟨r,hr,r1,r2⟩
   exact ⟨r,List.mem_append_left _ hr,r1,r2⟩
 have inP:∀(s t c:Nat) y,y∈flitsOf x.1.1 x.1.2.1 p→inF (list++[p]) s t c y=decide (isFlow s t c p):=fun s t c y hy=>by
  obtain ⟨e1,_,_⟩:=Tm hy
  unfold inF
  congr 1
  apply propext
  constructor
  ·rintro ⟨r,hr,r1,r2⟩
   rcases List.mem_append.1 hr with hr|hr
   ·exact absurd (r1.trans e1.symm) (hnew r hr)
   ·rw [← List.mem_singleton.1 hr];exact r2
  ·intro r;exact ⟨p,by simp,e1,r⟩
 have lS:x.2.2.2.2.2.1.length=nC x:=g.lS
 have eS:(sendNet x p).2.2.2.2.2.1=x.2.2.2.2.2.1.set p.2.1.toNat (x.2.2.2.2.2.1.getD p.2.1.toNat []++flitsOf x.1.1 x.1.2.1 p):=rfl
 have at1:(x.2.2.2.2.2.1.set p.2.1.toNat (x.2.2.2.2.2.1.getD p.2.1.toNat []++flitsOf x.1.1 x.1.2.1 p)).getD p.2.1.toNat []=x.2.2.2.2.2.1.getD p.2.1.toNat []++flitsOf x.1.1 x.1.2.1 p:=by
  rw [List.getD_eq_getElem?_getD,List.getElem?_set_self (by omega)];rfl
 have at2:∀k,k≠p.2.1.toNat→(x.2.2.2.2.2.1.set p.2.1.toNat (x.2.2.2.2.2.1.getD p.2.1.toNat []++flitsOf x.1.1 x.1.2.1 p)).getD k []=x.2.2.2.2.2.1.getD k []:=fun k hne=>by
  simp only [List.getD_eq_getElem?_getD]
  rw [List.getElem?_set_ne (fun e=>hne e.symm)]
 obtain ⟨st,fr,sr,w,ps⟩:=g.wf
 show Good (stat x) (list++[p]) x.2.2.1 x.2.2.2.1 x.2.2.2.2.2.2.1 (x.2.2.2.2.2.1.set p.2.1.toNat (x.2.2.2.2.2.1.getD p.2.1.toNat []++flitsOf x.1.1 x.1.2.1 p))
 generalize x.2.2.2.2.2.1.set p.2.1.toNat (x.2.2.2.2.2.1.getD p.2.1.toNat []++flitsOf x.1.1 x.1.2.1 p)=S' at *
 have lS':S'.length=nC x:=by
  have:=congrArg List.length eS
  unfold sendNet withSrc at this
  simp at this
  omega
 have sO:∀(k:Key),(∃q∈list,q.1=k.1∧q.2.2.1=k.2.1∧q.2.2.2.1=k.2.2)→∀s t c:Nat,sentP (list++[p]) k.1 s t c→sentP list k.1 s t c:=fun k ⟨q,hq,e1,_⟩ s t c ⟨r,hr,r1,r2⟩=>by
  rcases List.mem_append.1 hr with hr|hr
  ·exact ⟨r,hr,r1,r2⟩
  ·rw [List.mem_singleton.1 hr] at r1
   exact absurd (e1.trans r1.symm) (hnew q hq)
 have pos':Pos (stat x) (list++[p]) fr sr:=
  ⟨fun j k e=>by obtain ⟨q,hq,e1⟩:=ps.gf j k e;exact ⟨q,List.mem_append_left _ hq,e1⟩,fun j k e=>by obtain ⟨q,hq,e1⟩:=ps.gs j k e;exact ⟨q,List.mem_append_left _ hq,e1⟩,
   fun s t c R L h1 h2 h3 rt j k e hq=>ps.pf s t c R L h1 h2 h3 rt j k e (sO k (ps.gf j k e) s t c hq),fun s t c h1 h2 h3 j k e hq=>ps.ps s t c h1 h2 h3 j k e (sO k (ps.gs j k e) s t c hq)⟩
 refine ⟨g.lB,g.lO,g.lA,lS',g.cl,fun j y hy=>gen y (g.gB j y hy),fun j y hy=>?_,fun t y hy=>⟨gen y (g.gA t y hy).1,(g.gA t y hy).2⟩,g.rc,⟨st,fr,sr,⟨w.o1,w.o2,w.o3,w.w4,w.w5,fun k hk'=>?_,w.w7⟩,pos'⟩,fun s t c R L h1 h2 h3 rt=>?_⟩
 ·by_cases e:j=p.2.1.toNat
  ·subst e
   rw [at1] at hy
   rcases List.mem_append.1 hy with hy|hy
   ·exact gen y (g.gS _ y hy)
   ·exact genp y hy
  ·rw [at2 j e] at hy;exact gen y (g.gS _ y hy)
 ·by_cases e:k=p.2.1.toNat
  ·subst e
   rw [at1]
   exact (w.w6 _ hk').app (Tt hp0)
  ·rw [at2 k e];exact w.w6 k hk'
 ·obtain ⟨z1,z2,z3⟩:=g.fl s t c R L h1 h2 h3 rt
  have eA:(x.2.2.2.2.2.2.1.getD t []).filter (inF (list++[p]) s t c)=(x.2.2.2.2.2.2.1.getD t []).filter (inF list s t c):=List.filter_congr fun y hy=>inO s t c y (g.gA t y hy).1
  have eB:∀j,(x.2.2.1.getD j []).filter (inF (list++[p]) s t c)=(x.2.2.1.getD j []).filter (inF list s t c):=fun j=>List.filter_congr fun y hy=>inO s t c y (g.gB j y hy)
  have eO:∀j,(x.2.2.2.2.2.1.getD j []).filter (inF (list++[p]) s t c)=(x.2.2.2.2.2.1.getD j []).filter (inF list s t c):=fun j=>List.filter_congr fun y hy=>inO s t c y (g.gS j y hy)
  have eF:flowFl (stat x) (list++[p]) s t c=flowFl (stat x) list s t c++(if isFlow s t c p then flitsOf x.1.1 x.1.2.1 p else []):=by
   unfold flowFl
   rw [List.filter_append,List.flatMap_append]
   congr 1
   by_cases e:isFlow s t c p
   ·rw [if_pos e,List.filter_cons_of_pos (by simpa using e)];simp;rfl
   ·rw [if_neg e,List.filter_cons_of_neg (by simpa using e)];rfl
  refine ⟨?_,fun j y hy hF=>z2 j y hy (by rw [← inO s t c y (g.gB j y hy)];exact hF),fun k y hy hF=>?_⟩
  ·rw [eA,Yo L (fun n _=>eB (R n)),eF,← z1]
   have eS2:(S'.getD s []).filter (inF (list++[p]) s t c)=(x.2.2.2.2.2.1.getD s []).filter (inF list s t c)++(if isFlow s t c p then flitsOf x.1.1 x.1.2.1 p else []):=by
    by_cases e:s=p.2.1.toNat
    ·subst e
     rw [at1,List.filter_append,eO]
     congr 1
     by_cases e2:isFlow (p.2.1.toNat:Nat) t c p
     ·rw [if_pos e2,List.filter_eq_self.2]
      intro y hy
      rw [inP _ _ _ y hy];simpa using e2
     ·rw [if_neg e2,List.filter_eq_nil_iff.2]
      intro y hy
      rw [inP _ _ _ y hy];simpa using e2
    ·rw [at2 s e,eO,if_neg,List.append_nil]
     intro e2
     have:=e2.1
     omega
   rw [eS2]
   simp only [List.append_assoc]
  ·by_cases e:k=p.2.1.toNat
   ·subst e
    rw [at1] at hy
    rcases List.mem_append.1 hy with hy|hy
    ·exact z3 _ y hy (by rw [← inO s t c y (g.gS _ y hy)];exact hF)
    ·rw [inP s t c y hy] at hF
     have:=(of_decide_eq_true hF).1
     omega
   ·rw [at2 k e] at hy
    exact z3 k y hy (by rw [← inO s t c y (g.gS _ y hy)];exact hF)
theorem Ec {m:MeshD} {t:ClassesD} (hc:classesOk m.1 m.2.1 m.2.2 t.1 t.2):GoodN (netNew m t) []:=by
 have e2:netNew m t=(m,t,List.replicate (10*(cnt m.1 m.2.1).toNat) [],List.replicate (10*(cnt m.1 m.2.1).toNat) (-1),List.replicate (5*(cnt m.1 m.2.1).toNat) 0,List.replicate (cnt m.1 m.2.1).toNat [],List.replicate (cnt m.1 m.2.1).toNat [],0):=by
  unfold netNew;rw [if_pos hc]
 have rep:∀n j,(List.replicate n ([]:List FlitD)).getD j []=[]:=fun n j=>by
  rw [List.getD_eq_getElem?_getD,List.getElem?_replicate]
  split<;>rfl
 rw [e2]
 unfold GoodN
 refine Good.still ?_ ?_ ?_ ?_ (rep _) (rep _) (fun o ho=>List.eq_of_mem_replicate ho) (fun t y hy=>?_) (fun t c _ _=>?_) (fun s t c _ _ _=>?_)
 ·show (List.replicate _ _).length=_;rw [List.length_replicate];rfl
 ·show (List.replicate _ _).length=_;rw [List.length_replicate];rfl
 ·show (List.replicate _ _).length=_;rw [List.length_replicate];rfl
 ·show (List.replicate _ _).length=_;rw [List.length_replicate];rfl
 ·have hy:y∈(List.replicate (cnt m.1 m.2.1).toNat ([]:List FlitD)).getD t []:=hy
  rw [rep] at hy;simp at hy
 ·show Str none (((List.replicate (cnt m.1 m.2.1).toNat ([]:List FlitD)).getD t []).filter _) none
  rw [rep];rfl
 ·show ((List.replicate (cnt m.1 m.2.1).toNat ([]:List FlitD)).getD t []).filter _=_
  rw [rep];rfl
structure Ranked (x:NetD) (ρ:Nat→Nat):Prop where
 lt:∀j,ρ j<1000
 up:∀(s t c:Nat) R L,s<nC x→t<nC x→c<2→Route x s t c R L→∀n,n<L→ρ (R n)<ρ (R (n+1))
section
variable {x:NetD} {list:List PkD} {ρ:Nat→Nat} (hn:netOk x) (h:Sent (stat x) list) (g:GoodN x list) (rk:Ranked (stat x) ρ) (hA:allN x=[]) (hE:enterN x=[])
include h g
include hn rk
include hA
end
section
variable {x:NetD} {list:List PkD} {ρ:Nat→Nat} (hn:netOk x) (h:Sent (stat x) list) (g:GoodN x list) (rk:Ranked (stat x) ρ) (hA:allN x=[]) (hE:enterN x=[])
include hn h g rk hA
include hE
end
theorem Nz (w h:Int) (b T:List Int) (to:Int) (h4:portOf w h T to to=4):∀L F a out,L≤F→itN (nuT w h T to) L a=to→(∀n,n<L→stepOk w h b T (itN (nuT w h T to) n a) to)→(walkN w h b T to F a out).length=out.length+L
 | 0,F,a,out,_,e,_=>by
  have e:a=to:=e
  subst e
  cases F with
  | zero=>unfold walkN;rw [if_pos h4,if_pos rfl];rfl
  | succ F=>unfold walkN;rw [if_pos h4,if_pos rfl];rfl
 | L+1,F,a,out,hF,e,hs=>by
  have s0:stepOk w h b T a to:=hs 0 (by omega)
  have hne:¬portOf w h T a to=4:=fun k=>by have:=s0.1;unfold inR at this;omega
  cases F with
  | zero=>omega
  | succ F=>
   unfold walkN
   rw [if_neg hne,if_pos s0]
   rw [Nz w h b T to h4 L F _ _ (by omega) (by have:=e;rw [Xc] at this;exact this) fun n hn=>by have:=hs (n+1) (by omega);rw [Xc] at this;exact this]
   simp;omega
theorem Tw (w h:Int) (b T:List Int) (to:Int):∀F a out,walkN w h b T to F a out≠[]→∃L,L≤F∧itN (nuT w h T to) L a=to∧∀n,n<L→stepOk w h b T (itN (nuT w h T to) n a) to
 | 0,a,out,hne=>by
  unfold walkN at hne
  by_cases e:portOf w h T a to=4
  ·rw [if_pos e] at hne
   by_cases e2:a=to
   ·exact ⟨0,by omega,e2,fun n h=>by omega⟩
   ·rw [if_neg e2] at hne;exact absurd rfl hne
  ·rw [if_neg e] at hne;exact absurd rfl hne
 | F+1,a,out,hne=>by
  unfold walkN at hne
  by_cases e:portOf w h T a to=4
  ·rw [if_pos e] at hne
   by_cases e2:a=to
   ·exact ⟨0,by omega,e2,fun n h=>by omega⟩
   ·rw [if_neg e2] at hne;exact absurd rfl hne
  ·rw [if_neg e] at hne
   by_cases e2:stepOk w h b T a to
   ·rw [if_pos e2] at hne
    obtain ⟨L,h0,h1,h2⟩:=Tw w h b T to F _ _ hne
    refine ⟨L+1,by omega,by rw [Xc];exact h1,fun n hn=>?_⟩
    cases n with
    | zero=>exact e2
    | succ n=>rw [Xc];exact h2 n (by omega)
   ·rw [if_neg e2] at hne;exact absurd rfl hne
def hop (x:NetD) (c:Nat) (a t:Int):Nat:=(walk x.1.1 x.1.2.1 x.1.2.2 (tabC x c) a t).length
theorem K7 {x:NetD} (h:tabsOk x) {t c:Nat} (ht:t<nC x) (hc:c<2) {a:Int} {L:Nat} (hL:L≤nC x) (e:itN (nuT x.1.1 x.1.2.1 (tabC x c) t) L a=t) (hs:∀n,n<L→stepOk x.1.1 x.1.2.1 x.1.2.2 (tabC x c) (itN (nuT x.1.1 x.1.2.1 (tabC x c) t) n a) t):hop x c a t=L:=by
 unfold hop walk
 rw [Nz _ _ _ _ _ (Oa h ht hc) L (cnt x.1.1 x.1.2.1).toNat a [] hL e hs]
 simp
theorem El {x:NetD} (h:tabsOk x) {a t c p:Nat} (ha:a<nC x) (ht:t<nC x) (hc:c<2) (hne:a≠t) (hp:pO x a c t=(p:Int)):hop x c a t=hop x c (next x.1.1 x.1.2.1 a p) t+1:=by
 obtain ⟨L,h0,h1,h2⟩:=Tw _ _ _ _ _ _ _ _ (((h c hc).2 a ha t ht).2 hne)
 have h0:L≤nC x:=h0
 cases L with
 | zero=>have:(a:Int)=t:=h1;omega
 | succ L=>
  have e:nuT x.1.1 x.1.2.1 (tabC x c) t a=next x.1.1 x.1.2.1 a p:=by
   unfold nuT
   have:portOf x.1.1 x.1.2.1 (tabC x c) a t=(p:Int):=hp
   rw [this]
  rw [K7 h ht hc h0 h1 h2,K7 h ht hc (L:=L) (by omega) (by rw [← e,← Xc];exact h1) (fun n hn=>by rw [← e,← Xc];exact h2 (n+1) (by omega))]
def ws (x:NetD) (k:Nat) (y:FlitD):Nat:=hop x y.2.2.1.toNat (k:Int) y.2.1+2
theorem Good.port {x:NetD} {list:List PkD} {B:SSD} {O:List Int} {A S:SSD} (g:Good x list B O A S) {a p i:Nat} {y:FlitD} {r:List FlitD} (k:Can x B O a p i y r):pO x a (i%2) y.2.1=(p:Int):=by
 obtain ⟨st,fr,sr,w,ps⟩:=g.wf
 have hj:=k.hj
 have hs:∃u,Str (fr (10*a+i)) (y::r) u:=by
  rcases g.rc (10*a+i) (by rw [hj];simp) with ⟨a',p',c',h1,h2,h3,h4,e⟩|⟨k',c',h1,h2,e⟩
  ·have:=w.w4 a' p' c' h1 h2 h3 h4
   rw [← e,hj] at this;exact ⟨_,this⟩
  ·have:=w.w5 k' c' h1 h2
   rw [← e,hj] at this;exact ⟨_,this⟩
 exact (w.move g.lB g.lO g.lA g.cl k hs).1
end Go.Proofs.YtjgochodhiekeaaGreat.V
set_option linter.all false
namespace Go.Proofs.YtjgochodhiekeaaGreat.V
open Go Go.VM Go.Proofs
set_option maxRecDepth 100000
theorem Gt {x:NetD} (tk:tabsOk x) {s t c:Nat} {R:Nat→Nat} {L:Nat} (hs:s<nC x) (ht:t<nC x) (hc:c<2) (rt:Route x s t c R L):hop x c s t=L:=by
 have key:∀d n,n≤L→L-n=d→hop x c ((R n/10:Nat):Int) t=d:=by
  intro d
  induction d with
  | zero=>
   intro n hn e
   have:n=L:=by omega
   subst this
   rw [rt.rt]
   exact K7 tk ht hc (L:=0) (by omega) rfl (fun n h=>by omega)
  | succ d ih=>
   intro n hn e
   have hL:n<L:=by omega
   obtain ⟨p,p1,p2,p3,p4⟩:=rt.rs n hL
   have hlt:=rt.lt n hn
   have hne:R n/10≠t:=fun e2=>by
    have:=rt.ij n L hn (Nat.le_refl _) (by rw [e2,rt.rt]);omega
   obtain ⟨t1,t2,t3,t4⟩:=U1 (c:=c) p4 p1 hc
   rw [El tk (by omega) ht hc hne p2,← t3,← p3,ih (n+1) (by omega) (by omega)]
 have:=key L 0 (by omega) (by omega)
 rw [rt.r0,show (10*s+8+c)/10=s by omega] at this
 exact this
theorem Fc {x:NetD} {list:List PkD} (g:GoodN x list) {t c:Nat} (ht:t<nC x) (hc:c<2):arrIds x.2.2.2.2.2.2.1 t (c:Int)=tailIds ((x.2.2.2.2.2.2.1.getD t []).filter fun f=>f.2.2.1=(c:Int)):=by
 obtain ⟨st,fr,sr,w,_⟩:=g.wf
 exact N0 _ _ (w.w7 t c ht hc)
theorem Ca {x:NetD} {list:List PkD} (h:Sent (stat x) list) {p:PkD} (hp:p∈list):∃t c:Nat,t<nC x∧c<2∧p.2.2.1=(t:Int)∧p.2.2.2.1=(c:Int)∧p.2.2.1.toNat=t∧∃s:Nat,s<nC x∧p.2.1=(s:Int):=by
 obtain ⟨_,⟨q1,q2⟩,⟨q3,q4⟩,_,q5,q6⟩:=h.ok p hp
 have hnn:=Vd x
 have q2':p.2.1<cnt x.1.1 x.1.2.1:=q2
 have q4':p.2.2.1<cnt x.1.1 x.1.2.1:=q4
 unfold inR at q5
 exact ⟨p.2.2.1.toNat,p.2.2.2.1.toNat,by omega,by omega,by omega,by omega,rfl,p.2.1.toNat,by omega,by omega⟩
theorem L3 {x:NetD} {list:List PkD} (hn:netOk x) (hi:idle x) (h:Sent (stat x) list) (g:GoodN x list):lacks x list=[]:=by
 unfold lacks
 rw [List.filter_eq_nil_iff.2]
 ·rfl
 intro p hp
 obtain ⟨t,c,ht,hc,et,ec,etn,s,hs,es⟩:=Ca h hp
 unfold lackP
 rw [etn,ec,Fc g ht hc]
 simp only [Bool.not_eq_true,Bool.not_eq_false',decide_eq_true_eq]
 have z:=(Fp hn hi h g).1 s t c hs ht hc
 have ea:=Lo h.u (fun y hy=>(g.gA t y hy).1) s c
 have m1:p.1∈tailIds (flowFl x list s t c):=by
  rw [Kw (x:=x) h.ok]
  unfold sentIds
  refine List.mem_map.2 ⟨p,List.mem_filter.2 ⟨hp,?_⟩,rfl⟩
  rw [decide_eq_true_eq]
  exact ⟨es,et,ec⟩
 rw [← z,← ea] at m1
 unfold tailIds at m1 ⊢
 obtain ⟨y,hy,e⟩:=List.mem_map.1 m1
 obtain ⟨y1,y2⟩:=List.mem_filter.1 hy
 exact List.mem_map.2 ⟨y,List.mem_filter.2 ⟨(List.mem_filter.1 y1).1,y2⟩,e⟩
end Go.Proofs.YtjgochodhiekeaaGreat.V
set_option linter.all false
namespace Go.Proofs.YtjgochodhiekeaaGreat.V
open Go Go.VM Go.Proofs
set_option maxRecDepth 10000
theorem Lw:∀(l:List GrD) (B:SSD) (j:Nat),(l.map frm).Nodup→(l.foldl popS B).getD j []=if j∈l.map frm then (B.getD j []).drop 1 else B.getD j []
 | [],B,j,_=>by simp
 | a::l,B,j,nd=>by
  obtain ⟨n1,n2⟩:=List.nodup_cons.1 nd
  rw [List.foldl_cons,Lw l _ j n2]
  by_cases e:frm a=j
  ·subst e
   rw [if_neg n1,if_pos (by simp)]
   unfold popS
   by_cases hl:frm a<B.length
   ·rw [Q9 _ hl]
   ·unfold upd
    rw [List.set_eq_of_length_le (Nat.le_of_not_lt hl)]
    simp [List.getD_eq_getElem?_getD,List.getElem?_eq_none (Nat.le_of_not_lt hl)]
  ·have:(popS B a).getD j []=B.getD j []:=Qs _ e
   rw [this]
   by_cases hm:j∈l.map frm
   ·rw [if_pos hm,if_pos (show j∈(a::l).map frm from List.mem_cons_of_mem _ hm)]
   ·rw [if_neg hm,if_neg (by rw [List.map_cons,List.mem_cons];rintro (h|h);exact e h.symm;exact hm h)]
def goesTo (x:NetD) (j:Nat) (g:GrD):Bool:=decide (g.2.1≠4)&&decide (tgt x g.1 g.2.1 (g.2.2%2)=j)
theorem Og (x:NetD):∀(l:List GrD) (B:SSD) (j:Nat),j<B.length→(l.foldl (pushS x) B).getD j []=B.getD j []++(l.filter (goesTo x j)).map fun g=>headOf x (frm g)
 | [],B,j,_=>by simp
 | a::l,B,j,hj=>by
  rw [List.foldl_cons,Og x l _ j (by rw [Yq];exact hj)]
  by_cases hg:goesTo x j a=true
  ·rw [List.filter_cons_of_pos hg,List.map_cons]
   unfold goesTo at hg
   simp only [Bool.and_eq_true,decide_eq_true_eq] at hg
   obtain ⟨h1,rfl⟩:=hg
   unfold pushS
   rw [if_neg h1,Q9 _ hj]
   simp
  ·rw [List.filter_cons_of_neg hg]
   congr 1
   unfold pushS
   split
   ·rfl
   ·rename_i h4
    rw [Qs _ (fun e=>hg (by unfold goesTo;simp [h4,e]))]
theorem Mm (x:NetD):∀(l:List Nat) (B:SSD) (j:Nat),j<B.length→(l.foldl (entS x) B).getD j []=B.getD j []++(l.filter fun k=>decide (entAt x k=j)).map (srcHead x)
 | [],B,j,_=>by simp
 | a::l,B,j,hj=>by
  rw [List.foldl_cons,Mm x l _ j (by rw [U6];exact hj)]
  by_cases hg:entAt x a=j
  ·subst hg
   rw [List.filter_cons_of_pos (by simp),List.map_cons]
   unfold entS
   rw [Q9 _ hj]
   simp
  ·rw [List.filter_cons_of_neg (by simpa using hg)]
   congr 1
   exact Qs _ hg
theorem Mn:∀(l:List Nat) (S:SSD) (j:Nat),l.Nodup→(l.foldl srcS S).getD j []=if j∈l then (S.getD j []).drop 1 else S.getD j []
 | [],S,j,_=>by simp
 | a::l,S,j,nd=>by
  obtain ⟨n1,n2⟩:=List.nodup_cons.1 nd
  rw [List.foldl_cons,Mn l _ j n2]
  by_cases e:a=j
  ·subst e
   rw [if_neg n1,if_pos (by simp)]
   unfold srcS
   by_cases hl:a<S.length
   ·rw [Q9 _ hl]
   ·unfold upd
    rw [List.set_eq_of_length_le (Nat.le_of_not_lt hl)]
    simp [List.getD_eq_getElem?_getD,List.getElem?_eq_none (Nat.le_of_not_lt hl)]
  ·have:(srcS S a).getD j []=S.getD j []:=Qs _ e
   rw [this]
   by_cases hm:j∈l
   ·rw [if_pos hm,if_pos (List.mem_cons_of_mem _ hm)]
   ·rw [if_neg hm,if_neg (by rw [List.mem_cons];rintro (h|h);exact e h.symm;exact hm h)]
theorem Y7 {α:Type} {P:α→Bool} {a:α}:∀{l:List α},l.Nodup→a∈l→P a=true→(∀b∈l,P b=true→b=a)→l.filter P=[a]
 | [],_,h,_,_=>by simp at h
 | b::l,nd,h,hp,hu=>by
  obtain ⟨n1,n2⟩:=List.nodup_cons.1 nd
  by_cases hb:P b=true
  ·have:=hu b (List.mem_cons_self ..) hb
   subst this
   rw [List.filter_cons_of_pos hb,List.filter_eq_nil_iff.2]
   intro c hc hPc
   have:=hu c (List.mem_cons_of_mem _ hc) hPc
   subst this
   exact n1 hc
  ·rw [List.filter_cons_of_neg hb]
   refine Y7 n2 ?_ hp fun c hc=>hu c (List.mem_cons_of_mem _ hc)
   rcases List.mem_cons.1 h with e|e
   ·subst e;exact absurd hp hb
   ·exact e
theorem M0 (x:NetD) (a p:Nat):∀d,∀g∈(grTo x a p).1,g∈(grTo x a (p+d)).1
 | 0,g,hg=>hg
 | d+1,g,hg=>by
  have:=M0 x a p d g hg
  rw [show p+(d+1)=p+d+1 by omega,Xi]
  unfold grStep
  split
  ·exact List.mem_append_left _ this
  ·exact this
theorem granted {x:NetD} {a p i:Nat} (ha:a<nC x) (hp:p<5) (hi:i<10) (hr:reqN x a i p) (hu:∀i' p',i'<10→p'<5→reqN x a i' p'→i'=i∧p'=p):(a,p,i)∈allN x:=by
 have lo:∀q,q≤p→grTo x a q=([],List.replicate 5 false):=by
  intro q
  induction q with
  | zero=>intro _;rfl
  | succ q ih=>
   intro hq
   rw [Xi,ih (by omega)]
   unfold grStep
   have e:freeN x a q (List.replicate 5 false)=[]:=by
    rw [List.eq_nil_iff_forall_not_mem]
    intro i' hi'
    obtain ⟨h1,h2,_⟩:=U3 hi'
    have:=(hu i' q h1 (by omega) h2).2
    omega
   rw [if_neg]
   unfold pickN
   rw [e]
   simp [firstF]
 have fr:freeN x a p (List.replicate 5 false)=[i]:=by
  unfold freeN
  have e1:reqsN x a p=[i]:=by
   unfold reqsN
   refine Y7 List.nodup_range (List.mem_range.2 hi) (by simpa using hr) fun i' h1 h2=>?_
   exact (hu i' p (List.mem_range.1 h1) hp (by simpa using h2)).1
  rw [e1,List.filter_cons_of_pos]
  ·rfl
  ·have:(List.replicate 5 false).getD (i/2) false=false:=by
    rw [List.getD_eq_getElem?_getD,List.getElem?_replicate];split<;>rfl
   rw [this];rfl
 have pk:pickN x a p (List.replicate 5 false)=(i:Int):=by
  unfold pickN
  rw [fr]
  simp [firstF]
 have m:(a,p,i)∈(grTo x a (p+1)).1:=by
  rw [Xi,lo p (Nat.le_refl _)]
  unfold grStep
  rw [if_pos (by rw [pk];omega),pk]
  simp
 have:=M0 x a (p+1) (5-(p+1)) _ m
 rw [show p+1+(5-(p+1))=5 by omega] at this
 unfold allN allTo
 exact List.mem_flatMap.2 ⟨a,List.mem_range.2 ha,this⟩
theorem Jd (x:NetD):(allN x).Nodup:=by
 have:=Ye x
 exact (List.pairwise_map.1 this).imp fun {a b} h e=>h (by rw [e])
structure Solo (x:NetD) (p:PkD) (s t c:Nat) (R:Nat→Nat) (L:Nat):Prop where
 hn:netOk x
 g:GoodN x [p]
 ok:packetOk x.1.1 x.1.2.1 p
 es:p.2.1=(s:Int)
 et:p.2.2.1=(t:Int)
 ec:p.2.2.2.1=(c:Int)
 hs:s<nC x
 ht:t<nC x
 hc:c<2
 rt:Route (stat x) s t c R L
 one:∀n,n≤L→(x.2.2.1.getD (R n) []).length≤1
section
variable {x:NetD} {p:PkD} {s t c:Nat} {R:Nat→Nat} {L:Nat} (o:Solo x p s t c R L)
include o
theorem Solo.sent:Sent (stat x) [p]:=⟨fun a ha b hb _=>by rw [List.mem_singleton.1 ha,List.mem_singleton.1 hb],fun q hq=>by rw [List.mem_singleton.1 hq];exact o.ok⟩
theorem Solo.isF {y:FlitD} (g:Gen [p] y):inF [p] s t c y=true:=by
 obtain ⟨q,hq,e1,e2,e3⟩:=g
 rw [List.mem_singleton.1 hq] at e1
 unfold inF
 rw [decide_eq_true_eq]
 exact ⟨p,by simp,e1,o.es,o.et,o.ec⟩
theorem Solo.flow:Flow (stat x) [p] x.2.2.1 x.2.2.2.2.2.2.1 x.2.2.2.2.2.1 s t c R L:=o.g.fl s t c R L o.hs o.ht o.hc o.rt
theorem Solo.at' {j:Nat} (h:x.2.2.1.getD j []≠[]):∃n,n≤L∧j=R n:=by
 obtain ⟨y,hy⟩:=List.exists_mem_of_ne_nil _ h
 exact o.flow.z2 j y hy (o.isF (o.g.gB j y hy))
theorem Solo.src {k:Nat} (h:x.2.2.2.2.2.1.getD k []≠[]):k=s:=by
 obtain ⟨y,hy⟩:=List.exists_mem_of_ne_nil _ h
 exact o.flow.z3 k y hy (o.isF (o.g.gS k y hy))
theorem Solo.lt {n:Nat} (h:n≤L):R n<10*nC x:=o.rt.lt n h
theorem Solo.port {n:Nat} (h:n≤L):∃q:Nat,q<5∧pO x (R n/10) c t=(q:Int)∧(n=L→q=4)∧(n<L→q<4∧hasP x (R n/10) q∧tgt x (R n/10) q c=R (n+1)):=by
 rcases Nat.lt_or_ge n L with k|k
 ·obtain ⟨q,q1,q2,q3,q4⟩:=o.rt.rs n k
  exact ⟨q,by omega,q2,fun e=>by omega,fun _=>⟨q1,q4,q3.symm⟩⟩
 ·have:n=L:=by omega
  subst this
  have r4:pO x t c t=4:=o.rt.r4
  refine ⟨4,by omega,?_,fun _=>rfl,fun k2=>by omega⟩
  rw [o.rt.rt,r4];rfl
theorem Solo.req {n:Nat} (h:n≤L) (hne:x.2.2.1.getD (R n) []≠[]) {q:Nat} (hq:q<5) (hp:pO x (R n/10) c t=(q:Int)) (h4:n=L→q=4) (h5:n<L→q<4∧hasP x (R n/10) q∧tgt x (R n/10) q c=R (n+1)):reqN x (R n/10) (R n%10) q:=by
 obtain ⟨st,fr,sr,w,ps⟩:=o.g.wf
 have hlt:=o.lt h
 have md:=o.rt.md n h
 have ei:10*(R n/10)+R n%10=R n:=by omega
 have ec2:R n%10%2=c:=by omega
 have ha:R n/10<nC x:=by omega
 have hB:=Ym hne
 generalize hy:headL (x.2.2.1.getD (R n) [])=y at hB
 have hm:y∈x.2.2.1.getD (R n) []:=by rw [hB];exact List.mem_cons_self ..
 have eh:headOf x (10*(R n/10)+R n%10)=y:=by unfold headOf;rw [ei];exact hy
 obtain ⟨p1,hp1,g1,g2,g3⟩:=o.g.gB _ y hm
 rw [List.mem_singleton.1 hp1] at g1 g2 g3
 have yt:y.2.1=(t:Int):=by rw [← g2,o.et]
 have room:roomN x (R n/10) q (R n%10%2):=by
  rcases Nat.lt_or_ge n L with k|k
  ·obtain ⟨k1,k2,k3⟩:=h5 k
   refine .inr ⟨k2,?_⟩
   rw [ec2,k3]
   have:=o.one (n+1) (by omega)
   omega
  ·exact .inl (h4 (by omega))
 have hs:∃u,Str (fr (R n)) (y::(x.2.2.1.getD (R n) []).drop 1) u:=by
  rw [← hB]
  rcases o.g.rc (R n) hne with ⟨a',p',c',h1,h2,h3,h4,e⟩|⟨k',c',h1,h2,e⟩
  ·have:=w.w4 a' p' c' h1 h2 h3 h4
   rw [← e] at this;exact ⟨_,this⟩
  ·have:=w.w5 k' c' h1 h2
   rw [← e] at this;exact ⟨_,this⟩
 obtain ⟨u,hu⟩:=hs
 have ok:=hu.pop.1
 have ne2:¬x.2.2.1.getD (10*(R n/10)+R n%10) []=[]:=by rw [ei];exact hne
 have ow:x.2.2.2.1.length=10*nC x:=o.g.lO
 have orange:∀p',p'<5→-1≤x.2.2.2.1.getD (outAt (R n/10) p' c) 0∧x.2.2.2.1.getD (outAt (R n/10) p' c) 0≤4:=fun p' hp'=>by
  have hl:outAt (R n/10) p' c<x.2.2.2.1.length:=by have:=o.hc;unfold outAt;omega
  have:=o.hn.2.2.2.2.1 _ (List.getElem_mem hl)
  rw [List.getD_eq_getElem?_getD,List.getElem?_eq_getElem hl]
  exact this
 have er:10*(R n/10)+2*(R n%10/2)+c=R n:=by omega
 cases hh:y.2.2.2.1 with
 | true=>
  refine ⟨?_,room,?_⟩
  ·unfold wantedN
   rw [if_neg ne2,eh,if_pos hh,ec2,yt]
   exact hp
  ·rw [eh,if_pos hh,ec2]
   have hf:=Gu ok hh
   obtain ⟨o1,o2⟩:=orange q hq
   by_cases e1:x.2.2.2.1.getD (outAt (R n/10) q c) 0=-1
   ·exact e1
   ·exfalso
    obtain ⟨q',hq'⟩:∃q':Nat,x.2.2.2.1.getD (outAt (R n/10) q c) 0=(q':Int):=⟨(x.2.2.2.1.getD (outAt (R n/10) q c) 0).toNat,by omega⟩
    obtain ⟨k,k1,k2,k3⟩:=w.o2 (R n/10) q c q' ha hq o.hc (by omega) hq'
    obtain ⟨p2,hp2,f1,f2,f3⟩:=ps.gf _ k k2
    rw [List.mem_singleton.1 hp2] at f1
    obtain ⟨m,hm',em⟩:=ps.pf s t c R L o.hs o.ht o.hc o.rt _ k k2 ⟨p,by simp,f1,o.es,o.et,o.ec⟩
    have hcc:=o.hc
    have:m=n:=o.rt.ij m n hm' h (by omega)
    subst this
    rw [em,hf] at k2
    simp at k2
 | false=>
  have hf:=I7 ok hh
  obtain ⟨p',hp',ho⟩:=w.o3 (R n/10) (R n%10/2) c (fkey y) ha (by omega) o.hc (by rw [er];exact hf)
  have only:∀p',p'<5→x.2.2.2.1.getD (outAt (R n/10) p' c) 0=((R n%10/2:Nat):Int)→p'=q:=fun p' hp' e=>by
   obtain ⟨k,_,k2,k3⟩:=w.o2 (R n/10) p' c (R n%10/2) ha hp' o.hc (by omega) e
   rw [er,hf] at k2
   have:fkey y=k:=by simpa using k2
   subst this
   have k3:pO x (R n/10) c y.2.1=(p':Int):=k3
   rw [yt,hp] at k3
   omega
  have:=only p' hp' ho
  subst this
  refine ⟨?_,room,?_⟩
  ·unfold wantedN
   rw [if_neg ne2,eh,if_neg (by rw [hh];simp),ec2]
   cases hf2:(List.range 5).find? (fun p=>decide (x.2.2.2.1.getD (outAt (R n/10) p c) 0=((R n%10/2:Nat):Int))) with
   | none=>
    have:=List.find?_eq_none.1 hf2 p' (List.mem_range.2 hp')
    simp at this
    exact absurd ho (by simpa using this)
   | some p3=>
    have e1:=List.find?_some hf2
    have e2:=List.mem_range.1 (List.mem_of_find?_eq_some hf2)
    have:=only p3 e2 (by simpa using e1)
    subst this;rfl
  ·rw [eh,if_neg (by rw [hh];simp),ec2]
   exact ho
theorem Solo.grant {n:Nat} (h:n≤L) (hne:x.2.2.1.getD (R n) []≠[]) {q:Nat} (hq:q<5) (hp:pO x (R n/10) c t=(q:Int)) (h4:n=L→q=4) (h5:n<L→q<4∧hasP x (R n/10) q∧tgt x (R n/10) q c=R (n+1)):(R n/10,q,R n%10)∈allN x:=by
 have hr:=o.req h hne hq hp h4 h5
 have hlt:=o.lt h
 refine granted (by omega) hq (by omega) hr fun i' p' hi' hp' r=>?_
 have ne:=Yh r
 obtain ⟨m,hm,em⟩:=o.at' ne
 have:m=n:=o.rt.ij m n hm h (by omega)
 subst this
 have ei:i'=R m%10:=by omega
 subst ei
 refine ⟨rfl,?_⟩
 have h1:=r.1
 have h2:=hr.1
 omega
theorem Solo.grants {g:GrD} (hg:g∈allN x):∃n,n≤L∧frm g=R n∧x.2.2.1.getD (R n) []≠[]∧g=(R n/10,g.2.1,R n%10)∧pO x (R n/10) c t=(g.2.1:Int):=by
 obtain ⟨a1,a2,a3,a4⟩:=W3 hg
 have ne:=Yh a4
 obtain ⟨n,hn,en⟩:=o.at' ne
 have e1:g.1=R n/10:=by omega
 have e2:g.2.2=R n%10:=by omega
 obtain ⟨q,q1,q2,q3,q4⟩:=o.port hn
 have hr:=o.req hn (by rw [← en];exact ne) q1 q2 q3 q4
 have h1:=a4.1
 have h2:=hr.1
 rw [e1,e2,h2] at h1
 refine ⟨n,hn,en,by rw [← en];exact ne,by rw [← e1,← e2],?_⟩
 rw [q2];exact h1
theorem Solo.pops (j:Nat):((allN x).foldl popS x.2.2.1).getD j []=[]:=by
 rw [Lw _ _ _ (Ye x)]
 by_cases hm:j∈(allN x).map frm
 ·rw [if_pos hm]
  obtain ⟨g,hg,rfl⟩:=List.mem_map.1 hm
  obtain ⟨n,hn,e,_⟩:=o.grants hg
  rw [e]
  have:=o.one n hn
  exact List.drop_of_length_le this
 ·rw [if_neg hm]
  by_cases e:x.2.2.1.getD j []=[]
  ·exact e
  ·obtain ⟨n,hn,rfl⟩:=o.at' e
   obtain ⟨q,q1,q2,q3,q4⟩:=o.port hn
   have:=o.grant hn e q1 q2 q3 q4
   exfalso
   apply hm
   refine List.mem_map.2 ⟨_,this,?_⟩
   unfold frm
   show 10*(R n/10)+R n%10=R n
   omega
theorem Solo.ent {k:Nat} (hk:x.2.2.2.2.2.1.getD s []≠[]):entAt x s=R 0∧s∈enterN x:=by
 have hm:=Yr hk
 obtain ⟨p1,hp1,g1,g2,g3⟩:=o.g.gS s _ hm
 rw [List.mem_singleton.1 hp1] at g3
 have ec:(srcHead x s).2.2.1=(c:Int):=by
  have:(srcHead x s).2.2.1=p.2.2.2.1:=g3.symm
  rw [this,o.ec]
 have ea:entAt x s=R 0:=by rw [o.rt.r0];unfold entAt;rw [ec];omega
 refine ⟨ea,List.mem_filter.2 ⟨List.mem_range.2 o.hs,?_⟩⟩
 have:=o.one 0 (by omega)
 simp only [decide_eq_true_eq]
 exact ⟨hk,by rw [ea];omega⟩
theorem Solo.step:(stepN x).2.2.1.getD (R 0) []=(x.2.2.2.2.2.1.getD s []).take 1∧(∀n,n<L→(stepN x).2.2.1.getD (R (n+1)) []=x.2.2.1.getD (R n) [])∧(stepN x).2.2.2.2.2.1.getD s []=(x.2.2.2.2.2.1.getD s []).drop 1:=by
 have lB:x.2.2.1.length=10*nC x:=o.g.lB
 have lP:((allN x).foldl popS x.2.2.1).length=10*nC x:=by rw [Qt R6];exact lB
 have lQ:((allN x).foldl (pushS x) ((allN x).foldl popS x.2.2.1)).length=10*nC x:=by rw [Qt (Yq x)];exact lP
 have onlyS:∀k∈enterN x,k=s:=fun k hk=>o.src (Wm hk).2.1
 have bufAt:∀j,j<10*nC x→(stepN x).2.2.1.getD j []=((allN x).filter (goesTo x j)).map (fun g=>headOf x (frm g))++((enterN x).filter fun k=>decide (entAt x k=j)).map (srcHead x):=fun j hj=>by
  show ((enterN x).foldl (entS x) ((allN x).foldl (pushS x) ((allN x).foldl popS x.2.2.1))).getD j []=_
  rw [Mm x _ _ _ (by rw [lQ];exact hj),Og x _ _ _ (by rw [lP];exact hj),o.pops]
  rfl
 have goes:∀g∈allN x,∀j,goesTo x j g=true→∃n,n<L∧j=R (n+1)∧x.2.2.1.getD (R n) []≠[]∧g.1=R n/10∧g.2.2=R n%10∧pO x (R n/10) c t=(g.2.1:Int):=fun g hg j hj=>by
  obtain ⟨n,hn,e1,e2,e3,e4⟩:=o.grants hg
  unfold goesTo at hj
  simp only [Bool.and_eq_true,decide_eq_true_eq] at hj
  obtain ⟨h4,ht⟩:=hj
  have f1:g.1=R n/10:=by rw [e3]
  have f2:g.2.2=R n%10:=by rw [e3]
  obtain ⟨q,q1,q2,q3,q4⟩:=o.port hn
  have:q=g.2.1:=by rw [q2] at e4;omega
  subst this
  have hL:n<L:=by
   rcases Nat.lt_or_ge n L with k|k
   ·exact k
   ·exact absurd (q3 (by omega)) h4
  have md:=o.rt.md n hn
  rw [f1,f2,show R n%10%2=c by omega,(q4 hL).2.2] at ht
  exact ⟨n,hL,ht.symm,e2,f1,f2,e4⟩
 refine ⟨?_,fun n hn=>?_,?_⟩
 ·have f0:(allN x).filter (goesTo x (R 0))=[]:=List.filter_eq_nil_iff.2 fun g hg hj=>by
   obtain ⟨n,hn,e,_⟩:=goes g hg _ hj
   have:=o.rt.inj 0 (n+1) (by omega) (by omega) e
   omega
  rw [bufAt _ (o.lt (Nat.zero_le _)),f0]
  by_cases hk:x.2.2.2.2.2.1.getD s []=[]
  ·have f1:(enterN x).filter (fun k=>decide (entAt x k=R 0))=[]:=List.filter_eq_nil_iff.2 fun k hk' _=>by
    have ek:=onlyS k hk'
    rw [ek] at hk'
    exact (Wm hk').2.1 hk
   rw [hk,f1]
   rfl
  ·obtain ⟨e1,e2⟩:=o.ent (k:=0) hk
   have f1:(enterN x).filter (fun k=>decide (entAt x k=R 0))=[s]:=Y7 (X5 x) e2 (by simpa using e1) fun b hb _=>onlyS b hb
   rw [f1]
   have:=Ym hk
   rw [this]
   rfl
 ·have f0:(enterN x).filter (fun k=>decide (entAt x k=R (n+1)))=[]:=List.filter_eq_nil_iff.2 fun k hk' hj=>by
   have ek:=onlyS k hk'
   rw [ek] at hk' hj
   obtain ⟨e1,_⟩:=o.ent (k:=0) (Wm hk').2.1
   rw [e1] at hj
   have:=o.rt.inj 0 (n+1) (by omega) (by omega) (by simpa using hj)
   omega
  rw [bufAt _ (o.lt (by omega)),f0]
  by_cases hb:x.2.2.1.getD (R n) []=[]
  ·have f1:(allN x).filter (goesTo x (R (n+1)))=[]:=List.filter_eq_nil_iff.2 fun g hg hj=>by
    obtain ⟨m,hm,e,hne,_⟩:=goes g hg _ hj
    have:=o.rt.inj (n+1) (m+1) (by omega) (by omega) e
    have en:n=m:=by omega
    rw [← en] at hne
    exact hne hb
   rw [hb,f1]
   rfl
  ·obtain ⟨q,q1,q2,q3,q4⟩:=o.port (show n≤L by omega)
   have hg:=o.grant (by omega) hb q1 q2 q3 q4
   obtain ⟨k1,k2,k3⟩:=q4 hn
   have md:=o.rt.md n (by omega)
   have f1:(allN x).filter (goesTo x (R (n+1)))=[(R n/10,q,R n%10)]:=Y7 (Jd x) hg (by
    unfold goesTo
    simp only [Bool.and_eq_true,decide_eq_true_eq]
    exact ⟨by omega,by rw [show R n%10%2=c by omega];exact k3⟩) fun g hg hj=>by
     obtain ⟨m,hm,e,_,f1,f2,f3⟩:=goes g hg _ hj
     have:=o.rt.inj (n+1) (m+1) (by omega) (by omega) e
     have en:n=m:=by omega
     rw [← en] at f1 f2 f3
     have:g.2.1=q:=by rw [q2] at f3;omega
     rw [← f1,← f2,← this]
   rw [f1]
   have hl:=o.one n (by omega)
   have hd:=Ym hb
   have e1:(x.2.2.1.getD (R n) []).drop 1=[]:=List.drop_of_length_le hl
   rw [e1] at hd
   rw [hd]
   show [headOf x (10*(R n/10)+R n%10)]++[]=_
   rw [show 10*(R n/10)+R n%10=R n by omega]
   rfl
 ·show ((enterN x).foldl srcS x.2.2.2.2.2.1).getD s []=_
  rw [Mn _ _ _ (X5 x)]
  by_cases hk:x.2.2.2.2.2.1.getD s []=[]
  ·rw [hk];split<;>rfl
  ·rw [if_pos (o.ent (k:=0) hk).2]
theorem Solo.next (ht:x.2.2.2.2.2.2.2<1000000):Solo (stepN x) p s t c R L:=by
 obtain ⟨s1,s2,s3⟩:=o.step
 refine ⟨Kh o.hn ht,Gm o.hn.1 o.sent o.g,o.ok,o.es,o.et,o.ec,o.hs,o.ht,o.hc,o.rt,fun n hn=>?_⟩
 cases n with
 | zero=>rw [s1,List.length_take];omega
 | succ n=>rw [s2 n (by omega)];exact o.one n (by omega)
end
theorem Rm {x:NetD} {p:PkD} {s t c:Nat} {R:Nat→Nat} {L:Nat} (o:Solo x p s t c R L) (h0:∀n,n≤L→x.2.2.1.getD (R n) []=[]) (ht:x.2.2.2.2.2.2.2=0):∀k:Nat,k≤1000→Solo (runN x k) p s t c R L∧(runN x k).2.2.2.2.2.1.getD s []=(x.2.2.2.2.2.1.getD s []).drop k∧∀n,n≤L→(runN x k).2.2.1.getD (R n) []=if n<k then ((x.2.2.2.2.2.1.getD s []).drop (k-1-n)).take 1 else []
 | 0,_=>⟨o,rfl,fun n hn=>by rw [if_neg (by omega)];exact h0 n hn⟩
 | k+1,hk=>by
  obtain ⟨i1,i2,i3⟩:=Rm o h0 ht k (by omega)
  obtain ⟨s1,s2,s3⟩:=i1.step
  refine ⟨i1.next (by rw [Rn,ht];omega),?_,fun n hn=>?_⟩
  ·show (stepN (runN x k)).2.2.2.2.2.1.getD s []=_
   rw [s3,i2,List.drop_drop]
  ·show (stepN (runN x k)).2.2.1.getD (R n) []=_
   cases n with
   | zero=>rw [s1,i2,if_pos (by omega)];rfl
   | succ n=>
    rw [s2 n (by omega),i3 n (by omega)]
    by_cases e:n<k
    ·rw [if_pos e,if_pos (by omega),show k+1-1-(n+1)=k-1-n by omega]
    ·rw [if_neg e,if_neg (by omega)]
end Go.Proofs.YtjgochodhiekeaaGreat.V
set_option linter.all false
namespace Go.Proofs.YtjgochodhiekeaaGreat.V
open Go Go.VM Go.Proofs
set_option maxRecDepth 10000
variable {frz:Nat} {H:Heap}
noncomputable def idleAt (x:NetD):Int:=if runs x 400 then (match (List.range 401).find? fun i=>decide (idle (runN x i)) with|some i=>(i:Int)|none=>-1) else -1
noncomputable def idled (x:NetD):NetD:=if 0≤idleAt x then runN x (idleAt x).toNat else x
def MadeI (H:Heap) (y:NetD) (k:Int) (r:Value) (H':Heap):Prop:=∃u,r=.tuple #[u,.int .i64 k]∧dNet.Made H y u H'
theorem Tn {x:NetD} (g:runs x 400) {i:Nat} (hi:i<401) (h:idle (runN x i)) (hn:∀j,j<i→¬idle (runN x j)):idleAt x=i∧idled x=runN x i:=by
 have e:idleAt x=i:=by
  unfold idleAt;rw [if_pos g,Uz hi (decide_eq_true h) (fun j hj=>decide_eq_false (hn j hj))]
 refine ⟨e,?_⟩
 unfold idled
 rw [e,if_pos (by omega),Int.toNat_natCast]
theorem Zv {x:NetD} (g:runs x 400) (hn:∀j,j<401→¬idle (runN x j)):idleAt x=-1∧idled x=x:=by
 have e:idleAt x=-1:=by
  unfold idleAt;rw [if_pos g,Xt (fun j hj=>decide_eq_false (hn j hj))]
 refine ⟨e,?_⟩
 unfold idled
 rw [e,if_neg (by omega)]
theorem Uu {x:NetD} (g:¬runs x 400):idleAt x=-1∧idled x=x:=by
 have e:idleAt x=-1:=if_neg g
 refine ⟨e,?_⟩
 unfold idled
 rw [e,if_neg (by omega)]
theorem O8 (x:NetD):idleAt x=-1∨(0≤idleAt x∧idleAt x≤400∧runs x 400):=by
 unfold idleAt
 split
 ·rename_i g
  split
  ·rename_i i hi
   have:=List.mem_of_find?_eq_some hi
   have:=List.mem_range.1 this
   exact .inr ⟨by omega,by omega,g⟩
  ·exact .inl rfl
 ·exact .inl rfl
theorem Ex {v:NetV} {x:NetD} (o:dNet.Ow H v x) (h9:allL 66000000 x.2.2.2.2.2.2.1) :
 wp (vcall C frz 37 [dNet.val v x] H) (MadeI H (idled x) (idleAt x)):=by
 have ones:=Qd o
 have ecopy:=fun K (c:Chg H K [])=>Pp (frz:=H.length) (H:=K) (v:=v) (x:=x) (Dt.chg (T:=dNet) o c (by simp))
 have ck:=fun F K (c:Chg H K [])=>Eh (frz:=F) (H:=K) (v:=v) (x:=x) (k:=400) (Dt.chg (T:=dNet) o c (by simp))
 simp only [Qc] at ecopy ck ⊢
 rw [Qb (fn:=Tryz.f37) Tryz.func37 rfl (by kernel_rfl) rfl]
 simp [ones]
 refine Qf (ecopy _ (Chg.app _)) ?_
 rintro _ K ⟨n,rfl,on,cn,mn,dn⟩
 simp at mn
 have qn:=Qd on
 have lK:=cn.1
 simp at lK
 have hF:H.length≤K.length:=by omega
 have ltn:∀i∈dNet.ids n,i<K.length:=fun i hi=>dNet.lt on i hi
 simp [Qc,qn,VM.look,hF]
 obtain ⟨K1,hK1⟩:∃K1,K1=K++[⟨netCells n x,0,57⟩]:=⟨_,rfl⟩
 have c1:Chg K K1 []:=by rw [hK1];exact Chg.app _
 have cK:Chg H K []:=(Chg.app _).trans cn
 have cK1:=cK.trans c1
 have l1:K1.length=K.length+1:=by rw [hK1];simp
 have b1:K1[H.length]? = some ⟨netCells v x,0,57⟩:=Qa (Qa (by simp [netCells]) cn (by simp)) c1 (by simp)
 have bR:K1[H.length+1]? = some ⟨[.int .i64 0,.int .i64 0,.slice none 0 0,.slice none 0 0,.slice none 0 0,.slice none 0 0,.slice none 0 0,.slice none 0 0,.slice none 0 0,.slice none 0 0,.int .i64 0],0,57⟩:=Qa (Qa (by simp) cn (by simp)) c1 (by simp)
 have b3:K1[K.length]? = some ⟨netCells n x,0,57⟩:=by rw [hK1];simp
 have on1:=Dt.chg (T:=dNet) on c1 (by simp)
 have hKs:K++[⟨netCells n x,0,57⟩]=K1:=hK1.symm
 have b1':=b1
 unfold netCells at hKs b1'
 rw [hKs]
 clear hK1 hKs
 have ck':=fun F=>ck F K1 cK1
 have hF1:H.length≤H.length+1:=by omega
 -- what is handed back
 have fin:∀(J:Heap) (w:NetV) (y:NetD) (b:Int),Chg H J []→
  dNet.Ow J w y→(dNet.ids w).Nodup→(∀i∈dNet.ids w,H.length+2≤i)→idled x=y→idleAt x=b→MadeI H (idled x) (idleAt x) (.tuple #[dNet.val w y,.int .i64 b]) (J.set (H.length+1) ⟨netCells w y,0,57⟩):=fun J w y b cJ oJ dJ mJ e1 e2=>by
  rw [e1,e2]
  exact ⟨_,rfl,w,rfl,Dt.chg (T:=dNet) oJ (Qj _ _) (fun i hi hh=>by have:=mJ i hi;simp at hh;omega),cJ.trans' (Qj _ _) (fun i hi=>.inr (by simp at hi;omega)),fun i hi=>by have:=mJ i hi;omega,dJ⟩
 by_cases g0:runs x 400
 rotate_left
 ·obtain ⟨e1,e2⟩:=Uu g0
  have gR:=Qn (r':=⟨netCells n x,0,57⟩) bR
  have hM:=fin K1 n x (-1) cK1 on1 dn (fun i hi=>by have:=mn i hi;omega) e2 e1
  have b3':=b3
  unfold netCells at b3' gR
  simp [VM.look,b1',ones,ck',g0,b3',bR,gR,qn,hF1]
  simpa [Qc,netCells] using hM
 have ht:=g0.1.2.2.2.2.2.2
 have ht2:=g0.2.2
 unfold inR at ht
 have hro:=Yb g0.1
 have ra:=fun i (hi:i≤400)=>Kz (i:=i) hro (V4 g0.1) h9 hi
 simp [VM.look,b1',ones,ck',g0]
 refine Qk (fun q t J=>∃(i:Nat) (w:NetV),q=401-i∧i≤401∧t 1=.pointer (some ⟨H.length,0,some 0⟩)∧t 2=.pointer (some ⟨H.length+1,0,some 0⟩)∧t 4=.pointer (some ⟨K.length,0,some 0⟩)∧t 12=.int .i64 i∧J[K.length]? = some ⟨netCells w (runN x i),0,57⟩∧dNet.Ow J w (runN x i)∧(dNet.ids w).Nodup∧(∀i∈dNet.ids w,H.length+2≤i∧i≠K.length)∧
  J[H.length]? = some ⟨netCells v x,0,57⟩∧
  J[H.length+1]? = some ⟨[.int .i64 0,.int .i64 0,.slice none 0 0,.slice none 0 0,.slice none 0 0,.slice none 0 0,.slice none 0 0,.slice none 0 0,.slice none 0 0,.slice none 0 0,.int .i64 0],0,57⟩∧Chg H J []∧∀j,j<i→¬idle (runN x j)) ?_ (n:=401)
  ⟨0,n,rfl,by omega,by simp,by simp,by simp,by simp,b3,on1,dn,fun i hi=>⟨by have:=mn i hi;omega,by have:=ltn i hi;omega⟩,b1,bR,cK1,by omega⟩
 rintro q t J ⟨i,w,rfl,hi,t1,t2,t4,t12,bJ,oJ,dJ,mJ,bO,bRJ,cJ,hno⟩ ih
 simp [t1,t2,t4,t12]
 refine Qh ?_ ?_<;>intro g
 ·have hi':i<401:=by omega
  obtain ⟨r1,r2,r3,r4⟩:=ra i (by omega)
  have lJ:=Qz bJ
  have ic:=fun F=>Eg (frz:=F) (H:=J) (id:=K.length) (v5:=w.2.2.1) (v8:=w.2.2.2.2.2.1) bJ oJ.2.2.1 oJ.2.2.2.2.2.1
  have oneJ:=Qd oJ
  simp [t1,t2,t4,t12,ic]
  by_cases g1:idle (runN x i)
  ·obtain ⟨e1,e2⟩:=Tn g0 hi' g1 hno
   have gR:=Qn (r':=⟨netCells w (runN x i),0,57⟩) bRJ
   have hM:=fin J w (runN x i) i cJ oJ dJ (fun j hj=>(mJ j hj).1) e2 e1
   have g1':=g1
   unfold idle at g1'
   unfold netCells at bJ gR
   simp [t1,t2,t4,t12,g1',VM.look,bJ,bRJ,gR,oneJ,hF1]
   simpa [Qc,netCells] using hM
  have g1':¬(flits (runN x i).2.2.1=0∧flits (runN x i).2.2.2.2.2.1=0):=g1
  have g1b:(decide (flits (runN x i).2.2.1=0)&&decide (flits (runN x i).2.2.2.2.2.1=0))=false:=by
   rw [← Bool.decide_and];exact decide_eq_false g1'
  have st:=Af (frz:=H.length) (id:=K.length) (tail:=[]) (e:=57) (by simpa using bJ) oJ dJ (fun i hi=>by have:=(mJ i hi).1;omega) hF (fun hh=>(mJ _ hh).2 rfl) cJ.1 r1 r2 r3 (by rw [r4];unfold inR;omega)
  rw [g1b]
  simp [t1,t2,t4,t12]
  refine Qf st ?_
  rintro _ J2 ⟨w2,s1,s2,s3,s4,s5⟩
  rw [List.append_nil] at s1
  simp [t1,t2,t4,t12]
  refine ih (401-(i+1)) _ _ ⟨i+1,w2,rfl,by omega,by simp [t1],by simp [t2],by simp [t4],?_,s1,s2,s3,fun j hj=>?_,Qa bO s5 (fun hh=>?_),Qa bRJ s5 (fun hh=>?_),cJ.trans' s5 (fun j hj=>?_),fun j hj=>?_⟩ (by omega)
  ·simp [t12];rw [w64 (by omega) (by omega)]
  ·rcases s4 j hj with h|h
   ·exact mJ j h
   ·exact ⟨by omega,by omega⟩
  ·rcases List.mem_cons.1 hh with h|h
   ·omega
   ·have:=(mJ _ h).1;omega
  ·rcases List.mem_cons.1 hh with h|h
   ·omega
   ·have:=(mJ _ h).1;omega
  ·right
   rcases List.mem_cons.1 hj with h|h
   ·omega
   ·have:=(mJ _ h).1;omega
  ·by_cases hji:j<i
   ·exact hno j hji
   ·have:j=i:=by omega
    subst this;exact g1
 ·have:i=401:=by omega
  subst this
  obtain ⟨e1,e2⟩:=Zv g0 hno
  have bO':=bO
  unfold netCells at bO'
  simp [t1,t2,t4,t12,VM.look,bO',ones]
  refine Qf (ecopy J cJ) ?_
  rintro _ J2 ⟨n2,rfl,on2,cn2,mn2,dn2⟩
  have qn2:=Qd on2
  have bR2:=Qa bRJ cn2 (by simp)
  have lR:=Qz bRJ
  have gR:=Qn (r':=⟨netCells n2 x,0,57⟩) bR2
  have hM:=fin J2 n2 x (-1) (cJ.trans cn2) on2 dn2 (fun i hi=>by have:=mn2 i hi;omega) e2 e1
  unfold netCells at gR
  simp [Qc,VM.look,t1,t2,bR2,gR,qn2,hF1]
  simpa [Qc,netCells] using hM
theorem Lu {v:NetV} {x:NetD} (o:dNet.Ow H v x) (h9:allL 66000000 x.2.2.2.2.2.2.1) :
 vcall C frz 26 [dNet.val v x] H=some (.int .i64 (idleAt x),H):=by
 refine wp.exact (by simp) ?_ rfl
 have ones:=Qd o
 have hlt:=dNet.lt o
 have nk:=fun F L=>Vi (frz:=F) (H:=H++L) (v:=v) (x:=x) (Dt.app (T:=dNet) o)
 simp only [Qc] at nk ⊢
 rw [Qb (fn:=Tryz.f26) Tryz.func26 rfl (by kernel_rfl) rfl]
 by_cases h1:netOk x
 rotate_left
 ·have e:=(Uu (x:=x) (fun k=>h1 k.1)).1
  simp [ones,VM.look,nk,h1,e]
 have ht:=h1.2.2.2.2.2.2
 unfold inR at ht
 have w1:=@w6 (x.2.2.2.2.2.2.2+400) (by omega)
 by_cases h2:1000000<x.2.2.2.2.2.2.2+400
 ·have e:=(Uu (x:=x) (fun k=>by have:=k.2.2;omega)).1
  simp [ones,VM.look,nk,h1,w1,h2,e]
 have g0:runs x 400:=⟨h1,⟨by omega,by omega⟩,by omega⟩
 have hro:=Yb h1
 have ra:=fun i (hi:i≤400)=>Kz (i:=i) hro (V4 h1) h9 hi
 obtain ⟨G,hG⟩:∃G,G=H++[⟨netCells v x,0,57⟩,⟨netCells v x,0,57⟩]:=⟨_,rfl⟩
 have cG:Chg H G []:=by rw [hG];exact Chg.app _
 have b3:G[H.length+1]? = some ⟨netCells v x,0,57⟩:=by rw [hG];simp
 have hGs:=hG.symm
 unfold netCells at hGs
 simp [ones,VM.look,nk,h1,w1,h2]
 rw [hGs]
 clear hG hGs
 refine Qk (fun q t J=>∃(i:Nat) (w:NetV),q=401-i∧i≤401∧t 3=.pointer (some ⟨H.length+1,0,some 0⟩)∧t 4=.int .i64 i∧J[H.length+1]? = some ⟨netCells w (runN x i),0,57⟩∧dNet.Ow J w (runN x i)∧(∀i∈dNet.ids w,i∈dNet.ids v∨H.length+2≤i)∧
  Chg H J []∧∀j,j<i→¬idle (runN x j)) ?_ (n:=401)
  ⟨0,v,rfl,by omega,by simp,by simp,b3,Dt.chg (T:=dNet) o cG (by simp),fun i hi=>.inl hi,cG,by omega⟩
 rintro q t J ⟨i,w,rfl,hi,t3,t4,bJ,oJ,mJ,cJ,hno⟩ ih
 simp [t3,t4]
 refine Qh ?_ ?_<;>intro g
 ·have hi':i<401:=by omega
  obtain ⟨r1,r2,r3,r4⟩:=ra i (by omega)
  have lJ:=Qz bJ
  have oneJ:=Qd oJ
  have idl:=fun F=>Od (frz:=F) oJ
  simp only [Qc] at idl
  have bJ':=bJ
  unfold netCells at bJ'
  simp [t3,t4,VM.look,bJ',oneJ,idl]
  by_cases g1:idle (runN x i)
  ·obtain ⟨e1,e2⟩:=Tn g0 hi' g1 hno
   simp [t3,t4,g1,e1]
  simp [t3,t4,g1]
  rw [Qo (h:=by kernel_rfl)]
  simp [t3,t4,VM.look,bJ',oneJ]
  have eal:=Mv (frz:=H.length) oJ r1
  simp only [Qc] at eal
  refine Qf eal ?_
  rintro gl J1 ⟨oG,nG,cG1⟩
  have bJ1:=Qa bJ cG1 (by simp)
  have oJ1:=Dt.chg (T:=dNet) oJ cG1 (by simp)
  have lg:=oG.rd.len (P:=Tryz.prog) (ty:=76) (by simp)
  have bJ1':=bJ1
  unfold netCells at bJ1'
  have een:=Uf (frz:=H.length) oJ1 r1
  simp only [Qc] at een
  simp [t3,t4,VM.look,bJ1',oneJ,lg]
  refine Qf een ?_
  rintro el J2 ⟨oE,nE,cE⟩
  have bJ2:=Qa bJ1 cE (by simp)
  have oJ2:=Dt.chg (T:=dNet) oJ1 cE (by simp)
  have le:=oE.rd.len (P:=Tryz.prog) (ty:=26) (by simp)
  rw [List.length_map] at le
  have hA:=Vr (runN x i)
  have hE:=Y9 (runN x i)
  have w2:∀[Inhabited Unit],IntKind.i64.wrap (((allN (runN x i)).length:Int)+((enterN (runN x i)).length:Int))=(((allN (runN x i)).length+(enterN (runN x i)).length:Nat):Int):=by intro _;rw [w64 (by omega) (by omega)];omega
  obtain ⟨S,hS⟩:∃S,S=(allN (runN x i)).length+(enterN (runN x i)).length:=⟨_,rfl⟩
  rw [← hS] at w2
  have bJ2':=bJ2
  unfold netCells at bJ2'
  simp [t3,t4,VM.look,bJ2',oneJ,le,w2]
  by_cases g2:S=0
  ·have hst:still (runN x i):=⟨List.length_eq_zero_iff.1 (by omega),List.length_eq_zero_iff.1 (by omega)⟩
   have e1:=(Zv g0 (fun j hj=>by
    by_cases hji:j<i
    ·exact hno j hji
    ·have h3:=Jb hst (j-i)
     have h4:=O3 x i (j-i)
     rw [show i+(j-i)=j by omega] at h4
     rw [← h4] at h3
     exact fun k=>g1 (h3.1 k))).1
   simp [t3,t4,g2,e1]
  have st:=Pk (frz:=H.length) oJ2 r1 r2 r3 (by rw [r4];unfold inR;omega)
  simp only [Qc] at st
  simp [t3,t4,g2,VM.look,bJ2',oneJ]
  refine Qf st ?_
  rintro _ J3 ⟨w3,rfl,s2,s5,s4,s3⟩
  have one3:=Qd s2
  have bJ3:=Qa bJ2 s5 (by simp)
  have gN:=Qn (r':=⟨netCells w3 (stepN (runN x i)),0,57⟩) bJ3
  have cN:Chg J3 (J3.set (H.length+1) ⟨netCells w3 (stepN (runN x i)),0,57⟩) [H.length+1]:=Qj _ _
  have hF1:H.length≤H.length+1:=by omega
  have l3:=s5.1
  have l1:=cG1.1
  have l2:=cE.1
  have bJ3':=bJ3
  unfold netCells at bJ3'
  simp [Qc,t3,t4,VM.look,bJ3',one3,hF1]
  refine ih (401-(i+1)) _ _ ⟨i+1,w3,rfl,by omega,by simp [t3],?_,gN,Dt.chg (T:=dNet) s2 cN (fun k hk hh=>by have:=s4 k hk;simp at hh;omega),fun k hk=>.inr (by have:=s4 k hk;omega),(((cJ.trans cG1).trans cE).trans s5).trans' cN (fun k hk=>.inr (by simp at hk;omega)),fun j hj=>?_⟩ (by omega)
  ·simp [t4];rw [w64 (by omega) (by omega)]
  ·by_cases hji:j<i
   ·exact hno j hji
   ·have:j=i:=by omega
    subst this;exact g1
 ·have:i=401:=by omega
  subst this
  have e1:=(Zv g0 hno).1
  simp [t3,t4,e1]
theorem Jw {v:NetV} {x:NetD} (o:dNet.Ow H v x) (h9:allL 66000000 x.2.2.2.2.2.2.1) :
 wp (vcall C frz 39 [dNet.val v x] H) (Made2 dNet H (idled x) (decide (0≤idleAt x))):=by
 have ones:=Qd o
 have ecopy:=fun L=>Y0 (frz:=H.length) (H:=H++L) (v:=v) (x:=x) (Dt.app (T:=dNet) o)
 have ss:=fun F L=>Lu (frz:=F) (H:=H++L) (v:=v) (x:=x) (Dt.app (T:=dNet) o) h9
 simp only [Qc] at ecopy ss ⊢
 rw [Qb (fn:=Tryz.f39) Tryz.func39 rfl (by kernel_rfl) rfl]
 have hF1:H.length≤H.length+1:=by omega
 have fin:∀(J:Heap) (w:NetV) (y:NetD) (b:Bool),Chg H J []→
  dNet.Ow J w y→(dNet.ids w).Nodup→(∀i∈dNet.ids w,H.length+2≤i)→idled x=y→decide (0≤idleAt x)=b→Made2 dNet H (idled x) (decide (0≤idleAt x)) (.tuple #[dNet.val w y,.bool b]) (J.set (H.length+1) ⟨netCells w y,0,57⟩):=fun J w y b cJ oJ dJ mJ e1 e2=>by
  rw [e1,e2]
  exact ⟨_,rfl,w,rfl,Dt.chg (T:=dNet) oJ (Qj _ _) (fun i hi hh=>by have:=mJ i hi;simp at hh;omega),cJ.trans' (Qj _ _) (fun i hi=>.inr (by simp at hi;omega)),fun i hi=>by have:=mJ i hi;omega,dJ⟩
 rcases O8 x with g|⟨g1,g2,g0⟩
 ·have ei:idled x=x:=by unfold idled;rw [if_neg (by omega)]
  simp [ones,VM.look,ss,g]
  refine Qf (ecopy _) ?_
  rintro _ K ⟨n,rfl,on,cn,mn,dn⟩
  simp at mn
  have qn:=Qd on
  have bR:K[H.length+1]? = some ⟨[.int .i64 0,.int .i64 0,.slice none 0 0,.slice none 0 0,.slice none 0 0,.slice none 0 0,.slice none 0 0,.slice none 0 0,.slice none 0 0,.slice none 0 0,.int .i64 0],0,57⟩:=Qa (by simp) cn (by simp)
  have gR:=Qn (r':=⟨netCells n x,0,57⟩) bR
  have hM:=fin K n x false ((Chg.app _).trans cn) on dn (fun i hi=>by have:=mn i hi;omega) ei (by rw [g];rfl)
  unfold netCells at gR
  simp [Qc,VM.look,bR,gR,qn,hF1]
  simpa [g,Qc,netCells] using hM
 ·obtain ⟨m,hm⟩:∃m:Nat,idleAt x=m:=⟨(idleAt x).toNat,by omega⟩
  rw [hm] at g1 g2 fin
  have ei:idled x=runN x m:=by unfold idled;rw [hm,if_pos g1,Int.toNat_natCast]
  have ht:=g0.1.2.2.2.2.2.2
  have ht2:=g0.2.2
  unfold inR at ht
  have hro:=Yb g0.1
  rw [hm]
  have hm0:¬(m:Int)<0:=by omega
  simp [ones,VM.look,ss,hm,hm0]
  refine Qf (ecopy _) ?_
  rintro _ K ⟨n,rfl,on,cn,mn,dn⟩
  simp at mn
  have qn:=Qd on
  have rr:=Fq (frz:=H.length) on dn (m:=m) (by omega) hro (V4 g0.1) h9 ht.1 (by omega)
  simp only [Qc] at rr
  have lK:=cn.1
  simp at lK
  simp [Qc,qn]
  refine Qf rr ?_
  rintro _ J ⟨w,rfl,ow,dw,mw,cw⟩
  have onew:=Qd ow
  have cJ:Chg H J []:=((Chg.app _).trans cn).trans cw
  have bR:J[H.length+1]? = some ⟨[.int .i64 0,.int .i64 0,.slice none 0 0,.slice none 0 0,.slice none 0 0,.slice none 0 0,.slice none 0 0,.slice none 0 0,.slice none 0 0,.slice none 0 0,.int .i64 0],0,57⟩:=Qa (Qa (by simp) cn (by simp)) cw (by simp)
  have gR:=Qn (r':=⟨netCells w (runN x m),0,57⟩) bR
  have hM:=fin J w (runN x m) true cJ ow dw (fun i hi=>by
   rcases mw i hi with h|h
   ·have:=mn i h;omega
   ·omega) ei (decide_eq_true g1)
  unfold netCells at gR
  simp [Qc,VM.look,bR,gR,onew,hF1]
  simpa [g1,Qc,netCells] using hM
end Go.Proofs.YtjgochodhiekeaaGreat.V
set_option linter.all false
namespace Go.Proofs.YtjgochodhiekeaaGreat.V
open Go Go.VM Go.Proofs
set_option maxRecDepth 10000
theorem P7 {S:SSD} (hS:∀j,S.getD j []=[]):flits S=0:=by
 unfold flits ahead
 rw [List.take_length]
 have:S.map List.length=List.replicate S.length 0:=by
  apply List.ext_getElem
  ·simp
  ·intro i h1 h2
   have:=hS i
   simp at h1
   rw [Xy h1] at this
   simp [this]
 rw [this];simp
theorem Solo.idle_iff {x:NetD} {p:PkD} {s t c:Nat} {R:Nat→Nat} {L:Nat} (o:Solo x p s t c R L):idle x↔x.2.2.2.2.2.1.getD s []=[]∧∀n,n≤L→x.2.2.1.getD (R n) []=[]:=by
 constructor
 ·intro h
  exact ⟨Xh h.2 s,fun n _=>Xh h.1 (R n)⟩
 ·rintro ⟨h1,h2⟩
  refine ⟨P7 fun j=>?_,P7 fun j=>?_⟩
  ·by_cases e:x.2.2.1.getD j []=[]
   ·exact e
   ·obtain ⟨n,hn,rfl⟩:=o.at' e;exact h2 n hn
  ·by_cases e:x.2.2.2.2.2.1.getD j []=[]
   ·exact e
   ·have:=o.src e;subst this;exact h1
theorem Tc {x:NetD} {p:PkD} {s t c:Nat} {R:Nat→Nat} {L:Nat} (o:Solo x p s t c R L) (h0:∀n,n≤L→x.2.2.1.getD (R n) []=[]) (ht:x.2.2.2.2.2.2.2=0) (hl:0<(x.2.2.2.2.2.1.getD s []).length) {k:Nat} (hk:k≤1000):idle (runN x k)↔L+(x.2.2.2.2.2.1.getD s []).length+1≤k:=by
 obtain ⟨i1,i2,i3⟩:=Rm o h0 ht k hk
 rw [i1.idle_iff,i2]
 generalize x.2.2.2.2.2.1.getD s []=F at *
 constructor
 ·rintro ⟨h1,h2⟩
  have l1:=congrArg List.length h1
  rw [List.length_drop] at l1
  have l1:F.length-k=0:=l1
  have:=h2 (min L (k-1)) (by omega)
  rw [i3 _ (by omega),if_pos (by omega)] at this
  have l2:=congrArg List.length this
  rw [List.length_take,List.length_drop] at l2
  have l2:min 1 (F.length-(k-1-min L (k-1)))=0:=l2
  omega
 ·intro h
  refine ⟨List.drop_of_length_le (by omega),fun n hn=>?_⟩
  rw [i3 n hn]
  split
  ·rw [List.drop_of_length_le (by omega)];rfl
  ·rfl
def solo (m:MeshD) (t:ClassesD) (p:PkD):NetD:=sendNet (netNew m t) p
theorem F4 {m:MeshD} {t:ClassesD} (hc:classesOk m.1 m.2.1 m.2.2 t.1 t.2):netNew m t=(m,t,List.replicate (10*(cnt m.1 m.2.1).toNat) [],List.replicate (10*(cnt m.1 m.2.1).toNat) (-1),List.replicate (5*(cnt m.1 m.2.1).toNat) 0,List.replicate (cnt m.1 m.2.1).toNat [],List.replicate (cnt m.1 m.2.1).toNat [],0):=by
 unfold netNew;rw [if_pos hc]
theorem Kl (n j:Nat):(List.replicate n ([]:List FlitD)).getD j []=[]:=by
 rw [List.getD_eq_getElem?_getD,List.getElem?_replicate]
 split<;>rfl
theorem Zk {m:MeshD} {t:ClassesD} {p:PkD} (hc:classesOk m.1 m.2.1 m.2.2 t.1 t.2) (hp:packetOk m.1 m.2.1 p):sendOk (netNew m t) p∧netOk (solo m t p)∧(solo m t p).1=m∧(solo m t p).2.1=t∧allL 1000 (solo m t p).2.2.2.2.2.2.1:=by
 obtain ⟨hn,e1,_,_⟩:=Ua hc
 have e2:=F4 hc
 have so:sendOk (netNew m t) p:=by
  have h5:=hp.2.2.2.2.2
  unfold inR at h5
  rw [e2]
  refine ⟨hp,?_⟩
  show (((List.replicate (cnt m.1 m.2.1).toNat ([]:List FlitD)).getD p.2.1.toNat []).length:Int)+p.2.2.2.2≤60
  rw [Kl]
  simp;omega
 have hk:=Ga hn p
 have e:sendP (netNew m t) p=sendNet (netNew m t) p:=if_pos ⟨hn,so⟩
 rw [e] at hk
 refine ⟨so,hk.ok,hk.m.trans e1,?_,?_⟩
 ·show (sendNet (netNew m t) p).2.1=t
  rw [hk.t,e2]
 ·show allL 1000 (sendNet (netNew m t) p).2.2.2.2.2.2.1
  rw [hk.a,e2]
  intro l hl
  have hl:l∈List.replicate (cnt m.1 m.2.1).toNat ([]:List FlitD):=hl
  rw [List.eq_of_mem_replicate hl];simp
theorem Jg {m:MeshD} {t:ClassesD} {p:PkD} (hc:classesOk m.1 m.2.1 m.2.2 t.1 t.2) (hp:packetOk m.1 m.2.1 p):∃(s d c:Nat) (R:Nat→Nat) (L:Nat),Solo (solo m t p) p s d c R L∧(∀n,n≤L→(solo m t p).2.2.1.getD (R n) []=[])∧(solo m t p).2.2.2.2.2.2.2=0∧(((solo m t p).2.2.2.2.2.1.getD s []).length:Int)=p.2.2.2.2∧
 (L:Int)=(walk m.1 m.2.1 m.2.2 (if p.2.2.2.1=1 then t.2 else t.1) p.2.1 p.2.2.1).length:=by
 obtain ⟨so,hn,em,et,_⟩:=Zk hc hp
 obtain ⟨hn0,e1,_,_⟩:=Ua hc
 have e2:=F4 hc
 have hp':=hp
 obtain ⟨_,⟨q1,q2⟩,⟨q3,q4⟩,_,q5,q6⟩:=hp'
 unfold inR at q5 q6
 have g0:GoodN (solo m t p) ([]++[p]):=E5 hn0 ⟨fun a ha=>by simp at ha,fun a ha=>by simp at ha⟩ (fun q hq=>by simp at hq) (by rw [e1];exact hp) (Ec hc)
 have tk:tabsOk (stat (solo m t p)):=Vy (x:=stat (solo m t p)) hn.1
 have en:nC (stat (solo m t p))=(cnt m.1 m.2.1).toNat:=by show (cnt (solo m t p).1.1 (solo m t p).1.2.1).toNat=_;rw [em]
 have en':nC (solo m t p)=(cnt m.1 m.2.1).toNat:=en
 obtain ⟨R,L,rt⟩:=Sf tk (s:=p.2.1.toNat) (t:=p.2.2.1.toNat) (c:=p.2.2.2.1.toNat) (by omega) (by omega) (by omega)
 have hb:∀j,(solo m t p).2.2.1.getD j []=[]:=fun j=>by
  have:(solo m t p).2.2.1=(netNew m t).2.2.1:=rfl
  rw [this,e2];exact Kl _ j
 refine ⟨_,_,_,R,L,⟨hn,g0,by rw [em];exact hp,by omega,by omega,by omega,by omega,by omega,by omega,rt,fun n _=>by rw [hb];simp⟩,fun n _=>hb _,?_,?_,?_⟩
 ·have:(solo m t p).2.2.2.2.2.2.2=(netNew m t).2.2.2.2.2.2.2:=rfl
  rw [this,e2]
 ·have:(solo m t p).2.2.2.2.2.1=(netNew m t).2.2.2.2.2.1.set p.2.1.toNat ((netNew m t).2.2.2.2.2.1.getD p.2.1.toNat []++flitsOf (netNew m t).1.1 (netNew m t).1.2.1 p):=rfl
  rw [this,e1,e2]
  show ((((List.replicate (cnt m.1 m.2.1).toNat ([]:List FlitD)).set p.2.1.toNat ((List.replicate (cnt m.1 m.2.1).toNat ([]:List FlitD)).getD p.2.1.toNat []++flitsOf m.1 m.2.1 p)).getD p.2.1.toNat []).length:Int)=_
  rw [Kl,List.getD_eq_getElem?_getD,List.getElem?_set_self (by rw [List.length_replicate];omega)]
  exact U0 hp
 ·have hh:=Gt tk (s:=p.2.1.toNat) (t:=p.2.2.1.toNat) (c:=p.2.2.2.1.toNat) (by omega) (by omega) (by omega) rt
  rw [← hh]
  unfold hop tabC
  have es:((p.2.1.toNat:Nat):Int)=p.2.1:=by omega
  have ed:((p.2.2.1.toNat:Nat):Int)=p.2.2.1:=by omega
  rw [es,ed]
  show ((walk (solo m t p).1.1 (solo m t p).1.2.1 (solo m t p).1.2.2 (if p.2.2.2.1.toNat=1 then (solo m t p).2.1.2 else (solo m t p).2.1.1) p.2.1 p.2.2.1).length:Int)=_
  rw [em,et]
  by_cases e:p.2.2.2.1=1
  ·rw [if_pos e,if_pos (by omega)]
  ·rw [if_neg e,if_neg (by omega)]
theorem Yy {m:MeshD} {t:ClassesD} {p:PkD} (hc:classesOk m.1 m.2.1 m.2.2 t.1 t.2) (hp:packetOk m.1 m.2.1 p):idleAt (solo m t p)=(walk m.1 m.2.1 m.2.2 (if p.2.2.2.1=1 then t.2 else t.1) p.2.1 p.2.2.1).length+p.2.2.2.2+1∧0≤idleAt (solo m t p)∧lacks (idled (solo m t p)) [p]=[]∧netOk (idled (solo m t p)):=by
 obtain ⟨s,d,c,R,L,o,h0,h1,h2,h3⟩:=Jg hc hp
 have hp6:=hp.2.2.2.2.2
 unfold inR at hp6
 have hL:L≤16:=by
  have:=Sk m.1 m.2.1 m.2.2 (if p.2.2.2.1=1 then t.2 else t.1) p.2.1 p.2.2.1
  omega
 have hr:runs (solo m t p) 400:=⟨o.hn,⟨by omega,by omega⟩,by rw [h1];omega⟩
 have hf:(List.range 401).find? (fun i=>decide (idle (runN (solo m t p) i)))=some (L+((solo m t p).2.2.2.2.2.1.getD s []).length+1):=by
  rw [List.find?_range_eq_some]
  refine ⟨?_,List.mem_range.2 (by omega),fun j hj=>?_⟩
  ·rw [decide_eq_true_eq]
   exact (Tc o h0 h1 (by omega) (by omega)).2 (Nat.le_refl _)
  ·simp only [Bool.not_eq_true',decide_eq_false_iff_not]
   intro hi
   have:=(Tc o h0 h1 (by omega) (by omega)).1 hi
   omega
 have hi:idleAt (solo m t p)=((L+((solo m t p).2.2.2.2.2.1.getD s []).length+1:Nat):Int):=by
  unfold idleAt
  rw [if_pos hr,hf]
 have hid:idled (solo m t p)=runN (solo m t p) (L+((solo m t p).2.2.2.2.2.1.getD s []).length+1):=by
  unfold idled
  rw [if_pos (by rw [hi];omega),hi];rfl
 obtain ⟨i1,_,_⟩:=Rm o h0 h1 (L+((solo m t p).2.2.2.2.2.1.getD s []).length+1) (by omega)
 refine ⟨by rw [hi,← h3];omega,by rw [hi];omega,?_,?_⟩
 ·rw [hid]
  exact L3 i1.hn ((Tc o h0 h1 (by omega) (by omega)).2 (Nat.le_refl _)) i1.sent i1.g
 ·rw [hid];exact i1.hn
end Go.Proofs.YtjgochodhiekeaaGreat.V
set_option linter.all false
namespace Go.Proofs.YtjgochodhiekeaaGreat.V
open Go Go.VM Go.Proofs
set_option maxRecDepth 10000
variable {frz:Nat} {H:Heap}
theorem Kb {v:NetV} {x:NetD} {lv:Value} {p:PkD} (hx:netOk x) (so:sendOk x p) (o:dNet.Ow H v x) (hl:Rd pkF H lv [p]) :
 wp (vcall C frz 36 [dNet.val v x,lv] H) (fun u H'=>∃n,u=.tuple #[n,.int .i64 1]∧dNet.Made H (sendNet x p) n H'):=by
 have ones:=Qd o
 have ecopy:=fun L=>Pp (frz:=H.length) (H:=H++L) (v:=v) (x:=x) (Dt.app (T:=dNet) o)
 have nk:=fun F K (c:Chg H K [])=>Nt (frz:=F) (H:=K) (v:=v) (x:=x) (Dt.chg (T:=dNet) o c (by simp))
 simp only [Qc] at ecopy nk ⊢
 rw [Qb (fn:=Tryz.f36) Tryz.func36 rfl (by kernel_rfl) rfl]
 simp [ones]
 refine Qf (ecopy _) ?_
 rintro _ K ⟨n,rfl,on,cn,mn,dn⟩
 simp at mn
 have qn:=Qd on
 have lK:=cn.1
 simp at lK
 have hF:H.length≤K.length:=by omega
 have ltn:∀i∈dNet.ids n,i<K.length:=fun i hi=>dNet.lt on i hi
 simp [Qc,qn,VM.look,hF]
 obtain ⟨K1,hK1⟩:∃K1,K1=K++[⟨netCells n x,0,57⟩]:=⟨_,rfl⟩
 have c1:Chg K K1 []:=by rw [hK1];exact Chg.app _
 have cK:Chg H K []:=(Chg.app _).trans cn
 have cK1:=cK.trans c1
 have l1:K1.length=K.length+1:=by rw [hK1];simp
 have b1:K1[H.length]? = some ⟨netCells v x,0,57⟩:=Qa (Qa (by simp [netCells]) cn (by simp)) c1 (by simp)
 have bR:K1[H.length+1]? = some ⟨zNet0,0,57⟩:=Qa (Qa (by simp [zNet0]) cn (by simp)) c1 (by simp)
 have b3:K1[K.length]? = some ⟨netCells n x,0,57⟩:=by rw [hK1];simp
 have on1:=Dt.chg (T:=dNet) on c1 (by simp)
 have hKs:K++[⟨netCells n x,0,57⟩]=K1:=hK1.symm
 have b1':=b1
 unfold netCells at hKs b1'
 rw [hKs]
 clear hK1 hKs
 have nk':=fun F=>nk F K1 cK1
 have hF1:H.length≤H.length+1:=by omega
 have hl1:=hl.chg cK1 (by simp)
 have lv1:=hl1.len (P:=Tryz.prog) (ty:=33) (by simp)
 simp only [List.length_singleton] at lv1
 have one1:=And.intro hl1.one' hl1.cells
 simp [VM.look,b1',ones,nk',hx,lv1]
 -- what holds behind the send
 refine Qk (fun q t J=>t 4=.pointer (some ⟨H.length+1,0,some 0⟩)∧t 6=.pointer (some ⟨K.length,0,some 0⟩)∧t 21=lv∧t 22=.int .i64 1∧
  ((q=1∧J=K1∧t 7=.int .i64 0∧t 23=.int .i64 0)∨(q=0∧t 7=.int .i64 1∧t 23=.int .i64 1∧∃w:NetV,J[K.length]? = some ⟨netCells w (sendNet x p),0,57⟩∧dNet.Ow J w (sendNet x p)∧(dNet.ids w).Nodup∧(∀i∈dNet.ids w,H.length+2≤i)∧J[H.length+1]? = some ⟨zNet0,0,57⟩∧Chg H J []))) ?_ (n:=1)
  ⟨by simp,by simp,by simp,by simp,.inl ⟨rfl,rfl,by simp,by simp⟩⟩
 rintro q t J ⟨t4,t6,t21,t22,⟨rfl,hJ,t7,t23⟩|⟨rfl,t7,t23,w,bJ,oJ,dJ,mJ,bRJ,cJ⟩⟩ ih
 ·rw [hJ]
  clear hJ
  have q1:=hl1.idx (P:=Tryz.prog) (ty:=33) (e:=38) (by simp) (i:=0) (by omega) (by simp)
  have q2:=hl1.load (P:=Tryz.prog) (e:=38) (by simp) (j:=0) (by simp)
  simp only [Tl,Nat.zero_mul] at q1 q2
  simp at q1 q2
  obtain ⟨p1,p2,p3,p4,p5⟩:=p
  obtain ⟨K2,hK2⟩:∃K2,K2=K1++[⟨[.int .i64 p1,.int .i64 p2,.int .i64 p3,.int .i64 p4,.int .i64 p5],0,38⟩]:=⟨_,rfl⟩
  have c2:Chg K1 K2 []:=by rw [hK2];exact Chg.app _
  have bP:K2[K1.length]? = some ⟨[.int .i64 p1,.int .i64 p2,.int .i64 p3,.int .i64 p4,.int .i64 p5],0,38⟩:=by rw [hK2];simp
  have b32:=Qa b3 c2 (by simp)
  have bR2:=Qa bR c2 (by simp)
  have on2:=Dt.chg (T:=dNet) on1 c2 (by simp)
  have hKs:=hK2.symm
  have hFK1:H.length≤K1.length:=by omega
  have sw:=By (frz:=H.length) (H:=K2) (v:=n) (x:=x) (p:=(p1,p2,p3,p4,p5)) (id:=K.length) (e:=57) (tail:=[]) (by rw [List.append_nil];exact b32) on2 dn (fun i hi=>by have:=mn i hi;omega) (fun hh=>by have:=ltn _ hh;omega) hx.2.1.2.2.2.1 (fun l hl=>(hx.2.2.2.1 l hl).1)
  rw [decide_eq_true so] at sw
  simp only [if_pos so,pkV] at sw
  simp [t4,t6,t7,t21,t22,t23,q1,q2,Ui,hFK1]
  rw [hKs]
  clear hK2 hKs
  try simp [t4,t6,t7,t21,t22,t23,VM.look,bP]
  refine Qf sw ?_
  rintro _ K3 ⟨rfl,hs',o3,d3,i3,c3⟩
  have insrc:=X0 (n:=n)
  have b33:=Qa b32 c3 (fun hh=>by have:=ltn _ (insrc _ hh);omega)
  have bR3:=Qa bR2 c3 (fun hh=>by have:=mn _ (insrc _ hh);omega)
  have l2:=c2.1
  simp [t4,t6,t7,t21,t22,t23]
  refine ih 0 _ _ ⟨by simp [t4],by simp [t6],by simp [t21],by simp [t22],.inr ⟨rfl,by simp;decide,by simp;decide,putSrc n (n.2.2.2.2.2.1.1,hs'),b33,o3,d3,fun i hi=>?_,bR3,((cK1.trans c2).trans' c3 (fun i hi=>.inr (by have:=mn _ (insrc _ hi);omega)))⟩⟩ (by omega)
  rcases i3 i hi with g|g
  ·have:=mn i g;omega
  ·omega
 ·have oneJ:=Qd oJ
  have gR:=Qn (r':=⟨netCells w (sendNet x p),0,57⟩) bRJ
  unfold zNet0 at bRJ
  unfold netCells at bJ gR
  simp [t4,t6,t7,t21,t22,t23,VM.look,bJ,bRJ,gR,oneJ,hF1]
  exact ⟨w,rfl,Dt.chg (T:=dNet) oJ (Qj _ _) (fun j hj hh=>by have:=mJ j hj;simp at hh;omega),cJ.trans' (Qj _ _) (fun j hj=>.inr (by simp at hj;omega)),fun j hj=>by have:=mJ j hj;omega,dJ⟩
theorem Ky {vm:Value} {m:MeshD} {vc:Value×Value} {t:ClassesD} {lv:Value} {p:PkD} (om:dMesh.Ow H vm m) (oc:dClasses.Ow H vc t) (hl:Rd pkF H lv [p]) (hc:classesOk m.1 m.2.1 m.2.2 t.1 t.2) (hp:packetOk m.1 m.2.1 p) :
 vcall C frz 23 [dMesh.val vm m,dClasses.val vc t,lv] H=some (.int .i64 (idleAt (solo m t p)),H):=by
 refine wp.exact (by simp) ?_ rfl
 obtain ⟨s1,s2,s3,s4,s5⟩:=Zk hc hp
 obtain ⟨k1,k2,k3,k4⟩:=Yy hc hp
 have hnn:=(Ua hc).1
 have onm:=Wg om
 have onc:=Qq oc
 obtain ⟨w,h,b⟩:=m
 rw [Qb (fn:=Tryz.f23) Tryz.func23 rfl (by kernel_rfl) rfl]
 obtain ⟨G,hG⟩:∃G,G=H++[⟨[.int .i64 w,.int .i64 h,vm],0,28⟩,⟨[vc.1,vc.2],0,32⟩]:=⟨_,rfl⟩
 have cG:Chg H G []:=by rw [hG];exact Chg.app _
 have bM:G[H.length]? = some ⟨[.int .i64 w,.int .i64 h,vm],0,28⟩:=by rw [hG];simp
 have bC:G[H.length+1]? = some ⟨[vc.1,vc.2],0,32⟩:=by rw [hG];simp
 have lG:G.length=H.length+2:=by rw [hG];simp
 have nn:=Ef (frz:=H.length) (Dt.chg (T:=dMesh) om cG (by simp)) (Dt.chg (T:=dClasses) oc cG (by simp))
 rw [decide_eq_true hc] at nn
 simp only [We,Qy] at nn ⊢
 have hGs:=hG.symm
 simp [onm,onc]
 rw [hGs]
 clear hG hGs
 try simp [VM.look,bM,bC,onm,onc]
 refine Qf nn ?_
 rintro _ K ⟨_,rfl,n,rfl,on,c1,m1,d1⟩
 obtain ⟨x,hx⟩:∃x,x=netNew (w,h,b) t:=⟨_,rfl⟩
 have so:sendOk x p:=by rw [hx];exact s1
 have hxk:netOk x:=by rw [hx];exact hnn
 rw [← hx] at on
 have qn:=Qd on
 have l1:=c1.1
 have hFK:H.length≤K.length:=by omega
 obtain ⟨K1,hK1⟩:∃K1,K1=K++[⟨netCells n x,0,57⟩]:=⟨_,rfl⟩
 have c2:Chg K K1 []:=by rw [hK1];exact Chg.app _
 have cK1:=(cG.trans c1).trans c2
 have bN:K1[K.length]? = some ⟨netCells n x,0,57⟩:=by rw [hK1];simp
 have on1:=Dt.chg (T:=dNet) on c2 (by simp)
 have hl1:=hl.chg cK1 (by simp)
 have hKs:=hK1.symm
 have bN':=bN
 unfold netCells at hKs bN'
 simp [Qc,← hx,qn,hFK]
 rw [hKs]
 clear hK1 hKs
 have sa:=Kb (frz:=H.length) hxk so on1 hl1
 simp only [Qc] at sa
 try simp [VM.look,bN',qn]
 refine Qf sa ?_
 rintro _ K2 ⟨_,rfl,n2,rfl,on2,c3,m3,d3⟩
 obtain ⟨y,hy⟩:∃y,y=solo (w,h,b) t p:=⟨_,rfl⟩
 have ey:sendNet x p=y:=by rw [hy,hx];rfl
 rw [ey] at on2
 have qn2:=Qd on2
 have l3:=c3.1
 have hFK2:H.length≤K2.length:=Nat.le_trans cK1.1 l3
 obtain ⟨K3,hK3⟩:∃K3,K3=K2++[⟨netCells n2 y,0,57⟩]:=⟨_,rfl⟩
 have c4:Chg K2 K3 []:=by rw [hK3];exact Chg.app _
 have bY:K3[K2.length]? = some ⟨netCells n2 y,0,57⟩:=by rw [hK3];simp
 have on3:=Dt.chg (T:=dNet) on2 c4 (by simp)
 have cK3:=(cK1.trans c3).trans c4
 have hl3:=hl.chg cK3 (by simp)
 have ll3:=hl3.len (P:=Tryz.prog) (ty:=33) (by simp)
 simp only [List.length_singleton] at ll3
 have hKs:=hK3.symm
 have bY':=bY
 unfold netCells at hKs bY'
 simp [Qc,ey,qn2,hFK2]
 rw [hKs]
 clear hK3 hKs
 rw [← hy] at k1 k2 k3 k4 s5
 have ti:=Ex (frz:=H.length) on3 (Q0 s5 (by omega))
 simp only [Qc] at ti
 try simp [VM.look,bY',qn2,ll3]
 refine Qf ti ?_
 rintro _ K4 ⟨_,rfl,n4,rfl,on4,c5,m5,d5⟩
 obtain ⟨z,hz⟩:∃z,z=idled y:=⟨_,rfl⟩
 rw [← hz] at on4 k3 k4
 have qn4:=Qd on4
 have l5:=c5.1
 have hFK4:H.length≤K4.length:=Nat.le_trans cK3.1 l5
 obtain ⟨K5,hK5⟩:∃K5,K5=K4++[⟨netCells n4 z,0,57⟩]:=⟨_,rfl⟩
 have c6:Chg K4 K5 []:=by rw [hK5];exact Chg.app _
 have bZ:K5[K4.length]? = some ⟨netCells n4 z,0,57⟩:=by rw [hK5];simp
 have on5:=Dt.chg (T:=dNet) on4 c6 (by simp)
 have cK5:=(cK3.trans c5).trans c6
 have hl5:=hl.chg cK5 (by simp)
 have hKs:=hK5.symm
 have bZ':=bZ
 unfold netCells at hKs bZ'
 have nneg:¬idleAt y<0:=by omega
 simp [Qc,← hz,qn4,hFK4]
 rw [hKs]
 clear hK5 hKs
 have mi:=I8 (frz:=H.length) on5 hl5 (by simp)
 have em:missing z [p]=[]:=by unfold missing;split;exact k3;rfl
 rw [em] at mi
 simp only [Qc] at mi
 simp [nneg,VM.look,bZ',qn4]
 refine Qf mi ?_
 rintro u K6 ⟨ou,mu,c7⟩
 have lu:=ou.rd.isI.len (P:=Tryz.prog) (ty:=26) (by simp)
 simp [lu,hy]
theorem S1 {vm:Value} {m:MeshD} {vc:Value×Value} {t:ClassesD} {p:PkD} (om:dMesh.Ow H vm m) (oc:dClasses.Ow H vc t) (hc:classesOk m.1 m.2.1 m.2.2 t.1 t.2) (hp:packetOk m.1 m.2.1 p) :
 vcall C frz 7 [dMesh.val vm m,dClasses.val vc t,pkV p] H=some (.int .i64 (idleAt (solo m t p)),H):=by
 have dt:∀(F:Nat) (J:Heap) (lv:Value),Chg H J []→Rd pkF J lv [p]→vcall C F 15 [dMesh.val vm m,dClasses.val vc t,lv] J=some (.int .i64 (idleAt (solo m t p)),J):=fun F J lv cJ hl=>by
  refine wp.exact (by simp) ?_ rfl
  have omJ:=Dt.chg (T:=dMesh) om cJ (by simp)
  have ocJ:=Dt.chg (T:=dClasses) oc cJ (by simp)
  have onm:=Wg omJ
  have onc:=Qq ocJ
  have de:=fun F L=>Ky (frz:=F) (H:=J++L) (Dt.app (T:=dMesh) omJ) (Dt.app (T:=dClasses) ocJ) hl.app hc hp
  simp only [We,Qy] at de ⊢
  rw [Qb (fn:=Tryz.f15) Tryz.func15 rfl (by kernel_rfl) rfl]
  simp [onm,onc,VM.look,de]
 refine wp.exact (by simp) ?_ rfl
 have onm:=Wg om
 have onc:=Qq oc
 obtain ⟨p1,p2,p3,p4,p5⟩:=p
 have de:=dt H.length (H++[⟨[.int .i64 m.1,.int .i64 m.2.1,vm],0,28⟩,⟨[vc.1,vc.2],0,32⟩,⟨[.int .i64 p1,.int .i64 p2,.int .i64 p3,.int .i64 p4,.int .i64 p5],0,38⟩,⟨[.int .i64 p1,.int .i64 p2,.int .i64 p3,.int .i64 p4,.int .i64 p5],0,38⟩]) (.slice (some ⟨H.length+3,0,some 0⟩) 1 0) (Chg.app _) (Ow.new (D:=pkF) (k:=3) (xs:=[(p1,p2,p3,p4,p5)]) rfl rfl rfl rfl).rd
 simp only [We,Qy,pkV] at de ⊢
 rw [Qb (fn:=Tryz.f7) Tryz.func7 rfl (by kernel_rfl) rfl]
 simp [onm,onc,VM.look]
 rw [de]
 simp
end Go.Proofs.YtjgochodhiekeaaGreat.V
set_option linter.all false
namespace Go.Proofs.YtjgochodhiekeaaGreat.V
open Go Go.VM Go.Proofs
set_option maxRecDepth 10000
variable {frz:Nat} {H:Heap} {r:Nat} {vb:Value} {code:List Int}
theorem Cur.chg0 {J K:Heap} (c:Cur J r vb code) (h:Chg J K []):Cur K r vb code:=c.chg h (by simp) (by simp)
theorem Sx {α:Type} {D:Fl α} {e:TypeId} {v:Value} {xs:List α} (h:Ow D e H v xs):live1 H v:=by
 rcases h with ⟨rfl,_⟩|⟨id,off,r,rfl,h2,_⟩
 ·trivial
 ·show VM.look H ⟨id,off,some r.gen⟩≠none
  simp [VM.look,h2]
end Go.Proofs.YtjgochodhiekeaaGreat.V
set_option linter.all false
namespace Go.Proofs.YtjgochodhiekeaaGreat.V
open Go Go.VM Go.Proofs
set_option maxRecDepth 10000
variable {frz:Nat} {H:Heap} {vb:Value} {code:List Int}
theorem Ru {vm:Value} {m:MeshD} {vc:Value×Value} {t:ClassesD} {lv:Value} {p:PkD} (om:dMesh.Ow H vm m) (oc:dClasses.Ow H vc t) (hl:Rd pkF H lv [p]) (hc:classesOk m.1 m.2.1 m.2.2 t.1 t.2) (hp:packetOk m.1 m.2.1 p) :
 wp (vcall C frz 25 [dMesh.val vm m,dClasses.val vc t,lv] H) (Made2 dNet H (solo m t p) true):=by
 obtain ⟨s1,s2,s3,s4,s5⟩:=Zk hc hp
 have hnn:=(Ua hc).1
 have onm:=Wg om
 have onc:=Qq oc
 obtain ⟨w,h,b⟩:=m
 rw [Qb (fn:=Tryz.f25) Tryz.func25 rfl (by kernel_rfl) rfl]
 obtain ⟨G,hG⟩:∃G,G=H++[⟨[.int .i64 w,.int .i64 h,vm],0,28⟩,⟨[vc.1,vc.2],0,32⟩,⟨zNet0,0,57⟩]:=⟨_,rfl⟩
 have cG:Chg H G []:=by rw [hG];exact Chg.app _
 have bM:G[H.length]? = some ⟨[.int .i64 w,.int .i64 h,vm],0,28⟩:=by rw [hG];simp
 have bC:G[H.length+1]? = some ⟨[vc.1,vc.2],0,32⟩:=by rw [hG];simp
 have bR:G[H.length+2]? = some ⟨zNet0,0,57⟩:=by rw [hG];simp
 have lG:G.length=H.length+3:=by rw [hG];simp
 have nn:=Gj (frz:=H.length) (Dt.chg (T:=dMesh) om cG (by simp)) (Dt.chg (T:=dClasses) oc cG (by simp))
 rw [decide_eq_true hc] at nn
 simp only [We,Qy] at nn ⊢
 have hGs:=hG.symm
 unfold zNet0 at hGs
 simp [onm,onc]
 rw [hGs]
 clear hG hGs
 try simp [VM.look,bM,bC,onm,onc]
 refine Qf nn ?_
 rintro _ K ⟨_,rfl,n,rfl,on,c1,m1,d1⟩
 obtain ⟨x,hx⟩:∃x,x=netNew (w,h,b) t:=⟨_,rfl⟩
 have so:sendOk x p:=by rw [hx];exact s1
 have hxk:netOk x:=by rw [hx];exact hnn
 rw [← hx] at on
 have qn:=Qd on
 have l1:=c1.1
 have hFK:H.length≤K.length:=by omega
 obtain ⟨K1,hK1⟩:∃K1,K1=K++[⟨netCells n x,0,57⟩]:=⟨_,rfl⟩
 have c2:Chg K K1 []:=by rw [hK1];exact Chg.app _
 have l2:K1.length=K.length+1:=by rw [hK1];simp
 have cK1:=(cG.trans c1).trans c2
 have bN:K1[K.length]? = some ⟨netCells n x,0,57⟩:=by rw [hK1];simp
 have bR:=Qa (Qa bR c1 (by simp)) c2 (by simp)
 have on1:=Dt.chg (T:=dNet) on c2 (by simp)
 have hl1:=hl.chg cK1 (by simp)
 have hKs:=hK1.symm
 have bN':=bN
 unfold netCells at hKs bN'
 simp [Qc,← hx,qn,hFK]
 rw [hKs]
 clear hK1 hKs
 have sa:=Kc (frz:=H.length) hxk on1 hl1 (by simp)
 have e1:([p]:List PkD).foldl sendP x=solo (w,h,b) t p:=by
  show sendP x p=_
  rw [hx]
  exact if_pos ⟨hnn,s1⟩
 have e2:cnS x [p] ([p]:List PkD).length=1:=by
  show 0+(if netOk x∧sendOk x p then 1 else 0)=1
  rw [if_pos ⟨hxk,so⟩]
 rw [e1,e2] at sa
 simp only [Qc] at sa
 try simp [VM.look,bN',qn]
 refine Qf sa ?_
 rintro _ K2 ⟨_,rfl,n2,rfl,on2,c3,m3,d3⟩
 obtain ⟨y,hy⟩:∃y,y=solo (w,h,b) t p:=⟨_,rfl⟩
 rw [← hy] at on2
 have qn2:=Qd on2
 have l3:=c3.1
 have bN2:=Qa bN c3 (by simp)
 have bR2:=Qa bR c3 (by simp)
 have lt2:∀i∈dNet.ids n2,i<K2.length:=fun i hi=>dNet.lt on2 i hi
 have gN:=Qn (r':=⟨netCells n2 y,0,57⟩) bN2
 have c4:Chg K2 (K2.set K.length ⟨netCells n2 y,0,57⟩) [K.length]:=Qj _ _
 obtain ⟨K3,hK3⟩:∃K3,K3=K2.set K.length ⟨netCells n2 y,0,57⟩:=⟨_,rfl⟩
 rw [← hK3] at gN c4
 have bR3:=Qa bR2 c4 (by simp;omega)
 have on3:=Dt.chg (T:=dNet) on2 c4 (fun i hi hh=>by have:=m3 i hi;simp at hh;omega)
 have cK3:Chg H K3 []:=(cK1.trans c3).trans' c4 (fun i hi=>.inr (by simp at hi;omega))
 have hl3:=hl.chg cK3 (by simp)
 have ll3:=hl3.len (P:=Tryz.prog) (ty:=33) (by simp)
 simp only [List.length_singleton] at ll3
 have gR:=Qn (r':=⟨netCells n2 y,0,57⟩) bR3
 have c5:Chg K3 (K3.set (H.length+2) ⟨netCells n2 y,0,57⟩) [H.length+2]:=Qj _ _
 have hM:Made2 dNet H (solo (w,h,b) t p) true (.tuple #[dNet.val n2 y,.bool true]) (K3.set (H.length+2) ⟨netCells n2 y,0,57⟩):=by
  rw [← hy]
  exact ⟨_,rfl,n2,rfl,Dt.chg (T:=dNet) on3 c5 (fun i hi hh=>by have:=m3 i hi;simp at hh;omega),cK3.trans' c5 (fun i hi=>.inr (by simp at hi;omega)),fun i hi=>by have:=m3 i hi;omega,d3⟩
 have hKs:=hK3.symm
 have bN2':=bN2
 unfold zNet0 at bR3
 unfold netCells at hKs bN2' gN gR hM
 simp only [Qc] at hM
 have hF2:H.length≤H.length+2:=by omega
 simp [Qc,← hy,qn2,VM.look,bN2',hFK]
 rw [hKs]
 clear hK3 hKs
 simp [VM.look,gN,qn2,ll3,bR3,gR,hF2]
 rw [← hy] at hM
 exact hM
theorem Ly {vm:Value} {m:MeshD} {vc:Value×Value} {t:ClassesD} {lv:Value} {p:PkD} (om:dMesh.Ow H vm m) (oc:dClasses.Ow H vc t) (hl:Rd pkF H lv [p]) (hc:classesOk m.1 m.2.1 m.2.2 t.1 t.2) (hp:packetOk m.1 m.2.1 p) :
 vcall C frz 24 [dMesh.val vm m,dClasses.val vc t,lv] H=some (.bool true,H):=by
 refine wp.exact (by simp) ?_ rfl
 obtain ⟨s1,s2,s3,s4,s5⟩:=Zk hc hp
 obtain ⟨k1,k2,k3,k4⟩:=Yy hc hp
 have onm:=Wg om
 have onc:=Qq oc
 obtain ⟨w,h,b⟩:=m
 rw [Qb (fn:=Tryz.f24) Tryz.func24 rfl (by kernel_rfl) rfl]
 obtain ⟨G,hG⟩:∃G,G=H++[⟨[.int .i64 w,.int .i64 h,vm],0,28⟩,⟨[vc.1,vc.2],0,32⟩]:=⟨_,rfl⟩
 have cG:Chg H G []:=by rw [hG];exact Chg.app _
 have bM:G[H.length]? = some ⟨[.int .i64 w,.int .i64 h,vm],0,28⟩:=by rw [hG];simp
 have bC:G[H.length+1]? = some ⟨[vc.1,vc.2],0,32⟩:=by rw [hG];simp
 have nn:=Ru (frz:=H.length) (Dt.chg (T:=dMesh) om cG (by simp)) (Dt.chg (T:=dClasses) oc cG (by simp)) (hl.chg cG (by simp)) hc hp
 simp only [We,Qy] at nn ⊢
 have hGs:=hG.symm
 simp [onm,onc]
 rw [hGs]
 clear hG hGs
 try simp [VM.look,bM,bC,onm,onc]
 refine Qf nn ?_
 rintro _ K2 ⟨_,rfl,n2,rfl,on2,c3,m3,d3⟩
 obtain ⟨y,hy⟩:∃y,y=solo (w,h,b) t p:=⟨_,rfl⟩
 rw [← hy] at on2 k1 k2 k3 k4 s5
 have qn2:=Qd on2
 have l3:=c3.1
 have hFK2:H.length≤K2.length:=Nat.le_trans cG.1 l3
 obtain ⟨K3,hK3⟩:∃K3,K3=K2++[⟨netCells n2 y,0,57⟩]:=⟨_,rfl⟩
 have c4:Chg K2 K3 []:=by rw [hK3];exact Chg.app _
 have bY:K3[K2.length]? = some ⟨netCells n2 y,0,57⟩:=by rw [hK3];simp
 have on3:=Dt.chg (T:=dNet) on2 c4 (by simp)
 have cK3:=(cG.trans c3).trans c4
 have hKs:=hK3.symm
 have bY':=bY
 unfold netCells at hKs bY'
 simp [Qc,← hy,qn2,hFK2]
 rw [hKs]
 clear hK3 hKs
 have ti:=Jw (frz:=H.length) on3 (Q0 s5 (by omega))
 rw [decide_eq_true k2] at ti
 simp only [Qc] at ti
 try simp [VM.look,bY',qn2]
 refine Qf ti ?_
 rintro _ K4 ⟨_,rfl,n4,rfl,on4,c5,m5,d5⟩
 obtain ⟨z,hz⟩:∃z,z=idled y:=⟨_,rfl⟩
 rw [← hz] at on4 k3 k4
 have qn4:=Qd on4
 have l5:=c5.1
 have hFK4:H.length≤K4.length:=Nat.le_trans cK3.1 l5
 obtain ⟨K5,hK5⟩:∃K5,K5=K4++[⟨netCells n4 z,0,57⟩]:=⟨_,rfl⟩
 have c6:Chg K4 K5 []:=by rw [hK5];exact Chg.app _
 have bZ:K5[K4.length]? = some ⟨netCells n4 z,0,57⟩:=by rw [hK5];simp
 have on5:=Dt.chg (T:=dNet) on4 c6 (by simp)
 have cK5:=(cK3.trans c5).trans c6
 have hl5:=hl.chg cK5 (by simp)
 have hKs:=hK5.symm
 have bZ':=bZ
 unfold netCells at hKs bZ'
 simp [Qc,← hz,qn4,hFK4]
 rw [hKs]
 clear hK5 hKs
 have mi:=Lz (frz:=H.length) on5 hl5 (by simp)
 have em:missing z [p]=[]:=by unfold missing;split;exact k3;rfl
 rw [em] at mi
 simp only [Qc] at mi
 try simp [VM.look,bZ',qn4]
 refine Qf mi ?_
 rintro u K6 ⟨ou,mu,c7⟩
 have lu:=ou.rd.isI.len (P:=Tryz.prog) (ty:=26) (by simp)
 simp [lu]
theorem Le {vm:Value} {m:MeshD} {vc:Value×Value} {t:ClassesD} {p:PkD} (om:dMesh.Ow H vm m) (oc:dClasses.Ow H vc t) (hc:classesOk m.1 m.2.1 m.2.2 t.1 t.2) (hp:packetOk m.1 m.2.1 p) :
 vcall C frz 8 [dMesh.val vm m,dClasses.val vc t,pkV p] H=some (.int .i64 (idleAt (solo m t p)),H):=by
 obtain ⟨s1,s2,s3,s4,s5⟩:=Zk hc hp
 have dt:∀(F:Nat) (J:Heap) (lv:Value),Chg H J []→Rd pkF J lv [p]→vcall C F 16 [dMesh.val vm m,dClasses.val vc t,lv] J=some (.int .i64 (idleAt (solo m t p)),J):=fun F J lv cJ hl=>by
  refine wp.exact (by simp) ?_ rfl
  have omJ:=Dt.chg (T:=dMesh) om cJ (by simp)
  have ocJ:=Dt.chg (T:=dClasses) oc cJ (by simp)
  have onm:=Wg omJ
  have onc:=Qq ocJ
  obtain ⟨G,hG⟩:∃G,G=J++[⟨[.int .i64 m.1,.int .i64 m.2.1,vm],0,28⟩,⟨[vc.1,vc.2],0,32⟩]:=⟨_,rfl⟩
  have cG:Chg J G []:=by rw [hG];exact Chg.app _
  have bM:G[J.length]? = some ⟨[.int .i64 m.1,.int .i64 m.2.1,vm],0,28⟩:=by rw [hG];simp
  have bC:G[J.length+1]? = some ⟨[vc.1,vc.2],0,32⟩:=by rw [hG];simp
  have de:=fun F=>Ly (frz:=F) (Dt.chg (T:=dMesh) omJ cG (by simp)) (Dt.chg (T:=dClasses) ocJ cG (by simp)) (hl.chg cG (by simp)) hc hp
  have nn:=Ru (frz:=J.length) (Dt.chg (T:=dMesh) omJ cG (by simp)) (Dt.chg (T:=dClasses) ocJ cG (by simp)) (hl.chg cG (by simp)) hc hp
  simp only [We,Qy] at de nn ⊢
  rw [Qb (fn:=Tryz.f16) Tryz.func16 rfl (by kernel_rfl) rfl]
  have hGs:=hG.symm
  simp [onm,onc]
  rw [hGs]
  clear hG hGs
  simp [VM.look,bM,bC,onm,onc,de]
  refine Qf nn ?_
  rintro _ K2 ⟨_,rfl,n2,rfl,on2,c3,m3,d3⟩
  obtain ⟨y,hy⟩:∃y,y=solo m t p:=⟨_,rfl⟩
  rw [← hy] at on2
  have s5':=s5
  rw [← hy] at s5'
  have qn2:=Qd on2
  have hFK2:J.length≤K2.length:=Nat.le_trans cG.1 c3.1
  obtain ⟨K3,hK3⟩:∃K3,K3=K2++[⟨netCells n2 y,0,57⟩]:=⟨_,rfl⟩
  have c4:Chg K2 K3 []:=by rw [hK3];exact Chg.app _
  have bY:K3[K2.length]? = some ⟨netCells n2 y,0,57⟩:=by rw [hK3];simp
  have on3:=Dt.chg (T:=dNet) on2 c4 (by simp)
  have st:=fun F=>Lu (frz:=F) on3 (Q0 s5' (by omega))
  have hKs:=hK3.symm
  have bY':=bY
  unfold netCells at hKs bY'
  simp only [Qc] at st
  simp [Qc,← hy,qn2,hFK2]
  rw [hKs]
  clear hK3 hKs
  simp [VM.look,bY',qn2,st]
 refine wp.exact (by simp) ?_ rfl
 have onm:=Wg om
 have onc:=Qq oc
 obtain ⟨p1,p2,p3,p4,p5⟩:=p
 have de:=dt H.length (H++[⟨[.int .i64 m.1,.int .i64 m.2.1,vm],0,28⟩,⟨[vc.1,vc.2],0,32⟩,⟨[.int .i64 p1,.int .i64 p2,.int .i64 p3,.int .i64 p4,.int .i64 p5],0,38⟩,⟨[.int .i64 p1,.int .i64 p2,.int .i64 p3,.int .i64 p4,.int .i64 p5],0,38⟩]) (.slice (some ⟨H.length+3,0,some 0⟩) 1 0) (Chg.app _) (Ow.new (D:=pkF) (k:=3) (xs:=[(p1,p2,p3,p4,p5)]) rfl rfl rfl rfl).rd
 simp only [We,Qy,pkV] at de ⊢
 rw [Qb (fn:=Tryz.f8) Tryz.func8 rfl (by kernel_rfl) rfl]
 simp [onm,onc,VM.look]
 rw [de]
 simp
end Go.Proofs.YtjgochodhiekeaaGreat.V
