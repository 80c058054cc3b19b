/- Texts of a proof, joined. -/
import Derived.Test.YtlhaeingdonaeaaGreatKM0
import Derived.Test.YtlhaeingdonaeaaGreatKM1
import Derived.Test.YtlhaeingdonaeaaGreatKFnExactRunActs0
import Derived.Test.YtlhaeingdonaeaaGreatKFnExactRunActs1
set_option linter.all false
namespace Go.Proofs.YtlhaeingdonaeaaGreat.V
open Go Go.VM Go.Proofs
set_option maxRecDepth 10000
variable {frz:Nat} {H:Qd} {v:Value} {xs:List Int}
theorem ji {p:Int→Bool} {l:List Int} (h:l.any p=false):l.filter (fun x=>!p x)=l:=by
 rw [List.filter_eq_self]
 intro x hx
 cases hp:p x with
 | false=>rfl
 | true=>rw [List.any_eq_true.2 ⟨x,hx,hp⟩] at h;cases h
theorem qh {p:Int→Bool} {b:List Int} (h:b.any p=true):∃i:Nat,O6 p b=i∧i<b.length∧(∀x∈b.take i,p x=false)∧∀(hi:i<b.length),p b[i]=true:=by
 have hl:b.findIdx p<b.length:=by
  obtain ⟨x,hx,hp⟩:=List.any_eq_true.1 h
  exact List.findIdx_lt_length_of_exists ⟨x,hx,hp⟩
 refine ⟨b.findIdx p,by rw [O6,if_pos h],hl,fun x hx=>?_,fun hi=>List.findIdx_getElem⟩
 obtain ⟨j,hj,rfl⟩:=List.mem_iff_getElem.1 hx
 rw [List.length_take] at hj
 rw [List.getElem_take]
 have:=List.not_of_lt_findIdx (p:=p) (xs:=b) (i:=j) (by omega)
 simpa using this
theorem Ak (v f:Value) (p:Int→Bool) (xs:List Int) (h:Ow Fl.int 3 H v xs) (hl:xs.length≤1073741824) (hf:∀i∈ids v,frz≤i)
 (hc:∀K,Qp H K (ids v)→∀F,∀x∈xs,yg (Qh C F) f [.int .i64 x] K=some (.bool (p x),K)) :
 wp (Qh C frz 243 [v,f] H) (fun u H'=>Ow Fl.int 3 H' u (xs.filter fun x=>!p x)∧(∀i∈ids u,i∈ids v)∧Qp H H' (ids v)):=by
 rw [Qb (fn:=Tryz.f243) Tryz.func243 rfl (by kernel_rfl) rfl]
 have ix:=fun F=>zi (frz:=F) v f p xs h.rd.isI hl (fun x hx=>hc H (Qp.refl _) _ x hx)
 simp [ix]
 by_cases g0:xs.any p=true
 rotate_left
 ·have g0':xs.any p=false:=by simpa using g0
  have e:O6 p xs=-1:=by rw [O6,if_neg g0]
  simp [e]
  rw [ji g0']
  exact ⟨h,Qp.refl _⟩
 obtain ⟨k0,e,hk0,hb,hat⟩:=qh g0
 have e':¬((k0:Int)=-1):=by omega
 have w1:∀[Inhabited Unit],IntKind.i64.wrap ((k0:Int)+1)=((k0+1:Nat):Int):=by intro _;rw [Q0 (by omega) (by omega)];omega
 have f0:(xs.take (k0+1)).filter (fun x=>!p x)=xs.take k0:=by
  rw [List.take_succ_eq_append_getElem hk0,List.filter_append,List.filter_eq_self.2 (fun x hx=>by rw [hb x hx];rfl)]
  simp [hat hk0]
 simp [e,e']
 refine Qw (fun n t H'=>∃(k j:Nat) (ys:List Int),n=xs.length-j∧j≤xs.length∧k<j∧t 0=v∧t 1=f∧t 5=.int .i64 k∧t 6=.int .i64 j∧ys.length=xs.length∧ys.take k=(xs.take j).filter (fun x=>!p x)∧(∀m,j≤m→G ys m=G xs m)∧
  Ow Fl.int 3 H' v ys∧Qp H H' (ids v)) ?_ (n:=xs.length-(k0+1))
  ⟨k0,k0+1,xs,rfl,by omega,by omega,by simp,by simp,by simp,by simp [w1],rfl,f0.symm,fun m hm=>rfl,h,Qp.refl _⟩
 rintro n t H' ⟨k,j,ys,rfl,hj,hk,t0,t1,t5,t6,hlen,htk,hG,o,ch⟩ ih
 have lz:=o.rd.len (P:=Tryz.prog) (ty:=24) (by simp)
 simp [t0,t1,t5,t6,lz,hlen]
 refine Qm ?_ ?_<;>intro g
 ·have hj':j<xs.length:=by omega
  have hjy:j<ys.length:=by omega
  have hkl:k<ys.length:=by omega
  have e3:∀[Inhabited Unit],IntKind.i64.wrap ((j:Int)+1)=((j+1:Nat):Int):=by intro _;rw [Q0 (by omega) (by omega)];omega
  have e4:∀[Inhabited Unit],IntKind.i64.wrap ((k:Int)+1)=((k+1:Nat):Int):=by intro _;rw [Q0 (by omega) (by omega)];omega
  have hGx:G xs j=xs[j]:=Iy hj'
  have cl:=fun F=>hc H' ch F (G xs j) (by rw [hGx];exact List.getElem_mem hj')
  have hts:(xs.take (j+1)).filter (fun x=>!p x)=(xs.take j).filter (fun x=>!p x)++(if p (G xs j)=true then [] else [G xs j]):=by
   rw [List.take_succ_eq_append_getElem hj',List.filter_append,hGx]
   cases hpj:p xs[j]<;>simp [hpj]
  generalize hX:G xs j=X at *
  simp [t0,t1,t5,t6,W0 o hjy,W2 o hjy,hG j (Nat.le_refl _),hX,cl]
  cases hp:p X with
  | true=>
   rw [if_pos hp] at hts
   simp [t0,t1,t5,t6]
   refine ih (xs.length-(j+1)) _ _ ⟨k,j+1,ys,rfl,by omega,by omega,by simp [t0],by simp [t1],by simp [t5],by simp [e3],hlen,by rw [hts,List.append_nil];exact htk,fun m hm=>hG m (by omega),o,ch⟩ (by omega)
  | false=>
   rw [if_neg (by rw [hp];simp)] at hts
   obtain ⟨H2,s2,o2,c2,l2⟩:=o.put1 (P:=Tryz.prog) (frz:=frz) rfl (et:=3) (ag:=false) (by simp) hkl (x:=.int .i64 X) (y:=X) rfl rfl rfl hf
   simp [t0,t1,t5,t6,W0 o hkl,s2]
   refine ih (xs.length-(j+1)) _ _ ⟨k+1,j+1,ys.set k X,rfl,by omega,by omega,by simp [t0],by simp [t1],by simp [e4],by simp [e3],by simp [hlen],?_,fun m hm=>?_,o2,ch.trans c2⟩ (by omega)
   ·rw [hts,← htk,List.take_succ_eq_append_getElem (by simpa using hkl),List.getElem_set_self]
    simp [List.take_set_of_le]
   ·have hmk:m≠k:=by omega
    have:G (ys.set k X) m=G ys m:=by simp [G,List.getD_eq_getElem?_getD,List.getElem?_set_ne (Ne.symm hmk)]
    rw [this];exact hG m (by omega)
 ·have hjl:j=xs.length:=by omega
  have hkl:k≤ys.length:=by omega
  have hn:0<ys.length:=by omega
  obtain ⟨y,hy⟩:=Qiw o hn (l:=k) hkl
  obtain ⟨y1,_,_⟩:=hy H' ys o rfl
  obtain ⟨H2,zs,cl,zl,zt,oz2,c2⟩:=Qd9 o hn hkl y1 hf
  obtain ⟨q,q1,q2,q3⟩:=oz2.slice (P:=Tryz.prog) (ty:=24) (lo:=none) (hi:=some (.int .i64 (k:Int))) (l:=0) (u:=k) (by simp) rfl rfl (Nat.zero_le _) (by omega)
  simp [t0,t1,t5,t6,y1,cl,q1]
  simp only [List.drop_zero,Nat.sub_zero,zt,htk,hjl,List.take_length] at q2
  exact ⟨q2,by rw [q3];exact fun i hi=>hi,ch.trans c2⟩
end Go.Proofs.YtlhaeingdonaeaaGreat.V
set_option linter.all false
namespace Go.Proofs.YtlhaeingdonaeaaGreat.V
open Go Go.VM Go.Proofs
set_option maxRecDepth 10000
variable {frz:Nat} {H:Qd}
theorem yo {v:Wo} {x:Qu} {a i:Nat} (o':Qe.Ow H v x) (hx:Zq x) (ha:(a:Int)<cnt x.1.1 x.1.2.1) (hi:i<10) :
 Qh C frz 213 [Qe.val v x,.int .i64 a,.int .i64 i] H=some (.int .i64 (Vf x a i),H):=by
 refine wp.exact (by simp) ?_ rfl
 have ones:=Qr o'
 have cr:=Qz x.1.1 x.1.2.1
 simp only [Qk]
 rw [Qb (fn:=Tryz.f213) Tryz.func213 rfl (by kernel_rfl) rfl]
 obtain ⟨d,hd⟩:∃d,d=10*a+i:=⟨_,rfl⟩
 obtain ⟨c,hc⟩:∃c,c=i%2:=⟨_,rfl⟩
 obtain ⟨q,hq⟩:∃q,q=i/2:=⟨_,rfl⟩
 generalize hY:Vf x a i=Y
 unfold Vf at hY
 rw [← hd,← hc,← hq] at hY
 have e1:=@w6 (10*(a:Int)) (by omega)
 have e2:∀[Inhabited Unit],IntKind.i64.wrap (10*(a:Int)+(i:Int))=(d:Int):=by intro _;rw [Q0 (by omega) (by omega)];omega
 have e3:∀[Inhabited Unit],(i:Int).tmod 2=(c:Int):=by intro _;rw [Mj];omega
 have e3':∀[Inhabited Unit],(i:Int)%2=(c:Int):=by intro _;omega
 have e4:∀[Inhabited Unit],IntKind.i64.wrap ((i:Int)/2)=(q:Int):=by intro _;rw [Q0 (by omega) (by omega)];omega
 obtain ⟨G,hG⟩:∃G,G=H++[⟨Qc v x,0,48⟩]:=⟨_,rfl⟩
 have o:Qe.Ow G v x:=hG▸Dt.app (T:=Qe) o'
 have hr:G[H.length]? = some ⟨Qc v x,0,48⟩:=by rw [hG];simp
 have hGs:H++[⟨Qc v x,0,48⟩]=G:=hG.symm
 unfold Qc at hr hGs
 have hl:d<x.2.2.1.length:=by have:=hx.2.1.1;omega
 obtain ⟨u,a1,a2,a3,a4⟩:=Xi o.2.2.1.1.rd (ty:=46) (e:=145) (by simp) (by simp) hl
 have la:=a4.len (P:=Tryz.prog) (ty:=145) (by simp)
 have hgd:x.2.2.1.getD d []=x.2.2.1[d]:=by simp [List.getD_eq_getElem?_getD,hl]
 have hho:Yn x d=Zx x.2.2.1[d]:=by unfold Yn;rw [hgd]
 have qa:VM.one u=true∧u.cells=#[u]:=⟨a4.one',a4.cells⟩
 simp [ones]
 rw [hGs]
 simp [VM.look,hr,ones,e1,e2,e3,e3',a2,a3,la]
 rw [hgd,hho] at hY
 by_cases g0:x.2.2.1[d]=[]
 ·rw [if_pos g0] at hY
  simp [g0,hY]
 rw [if_neg g0] at hY
 have g0':¬(x.2.2.1[d].length:Int)=0:=by
  have:=List.length_pos_iff.2 g0;omega
 have g0n:¬x.2.2.1[d].length=0:=by omega
 obtain ⟨z0,f1,f2,f3,c1,c2,c3,_⟩:=front a4 g0
 obtain ⟨k1,k2⟩:=hx.2.2.1 d _ (by rw [hgd];exact N0 g0)
 generalize Zx x.2.2.1[d]=f at *
 simp [-Qy,Wr,g0',g0n,g0,z0,f3,c3]
 by_cases g1:f.2.2.2.1=true
 ·rw [if_pos g1] at hY
  simp only [g1]
  have ha':Y6 x.1.1 x.1.2.1 a:=⟨by omega,ha⟩
  obtain ⟨k0,k0',k3,k4⟩:=O1 ha' k2.1
  obtain ⟨N,hN⟩:∃N,N=cnt x.1.1 x.1.2.1:=⟨_,rfl⟩
  have e5:∀[Inhabited Unit],IntKind.i64.wrap ((a:Int)*N)=a*N:=by intro _;rw [hN];exact Q0 (by omega) (by omega)
  have e6:∀[Inhabited Unit],IntKind.i64.wrap ((a:Int)*N+f.2.1)=a*N+f.2.1:=by intro _;rw [hN];exact Q0 (by omega) (by have:=k2.1.2;omega)
  have nc:=fun F=>W8 (frz:=F) (H:=G) x.1.1 x.1.2.1
  rw [← hN] at nc
  simp [VM.look,hr,ones,nc]
  by_cases g2:c=1
  ·rw [if_pos g2] at hY
   have hT:=Rd.isI o.2.1.2.1.rd
   have hs:=hx.1.2.1.2
   have q1:Q6 Tryz.prog G 24 v.2.1.2 (.int .i64 (a*N+f.2.1))=some (Yi v.2.1.2 (a*N+f.2.1).toNat):=by rw [hN];exact hT.idx (e:=3) (by simp) k0 (by omega)
   have q2:Xh Tryz.prog G 3 (Yi v.2.1.2 (a*N+f.2.1).toNat)=some (.int .i64 Y):=by rw [← hY];unfold Xm rd;rw [hN];exact hT.load (by simp) (by omega)
   subst g2
   simp
   rw [Qv (h:=by kernel_rfl)]
   simp [-Qy,Wr,VM.look,hr,ones,e5,e6,z0,f1,c1,q1,q2]
  ·rw [if_neg g2] at hY
   have hT:=Rd.isI o.2.1.1.1.rd
   have hs:=hx.1.1.1.2
   have q1:Q6 Tryz.prog G 24 v.2.1.1 (.int .i64 (a*N+f.2.1))=some (Yi v.2.1.1 (a*N+f.2.1).toNat):=by rw [hN];exact hT.idx (e:=3) (by simp) k0 (by omega)
   have q2:Xh Tryz.prog G 3 (Yi v.2.1.1 (a*N+f.2.1).toNat)=some (.int .i64 Y):=by rw [← hY];unfold Xm rd;rw [hN];exact hT.load (by simp) (by omega)
   have g2':¬(c:Int)=1:=by omega
   simp [g2,g2']
   rw [Qv (h:=by kernel_rfl)]
   simp [-Qy,Wr,VM.look,hr,ones,e5,e6,z0,f1,c1,q1,q2]
 ·rw [if_neg g1] at hY
  simp only [g1]
  simp
  refine Qw (fun n t H'=>∃p:Nat,n=5-p∧p≤5∧t 1=.int .i64 a∧t 2=.int .i64 i∧t 3=.pointer (some ⟨H.length,0,some 0⟩)∧t 8=.int .i64 c∧t 10=.int .i64 p∧H'=G∧∀r,r<p→decide (x.2.2.2.1.getD (Yb a r c) 0=(q:Int))=false) ?_ (n:=5) ⟨0,by simp,by omega,by simp,by simp,by simp,by simp [e3,e3'],by simp,rfl,by omega⟩
  rintro n t H' ⟨p,rfl,hp,t1,t2,t3,t8,t10,rfl,hk⟩ ih
  simp [t1,t2,t3,t8,t10]
  refine Qm ?_ ?_<;>intro g
  ·have hp':p<5:=by omega
   have e7:=@w6 (2*(p:Int)) (by omega)
   have e8:=@w6 (10*(a:Int)+2*(p:Int)) (by omega)
   have hz:Yb a p c<x.2.2.2.1.length:=by have:=hx.2.1.2.1;unfold Yb;omega
   have e9:∀[Inhabited Unit],IntKind.i64.wrap (10*(a:Int)+2*(p:Int)+(c:Int))=(Yb a p c:Nat):=by intro _;unfold Yb;rw [Q0 (by omega) (by omega)];omega
   have hgo:x.2.2.2.1.getD (Yb a p c) 0=x.2.2.2.1[Yb a p c]:=by simp [List.getD_eq_getElem?_getD,hz]
   generalize hzz:Yb a p c=z at *
   have rd:=Rd.isI o.2.2.2.1.1.rd
   have q1:=rd.idx (P:=Tryz.prog) (ty:=24) (e:=3) (by simp) (i:=(z:Int)) (by omega) (by omega)
   have q2:=rd.load (P:=Tryz.prog) (e:=3) (by simp) hz
   simp only [Int.toNat_natCast] at q1 q2
   rw [hgo] at q2
   simp [VM.look,hr,ones,t1,t2,t3,t8,t10,e1,e4,e7,e8,e9,q1,q2]
   refine Qm ?_ ?_<;>intro g2
   ·simp [t1,t2,t3,t8,t10]
    rw [Ms hp' (by rw [hzz,hgo];exact decide_eq_true g2) hk] at hY
    exact hY
   ·simp [t1,t2,t3,t8,t10]
    refine ih (5-(p+1)) _ _ ⟨p+1,rfl,by omega,by simp [t1],by simp [t2],by simp [t3],by simp [t8],?_,rfl,fun r hr'=>?_⟩ (by omega)
    ·simp;rw [Q0 (by omega) (by omega)]
    ·by_cases hrp:r<p
     ·exact hk r hrp
     ·have:r=p:=by omega
      subst this
      rw [hzz,hgo];exact decide_eq_false g2
  ·have:p=5:=by omega
   subst this
   rw [T3 hk] at hY
   simp [t1,t2,t3,t8,t10,hY]
theorem Qcf {v:Wo} {x:Qu} {a p c:Nat} (o':Qe.Ow H v x) (hx:Zq x) (ha:(a:Int)<cnt x.1.1 x.1.2.1) (hp:p<5) (hc:c<2) :
 Qh C frz 214 [Qe.val v x,.int .i64 a,.int .i64 p,.int .i64 c] H=some (.bool (decide (Pd x a p c)),H):=by
 refine wp.exact (by simp) ?_ rfl
 have ones:=Qr o'
 have cr:=Qz x.1.1 x.1.2.1
 simp only [Qk]
 rw [Qb (fn:=Tryz.f214) Tryz.func214 rfl (by kernel_rfl) rfl]
 obtain ⟨G,hG⟩:∃G,G=H++[⟨Qc v x,0,48⟩]:=⟨_,rfl⟩
 have o:Qe.Ow G v x:=hG▸Dt.app (T:=Qe) o'
 have hr:G[H.length]? = some ⟨Qc v x,0,48⟩:=by rw [hG];simp
 have hGs:H++[⟨Qc v x,0,48⟩]=G:=hG.symm
 unfold Qc at hr hGs
 simp [ones]
 rw [hGs]
 by_cases h4:p=4
 ·subst h4;simp [Pd]
 have h4':¬(p:Int)=4:=by omega
 have e1:=@w6 (4*(a:Int)) (by omega)
 have e2:∀[Inhabited Unit],IntKind.i64.wrap (4*(a:Int)+(p:Int))=4*(a:Int)+p:=by intro _;exact Q0 (by omega) (by omega)
 have lv:=fun F=>O2 (frz:=F) (H:=G) x.1.1 x.1.2.1 v.1 x.1.2.2 (4*(a:Int)+p) (Rd.isI o.1.1.rd) o.1.2
 by_cases hh:has x.1.1 x.1.2.1 x.1.2.2 (4*(a:Int)+p)
 rotate_left
 ·simp [VM.look,hr,ones,e1,e2,lv,hh,h4,h4',Pd]
 obtain ⟨u1,u2,u3⟩:=Sh (c:=c) hh (by omega) hc
 obtain ⟨s1,s2,s3⟩:=My (c:=c) hh (by omega)
 have hl:Mf x a p c<x.2.2.1.length:=by have:=hx.2.1.1;omega
 have hgd:x.2.2.1[Mf x a p c]?.getD []=x.2.2.1[Mf x a p c]:=by simp [hl]
 have key:Pd x a p c↔(x.2.2.1[Mf x a p c].length:Int)<3:=by
  unfold Pd;rw [List.getD_eq_getElem?_getD,hgd]
  exact ⟨fun k=>by rcases k with k|k;exact absurd k h4;have:=k.2;omega,fun k=>.inr ⟨hh,by omega⟩⟩
 generalize htt:Mf x a p c=z at *
 have nn:=fun F=>Zy (frz:=F) (H:=G) x.1.1 x.1.2.1 a p
 have so:=fun F=>O3 (frz:=F) (H:=G) p
 obtain ⟨s4,s5⟩:=s1
 generalize next x.1.1 x.1.2.1 a p=N at *
 generalize Ml (p:Int)=O at *
 have e3:=@w6 (10*N) (by omega)
 have e4:=@w6 (2*O) (by omega)
 have e5:=@w6 (10*N+2*O) (by omega)
 have e6:∀[Inhabited Unit],IntKind.i64.wrap (10*N+2*O+(c:Int))=(z:Int):=by intro _;rw [Q0 (by omega) (by omega)];omega
 obtain ⟨u,a1,a2,a3,a4⟩:=Xi o.2.2.1.1.rd (ty:=46) (e:=145) (by simp) (by simp) hl
 have la:=a4.len (P:=Tryz.prog) (ty:=145) (by simp)
 simp [VM.look,hr,ones,e1,e2,lv,hh,h4,h4',nn]
 rw [Qv (h:=by kernel_rfl)]
 simp [VM.look,hr,ones,e3,e4,e5,e6,so,a2,a3,la,key]
theorem qq {v:Wo} {x:Qu} {a i p:Nat} (o':Qe.Ow H v x) (hx:Zq x) (ha:(a:Int)<cnt x.1.1 x.1.2.1) (hi:i<10) (hp:p<5) :
 Qh C frz 190 [Qe.val v x,.int .i64 a,.int .i64 i,.int .i64 p] H=some (.bool (decide (Tn x a i p)),H):=by
 refine wp.exact (by simp) ?_ rfl
 have ones:=Qr o'
 have cr:=Qz x.1.1 x.1.2.1
 simp only [Qk]
 rw [Qb (fn:=Tryz.f190) Tryz.func190 rfl (by kernel_rfl) rfl]
 obtain ⟨d,hd⟩:∃d,d=10*a+i:=⟨_,rfl⟩
 obtain ⟨c,hc⟩:∃c,c=i%2:=⟨_,rfl⟩
 obtain ⟨q,hq⟩:∃q,q=i/2:=⟨_,rfl⟩
 obtain ⟨G,hG⟩:∃G,G=H++[⟨Qc v x,0,48⟩]:=⟨_,rfl⟩
 have o:Qe.Ow G v x:=hG▸Dt.app (T:=Qe) o'
 have hr:G[H.length]? = some ⟨Qc v x,0,48⟩:=by rw [hG];simp
 have hGs:H++[⟨Qc v x,0,48⟩]=G:=hG.symm
 unfold Qc at hr hGs
 have wn:=fun F=>yo (frz:=F) (H:=G) o hx ha hi
 have rm:=fun F=>Qcf (frz:=F) (H:=G) (c:=c) o hx ha hp (by omega)
 simp only [Qk] at wn rm
 generalize hY:decide (Tn x a i p)=Y
 have no:¬Tn x a i p→Y=false:=fun hh=>by rw [← hY];exact decide_eq_false hh
 have e1:=@w6 (10*(a:Int)) (by omega)
 have e2:∀[Inhabited Unit],IntKind.i64.wrap (10*(a:Int)+(i:Int))=(d:Int):=by intro _;rw [Q0 (by omega) (by omega)];omega
 have e3:∀[Inhabited Unit],(i:Int).tmod 2=(c:Int):=by intro _;rw [Mj];omega
 have e3':∀[Inhabited Unit],(i:Int)%2=(c:Int):=by intro _;omega
 have e4:∀[Inhabited Unit],IntKind.i64.wrap ((i:Int)/2)=(q:Int):=by intro _;rw [Q0 (by omega) (by omega)];omega
 have e7:=@w6 (2*(p:Int)) (by omega)
 have e8:=@w6 (10*(a:Int)+2*(p:Int)) (by omega)
 have e9:∀[Inhabited Unit],IntKind.i64.wrap (10*(a:Int)+2*(p:Int)+(c:Int))=(Yb a p c:Nat):=by intro _;unfold Yb;rw [Q0 (by omega) (by omega)];omega
 simp [ones]
 rw [hGs]
 by_cases g1:Vf x a i=(p:Int)
 rotate_left
 ·simp [VM.look,hr,ones,wn,g1,e3,e3'];exact no (fun k=>g1 k.1)
 by_cases g2:Pd x a p c
 rotate_left
 ·simp [VM.look,hr,ones,wn,g1,e3,e3',rm,g2];exact no (fun k=>g2 (hc▸k.2.1))
 have hl:d<x.2.2.1.length:=by have:=hx.2.1.1;omega
 obtain ⟨u,a1,a2,a3,a4⟩:=Xi o.2.2.1.1.rd (ty:=46) (e:=145) (by simp) (by simp) hl
 have hgd:x.2.2.1.getD d []=x.2.2.1[d]:=by simp [List.getD_eq_getElem?_getD,hl]
 have hho:Yn x d=Zx x.2.2.1[d]:=by unfold Yn;rw [hgd]
 have g0:x.2.2.1[d]≠[]:=fun hh=>by
  unfold Vf at g1
  rw [← hd,hgd,if_pos hh] at g1
  omega
 obtain ⟨z0,f1,f2,f3,c1,c2,c3,_⟩:=front a4 g0
 have hz:Yb a p c<x.2.2.2.1.length:=by have:=hx.2.1.2.1;unfold Yb;omega
 have hgo:x.2.2.2.1.getD (Yb a p c) 0=x.2.2.2.1[Yb a p c]:=by simp [List.getD_eq_getElem?_getD,hz]
 have key:Tn x a i p↔x.2.2.2.1[Yb a p c]=if (Zx x.2.2.1[d]).2.2.2.1 then -1 else (q:Int):=by
  unfold Tn;rw [← hd,← hc,← hq,hgo,hho]
  exact ⟨fun k=>k.2.2,fun k=>⟨g1,g2,k⟩⟩
 generalize hzz:Yb a p c=z at *
 generalize Zx x.2.2.1[d]=f at *
 have rd:=Rd.isI o.2.2.2.1.1.rd
 have q1:=rd.idx (P:=Tryz.prog) (ty:=24) (e:=3) (by simp) (i:=(z:Int)) (by omega) (by omega)
 have q2:=rd.load (P:=Tryz.prog) (e:=3) (by simp) hz
 simp only [Int.toNat_natCast] at q1 q2
 rw [hgo] at q2
 have qa:VM.one u=true∧u.cells=#[u]:=⟨a4.one',a4.cells⟩
 simp [VM.look,hr,ones,wn,g1,e3,e3',rm,g2,e1,e7,e8,e9,q1,q2]
 simp [-Qy,Wr,VM.look,hr,ones,e1,e2,a2,a3,z0,f3,c3]
 by_cases g3:f.2.2.2.1=true
 ·simp only [g3,if_true] at key ⊢
  simp [e4]
  rw [← hY];simp only [key]
 ·simp only [g3,if_false] at key ⊢
  simp [e4]
  rw [← hY];simp only [key]
  try simp
def Jv:Fl Pi:=⟨3,fun a=>[.int .i64 a.1,.int .i64 a.2.1,.int .i64 a.2.2],fun _=>rfl⟩
@[simp] theorem Qp1:Jv.n=3:=rfl
theorem Ka (a:Pi):Jv.f a=[.int .i64 a.1,.int .i64 a.2.1,.int .i64 a.2.2]:=rfl
theorem xz (xs:List Pi):ones (cellsOf Jv xs)=true:=by
 induction xs with
 | nil=>rfl
 | cons a l ih=>rw [Ye];simp [ih,Ka]
theorem Qi7 {K:Qd} {e:TypeId} {v:Value} {u:List Bool} (o:Ow Fl.bool e K v u) {j:Nat} (hj:j<u.length):Xh Tryz.prog K 4 (Yi v j)=some (.bool (u.getD j false)):=by
 rw [o.rd.cell1 (P:=Tryz.prog) rfl (by simp) hj]
 simp [List.getD_eq_getElem?_getD,hj]
theorem Qd4 {x:Qu} {a p:Nat} {u:List Bool}:((Ih x a p).map Int.ofNat).filter (fun y=>!u.getD (y/2).toNat false)=(R9 x a p u).map Int.ofNat:=by
 rw [List.filter_map]
 unfold R9
 congr 1
theorem Qbu {x:Qu} {a p:Nat} {u:List Bool}:∀y∈(R9 x a p u).map Int.ofNat,Xa 0 y 9:=fun y hy=>by
 obtain ⟨i,hi,rfl⟩:=List.mem_map.1 hy
 have:=(Gu hi).1
 unfold Xa;show (0:Int)≤(i:Int)∧(i:Int)≤9;omega
theorem yk {x:Qu} {a p:Nat} {u:List Bool}:((R9 x a p u).map Int.ofNat).length≤10:=by
 rw [List.length_map]
 have h1:=List.length_filter_le (fun i=>!u.getD (i/2) false) (Ih x a p)
 have h2:=List.length_filter_le (fun i=>decide (Tn x a i p)) (List.range 10)
 rw [List.length_range] at h2
 unfold R9;unfold Ih at h1 ⊢;omega
theorem Qb5 {x:Qu} {a p:Nat} {u:List Bool} (h:0≤Ru x a p u):∃k:Nat,Ru x a p u=k∧k<10:=by
 have:=(Gu (ju h)).1
 exact ⟨(Ru x a p u).toNat,by omega,this⟩
theorem Qen {K:Qd} {e:TypeId} {R:Nat} {u:List Bool} (o:Ow Fl.bool e K (.slice (some ⟨R,0,some 0⟩) 5 0) u) {j:Nat} (hj:j<5):Q6 Tryz.prog K 230 (.pointer (some ⟨R,0,some 0⟩)) (.int .i64 (j:Int))=some (Yi (.slice (some ⟨R,0,some 0⟩) 5 0) j):=by
 have hl:=Xy o
 have hj':(j:Int)<5:=by omega
 simp only [VM.live] at hl
 unfold Q6
 cases hh:VM.look K ⟨R,0,some 0⟩ with
 | none=>exact absurd hh hl
 | some r=>simp [Yi,hj',hh]
theorem Qcv {K:Qd} {e:TypeId} {R i:Nat} {u:List Bool} (o:Ow Fl.bool e K (.slice (some ⟨R,0,some 0⟩) 5 0) u) (hl:u.length=5) (hi:i<10) :
 Qh C frz 245 [.int .i64 (i:Int),.pointer (some ⟨R,0,some 0⟩)] K=some (.bool (u.getD (i/2) false),K):=by
 rw [Qb (fn:=Tryz.f245) Tryz.func245 rfl (by kernel_rfl) rfl]
 obtain ⟨q,hq⟩:∃q,q=i/2:=⟨_,rfl⟩
 rw [← hq]
 have e4:∀[Inhabited Unit],IntKind.i64.wrap ((i:Int)/2)=(q:Int):=by intro _;rw [Q0 (by omega) (by omega)];omega
 have q1:=Qen o (j:=q) (by omega)
 have q2:=Qi7 o (j:=q) (by omega)
 simp [e4,q1,q2]
theorem Qej {v:Wo} {x:Qu} {id a:Nat} {e:TypeId} {tail:List Value} (hr:H[id]? = some ⟨Qc v x++tail,0,e⟩) (o:Qe.Ow H v x) (hx:Zq x) (ha:(a:Int)<cnt x.1.1 x.1.2.1) :
 wp (Qh C frz 224 [.pointer (some ⟨id,0,some 0⟩),.int .i64 a] H) (fun r H'=>Ow Jv 188 H' r (grN x a)∧(∀i∈ids r,H.length≤i)∧Qp H H' []):=by
 have ones:=Qr o
 have cr:=Qz x.1.1 x.1.2.1
 have hidl:=Wj hr
 rw [Qb (fn:=Tryz.f224) Tryz.func224 rfl (by kernel_rfl) rfl]
 have oB0:Ow Fl.bool 230 (H++[⟨[],0,188⟩,⟨[.bool false,.bool false,.bool false,.bool false,.bool false],0,230⟩]) (.slice (some ⟨H.length+1,0,some 0⟩) 5 0) (List.replicate 5 false):=Ow.new (D:=Fl.bool) (xs:=List.replicate 5 false) (k:=1) rfl rfl rfl rfl
 have oG0:Ow Jv 188 (H++[⟨[],0,188⟩,⟨[.bool false,.bool false,.bool false,.bool false,.bool false],0,230⟩]) (.slice (some ⟨H.length,0,some 0⟩) 0 0) []:=Ow.new0 (D:=Jv) (xs:=[]) rfl rfl rfl rfl
 have bp:Vb Tryz.prog 230=some [(0,1),(1,1),(2,1),(3,1),(4,1)]:=by kernel_rfl
 simp [bp]
 refine Qw (fun n t H'=>∃(p:Nat) (r:Value),n=5-p∧p≤5∧t 0=.pointer (some ⟨id,0,some 0⟩)∧t 1=.int .i64 a∧t 5=r∧t 6=.pointer (some ⟨H.length+1,0,some 0⟩)∧t 7=.int .i64 p∧Qp H H' []∧
  Ow Fl.bool 230 H' (.slice (some ⟨H.length+1,0,some 0⟩) 5 0) (Ou x a p).2∧Ow Jv 188 H' r (Ou x a p).1∧(∀j∈ids r,H.length≤j∧j≠H.length+1)) ?_ (n:=5)
  ⟨0,.slice (some ⟨H.length,0,some 0⟩) 0 0,rfl,by omega,by simp,by simp,by simp,by simp,by simp,Qp.app _,oB0,oG0,by simp⟩
 rintro n t H' ⟨p,r,rfl,hp,t0,t1,t5,t6,t7,ch,oB,oG,nG⟩ ih
 simp [t0,t1,t5,t6,t7]
 refine Qm ?_ ?_<;>intro g
 ·have hp':p<5:=by omega
  obtain ⟨l5,gat,gnd,gle⟩:=P5 x a p hp
  have gs:=Nu x a p
  unfold Ib at gs
  have r1:=Qa hr ch (by simp)
  have o1:=Dt.chg (T:=Qe) o ch (by simp)
  have hbl:H.length+1<H'.length:=oB.lt _ (by simp)
  generalize Ou x a p=st at *
  simp [t0,t1,t5,t6,t7]
  refine Ql (Qaa r1 o1 hx ha hp') ?_
  rintro L H1 ⟨oL,nL,cL⟩
  have oB1:=oB.chg cL (by simp)
  have oG1:=oG.chg cL (by simp)
  have c1:=ch.trans cL
  simp [t0,t1,t5,t6,t7]
  have hrl:((Ih x a p).map Int.ofNat).length≤10:=by
   rw [List.length_map]
   have h2:=List.length_filter_le (fun i=>decide (Tn x a i p)) (List.range 10)
   rw [List.length_range] at h2
   exact h2
  refine Ql (Ak L _ (fun y=>st.2.getD (y/2).toNat false) _ oL (by omega) (fun i hi=>by have:=nL i hi;have:=ch.1;omega) (fun K hK F y hy=>?_)) ?_
  ·obtain ⟨i,hi,rfl⟩:=List.mem_map.1 hy
   have Qkx:i<10:=List.mem_range.1 (List.mem_filter.1 hi).1
   have:=Qcv (frz:=F) (i:=i) (oB1.chg hK (fun j hj hh=>by have:=nL j hh;simp at hj;omega)) l5 Qkx
   simp
   exact this
  rintro U H2 ⟨oU,nU,cU⟩
  have fm:((Ih x a p).map Int.ofNat).filter (fun y=>!(fun y=>st.2.getD (y/2).toNat false) y)=(R9 x a p st.2).map Int.ofNat:=Qd4
  rw [fm] at oU
  have c2:=c1.trans' cU (fun i hi=>.inr (by have:=nL i hi;have:=ch.1;omega))
  have oB2:=oB1.chg cU (fun j hj hh=>by have:=nL j hh;simp at hj;omega)
  have lG:=oG.lt
  have oG2:=oG1.chg cU (fun j hj hh=>by have:=nL j hh;have:=lG j hj;omega)
  have r2:=Qa hr c2 (by simp)
  have o2:=Dt.chg (T:=Qe) o c2 (by simp)
  unfold Qc at r2
  simp only [List.cons_append,List.nil_append] at r2
  obtain ⟨z,hz⟩:∃z,z=5*a+p:=⟨_,rfl⟩
  have hzl:z<x.2.2.2.2.1.length:=by have:=hx.2.1.2.2.1;omega
  have e1:=@w6 (5*(a:Int)) (by omega)
  have e2:∀[Inhabited Unit],IntKind.i64.wrap (5*(a:Int)+(p:Int))=(z:Int):=by intro _;rw [Q0 (by omega) (by omega)];omega
  have rd:=Rd.isI o2.2.2.2.2.1.1.rd
  have q1:=rd.idx (P:=Tryz.prog) (ty:=24) (e:=3) (by simp) (i:=(z:Int)) (by omega) (by omega)
  have q2:=rd.load (P:=Tryz.prog) (e:=3) (by simp) hzl
  simp only [Int.toNat_natCast] at q1 q2
  have hti:Xa 0 (x.2.2.2.2.1.getD z 0) 9:=by
   have:x.2.2.2.2.1.getD z 0=x.2.2.2.2.1[z]:=by simp [List.getD_eq_getElem?_getD,hzl]
   rw [this];exact hx.2.2.2.2 _ (List.getElem_mem hzl)
  have ff:=fun F=>xf (frz:=F) (H:=H2) U _ _ oU.rd.isI (by have:=yk (x:=x) (a:=a) (p:=p) (u:=st.2);omega) Qbu hti
  have hpk:T7 (x.2.2.2.2.1.getD z 0) ((R9 x a p st.2).map Int.ofNat)=Ru x a p st.2:=by rw [hz];rfl
  rw [hpk] at ff
  generalize x.2.2.2.2.1.getD z 0=T at *
  simp [t0,t1,t5,t6,t7,VM.look,VM.vnil,r2,ones,e1,e2,q1,q2,ff]
  by_cases g2:0≤Ru x a p st.2
  rotate_left
  ·rw [if_neg g2] at gs
   simp [t0,t1,t5,t6,t7,g2]
   refine ih (5-(p+1)) _ _ ⟨p+1,r,rfl,by omega,by simp [t0],by simp [t1],by simp [t5],by simp [t6],?_,c2,by rw [gs];exact oB2,by rw [gs];exact oG2,nG⟩ (by omega)
   simp [t7];rw [Q0 (by omega) (by omega)]
  rw [if_pos g2] at gs
  obtain ⟨k,hk,Qzw⟩:=Qb5 g2
  rw [hk,Int.toNat_natCast] at gs
  obtain ⟨q,hq⟩:∃q,q=k/2:=⟨_,rfl⟩
  rw [← hq] at gs
  have e4:∀[Inhabited Unit],IntKind.i64.wrap ((k:Int)/2)=(q:Int):=by intro _;rw [Q0 (by omega) (by omega)];omega
  have ai:=Qen oB2 (j:=q) (by omega)
  obtain ⟨H3,s3,oB3,c3,l3⟩:=oB2.put1 (P:=Tryz.prog) (frz:=H.length) rfl (et:=4) (ag:=false) (by simp) (j:=q) (x:=.bool true) (y:=true) (by omega) rfl rfl rfl (fun i hi=>by simp at hi;omega)
  have c03:=c2.trans' c3 (fun i hi=>.inr (by simp at hi;omega))
  have oG3:=oG2.chg c3 (fun j hj hh=>(nG j hj).2 (by simpa using hh))
  have l03:=c03.1
  obtain ⟨r',H4,hap,oG4,c4,n4⟩:=oG3.push (P:=Tryz.prog) (frz:=H.length) (ty:=156) (a:=(a,p,k)) (by simp) rfl (by omega) (fun i hi=>(nG i hi).1)
  simp only [Ka] at hap
  have oB4:=oB3.chg c4 (fun j hj hh=>by simp at hj;exact (nG j hh).2 hj)
  have l2:=c2.1
  have l13:=ch.1
  have lcU:=cU.1
  have lcL:=cL.1
  simp [-Q5,-Wm,t0,t1,t5,t6,t7,hk,e4,ai,s3,hap]
  refine ih (5-(p+1)) _ _ ⟨p+1,r',rfl,by omega,by simp [t0],by simp [t1],by simp,by simp [t6],?_,c03.trans' c4 (fun i hi=>.inr (nG i hi).1),by rw [gs];exact oB4,by rw [gs];exact oG4,fun j hj=>?_⟩ (by omega)
  ·simp [t7];rw [Q0 (by omega) (by omega)]
  ·rcases n4 j hj with h1|h1
   ·exact nG j h1
   ·omega
 ·have:p=5:=by omega
  subst this
  simp [t0,t1,t5,t6,t7]
  exact ⟨oG,fun i hi=>(nG i hi).1,ch⟩
theorem B7 (x:Qu) (n:Nat):(T0 x n).length≤5*n:=(R8 x n).2.2
noncomputable def Ta (x:Qu) (n:Nat):List Nat:=(List.range n).filter fun k=>Ve x k
theorem Lv (x:Qu) (n:Nat):Ta x (n+1)=if Ve x n then Ta x n++[n] else Ta x n:=by
 unfold Ta;rw [List.range_succ,List.filter_append]
 by_cases h:Ve x n<;>simp [h]
theorem It (x:Qu) (n:Nat):(Ta x n).length≤n:=by
 have:=List.length_filter_le (fun k=>decide (Ve x k)) (List.range n)
 rw [List.length_range] at this;exact this
theorem yn {v:Wo} {x:Qu} {id:Nat} {e:TypeId} {tail:List Value} (hr:H[id]? = some ⟨Qc v x++tail,0,e⟩) (o:Qe.Ow H v x) (hx:Zq x) :
 wp (Qh C frz 204 [.pointer (some ⟨id,0,some 0⟩)] H) (fun r H'=>Ow Jv 188 H' r (Wf x)∧(∀i∈ids r,H.length≤i)∧Qp H H' []):=by
 have ones:=Qr o
 obtain ⟨N,hN⟩:∃N:Nat,cnt x.1.1 x.1.2.1=N:=⟨(cnt x.1.1 x.1.2.1).toNat,by have:=Qz x.1.1 x.1.2.1;omega⟩
 have hN2:N≤16:=by have:=Qz x.1.1 x.1.2.1;omega
 have hall:Wf x=T0 x N:=by unfold Wf;rw [hN,Int.toNat_natCast]
 have hidl:=Wj hr
 rw [Qb (fn:=Tryz.f204) Tryz.func204 rfl (by kernel_rfl) rfl]
 have hr':=hr
 unfold Qc at hr'
 simp only [List.cons_append,List.nil_append] at hr'
 have rd:=(To.app (L:=[⟨[],0,188⟩]) o.2.2.2.2.2.1.1.rd)
 have ll:=rd.1.len (P:=Tryz.prog) (ty:=46) (by simp)
 rw [rd.2.1] at ll
 have hsl:x.2.2.2.2.2.1.length=N:=by have:=hx.2.1.2.2.2.1;omega
 rw [hsl] at ll
 rw [hall]
 simp [VM.look,VM.vnil,hr',Qj hr',ones,ll]
 refine Qw (fun n t H'=>∃(i:Nat) (r:Value),n=N-i∧i≤N∧t 0=.pointer (some ⟨id,0,some 0⟩)∧t 3=r∧t 10=.int .i64 N∧t 11=.int .i64 i∧Qp H H' []∧Ow Jv 188 H' r (T0 x i)∧(∀j∈ids r,H.length≤j)) ?_ (n:=N)
  ⟨0,.slice (some ⟨H.length,0,some 0⟩) 0 0,rfl,by omega,by simp,by simp,by simp,by simp,Qp.app _,Ow.new0 (D:=Jv) (xs:=[]) rfl rfl rfl rfl,by simp⟩
 rintro n t H' ⟨i,r,rfl,hi,t0,t3,t10,t11,ch,oo,nr⟩ ih
 simp [t0,t3,t10,t11]
 refine Qm ?_ ?_<;>intro g
 ·have hi':i<N:=by omega
  have r1:=Qa hr ch (by simp)
  have o1:=Dt.chg (T:=Qe) o ch (by simp)
  simp [t0,t3,t10,t11]
  refine Ql (Qej r1 o1 hx (a:=i) (by omega)) ?_
  rintro L H1 ⟨oL,nL,cL⟩
  have l1:=ch.1
  have l2:=cL.1
  have al:=B7 x i
  have gl:=Qa1 x i
  obtain ⟨r',H2,hap,o2,c2,n2⟩:=(oo.chg cL (by simp)).append (P:=Tryz.prog) (frz:=H.length) (ty:=156) oL.rd (by simp) (xz _) (by omega) nr
  have asu:=Oa x i
  simp [-Q5,-Wm,t0,t3,t10,t11,hap]
  refine ih (N-(i+1)) _ _ ⟨i+1,r',rfl,by omega,by simp [t0],by simp,by simp [t10],?_,(ch.trans cL).trans' c2 (fun j hj=>.inr (nr j hj)),by rw [asu];exact o2,fun j hj=>?_⟩ (by omega)
  ·simp [t11];rw [Q0 (by omega) (by omega)]
  ·rcases n2 j hj with h1|h1
   ·exact nr j h1
   ·omega
 ·have:i=N:=by omega
  subst this
  simp [t0,t3,t10,t11]
  exact ⟨oo,nr,ch⟩
theorem Qal {v:Wo} {x:Qu} {id:Nat} {e:TypeId} {tail:List Value} (hr:H[id]? = some ⟨Qc v x++tail,0,e⟩) (o:Qe.Ow H v x) (hx:Zq x) :
 wp (Qh C frz 205 [.pointer (some ⟨id,0,some 0⟩)] H) (fun r H'=>Ow Fl.int 3 H' r ((Wk x).map Int.ofNat)∧(∀i∈ids r,H.length≤i)∧Qp H H' []):=by
 have ones:=Qr o
 obtain ⟨N,hN⟩:∃N:Nat,cnt x.1.1 x.1.2.1=N:=⟨(cnt x.1.1 x.1.2.1).toNat,by have:=Qz x.1.1 x.1.2.1;omega⟩
 have hN2:N≤16:=by have:=Qz x.1.1 x.1.2.1;omega
 have hall:Wk x=Ta x N:=by unfold Wk Ta;rw [hN,Int.toNat_natCast]
 have hidl:=Wj hr
 rw [Qb (fn:=Tryz.f205) Tryz.func205 rfl (by kernel_rfl) rfl]
 unfold Qc at hr
 simp only [List.cons_append,List.nil_append] at hr
 have rd:=(To.app (L:=[⟨[],0,3⟩]) o.2.2.2.2.2.1.1.rd)
 have ll:=rd.1.len (P:=Tryz.prog) (ty:=46) (by simp)
 rw [rd.2.1] at ll
 have hsl:x.2.2.2.2.2.1.length=N:=by have:=hx.2.1.2.2.2.1;omega
 have hbl:x.2.2.1.length=10*N:=by have:=hx.2.1.1;omega
 rw [hsl] at ll
 rw [hall]
 simp [VM.look,VM.vnil,hr,Qj hr,ones,ll]
 refine Qw (fun n t H'=>∃(i:Nat) (r:Value),n=N-i∧i≤N∧t 0=.pointer (some ⟨id,0,some 0⟩)∧t 3=r∧t 10=v.2.2.2.2.2.1.1∧t 11=.int .i64 N∧t 12=.int .i64 i∧Qp H H' []∧Ow Fl.int 3 H' r ((Ta x i).map Int.ofNat)∧(∀j∈ids r,H.length≤j)) ?_ (n:=N)
  ⟨0,.slice (some ⟨H.length,0,some 0⟩) 0 0,rfl,by omega,by simp,by simp,by simp,by simp,by simp,Qp.app _,Ow.new0 (D:=Fl.int) (xs:=[]) rfl rfl rfl rfl,by simp⟩
 rintro n t H' ⟨i,r,rfl,hi,t0,t3,t10,t11,t12,ch,oo,nr⟩ ih
 simp [t0,t3,t10,t11,t12]
 refine Qm ?_ ?_<;>intro g
 rotate_left
 ·have:i=N:=by omega
  subst this
  simp [t0,t3,t10,t11,t12]
  exact ⟨oo,nr,ch⟩
 have hi':i<N:=by omega
 have r1:=Qa hr ch (by simp)
 have o1:=Dt.chg (T:=Qe) o ch (by simp)
 have his:i<x.2.2.2.2.2.1.length:=by omega
 obtain ⟨u,a1,a2,a3,a4⟩:=Xi o1.2.2.2.2.2.1.1.rd (ty:=46) (e:=145) (by simp) (by simp) his
 have la:=a4.len (P:=Tryz.prog) (ty:=145) (by simp)
 have qa:VM.one u=true∧u.cells=#[u]:=⟨a4.one',a4.cells⟩
 have hgd:x.2.2.2.2.2.1.getD i []=x.2.2.2.2.2.1[i]:=by simp [List.getD_eq_getElem?_getD,his]
 have hes:=Lv x i
 have hel:=It x i
 simp [t0,t3,t10,t11,t12,a2,a3]
 rw [Qv (h:=by kernel_rfl)]
 by_cases g0:x.2.2.2.2.2.1[i]=[]
 ·have hne:¬Ve x i:=fun k=>k.1 (by rw [hgd];exact g0)
  rw [if_neg hne] at hes
  rw [g0] at la
  simp [t0,t3,t10,t11,t12,la]
  refine ih (N-(i+1)) _ _ ⟨i+1,r,rfl,by omega,by simp [t0],by simp [t3],by simp [t10],by simp [t11],?_,ch,by rw [hes];exact oo,nr⟩ (by omega)
  simp [t12];rw [Q0 (by omega) (by omega)]
 have g0':0<x.2.2.2.2.2.1[i].length:=List.length_pos_iff.2 g0
 obtain ⟨z0,f1,f2,f3,c1,c2,c3,_⟩:=front a4 g0
 obtain ⟨en1,en2,en3⟩:=Np hx (k:=i) (by rw [hgd];exact g0)
 have hsh:U5 x i=Zx x.2.2.2.2.2.1[i]:=by unfold U5;rw [hgd]
 have hcl:=en1.2
 rw [hsh] at en2 hcl
 generalize Zx x.2.2.2.2.2.1[i]=f at *
 have bA:∀F,Qh C F 207 [.int .i64 (i:Int),.int .i64 4,.int .i64 f.2.2.1] H'=some (.int .i64 (Ul x i:Int),H'):=fun F=>by
  rw [P0,if_pos ⟨⟨by omega,by omega⟩,⟨by omega,by omega⟩,hcl⟩,en2];congr 3
 have key:Ve x i↔(x.2.2.1.getD (Ul x i) []).length<3:=⟨fun k=>k.2,fun k=>⟨by rw [hgd];exact g0,k⟩⟩
 have hzl:Ul x i<x.2.2.1.length:=by unfold Xa at hcl;omega
 generalize Ul x i=z at *
 obtain ⟨u',b1,b2,b3,b4⟩:=Xi o1.2.2.1.1.rd (ty:=46) (e:=145) (by simp) (by simp) hzl
 have lb:=b4.len (P:=Tryz.prog) (ty:=145) (by simp)
 have hgz:x.2.2.1.getD z []=x.2.2.1[z]:=by simp [List.getD_eq_getElem?_getD,hzl]
 have qb:VM.one u'=true∧u'.cells=#[u']:=⟨b4.one',b4.cells⟩
 rw [hgz] at key
 simp [-Qy,Wr,t0,t3,t10,t11,t12,la,g0',VM.look,VM.vnil,r1,ones,z0,f2,c2,bA,b2,b3,lb]
 refine Qm ?_ ?_<;>intro g1
 ·rw [if_pos (key.2 (by omega))] at hes
  obtain ⟨r',H2,hap,o2,c2',n2⟩:=oo.push (P:=Tryz.prog) (frz:=H.length) (ty:=24) (a:=(i:Int)) (by simp) rfl (by simp;omega) nr
  simp only [Fl.int_f] at hap
  have l0:=ch.1
  simp [t0,t3,t10,t11,t12,hap]
  refine ih (N-(i+1)) _ _ ⟨i+1,r',rfl,by omega,by simp [t0],by simp,by simp [t10],by simp [t11],?_,ch.trans' c2' (fun j hj=>.inr (nr j hj)),?_,fun j hj=>?_⟩ (by omega)
  ·simp [t12];rw [Q0 (by omega) (by omega)]
  ·rw [hes,List.map_append];exact o2
  ·rcases n2 j hj with h1|h1
   ·exact nr j h1
   ·omega
 ·rw [if_neg (fun k=>by have:=key.1 k;omega)] at hes
  simp [t0,t3,t10,t11,t12]
  refine ih (N-(i+1)) _ _ ⟨i+1,r,rfl,by omega,by simp [t0],by simp [t3],by simp [t10],by simp [t11],?_,ch,by rw [hes];exact oo,nr⟩ (by omega)
  simp [t12];rw [Q0 (by omega) (by omega)]
noncomputable def Nk (x:Qu) (a p:Nat) (u:List Bool) (n:Nat):List Nat:=(List.range n).filter fun i=>!u.getD (i/2) false&&decide (Tn x a i p)
theorem mf (x:Qu) (a p:Nat) (u:List Bool):Nk x a p u 10=R9 x a p u:=by
 unfold Nk R9 Ih;rw [List.filter_filter]
theorem jy (x:Qu) (a p:Nat) (u:List Bool) (n:Nat):Nk x a p u (n+1)=if u.getD (n/2) false=false∧Tn x a n p then Nk x a p u n++[n] else Nk x a p u n:=by
 unfold Nk;rw [List.range_succ,List.filter_append]
 by_cases h:u.getD (n/2) false=false
 ·by_cases h2:Tn x a n p
  ·rw [if_pos ⟨h,h2⟩];simp only [List.filter_cons,h,h2];simp
  ·rw [if_neg (fun k=>h2 k.2)];simp only [List.filter_cons,h,h2];simp
 ·rw [if_neg (fun k=>h k.1)]
  have h':u.getD (n/2) false=true:=by simpa using h
  simp only [List.filter_cons,h'];simp
theorem gk (x:Qu) (a p:Nat) (u:List Bool) (n:Nat):(Nk x a p u n).length≤n:=by
 have:=List.length_filter_le (fun i=>!u.getD (i/2) false&&decide (Tn x a i p)) (List.range n)
 rw [List.length_range] at this;exact this
theorem Qjc {K:Qd} {e:TypeId} {v:Value} {u:List Bool} (o:Ow Fl.bool e K v u) {j:Nat} (hj:j<u.length):Q6 Tryz.prog K 208 v (.int .i64 (j:Int))=some (Yi v j):=by
 have:=o.rd.idx (P:=Tryz.prog) (ty:=208) (e:=4) (by simp) (i:=(j:Int)) (by omega) (by omega)
 simpa using this
theorem jm {v:Wo} {x:Qu} {a:Nat} (o:Qe.Ow H v x) (hx:Zq x) (ha:(a:Int)<cnt x.1.1 x.1.2.1) :
 wp (Qh C frz 160 [Qe.val v x,.int .i64 a] H) (fun r H'=>Ow Jv 188 H' r (grN x a)∧(∀i∈ids r,H.length≤i)∧Qp H H' []):=by
 have ones:=Qr o
 have cr:=Qz x.1.1 x.1.2.1
 simp only [Qk]
 rw [Qb (fn:=Tryz.f160) Tryz.func160 rfl (by kernel_rfl) rfl]
 obtain ⟨G,hG⟩:∃G,G=H++[⟨Qc v x,0,48⟩,⟨[],0,188⟩,⟨[.bool false,.bool false,.bool false,.bool false,.bool false],0,4⟩]:=⟨_,rfl⟩
 have oB0:Ow Fl.bool 4 G (.slice (some ⟨H.length+2,0,some 0⟩) 5 0) (List.replicate 5 false):=by rw [hG];exact Ow.new (D:=Fl.bool) (xs:=List.replicate 5 false) (k:=2) rfl rfl rfl rfl
 have oG0:Ow Jv 188 G (.slice (some ⟨H.length+1,0,some 0⟩) 0 0) []:=by rw [hG];exact Ow.new (D:=Jv) (xs:=[]) (k:=1) rfl rfl rfl rfl
 have cG:Qp H G []:=by rw [hG];exact Qp.app _
 have hr:G[H.length]? = some ⟨Qc v x,0,48⟩:=by rw [hG];simp
 have hGs:H++[⟨Qc v x,0,48⟩,⟨[],0,188⟩,⟨[.bool false,.bool false,.bool false,.bool false,.bool false],0,4⟩]=G:=hG.symm
 have lG0:G.length=H.length+3:=by rw [hG];simp
 unfold Qc at hr hGs
 simp [ones]
 rw [hGs]
 clear hG hGs
 refine Qw (fun n t H'=>∃(p:Nat) (r:Value),n=5-p∧p≤5∧t 1=.int .i64 a∧t 2=.pointer (some ⟨H.length,0,some 0⟩)∧t 5=r∧t 6=.slice (some ⟨H.length+2,0,some 0⟩) 5 0∧t 7=.int .i64 p∧Qp H H' []∧H'[H.length]? = some ⟨Qc v x,0,48⟩∧
  Ow Fl.bool 4 H' (.slice (some ⟨H.length+2,0,some 0⟩) 5 0) (Ou x a p).2∧Ow Jv 188 H' r (Ou x a p).1∧(∀j∈ids r,H.length+1≤j∧j≠H.length+2)) ?_ (n:=5)
  ⟨0,.slice (some ⟨H.length+1,0,some 0⟩) 0 0,rfl,by omega,by simp,by simp,by simp,by simp,by simp,cG,by unfold Qc;exact hr,oB0,oG0,by simp⟩
 rintro n t H' ⟨p,r,rfl,hp,t1,t2,t5,t6,t7,ch,b0,oB,oG,nG⟩ ih
 simp [t1,t2,t5,t6,t7]
 refine Qm ?_ ?_<;>intro g
 rotate_left
 ·have:p=5:=by omega
  subst this
  simp [t1,t2,t5,t6,t7]
  exact ⟨oG,fun i hi=>by have:=(nG i hi).1;omega,ch⟩
 have hp':p<5:=by omega
 obtain ⟨l5,gat,gnd,gle⟩:=P5 x a p hp
 have gs:=Nu x a p
 unfold Ib at gs
 have hbl:H.length+2<H'.length:=oB.lt _ (by simp)
 have lGr:=oG.lt
 generalize Ou x a p=st at *
 simp [t1,t2,t5,t6,t7]
 refine Qw (fun n t1' H1=>∃(i:Nat) (f:Value),n=10-i∧i≤10∧t1' 1=.int .i64 a∧t1' 2=.pointer (some ⟨H.length,0,some 0⟩)∧t1' 5=r∧t1' 6=.slice (some ⟨H.length+2,0,some 0⟩) 5 0∧t1' 7=.int .i64 p∧t1' 8=f∧t1' 9=.int .i64 i∧Qp H' H1 []∧
  Ow Fl.int 3 H1 f ((Nk x a p st.2 i).map Int.ofNat)∧(∀j∈ids f,H'.length≤j)) ?_ (n:=10)
  ⟨0,.slice (some ⟨H'.length,0,some 0⟩) 0 0,rfl,by omega,by simp [t1],by simp [t2],by simp [t5],by simp [t6],by simp [t7],by simp,by simp,Qp.app _,Ow.new0 (D:=Fl.int) (xs:=[]) rfl rfl rfl rfl,by simp⟩
 clear t1 t2 t5 t6 t7
 rintro n t H1 ⟨i,f,rfl,hi,t1,t2,t5,t6,t7,t8,t9,c1,oF,nF⟩ ih2
 have c01:=ch.trans c1
 have b1:=Qa b0 c1 (by simp)
 have o1:=Dt.chg (T:=Qe) o c01 (by simp)
 have oB1:=oB.chg c1 (by simp)
 unfold Qc at b1
 have l1:=c1.1
 simp [t1,t2,t5,t6,t7,t8,t9]
 refine Qm ?_ ?_<;>intro g1
 ·have hi':i<10:=by omega
  obtain ⟨q,hq⟩:∃q,q=i/2:=⟨_,rfl⟩
  have e4:∀[Inhabited Unit],IntKind.i64.wrap ((i:Int)/2)=(q:Int):=by intro _;rw [Q0 (by omega) (by omega)];omega
  have fs:=jy x a p st.2 i
  have fl:=gk x a p st.2 i
  rw [← hq] at fs
  have q1:=Qjc oB1 (j:=q) (by omega)
  have q2:=Qi7 oB1 (j:=q) (by omega)
  have rq:=fun F=>qq (frz:=F) (H:=H1) (i:=i) o1 hx ha hi' hp'
  simp only [Qk] at rq
  generalize st.2.getD q false=B at *
  simp [t1,t2,t5,t6,t7,t8,t9,e4,q1,q2]
  cases B with
  | true=>
   rw [if_neg (by simp)] at fs
   simp [t1,t2,t5,t6,t7,t8,t9]
   refine ih2 (10-(i+1)) _ _ ⟨i+1,f,rfl,by omega,by simp [t1],by simp [t2],by simp [t5],by simp [t6],by simp [t7],by simp [t8],?_,c1,by rw [fs];exact oF,nF⟩ (by omega)
   simp [t9];rw [Q0 (by omega) (by omega)]
  | false=>
   simp [t1,t2,t5,t6,t7,t8,t9,VM.look,b1,ones,rq]
   by_cases g2:Tn x a i p
   ·rw [if_pos ⟨rfl,g2⟩] at fs
    obtain ⟨f',H2,hap,o2,c2,n2⟩:=oF.push (P:=Tryz.prog) (frz:=H.length) (ty:=24) (a:=(i:Int)) (by simp) rfl (by simp;omega) (fun j hj=>by have:=nF j hj;omega)
    simp only [Fl.int_f] at hap
    have hF1:H.length≤H1.length:=by omega
    simp [t1,t2,t5,t6,t7,t8,t9,g2,hap,hF1]
    refine ih2 (10-(i+1)) _ _ ⟨i+1,f',rfl,by omega,by simp [t1],by simp [t2],by simp [t5],by simp [t6],by simp [t7],by simp,?_,c1.trans' c2 (fun j hj=>.inr (nF j hj)),?_,fun j hj=>?_⟩ (by omega)
    ·simp [t9];rw [Q0 (by omega) (by omega)]
    ·rw [fs,List.map_append];exact o2
    ·rcases n2 j hj with h1|h1
     ·exact nF j h1
     ·omega
   ·rw [if_neg (fun k=>g2 k.2)] at fs
    simp [t1,t2,t5,t6,t7,t8,t9,g2]
    refine ih2 (10-(i+1)) _ _ ⟨i+1,f,rfl,by omega,by simp [t1],by simp [t2],by simp [t5],by simp [t6],by simp [t7],by simp [t8],?_,c1,by rw [fs];exact oF,nF⟩ (by omega)
    simp [t9];rw [Q0 (by omega) (by omega)]
 have Qkx:i=10:=by omega
 subst Qkx
 clear ih2
 rw [mf] at oF
 obtain ⟨z,hz⟩:∃z,z=5*a+p:=⟨_,rfl⟩
 have hzl:z<x.2.2.2.2.1.length:=by have:=hx.2.1.2.2.1;omega
 have e1:=@w6 (5*(a:Int)) (by omega)
 have e2:∀[Inhabited Unit],IntKind.i64.wrap (5*(a:Int)+(p:Int))=(z:Int):=by intro _;rw [Q0 (by omega) (by omega)];omega
 have rd:=Rd.isI o1.2.2.2.2.1.1.rd
 have q1:=rd.idx (P:=Tryz.prog) (ty:=24) (e:=3) (by simp) (i:=(z:Int)) (by omega) (by omega)
 have q2:=rd.load (P:=Tryz.prog) (e:=3) (by simp) hzl
 simp only [Int.toNat_natCast] at q1 q2
 have hti:Xa 0 (x.2.2.2.2.1.getD z 0) 9:=by
  have:x.2.2.2.2.1.getD z 0=x.2.2.2.2.1[z]:=by simp [List.getD_eq_getElem?_getD,hzl]
  rw [this];exact hx.2.2.2.2 _ (List.getElem_mem hzl)
 have ff:=fun F=>Au (frz:=F) (H:=H1) f _ _ oF.rd.isI (by have:=yk (x:=x) (a:=a) (p:=p) (u:=st.2);omega) Qbu hti
 have hpk:T7 (x.2.2.2.2.1.getD z 0) ((R9 x a p st.2).map Int.ofNat)=Ru x a p st.2:=by rw [hz];rfl
 rw [hpk] at ff
 have oG1:=oG.chg c1 (by simp)
 generalize x.2.2.2.2.1.getD z 0=T at *
 simp [t1,t2,t5,t6,t7,t8,t9,VM.look,b1,ones,e1,e2,q1,q2,ff]
 by_cases g2:0≤Ru x a p st.2
 rotate_left
 ·rw [if_neg g2] at gs
  simp [t1,t2,t5,t6,t7,g2]
  refine ih (5-(p+1)) _ _ ⟨p+1,r,rfl,by omega,by simp [t1],by simp [t2],by simp [t5],by simp [t6],?_,ch.trans c1,by unfold Qc;exact b1,by rw [gs];exact oB1,by rw [gs];exact oG1,nG⟩ (by omega)
  simp [t7];rw [Q0 (by omega) (by omega)]
 rw [if_pos g2] at gs
 obtain ⟨k,hk,Qzw⟩:=Qb5 g2
 rw [hk,Int.toNat_natCast] at gs
 obtain ⟨q,hq⟩:∃q,q=k/2:=⟨_,rfl⟩
 rw [← hq] at gs
 have e4:∀[Inhabited Unit],IntKind.i64.wrap ((k:Int)/2)=(q:Int):=by intro _;rw [Q0 (by omega) (by omega)];omega
 have ai:=Qjc oB1 (j:=q) (by omega)
 obtain ⟨H3,s3,oB3,c3,l3⟩:=oB1.put1 (P:=Tryz.prog) (frz:=H.length) rfl (et:=4) (ag:=false) (by simp) (j:=q) (x:=.bool true) (y:=true) (by omega) rfl rfl rfl (fun i hi=>by simp at hi;omega)
 have c13:=(ch.trans c1).trans' c3 (fun i hi=>.inr (by simp at hi;omega))
 have oG3:=oG1.chg c3 (fun j hj hh=>(nG j hj).2 (by simpa using hh))
 have b3:=Qa b1 c3 (by simp)
 obtain ⟨r',H4,hap,oG4,c4,n4⟩:=oG3.push (P:=Tryz.prog) (frz:=H.length) (ty:=156) (a:=(a,p,k)) (by simp) rfl (by omega) (fun i hi=>by have:=(nG i hi).1;omega)
 simp only [Ka] at hap
 have oB4:=oB3.chg c4 (fun j hj hh=>by simp at hj;exact (nG j hh).2 hj)
 have b4:=Qa b3 c4 (fun hh=>by have:=(nG _ hh).1;omega)
 simp [-Q5,-Wm,t1,t2,t5,t6,t7,hk,e4,ai,s3,hap]
 refine ih (5-(p+1)) _ _ ⟨p+1,r',rfl,by omega,by simp [t1],by simp [t2],by simp,by simp [t6],?_,c13.trans' c4 (fun i hi=>.inr (by have:=(nG i hi).1;omega)),by unfold Qc;exact b4,by rw [gs];exact oB4,by rw [gs];exact oG4,fun j hj=>?_⟩ (by omega)
 ·simp [t7];rw [Q0 (by omega) (by omega)]
 ·rcases n4 j hj with h1|h1
  ·exact nG j h1
  ·have:=c3.1;omega
theorem ym {v:Wo} {x:Qu} (o:Qe.Ow H v x) (hx:Zq x) :
 wp (Qh C frz 114 [Qe.val v x] H) (fun r H'=>Ow Jv 188 H' r (Wf x)∧(∀i∈ids r,H.length≤i)∧Qp H H' []):=by
 have ones:=Qr o
 obtain ⟨N,hN⟩:∃N:Nat,cnt x.1.1 x.1.2.1=N:=⟨(cnt x.1.1 x.1.2.1).toNat,by have:=Qz x.1.1 x.1.2.1;omega⟩
 have hN2:N≤16:=by have:=Qz x.1.1 x.1.2.1;omega
 have hall:Wf x=T0 x N:=by unfold Wf;rw [hN,Int.toNat_natCast]
 simp only [Qk]
 rw [Qb (fn:=Tryz.f114) Tryz.func114 rfl (by kernel_rfl) rfl]
 obtain ⟨G,hG⟩:∃G,G=H++[⟨Qc v x,0,48⟩,⟨[],0,188⟩]:=⟨_,rfl⟩
 have oG0:Ow Jv 188 G (.slice (some ⟨H.length+1,0,some 0⟩) 0 0) []:=by rw [hG];exact Ow.new (D:=Jv) (xs:=[]) (k:=1) rfl rfl rfl rfl
 have cG:Qp H G []:=by rw [hG];exact Qp.app _
 have hr:G[H.length]? = some ⟨Qc v x,0,48⟩:=by rw [hG];simp
 have hGs:H++[⟨Qc v x,0,48⟩,⟨[],0,188⟩]=G:=hG.symm
 have lG0:G.length=H.length+2:=by rw [hG];simp
 unfold Qc at hr hGs
 rw [hall]
 simp [ones]
 rw [hGs]
 clear hG hGs
 refine Qw (fun n t H'=>∃(i:Nat) (r:Value),n=N-i∧i≤N∧t 1=.pointer (some ⟨H.length,0,some 0⟩)∧t 3=r∧t 4=.int .i64 i∧Qp H H' []∧H'[H.length]? = some ⟨Qc v x,0,48⟩∧Ow Jv 188 H' r (T0 x i)∧(∀j∈ids r,H.length+1≤j)) ?_ (n:=N)
  ⟨0,.slice (some ⟨H.length+1,0,some 0⟩) 0 0,rfl,by omega,by simp,by simp,by simp,cG,by unfold Qc;exact hr,oG0,by simp⟩
 rintro n t H' ⟨i,r,rfl,hi,t1,t3,t4,ch,b0,oo,nr⟩ ih
 have o1:=Dt.chg (T:=Qe) o ch (by simp)
 have b0':=b0
 unfold Qc at b0'
 have nc:=fun F=>Xx (frz:=F) (H:=H') x.1.1 x.1.2.1
 have nc2:=fun F=>W8 (frz:=F) (H:=H') x.1.1 x.1.2.1
 rw [hN] at nc nc2
 simp [t1,t3,t4,VM.look,b0',ones,nc,nc2]
 refine Qm ?_ ?_<;>intro g
 ·have hi':i<N:=by omega
  have gr:=jm (frz:=H.length) (a:=i) o1 hx (by omega)
  simp only [Qk] at gr
  simp [t1,t3,t4,VM.look,b0',ones]
  refine Ql gr ?_
  rintro L H1 ⟨oL,nL,cL⟩
  have l1:=ch.1
  have l2:=cL.1
  have al:=B7 x i
  have gl:=Qa1 x i
  have b1:=Qa b0 cL (by simp)
  obtain ⟨r',H2,hap,o2,c2,n2⟩:=(oo.chg cL (by simp)).append (P:=Tryz.prog) (frz:=H.length) (ty:=156) oL.rd (by simp) (xz _) (by omega) (fun j hj=>by have:=nr j hj;omega)
  have asu:=Oa x i
  simp [-Q5,-Wm,t1,t3,t4,hap]
  refine ih (N-(i+1)) _ _ ⟨i+1,r',rfl,by omega,by simp [t1],by simp,?_,(ch.trans cL).trans' c2 (fun j hj=>.inr (by have:=nr j hj;omega)),Qa b1 c2 (fun hh=>by have:=nr _ hh;omega),by rw [asu];exact o2,fun j hj=>?_⟩ (by omega)
  ·simp [t4];rw [Q0 (by omega) (by omega)]
  ·rcases n2 j hj with h1|h1
   ·exact nr j h1
   ·have:=Wj b0;omega
 ·have:i=N:=by omega
  subst this
  simp [t1,t3,t4]
  exact ⟨oo,fun j hj=>by have:=nr j hj;omega,ch⟩
theorem Mi {v:Wo} {x:Qu} (o:Qe.Ow H v x) (hx:Zq x) :
 wp (Qh C frz 115 [Qe.val v x] H) (fun r H'=>Ow Fl.int 3 H' r ((Wk x).map Int.ofNat)∧(∀i∈ids r,H.length≤i)∧Qp H H' []):=by
 have ones:=Qr o
 obtain ⟨N,hN⟩:∃N:Nat,cnt x.1.1 x.1.2.1=N:=⟨(cnt x.1.1 x.1.2.1).toNat,by have:=Qz x.1.1 x.1.2.1;omega⟩
 have hN2:N≤16:=by have:=Qz x.1.1 x.1.2.1;omega
 have hall:Wk x=Ta x N:=by unfold Wk Ta;rw [hN,Int.toNat_natCast]
 simp only [Qk]
 rw [Qb (fn:=Tryz.f115) Tryz.func115 rfl (by kernel_rfl) rfl]
 have hsl:x.2.2.2.2.2.1.length=N:=by have:=hx.2.1.2.2.2.1;omega
 have hbl:x.2.2.1.length=10*N:=by have:=hx.2.1.1;omega
 obtain ⟨G,hG⟩:∃G,G=H++[⟨Qc v x,0,48⟩,⟨[],0,3⟩]:=⟨_,rfl⟩
 have oG0:Ow Fl.int 3 G (.slice (some ⟨H.length+1,0,some 0⟩) 0 0) []:=by rw [hG];exact Ow.new (D:=Fl.int) (xs:=[]) (k:=1) rfl rfl rfl rfl
 have cG:Qp H G []:=by rw [hG];exact Qp.app _
 have hr:G[H.length]? = some ⟨Qc v x,0,48⟩:=by rw [hG];simp
 have hGs:H++[⟨Qc v x,0,48⟩,⟨[],0,3⟩]=G:=hG.symm
 unfold Qc at hr hGs
 rw [hall]
 simp [ones]
 rw [hGs]
 clear hG hGs
 refine Qw (fun n t H'=>∃(i:Nat) (r:Value),n=N-i∧i≤N∧t 1=.pointer (some ⟨H.length,0,some 0⟩)∧t 3=r∧t 4=.int .i64 i∧Qp H H' []∧H'[H.length]? = some ⟨Qc v x,0,48⟩∧Ow Fl.int 3 H' r ((Ta x i).map Int.ofNat)∧(∀j∈ids r,H.length+1≤j)) ?_ (n:=N)
  ⟨0,.slice (some ⟨H.length+1,0,some 0⟩) 0 0,rfl,by omega,by simp,by simp,by simp,cG,by unfold Qc;exact hr,oG0,by simp⟩
 rintro n t H' ⟨i,r,rfl,hi,t1,t3,t4,ch,b0,oo,nr⟩ ih
 have r1:=b0
 unfold Qc at r1
 have o1:=Dt.chg (T:=Qe) o ch (by simp)
 have rd:=o1.2.2.2.2.2.1.1.rd
 have ll:=rd.1.len (P:=Tryz.prog) (ty:=46) (by simp)
 rw [rd.2.1,hsl] at ll
 simp [t1,t3,t4,VM.look,r1,ones,ll]
 refine Qm ?_ ?_<;>intro g
 rotate_left
 ·have:i=N:=by omega
  subst this
  simp [t1,t3,t4]
  exact ⟨oo,fun j hj=>by have:=nr j hj;omega,ch⟩
 have hi':i<N:=by omega
 have his:i<x.2.2.2.2.2.1.length:=by omega
 obtain ⟨u,a1,a2,a3,a4⟩:=Xi o1.2.2.2.2.2.1.1.rd (ty:=46) (e:=145) (by simp) (by simp) his
 have la:=a4.len (P:=Tryz.prog) (ty:=145) (by simp)
 have qa:VM.one u=true∧u.cells=#[u]:=⟨a4.one',a4.cells⟩
 have hgd:x.2.2.2.2.2.1.getD i []=x.2.2.2.2.2.1[i]:=by simp [List.getD_eq_getElem?_getD,his]
 have hes:=Lv x i
 have hel:=It x i
 simp [t1,t3,t4]
 rw [Qv (h:=by kernel_rfl)]
 by_cases g0:x.2.2.2.2.2.1[i]=[]
 ·have hne:¬Ve x i:=fun k=>k.1 (by rw [hgd];exact g0)
  rw [if_neg hne] at hes
  rw [g0] at la
  simp [t1,t3,t4,VM.look,r1,ones,a2,a3,la]
  refine ih (N-(i+1)) _ _ ⟨i+1,r,rfl,by omega,by simp [t1],by simp [t3],?_,ch,b0,by rw [hes];exact oo,nr⟩ (by omega)
  simp [t4];rw [Q0 (by omega) (by omega)]
 have g0':0<x.2.2.2.2.2.1[i].length:=List.length_pos_iff.2 g0
 obtain ⟨z0,f1,f2,f3,c1,c2,c3,_⟩:=front a4 g0
 obtain ⟨en1,en2,en3⟩:=Np hx (k:=i) (by rw [hgd];exact g0)
 have hsh:U5 x i=Zx x.2.2.2.2.2.1[i]:=by unfold U5;rw [hgd]
 have hcl:=en1.2
 rw [hsh] at en2 hcl
 generalize Zx x.2.2.2.2.2.1[i]=f at *
 have key:Ve x i↔(x.2.2.1.getD (Ul x i) []).length<3:=⟨fun k=>k.2,fun k=>⟨by rw [hgd];exact g0,k⟩⟩
 have hzl:Ul x i<x.2.2.1.length:=by unfold Xa at hcl;omega
 unfold Xa at hcl
 generalize Ul x i=z at *
 have e1:=@w6 (10*(i:Int)) (by omega)
 have e2:=@w6 (10*(i:Int)+8) (by omega)
 have e3:∀[Inhabited Unit],IntKind.i64.wrap (10*(i:Int)+8+f.2.2.1)=(z:Int):=by intro _;rw [Q0 (by omega) (by omega)];omega
 obtain ⟨u',b1,b2,b3,b4⟩:=Xi o1.2.2.1.1.rd (ty:=46) (e:=145) (by simp) (by simp) hzl
 have lb:=b4.len (P:=Tryz.prog) (ty:=145) (by simp)
 have hgz:x.2.2.1.getD z []=x.2.2.1[z]:=by simp [List.getD_eq_getElem?_getD,hzl]
 have qb:VM.one u'=true∧u'.cells=#[u']:=⟨b4.one',b4.cells⟩
 rw [hgz] at key
 simp [-Qy,Wr,t1,t3,t4,la,g0',VM.look,r1,ones,a2,a3,z0,f2,c2,e1,e2,e3,b2,b3,lb]
 refine Qm ?_ ?_<;>intro g1
 ·rw [if_pos (key.2 (by omega))] at hes
  obtain ⟨r',H2,hap,o2,c2',n2⟩:=oo.push (P:=Tryz.prog) (frz:=H.length) (ty:=24) (a:=(i:Int)) (by simp) rfl (by simp;omega) (fun j hj=>by have:=nr j hj;omega)
  simp only [Fl.int_f] at hap
  have l0:=ch.1
  simp [t1,t3,t4,hap]
  refine ih (N-(i+1)) _ _ ⟨i+1,r',rfl,by omega,by simp [t1],by simp,?_,ch.trans' c2' (fun j hj=>.inr (by have:=nr j hj;omega)),Qa b0 c2' (fun hh=>by have:=nr _ hh;omega),?_,fun j hj=>?_⟩ (by omega)
  ·simp [t4];rw [Q0 (by omega) (by omega)]
  ·rw [hes,List.map_append];exact o2
  ·rcases n2 j hj with h1|h1
   ·exact nr j h1
   ·have:=Wj b0;omega
 ·rw [if_neg (fun k=>by have:=key.1 k;omega)] at hes
  simp [t1,t3,t4]
  refine ih (N-(i+1)) _ _ ⟨i+1,r,rfl,by omega,by simp [t1],by simp [t3],?_,ch,b0,by rw [hes];exact oo,nr⟩ (by omega)
  simp [t4];rw [Q0 (by omega) (by omega)]
theorem mg {s:X9} {j:Nat} (h:j<s.length) (f:List Q9→List Q9):Uo s j f=s.set j (f s[j]):=by
 unfold Uo;rw [List.getD_eq_getElem?_getD,List.getElem?_eq_getElem h];rfl
structure Put (K K3:Qd) (u u':I5) (s':X9):Prop where
 hd:u'.1=u.1
 ow:Qt.Ow K3 u' s'
 nd:(Qt.ids u').Nodup
 ids:∀i∈Qt.ids u',i∈Qt.ids u∨K.length≤i
 chg:Qp K K3 (Qt.ids u)
theorem Sa {K:Qd} {u:I5} {s:X9} (o:Qt.Ow K u s) {j:Nat} (hj:j<s.length) :
 ∃a,u.2[j]? = some a∧Q6 Tryz.prog K 46 u.1 (.int .i64 (j:Int))=some (Yi u.1 j)∧Xh Tryz.prog K 145 (Yi u.1 j)=some a∧Ow Yh 148 K a s[j]∧VM.one a=true∧a.cells=#[a]∧VM.live K u.1:=by
 obtain ⟨a,a1,a2,a3,a4⟩:=Xi o.1.rd (ty:=46) (e:=145) (by simp) (by simp) hj
 have oa:=o.1.2.2 j a s[j] a1 (by simp [hj])
 exact ⟨a,a1,a2,a3,oa,a4.one',a4.cells,Xy o.1.1⟩
theorem N8 {K:Qd} {u:I5} {s:X9} {j:Nat} {a:Value} (o:Qt.Ow K u s) (nd:(Qt.ids u).Nodup) (hj:j<s.length) (hb:s[j].length+1≤67108864) (hf:∀i∈Qt.ids u,frz≤i) (ha:u.2[j]? = some a) (y:Q9) :
 ∃a' K2 K3,Y5 Tryz.prog frz (K++[⟨Yh.f y,0,148⟩]) 145 145 a (.slice (some ⟨K.length,0,some 0⟩) 1 0)=some (a',K2)∧Q6 Tryz.prog K2 46 u.1 (.int .i64 (j:Int))=some (Yi u.1 j)∧
  Zu Tryz.prog frz K2 145 a' (Yi u.1 j)=some K3∧VM.live K2 u.1∧VM.live K3 u.1∧VM.one a'=true∧a'.cells=#[a']∧Qp K K2 (ids a)∧Put K K3 u (u.1,u.2.set j a') (Uo s j (·++[y])):=by
 have hj':j<u.2.length:=by rw [o.1.2.1];exact hj
 have ea:u.2[j]=a:=by rw [List.getElem?_eq_getElem hj'] at ha;exact Option.some.inj ha
 have oa:Ow Yh 148 K a s[j]:=o.1.2.2 j a _ ha (by simp [hj])
 have hia:∀i∈ids a,i∈Qt.ids u:=fun i hi=>Up ha hi
 obtain ⟨a',K2,hap,oa',c2,na'⟩:=oa.push (P:=Tryz.prog) (frz:=frz) (ty:=145) (a:=y) (by simp) rfl (by omega) (fun i hi=>hf i (hia i hi))
 have c2':Qp K K2 (ids u.2[j]):=by rw [ea];exact c2
 obtain ⟨K3,hst,oL,c3,ndL,idL,l3⟩:=Lw (frz:=frz) (et:=145) (ag:=false) o.1 nd hj' c2' oa' (by rw [ea];exact na') (fun i hi=>hf i hi) (by simp)
 have dav:∀i∈ids u.1,i∉ids a:=fun i hi hh=>(List.nodup_append.1 nd).2.2 i hi i (List.mem_flatMap.2 ⟨a,List.mem_of_getElem? ha,hh⟩) rfl
 have ol2:=o.1.1.chg c2 dav
 have hsl:=o.1.2.1
 have ix2:=ol2.rd.idx (P:=Tryz.prog) (ty:=46) (e:=145) (by simp) (i:=(j:Int)) (by omega) (by omega)
 simp only [Int.toNat_natCast,Nat.mul_one,show Fl.val.n=1 from rfl] at ix2
 have hup:=mg hj (·++[y])
 refine ⟨a',K2,K3,hap,ix2,hst,Xy ol2,Xy oL.1,oa'.rd.one',oa'.rd.cells,c2,rfl,?_,ndL,idL,c3⟩
 rw [hup]
 exact F7 oL o.2.1 o.2.2 (by simp;omega)
theorem Qkw {K:Qd} {u:I5} {s:X9} {j:Nat} {a:Value} (o:Qt.Ow K u s) (nd:(Qt.ids u).Nodup) (hj:j<s.length) (hne:s[j]≠[]) (hf:∀i∈Qt.ids u,frz≤i) (hfK:frz≤K.length) (ha:u.2[j]? = some a) :
 ∃z a' K2 K3,Xh Tryz.prog (K++[⟨[],0,148⟩]) 145 (Yi u.1 j)=some a∧Q6 Tryz.prog (K++[⟨[],0,148⟩]) 46 u.1 (.int .i64 (j:Int))=some (Yi u.1 j)∧
  Vl Tryz.prog (K++[⟨[],0,148⟩]) 145 (some (.int .i64 1)) none a=some z∧
  Y5 Tryz.prog frz (K++[⟨[],0,148⟩]) 145 145 (.slice (some ⟨K.length,0,some 0⟩) 0 0) z=some (a',K2)∧Q6 Tryz.prog K2 46 u.1 (.int .i64 (j:Int))=some (Yi u.1 j)∧
  Zu Tryz.prog frz K2 145 a' (Yi u.1 j)=some K3∧VM.live (K++[⟨[],0,148⟩]) u.1∧VM.live K2 u.1∧VM.live K3 u.1∧VM.one a'=true∧a'.cells=#[a']∧Qp K K2 []∧Put K K3 u (u.1,u.2.set j a') (Uo s j (List.drop 1)):=by
 have hj':j<u.2.length:=by rw [o.1.2.1];exact hj
 have ea:u.2[j]=a:=by rw [List.getElem?_eq_getElem hj'] at ha;exact Option.some.inj ha
 have o1:=Dt.app (T:=Qt) (L:=[⟨[],0,148⟩]) o
 obtain ⟨a1,h1,h2,h3,oa,h4,h5,h6⟩:=Sa o1 hj
 have e1:a1=a:=by rw [ha] at h1;exact (Option.some.inj h1).symm
 subst e1
 have hsl:=o.1.2.1
 have hpos:=List.length_pos_iff.2 hne
 obtain ⟨z,hz,oz,nz⟩:=oa.slice (P:=Tryz.prog) (ty:=145) (lo:=some (.int .i64 1)) (hi:=none) (l:=1) (u:=s[j].length) (by simp) rfl rfl (by omega) (Nat.le_refl _)
 have et:(s[j].drop 1).take (s[j].length-1)=s[j].drop 1:=List.take_of_length_le (by simp)
 rw [et] at oz
 have hlb:=o.2.2 _ (List.getElem_mem hj)
 have on:Ow Yh 148 (K++[⟨[],0,148⟩]) (.slice (some ⟨K.length,0,some 0⟩) 0 0) []:=Ow.new0 (D:=Yh) (xs:=[]) rfl rfl rfl rfl
 obtain ⟨a',K2,hap,oa',c2,na'⟩:=on.append (P:=Tryz.prog) (frz:=frz) (ty:=145) oz.rd (by simp) (Re _) (by simp;omega) (fun i hi=>by simp at hi;omega)
 rw [List.nil_append] at oa'
 have c12:Qp K K2 []:=(Qp.app _).trans' c2 (fun i hi=>.inr (by simp at hi;omega))
 obtain ⟨K3,hst,oL,c3,ndL,idL,l3⟩:=Lw (frz:=frz) (et:=145) (ag:=false) o.1 nd hj' (c12.mono (fun _ h=>by cases h)) oa' (fun i hi=>by
  rcases na' i hi with g|g
  ·right;simp at g;omega
  ·right;simp at g;omega) (fun i hi=>hf i hi) (by simp)
 have ol2:=o.1.1.chg c12 (by simp)
 have ix2:=ol2.rd.idx (P:=Tryz.prog) (ty:=46) (e:=145) (by simp) (i:=(j:Int)) (by omega) (by omega)
 simp only [Int.toNat_natCast,Nat.mul_one,show Fl.val.n=1 from rfl] at ix2
 have hup:=mg hj (List.drop 1)
 refine ⟨z,a',K2,K3,h3,h2,hz,hap,ix2,hst,h6,Xy ol2,Xy oL.1,oa'.rd.one',oa'.rd.cells,c12,rfl,?_,ndL,idL,c3⟩
 rw [hup]
 exact F7 oL o.2.1 o.2.2 (by simp;omega)
theorem An {K:Qd} {u:I5} {s:X9} {j:Nat} {a:Value} (o:Qt.Ow K u s) (nd:(Qt.ids u).Nodup) (hj:j<s.length) (hne:s[j]≠[]) (hf:∀i∈Qt.ids u,frz≤i) (ha:u.2[j]? = some a) :
 ∃z a' K2 K3,Vl Tryz.prog K 145 (some (.int .i64 1)) none a=some z∧
  Y5 Tryz.prog frz K 145 145 (.slice none 0 0) z=some (a',K2)∧Q6 Tryz.prog K2 46 u.1 (.int .i64 (j:Int))=some (Yi u.1 j)∧
  Zu Tryz.prog frz K2 145 a' (Yi u.1 j)=some K3∧VM.live K2 u.1∧VM.live K3 u.1∧VM.one a'=true∧a'.cells=#[a']∧Qp K K2 []∧Put K K3 u (u.1,u.2.set j a') (Uo s j (List.drop 1)):=by
 have hj':j<u.2.length:=by rw [o.1.2.1];exact hj
 obtain ⟨a1,h1,h2,h3,oa,h4,h5,h6⟩:=Sa o hj
 have e1:a1=a:=by rw [ha] at h1;exact (Option.some.inj h1).symm
 subst e1
 have hsl:=o.1.2.1
 have hpos:=List.length_pos_iff.2 hne
 obtain ⟨z,hz,oz,nz⟩:=oa.slice (P:=Tryz.prog) (ty:=145) (lo:=some (.int .i64 1)) (hi:=none) (l:=1) (u:=s[j].length) (by simp) rfl rfl (by omega) (Nat.le_refl _)
 have et:(s[j].drop 1).take (s[j].length-1)=s[j].drop 1:=List.take_of_length_le (by simp)
 rw [et] at oz
 have hlb:=o.2.2 _ (List.getElem_mem hj)
 have on:Ow Yh 148 K (.slice none 0 0) []:=.inl ⟨rfl,rfl⟩
 obtain ⟨a',K2,hap,oa',c12,na'⟩:=on.append (P:=Tryz.prog) (frz:=frz) (ty:=145) oz.rd (by simp) (Re _) (by simp;omega) (by simp)
 rw [List.nil_append] at oa'
 obtain ⟨K3,hst,oL,c3,ndL,idL,l3⟩:=Lw (frz:=frz) (et:=145) (ag:=false) o.1 nd hj' (c12.mono (fun i h=>by simp at h)) oa' (fun i hi=>by
  rcases na' i hi with g|g
  ·simp at g
  ·exact .inr g) (fun i hi=>hf i hi) (by simp)
 have Qow:Qp K K2 []:=c12.mono (fun i h=>by simp at h)
 have ol2:=o.1.1.chg Qow (by simp)
 have ix2:=ol2.rd.idx (P:=Tryz.prog) (ty:=46) (e:=145) (by simp) (i:=(j:Int)) (by omega) (by omega)
 simp only [Int.toNat_natCast,Nat.mul_one,show Fl.val.n=1 from rfl] at ix2
 have hup:=mg hj (List.drop 1)
 refine ⟨z,a',K2,K3,hz,hap,ix2,hst,Xy ol2,Xy oL.1,oa'.rd.one',oa'.rd.cells,Qow,rfl,?_,ndL,idL,c3⟩
 rw [hup]
 exact F7 oL o.2.1 o.2.2 (by simp;omega)
theorem Qed {α:Type} {D:Fl α} {e:TypeId} {K:Qd} {v:Value} {xs:List α} (o:Ow D e K v xs) (h:0<xs.length) (j:Nat):VM.vnil K (Yi v j)=some (Yi v j):=by
 rcases o with ⟨_,rfl⟩|⟨id,off,r,rfl,h2,_⟩
 ·simp at h
 ·simp [Yi,VM.vnil,VM.look,h2]
def vw (v:Wo) (h5 h8 h9:List Value):Wo:=(v.1,v.2.1,(v.2.2.1.1,h5),v.2.2.2.1,v.2.2.2.2.1,(v.2.2.2.2.2.1.1,h8),(v.2.2.2.2.2.2.1.1,h9),v.2.2.2.2.2.2.2)
structure NS (H K:Qd) (W:List Nat) (v:Wo) (y:Qu) (h5 h8 h9:List Value):Prop where
 ow:Qe.Ow K (vw v h5 h8 h9) y
 nd:(Qe.ids (vw v h5 h8 h9)).Nodup
 ids:∀i∈Qe.ids (vw v h5 h8 h9),i∈Qe.ids v∨H.length≤i
 chg:Qp H K (W++Qe.ids v)
theorem NS.start {v:Wo} {y:Qu} (W:List Nat) (o:Qe.Ow H v y) (nd:(Qe.ids v).Nodup):NS H H W v y v.2.2.1.2 v.2.2.2.2.2.1.2 v.2.2.2.2.2.2.1.2:=
 ⟨o,nd,fun i hi=>.inl hi,Qp.refl _⟩
theorem NS.other {K K':Qd} {W:List Nat} {v:Wo} {y:Qu} {h5 h8 h9:List Value} {I:List Nat} (n:NS H K W v y h5 h8 h9) (c:Qp K K' I) (hd:∀i∈Qe.ids (vw v h5 h8 h9),i∉I) (hI:∀i∈I,i∈W∨H.length≤i):NS H K' W v y h5 h8 h9:=
 ⟨Dt.chg (T:=Qe) n.ow c hd,n.nd,n.ids,n.chg.trans' c (fun i hi=>(hI i hi).imp (fun h=>List.mem_append_left _ h) id)⟩
theorem NS.step {K K':Qd} {W:List Nat} {v:Wo} {y y':Qu} {h5 h8 h9 h5' h8' h9':List Value} {I:List Nat} (n:NS H K W v y h5 h8 h9) (c:Qp K K' I) (hI:∀i∈I,i∈Qe.ids (vw v h5 h8 h9))
 (o:Qe.Ow K' (vw v h5' h8' h9') y') (nd:(Qe.ids (vw v h5' h8' h9')).Nodup) (hi:∀i∈Qe.ids (vw v h5' h8' h9'),i∈Qe.ids (vw v h5 h8 h9)∨K.length≤i):NS H K' W v y' h5' h8' h9':=
 ⟨o,nd,fun i h=>by
  rcases hi i h with g|g
  ·exact n.ids i g
  ·have:=n.chg.1;right;omega,n.chg.trans' c (fun i h=>(n.ids i (hI i h)).imp (fun h=>List.mem_append_right _ h) id)⟩
theorem NS.buf {K K':Qd} {W:List Nat} {v:Wo} {y:Qu} {h5 h8 h9 h5':List Value} {s':X9} (n:NS H K W v y h5 h8 h9) (p:Put K K' (v.2.2.1.1,h5) (v.2.2.1.1,h5') s') :
 NS H K' W v (Yw y s') h5' h8 h9∧(∀i∈Qe.ids (vw v h5' h8 h9),i∈Qe.ids (vw v h5 h8 h9)∨K.length≤i)∧Qp K K' (Qe.ids (vw v h5 h8 h9)):=by
 obtain ⟨a,b,c⟩:=kt (n:=vw v h5 h8 h9) (u:=(v.2.2.1.1,h5')) n.ow n.nd p.chg p.ow p.nd p.ids
 exact ⟨n.step p.chg (fun i hi=>Zn (n:=vw v h5 h8 h9) i hi) a b c,c,p.chg.mono (fun i hi=>Zn (n:=vw v h5 h8 h9) i hi)⟩
theorem NS.src {K K':Qd} {W:List Nat} {v:Wo} {y:Qu} {h5 h8 h9 h8':List Value} {s':X9} (n:NS H K W v y h5 h8 h9) (p:Put K K' (v.2.2.2.2.2.1.1,h8) (v.2.2.2.2.2.1.1,h8') s') :
 NS H K' W v (Ps y s') h5 h8' h9∧(∀i∈Qe.ids (vw v h5 h8' h9),i∈Qe.ids (vw v h5 h8 h9)∨K.length≤i)∧Qp K K' (Qe.ids (vw v h5 h8 h9)):=by
 obtain ⟨a,b,c⟩:=Mv (n:=vw v h5 h8 h9) (u:=(v.2.2.2.2.2.1.1,h8')) n.ow n.nd p.chg p.ow p.nd p.ids
 exact ⟨n.step p.chg (fun i hi=>Sl (n:=vw v h5 h8 h9) i hi) a b c,c,p.chg.mono (fun i hi=>Sl (n:=vw v h5 h8 h9) i hi)⟩
theorem NS.arr {K K':Qd} {W:List Nat} {v:Wo} {y:Qu} {h5 h8 h9 h9':List Value} {s':X9} (n:NS H K W v y h5 h8 h9) (p:Put K K' (v.2.2.2.2.2.2.1.1,h9) (v.2.2.2.2.2.2.1.1,h9') s') :
 NS H K' W v (Un y s') h5 h8 h9'∧(∀i∈Qe.ids (vw v h5 h8 h9'),i∈Qe.ids (vw v h5 h8 h9)∨K.length≤i)∧Qp K K' (Qe.ids (vw v h5 h8 h9)):=by
 obtain ⟨a,b,c⟩:=Qap (n:=vw v h5 h8 h9) (u:=(v.2.2.2.2.2.2.1.1,h9')) n.ow n.nd p.chg p.ow p.nd p.ids
 exact ⟨n.step p.chg (fun i hi=>Pf (n:=vw v h5 h8 h9) i hi) a b c,c,p.chg.mono (fun i hi=>Pf (n:=vw v h5 h8 h9) i hi)⟩
theorem NS.own {K:Qd} {W:List Nat} {v:Wo} {y:Qu} {h5 h8 h9:List Value} (n:NS H K W v y h5 h8 h9) (hf:∀i∈Qe.ids (vw v h5 h8 h9),frz≤i) {j:Nat} (hj:j<y.2.2.2.1.length) (z:Int) :
 ∃K',Zu Tryz.prog frz K 3 (.int .i64 z) (Yi v.2.2.2.1 j)=some K'∧NS H K' W v (Tr y (y.2.2.2.1.set j z)) h5 h8 h9∧Qp K K' (Qe.ids (vw v h5 h8 h9)):=by
 obtain ⟨K',s,o,c,l⟩:=n.ow.2.2.2.1.1.put1 (P:=Tryz.prog) (frz:=frz) rfl (et:=3) (ag:=false) (by simp) hj (x:=.int .i64 z) (y:=z) rfl rfl rfl (fun i hi=>hf i (J0 (n:=vw v h5 h8 h9) i hi))
 obtain ⟨a,b,c'⟩:=my (n:=vw v h5 h8 h9) (u:=v.2.2.2.1) (s:=y.2.2.2.1.set j z) n.ow n.nd c ⟨o,by have:=n.ow.2.2.2.1.2;simpa using this⟩ (Qdc (n:=vw v h5 h8 h9) n.nd) (fun i hi=>.inl hi)
 exact ⟨K',s,n.step c (fun i hi=>J0 (n:=vw v h5 h8 h9) i hi) a b c',c.mono (fun i hi=>J0 (n:=vw v h5 h8 h9) i hi)⟩
theorem NS.turn {K:Qd} {W:List Nat} {v:Wo} {y:Qu} {h5 h8 h9:List Value} (n:NS H K W v y h5 h8 h9) (hf:∀i∈Qe.ids (vw v h5 h8 h9),frz≤i) {j:Nat} (hj:j<y.2.2.2.2.1.length) (z:Int) :
 ∃K',Zu Tryz.prog frz K 3 (.int .i64 z) (Yi v.2.2.2.2.1 j)=some K'∧NS H K' W v (Lz y (y.2.2.2.2.1.set j z)) h5 h8 h9∧Qp K K' (Qe.ids (vw v h5 h8 h9)):=by
 obtain ⟨K',s,o,c,l⟩:=n.ow.2.2.2.2.1.1.put1 (P:=Tryz.prog) (frz:=frz) rfl (et:=3) (ag:=false) (by simp) hj (x:=.int .i64 z) (y:=z) rfl rfl rfl (fun i hi=>hf i (Li (n:=vw v h5 h8 h9) i hi))
 obtain ⟨a,b,c'⟩:=kf (n:=vw v h5 h8 h9) (u:=v.2.2.2.2.1) (s:=y.2.2.2.2.1.set j z) n.ow n.nd c ⟨o,by have:=n.ow.2.2.2.2.1.2;simpa using this⟩ (Qat (n:=vw v h5 h8 h9) n.nd) (fun i hi=>.inl hi)
 exact ⟨K',s,n.step c (fun i hi=>Li (n:=vw v h5 h8 h9) i hi) a b c',c.mono (fun i hi=>Li (n:=vw v h5 h8 h9) i hi)⟩
noncomputable def Pz (x:Qu) (i:Nat):Qu:=Yw x (((Wf x).take i).foldl Te x.2.2.1)
noncomputable def Yv (x y:Qu) (i:Nat):Qu:=
 (y.1,y.2.1,((Wf x).take i).foldl (Xv x) y.2.2.1,((Wf x).take i).foldl (Jx x) y.2.2.2.1,((Wf x).take i).foldl On y.2.2.2.2.1,y.2.2.2.2.2.1,((Wf x).take i).foldl (Rh x) y.2.2.2.2.2.2.1,y.2.2.2.2.2.2.2)
noncomputable def Uv (x y:Qu) (i:Nat):Qu:=
 (y.1,y.2.1,((Wk x).take i).foldl (Ns x) y.2.2.1,y.2.2.2.1,y.2.2.2.2.1,((Wk x).take i).foldl jn y.2.2.2.2.2.1,y.2.2.2.2.2.2.1,y.2.2.2.2.2.2.2)
theorem Qia (x:Qu):Ud x=older (Uv x (Yv x (Pz x (Wf x).length) (Wf x).length) (Wk x).length) 1:=by
 unfold Uv Yv Pz older Yw
 simp only [List.take_length]
 rfl
def tgI (x:Qu) (g:Pi):Int:=if g.2.1=4 then -1 else (Mf x g.1 g.2.1 (g.2.2%2):Int)
theorem Ab {K:Qd} {e:TypeId} {v:Value} {l:List Pi} (o:Ow Jv e K v l) {i:Nat} (hi:i<l.length) :
 Q6 Tryz.prog K 156 v (.int .i64 (i:Int))=some (Yi v (i*3))∧Xh Tryz.prog K 188 (Yi v (i*3))=some (.agg (Jv.f l[i]).toArray):=by
 have q1:=o.rd.idx (P:=Tryz.prog) (ty:=156) (e:=188) (by simp) (i:=(i:Int)) (by omega) (by omega)
 have q2:=o.rd.load (P:=Tryz.prog) (e:=188) (by simp) hi
 simp only [Int.toNat_natCast,Qp1] at q1 q2
 exact ⟨q1,q2⟩
def Qeh (H:Qd) (v:Wo) (y:Qu) (id:Nat) (e:TypeId) (tail:List Value) (_:Value) (H':Qd):Prop:=
 ∃v':Wo,H'[id]? = some ⟨Qc v' y++tail,0,e⟩∧Qe.Ow H' v' y∧(Qe.ids v').Nodup∧(∀i∈Qe.ids v',i∈Qe.ids v∨H.length≤i)∧Qp H H' (id::Qe.ids v)
theorem Tb {K:Qd} {w:Value} (h:VM.live K w) (hw:∃a n c,w=.slice (some a) n c) (j:Nat):VM.vnil K (Yi w j)=some (Yi w j):=by
 obtain ⟨a,n,c,rfl⟩:=hw
 simp only [VM.live,Cr] at h
 show (match VM.look K a with|some _=>some (Value.pointer (some ⟨a.block,a.off+j,a.spot⟩))|none=>none)=_
 cases hh:VM.look K a with
 | none=>exact absurd hh h
 | some r=>rfl
theorem qe {α:Type} {D:Fl α} {e:TypeId} {K:Qd} {v:Value} {xs:List α} (o:Ow D e K v xs) (h:0<xs.length):∃a n c,v=.slice (some a) n c:=by
 rcases o with ⟨_,rfl⟩|⟨id,off,r,rfl,h2,_⟩
 ·simp at h
 ·exact ⟨_,_,_,rfl⟩
theorem Qdp {x:Qu} {i:Nat} (h:i<(Wf x).length):Pz x (i+1)=Yw (Pz x i) (Uo (Pz x i).2.2.1 (S1 (Wf x)[i]) (List.drop 1)):=by
 unfold Pz;rw [Vd _ _ h];rfl
theorem zq (x:Qu) (i:Nat):(Pz x i).2.2.1.length=x.2.2.1.length:=Xg je _ _
theorem Qi5 {x:Qu} {i:Nat} (h:i<(Wf x).length):(Pz x i).2.2.1.getD (S1 (Wf x)[i]) []=x.2.2.1.getD (S1 (Wf x)[i]) []:=Qbm _ _ _ (Kr (Gg x) h)
theorem Qji {K:Qd} {e:TypeId} {v:Value} {l:List Q9} (o:Ow Yh e K v l) {i:Nat} (hi:i<l.length) :
 Q6 Tryz.prog K 145 v (.int .i64 (i:Int))=some (Yi v (i*5))∧Xh Tryz.prog K 148 (Yi v (i*5))=some (.agg (Yh.f l[i]).toArray)∧Qy Tryz.prog K 148 4 (Yi v (i*5))=some (Yi v (i*5+4))∧Xh Tryz.prog K 4 (Yi v (i*5+4))=some (.bool l[i].2.2.2.2):=by
 have q1:=o.rd.idx (P:=Tryz.prog) (ty:=145) (e:=148) (by simp) (i:=(i:Int)) (by omega) (by omega)
 have q2:=o.rd.load (P:=Tryz.prog) (e:=148) (by simp) hi
 have q3:=o.rd.field (P:=Tryz.prog) (s:=148) (f:=4) (o:=4) (n:=1) (ag:=false) (by simp) (j:=i*5) (by omega)
 have q4:=o.rd.cell (P:=Tryz.prog) (e:=4) (by simp) hi (c:=4) (by decide)
 simp only [Int.toNat_natCast,Ty] at q1 q2 q4
 simp only [Xp] at q4
 simp at q4
 exact ⟨q1,q2,q3,q4⟩
theorem Eh {K:Qd} {v:Value} {l:List Int} (h:W7 K v l) {i:Nat} (hi:i<l.length) :
 Q6 Tryz.prog K 24 v (.int .i64 (i:Int))=some (Yi v i)∧Xh Tryz.prog K 3 (Yi v i)=some (.int .i64 l[i]):=by
 have q1:=h.idx (P:=Tryz.prog) (ty:=24) (e:=3) (by simp) (i:=(i:Int)) (by omega) (by omega)
 have q2:=h.load (P:=Tryz.prog) (e:=3) (by simp) hi
 simp only [Int.toNat_natCast] at q1
 rw [Wh _ _ hi] at q2
 exact ⟨q1,q2⟩
theorem kg {x y:Qu} {i:Nat} (h:i<(Wf x).length):Yv x y (i+1)=Lz (Tr (Un (Yw (Yv x y i) (Xv x (Yv x y i).2.2.1 (Wf x)[i])) (Rh x (Yv x y i).2.2.2.2.2.2.1 (Wf x)[i])) (Jx x (Yv x y i).2.2.2.1 (Wf x)[i])) (On (Yv x y i).2.2.2.2.1 (Wf x)[i]):=by
 unfold Yv;simp only [Vd _ _ h];rfl
theorem Cn {x y:Qu} {i:Nat} (h:i<(Wk x).length):Uv x y (i+1)=Ps (Yw (Uv x y i) (Ns x (Uv x y i).2.2.1 (Wk x)[i])) (jn (Uv x y i).2.2.2.2.2.1 (Wk x)[i]):=by
 unfold Uv;simp only [Vd _ _ h];rfl
theorem Qgc {v:Wo} {x:Qu} {id:Nat} {e:TypeId} {tail:List Value} (hr:H[id]? = some ⟨Qc v x++tail,0,e⟩) (o:Qe.Ow H v x) (nd:(Qe.ids v).Nodup) (hf:∀i∈Qe.ids v,frz≤i) (hfi:frz≤id) (hid:id∉Qe.ids v) (hfH:frz≤H.length) (hx:Zq x) (hb5:Xf 67000000 x.2.2.1) (hb9:Xf 67000000 x.2.2.2.2.2.2.1) (ht:Xa 0 x.2.2.2.2.2.2.2 1000000) :
 wp (Qh C frz 178 [.pointer (some ⟨id,0,some 0⟩)] H) (Qeh H v (Ud x) id e tail):=by
 have ones:=Qr o
 have cr:=Qz x.1.1 x.1.2.1
 have hidl:=Wj hr
 have hlt:=Qe.lt o
 rw [Qb (fn:=Tryz.f178) Tryz.func178 rfl (by kernel_rfl) rfl]
 simp
 refine Ql (yn hr o hx) ?_
 rintro gl H1 ⟨oG,nG,cG⟩
 simp
 refine Ql (Qal (Qa hr cG (by simp)) (Dt.chg (T:=Qe) o cG (by simp)) hx) ?_
 rintro el H2 ⟨oE,nE,cE⟩
 simp
 obtain ⟨G,hG⟩:∃G,G=H2++[⟨[],0,148⟩,⟨[],0,3⟩]:=⟨_,rfl⟩
 have oM0:Ow Yh 148 G (.slice (some ⟨H2.length,0,some 0⟩) 0 0) []:=by rw [hG];exact Ow.new0 (D:=Yh) (xs:=[]) rfl rfl rfl rfl
 have oT0:Ow Fl.int 3 G (.slice (some ⟨H2.length+1,0,some 0⟩) 0 0) []:=by rw [hG];exact Ow.new (D:=Fl.int) (xs:=[]) (k:=1) rfl rfl rfl rfl
 have c2G:Qp H2 G []:=by rw [hG];exact Qp.app _
 have lG:G.length=H2.length+2:=by rw [hG];simp
 have c0G:Qp H G []:=(cG.trans cE).trans c2G
 have l1:=cG.1
 have l2:=cE.1
 have oG1:=(oG.chg cE (by simp)).chg c2G (by simp)
 have oE1:=oE.chg c2G (by simp)
 have hGs:H2++[⟨[],0,148⟩,⟨[],0,3⟩]=G:=hG.symm
 have ltG:∀i∈ids gl,i<H1.length:=oG.lt
 have ltE:∀i∈ids el,i<H2.length:=oE.lt
 have hgl:=oG1.rd.len (P:=Tryz.prog) (ty:=156) (by simp)
 rw [hGs]
 clear hG hGs
 have hL:=Kx x
 have hat:=fun g (hg:g∈Wf x)=>Tq hg
 have hnd:=Gg x
 simp [hgl]
 -- the targets
 refine Qw (fun n t H'=>∃(i:Nat) (r:Value),n=(Wf x).length-i∧i≤(Wf x).length∧t 0=.pointer (some ⟨id,0,some 0⟩)∧t 2=gl∧t 3=el∧t 4=.slice (some ⟨H2.length,0,some 0⟩) 0 0∧t 5=r∧t 25=gl∧t 26=.int .i64 (Wf x).length∧t 27=.int .i64 i∧
  Qp G H' [H2.length+1]∧Ow Fl.int 3 H' r (((Wf x).take i).map (tgI x))∧(∀j∈ids r,j=H2.length+1∨G.length≤j)) ?_ (n:=(Wf x).length)
  ⟨0,.slice (some ⟨H2.length+1,0,some 0⟩) 0 0,rfl,by omega,by simp,by simp,by simp,by simp,by simp,by simp,by simp,by simp,Qp.refl _,oT0,by simp⟩
 rintro n t H' ⟨i,r,rfl,hi,t0,t2,t3,t4,t5,t25,t26,t27,ch,oT,nT⟩ ih
 simp [t0,t2,t3,t4,t5,t25,t26,t27]
 refine Qm ?_ ?_<;>intro g
 ·have hi':i<(Wf x).length:=by omega
  have oG2:=oG1.chg ch (fun j hj hh=>by have:=ltG j hj;simp at hh;omega)
  obtain ⟨q1,q2⟩:=Ab oG2 hi'
  obtain ⟨m1,m2,m3,m4⟩:=hat _ (List.getElem_mem hi')
  have htk:(Wf x).take (i+1)=(Wf x).take i++[(Wf x)[i]]:=List.take_succ_eq_append_getElem hi'
  generalize (Wf x)[i]=gg at *
  have cH':Qp H H' []:=c0G.trans' ch (fun j hj=>.inr (by simp at hj;omega))
  obtain ⟨c,hc⟩:∃c,c=gg.2.2%2:=⟨_,rfl⟩
  have e3:∀[Inhabited Unit],(gg.2.2:Int).tmod 2=(c:Int):=by intro _;rw [Mj];omega
  have e3':∀[Inhabited Unit],(gg.2.2:Int)%2=(c:Int):=by intro _;omega
  have bh:=fun F L=>zv (frz:=F) (H:=H'++L) (a:=gg.1) (p:=gg.2.1) (c:=c) (Qj (Qa hr cH' (by simp)) L) (Dt.app (T:=Qe) (Dt.chg (T:=Qe) o cH' (by simp))) m1 m2 (by omega)
  have ht:(if gg.2.1≠4∧has x.1.1 x.1.2.1 x.1.2.2 (4*(gg.1:Int)+gg.2.1) then (Mf x gg.1 gg.2.1 c:Int) else -1)=tgI x gg:=by
   unfold tgI
   rw [← hc]
   by_cases h4:gg.2.1=4
   ·rw [if_neg (fun k=>k.1 h4),if_pos h4]
   ·rcases m4.2.1 with k|⟨k,_⟩
    ·exact absurd k h4
    ·rw [if_pos ⟨h4,k⟩,if_neg h4]
  rw [ht] at bh
  obtain ⟨T,hT⟩:∃T,T=tgI x gg:=⟨_,rfl⟩
  rw [← hT] at bh
  simp [t0,t2,t3,t4,t5,t25,t26,t27,q1,q2,Ka,VM.look,e3,e3',bh]
  have hF:frz≤H'.length:=by have:=cH'.1;omega
  have l3:=ch.1
  obtain ⟨r',H3,hap,oT3,c3,n3⟩:=(oT.app (L:=[⟨[.int .i64 (gg.1:Int),.int .i64 (gg.2.1:Int),.int .i64 (gg.2.2:Int)],0,188⟩])).push (P:=Tryz.prog) (frz:=frz) (ty:=24) (a:=T) (by simp) rfl (by simp;omega) (fun j hj=>by have:=nT j hj;omega)
  simp only [Fl.int_f,List.append_assoc,List.cons_append,List.nil_append,List.length_append,List.length_cons,List.length_nil] at hap
  simp [-Q5,-Wm,t0,t2,t3,t4,t5,t25,t26,t27,hF,hap]
  refine ih ((Wf x).length-(i+1)) _ _ ⟨i+1,r',rfl,by omega,by simp [t0],by simp [t2],by simp [t3],by simp [t4],by simp,by simp [t25],by simp [t26],?_,?_,by rw [htk,List.map_append,List.map_cons,List.map_nil,← hT];exact oT3,fun j hj=>?_⟩ (by omega)
  ·simp [t27];rw [Q0 (by omega) (by omega)]
  ·exact (ch.trans (Qp.app _)).trans' c3 (fun j hj=>(nT j hj).imp (fun h=>by simp [h]) _root_.id)
  ·rcases n3 j hj with h1|h1
   ·exact nT j h1
   ·simp at h1;omega
 ·have hil:i=(Wf x).length:=by omega
  subst hil
  rw [List.take_length] at oT
  clear ih
  have cK0:Qp H H' []:=c0G.trans' ch (fun j hj=>.inr (by simp at hj;omega))
  have oG2:=oG1.chg ch (fun j hj hh=>by have:=ltG j hj;simp at hh;omega)
  have oE2:=oE1.chg ch (fun j hj hh=>by have:=ltE j hj;simp at hh;omega)
  have oM2:=oM0.chg ch (by simp)
  have kd:=oG2.rd.len (P:=Tryz.prog) (ty:=156) (by simp)
  have ltT:∀j∈ids r,j<H'.length:=oT.lt
  have nT':∀j∈ids r,H2.length<j:=fun j hj=>by rcases nT j hj with h|h<;>omega
  have hr0:=Qa hr cK0 (by simp)
  have ns0:NS H' H' [H2.length] v x _ _ _:=NS.start [H2.length] (Dt.chg (T:=Qe) o cK0 (by simp)) nd
  have lK0:H2.length+2≤H'.length:=by have:=ch.1;omega
  simp [t0,t2,t3,t4,t5,t25,t26,t27,kd]
  -- the pops
  clear ch oT0 oG1 oE1 oM0 hgl c2G
  refine Qw (fun n t K=>∃(i:Nat) (mv:Value) (h5:List Value),n=(Wf x).length-i∧i≤(Wf x).length∧t 0=.pointer (some ⟨id,0,some 0⟩)∧t 2=gl∧t 3=el∧t 4=mv∧t 5=r∧t 44=gl∧t 45=.int .i64 (Wf x).length∧t 46=.int .i64 i∧
   NS H' K [H2.length] v (Pz x i) h5 v.2.2.2.2.2.1.2 v.2.2.2.2.2.2.1.2∧Ow Yh 148 K mv (((Wf x).take i).map fun g=>Yn x (S1 g))∧(∀j∈ids mv,(j=H2.length∨H'.length≤j)∧j∉Qe.ids (vw v h5 v.2.2.2.2.2.1.2 v.2.2.2.2.2.2.1.2))) ?_ (n:=(Wf x).length)
   ⟨0,.slice (some ⟨H2.length,0,some 0⟩) 0 0,v.2.2.1.2,rfl,by omega,by simp [t0],by simp [t2],by simp [t3],by simp [t4],by simp [t5],by simp,by simp,by simp,ns0,oM2,fun j hj=>⟨.inl (by simpa using hj),fun hh=>by have:=hlt j hh;simp at hj;omega⟩⟩
  clear t0 t2 t3 t4 t5 t25 t26 t27
  rintro n t K ⟨i,mv,h5,rfl,hi,t0,t2,t3,t4,t5,t44,t45,t46,ns,oM,nM⟩ ih
  simp [t0,t2,t3,t4,t5,t44,t45,t46]
  refine Qm ?_ ?_<;>intro g
  ·have hi':i<(Wf x).length:=by omega
   have oG3:=oG2.chg ns.chg (fun j hj hh=>by
    have h1:=ltG j hj
    have h2:=nG j hj
    rcases List.mem_append.1 hh with hh|hh
    ·simp at hh;omega
    ·have:=hlt j hh;omega)
   obtain ⟨q1,q2⟩:=Ab oG3 hi'
   obtain ⟨m1,m2,m3,m4⟩:=hat _ (List.getElem_mem hi')
   have htk:(Wf x).take (i+1)=(Wf x).take i++[(Wf x)[i]]:=List.take_succ_eq_append_getElem hi'
   have hps:=Qdp hi'
   have hpa:=Qi5 hi'
   generalize (Wf x)[i]=gg at *
   obtain ⟨j,hj⟩:∃j,j=S1 gg:=⟨_,rfl⟩
   rw [← hj] at hps hpa
   have hjl:j<(Pz x i).2.2.1.length:=by rw [zq];have:=hx.2.1.1;unfold S1 at hj;omega
   have hgd:(Pz x i).2.2.1.getD j []=(Pz x i).2.2.1[j]:=by simp [List.getD_eq_getElem?_getD,hjl]
   have hne:(Pz x i).2.2.1[j]≠[]:=by rw [← hgd,hpa,hj];exact Ia m4
   have hhd:Zx (Pz x i).2.2.1[j]=Yn x (S1 gg):=by rw [← hgd,hpa,hj];rfl
   have e1:=@w6 (10*(gg.1:Int)) (by omega)
   have e2:∀[Inhabited Unit],IntKind.i64.wrap (10*(gg.1:Int)+(gg.2.2:Int))=(j:Int):=by intro _;unfold S1 at hj;rw [Q0 (by omega) (by omega)];omega
   have hrK:=Qa hr0 ns.chg (fun hh=>by
    rcases List.mem_append.1 hh with hh|hh
    ·simp at hh;omega
    ·exact hid hh)
   unfold Qc at hrK
   simp only [List.cons_append,List.nil_append] at hrK
   obtain ⟨A,hA⟩:∃A,A=K++[⟨[.int .i64 (gg.1:Int),.int .i64 (gg.2.1:Int),.int .i64 (gg.2.2:Int)],0,188⟩]:=⟨_,rfl⟩
   have cA:Qp K A []:=by rw [hA];exact Qp.app _
   have lA:A.length=K.length+1:=by rw [hA];simp
   have bx:A[K.length]? = some ⟨[.int .i64 (gg.1:Int),.int .i64 (gg.2.1:Int),.int .i64 (gg.2.2:Int)],0,188⟩:=by rw [hA];simp
   have nsA:=ns.other cA (by simp) (by simp)
   have oMA:=oM.chg cA (by simp)
   have hrA:=Qa hrK cA (by simp)
   obtain ⟨a,a1,a2,a3,oa,qa1,qa2,lvA⟩:=Sa (u:=(v.2.2.1.1,h5)) nsA.ow.2.2.1 hjl
   obtain ⟨z0,_,_,_,_,_,_,zw⟩:=front oa.rd hne
   rw [hhd] at zw
   have ltM:=oM.lt
   have lcK:=ns.chg.1
   obtain ⟨f,hfe⟩:∃f,f=Yn x (S1 gg):=⟨_,rfl⟩
   rw [← hfe] at zw
   obtain ⟨mv',B,hap,oM',cB,nB⟩:=oMA.push (P:=Tryz.prog) (frz:=frz) (ty:=145) (a:=f) (by simp) rfl (by simp;omega) (fun k hk=>by have:=(nM k hk).1;omega)
   have nsB:=nsA.other cB (fun k hk hh=>(nM k hh).2 hk) (fun k hk=>(nM k hk).1.imp (fun h=>by simp [h]) _root_.id)
   have hfn:∀k∈Qe.ids (vw v h5 v.2.2.2.2.2.1.2 v.2.2.2.2.2.2.1.2),frz≤k:=fun k hk=>by
    rcases ns.ids k hk with g|g
    ·exact hf k g
    ·omega
   have lcB:=cB.1
   obtain ⟨z,a',K2,K3,p1,p2,p3,p4,p5,p6,lv1,lv2,lv3,qb1,qb2,c2,pt⟩:=Qkw (frz:=frz) (u:=(v.2.2.1.1,h5)) nsB.ow.2.2.1 (So (n:=vw v h5 v.2.2.2.2.2.1.2 v.2.2.2.2.2.2.1.2) nsB.nd) hjl hne (fun k hk=>hfn k (Zn (n:=vw v h5 v.2.2.2.2.2.1.2 v.2.2.2.2.2.2.1.2) k hk)) (by omega) a1
   simp only at a2 a3 lvA p1 p2 p5 p6 lv1 lv2 lv3
   obtain ⟨nsC,nC,cC⟩:=nsB.buf pt
   have hw:=qe nsA.ow.2.2.1.1.1 (by show 0<h5.length;have:=nsA.ow.2.2.1.1.2.1;have h2:(vw v h5 v.2.2.2.2.2.1.2 v.2.2.2.2.2.2.1.2).2.2.1.2=h5:=rfl;rw [h2] at this;omega)
   have hw':∃a n c,v.2.2.1.1=.slice (some a) n c:=hw
   have vA:=Tb lvA hw' j
   have lvB:VM.live B v.2.2.1.1:=Xy nsB.ow.2.2.1.1.1
   have vB:=Tb lvB hw' j
   have v1:=Tb lv1 hw' j
   have v2:=Tb lv2 hw' j
   have aB:Xh Tryz.prog B 145 (Yi v.2.2.1.1 j)=some a:=by
    obtain ⟨ab,b1,b2,b3,_⟩:=Sa (u:=(v.2.2.1.1,h5)) nsB.ow.2.2.1 hjl
    rw [a1] at b1;cases b1;exact b3
   have hFK:frz≤K.length:=by omega
   have hFA:frz≤A.length:=by omega
   have hFB:frz≤B.length:=by omega
   simp only [Xp] at hap zw
   have hAs:K++[⟨[.int .i64 (gg.1:Int),.int .i64 (gg.2.1:Int),.int .i64 (gg.2.2:Int)],0,188⟩]=A:=hA.symm
   simp [t0,t2,t3,t4,t5,t44,t45,t46,q1,q2,Ka]
   rw [hAs]
   clear hA hAs
   rw [Qv (h:=by kernel_rfl)]
   have vI:VM.vnil A (.pointer (some ⟨id,0,some 0⟩))=some (.pointer (some ⟨id,0,some 0⟩)):=by simp [VM.vnil,VM.look,hrA]
   simp [-Q5,-Wm,t0,t2,t3,t4,t5,t44,t45,t46,VM.look,hrA,vI,bx,ones,e1,e2,a2,vA,a3,z0,zw,hFK,hFA,hap,hFB,vB,v1,v2,p1,p3,p4,p6,qa1,qa2,qb1,qb2]
   have ltN:∀k∈Qe.ids (vw v h5 v.2.2.2.2.2.1.2 v.2.2.2.2.2.2.1.2),k<K.length:=fun k hk=>Qe.lt ns.ow k hk
   have dMN:∀k∈ids mv',k∉Qe.ids (vw v h5 v.2.2.2.2.2.1.2 v.2.2.2.2.2.2.1.2):=fun k hk hh=>by
    rcases nB k hk with h|h
    ·exact (nM k h).2 hh
    ·have:=ltN k hh;omega
   have ltM':=oM'.lt
   refine ih ((Wf x).length-(i+1)) _ _ ⟨i+1,mv',h5.set j a',rfl,by omega,by simp [t0],by simp [t2],by simp [t3],by simp,by simp [t5],by simp [t44],by simp [t45],?_,by rw [hps];exact nsC,?_,fun k hk=>⟨?_,fun hh=>?_⟩⟩ (by omega)
   ·simp [t46];rw [Q0 (by omega) (by omega)]
   ·rw [htk,List.map_append,List.map_cons,List.map_nil,← hfe];exact oM'.chg cC dMN
   ·rcases nB k hk with h|h
    ·exact (nM k h).1
    ·right;omega
   ·rcases nC k hh with h|h
    ·exact dMN k hk h
    ·have:=ltM' k hk;omega
  ·have hil:i=(Wf x).length:=by omega
   subst hil
   rw [List.take_length] at oM
   clear ih
   -- between the loops: the network w,y1
   have hrK:K[id]? = some ⟨Qc (vw v h5 v.2.2.2.2.2.1.2 v.2.2.2.2.2.2.1.2) (Pz x (Wf x).length)++tail,0,e⟩:=Qa hr0 ns.chg (fun hh=>by
    rcases List.mem_append.1 hh with hh|hh
    ·simp at hh;omega
    ·exact hid hh)
   have hdn:∀k,H.length≤k→k<H2.length∨H2.length<k→k<H'.length→k∉[H2.length]++Qe.ids v:=fun k h1 h2 h3 hh=>by
    rcases List.mem_append.1 hh with hh|hh
    ·simp at hh;omega
    ·have:=hlt k hh;omega
   have lG1:H1.length≤H2.length:=cE.1
   have oG3:=oG2.chg ns.chg (fun k hk=>hdn k (nG k hk) (.inl (by have:=ltG k hk;omega)) (by have:=ltG k hk;omega))
   have oE3:=oE2.chg ns.chg (fun k hk=>hdn k (by have:=nE k hk;omega) (.inl (ltE k hk)) (by have:=ltE k hk;omega))
   have oT3:=oT.chg ns.chg (fun k hk=>hdn k (by have:=nT' k hk;omega) (.inr (nT' k hk)) (ltT k hk))
   have hfw:∀k∈Qe.ids (vw v h5 v.2.2.2.2.2.1.2 v.2.2.2.2.2.2.1.2),(k∈Qe.ids v∨H'.length≤k):=ns.ids
   have nM':=fun k hk=>(nM k hk).2
   have Qy5:=oG3.rd.len (P:=Tryz.prog) (ty:=156) (by simp)
   have c1K:=ns.chg
   have b5:Xf 67000000 (Pz x (Wf x).length).2.2.1:=Bf _ _ hb5
   have l5:(Pz x (Wf x).length).2.2.1.length=x.2.2.1.length:=zq x _
   have ns1:NS K K [] (vw v h5 v.2.2.2.2.2.1.2 v.2.2.2.2.2.2.1.2) (Pz x (Wf x).length) _ _ _:=NS.start [] ns.ow ns.nd
   simp [t0,t2,t3,t4,t5,t44,t45,t46,Qy5]
   clear ns hr0 oG2 oE2 oM2 oT nM kd
   generalize hw:vw v h5 v.2.2.2.2.2.1.2 v.2.2.2.2.2.2.1.2=w at *
   obtain ⟨y1,hy1⟩:∃y1,y1=Pz x (Wf x).length:=⟨_,rfl⟩
   rw [← hy1] at hrK b5 l5 ns1
   have ye:y1.1=x.1∧y1.2.1=x.2.1∧y1.2.2.2.1=x.2.2.2.1∧y1.2.2.2.2.1=x.2.2.2.2.1∧y1.2.2.2.2.2.1=x.2.2.2.2.2.1∧y1.2.2.2.2.2.2.1=x.2.2.2.2.2.2.1∧y1.2.2.2.2.2.2.2=x.2.2.2.2.2.2.2:=by rw [hy1];exact ⟨rfl,rfl,rfl,rfl,rfl,rfl,rfl⟩
   have lK1:H'.length≤K.length:=c1K.1
   have hidw:id∉Qe.ids w:=fun hh=>by
    rcases hfw _ hh with h|h
    ·exact hid h
    ·omega
   have hgw:∀k,H.length≤k→k<H'.length→k∉Qe.ids w:=fun k h1 h2 hh=>by
    rcases hfw k hh with h|h
    ·have:=hlt k h;omega
    ·omega
   have hff:∀k∈Qe.ids w,frz≤k:=fun k hk=>by
    rcases hfw k hk with h|h
    ·exact hf k h
    ·omega
   have onew:=Qr (v:=w) ns1.ow
   -- the pushes
   refine Qw (fun n t J=>∃(i:Nat) (g5 g9:List Value),n=(Wf x).length-i∧i≤(Wf x).length∧t 0=.pointer (some ⟨id,0,some 0⟩)∧t 3=el∧t 4=mv∧t 5=r∧t 78=gl∧t 79=.int .i64 (Wf x).length∧t 80=.int .i64 i∧
    NS K J [] w (Yv x y1 i) g5 w.2.2.2.2.2.1.2 g9) ?_ (n:=(Wf x).length)
    ⟨0,w.2.2.1.2,w.2.2.2.2.2.2.1.2,rfl,by omega,by simp [t0],by simp [t3],by simp [t4],by simp [t5],by simp,by simp,by simp,ns1⟩
   clear t0 t2 t3 t4 t5 t44 t45 t46
   rintro n t J ⟨i,g5,g9,rfl,hi,t0,t3,t4,t5,t78,t79,t80,ns⟩ ih
   simp [t0,t3,t4,t5,t78,t79,t80]
   refine Qm ?_ ?_<;>intro g
   ·have hi':i<(Wf x).length:=by omega
    have oG4:=oG3.chg ns.chg (fun k hk hh=>by
     rw [List.nil_append] at hh
     exact hgw k (nG k hk) (by have:=ltG k hk;omega) hh)
    obtain ⟨q1,q2⟩:=Ab oG4 hi'
    obtain ⟨m1,m2,m3,m4⟩:=hat _ (List.getElem_mem hi')
    have hps:=kg (y:=y1) hi'
    have lmv:i<((Wf x).map fun g=>Yn x (S1 g)).length:=by simpa using hi'
    have lti:i<((Wf x).map (tgI x)).length:=by simpa using hi'
    have emv:((Wf x).map fun g=>Yn x (S1 g))[i]=Yn x (S1 (Wf x)[i]):=by simp
    have eti:((Wf x).map (tgI x))[i]=tgI x (Wf x)[i]:=by simp
    obtain ⟨J1,hJ1⟩:∃J1,J1=J++[⟨Jv.f (Wf x)[i],0,188⟩]:=⟨_,rfl⟩
    have cJ:Qp J J1 []:=by rw [hJ1];exact Qp.app _
    have lJ:J1.length=J.length+1:=by rw [hJ1];simp
    have bx:J1[J.length]? = some ⟨Jv.f (Wf x)[i],0,188⟩:=by rw [hJ1];simp
    have hJs:J++[⟨Jv.f (Wf x)[i],0,188⟩]=J1:=hJ1.symm
    generalize (Wf x)[i]=gg at *
    simp only [Ka] at bx hJs
    have nsA:=ns.other cJ (by simp) (by simp)
    obtain ⟨c,hc⟩:∃c,c=gg.2.2%2:=⟨_,rfl⟩
    obtain ⟨q,hq⟩:∃q,q=gg.2.2/2:=⟨_,rfl⟩
    obtain ⟨f,hfe⟩:∃f,f=Yn x (S1 gg):=⟨_,rfl⟩
    rw [← hfe] at emv
    have hFJ:frz≤J.length:=by have:=ns.chg.1;omega
    have rowA:∀J':Qd,Qp K J' ([]++Qe.ids w)→J'[id]? = some ⟨Qc w y1++tail,0,e⟩:=fun J' c=>Qa hrK c (by simpa using hidw)
    have mvA:∀J':Qd,Qp K J' ([]++Qe.ids w)→Ow Yh 148 J' mv _:=fun J' c=>oM.chg c (fun k hk=>by simpa using nM' k hk)
    have tlA:∀J':Qd,Qp K J' ([]++Qe.ids w)→Ow Fl.int 3 J' r _:=fun J' c=>oT3.chg c (fun k hk hh=>by rw [List.nil_append] at hh;exact hgw k (by have:=nT' k hk;omega) (ltT k hk) hh)
    have e3:∀[Inhabited Unit],(gg.2.2:Int).tmod 2=(c:Int):=by intro _;rw [Mj];omega
    have e3':∀[Inhabited Unit],(gg.2.2:Int)%2=(c:Int):=by intro _;omega
    have e4:∀[Inhabited Unit],IntKind.i64.wrap ((gg.2.2:Int)/2)=(q:Int):=by intro _;rw [Q0 (by omega) (by omega)];omega
    have rA:=rowA J1 nsA.chg
    unfold Qc at rA
    simp only [List.cons_append,List.nil_append] at rA
    obtain ⟨u1,u2⟩:=Eh (tlA J1 nsA.chg).rd.isI lti
    rw [eti] at u2
    have hNx:(x.2.2.1.length:Int)=10*cnt x.1.1 x.1.2.1:=hx.2.1.1
    have l9:(Yv x y1 i).2.2.2.2.2.2.1.length=x.2.2.2.2.2.2.1.length:=by rw [← ye.2.2.2.2.2.1];exact Xg (Eu x) _ _
    have l5':(Yv x y1 i).2.2.1.length=x.2.2.1.length:=by rw [← l5];exact Xg (Jo x) _ _
    have h9l:gg.1<(Yv x y1 i).2.2.2.2.2.2.1.length:=by rw [l9];have:=hx.2.1.2.2.2.2;omega
    obtain ⟨a9,r1,r2,r3,r4,r5,r6,r7⟩:=Sa (u:=(w.2.2.2.2.2.2.1.1,g9)) nsA.ow.2.2.2.2.2.2.1 h9l
    simp only at r2 r3 r7
    have vI:∀J':Qd,J'[id]? = some ⟨Qc w y1++tail,0,e⟩→VM.vnil J' (.pointer (some ⟨id,0,some 0⟩))=some (.pointer (some ⟨id,0,some 0⟩)):=fun J' h=>by simp [VM.vnil,VM.look,h]
    have vI1:=vI J1 (rowA J1 nsA.chg)
    simp [t0,t3,t4,t5,t78,t79,t80,q1,q2,Ka]
    rw [hJs]
    clear hJ1 hJs
    rw [Qv (h:=by kernel_rfl)]
    have hlw:∀k∈Qe.ids (vw w g5 w.2.2.2.2.2.1.2 g9),k<J.length:=fun k hk=>Qe.lt ns.ow k hk
    have hfg:∀k∈Qe.ids (vw w g5 w.2.2.2.2.2.1.2 g9),frz≤k:=fun k hk=>by
     rcases ns.ids k hk with h|h
     ·exact hff k h
     ·omega
    have b5i:=Xe (Y7 (Nv x) ((Wf x).take i) y1.2.2.1 67000000 b5) (show _≤67000080 by simp;omega)
    have b9i:=Xe (Y7 (Ec x) ((Wf x).take i) y1.2.2.2.2.2.2.1 67000000 (by rw [ye.2.2.2.2.2.1];exact hb9)) (show _≤67000080 by simp;omega)
    obtain ⟨w1,w2,w3,w4⟩:=Qji (mvA J1 nsA.chg) lmv
    rw [emv] at w2
    simp only [Xp] at w2
    have hJJ:([⟨[.int .i64 f.1,.int .i64 f.2.1,.int .i64 f.2.2.1,.bool f.2.2.2.1,.bool f.2.2.2.2],0,148⟩]:Qd)=[⟨Yh.f f,0,148⟩]:=rfl
    have Qh5:frz≤J1.length:=by omega
    have hF1:frz≤J.length+1:=by omega
    simp [t0,t3,t4,t5,t78,t79,t80,VM.look,rA,vI1,bx,onew,r2,u1,u2,hFJ]
    -- the flit is put
    refine Rp (F:=?FA1) (k:=?kA1) (Q:=?QA1) (fun t J2=>∃(g5' g9':List Value),t 0=.pointer (some ⟨id,0,some 0⟩)∧t 3=el∧t 4=mv∧t 5=r∧t 11=.int .i64 i∧t 12=.pointer (some ⟨J.length,0,some 0⟩)∧t 78=gl∧t 79=.int .i64 (Wf x).length∧t 80=.int .i64 i∧
     J2[J.length]? = some ⟨[.int .i64 (gg.1:Int),.int .i64 (gg.2.1:Int),.int .i64 (gg.2.2:Int)],0,188⟩∧NS K J2 [] w (Un (Yw (Yv x y1 i) (Xv x (Yv x y1 i).2.2.1 gg)) (Rh x (Yv x y1 i).2.2.2.2.2.2.1 gg)) g5' w.2.2.2.2.2.1.2 g9'∧∀k∈Qe.ids (vw w g5' w.2.2.2.2.2.1.2 g9'),k≠J.length) ?main ?rest
    case main=>
     intro rest
     by_cases h4:gg.2.1=4
     ·have hT:tgI x gg=-1:=by unfold tgI;rw [if_pos h4]
      obtain ⟨a',K2,K3,hap,p5,p6,lv2,lv3,qb1,qb2,c2,pt⟩:=N8 (frz:=frz) (u:=(w.2.2.2.2.2.2.1.1,g9)) nsA.ow.2.2.2.2.2.2.1 (Bl (n:=vw w g5 w.2.2.2.2.2.1.2 g9) nsA.nd) h9l (by have:=b9i _ (List.getElem_mem h9l);omega) (fun k hk=>hfg k (Pf (n:=vw w g5 w.2.2.2.2.2.1.2 g9) k hk)) r1 f
      simp only at p5 p6 lv2 lv3
      obtain ⟨nsC,nC,cC⟩:=nsA.arr pt
      have hwa:=qe nsA.ow.2.2.2.2.2.2.1.1.1 (by show 0<g9.length;have:=nsA.ow.2.2.2.2.2.2.1.1.2.1;have h2:(vw w g5 w.2.2.2.2.2.1.2 g9).2.2.2.2.2.2.1.2=g9:=rfl;rw [h2] at this;omega)
      have v1:=Tb r7 hwa gg.1
      have v2:=Tb lv2 hwa gg.1
      have bx3:=Qa bx cC (fun hh=>by have:=hlw _ hh;omega)
      simp only [Xp] at hap
      simp [hT]
      rw [Qv (h:=by kernel_rfl)]
      simp [-Q5,-Wm,t0,t3,t4,t5,t78,t79,t80,VM.look,v1,r3,w1,w2,hap,v2,p6,r5,r6,qb1,qb2,Qh5]
      refine rest _ _ ?_
      have e1:Un (Yw (Yv x y1 i) (Xv x (Yv x y1 i).2.2.1 gg)) (Rh x (Yv x y1 i).2.2.2.2.2.2.1 gg)=Un (Yv x y1 i) (Uo (Yv x y1 i).2.2.2.2.2.2.1 gg.1 (·++[f])):=by
       unfold Xv Rh;rw [if_pos h4,if_pos h4,hfe];rfl
      rw [e1]
      exact ⟨g5,g9.set gg.1 a',by simp [t0],by simp [t3],by simp [t4],by simp [t5],by simp,by simp,by simp [t78],by simp [t79],by simp [t80],bx3,nsC,fun k hk=>by rcases nC k hk with h|h;(have:=hlw k h;omega);omega⟩
     ·obtain ⟨hh,hroom⟩:=m4.2.1.resolve_left h4
      rw [← hc] at hroom
      obtain ⟨s1,s2,s3⟩:=Sh (c:=c) hh (by omega) (by omega)
      obtain ⟨z,hz⟩:∃z,z=Mf x gg.1 gg.2.1 c:=⟨_,rfl⟩
      rw [← hz] at s1 s2 s3
      have hT:tgI x gg=(z:Int):=by unfold tgI;rw [if_neg h4,← hc,hz]
      have hzl:z<(Yv x y1 i).2.2.1.length:=by rw [l5'];omega
      obtain ⟨az,d1,d2,d3,d4,d5,d6,d7⟩:=Sa (u:=(w.2.2.1.1,g5)) nsA.ow.2.2.1 hzl
      simp only at d2 d3 d7
      obtain ⟨a',K2,K3,hap,p5,p6,lv2,lv3,qb1,qb2,c2,pt⟩:=N8 (frz:=frz) (u:=(w.2.2.1.1,g5)) nsA.ow.2.2.1 (So (n:=vw w g5 w.2.2.2.2.2.1.2 g9) nsA.nd) hzl (by have:=b5i _ (List.getElem_mem hzl);omega) (fun k hk=>hfg k (Zn (n:=vw w g5 w.2.2.2.2.2.1.2 g9) k hk)) d1 f
      simp only at p5 p6 lv2 lv3
      obtain ⟨nsC,nC,cC⟩:=nsA.buf pt
      have hwa:=qe nsA.ow.2.2.1.1.1 (by show 0<g5.length;have:=nsA.ow.2.2.1.1.2.1;have h2:(vw w g5 w.2.2.2.2.2.1.2 g9).2.2.1.2=g5:=rfl;rw [h2] at this;omega)
      have v1:=Tb d7 hwa z
      have v2:=Tb lv2 hwa z
      have bx3:=Qa bx cC (fun hh=>by have:=hlw _ hh;omega)
      rw [hT] at u2
      simp only [Xp] at hap
      simp [hT]
      rw [Qv (h:=by kernel_rfl)]
      simp [t0,t3,t4,t5,t78,t79,t80,VM.look,rA,vI1,onew,u1,u2,d2]
      rw [Qv (h:=by kernel_rfl)]
      simp [-Q5,-Wm,t0,t3,t4,t5,t78,t79,t80,VM.look,v1,d3,w1,w2,hap,v2,p6,d5,d6,qb1,qb2,Qh5]
      refine rest _ _ ?_
      have e1:Un (Yw (Yv x y1 i) (Xv x (Yv x y1 i).2.2.1 gg)) (Rh x (Yv x y1 i).2.2.2.2.2.2.1 gg)=Yw (Yv x y1 i) (Uo (Yv x y1 i).2.2.1 z (·++[f])):=by
       unfold Xv Rh;rw [if_neg h4,if_neg h4,hfe,hz,hc];rfl
      rw [e1]
      exact ⟨g5.set z a',g9,by simp [t0],by simp [t3],by simp [t4],by simp [t5],by simp,by simp,by simp [t78],by simp [t79],by simp [t80],bx3,nsC,fun k hk=>by rcases nC k hk with h|h;(have:=hlw k h;omega);omega⟩
    case rest=>
     rintro t J2 ⟨g5',g9',t0,t3,t4,t5,t11,t12,t78,t79,t80,bx2,ns2,D3⟩
     obtain ⟨s2,hs2⟩:∃s2,s2=Un (Yw (Yv x y1 i) (Xv x (Yv x y1 i).2.2.1 gg)) (Rh x (Yv x y1 i).2.2.2.2.2.2.1 gg):=⟨_,rfl⟩
     rw [← hs2] at hps ns2
     have Qfs:s2.2.2.2.1=(Yv x y1 i).2.2.2.1:=by rw [hs2];rfl
     have wx:s2.2.2.2.2.1=(Yv x y1 i).2.2.2.2.1:=by rw [hs2];rfl
     have lown:s2.2.2.2.1.length=x.2.2.2.1.length:=by rw [Qfs,← ye.2.2.1];exact Xg (E9 x) _ _
     have lturn:s2.2.2.2.2.1.length=x.2.2.2.2.1.length:=by rw [wx,← ye.2.2.2.1];exact Xg Jc _ _
     clear hs2
     have rA2:=rowA J2 ns2.chg
     have vI2:=vI J2 rA2
     unfold Qc at rA2
     simp only [List.cons_append,List.nil_append] at rA2
     obtain ⟨z,hz⟩:∃z,z=Yb gg.1 gg.2.1 c:=⟨_,rfl⟩
     have hzl:z<s2.2.2.2.1.length:=by rw [lown,hz];have:=hx.2.1.2.1;unfold Yb;omega
     have bA:=fun F=>Mx (frz:=F) (H:=J2) (n:=gg.1) (p:=gg.2.1) (c:=c) (by omega) m2 (by omega)
     rw [← hz] at bA
     obtain ⟨o1,_⟩:=Eh (Rd.isI ns2.ow.2.2.2.1.1.rd) hzl
     have o1':Q6 Tryz.prog J2 24 w.2.2.2.1 (.int .i64 (z:Int))=some (Yi w.2.2.2.1 z):=o1
     have Cb:∀k∈Qe.ids (vw w g5' w.2.2.2.2.2.1.2 g9'),frz≤k:=fun k hk=>by
      rcases ns2.ids k hk with h|h
      ·exact hff k h
      ·have:=ns2.chg.1;omega
     obtain ⟨J3,st3,ns3,c3⟩:=ns2.own (frz:=frz) Cb hzl (q:Int)
     have vo:=Qed ns2.ow.2.2.2.1.1 (by omega) z
     have vo':VM.vnil J2 (Yi w.2.2.2.1 z)=some (Yi w.2.2.2.1 z):=vo
     rw [Qv (h:=by kernel_rfl)]
     have hnot:J.length∉Qe.ids (vw w g5' w.2.2.2.2.2.1.2 g9'):=fun hh=>D3 _ hh rfl
     have bx3:=Qa bx2 c3 hnot
     obtain ⟨y1',y2',y3',y4'⟩:=Qji (mvA J3 ns3.chg) lmv
     rw [emv] at y4'
     have vo3:VM.vnil J3 (Yi w.2.2.2.1 z)=some (Yi w.2.2.2.1 z):=Qed (v:=w.2.2.2.1) ns3.ow.2.2.2.1.1 (by show 0<(s2.2.2.2.1.set z (q:Int)).length;simp;omega) z
     simp [-Qy,Wr,t0,t3,t4,t5,t11,t12,t78,t79,t80,VM.look,rA2,vI2,bx2,onew,e3,e3',bA,o1',e4,vo',st3,y1',y3',y4']
     have hos:Jx x s2.2.2.2.1 gg=s2.2.2.2.1.set z (if f.2.2.2.2 then -1 else (q:Int)):=by unfold Jx;rw [← hfe,hz,hc,hq]
     -- the owner
     refine Rp (F:=?FA2) (k:=?kA2) (Q:=?QA2) (fun t J4=>t 0=.pointer (some ⟨id,0,some 0⟩)∧t 3=el∧t 4=mv∧t 5=r∧t 12=.pointer (some ⟨J.length,0,some 0⟩)∧t 78=gl∧t 79=.int .i64 (Wf x).length∧t 80=.int .i64 i∧
      J4[J.length]? = some ⟨[.int .i64 (gg.1:Int),.int .i64 (gg.2.1:Int),.int .i64 (gg.2.2:Int)],0,188⟩∧NS K J4 [] w (Tr s2 (Jx x s2.2.2.2.1 gg)) g5' w.2.2.2.2.2.1.2 g9') ?main2 ?rest2
     case main2=>
      intro rest
      cases ht:f.2.2.2.2 with
      | false=>
       rw [ht,if_neg (by simp)] at hos
       simp
       refine rest _ _ ?_
       rw [hos]
       exact ⟨by simp [t0],by simp [t3],by simp [t4],by simp [t5],by simp [t12],by simp [t78],by simp [t79],by simp [t80],bx3,ns3⟩
      | true=>
       rw [ht,if_pos rfl] at hos
       obtain ⟨J4,st4,ns4,c4⟩:=ns3.own (frz:=frz) Cb (j:=z) (by show z<(s2.2.2.2.1.set z (q:Int)).length;simp;omega) (-1)
       have e1:Tr (Tr s2 (s2.2.2.2.1.set z (q:Int))) ((Tr s2 (s2.2.2.2.1.set z (q:Int))).2.2.2.1.set z (-1))=Tr s2 (s2.2.2.2.1.set z (-1)):=by
        show Tr s2 ((s2.2.2.2.1.set z (q:Int)).set z (-1))=_
        rw [List.set_set]
       rw [e1] at ns4
       simp [t0,t3,t4,t5,t11,t12,t78,t79,t80,vo3,st4]
       refine rest _ _ ?_
       rw [hos]
       exact ⟨by simp [t0],by simp [t3],by simp [t4],by simp [t5],by simp [t12],by simp [t78],by simp [t79],by simp [t80],Qa bx3 c4 hnot,ns4⟩
     case rest2=>
      rintro t J4 ⟨t0,t3,t4,t5,t12,t78,t79,t80,bx4,ns4⟩
      have rA4:=rowA J4 ns4.chg
      have vI4:=vI J4 rA4
      unfold Qc at rA4
      simp only [List.cons_append,List.nil_append] at rA4
      obtain ⟨zt,hzt⟩:∃zt,zt=5*gg.1+gg.2.1:=⟨_,rfl⟩
      obtain ⟨d,hd⟩:∃d,d=(gg.2.2+1)%10:=⟨_,rfl⟩
      have hztl:zt<s2.2.2.2.2.1.length:=by rw [lturn,hzt];have:=hx.2.1.2.2.1;omega
      obtain ⟨o4,_⟩:=Eh (Rd.isI ns4.ow.2.2.2.2.1.1.rd) hztl
      have o4':Q6 Tryz.prog J4 24 w.2.2.2.2.1 (.int .i64 (zt:Int))=some (Yi w.2.2.2.2.1 zt):=o4
      obtain ⟨J5,st5,ns5,c5⟩:=ns4.turn (frz:=frz) Cb (j:=zt) hztl (d:Int)
      have k1:=@w6 (5*(gg.1:Int)) (by omega)
      have k2:∀[Inhabited Unit],IntKind.i64.wrap (5*(gg.1:Int)+(gg.2.1:Int))=(zt:Int):=by intro _;rw [Q0 (by omega) (by omega)];omega
      have k3:=@w6 ((gg.2.2:Int)+1) (by omega)
      have k4:∀[Inhabited Unit],((gg.2.2:Int)+1).tmod 10=(d:Int):=by intro _;rw [Int.tmod_eq_emod_of_nonneg (by omega)];omega
      have k4':∀[Inhabited Unit],((gg.2.2:Int)+1)%10=(d:Int):=by intro _;omega
      have hts:On s2.2.2.2.2.1 gg=s2.2.2.2.2.1.set zt (d:Int):=by unfold On;rw [hzt,hd]
      rw [← Qfs,← wx,hts] at hps
      rw [Qv (h:=by kernel_rfl)]
      simp [t0,t3,t4,t5,t12,t78,t79,t80,VM.look,rA4,vI4,bx4,onew,k1,k2,k3,k4,k4',o4',st5]
      refine ih ((Wf x).length-(i+1)) _ _ ⟨i+1,g5',g9',rfl,by omega,by simp [t0],by simp [t3],by simp [t4],by simp [t5],by simp [t78],by simp [t79],?_,by rw [hps];exact ns5⟩ (by omega)
      simp [t80];rw [Q0 (by omega) (by omega)]
   ·have hil:i=(Wf x).length:=by omega
    subst hil
    clear ih
    have oE4:=oE3.chg ns.chg (fun k hk hh=>by
     rw [List.nil_append] at hh
     exact hgw k (by have:=nE k hk;omega) (by have:=ltE k hk;omega) hh)
    have hel:=oE4.rd.len (P:=Tryz.prog) (ty:=24) (by simp)
    rw [List.length_map] at hel
    obtain ⟨y3,hy3⟩:∃y3,y3=Yv x y1 (Wf x).length:=⟨_,rfl⟩
    rw [← hy3] at ns
    have ye3:y3.1=x.1∧y3.2.1=x.2.1∧y3.2.2.2.2.2.1=x.2.2.2.2.2.1∧y3.2.2.2.2.2.2.2=x.2.2.2.2.2.2.2:=by rw [hy3];exact ⟨ye.1,ye.2.1,ye.2.2.2.2.1,ye.2.2.2.2.2.2⟩
    have l53:y3.2.2.1.length=x.2.2.1.length:=by rw [hy3,← l5];exact Xg (Jo x) _ _
    have b53:Xf 67000080 y3.2.2.1:=by
     rw [hy3]
     refine Xe (Y7 (Nv x) ((Wf x).take (Wf x).length) y1.2.2.1 67000000 b5) ?_
     simp;omega
    have hE:=Of x
    have Qj5:=fun k (hk:k∈Wk x)=>Vo hk
    have Ql3:=Jl x
    simp [t0,t3,t4,t5,t78,t79,t80,hel]
    -- what enters
    refine Qw (fun n t J=>∃(i:Nat) (g5 g8:List Value),n=(Wk x).length-i∧i≤(Wk x).length∧t 0=.pointer (some ⟨id,0,some 0⟩)∧t 158=el∧t 159=.int .i64 (Wk x).length∧t 160=.int .i64 i∧
     NS K J [] w (Uv x y3 i) g5 g8 g9) ?_ (n:=(Wk x).length)
     ⟨0,g5,w.2.2.2.2.2.1.2,rfl,by omega,by simp [t0],by simp,by simp,by simp,ns⟩
    clear t0 t3 t4 t5 t78 t79 t80 oE4 hel ns
    rintro n t J ⟨i,g5,g8,rfl,hi,t0,t158,t159,t160,ns⟩ ih
    simp [t0,t158,t159,t160]
    refine Qm ?_ ?_<;>intro g
    ·have hi':i<(Wk x).length:=by omega
     have oE4:=oE3.chg ns.chg (fun k hk hh=>by
      rw [List.nil_append] at hh
      exact hgw k (by have:=nE k hk;omega) (by have:=ltE k hk;omega) hh)
     obtain ⟨u1,u2⟩:=Eh oE4.rd.isI (i:=i) (by simpa using hi')
     have eel:((Wk x).map Int.ofNat)[i]'(by simpa using hi')=((Wk x)[i]:Int):=by simp
     rw [eel] at u2
     obtain ⟨m1,m2⟩:=Qj5 _ (List.getElem_mem hi')
     have hps:=Cn (y:=y3) hi'
     have hsat:(Uv x y3 i).2.2.2.2.2.1.getD (Wk x)[i] []=x.2.2.2.2.2.1.getD (Wk x)[i] []:=by
      rw [← ye3.2.2.1]
      have hnt:=Kr (f:=fun k:Nat=>k) (by simpa using Ql3) hi'
      exact wb _ _ _ (by simpa using hnt)
     generalize (Wk x)[i]=k at *
     have hks:k<(Uv x y3 i).2.2.2.2.2.1.length:=by
      have:(Uv x y3 i).2.2.2.2.2.1.length=y3.2.2.2.2.2.1.length:=Xg Fd _ _
      rw [this,ye3.2.2.1];have:=hx.2.1.2.2.2.1;omega
     have hgd:(Uv x y3 i).2.2.2.2.2.1.getD k []=(Uv x y3 i).2.2.2.2.2.1[k]:=by simp [List.getD_eq_getElem?_getD,hks]
     have hne:(Uv x y3 i).2.2.2.2.2.1[k]≠[]:=by rw [← hgd,hsat];exact m2.1
     have hhd:Zx (Uv x y3 i).2.2.2.2.2.1[k]=U5 x k:=by rw [← hgd,hsat];rfl
     obtain ⟨en1,en2,en3⟩:=Np hx m2.1
     have hcl:=en1.2
     obtain ⟨f,hfe⟩:∃f,f=U5 x k:=⟨_,rfl⟩
     obtain ⟨z,hz⟩:∃z,z=Ul x k:=⟨_,rfl⟩
     rw [← hfe,← hz] at en2
     rw [← hfe] at hhd hcl
     have hzl:z<(Uv x y3 i).2.2.1.length:=by
      have:(Uv x y3 i).2.2.1.length=y3.2.2.1.length:=Xg (Fw x) _ _
      rw [this,l53];have:=hx.2.1.1;unfold Xa at hcl;omega
     have b5i:=Xe (Y7 (Ea x) ((Wk x).take i) y3.2.2.1 67000080 b53) (show _≤67000096 by simp;omega)
     have rA:∀J':Qd,Qp K J' ([]++Qe.ids w)→J'[id]? = some ⟨Qc w y1++tail,0,e⟩:=fun J' c=>Qa hrK c (by simpa using hidw)
     have vI:∀J':Qd,J'[id]? = some ⟨Qc w y1++tail,0,e⟩→VM.vnil J' (.pointer (some ⟨id,0,some 0⟩))=some (.pointer (some ⟨id,0,some 0⟩)):=fun J' h=>by simp [VM.vnil,VM.look,h]
     obtain ⟨J1,hJ1⟩:∃J1,J1=J++[⟨Yh.f f,0,148⟩]:=⟨_,rfl⟩
     have cJ:Qp J J1 []:=by rw [hJ1];exact Qp.app _
     have lJ:J1.length=J.length+1:=by rw [hJ1];simp
     have bx:J1[J.length]? = some ⟨Yh.f f,0,148⟩:=by rw [hJ1];simp
     have hJs:J++[⟨Yh.f f,0,148⟩]=J1:=hJ1.symm
     simp only [Xp] at bx hJs
     have nsA:=ns.other cJ (by simp) (by simp)
     have hlw:∀l∈Qe.ids (vw w g5 g8 g9),l<J.length:=fun l hl=>Qe.lt ns.ow l hl
     have hFJ:frz≤J.length:=by have:=ns.chg.1;omega
     have hfg:∀l∈Qe.ids (vw w g5 g8 g9),frz≤l:=fun l hl=>by
      rcases ns.ids l hl with h|h
      ·exact hff l h
      ·omega
     obtain ⟨a8,r1,r2,r3,r4,r5,r6,r7⟩:=Sa (u:=(w.2.2.2.2.2.1.1,g8)) ns.ow.2.2.2.2.2.1 hks
     simp only at r2 r3 r7
     obtain ⟨z0,_,_,_,_,_,_,zw⟩:=front r4.rd hne
     rw [hhd] at zw
     simp only [Xp] at zw
     obtain ⟨az,d1,d2,d3,d4,d5,d6,d7⟩:=Sa (u:=(w.2.2.1.1,g5)) nsA.ow.2.2.1 hzl
     simp only at d2 d3 d7
     obtain ⟨a',K2,K3,hap,p5,p6,lv2,lv3,qb1,qb2,c2,pt⟩:=N8 (frz:=frz) (u:=(w.2.2.1.1,g5)) nsA.ow.2.2.1 (So (n:=vw w g5 g8 g9) nsA.nd) hzl (by have:=b5i _ (List.getElem_mem hzl);omega) (fun l hl=>hfg l (Zn (n:=vw w g5 g8 g9) l hl)) d1 f
     simp only at p5 p6 lv2 lv3
     obtain ⟨nsB,nB,cB⟩:=nsA.buf pt
     simp only [Xp] at hap
     have Cb:∀l∈Qe.ids (vw w (g5.set z a') g8 g9),frz≤l:=fun l hl=>by
      rcases nB l hl with h|h
      ·exact hfg l h
      ·omega
     have Qft:frz≤K3.length:=by have:=cB.1;omega
     obtain ⟨a8',s1,s2,s3,s4,s5,s6,s7⟩:=Sa (u:=(w.2.2.2.2.2.1.1,g8)) nsB.ow.2.2.2.2.2.1 hks
     have ea8:a8'=a8:=by rw [r1] at s1;exact (Option.some.inj s1).symm
     subst ea8
     simp only at s2 s3 s7
     obtain ⟨zz,b',M2,M3,t3',t4',t5',t6',mv2,mv3,qc1,qc2,cc2,pt2⟩:=An (frz:=frz) (u:=(w.2.2.2.2.2.1.1,g8)) nsB.ow.2.2.2.2.2.1 (Je (n:=vw w (g5.set z a') g8 g9) nsB.nd) hks hne (fun l hl=>Cb l (Sl (n:=vw w (g5.set z a') g8 g9) l hl)) s1
     simp only at t5' t6' mv2 mv3
     obtain ⟨nsC,nC,cC⟩:=nsB.src pt2
     have rJ:=rA J ns.chg
     have rJ1:=rA J1 nsA.chg
     have rK3:=rA K3 nsB.chg
     have vJ:=vI J rJ
     have vJ1:=vI J1 rJ1
     have vK3:=vI K3 rK3
     have hidg:id∉Qe.ids (vw w g5 g8 g9):=fun hh=>by
      rcases ns.ids _ hh with h|h
      ·exact hidw h
      ·have:=Wj hrK;omega
     have rK2:K2[id]? = some ⟨Qc w y1++tail,0,e⟩:=Qa rJ1 c2 (fun hh=>hidg (Zn (n:=vw w g5 g8 g9) id (Up d1 hh)))
     have rM2:M2[id]? = some ⟨Qc w y1++tail,0,e⟩:=Qa rK3 cc2 (by simp)
     have rM3:=rA M3 nsC.chg
     have rJL:=fun L=>Qj rJ1 L
     have lvL:∀L:Qd,VM.live (J1++L) w.2.2.1.1:=fun L=>Xy (v:=w.2.2.1.1) (Ow.app (L:=L) nsA.ow.2.2.1.1.1)
     have rM:∀L:Qd,(K3++L)[id]? = some ⟨Qc w y1++tail,0,e⟩:=fun L=>Qj rK3 L
     have vM:=fun L=>vI (K3++L) (rM L)
     unfold Qc at rJ rJ1 rK3 rM rK2 rM2 rM3 rJL
     simp only [List.cons_append,List.nil_append] at rJ rJ1 rK3 rM rK2 rM2 rM3 rJL
     have bA:∀F,Qh C F 207 [.int .i64 (k:Int),.int .i64 4,.int .i64 f.2.2.1] J1=some (.int .i64 (z:Int),J1):=fun F=>by
      rw [P0,if_pos ⟨⟨by omega,by omega⟩,⟨by omega,by omega⟩,hcl⟩,en2];congr 3
     simp [t0,t158,t159,t160,u1,u2,VM.look,rJ,vJ,onew,r2,r3,r5,r6,z0,zw]
     rw [hJs]
     clear hJ1 hJs
     simp [t0,t158,t159,t160,VM.look,bx,bA]
     rw [V8 (fl:=([3],[16])) (h:=⟨by kernel_rfl,by kernel_rfl,by kernel_rfl,by kernel_rfl⟩)]
     simp [Sd,Zi,Vs,-Q5,-Wm,t0,t158,t159,t160,VM.look,rJ1,vJ1,onew,d2,d3,d5,d6,bx,hap,p5,p6,d7,lv2,lv3,qb1,qb2,hFJ,rJL,lvL,rK2,rK3]
     rw [S0 (h:=⟨by kernel_rfl,by kernel_rfl⟩)]
     simp [Sd,Zi,Vs,-Q5,-Wm,t0,t158,t159,t160,VM.look,rK3,vK3,onew,s2,s3,s5,s6,s7,rM,vM,t3',t4',t5',t6',rM2,rM3,mv2,mv3,qc1,qc2,Qft]
     refine ih ((Wk x).length-(i+1)) _ _ ⟨i+1,g5.set z a',g8.set k b',rfl,by omega,by simp [t0],by simp [t158],by simp [t159],?_,?_⟩ (by omega)
     ·simp [t160];rw [Q0 (by omega) (by omega)]
     ·rw [hps]
      have e1:Ns x (Uv x y3 i).2.2.1 k=Uo (Uv x y3 i).2.2.1 z (·++[f]):=by unfold Ns;rw [← hz,← hfe]
      rw [e1]
      exact nsC
    ·have hil:i=(Wk x).length:=by omega
     subst hil
     clear ih
     have ec:Qc w y1=Qc w x:=by unfold Qc;rw [ye.1,ye.2.2.2.2.2.2]
     have rJ:J[id]? = some ⟨Qc w x++tail,0,e⟩:=by rw [← ec];exact Qa hrK ns.chg (by simpa using hidw)
     have hse:Ud x=older (Uv x y3 (Wk x).length) 1:=by rw [Qia,← hy1,← hy3]
     have lJ:=ns.chg.1
     unfold Qc at rJ
     simp only [List.cons_append,List.nil_append] at rJ
     have vJ:VM.vnil J (.pointer (some ⟨id,0,some 0⟩))=some (.pointer (some ⟨id,0,some 0⟩)):=by simp [VM.vnil,VM.look,rJ]
     have et:∀[Inhabited Unit],IntKind.i64.wrap (x.2.2.2.2.2.2.2+1)=x.2.2.2.2.2.2.2+1:=by intro _;unfold Xa at ht;exact Q0 (by omega) (by omega)
     simp [t0,t158,t159,t160,VM.look,rJ,vJ,et,hfi]
     have hidg:id∉Qe.ids (vw w g5 g8 g9):=fun hh=>by
      rcases ns.ids _ hh with h|h
      ·exact hidw h
      ·have:=Wj hrK;omega
     refine ⟨vw w g5 g8 g9,Qq rJ,?_,ns.nd,fun k hk=>?_,?_⟩
     ·rw [hse]
      exact Dt.chg (T:=Qe) ns.ow (Qn _ _) (fun k hk hh=>by simp at hh;exact hidg (hh▸hk))
     ·rcases ns.ids k hk with h|h
      ·rcases hfw k h with h|h
       ·exact .inl h
       ·exact .inr (by omega)
      ·exact .inr (by omega)
     ·have c1:Qp H K (id::Qe.ids v):=(cK0.mono (fun _ h=>by cases h)).trans' c1K (fun k hk=>by
       rcases List.mem_append.1 hk with h|h
       ·simp at h;exact .inr (by omega)
       ·exact .inl (List.mem_cons_of_mem _ h))
      refine (c1.trans' ns.chg (fun k hk=>?_)).trans (Qp.mono (Qn _ _) (fun k hk=>by simp at hk;rw [hk];exact List.mem_cons_self ..))
      rw [List.nil_append] at hk
      rcases hfw k hk with h|h
      ·exact .inl (List.mem_cons_of_mem _ h)
      ·exact .inr (by omega)
noncomputable def X0 (x:Qu) (i:Nat):Qu:=
 (x.1,x.2.1,((Wf x).take i).foldl (Ij x) x.2.2.1,((Wf x).take i).foldl (Jx x) x.2.2.2.1,((Wf x).take i).foldl On x.2.2.2.2.1,x.2.2.2.2.2.1,((Wf x).take i).foldl (Rh x) x.2.2.2.2.2.2.1,x.2.2.2.2.2.2.2)
theorem kh {x:Qu} {i:Nat} (h:i<(Wf x).length):X0 x (i+1)=Lz (Tr (Un (Yw (X0 x i) (Xv x (Uo (X0 x i).2.2.1 (S1 (Wf x)[i]) (List.drop 1)) (Wf x)[i])) (Rh x (X0 x i).2.2.2.2.2.2.1 (Wf x)[i])) (Jx x (X0 x i).2.2.2.1 (Wf x)[i])) (On (X0 x i).2.2.2.2.1 (Wf x)[i]):=by
 unfold X0;simp only [Vd _ _ h];rfl
theorem Cw (x:Qu) (s:X9) (g:Pi):(Ij x s g).length=s.length:=by unfold Ij;simp
theorem Qgm {x:Qu} {i:Nat} (h:i<(Wf x).length):(X0 x i).2.2.1.getD (S1 (Wf x)[i]) []≠[]:=
 Qbl x _ _ _ (Kr (Gg x) h) (Ia (Tq (List.getElem_mem h)).2.2.2)
theorem Qgv (x:Qu):Ud x=older (Uv x (X0 x (Wf x).length) (Wk x).length) 1:=by
 have e:=Qbf x (Wf x) x.2.2.1 (Gg x) (fun g hg=>Ia (Tq hg).2.2.2)
 unfold Uv X0 older
 simp only [List.take_length]
 rw [e]
 rfl
theorem Ba {v:Wo} {x:Qu} (o:Qe.Ow H v x) (hx:Zq x) (hb5:Xf 67000000 x.2.2.1) (hb9:Xf 67000000 x.2.2.2.2.2.2.1) (ht:Xa 0 x.2.2.2.2.2.2.2 1000000) :
 wp (Qh C frz 116 [Qe.val v x] H) (Qe.Made H (Ud x)):=by
 have ones:=Qr o
 have cr:=Qz x.1.1 x.1.2.1
 have hlt:=Qe.lt o
 have ecopy:=fun L=>U4 (frz:=H.length) (H:=H++L) (v:=v) (x:=x) (Dt.app (T:=Qe) o)
 simp only [Qk] at ecopy ⊢
 rw [Qb (fn:=Tryz.f116) Tryz.func116 rfl (by kernel_rfl) rfl]
 simp [ones]
 refine Ql (ecopy _) ?_
 rintro _ K ⟨n,rfl,on,cn,mn,dn⟩
 simp at mn
 have qn:=Qr on
 have lK:=cn.1
 simp at lK
 have hF:H.length≤K.length:=by omega
 simp [Qk,qn,VM.look,hF]
 obtain ⟨K1,hK1⟩:∃K1,K1=K++[⟨Qc n x,0,48⟩]:=⟨_,rfl⟩
 have c1:Qp K K1 []:=by rw [hK1];exact Qp.app _
 have l1:K1.length=K.length+1:=by rw [hK1];simp
 have cK:Qp H K []:=(Qp.app _).trans cn
 have cK1:=cK.trans c1
 have b1:K1[H.length]? = some ⟨Qc v x,0,48⟩:=Qa (Qa (by simp [Qc]) cn (by simp)) c1 (by simp)
 have bR:K1[H.length+1]? = some ⟨[.int .i64 0,.int .i64 0,.slice none 0 0,.slice none 0 0,.slice none 0 0,.slice none 0 0,.slice none 0 0,.slice none 0 0,.slice none 0 0,.slice none 0 0,.int .i64 0],0,48⟩:=Qa (Qa (by simp) cn (by simp)) c1 (by simp)
 have b3:K1[K.length]? = some ⟨Qc n x,0,48⟩:=by rw [hK1];simp
 have hKs:K++[⟨Qc n x,0,48⟩]=K1:=hK1.symm
 have o1:=Dt.chg (T:=Qe) o cK1 (by simp)
 have on1:=Dt.chg (T:=Qe) on c1 (by simp)
 have ltn:∀i∈Qe.ids n,i<K.length:=fun i hi=>Qe.lt on i hi
 have b1':=b1
 unfold Qc at hKs b1'
 rw [hKs]
 clear hK1 hKs
 have eal:=ym (frz:=H.length) o1 hx
 simp only [Qk] at eal
 simp [VM.look,b1',ones]
 refine Ql eal ?_
 rintro gl K2 ⟨oG,nG,cG⟩
 have l2:=cG.1
 have b1:=Qa b1 cG (by simp)
 have bR:=Qa bR cG (by simp)
 have b3:=Qa b3 cG (by simp)
 have o2:=Dt.chg (T:=Qe) o1 cG (by simp)
 have on2:=Dt.chg (T:=Qe) on1 cG (by simp)
 have cK2:=cK1.trans cG
 have hidn:K.length∉Qe.ids n:=fun hh=>by have:=ltn _ hh;omega
 have ns0:NS K2 K2 [] n x _ _ _:=NS.start [] on2 dn
 have hL:=Kx x
 have hat:=fun g (hg:g∈Wf x)=>Tq hg
 have ltG:=oG.lt
 have hmn:∀k∈Qe.ids n,H.length+2≤k:=mn
 have rowO:∀J:Qd,Qp K2 J ([]++Qe.ids n)→J[H.length]? = some ⟨Qc v x,0,48⟩:=fun J c=>Qa b1 c (fun hh=>by have:=hmn _ (by simpa using hh);omega)
 have rowR:=fun (J:Qd) (c:Qp K2 J ([]++Qe.ids n))=>Qa bR c (fun hh=>by have:=hmn _ (by simpa using hh);omega)
 have rowN:∀J:Qd,Qp K2 J ([]++Qe.ids n)→J[K.length]? = some ⟨Qc n x,0,48⟩:=fun J c=>Qa b3 c (by simpa using hidn)
 have cHJ:∀J:Qd,Qp K2 J ([]++Qe.ids n)→Qp H J []:=fun J c=>cK2.trans' c (fun k hk=>.inr (by have:=hmn k (by simpa using hk);omega))
 have glJ:∀J:Qd,Qp K2 J ([]++Qe.ids n)→Ow Jv 188 J gl (Wf x):=fun J c=>oG.chg c (fun k hk hh=>by have:=nG k hk;have:=ltn k (by simpa using hh);omega)
 have hNx:(x.2.2.1.length:Int)=10*cnt x.1.1 x.1.2.1:=hx.2.1.1
 simp
 -- the grants
 refine Qw (fun m t J=>∃(i:Nat) (g5 g9:List Value),m=(Wf x).length-i∧i≤(Wf x).length∧t 1=.pointer (some ⟨H.length,0,some 0⟩)∧t 2=.pointer (some ⟨H.length+1,0,some 0⟩)∧t 3=.pointer (some ⟨K.length,0,some 0⟩)∧t 4=gl∧t 5=.int .i64 i∧
  NS K2 J [] n (X0 x i) g5 n.2.2.2.2.2.1.2 g9) ?_ (n:=(Wf x).length)
  ⟨0,n.2.2.1.2,n.2.2.2.2.2.2.1.2,rfl,by omega,by simp,by simp,by simp,by simp,by simp,ns0⟩
 rintro m t J ⟨i,g5,g9,rfl,hi,t1,t2,t3,t4,t5,ns⟩ ih
 have hgl:=(glJ J ns.chg).rd.len (P:=Tryz.prog) (ty:=156) (by simp)
 simp [t1,t2,t3,t4,t5,hgl]
 refine Qm ?_ ?_<;>intro g
 ·have hi':i<(Wf x).length:=by omega
  obtain ⟨q1,q2⟩:=Ab (glJ J ns.chg) hi'
  obtain ⟨m1,m2,m3,m4⟩:=hat _ (List.getElem_mem hi')
  have hps:=kh hi'
  have Qdw:=Qgm hi'
  obtain ⟨J1,hJ1⟩:∃J1,J1=J++[⟨Jv.f (Wf x)[i],0,188⟩]:=⟨_,rfl⟩
  have cJ:Qp J J1 []:=by rw [hJ1];exact Qp.app _
  have lJ:J1.length=J.length+1:=by rw [hJ1];simp
  have bx1:J1[J.length]? = some ⟨Jv.f (Wf x)[i],0,188⟩:=by rw [hJ1];simp
  have hJs:J++[⟨Jv.f (Wf x)[i],0,188⟩]=J1:=hJ1.symm
  generalize (Wf x)[i]=gg at *
  simp only [Ka] at bx1 hJs
  have nsA:=ns.other cJ (by simp) (by simp)
  obtain ⟨c,hc⟩:∃c,c=gg.2.2%2:=⟨_,rfl⟩
  obtain ⟨q,hq⟩:∃q,q=gg.2.2/2:=⟨_,rfl⟩
  obtain ⟨j,hj⟩:∃j,j=S1 gg:=⟨_,rfl⟩
  obtain ⟨f,hfe⟩:∃f,f=Yn x (S1 gg):=⟨_,rfl⟩
  have hjx:j<x.2.2.1.length:=by unfold S1 at hj;omega
  have l5':(X0 x i).2.2.1.length=x.2.2.1.length:=Xg (Cw x) _ _
  have l9':(X0 x i).2.2.2.2.2.2.1.length=x.2.2.2.2.2.2.1.length:=Xg (Eu x) _ _
  have hjl:j<(X0 x i).2.2.1.length:=by omega
  rw [← hj] at hps Qdw hfe
  have hgd:(X0 x i).2.2.1.getD j []=(X0 x i).2.2.1[j]:=by simp [List.getD_eq_getElem?_getD,hjl]
  have hne:(X0 x i).2.2.1[j]≠[]:=by rw [← hgd];exact Qdw
  have hgx:x.2.2.1.getD j []=x.2.2.1[j]:=by simp [List.getD_eq_getElem?_getD,hjx]
  have hnx:x.2.2.1[j]≠[]:=by rw [← hgx,hj];exact Ia m4
  have hhd:Zx x.2.2.1[j]=f:=by rw [← hgx,hfe];rfl
  have e1:=@w6 (10*(gg.1:Int)) (by omega)
  have e2:∀[Inhabited Unit],IntKind.i64.wrap (10*(gg.1:Int)+(gg.2.2:Int))=(j:Int):=by intro _;unfold S1 at hj;rw [Q0 (by omega) (by omega)];omega
  have e3:∀[Inhabited Unit],(gg.2.2:Int).tmod 2=(c:Int):=by intro _;rw [Mj];omega
  have e3':∀[Inhabited Unit],(gg.2.2:Int)%2=(c:Int):=by intro _;omega
  have e4:∀[Inhabited Unit],IntKind.i64.wrap ((gg.2.2:Int)/2)=(q:Int):=by intro _;rw [Q0 (by omega) (by omega)];omega
  have rO1:=rowO J1 nsA.chg
  unfold Qc at rO1
  obtain ⟨a0,z1,z2,z3,z4,z5,z6,z7⟩:=Sa (u:=v.2.2.1) (Dt.chg (T:=Qe) o (cHJ J1 nsA.chg) (by simp)).2.2.1 hjx
  obtain ⟨z0,_,_,_,_,_,_,zw⟩:=front z4.rd hnx
  rw [hhd] at zw
  obtain ⟨J2,hJ2⟩:∃J2,J2=J1++[⟨Yh.f f,0,148⟩]:=⟨_,rfl⟩
  have cJ2:Qp J1 J2 []:=by rw [hJ2];exact Qp.app _
  have lJ2:J2.length=J1.length+1:=by rw [hJ2];simp
  have bx2:J2[J1.length]? = some ⟨Yh.f f,0,148⟩:=by rw [hJ2];simp
  have hJ2s:J1++[⟨Yh.f f,0,148⟩]=J2:=hJ2.symm
  simp only [Xp] at bx2 hJ2s zw
  have Qz5:=Qa bx1 cJ2 (by simp)
  have nsB:=nsA.other cJ2 (by simp) (by simp)
  have hlw:∀k∈Qe.ids (vw n g5 n.2.2.2.2.2.1.2 g9),k<J.length:=fun k hk=>Qe.lt ns.ow k hk
  have hfg:∀k∈Qe.ids (vw n g5 n.2.2.2.2.2.1.2 g9),H.length≤k:=fun k hk=>by
   rcases ns.ids k hk with h|h
   ·have:=hmn k h;omega
   ·omega
  have hFJ:H.length≤J.length:=by have:=ns.chg.1;omega
  have Qh5:H.length≤J1.length:=by omega
  have b5i:=Xe (Y7 (Br x) ((Wf x).take i) x.2.2.1 67000000 hb5) (show _≤67000080 by simp;omega)
  have b9i:=Xe (Y7 (Ec x) ((Wf x).take i) x.2.2.2.2.2.2.1 67000000 hb9) (show _≤67000080 by simp;omega)
  -- out of the input
  obtain ⟨ab,r1,r2,r3,r4,r5,r6,r7⟩:=Sa (u:=(n.2.2.1.1,g5)) nsB.ow.2.2.1 hjl
  simp only at r2 r3 r7
  obtain ⟨z,a',M2,M3,p3,p4,p5,p6,lv2,lv3,qb1,qb2,c2,pt⟩:=An (frz:=H.length) (u:=(n.2.2.1.1,g5)) nsB.ow.2.2.1 (So (n:=vw n g5 n.2.2.2.2.2.1.2 g9) nsB.nd) hjl hne (fun k hk=>hfg k (Zn (n:=vw n g5 n.2.2.2.2.2.1.2 g9) k hk)) r1
  simp only at p5 p6 lv2 lv3
  obtain ⟨nsC,nC,cC⟩:=nsB.buf pt
  have ql:=Qa Qz5 cC (fun hh=>by have:=hlw _ hh;omega)
  have Qh0:=Qa bx2 cC (fun hh=>by have:=hlw _ hh;omega)
  have rN2:=rowN J2 nsB.chg
  unfold Qc at rN2
  have lM3:=cC.1
  simp [t1,t2,t3,t4,t5,q1,q2,Ka,hFJ]
  rw [hJs]
  clear hJ1 hJs
  simp [t1,t2,t3,t4,t5,VM.look,bx1,rO1,ones,e1,e2,e3,e3',z2,z3,z5,z6,z0,zw,Qh5]
  rw [hJ2s]
  clear hJ2 hJ2s
  rw [S0 (h:=⟨by kernel_rfl,by kernel_rfl⟩)]
  simp [Sd,Zi,Vs,-Q5,-Wm,t1,t2,t3,t4,t5,VM.look,rN2,qn,r2,r3,r5,r6,p3,p4,p5,p6,qb1,qb2,ql,e4]
  have rN3:=rowN M3 nsC.chg
  have rO3:=rowO M3 nsC.chg
  have D3:∀k∈Qe.ids (vw n (g5.set j a') n.2.2.2.2.2.1.2 g9),k<J.length∨J2.length≤k:=fun k hk=>(nC k hk).imp (hlw k) _root_.id
  have Cb:∀k∈Qe.ids (vw n (g5.set j a') n.2.2.2.2.2.1.2 g9),H.length≤k:=fun k hk=>by
   rcases nC k hk with h|h
   ·exact hfg k h
   ·omega
  have hidg:K.length∉Qe.ids (vw n (g5.set j a') n.2.2.2.2.2.1.2 g9):=fun hh=>by
   rcases nsC.ids _ hh with h|h
   ·exact hidn h
   ·omega
  have rNL:=fun L=>Qj rN3 L
  have bxL:=fun L=>Qj ql L
  have Qpd:H.length≤M3.length:=by omega
  unfold Qc at rO3
  -- into the output
  refine Fv (F:=?FB1) (k1:=?kB1) (k2:=?kB2) (Q:=?QB1) (fun cc t J4=>∃(g5' g9':List Value),cc=.bool f.2.2.2.2∧t 1=.pointer (some ⟨H.length,0,some 0⟩)∧t 2=.pointer (some ⟨H.length+1,0,some 0⟩)∧t 3=.pointer (some ⟨K.length,0,some 0⟩)∧t 4=gl∧t 5=.int .i64 i∧
   t 6=.pointer (some ⟨J.length,0,some 0⟩)∧t 8=.int .i64 c∧t 11=.int .i64 q∧J4[J.length]? = some ⟨[.int .i64 (gg.1:Int),.int .i64 (gg.2.1:Int),.int .i64 (gg.2.2:Int)],0,188⟩∧
   NS K2 J4 [] n (Un (Yw (X0 x i) (Xv x (Uo (X0 x i).2.2.1 j (List.drop 1)) gg)) (Rh x (X0 x i).2.2.2.2.2.2.1 gg)) g5' n.2.2.2.2.2.1.2 g9'∧∀k∈Qe.ids (vw n g5' n.2.2.2.2.2.1.2 g9'),k≠J.length) ?mainB ?restB
  case mainB=>
   intro rest
   by_cases h4:gg.2.1=4
   ·have h4c:(gg.2.1:Int)=4:=by omega
    have h9l:gg.1<(X0 x i).2.2.2.2.2.2.1.length:=by rw [l9'];have:=hx.2.1.2.2.2.2;omega
    obtain ⟨a9,d1,d2,d3,d4,d5,d6,d7⟩:=Sa (u:=(n.2.2.2.2.2.2.1.1,g9)) nsC.ow.2.2.2.2.2.2.1 h9l
    simp only at d2 d3 d7
    obtain ⟨b',Q2,Q3,hap,s5,s6,mv2,mv3,qc1,qc2,cc2,pt2⟩:=N8 (frz:=H.length) (u:=(n.2.2.2.2.2.2.1.1,g9)) nsC.ow.2.2.2.2.2.2.1 (Bl (n:=vw n (g5.set j a') n.2.2.2.2.2.1.2 g9) nsC.nd) h9l (Nat.le_trans (Nat.succ_le_succ (b9i _ (List.getElem_mem h9l))) (by decide)) (fun k hk=>Cb k (Pf (n:=vw n (g5.set j a') n.2.2.2.2.2.1.2 g9) k hk)) d1 f
    simp only at s5 s6 mv2 mv3
    obtain ⟨nsD,nD,cD⟩:=nsC.arr pt2
    have hia:∀k∈ids a9,k∈Qe.ids (vw n (g5.set j a') n.2.2.2.2.2.1.2 g9):=fun k hk=>Pf (n:=vw n (g5.set j a') n.2.2.2.2.2.1.2 g9) k (Up d1 hk)
    have Qe1:=Qa rN3 cc2 (fun hh=>hidg (hia _ hh))
    have Qfe:=rowN Q3 nsD.chg
    have Qlg:=Qa ql cc2 (fun hh=>by have:=D3 _ (hia _ hh);omega)
    have Qff:=Qa ql cD (fun hh=>by have:=D3 _ hh;omega)
    have lvL:∀L:Qd,VM.live (M3++L) n.2.2.2.2.2.2.1.1:=fun L=>Xy (v:=n.2.2.2.2.2.2.1.1) (Ow.app (L:=L) nsC.ow.2.2.2.2.2.2.1.1.1)
    have bxfQ:=Qa Qh0 cD (fun hh=>by have:=D3 _ hh;omega)
    unfold Qc at rN3 rNL Qe1 Qfe
    simp only [Xp] at hap
    simp [h4]
    rw [V8 (fl:=([1,3],[14])) (h:=⟨by kernel_rfl,by kernel_rfl,by kernel_rfl,by kernel_rfl⟩)]
    simp [Sd,Zi,Vs,-Q5,-Wm,t1,t2,t3,t4,t5,VM.look,rN3,qn,ql,Qh0,d2,d3,d5,d6,d7,hap,s5,s6,qc1,qc2,mv2,mv3,rNL,bxL,Qe1,Qfe,Qlg,Qff,lvL,Qpd,e4,bxfQ]
    refine rest _ _ _ ?_
    have ea:Un (Yw (X0 x i) (Xv x (Uo (X0 x i).2.2.1 j (List.drop 1)) gg)) (Rh x (X0 x i).2.2.2.2.2.2.1 gg)=Un (Yw (X0 x i) (Uo (X0 x i).2.2.1 j (List.drop 1))) (Uo (X0 x i).2.2.2.2.2.2.1 gg.1 (·++[f])):=by
     unfold Xv Rh;rw [if_pos h4,if_pos h4,hfe,hj]
    rw [ea]
    exact ⟨g5.set j a',g9.set gg.1 b',rfl,by simp [t1],by simp [t2],by simp [t3],by simp [t4],by simp [t5],by simp,by simp,by simp,Qff,nsD,fun k hk=>by rcases nD k hk with h|h;(have:=D3 k h;omega);omega⟩
   ·obtain ⟨hh,hroom⟩:=m4.2.1.resolve_left h4
    rw [← hc] at hroom
    have h4c:¬(gg.2.1:Int)=4:=by omega
    obtain ⟨s1,s2,s3⟩:=Sh (c:=c) hh (by omega) (by omega)
    obtain ⟨o1,o2,o3⟩:=My (c:=c) hh (by omega)
    obtain ⟨zt,hz⟩:∃zt,zt=Mf x gg.1 gg.2.1 c:=⟨_,rfl⟩
    rw [← hz] at s1 s2 s3
    have hzl:zt<(Uo (X0 x i).2.2.1 j (List.drop 1)).length:=by rw [Gb,l5'];omega
    have nn:=fun F=>Zy (frz:=F) (H:=M3) x.1.1 x.1.2.1 gg.1 gg.2.1
    have so:=fun F=>O3 (frz:=F) (H:=M3) gg.2.1
    obtain ⟨o4,o5⟩:=o1
    generalize next x.1.1 x.1.2.1 gg.1 gg.2.1=N at *
    generalize Ml (gg.2.1:Int)=O at *
    have k3:=@w6 (10*N) (by omega)
    have k4:=@w6 (2*O) (by omega)
    have k5:=@w6 (10*N+2*O) (by omega)
    have k6:∀[Inhabited Unit],IntKind.i64.wrap (10*N+2*O+(c:Int))=(zt:Int):=by intro _;rw [Q0 (by omega) (by omega)];omega
    have b5u:Xf 67000080 (Uo (X0 x i).2.2.1 j (List.drop 1)):=N6 b5i
    obtain ⟨a9,d1,d2,d3,d4,d5,d6,d7⟩:=Sa (u:=(n.2.2.1.1,g5.set j a')) nsC.ow.2.2.1 hzl
    simp only at d2 d3 d7
    obtain ⟨b',Q2,Q3,hap,s5,s6,mv2,mv3,qc1,qc2,cc2,pt2⟩:=N8 (frz:=H.length) (u:=(n.2.2.1.1,g5.set j a')) nsC.ow.2.2.1 (So (n:=vw n (g5.set j a') n.2.2.2.2.2.1.2 g9) nsC.nd) hzl (Nat.le_trans (Nat.succ_le_succ (b5u _ (List.getElem_mem hzl))) (by decide)) (fun k hk=>Cb k (Zn (n:=vw n (g5.set j a') n.2.2.2.2.2.1.2 g9) k hk)) d1 f
    simp only at s5 s6 mv2 mv3
    obtain ⟨nsD,nD,cD⟩:=nsC.buf pt2
    have hia:∀k∈ids a9,k∈Qe.ids (vw n (g5.set j a') n.2.2.2.2.2.1.2 g9):=fun k hk=>Zn (n:=vw n (g5.set j a') n.2.2.2.2.2.1.2 g9) k (Up d1 hk)
    have Qe1:=Qa rN3 cc2 (fun hh=>hidg (hia _ hh))
    have Qfe:=rowN Q3 nsD.chg
    have Qlg:=Qa ql cc2 (fun hh=>by have:=D3 _ (hia _ hh);omega)
    have Qff:=Qa ql cD (fun hh=>by have:=D3 _ hh;omega)
    have lvL:∀L:Qd,VM.live (M3++L) n.2.2.1.1:=fun L=>Xy (v:=n.2.2.1.1) (Ow.app (L:=L) nsC.ow.2.2.1.1.1)
    have bxfQ:=Qa Qh0 cD (fun hh=>by have:=D3 _ hh;omega)
    unfold Qc at rN3 rNL Qe1 Qfe
    simp only [Xp] at hap
    simp [h4c]
    rw [Qv (h:=by kernel_rfl)]
    simp [t1,t2,t3,t4,t5,VM.look,rO3,ones,ql,nn,so,k3,k4,k5,k6]
    rw [V8 (fl:=([1],[12])) (h:=⟨by kernel_rfl,by kernel_rfl,by kernel_rfl,by kernel_rfl⟩)]
    simp [Sd,Zi,Vs,-Q5,-Wm,t1,t2,t3,t4,t5,VM.look,rN3,qn,ql,Qh0,d2,d3,d5,d6,d7,hap,s5,s6,qc1,qc2,mv2,mv3,rNL,bxL,Qe1,Qfe,Qlg,Qff,lvL,Qpd,e4,bxfQ]
    refine rest _ _ _ ?_
    have ea:Un (Yw (X0 x i) (Xv x (Uo (X0 x i).2.2.1 j (List.drop 1)) gg)) (Rh x (X0 x i).2.2.2.2.2.2.1 gg)=Yw (X0 x i) (Uo (Uo (X0 x i).2.2.1 j (List.drop 1)) zt (·++[f])):=by
     unfold Xv Rh;rw [if_neg h4,if_neg h4,hfe,hj,hz,hc];rfl
    rw [ea]
    exact ⟨(g5.set j a').set zt b',g9,rfl,by simp [t1],by simp [t2],by simp [t3],by simp [t4],by simp [t5],by simp,by simp,by simp,Qff,nsD,fun k hk=>by rcases nD k hk with h|h;(have:=D3 k h;omega);omega⟩
  case restB=>
   rintro cc t J4 ⟨g5',g9',rfl,t1,t2,t3,t4,t5,t6,t8,t11,bx4,ns4,hnJ⟩
   obtain ⟨s2,hs2⟩:∃s2,s2=Un (Yw (X0 x i) (Xv x (Uo (X0 x i).2.2.1 j (List.drop 1)) gg)) (Rh x (X0 x i).2.2.2.2.2.2.1 gg):=⟨_,rfl⟩
   rw [← hs2] at hps ns4
   have Qfs:s2.2.2.2.1=(X0 x i).2.2.2.1:=by rw [hs2];rfl
   have wx:s2.2.2.2.2.1=(X0 x i).2.2.2.2.1:=by rw [hs2];rfl
   have lown:s2.2.2.2.1.length=x.2.2.2.1.length:=by rw [Qfs];exact Xg (E9 x) _ _
   have lturn:s2.2.2.2.2.1.length=x.2.2.2.2.1.length:=by rw [wx];exact Xg Jc _ _
   clear hs2
   obtain ⟨zo,hz⟩:∃zo,zo=Yb gg.1 gg.2.1 c:=⟨_,rfl⟩
   have hzl:zo<s2.2.2.2.1.length:=by rw [lown,hz];have:=hx.2.1.2.1;unfold Yb;omega
   have Qpc:∀k∈Qe.ids (vw n g5' n.2.2.2.2.2.1.2 g9'),H.length≤k:=fun k hk=>by
    rcases ns4.ids k hk with h|h
    ·have:=hmn k h;omega
    ·omega
   obtain ⟨V,hV⟩:∃V:Int,V=if f.2.2.2.2 then -1 else (q:Int):=⟨_,rfl⟩
   obtain ⟨J5,st5,ns5,c5⟩:=ns4.own (frz:=H.length) Qpc hzl V
   have hnot:J.length∉Qe.ids (vw n g5' n.2.2.2.2.2.1.2 g9'):=fun hh=>hnJ _ hh rfl
   have bx5:=Qa bx4 c5 hnot
   obtain ⟨zt,hzt⟩:∃zt,zt=5*gg.1+gg.2.1:=⟨_,rfl⟩
   obtain ⟨d,hd⟩:∃d,d=(gg.2.2+1)%10:=⟨_,rfl⟩
   have hztl:zt<s2.2.2.2.2.1.length:=by rw [lturn,hzt];have:=hx.2.1.2.2.1;omega
   obtain ⟨o5,_⟩:=Eh (Rd.isI ns4.ow.2.2.2.1.1.rd) hzl
   have o5':Q6 Tryz.prog J4 24 n.2.2.2.1 (.int .i64 (zo:Int))=some (Yi n.2.2.2.1 zo):=o5
   obtain ⟨o4,_⟩:=Eh (Rd.isI ns5.ow.2.2.2.2.1.1.rd) (l:=s2.2.2.2.2.1) hztl
   have o4':Q6 Tryz.prog J5 24 n.2.2.2.2.1 (.int .i64 (zt:Int))=some (Yi n.2.2.2.2.1 zt):=o4
   obtain ⟨J6,st6,ns6,c6⟩:=ns5.turn (frz:=H.length) Qpc (j:=zt) hztl (d:Int)
   have k1:=@w6 (5*(gg.1:Int)) (by omega)
   have k2:∀[Inhabited Unit],IntKind.i64.wrap (5*(gg.1:Int)+(gg.2.1:Int))=(zt:Int):=by intro _;rw [Q0 (by omega) (by omega)];omega
   have k3:=@w6 ((gg.2.2:Int)+1) (by omega)
   have k4:∀[Inhabited Unit],((gg.2.2:Int)+1).tmod 10=(d:Int):=by intro _;rw [Int.tmod_eq_emod_of_nonneg (by omega)];omega
   have k4':∀[Inhabited Unit],((gg.2.2:Int)+1)%10=(d:Int):=by intro _;omega
   have k7:=@w6 (2*(gg.2.1:Int)) (by omega)
   have k8:=@w6 (10*(gg.1:Int)+2*(gg.2.1:Int)) (by omega)
   have k9:∀[Inhabited Unit],IntKind.i64.wrap (10*(gg.1:Int)+2*(gg.2.1:Int)+(c:Int))=(zo:Int):=by intro _;rw [hz];unfold Yb;rw [Q0 (by omega) (by omega)];omega
   have hos:Jx x s2.2.2.2.1 gg=s2.2.2.2.1.set zo V:=by unfold Jx;rw [hV,hz,hc,hq,hfe,hj]
   have hts:On s2.2.2.2.2.1 gg=s2.2.2.2.2.1.set zt (d:Int):=by unfold On;rw [hzt,hd]
   rw [← Qfs,← wx,hts,hos] at hps
   have rN4:=rowN J4 ns4.chg
   have rN5:=rowN J5 ns5.chg
   unfold Qc at rN4 rN5
   cases ht:f.2.2.2.2 with
   | false=>
    rw [ht,if_neg (by simp)] at hV
    subst hV
    simp [t1,t2,t3,t4,t5,t6,t8,t11,VM.look,rN4,rN5,qn,bx4,bx5,e1,k1,k2,k3,k4,k4',k7,k8,k9,o5',o4',st5,st6]
    refine ih ((Wf x).length-(i+1)) _ _ ⟨i+1,g5',g9',rfl,by omega,by simp [t1],by simp [t2],by simp [t3],by simp [t4],?_,by rw [hps];exact ns6⟩ (by omega)
    simp [t5];rw [Q0 (by omega) (by omega)]
   | true=>
    rw [ht,if_pos rfl] at hV
    subst hV
    simp [t1,t2,t3,t4,t5,t6,t8,t11,VM.look,rN4,rN5,qn,bx4,bx5,e1,k1,k2,k3,k4,k4',k7,k8,k9,o5',o4',st5,st6]
    refine ih ((Wf x).length-(i+1)) _ _ ⟨i+1,g5',g9',rfl,by omega,by simp [t1],by simp [t2],by simp [t3],by simp [t4],?_,by rw [hps];exact ns6⟩ (by omega)
    simp [t5];rw [Q0 (by omega) (by omega)]
 ·have hil:i=(Wf x).length:=by omega
  subst hil
  clear ih
  have rO:=rowO J ns.chg
  have oJ:=Dt.chg (T:=Qe) o (cHJ J ns.chg) (by simp)
  have ent:=Mi (frz:=H.length) oJ hx
  simp only [Qk] at ent
  have rO':=rO
  unfold Qc at rO'
  simp [t1,t2,t3,t4,t5,VM.look,rO',ones]
  refine Ql ent ?_
  rintro el J1 ⟨oE,nE,cE⟩
  have ltE:=oE.lt
  have lE:=cE.1
  have lJ:=ns.chg.1
  -- between the loops: the network w,y3
  obtain ⟨y3,hy3⟩:∃y3,y3=X0 x (Wf x).length:=⟨_,rfl⟩
  rw [← hy3] at ns
  have ye3:y3.1=x.1∧y3.2.1=x.2.1∧y3.2.2.2.2.2.1=x.2.2.2.2.2.1∧y3.2.2.2.2.2.2.2=x.2.2.2.2.2.2.2:=by rw [hy3];exact ⟨rfl,rfl,rfl,rfl⟩
  have l53:y3.2.2.1.length=x.2.2.1.length:=by rw [hy3];exact Xg (Cw x) _ _
  have b53:Xf 67000080 y3.2.2.1:=by
   rw [hy3]
   refine Xe (Y7 (Br x) ((Wf x).take (Wf x).length) x.2.2.1 67000000 hb5) ?_
   simp;omega
  have hlw:∀k∈Qe.ids (vw n g5 n.2.2.2.2.2.1.2 g9),k<J.length:=fun k hk=>Qe.lt ns.ow k hk
  have hfw:∀k∈Qe.ids (vw n g5 n.2.2.2.2.2.1.2 g9),k∈Qe.ids n∨K2.length≤k:=ns.ids
  have rN1:J1[K.length]? = some ⟨Qc (vw n g5 n.2.2.2.2.2.1.2 g9) x,0,48⟩:=Qa (rowN J ns.chg) cE (by simp)
  have rO1:=Qa rO cE (by simp)
  have rR1:=Qa (rowR J ns.chg) cE (by simp)
  have ns1:NS J1 J1 [] (vw n g5 n.2.2.2.2.2.1.2 g9) y3 _ _ _:=NS.start [] (Dt.chg (T:=Qe) ns.ow cE (by simp)) ns.nd
  have Qyr:Qp H J1 []:=(cHJ J ns.chg).trans cE
  clear rO' rO oJ ent
  generalize hw:vw n g5 n.2.2.2.2.2.1.2 g9=w at *
  have hidw:K.length∉Qe.ids w:=fun hh=>by
   rcases hfw _ hh with h|h
   ·exact hidn h
   ·omega
  have hmw:∀k∈Qe.ids w,H.length+2≤k:=fun k hk=>by
   rcases hfw k hk with h|h
   ·exact hmn k h
   ·omega
  have onew:=Qr (v:=w) ns1.ow
  have hE:=Of x
  have Qj5:=fun k (hk:k∈Wk x)=>Vo hk
  have Ql3:=Jl x
  clear rowO rowR rowN cHJ glJ ns
  have rowO:∀J:Qd,Qp J1 J ([]++Qe.ids w)→J[H.length]? = some ⟨Qc v x,0,48⟩:=fun J c=>Qa rO1 c (fun hh=>by have:=hmw _ (by simpa using hh);omega)
  have rowR:=fun (J:Qd) (c:Qp J1 J ([]++Qe.ids w))=>Qa rR1 c (fun hh=>by have:=hmw _ (by simpa using hh);omega)
  have rowN:∀J:Qd,Qp J1 J ([]++Qe.ids w)→J[K.length]? = some ⟨Qc w x,0,48⟩:=fun J c=>Qa rN1 c (by simpa using hidw)
  have cHJ:∀J:Qd,Qp J1 J ([]++Qe.ids w)→Qp H J []:=fun J c=>Qyr.trans' c (fun k hk=>.inr (by have:=hmw k (by simpa using hk);omega))
  have elJ:∀J':Qd,Qp J1 J' ([]++Qe.ids w)→Ow Fl.int 3 J' el ((Wk x).map Int.ofNat):=fun J' c=>oE.chg c (fun k hk hh=>by have:=nE k hk;have:=hlw k (by simpa using hh);omega)
  simp [t1,t2,t3,t4,t5]
  -- what enters
  refine Qw (fun m t J=>∃(i:Nat) (g5 g8:List Value),m=(Wk x).length-i∧i≤(Wk x).length∧t 1=.pointer (some ⟨H.length,0,some 0⟩)∧t 2=.pointer (some ⟨H.length+1,0,some 0⟩)∧t 3=.pointer (some ⟨K.length,0,some 0⟩)∧t 12=el∧t 13=.int .i64 i∧
   NS J1 J [] w (Uv x y3 i) g5 g8 w.2.2.2.2.2.2.1.2) ?_ (n:=(Wk x).length)
   ⟨0,w.2.2.1.2,w.2.2.2.2.2.1.2,rfl,by omega,by simp [t1],by simp [t2],by simp [t3],by simp,by simp,ns1⟩
  clear t1 t2 t3 t4 t5
  rintro m t J ⟨i,g5,g8,rfl,hi,t1,t2,t3,t12,t13,ns⟩ ih
  have hel:=(elJ J ns.chg).rd.len (P:=Tryz.prog) (ty:=24) (by simp)
  rw [List.length_map] at hel
  simp [t1,t2,t3,t12,t13,hel]
  refine Qm ?_ ?_<;>intro g
  ·have hi':i<(Wk x).length:=by omega
   obtain ⟨u1,u2⟩:=Eh (elJ J ns.chg).rd.isI (i:=i) (by simpa using hi')
   have eel:((Wk x).map Int.ofNat)[i]'(by simpa using hi')=((Wk x)[i]:Int):=by simp
   rw [eel] at u2
   obtain ⟨m1,m2⟩:=Qj5 _ (List.getElem_mem hi')
   have hps:=Cn (y:=y3) hi'
   have hsat:(Uv x y3 i).2.2.2.2.2.1.getD (Wk x)[i] []=x.2.2.2.2.2.1.getD (Wk x)[i] []:=by
    rw [← ye3.2.2.1]
    have hnt:=Kr (f:=fun k:Nat=>k) (by simpa using Ql3) hi'
    exact wb _ _ _ (by simpa using hnt)
   generalize (Wk x)[i]=k at *
   have hkx:k<x.2.2.2.2.2.1.length:=by have:=hx.2.1.2.2.2.1;omega
   have hks:k<(Uv x y3 i).2.2.2.2.2.1.length:=by
    have:(Uv x y3 i).2.2.2.2.2.1.length=y3.2.2.2.2.2.1.length:=Xg Fd _ _
    rw [this,ye3.2.2.1];exact hkx
   have hgd:(Uv x y3 i).2.2.2.2.2.1.getD k []=(Uv x y3 i).2.2.2.2.2.1[k]:=by simp [List.getD_eq_getElem?_getD,hks]
   have hne:(Uv x y3 i).2.2.2.2.2.1[k]≠[]:=by rw [← hgd,hsat];exact m2.1
   have hgx:x.2.2.2.2.2.1.getD k []=x.2.2.2.2.2.1[k]:=by simp [List.getD_eq_getElem?_getD,hkx]
   have hnx:x.2.2.2.2.2.1[k]≠[]:=by rw [← hgx];exact m2.1
   obtain ⟨en1,en2,en3⟩:=Np hx m2.1
   have hcl:=en1.2
   obtain ⟨f,hfe⟩:∃f,f=U5 x k:=⟨_,rfl⟩
   have hhd:Zx x.2.2.2.2.2.1[k]=f:=by rw [← hgx,hfe];rfl
   obtain ⟨z,hz⟩:∃z,z=Ul x k:=⟨_,rfl⟩
   rw [← hfe,← hz] at en2
   rw [← hfe] at hcl
   unfold Xa at hcl
   have hzl:z<(Uv x y3 i).2.2.1.length:=by
    have:(Uv x y3 i).2.2.1.length=y3.2.2.1.length:=Xg (Fw x) _ _
    rw [this,l53];have:=hx.2.1.1;omega
   have b5i:Xf 67000096 (Uv x y3 i).2.2.1:=Xe (Y7 (Ea x) ((Wk x).take i) y3.2.2.1 67000080 b53) (show _≤67000096 by simp;omega)
   obtain ⟨J2,hJ2⟩:∃J2,J2=J++[⟨Yh.f f,0,148⟩]:=⟨_,rfl⟩
   have cJ:Qp J J2 []:=by rw [hJ2];exact Qp.app _
   have lJ2:J2.length=J.length+1:=by rw [hJ2];simp
   have bx:J2[J.length]? = some ⟨Yh.f f,0,148⟩:=by rw [hJ2];simp
   have hJs:J++[⟨Yh.f f,0,148⟩]=J2:=hJ2.symm
   simp only [Xp] at bx hJs
   have nsA:=ns.other cJ (by simp) (by simp)
   have hlJ:∀l∈Qe.ids (vw w g5 g8 w.2.2.2.2.2.2.1.2),l<J.length:=fun l hl=>Qe.lt ns.ow l hl
   have hFJ:H.length≤J.length:=by have:=ns.chg.1;omega
   have Qec:H.length≤J2.length:=by omega
   have hfg:∀l∈Qe.ids (vw w g5 g8 w.2.2.2.2.2.2.1.2),H.length≤l:=fun l hl=>by
    rcases ns.ids l hl with h|h
    ·have:=hmw l h;omega
    ·omega
   obtain ⟨a0,z1,z2,z3,z4,z5,z6,z7⟩:=Sa (u:=v.2.2.2.2.2.1) (Dt.chg (T:=Qe) o (cHJ J ns.chg) (by simp)).2.2.2.2.2.1 hkx
   obtain ⟨z0,_,_,_,_,_,_,zw⟩:=front z4.rd hnx
   rw [hhd] at zw
   simp only [Xp] at zw
   obtain ⟨az,d1,d2,d3,d4,d5,d6,d7⟩:=Sa (u:=(w.2.2.1.1,g5)) nsA.ow.2.2.1 hzl
   simp only at d2 d3 d7
   obtain ⟨a',M2,M3,hap,p5,p6,lv2,lv3,qb1,qb2,c2,pt⟩:=N8 (frz:=H.length) (u:=(w.2.2.1.1,g5)) nsA.ow.2.2.1 (So (n:=vw w g5 g8 w.2.2.2.2.2.2.1.2) nsA.nd) hzl (Nat.le_trans (Nat.succ_le_succ (b5i _ (List.getElem_mem hzl))) (by decide)) (fun l hl=>hfg l (Zn (n:=vw w g5 g8 w.2.2.2.2.2.2.1.2) l hl)) d1 f
   simp only at p5 p6 lv2 lv3
   obtain ⟨nsB,nB,cB⟩:=nsA.buf pt
   simp only [Xp] at hap
   have Cb:∀l∈Qe.ids (vw w (g5.set z a') g8 w.2.2.2.2.2.2.1.2),H.length≤l:=fun l hl=>by
    rcases nB l hl with h|h
    ·exact hfg l h
    ·omega
   obtain ⟨a8,s1,s2,s3,s4,s5,s6,s7⟩:=Sa (u:=(w.2.2.2.2.2.1.1,g8)) nsB.ow.2.2.2.2.2.1 hks
   simp only at s2 s3 s7
   obtain ⟨zz,b',N2,N3,t3',t4',t5',t6',mv2,mv3,qc1,qc2,cc2,pt2⟩:=An (frz:=H.length) (u:=(w.2.2.2.2.2.1.1,g8)) nsB.ow.2.2.2.2.2.1 (Je (n:=vw w (g5.set z a') g8 w.2.2.2.2.2.2.1.2) nsB.nd) hks hne (fun l hl=>Cb l (Sl (n:=vw w (g5.set z a') g8 w.2.2.2.2.2.2.1.2) l hl)) s1
   simp only at t5' t6' mv2 mv3
   obtain ⟨nsC,nC,cC⟩:=nsB.src pt2
   have hidg:K.length∉Qe.ids (vw w g5 g8 w.2.2.2.2.2.2.1.2):=fun hh=>by
    rcases ns.ids _ hh with h|h
    ·exact hidw h
    ·omega
   have hia:∀l∈ids az,l∈Qe.ids (vw w g5 g8 w.2.2.2.2.2.2.1.2):=fun l hl=>Zn (n:=vw w g5 g8 w.2.2.2.2.2.2.1.2) l (Up d1 hl)
   have rO1:=rowO J ns.chg
   have rN2:=rowN J2 nsA.chg
   have rNL:=fun L=>Qj rN2 L
   have Qou:=Qa rN2 c2 (fun hh=>hidg (hia _ hh))
   have Qk3:=rowN M3 nsB.chg
   have bxL:=fun L=>Qj bx L
   have lvL:∀L:Qd,VM.live (J2++L) w.2.2.1.1:=fun L=>Xy (v:=w.2.2.1.1) (Ow.app (L:=L) nsA.ow.2.2.1.1.1)
   unfold Qc at rO1 rN2 rNL Qou Qk3
   have k1:=@w6 (10*(k:Int)) (by omega)
   have k2:=@w6 (10*(k:Int)+8) (by omega)
   have k3:∀[Inhabited Unit],IntKind.i64.wrap (10*(k:Int)+8+f.2.2.1)=(z:Int):=by intro _;rw [Q0 (by omega) (by omega)];omega
   simp [t1,t2,t3,t12,t13,u1,u2,VM.look,rO1,ones,z2,z3,z5,z6,z0,zw,hFJ]
   rw [hJs]
   clear hJ2 hJs
   simp [t1,t2,t3,t12,t13,VM.look,bx,k1,k2,k3]
   rw [V8 (fl:=([1],[12])) (h:=⟨by kernel_rfl,by kernel_rfl,by kernel_rfl,by kernel_rfl⟩)]
   simp [Sd,Zi,Vs,-Q5,-Wm,t1,t2,t3,t12,t13,VM.look,rN2,onew,d2,d3,d5,d6,d7,bx,hap,p5,p6,lv2,lv3,qb1,qb2,rNL,Qou,Qk3,bxL,lvL,Qec]
   rw [S0 (h:=⟨by kernel_rfl,by kernel_rfl⟩)]
   simp [Sd,Zi,Vs,-Q5,-Wm,t1,t2,t3,t12,t13,VM.look,Qk3,onew,s2,s3,s5,s6,t3',t4',t5',t6',qc1,qc2]
   refine ih ((Wk x).length-(i+1)) _ _ ⟨i+1,g5.set z a',g8.set k b',rfl,by omega,by simp [t1],by simp [t2],by simp [t3],by simp [t12],?_,?_⟩ (by omega)
   ·simp [t13];rw [Q0 (by omega) (by omega)]
   ·rw [hps]
    have e1:Ns x (Uv x y3 i).2.2.1 k=Uo (Uv x y3 i).2.2.1 z (·++[f]):=by unfold Ns;rw [← hz,← hfe]
    rw [e1]
    exact nsC
  ·have hil:i=(Wk x).length:=by omega
   subst hil
   clear ih
   have hse:Ud x=older (Uv x y3 (Wk x).length) 1:=by rw [Qgv,← hy3]
   have et:∀[Inhabited Unit],IntKind.i64.wrap (x.2.2.2.2.2.2.2+1)=x.2.2.2.2.2.2.2+1:=by intro _;unfold Xa at ht;exact Q0 (by omega) (by omega)
   have rO2:=rowO J ns.chg
   have rN2:=rowN J ns.chg
   have rR2:=rowR J ns.chg
   unfold Qc at rO2 rN2
   have gN:=Qq (r':=⟨[.int .i64 x.1.1,.int .i64 x.1.2.1,w.1,w.2.1.1,w.2.1.2,w.2.2.1.1,w.2.2.2.1,w.2.2.2.2.1,w.2.2.2.2.2.1.1,w.2.2.2.2.2.2.1.1,.int .i64 (x.2.2.2.2.2.2.2+1)],0,48⟩) rN2
   have cN:Qp J (J.set K.length ⟨[.int .i64 x.1.1,.int .i64 x.1.2.1,w.1,w.2.1.1,w.2.1.2,w.2.2.1.1,w.2.2.2.1,w.2.2.2.2.1,w.2.2.2.2.2.1.1,w.2.2.2.2.2.2.1.1,.int .i64 (x.2.2.2.2.2.2.2+1)],0,48⟩) [K.length]:=Qn _ _
   have rR3:=Qa rR2 cN (by simp;omega)
   have gR:=Qq (r':=⟨[.int .i64 x.1.1,.int .i64 x.1.2.1,w.1,w.2.1.1,w.2.1.2,w.2.2.1.1,w.2.2.2.1,w.2.2.2.2.1,w.2.2.2.2.2.1.1,w.2.2.2.2.2.2.1.1,.int .i64 (x.2.2.2.2.2.2.2+1)],0,48⟩) rR3
   have cR:Qp (J.set K.length ⟨[.int .i64 x.1.1,.int .i64 x.1.2.1,w.1,w.2.1.1,w.2.1.2,w.2.2.1.1,w.2.2.2.1,w.2.2.2.2.1,w.2.2.2.2.2.1.1,w.2.2.2.2.2.2.1.1,.int .i64 (x.2.2.2.2.2.2.2+1)],0,48⟩) ((J.set K.length ⟨[.int .i64 x.1.1,.int .i64 x.1.2.1,w.1,w.2.1.1,w.2.1.2,w.2.2.1.1,w.2.2.2.1,w.2.2.2.2.1,w.2.2.2.2.2.1.1,w.2.2.2.2.2.2.1.1,.int .i64 (x.2.2.2.2.2.2.2+1)],0,48⟩).set (H.length+1) ⟨[.int .i64 x.1.1,.int .i64 x.1.2.1,w.1,w.2.1.1,w.2.1.2,w.2.2.1.1,w.2.2.2.1,w.2.2.2.2.1,w.2.2.2.2.2.1.1,w.2.2.2.2.2.2.1.1,.int .i64 (x.2.2.2.2.2.2.2+1)],0,48⟩) [H.length+1]:=Qn _ _
   have hF1:H.length≤H.length+1:=by omega
   have hidg:K.length∉Qe.ids (vw w g5 g8 w.2.2.2.2.2.2.1.2):=fun hh=>by
    rcases ns.ids _ hh with h|h
    ·exact hidw h
    ·omega
   have hmg:∀k∈Qe.ids (vw w g5 g8 w.2.2.2.2.2.2.1.2),H.length+2≤k:=fun k hk=>by
    rcases ns.ids k hk with h|h
    ·exact hmw k h
    ·omega
   simp [t1,t2,t3,t12,t13,VM.look,rO2,rN2,ones,onew,et,hF,gN,rR3,gR,hF1]
   refine ⟨vw w g5 g8 w.2.2.2.2.2.2.1.2,rfl,?_,?_,fun k hk=>by have:=hmg k hk;omega,ns.nd⟩
   ·rw [hse]
    exact Dt.chg (T:=Qe) (Dt.chg (T:=Qe) ns.ow cN (fun k hk hh=>by simp at hh;exact hidg (hh▸hk))) cR (fun k hk hh=>by have:=hmg k hk;simp at hh;omega)
   ·exact ((cHJ J ns.chg).trans' cN (fun k hk=>.inr (by simp at hk;omega))).trans' cR (fun k hk=>.inr (by simp at hk;omega))
def runs (x:Qu) (k:Int):Prop:=W9 x∧Xa 0 k 400∧x.2.2.2.2.2.2.2+k≤1000000
instance (x:Qu) (k:Int):Decidable (runs x k):=inferInstanceAs (Decidable (_∧_))
noncomputable def Vz (x:Qu) (k:Int):Qu:=if runs x k then runN x k.toNat else x
theorem Pa {x:Qu} (h:W9 x):Xf 66000000 x.2.2.1:=fun l hl=>by
 obtain ⟨i,hi,rfl⟩:=List.getElem_of_mem hl
 have:=(h.2.2.1 i hi).1
 rw [Vc hi] at this
 omega
theorem Ah {x:Qu} (h:Zq x) (h5:Xf 66000000 x.2.2.1) (h9:Xf 66000000 x.2.2.2.2.2.2.1) {i:Nat} (hi:i≤400):Zq (runN x i)∧Xf 67000000 (runN x i).2.2.1∧Xf 67000000 (runN x i).2.2.2.2.2.2.1∧(runN x i).2.2.2.2.2.2.2=x.2.2.2.2.2.2.2+i:=by
 obtain ⟨a,b⟩:=E5 h5 h9 i
 exact ⟨Qe5 h i,Xe a (by omega),Xe b (by omega),Gv x i⟩
theorem xn {v:Wo} {x:Qu} {k:Int} (o:Qe.Ow H v x):Qh C frz 176 [Qe.val v x,.int .i64 k] H=some (.bool (decide (runs x k)),H):=by
 refine wp.exact (by simp) ?_ rfl
 have ones:=Qr o
 have nk:=fun F L=>Gh (frz:=F) (H:=H++L) (v:=v) (x:=x) (Dt.app (T:=Qe) o)
 simp only [Qk] at nk ⊢
 rw [Qb (fn:=Tryz.f176) Tryz.func176 rfl (by kernel_rfl) rfl]
 generalize hY:decide (runs x k)=Y
 have no:¬runs x k→Y=false:=fun hh=>by rw [← hY];exact decide_eq_false hh
 by_cases h1:W9 x
 rotate_left
 ·simp [ones,VM.look,nk,h1];exact no (fun k=>h1 k.1)
 by_cases h2:Xa 0 k 400
 rotate_left
 ·simp [ones,VM.look,nk,h1,Wd,h2];exact no (fun k=>h2 k.2.1)
 have ht:=h1.2.2.2.2.2.2
 unfold Xa at ht
 have e1:∀[Inhabited Unit],IntKind.i64.wrap (x.2.2.2.2.2.2.2+k)=x.2.2.2.2.2.2.2+k:=by intro _;unfold Xa at h2;exact Q0 (by omega) (by omega)
 have key:runs x k↔x.2.2.2.2.2.2.2+k≤1000000:=⟨fun h=>h.2.2,fun h=>⟨h1,h2,h⟩⟩
 simp [ones,VM.look,nk,h1,Wd,h2,e1]
 rw [← hY];simp only [key]
theorem Qg4 {v:Wo} {x:Qu} {k:Int} (o:Qe.Ow H v x) (h9:Xf 66000000 x.2.2.2.2.2.2.1) :
 wp (Qh C frz 175 [Qe.val v x,.int .i64 k] H) (Xr Qe H (Vz x k) (decide (runs x k))):=by
 have ones:=Qr o
 have ecopy:=fun L=>Sp (frz:=H.length) (H:=H++L) (v:=v) (x:=x) (Dt.app (T:=Qe) o)
 have ck:=fun F K (c:Qp H K [])=>xn (frz:=F) (H:=K) (v:=v) (x:=x) (k:=k) (Dt.chg (T:=Qe) o c (by simp))
 simp only [Qk] at ecopy ck ⊢
 rw [Qb (fn:=Tryz.f175) Tryz.func175 rfl (by kernel_rfl) rfl]
 simp [ones]
 refine Ql (ecopy _) ?_
 rintro _ K ⟨n,rfl,on,cn,mn,dn⟩
 simp at mn
 have qn:=Qr on
 have lK:=cn.1
 simp at lK
 have hF:H.length≤K.length:=by omega
 have ltn:∀i∈Qe.ids n,i<K.length:=fun i hi=>Qe.lt on i hi
 simp [Qk,qn,VM.look,hF]
 obtain ⟨K1,hK1⟩:∃K1,K1=K++[⟨Qc n x,0,48⟩]:=⟨_,rfl⟩
 have c1:Qp K K1 []:=by rw [hK1];exact Qp.app _
 have cK:Qp H K []:=(Qp.app _).trans cn
 have cK1:=cK.trans c1
 have l1:K1.length=K.length+1:=by rw [hK1];simp
 have b1:K1[H.length]? = some ⟨Qc v x,0,48⟩:=Qa (Qa (by simp [Qc]) cn (by simp)) c1 (by simp)
 have bR:K1[H.length+1]? = some ⟨[.int .i64 0,.int .i64 0,.slice none 0 0,.slice none 0 0,.slice none 0 0,.slice none 0 0,.slice none 0 0,.slice none 0 0,.slice none 0 0,.slice none 0 0,.int .i64 0],0,48⟩:=Qa (Qa (by simp) cn (by simp)) c1 (by simp)
 have b3:K1[K.length]? = some ⟨Qc n x,0,48⟩:=by rw [hK1];simp
 have on1:=Dt.chg (T:=Qe) on c1 (by simp)
 have hKs:K++[⟨Qc n x,0,48⟩]=K1:=hK1.symm
 have b1':=b1
 unfold Qc at hKs b1'
 rw [hKs]
 clear hK1 hKs
 have ck':=fun F=>ck F K1 cK1
 have hF1:H.length≤H.length+1:=by omega
 -- what is handed back
 have fin:∀(J:Qd) (w:Wo) (y:Qu) (b:Bool),Qp H J []→J[H.length+1]? = some ⟨[.int .i64 0,.int .i64 0,.slice none 0 0,.slice none 0 0,.slice none 0 0,.slice none 0 0,.slice none 0 0,.slice none 0 0,.slice none 0 0,.slice none 0 0,.int .i64 0],0,48⟩→
  Qe.Ow J w y→(Qe.ids w).Nodup→(∀i∈Qe.ids w,H.length+2≤i)→Vz x k=y→decide (runs x k)=b→Xr Qe H (Vz x k) (decide (runs x k)) (.tuple #[Qe.val w y,.bool b]) (J.set (H.length+1) ⟨Qc w y,0,48⟩):=fun J w y b cJ bJ oJ dJ mJ e1 e2=>by
  rw [e1,e2]
  exact ⟨_,rfl,w,rfl,Dt.chg (T:=Qe) oJ (Qn _ _) (fun i hi hh=>by have:=mJ i hi;simp at hh;omega),cJ.trans' (Qn _ _) (fun i hi=>.inr (by simp at hi;omega)),fun i hi=>by have:=mJ i hi;omega,dJ⟩
 by_cases g0:runs x k
 rotate_left
 ·have gR:=Qq (r':=⟨Qc n x,0,48⟩) bR
  have hM:=fin K1 n x false cK1 bR on1 dn (fun i hi=>by have:=mn i hi;omega) (if_neg g0) (decide_eq_false g0)
  have b3':=b3
  unfold Qc at b3' gR
  simp [VM.look,b1',ones,ck',g0,b3',bR,gR,qn,hF1]
  simpa [g0,Qk,Qc] using hM
 obtain ⟨m,hm⟩:∃m:Nat,k=m:=⟨k.toNat,by have:=g0.2.1.1;omega⟩
 subst hm
 have hm4:m≤400:=by have:=g0.2.1.2;omega
 have ht:=g0.1.2.2.2.2.2.2
 have ht2:=g0.2.2
 unfold Xa at ht
 have hro:=Vq g0.1
 have ra:=fun i (hi:i≤m)=>Ah (i:=i) hro (Pa g0.1) h9 (by omega)
 simp [VM.look,b1',ones,ck',g0]
 refine Qw (fun q t J=>∃(i:Nat) (w:Wo),q=m-i∧i≤m∧t 6=.pointer (some ⟨K.length,0,some 0⟩)∧t 4=.pointer (some ⟨H.length+1,0,some 0⟩)∧t 14=.int .i64 m∧t 15=.int .i64 i∧J[K.length]? = some ⟨Qc w (runN x i),0,48⟩∧Qe.Ow J w (runN x i)∧(Qe.ids w).Nodup∧(∀i∈Qe.ids w,H.length+2≤i∧i≠K.length)∧
  J[H.length+1]? = some ⟨[.int .i64 0,.int .i64 0,.slice none 0 0,.slice none 0 0,.slice none 0 0,.slice none 0 0,.slice none 0 0,.slice none 0 0,.slice none 0 0,.slice none 0 0,.int .i64 0],0,48⟩∧Qp H J []) ?_ (n:=m)
  ⟨0,n,rfl,by omega,by simp,by simp,by simp,by simp,b3,on1,dn,fun i hi=>⟨by have:=mn i hi;omega,by have:=ltn i hi;omega⟩,bR,cK1⟩
 rintro q t J ⟨i,w,rfl,hi,t6,t4,t14,t15,bJ,oJ,dJ,mJ,bRJ,cJ⟩ ih
 simp [t6,t4,t14,t15]
 refine Qm ?_ ?_<;>intro g
 ·have hi':i<m:=by omega
  obtain ⟨r1,r2,r3,r4⟩:=ra i (by omega)
  have lJ:=Wj bJ
  have st:=Qgc (frz:=H.length) (id:=K.length) (tail:=[]) (e:=48) (by simpa using bJ) oJ dJ (fun i hi=>by have:=(mJ i hi).1;omega) hF (fun hh=>(mJ _ hh).2 rfl) cJ.1 r1 r2 r3 (by rw [r4];unfold Xa;omega)
  simp [t6,t4,t14,t15]
  refine Ql st ?_
  rintro _ J2 ⟨w2,s1,s2,s3,s4,s5⟩
  rw [List.append_nil] at s1
  simp [t6,t4,t14,t15]
  refine ih (m-(i+1)) _ _ ⟨i+1,w2,rfl,by omega,by simp [t6],by simp [t4],by simp [t14],?_,s1,s2,s3,fun j hj=>?_,Qa bRJ s5 (fun hh=>?_),cJ.trans' s5 (fun j hj=>?_)⟩ (by omega)
  ·simp [t15];rw [Q0 (by omega) (by omega)]
  ·rcases s4 j hj with h|h
   ·exact mJ j h
   ·exact ⟨by omega,by omega⟩
  ·rcases List.mem_cons.1 hh with h|h
   ·omega
   ·have:=(mJ _ h).1;omega
  ·right
   rcases List.mem_cons.1 hj with h|h
   ·omega
   ·have:=(mJ _ h).1;omega
 ·have:i=m:=by omega
  subst this
  have gR:=Qq (r':=⟨Qc w (runN x i),0,48⟩) bRJ
  have oneJ:=Qr oJ
  have hM:=fin J w (runN x i) true cJ bRJ oJ dJ (fun j hj=>(mJ j hj).1) (by unfold Vz;rw [if_pos g0,Int.toNat_natCast]) (decide_eq_true g0)
  unfold Qc at bJ gR
  simp [t6,t4,t14,t15,VM.look,bJ,bRJ,gR,oneJ,hF1]
  simpa [g0,Qk,Qc] using hM
def Qbx (H:Qd) (v:Wo) (y:Qu) (r:Value) (H':Qd):Prop:=
 ∃w:Wo,r=Qe.val w y∧Qe.Ow H' w y∧(Qe.ids w).Nodup∧(∀i∈Qe.ids w,i∈Qe.ids v∨H.length≤i)∧Qp H H' []
theorem zm {v:Wo} {x:Qu} {m:Nat} (o:Qe.Ow H v x) (nd:(Qe.ids v).Nodup) (hm4:m≤400) (hx:Zq x) (h5:Xf 66000000 x.2.2.1) (h9:Xf 66000000 x.2.2.2.2.2.2.1) (ht:0≤x.2.2.2.2.2.2.2) (ht2:x.2.2.2.2.2.2.2+m≤1000000) :
 wp (Qh C frz 117 [Qe.val v x,.int .i64 m] H) (Qbx H v (runN x m)):=by
 have ones:=Qr o
 have hlt:=Qe.lt o
 have ra:=fun i (hi:i≤m)=>Ah (i:=i) hx h5 h9 (by omega)
 simp only [Qk]
 rw [Qb (fn:=Tryz.f117) Tryz.func117 rfl (by kernel_rfl) rfl]
 obtain ⟨G,hG⟩:∃G,G=H++[⟨Qc v x,0,48⟩,⟨[.int .i64 0,.int .i64 0,.slice none 0 0,.slice none 0 0,.slice none 0 0,.slice none 0 0,.slice none 0 0,.slice none 0 0,.slice none 0 0,.slice none 0 0,.int .i64 0],0,48⟩]:=⟨_,rfl⟩
 have cG:Qp H G []:=by rw [hG];exact Qp.app _
 have b1:G[H.length]? = some ⟨Qc v x,0,48⟩:=by rw [hG];simp
 have bR:G[H.length+1]? = some ⟨[.int .i64 0,.int .i64 0,.slice none 0 0,.slice none 0 0,.slice none 0 0,.slice none 0 0,.slice none 0 0,.slice none 0 0,.slice none 0 0,.slice none 0 0,.int .i64 0],0,48⟩:=by rw [hG];simp
 have hGs:=hG.symm
 unfold Qc at hGs
 simp [ones]
 rw [hGs]
 clear hG hGs
 have hF0:H.length≤H.length:=Nat.le_refl _
 have hF1:H.length≤H.length+1:=by omega
 refine Qw (fun q t J=>∃(i:Nat) (w:Wo),q=m-i∧i≤m∧t 1=.int .i64 m∧t 2=.pointer (some ⟨H.length,0,some 0⟩)∧t 4=.pointer (some ⟨H.length+1,0,some 0⟩)∧t 5=.int .i64 i∧J[H.length]? = some ⟨Qc w (runN x i),0,48⟩∧Qe.Ow J w (runN x i)∧(Qe.ids w).Nodup∧(∀i∈Qe.ids w,i∈Qe.ids v∨H.length+2≤i)∧
  J[H.length+1]? = some ⟨[.int .i64 0,.int .i64 0,.slice none 0 0,.slice none 0 0,.slice none 0 0,.slice none 0 0,.slice none 0 0,.slice none 0 0,.slice none 0 0,.slice none 0 0,.int .i64 0],0,48⟩∧Qp H J []) ?_ (n:=m)
  ⟨0,v,rfl,by omega,by simp,by simp,by simp,by simp,b1,Dt.chg (T:=Qe) o cG (by simp),nd,fun i hi=>.inl hi,bR,cG⟩
 rintro q t J ⟨i,w,rfl,hi,t1,t2,t4,t5,bJ,oJ,dJ,mJ,bRJ,cJ⟩ ih
 have oneJ:=Qr oJ
 have hdis:∀k∈Qe.ids w,k≠H.length∧k≠H.length+1:=fun k hk=>by
  rcases mJ k hk with h|h
  ·have:=hlt k h;exact ⟨by omega,by omega⟩
  ·exact ⟨by omega,by omega⟩
 -- what is handed back
 have fin:∀(y:Qu) (J:Qd),Qp H J []→Qe.Ow J w y→Qbx H v y (Qe.val w y) (J.set (H.length+1) ⟨Qc w y,0,48⟩):=fun y J cJ oJ=>
  ⟨w,rfl,Dt.chg (T:=Qe) oJ (Qn _ _) (fun k hk hh=>by have:=(hdis k hk).2;simp at hh;omega),dJ,fun k hk=>(mJ k hk).imp _root_.id (fun h=>by omega),cJ.trans' (Qn _ _) (fun k hk=>.inr (by simp at hk;omega))⟩
 simp [t1,t2,t4,t5]
 refine Qm ?_ ?_<;>intro g
 ·have hi':i<m:=by omega
  obtain ⟨r1,r2,r3,r4⟩:=ra i (by omega)
  have lJ:=Wj bJ
  have idl:=fun F=>Jm (frz:=F) oJ
  simp only [Qk] at idl
  have bJ':=bJ
  unfold Qc at bJ'
  simp [t1,t2,t4,t5,VM.look,bJ',oneJ,idl]
  by_cases g1:idle (runN x i)
  ·have hrun:runN x m=older (runN x i) ((m-i:Nat):Int):=by
    have h1:=A6 x i (m-i)
    rw [show i+(m-i)=m by omega] at h1
    rw [h1,yq g1]
   have e1:=@w6 ((runN x i).2.2.2.2.2.2.2+(m:Int)) (by omega)
   have e2:∀[Inhabited Unit],IntKind.i64.wrap ((runN x i).2.2.2.2.2.2.2+(m:Int)-(i:Int))=(runN x i).2.2.2.2.2.2.2+((m-i:Nat):Int):=by intro _;rw [Q0 (by omega) (by omega)];omega
   obtain ⟨T,hT⟩:∃T,T=(runN x i).2.2.2.2.2.2.2+((m-i:Nat):Int):=⟨_,rfl⟩
   rw [← hT] at e2
   have hod:older (runN x i) ((m-i:Nat):Int)=((runN x i).1,(runN x i).2.1,(runN x i).2.2.1,(runN x i).2.2.2.1,(runN x i).2.2.2.2.1,(runN x i).2.2.2.2.2.1,(runN x i).2.2.2.2.2.2.1,T):=by unfold older;rw [hT]
   rw [hrun,hod]
   generalize runN x i=z at *
   have gN:=Qq (r':=⟨Qc w (z.1,z.2.1,z.2.2.1,z.2.2.2.1,z.2.2.2.2.1,z.2.2.2.2.2.1,z.2.2.2.2.2.2.1,T),0,48⟩) bJ
   have cN:Qp J (J.set H.length ⟨Qc w (z.1,z.2.1,z.2.2.1,z.2.2.2.1,z.2.2.2.2.1,z.2.2.2.2.2.1,z.2.2.2.2.2.2.1,T),0,48⟩) [H.length]:=Qn _ _
   have bR3:=Qa bRJ cN (by simp)
   have gR:=Qq (r':=⟨Qc w (z.1,z.2.1,z.2.2.1,z.2.2.2.1,z.2.2.2.2.1,z.2.2.2.2.2.1,z.2.2.2.2.2.2.1,T),0,48⟩) bR3
   have hM:=fin (z.1,z.2.1,z.2.2.1,z.2.2.2.1,z.2.2.2.2.1,z.2.2.2.2.2.1,z.2.2.2.2.2.2.1,T) _ (cJ.trans' cN (fun k hk=>.inr (by simp at hk;omega))) (Dt.chg (T:=Qe) oJ cN (fun k hk hh=>by have:=(hdis k hk).1;simp at hh;omega))
   unfold Qc at gN bR3 gR hM
   simp only at gN bR3 gR hM
   simp [t1,t2,t4,t5,VM.look,bJ',oneJ,g1,e1,e2,gN,bR3,gR,hF1]
   simpa [Qk] using hM
  have st:=Ba (frz:=H.length) oJ r1 r2 r3 (by rw [r4];unfold Xa;omega)
  simp only [Qk] at st
  simp [t1,t2,t4,t5,VM.look,bJ',oneJ,g1]
  refine Ql st ?_
  rintro _ J2 ⟨w2,rfl,s2,s5,s4,s3⟩
  have Wi:=Qr s2
  have bJ2:=Qa bJ s5 (by simp)
  have Qz8:=Qa bRJ s5 (by simp)
  have hg:runN x (i+1)=Ud (runN x i):=rfl
  have gN:=Qq (r':=⟨Qc w2 (Ud (runN x i)),0,48⟩) bJ2
  have cN:Qp J2 (J2.set H.length ⟨Qc w2 (Ud (runN x i)),0,48⟩) [H.length]:=Qn _ _
  have hF2:H.length≤H.length:=Nat.le_refl _
  have l2:=s5.1
  have l3:=Wj bRJ
  have Qcg:=bJ2
  unfold Qc at Qcg
  simp [Qk,t1,t2,t4,t5,VM.look,Qcg,Wi]
  refine ih (m-(i+1)) _ _ ⟨i+1,w2,rfl,by omega,by simp [t1],by simp [t2],by simp [t4],?_,gN,Dt.chg (T:=Qe) s2 cN (fun k hk hh=>by have:=s4 k hk;simp at hh;omega),s3,fun k hk=>.inr (by have:=s4 k hk;omega),Qa Qz8 cN (by simp),(cJ.trans s5).trans' cN (fun k hk=>.inr (by simp at hk;omega))⟩ (by omega)
  simp [t5];rw [Q0 (by omega) (by omega)]
 ·have:i=m:=by omega
  subst this
  have gR:=Qq (r':=⟨Qc w (runN x i),0,48⟩) bRJ
  have hM:=fin (runN x i) J cJ oJ
  unfold Qc at bJ gR hM
  simp [t1,t2,t4,t5,VM.look,bJ,bRJ,gR,oneJ,hF1]
  simpa [Qk] using hM
theorem Qcl {v:Wo} {x:Qu} {k:Int} (o:Qe.Ow H v x) (h9:Xf 66000000 x.2.2.2.2.2.2.1) :
 wp (Qh C frz 111 [Qe.val v x,.int .i64 k] H) (Xr Qe H (Vz x k) (decide (runs x k))):=by
 have ones:=Qr o
 have ecopy:=fun L=>U4 (frz:=H.length) (H:=H++L) (v:=v) (x:=x) (Dt.app (T:=Qe) o)
 have nk:=fun F L=>T1 (frz:=F) (H:=H++L) (v:=v) (x:=x) (Dt.app (T:=Qe) o)
 simp only [Qk] at ecopy nk ⊢
 rw [Qb (fn:=Tryz.f111) Tryz.func111 rfl (by kernel_rfl) rfl]
 have hF1:H.length≤H.length+1:=by omega
 have fin:∀(J:Qd) (w:Wo) (y:Qu) (b:Bool),Qp H J []→
  Qe.Ow J w y→(Qe.ids w).Nodup→(∀i∈Qe.ids w,H.length+2≤i)→Vz x k=y→decide (runs x k)=b→Xr Qe H (Vz x k) (decide (runs x k)) (.tuple #[Qe.val w y,.bool b]) (J.set (H.length+1) ⟨Qc w y,0,48⟩):=fun J w y b cJ oJ dJ mJ e1 e2=>by
  rw [e1,e2]
  exact ⟨_,rfl,w,rfl,Dt.chg (T:=Qe) oJ (Qn _ _) (fun i hi hh=>by have:=mJ i hi;simp at hh;omega),cJ.trans' (Qn _ _) (fun i hi=>.inr (by simp at hi;omega)),fun i hi=>by have:=mJ i hi;omega,dJ⟩
 by_cases g0:runs x k
 ·obtain ⟨m,hm⟩:∃m:Nat,k=m:=⟨k.toNat,by have:=g0.2.1.1;omega⟩
  subst hm
  have hm4:m≤400:=by have:=g0.2.1.2;omega
  have ht:=g0.1.2.2.2.2.2.2
  have ht2:=g0.2.2
  unfold Xa at ht
  have hro:=Vq g0.1
  have e1:∀[Inhabited Unit],IntKind.i64.wrap (x.2.2.2.2.2.2.2+(m:Int))=x.2.2.2.2.2.2.2+m:=by intro _;exact Q0 (by omega) (by omega)
  have e2:¬1000000<x.2.2.2.2.2.2.2+(m:Int):=by omega
  simp [ones,VM.look,nk,g0.1,Ws,g0.2.1,e1,e2]
  refine Ql (ecopy _) ?_
  rintro _ K ⟨n,rfl,on,cn,mn,dn⟩
  simp at mn
  have qn:=Qr on
  have rr:=zm (frz:=H.length) on dn hm4 hro (Pa g0.1) h9 ht.1 ht2
  simp only [Qk] at rr
  have lK:=cn.1
  simp at lK
  simp [Qk,qn]
  refine Ql rr ?_
  rintro _ J ⟨w,rfl,ow,dw,mw,cw⟩
  have onew:=Qr ow
  have cJ:Qp H J []:=((Qp.app _).trans cn).trans cw
  have bR:J[H.length+1]? = some ⟨[.int .i64 0,.int .i64 0,.slice none 0 0,.slice none 0 0,.slice none 0 0,.slice none 0 0,.slice none 0 0,.slice none 0 0,.slice none 0 0,.slice none 0 0,.int .i64 0],0,48⟩:=Qa (Qa (by simp) cn (by simp)) cw (by simp)
  have gR:=Qq (r':=⟨Qc w (runN x m),0,48⟩) bR
  have hM:=fin J w (runN x m) true cJ ow dw (fun i hi=>by
   rcases mw i hi with h|h
   ·have:=mn i h;omega
   ·omega) (by unfold Vz;rw [if_pos g0,Int.toNat_natCast]) (decide_eq_true g0)
  unfold Qc at gR
  simp [Qk,VM.look,bR,gR,onew,hF1]
  simpa [g0,Qk,Qc] using hM
 ·by_cases h1:W9 x
  ·by_cases h2:Xa 0 k 400
   ·have ht:=h1.2.2.2.2.2.2
    unfold Xa at ht
    have e1:∀[Inhabited Unit],IntKind.i64.wrap (x.2.2.2.2.2.2.2+k)=x.2.2.2.2.2.2.2+k:=by intro _;unfold Xa at h2;exact Q0 (by omega) (by omega)
    have e2:1000000<x.2.2.2.2.2.2.2+k:=by
     refine Classical.byContradiction fun hh=>g0 ⟨h1,h2,by omega⟩
    simp [ones,VM.look,nk,h1,Ws,h2,e1,e2]
    refine Ql (ecopy _) ?_
    rintro _ K ⟨n,rfl,on,cn,mn,dn⟩
    simp at mn
    have qn:=Qr on
    have bR:K[H.length+1]? = some ⟨[.int .i64 0,.int .i64 0,.slice none 0 0,.slice none 0 0,.slice none 0 0,.slice none 0 0,.slice none 0 0,.slice none 0 0,.slice none 0 0,.slice none 0 0,.int .i64 0],0,48⟩:=Qa (by simp) cn (by simp)
    have gR:=Qq (r':=⟨Qc n x,0,48⟩) bR
    have hM:=fin K n x false ((Qp.app _).trans cn) on dn (fun i hi=>by have:=mn i hi;omega) (if_neg g0) (decide_eq_false g0)
    unfold Qc at gR
    simp [Qk,VM.look,bR,gR,qn,hF1]
    simpa [g0,Qk,Qc] using hM
   ·simp [ones,VM.look,nk,h1,Ws,h2]
    refine Ql (ecopy _) ?_
    rintro _ K ⟨n,rfl,on,cn,mn,dn⟩
    simp at mn
    have qn:=Qr on
    have bR:K[H.length+1]? = some ⟨[.int .i64 0,.int .i64 0,.slice none 0 0,.slice none 0 0,.slice none 0 0,.slice none 0 0,.slice none 0 0,.slice none 0 0,.slice none 0 0,.slice none 0 0,.int .i64 0],0,48⟩:=Qa (by simp) cn (by simp)
    have gR:=Qq (r':=⟨Qc n x,0,48⟩) bR
    have hM:=fin K n x false ((Qp.app _).trans cn) on dn (fun i hi=>by have:=mn i hi;omega) (if_neg g0) (decide_eq_false g0)
    unfold Qc at gR
    simp [Qk,VM.look,bR,gR,qn,hF1]
    simpa [g0,Qk,Qc] using hM
  ·simp [ones,VM.look,nk,h1]
   refine Ql (ecopy _) ?_
   rintro _ K ⟨n,rfl,on,cn,mn,dn⟩
   simp at mn
   have qn:=Qr on
   have bR:K[H.length+1]? = some ⟨[.int .i64 0,.int .i64 0,.slice none 0 0,.slice none 0 0,.slice none 0 0,.slice none 0 0,.slice none 0 0,.slice none 0 0,.slice none 0 0,.slice none 0 0,.int .i64 0],0,48⟩:=Qa (by simp) cn (by simp)
   have gR:=Qq (r':=⟨Qc n x,0,48⟩) bR
   have hM:=fin K n x false ((Qp.app _).trans cn) on dn (fun i hi=>by have:=mn i hi;omega) (if_neg g0) (decide_eq_false g0)
   unfold Qc at gR
   simp [Qk,VM.look,bR,gR,qn,hF1]
   simpa [g0,Qk,Qc] using hM
def U7:Fl Yy:=⟨5,fun a=>[.int .i64 a.1,.int .i64 a.2.1,.int .i64 a.2.2.1,.int .i64 a.2.2.2.1,.int .i64 a.2.2.2.2],fun _=>rfl⟩
@[simp] theorem S4:U7.n=5:=rfl
theorem Zj (a:Yy):U7.f a=[.int .i64 a.1,.int .i64 a.2.1,.int .i64 a.2.2.1,.int .i64 a.2.2.2.1,.int .i64 a.2.2.2.2]:=rfl
abbrev knP:=Kn.pair (Kn.int .i64) (Kn.pair (Kn.int .i64) (Kn.pair (Kn.int .i64) (Kn.pair (Kn.int .i64) (Kn.int .i64))))
theorem Qe2 {H:Qd} {x:Yy} {vs:List Value} (h:knP.Is H x vs):vs=U7.f x:=by
 obtain ⟨v1,v2,rfl,h1,w1,w2,rfl,h2,y1,y2,rfl,h3,z1,z2,rfl,h4,h5⟩:=h
 simp only [Kn.int,Kn.bool] at h1 h2 h3 h4 h5
 rw [h1,h2,h3,h4,h5];rfl
theorem Kp (xs:List Yy):ones (cellsOf U7 xs)=true:=by
 induction xs with
 | nil=>rfl
 | cons a l ih=>rw [Ye];simp [ih,Zj]
theorem Qaw (x:Yy):Qh C frz 74 [.agg (U7.f x).toArray] H=some (.agg (U7.f x).toArray,H):=gx _ _ _ _ _
theorem zf (v:Value) (xs:List Yy) (hI:Rd U7 H v xs) (hb:xs.length≤1073741824) :
 wp (Qh C frz 32 [v] H) (fun r H'=>Ow U7 104 H' r xs∧(∀i∈ids r,H.length≤i)∧Qp H H' []):=by
 rw [Qb (fn:=Tryz.f32) Tryz.func32 rfl (by kernel_rfl) rfl]
 simp [hI.len]
 refine Xt (by omega) ?_
 refine Qw (fun n t H'=>∃i:Nat,n=xs.length-i∧i≤xs.length∧t 0=v∧t 3=.slice (some ⟨H.length,0,some 0⟩) xs.length 0∧t 4=.int .i64 i∧
  Ow U7 104 H' (.slice (some ⟨H.length,0,some 0⟩) xs.length 0) (xs.take i++List.replicate (xs.length-i) (0,0,0,0,0))∧Qp H H' []) ?_ (n:=xs.length)
  ⟨0,by simp,by omega,by simp,by simp,by simp,Ow.new0 rfl (Uh (D:=U7) (0,0,0,0,0) _) (by rw [Uh (D:=U7) (0,0,0,0,0)];exact Kp _) (by simp),Qp.app _⟩
 rintro n t H' ⟨i,rfl,hi,h0,h3,h4,o,c⟩ ih
 have rd:=hI.chg c (by simp)
 simp [h0,h3,h4,rd.len]
 refine Qm ?_ ?_<;>intro h
 ·have h':i<xs.length:=by omega
  have q1:=rd.idx (P:=Tryz.prog) (ty:=34) (e:=120) (by simp) (i:=(i:Int)) (by omega) (by omega)
  have q2:=rd.load (P:=Tryz.prog) (e:=120) (by simp) h'
  have hl:(xs.take i++List.replicate (xs.length-i) ((0,0,0,0,0):Yy)).length=xs.length:=by simp;omega
  have q3:=o.rd.idx (P:=Tryz.prog) (ty:=49) (e:=104) (by simp) (i:=(i:Int)) (by omega) (by omega)
  obtain ⟨H2,s1,o1,c1,l1⟩:=o.store (P:=Tryz.prog) (frz:=H.length) (et:=104) (ag:=true) (x:=.agg (U7.f xs[i]).toArray) (by simp) (j:=i) (y:=xs[i]) (by omega) (by simp [Value.cells]) (by simp [Zj]) (by simp)
  simp only [Int.toNat_natCast,S4] at q1 q2 q3 s1
  simp [h0,h3,h4,q1,q2,Qaw,q3,s1]
  refine ih (xs.length-(i+1)) _ _ ⟨i+1,rfl,by omega,by simp [h0],by simp [h3],?_,?_,c.trans' c1 (by simp)⟩ (by omega)
  ·simp;rw [Q0 (by omega) (by omega)]
  ·rw [Gt _ _ h'] at o1;exact o1
 ·have:i=xs.length:=by omega
  subst this
  simp [h0,h3,h4]
  exact ⟨by simpa using o,c⟩
theorem jr (v:Value) (xs:List Yy) (n:Int) (hI:Rd U7 H v xs) (h0:0≤n) (h1:n≤1048576) (h2:xs.length≤9223372036854775807) :
 Qh C frz 27 [v,.int .i64 n] H=some (.int .i64 (if n<xs.length then -1 else n-xs.length),H):=by
 rw [Qb (fn:=Tryz.f27) Tryz.func27 rfl (by kernel_rfl) rfl]
 simp [hI.len]
 rw [Q0 (by omega) (by omega)]
 refine Q7 _ ?_ ?_<;>intro h<;>simp [h]
 ·intro hh;omega
 ·intro hh;omega
theorem ku (x y:Yy):Qh C frz 84 [.agg (U7.f x).toArray,.agg (U7.f y).toArray] H=some (.bool (decide (x=y)),H):=by
 obtain ⟨p,t,c,h,l⟩:=x
 obtain ⟨p',t',c',h',l'⟩:=y
 rw [Qb (fn:=Tryz.f84) Tryz.func84 rfl (by kernel_rfl) rfl]
 simp [Zj]
 by_cases e1:p=p'
 ·by_cases e2:t=t'
  ·by_cases e3:c=c'
   ·by_cases e4:h=h'
    ·by_cases e5:l=l'<;>simp [e1,e2,e3,e4,e5]
    ·simp [e1,e2,e3,e4]
   ·simp [e1,e2,e3]
  ·simp [e1,e2]
 ·simp [e1]
theorem ya (a b:Value) (xs ys:List Yy) (ha:Rd U7 H a xs) (hb:Rd U7 H b ys) (hl:xs.length≤1073741824) :
 Qh C frz 38 [a,b] H=some (.bool (decide (xs=ys)),H):=by
 refine wp.exact (by simp) ?_ rfl
 rw [Qb (fn:=Tryz.f38) Tryz.func38 rfl (by kernel_rfl) rfl]
 simp [ha.len,hb.len]
 refine Qm ?_ ?_<;>intro h0<;>simp [h0]
 ·refine Qw (fun n t H'=>∃i:Nat,n=xs.length-i∧i≤xs.length∧t 0=a∧t 1=b∧t 5=.int .i64 i∧H'=H∧xs.take i=ys.take i) ?_ (n:=xs.length) ⟨0,rfl,by omega,by simp,by simp,by simp,rfl,by simp⟩
  rintro n t H' ⟨i,rfl,hi,h1,h2,h3,rfl,h4⟩ ih
  simp [h1,h2,h3,ha.len]
  refine Qm ?_ ?_<;>intro h
  ·have hx:i<xs.length:=by omega
   have hy:i<ys.length:=by omega
   have q1:=ha.idx (P:=Tryz.prog) (ty:=49) (e:=104) (by simp) (i:=(i:Int)) (by omega) (by omega)
   have q2:=ha.load (P:=Tryz.prog) (e:=104) (by simp) hx
   have q3:=hb.idx (P:=Tryz.prog) (ty:=49) (e:=104) (by simp) (i:=(i:Int)) (by omega) (by omega)
   have q4:=hb.load (P:=Tryz.prog) (e:=104) (by simp) hy
   simp only [Int.toNat_natCast,S4] at q1 q2 q3 q4
   simp [h1,h2,h3]
   rw [Qv (h:=by kernel_rfl)]
   simp [h1,h2,h3,q1,q2,q3,q4,ku]
   refine Qm ?_ ?_<;>intro h5
   ·simp [h1,h2,h3]
    refine ih (xs.length-(i+1)) _ _ ⟨i+1,rfl,by omega,by simp [h1],by simp [h2],?_,rfl,?_⟩ (by omega)
    ·simp;rw [Q0 (by omega) (by omega)]
    ·rw [List.take_succ_eq_append_getElem hx,List.take_succ_eq_append_getElem hy,h4];simp [h5]
   ·simp [h1,h2,h3]
    intro hh;subst hh;simp at h5
  ·have:i=xs.length:=by omega
   subst this
   simp [h1,h2,h3]
   rw [List.take_length,List.take_of_length_le (by omega)] at h4
   exact h4
 ·intro hh;exact h0 (by rw [hh])
abbrev Ov:Dt Value (List Yy):=Ip U7 104 1073741824
abbrev Ww:=Qu×List Yy
abbrev Yj:=Wo×Value
def Qs:Dt Yj Ww:={ jo Qe Ov with val:=fun v a=>.agg #[.int .i64 a.1.1.1,.int .i64 a.1.1.2.1,v.1.1,v.1.2.1.1,v.1.2.1.2,v.1.2.2.1.1,v.1.2.2.2.1,v.1.2.2.2.2.1,v.1.2.2.2.2.2.1.1,v.1.2.2.2.2.2.2.1.1,.int .i64 a.1.2.2.2.2.2.2.2,v.2] }
theorem Qo (v:Yj) (a:Ww):Qs.val v a=.agg #[.int .i64 a.1.1.1,.int .i64 a.1.1.2.1,v.1.1,v.1.2.1.1,v.1.2.1.2,v.1.2.2.1.1,v.1.2.2.2.1,v.1.2.2.2.2.1,v.1.2.2.2.2.2.1.1,v.1.2.2.2.2.2.2.1.1,.int .i64 a.1.2.2.2.2.2.2.2,v.2]:=rfl
theorem Q8 {v:Yj} {a:Ww} (h:Qs.Ow H v a):((VM.one v.1.1=true∧v.1.1.cells=#[v.1.1])∧(VM.one v.1.2.1.1=true∧v.1.2.1.1.cells=#[v.1.2.1.1])∧(VM.one v.1.2.1.2=true∧v.1.2.1.2.cells=#[v.1.2.1.2])∧(VM.one v.1.2.2.1.1=true∧v.1.2.2.1.1.cells=#[v.1.2.2.1.1])∧
 (VM.one v.1.2.2.2.1=true∧v.1.2.2.2.1.cells=#[v.1.2.2.2.1])∧(VM.one v.1.2.2.2.2.1=true∧v.1.2.2.2.2.1.cells=#[v.1.2.2.2.2.1])∧(VM.one v.1.2.2.2.2.2.1.1=true∧v.1.2.2.2.2.2.1.1.cells=#[v.1.2.2.2.2.2.1.1])∧(VM.one v.1.2.2.2.2.2.2.1.1=true∧v.1.2.2.2.2.2.2.1.1.cells=#[v.1.2.2.2.2.2.2.1.1]))∧VM.one v.2=true∧v.2.cells=#[v.2]:=
 ⟨Qr h.1,h.2.1.rd.one',h.2.1.rd.cells⟩
theorem Kt {a b:Yj} {x y:Ww} (ha:Qs.Ow H a x) (hb:Qs.Ow H b y):Qh C frz 12 [Qs.val a x,Qs.val b y] H=some (.bool (decide (x=y)),H):=by
 have oa:=Q8 ha
 have ob:=Q8 hb
 have e1:=fun F L=>Qhs (frz:=F) (H:=H++L) (Dt.app (T:=Qe) ha.1) (Dt.app (T:=Qe) hb.1)
 have e2:=fun F L=>ya (frz:=F) (H:=H++L) a.2 b.2 x.2 y.2 ha.2.1.rd.app hb.2.1.rd.app ha.2.2
 simp only [Qk] at e1
 rw [Qo,Qo]
 have hY:decide (x=y)=(decide (x.1=y.1)&&decide (x.2=y.2)):=by
  obtain ⟨x1,x2⟩:=x;obtain ⟨y1,y2⟩:=y
  rw [Bool.eq_iff_iff];simp only [decide_eq_true_eq,Bool.and_eq_true,Prod.mk.injEq]
 refine wp.exact (by simp) ?_ rfl
 rw [Qb (fn:=Tryz.f12) Tryz.func12 rfl (by kernel_rfl) rfl]
 generalize decide (x=y)=Y at *
 generalize decide (x.1=y.1)=P1 at *
 generalize decide (x.2=y.2)=P2 at *
 simp [oa,ob,e1]
 cases P1
 ·simp [hY]
 simp [oa,ob,e2]
 cases P2<;>simp [hY]
theorem Qek (w h tm n:Int) (u2 u3 u4 u5 u6 u7 u8 u9 u10:Value) (h5 h8 h9:List Value) (b A B own turn:List Int) (buf src arr:X9) (sent:List Yy)
 (r2:Rd Fl.int H u2 b) (r3:Rd Fl.int H u3 A) (r4:Rd Fl.int H u4 B) (r5:To Yh H u5 h5 buf) (r6:Rd Fl.int H u6 own) (r7:Rd Fl.int H u7 turn) (r8:To Yh H u8 h8 src) (r9:To Yh H u9 h9 arr) (r10:Rd U7 H u10 sent)
 (l2:b.length≤9223372036854775807) (l3:A.length≤9223372036854775807) (l4:B.length≤9223372036854775807) (l5:buf.length≤9223372036854775807) (l5':∀x∈buf,x.length≤9223372036854775807) (l6:own.length≤9223372036854775807) (l7:turn.length≤9223372036854775807)
 (l8:src.length≤9223372036854775807) (l8':∀x∈src,x.length≤9223372036854775807) (l9:arr.length≤9223372036854775807) (l9':∀x∈arr,x.length≤9223372036854775807) (l10:sent.length≤9223372036854775807) (h0:0≤n) (h1:n≤1048576) :
 Qh C frz 6 [.agg #[.int .i64 w,.int .i64 h,u2,u3,u4,u5,u6,u7,u8,u9,.int .i64 tm,u10],.int .i64 n] H=some (.int .i64 (if n<(b.length:Int)+((A.length:Int)+(B.length:Int))+(R3 buf:Int)+(own.length:Int)+(turn.length:Int)+(R3 src:Int)+(R3 arr:Int)+(sent.length:Int) then -1 else n-((b.length:Int)+((A.length:Int)+(B.length:Int))+(R3 buf:Int)+(own.length:Int)+(turn.length:Int)+(R3 src:Int)+(R3 arr:Int)+(sent.length:Int))),H):=by
 refine wp.exact (by simp) ?_ rfl
 rw [Qb (fn:=Tryz.f6) Tryz.func6 rfl (by kernel_rfl) rfl]
 have Wi:=And.intro r2.one' r2.cells
 have Xz:=And.intro r3.one' r3.cells
 have Zg:=And.intro r4.one' r4.cells
 have Zw:=And.intro r5.1.one' r5.1.cells
 have Uc:=And.intro r6.one' r6.cells
 have Z7:=And.intro r7.one' r7.cells
 have Ub:=And.intro r8.1.one' r8.1.cells
 have Z6:=And.intro r9.1.one' r9.1.cells
 have Bv:=And.intro r10.one' r10.cells
 have s1:=fun F L=>Qif (frz:=F) (H:=H++L) w h tm n u2 u3 u4 u5 u6 u7 u8 u9 h5 h8 h9 b A B own turn buf src arr r2.app r3.app r4.app r5.app r6.app r7.app r8.app r9.app l2 l3 l4 l5 l5' l6 l7 l8 l8' l9 l9' h0 h1
 obtain ⟨S,hS⟩:∃S:Int,S=(b.length:Int)+((A.length:Int)+(B.length:Int))+(R3 buf:Int)+(own.length:Int)+(turn.length:Int)+(R3 src:Int)+(R3 arr:Int):=⟨_,rfl⟩
 have hS0:0≤S:=by omega
 rw [← hS]
 simp only [← hS] at s1
 clear hS
 simp [Wi,Xz,Zg,Zw,Uc,Z7,Ub,Z6,Bv,s1]
 by_cases g:n<S
 ·simp only [if_pos g];simp;intro hh;omega
 simp only [if_neg g]
 have f:¬n-S<0:=by omega
 have s2:=fun F L=>jr (frz:=F) (H:=H++L) u10 sent (n-S) r10.app (by omega) (by omega) l10
 simp [f,Wi,Xz,Zg,Zw,Uc,Z7,Ub,Z6,Bv,s2]
 by_cases g2:n-S<(sent.length:Int)
 ·simp only [if_pos g2];simp;intro hh;omega
 simp only [if_neg g2]
 have f2:¬n-S-(sent.length:Int)<0:=by omega
 simp [f2]
 rw [if_neg (by omega)];omega
theorem Lt (w h tm:Int) (u2 u3 u4 u5 u6 u7 u8 u9 u10:Value) (h5 h8 h9:List Value) (b A B own turn:List Int) (buf src arr:X9) (sent:List Yy)
 (r2:Rd Fl.int H u2 b) (r3:Rd Fl.int H u3 A) (r4:Rd Fl.int H u4 B) (r5:To Yh H u5 h5 buf) (r6:Rd Fl.int H u6 own) (r7:Rd Fl.int H u7 turn) (r8:To Yh H u8 h8 src) (r9:To Yh H u9 h9 arr) (r10:Rd U7 H u10 sent)
 (l2:b.length≤1073741824) (l3:A.length≤1073741824) (l4:B.length≤1073741824) (l5:buf.length≤2097152) (l5':∀x∈buf,x.length≤67108864) (l6:own.length≤1073741824) (l7:turn.length≤1073741824)
 (l8:src.length≤2097152) (l8':∀x∈src,x.length≤67108864) (l9:arr.length≤2097152) (l9':∀x∈arr,x.length≤67108864) (l10:sent.length≤1073741824) :
 wp (Qh C frz 9 [.agg #[.int .i64 w,.int .i64 h,u2,u3,u4,u5,u6,u7,u8,u9,.int .i64 tm,u10]] H) (Qs.Made H (((w,h,b),(A,B),buf,own,turn,src,arr,tm),sent)):=by
 rw [Qb (fn:=Tryz.f9) Tryz.func9 rfl (by kernel_rfl) rfl]
 have Wi:=And.intro r2.one' r2.cells
 have Xz:=And.intro r3.one' r3.cells
 have Zg:=And.intro r4.one' r4.cells
 have Zw:=And.intro r5.1.one' r5.1.cells
 have Uc:=And.intro r6.one' r6.cells
 have Z7:=And.intro r7.one' r7.cells
 have Ub:=And.intro r8.1.one' r8.1.cells
 have Z6:=And.intro r9.1.one' r9.1.cells
 have Bv:=And.intro r10.one' r10.cells
 have hF:H.length≤H.length+2:=by omega
 have hF1:H.length≤H.length+1:=by omega
 simp [Wi,Xz,Zg,Zw,Uc,Z7,Ub,Z6,Bv]
 obtain ⟨G0,hG0⟩:∃G,G=H++[⟨[.int .i64 w,.int .i64 h,u2,u3,u4,u5,u6,u7,u8,u9,.int .i64 tm,u10],0,36⟩,⟨[.int .i64 0,.int .i64 0,.slice none 0 0,.slice none 0 0,.slice none 0 0,.slice none 0 0,.slice none 0 0,.slice none 0 0,.slice none 0 0,.slice none 0 0,.int .i64 0,.slice none 0 0],0,51⟩,⟨[.int .i64 0,.int .i64 0,.slice none 0 0,.slice none 0 0,.slice none 0 0,.slice none 0 0,.slice none 0 0,.slice none 0 0,.slice none 0 0,.slice none 0 0,.int .i64 0,.slice none 0 0],0,51⟩]:=⟨_,rfl⟩
 have b0:G0[H.length]? = some ⟨[.int .i64 w,.int .i64 h,u2,u3,u4,u5,u6,u7,u8,u9,.int .i64 tm,u10],0,36⟩:=by rw [hG0];simp
 have bR:G0[H.length+1]? = some ⟨[.int .i64 0,.int .i64 0,.slice none 0 0,.slice none 0 0,.slice none 0 0,.slice none 0 0,.slice none 0 0,.slice none 0 0,.slice none 0 0,.slice none 0 0,.int .i64 0,.slice none 0 0],0,51⟩:=by rw [hG0];simp
 have b1:G0[H.length+2]? = some ⟨[.int .i64 0,.int .i64 0,.slice none 0 0,.slice none 0 0,.slice none 0 0,.slice none 0 0,.slice none 0 0,.slice none 0 0,.slice none 0 0,.slice none 0 0,.int .i64 0,.slice none 0 0],0,51⟩:=by rw [hG0];simp
 have cH:Qp H G0 []:=by rw [hG0];exact Qp.app []
 have lH:H.length+3≤G0.length:=by rw [hG0];simp
 rw [← hG0]
 clear hG0
 refine Ql (Qig w h tm u2 u3 u4 u5 u6 u7 u8 u9 h5 h8 h9 b A B own turn buf src arr (r2.chg cH (by simp)) (r3.chg cH (by simp)) (r4.chg cH (by simp)) (r5.chg cH (by simp)) (r6.chg cH (by simp)) (r7.chg cH (by simp)) (r8.chg cH (by simp)) (r9.chg cH (by simp)) l2 l3 l4 l5 l5' l6 l7 l8 l8' l9 l9') ?_
 rintro _ K1 ⟨n,rfl,o1,c1,m1,d1⟩
 have q1:=Qr o1
 have lt1:=Qe.lt o1
 have b0:=Qa b0 c1 (by simp)
 have b1:=Qa b1 c1 (by simp)
 have bR:=Qa bR c1 (by simp)
 have cH:=cH.trans c1
 have lc1:=c1.1
 have e1:Qp K1 (K1.set (H.length+2) ⟨[.int .i64 w,.int .i64 h,n.1,n.2.1.1,n.2.1.2,n.2.2.1.1,n.2.2.2.1,n.2.2.2.2.1,n.2.2.2.2.2.1.1,n.2.2.2.2.2.2.1.1,.int .i64 tm,.slice none 0 0],0,51⟩) [H.length+2]:=Qn _ _
 have g1:=Qq (r':=⟨[.int .i64 w,.int .i64 h,n.1,n.2.1.1,n.2.1.2,n.2.2.1.1,n.2.2.2.1,n.2.2.2.2.1,n.2.2.2.2.2.1.1,n.2.2.2.2.2.2.1.1,.int .i64 tm,.slice none 0 0],0,51⟩) b1
 have b0':=Qa b0 e1 (by simp)
 have bR:=Qa bR e1 (by simp)
 have o1:=Dt.chg (T:=Qe) o1 e1 (fun i hi hh=>by have:=m1 i hi;simp at hh;omega)
 have cH:=cH.trans' e1 (fun i hi=>.inr (by simp at hi;omega))
 have ls1:(K1.set (H.length+2) ⟨[.int .i64 w,.int .i64 h,n.1,n.2.1.1,n.2.1.2,n.2.2.1.1,n.2.2.2.1,n.2.2.2.2.1,n.2.2.2.2.2.1.1,n.2.2.2.2.2.2.1.1,.int .i64 tm,.slice none 0 0],0,51⟩).length=K1.length:=by simp
 simp [Qk,VM.look,b0,b1,Wi,Xz,Zg,Zw,Uc,Z7,Ub,Z6,Bv,q1,hF]
 generalize K1.set (H.length+2) ⟨[.int .i64 w,.int .i64 h,n.1,n.2.1.1,n.2.1.2,n.2.2.1.1,n.2.2.2.1,n.2.2.2.2.1,n.2.2.2.2.2.1.1,n.2.2.2.2.2.2.1.1,.int .i64 tm,.slice none 0 0],0,51⟩=G1 at *
 clear b0 b1
 try simp [VM.look,b0',Wi,Xz,Zg,Zw,Uc,Z7,Ub,Z6,Bv]
 refine Ql (zf u10 sent (r10.chg cH (by simp)) l10) ?_
 rintro p K2 ⟨o2,m2,c2⟩
 have q2:=And.intro o2.rd.one' o2.rd.cells
 have b1:=Qa g1 c2 (by simp)
 have bR:=Qa bR c2 (by simp)
 have o1:=Dt.chg0 (T:=Qe) o1 c2
 have cH:=cH.trans c2
 have e2:Qp K2 (K2.set (H.length+2) ⟨[.int .i64 w,.int .i64 h,n.1,n.2.1.1,n.2.1.2,n.2.2.1.1,n.2.2.2.1,n.2.2.2.2.1,n.2.2.2.2.2.1.1,n.2.2.2.2.2.2.1.1,.int .i64 tm,p],0,51⟩) [H.length+2]:=Qn _ _
 have g2:=Qq (r':=⟨[.int .i64 w,.int .i64 h,n.1,n.2.1.1,n.2.1.2,n.2.2.1.1,n.2.2.2.1,n.2.2.2.2.1,n.2.2.2.2.2.1.1,n.2.2.2.2.2.2.1.1,.int .i64 tm,p],0,51⟩) b1
 have bR:=Qa bR e2 (by simp)
 have o1:=Dt.chg (T:=Qe) o1 e2 (fun i hi hh=>by have:=m1 i hi;simp at hh;omega)
 have o2:=o2.chg e2 (fun i hi hh=>by have:=m2 i hi;simp at hh;omega)
 have cH:=cH.trans' e2 (fun i hi=>.inr (by simp at hi;omega))
 simp [VM.look,b1,q1,q2,hF]
 generalize K2.set (H.length+2) ⟨[.int .i64 w,.int .i64 h,n.1,n.2.1.1,n.2.1.2,n.2.2.1.1,n.2.2.2.1,n.2.2.2.2.1,n.2.2.2.2.2.1.1,n.2.2.2.2.2.2.1.1,.int .i64 tm,p],0,51⟩=G2 at *
 have gR:=Qq (r':=⟨[.int .i64 w,.int .i64 h,n.1,n.2.1.1,n.2.1.2,n.2.2.1.1,n.2.2.2.1,n.2.2.2.2.1,n.2.2.2.2.2.1.1,n.2.2.2.2.2.2.1.1,.int .i64 tm,p],0,51⟩) bR
 have eR:Qp G2 (G2.set (H.length+1) ⟨[.int .i64 w,.int .i64 h,n.1,n.2.1.1,n.2.1.2,n.2.2.1.1,n.2.2.2.1,n.2.2.2.2.1,n.2.2.2.2.2.1.1,n.2.2.2.2.2.2.1.1,.int .i64 tm,p],0,51⟩) [H.length+1]:=Qn _ _
 have o1:=Dt.chg (T:=Qe) o1 eR (fun i hi hh=>by have:=m1 i hi;simp at hh;omega)
 have o2:=o2.chg eR (fun i hi hh=>by have:=m2 i hi;simp at hh;omega)
 have cH:=cH.trans' eR (fun i hi=>.inr (by simp at hi;omega))
 try simp [VM.look,g2,bR,gR,hF1,q1,q2]
 refine ⟨(n,p),rfl,⟨o1,o2,l10⟩,cH,fun i hi=>?_,?_⟩
 ·rcases List.mem_append.1 hi with hi|hi
  ·have:=m1 i hi;omega
  ·have:=m2 i hi;omega
 ·exact Yr d1 (Wa p) lt1 (fun i hi=>by have:=m2 i hi;omega)
theorem Od {v:Yj} {a:Ww} (o:Qs.Ow H v a):wp (Qh C frz 34 [Qs.val v a] H) (Qs.Made H a):=by
 have oneA:=Q8 o
 have ones:=oneA.1
 have Wi:=oneA.2
 have ecopy:=fun K (c:Qp H K [])=>Sp (frz:=H.length) (H:=K) (v:=v.1) (x:=a.1) (Dt.chg (T:=Qe) o.1 c (by simp))
 simp only [Qk] at ecopy
 rw [Qo]
 rw [Qb (fn:=Tryz.f34) Tryz.func34 rfl (by kernel_rfl) rfl]
 simp [ones,Wi]
 rw [Qv (h:=by kernel_rfl)]
 simp [VM.look,ones,Wi]
 refine Ql (ecopy _ (Qp.app _)) ?_
 rintro _ K ⟨n,rfl,on,cn,mn,dn⟩
 have b0:K[H.length]? = some ⟨[.int .i64 a.1.1.1,.int .i64 a.1.1.2.1,v.1.1,v.1.2.1.1,v.1.2.1.2,v.1.2.2.1.1,v.1.2.2.2.1,v.1.2.2.2.2.1,v.1.2.2.2.2.2.1.1,v.1.2.2.2.2.2.2.1.1,.int .i64 a.1.2.2.2.2.2.2.2,v.2],0,51⟩:=Qa (by simp) cn (by simp)
 have bR:K[H.length+1]? = some ⟨[.int .i64 0,.int .i64 0,.slice none 0 0,.slice none 0 0,.slice none 0 0,.slice none 0 0,.slice none 0 0,.slice none 0 0,.slice none 0 0,.slice none 0 0,.int .i64 0,.slice none 0 0],0,51⟩:=Qa (by simp) cn (by simp)
 have cH:Qp H K []:=(Qp.app _).trans cn
 simp at mn
 have qn:=Qr on
 have rs:=o.2.1.rd.chg cH (by simp)
 have o0:Ow U7 104 (K++[⟨[],0,104⟩]) (.slice (some ⟨K.length,0,some 0⟩) 0 0) []:=Ow.new0 (D:=U7) (xs:=[]) rfl rfl rfl rfl
 have lK:=Wj b0
 have lR:=Wj bR
 obtain ⟨r,K2,hap,or,c2,mr⟩:=o0.append (P:=Tryz.prog) (frz:=H.length) (ty:=49) (rs.app (L:=[⟨[],0,104⟩])) (by simp) (Kp a.2) (by have:=o.2.2;simp;omega) (fun i hi=>by simp [ids] at hi;omega)
 have mr':∀i∈ids r,K.length≤i:=fun i hi=>by
  rcases mr i hi with g|g
  ·simp [ids] at g;omega
  ·simp at g;omega
 have cL:Qp K K2 []:=(Qp.app []).trans' c2 (fun i hi=>.inr (by simp [ids] at hi;omega))
 have bA:=fun L=>Qj b0 L
 have bR:=Qa bR cL (by simp)
 have qr:=And.intro or.rd.one' or.rd.cells
 have gR:=Qq (r':=⟨[.int .i64 a.1.1.1,.int .i64 a.1.1.2.1,n.1,n.2.1.1,n.2.1.2,n.2.2.1.1,n.2.2.2.1,n.2.2.2.2.1,n.2.2.2.2.2.1.1,n.2.2.2.2.2.2.1.1,.int .i64 a.1.2.2.2.2.2.2.2,r],0,51⟩) bR
 have hF:H.length≤H.length+1:=by omega
 try simp only [List.length_nil] at hap
 simp [-Q5,-Wm,Qk,VM.look,bA,ones,Wi,qn,hap,qr,bR,gR,hF]
 have eR:Qp K2 (K2.set (H.length+1) ⟨[.int .i64 a.1.1.1,.int .i64 a.1.1.2.1,n.1,n.2.1.1,n.2.1.2,n.2.2.1.1,n.2.2.2.1,n.2.2.2.2.1,n.2.2.2.2.2.1.1,n.2.2.2.2.2.2.1.1,.int .i64 a.1.2.2.2.2.2.2.2,r],0,51⟩) [H.length+1]:=Qn _ _
 have lt:=Qe.lt on
 have or':Ov.Ow K2 r a.2:=⟨by simpa using or,o.2.2⟩
 refine ⟨(n,r),rfl,⟨Dt.chg (T:=Qe) (Dt.chg (T:=Qe) on cL (by simp)) eR (fun i hi hh=>by have:=mn i hi;simp at hh;omega),Dt.chg (T:=Ov) or' eR (fun i hi hh=>by have:=mr' i hi;simp at hh;omega)⟩,(cH.trans cL).trans' eR (fun i hi=>.inr (by simp at hi;omega)),fun i hi=>?_,?_⟩
 ·rcases List.mem_append.1 hi with hi|hi
  ·have:=mn i hi;omega
  ·have:=mr' i hi;omega
 ·exact Yr dn (Wa r) lt mr'
theorem Ma {v:Yj} {a:Ww} (o:Qs.Ow H v a):wp (Qh C frz 28 [Qs.val v a] H) (Qs.Made H a):=by
 have oneA:=Q8 o
 have ones:=oneA.1
 have Wi:=oneA.2
 have ecopy:=fun K (c:Qp H K [])=>U4 (frz:=H.length) (H:=K) (v:=v.1) (x:=a.1) (Dt.chg (T:=Qe) o.1 c (by simp))
 simp only [Qk] at ecopy
 rw [Qo]
 rw [Qb (fn:=Tryz.f28) Tryz.func28 rfl (by kernel_rfl) rfl]
 simp [ones,Wi]
 rw [Qv (h:=by kernel_rfl)]
 simp [VM.look,ones,Wi]
 refine Ql (ecopy _ (Qp.app _)) ?_
 rintro _ K ⟨n,rfl,on,cn,mn,dn⟩
 have b0:K[H.length]? = some ⟨[.int .i64 a.1.1.1,.int .i64 a.1.1.2.1,v.1.1,v.1.2.1.1,v.1.2.1.2,v.1.2.2.1.1,v.1.2.2.2.1,v.1.2.2.2.2.1,v.1.2.2.2.2.2.1.1,v.1.2.2.2.2.2.2.1.1,.int .i64 a.1.2.2.2.2.2.2.2,v.2],0,51⟩:=Qa (by simp) cn (by simp)
 have bR:K[H.length+1]? = some ⟨[.int .i64 0,.int .i64 0,.slice none 0 0,.slice none 0 0,.slice none 0 0,.slice none 0 0,.slice none 0 0,.slice none 0 0,.slice none 0 0,.slice none 0 0,.int .i64 0,.slice none 0 0],0,51⟩:=Qa (by simp) cn (by simp)
 have cH:Qp H K []:=(Qp.app _).trans cn
 simp at mn
 have qn:=Qr on
 have rs:=o.2.1.rd.chg cH (by simp)
 have o0:Ow U7 104 (K++[⟨[],0,104⟩]) (.slice (some ⟨K.length,0,some 0⟩) 0 0) []:=Ow.new0 (D:=U7) (xs:=[]) rfl rfl rfl rfl
 have lK:=Wj b0
 have lR:=Wj bR
 obtain ⟨r,K2,hap,or,c2,mr⟩:=o0.append (P:=Tryz.prog) (frz:=H.length) (ty:=49) (rs.app (L:=[⟨[],0,104⟩])) (by simp) (Kp a.2) (by have:=o.2.2;simp;omega) (fun i hi=>by simp [ids] at hi;omega)
 have mr':∀i∈ids r,K.length≤i:=fun i hi=>by
  rcases mr i hi with g|g
  ·simp [ids] at g;omega
  ·simp at g;omega
 have cL:Qp K K2 []:=(Qp.app []).trans' c2 (fun i hi=>.inr (by simp [ids] at hi;omega))
 have bA:=fun L=>Qj b0 L
 have bR:=Qa bR cL (by simp)
 have qr:=And.intro or.rd.one' or.rd.cells
 have gR:=Qq (r':=⟨[.int .i64 a.1.1.1,.int .i64 a.1.1.2.1,n.1,n.2.1.1,n.2.1.2,n.2.2.1.1,n.2.2.2.1,n.2.2.2.2.1,n.2.2.2.2.2.1.1,n.2.2.2.2.2.2.1.1,.int .i64 a.1.2.2.2.2.2.2.2,r],0,51⟩) bR
 have hF:H.length≤H.length+1:=by omega
 try simp only [List.length_nil] at hap
 simp [-Q5,-Wm,Qk,VM.look,bA,ones,Wi,qn,hap,qr,bR,gR,hF]
 have eR:Qp K2 (K2.set (H.length+1) ⟨[.int .i64 a.1.1.1,.int .i64 a.1.1.2.1,n.1,n.2.1.1,n.2.1.2,n.2.2.1.1,n.2.2.2.1,n.2.2.2.2.1,n.2.2.2.2.2.1.1,n.2.2.2.2.2.2.1.1,.int .i64 a.1.2.2.2.2.2.2.2,r],0,51⟩) [H.length+1]:=Qn _ _
 have lt:=Qe.lt on
 have or':Ov.Ow K2 r a.2:=⟨by simpa using or,o.2.2⟩
 refine ⟨(n,r),rfl,⟨Dt.chg (T:=Qe) (Dt.chg (T:=Qe) on cL (by simp)) eR (fun i hi hh=>by have:=mn i hi;simp at hh;omega),Dt.chg (T:=Ov) or' eR (fun i hi hh=>by have:=mr' i hi;simp at hh;omega)⟩,(cH.trans cL).trans' eR (fun i hi=>.inr (by simp at hi;omega)),fun i hi=>?_,?_⟩
 ·rcases List.mem_append.1 hi with hi|hi
  ·have:=mn i hi;omega
  ·have:=mr' i hi;omega
 ·exact Yr dn (Wa r) lt mr'
def Ew (x:Qu) (p:Yy):Qu:=if W9 x∧Ym x p then U2 x p else x
theorem Ca {v:Wo} {x:Qu} {p:Yy} (o:Qe.Ow H v x) :
 wp (Qh C frz 110 [Qe.val v x,Ja p] H) (Xr Qe H (Ew x p) (decide (W9 x∧Ym x p))):=by
 have ones:=Qr o
 have nk:=fun F K (c:Qp H K [])=>T1 (frz:=F) (H:=K) (v:=v) (x:=x) (Dt.chg (T:=Qe) o c (by simp))
 have pk:=fun F K=>Nq (frz:=F) (H:=K) x.1.1 x.1.2.1 p
 have ecopy:=fun K (c:Qp H K [])=>U4 (frz:=H.length) (H:=K) (v:=v) (x:=x) (Dt.chg (T:=Qe) o c (by simp))
 have esend:=fun K (c:Qp H K []) m hm hml hs=>Qak (frz:=H.length) (H:=K) (v:=v) (x:=x) (p:=p) (m:=m) (Dt.chg (T:=Qe) o c (by simp)) hm hml hs
 obtain ⟨q1,q2,q3,q4,q5⟩:=p
 unfold Ja at pk esend ⊢
 simp only at pk esend
 simp only [Qk] at nk ecopy esend ⊢
 rw [Qb (fn:=Tryz.f110) Tryz.func110 rfl (by kernel_rfl) rfl]
 obtain ⟨G,hG⟩:∃G,G=H++[⟨[.int .i64 x.1.1,.int .i64 x.1.2.1,v.1,v.2.1.1,v.2.1.2,v.2.2.1.1,v.2.2.2.1,v.2.2.2.2.1,v.2.2.2.2.2.1.1,v.2.2.2.2.2.2.1.1,.int .i64 x.2.2.2.2.2.2.2],0,48⟩,⟨[.int .i64 q1,.int .i64 q2,.int .i64 q3,.int .i64 q4,.int .i64 q5],0,104⟩,⟨[.int .i64 0,.int .i64 0,.slice none 0 0,.slice none 0 0,.slice none 0 0,.slice none 0 0,.slice none 0 0,.slice none 0 0,.slice none 0 0,.slice none 0 0,.int .i64 0],0,48⟩]:=⟨_,rfl⟩
 have cG:Qp H G []:=by rw [hG];exact Qp.app _
 have b0:G[H.length]? = some ⟨[.int .i64 x.1.1,.int .i64 x.1.2.1,v.1,v.2.1.1,v.2.1.2,v.2.2.1.1,v.2.2.2.1,v.2.2.2.2.1,v.2.2.2.2.2.1.1,v.2.2.2.2.2.2.1.1,.int .i64 x.2.2.2.2.2.2.2],0,48⟩:=by rw [hG];simp
 have b1:G[H.length+1]? = some ⟨[.int .i64 q1,.int .i64 q2,.int .i64 q3,.int .i64 q4,.int .i64 q5],0,104⟩:=by rw [hG];simp
 have bR:G[H.length+2]? = some ⟨[.int .i64 0,.int .i64 0,.slice none 0 0,.slice none 0 0,.slice none 0 0,.slice none 0 0,.slice none 0 0,.slice none 0 0,.slice none 0 0,.slice none 0 0,.int .i64 0],0,48⟩:=by rw [hG];simp
 have lG:G.length=H.length+3:=by rw [hG];simp
 simp [ones]
 rw [← hG]
 clear hG
 rw [Qv (h:=by kernel_rfl)]
 have hF:H.length≤H.length+2:=by omega
 have key:∀(y:Qu) (n:Wo) (K:Qd) (ok:Bool),Qe.Ow K n y→Qp G K []→(∀i∈Qe.ids n,G.length≤i)→(Qe.ids n).Nodup→Ew x (q1,q2,q3,q4,q5)=y→decide (W9 x∧Ym x (q1,q2,q3,q4,q5))=ok→
  K[H.length+2]? = some ⟨[.int .i64 0,.int .i64 0,.slice none 0 0,.slice none 0 0,.slice none 0 0,.slice none 0 0,.slice none 0 0,.slice none 0 0,.slice none 0 0,.slice none 0 0,.int .i64 0],0,48⟩∧Xr Qe H (Ew x (q1,q2,q3,q4,q5)) (decide (W9 x∧Ym x (q1,q2,q3,q4,q5))) (.tuple #[Qe.val n y,.bool ok]) (K.set (H.length+2) ⟨[.int .i64 y.1.1,.int .i64 y.1.2.1,n.1,n.2.1.1,n.2.1.2,n.2.2.1.1,n.2.2.2.1,n.2.2.2.2.1,n.2.2.2.2.2.1.1,n.2.2.2.2.2.2.1.1,.int .i64 y.2.2.2.2.2.2.2],0,48⟩):=by
  intro y n K ok on ck mn dn e1 e2
  have bK:=Qa bR ck (by simp)
  refine ⟨bK,Qe.val n y,by rw [e2],n,by rw [e1],?_,?_,fun i hi=>by have:=mn i hi;omega,dn⟩
  ·rw [e1];exact Dt.chg (T:=Qe) on (Qn _ _) (fun i hi hh=>by have:=mn i hi;simp at hh;omega)
  ·exact (cG.trans ck).trans' (Qn _ _) (fun i hi=>.inr (by simp at hi;omega))
 have fail:¬(W9 x∧Ym x (q1,q2,q3,q4,q5))→∀r K,Qe.Made G x r K→∃n,r=Yp n x∧Qe.Ow K n x∧K[H.length+2]? = some ⟨[.int .i64 0,.int .i64 0,.slice none 0 0,.slice none 0 0,.slice none 0 0,.slice none 0 0,.slice none 0 0,.slice none 0 0,.slice none 0 0,.slice none 0 0,.int .i64 0],0,48⟩∧Xr Qe H (Ew x (q1,q2,q3,q4,q5)) (decide (W9 x∧Ym x (q1,q2,q3,q4,q5))) (.tuple #[Qe.val n x,.bool false]) (K.set (H.length+2) ⟨[.int .i64 x.1.1,.int .i64 x.1.2.1,n.1,n.2.1.1,n.2.1.2,n.2.2.1.1,n.2.2.2.1,n.2.2.2.2.1,n.2.2.2.2.2.1.1,n.2.2.2.2.2.2.1.1,.int .i64 x.2.2.2.2.2.2.2],0,48⟩):=by
  intro hb r K hm
  obtain ⟨n,rfl,on,cn,mn,dn⟩:=hm
  obtain ⟨k1,k2⟩:=key x n K false on cn mn dn (if_neg hb) (decide_eq_false hb)
  exact ⟨n,rfl,on,k1,k2⟩
 have ff:¬(W9 x∧Ym x (q1,q2,q3,q4,q5))→wp (Qh C H.length 56 [Yp v x] G) (fun r K=>∃n,r=Yp n x∧Qe.Ow K n x∧K[H.length+2]? = some ⟨[.int .i64 0,.int .i64 0,.slice none 0 0,.slice none 0 0,.slice none 0 0,.slice none 0 0,.slice none 0 0,.slice none 0 0,.slice none 0 0,.slice none 0 0,.int .i64 0],0,48⟩∧Xr Qe H (Ew x (q1,q2,q3,q4,q5)) (decide (W9 x∧Ym x (q1,q2,q3,q4,q5))) (.tuple #[Qe.val n x,.bool false]) (K.set (H.length+2) ⟨[.int .i64 x.1.1,.int .i64 x.1.2.1,n.1,n.2.1.1,n.2.1.2,n.2.2.1.1,n.2.2.2.1,n.2.2.2.2.1,n.2.2.2.2.2.1.1,n.2.2.2.2.2.2.1.1,.int .i64 x.2.2.2.2.2.2.2],0,48⟩)):=fun hb=>(ecopy G cG).mono (fun r K hm=>fail hb r K hm)
 unfold Yp at ff
 have nk':=fun F=>nk F G cG
 have pk':=fun F=>pk F G
 by_cases g0:W9 x
 rotate_left
 ·have hb:¬(W9 x∧Ym x (q1,q2,q3,q4,q5)):=fun k=>g0 k.1
  simp [VM.look,b0,b1,ones,nk',g0]
  refine Ql (ff hb) ?_
  rintro r K ⟨n,rfl,on,bK,hM⟩
  have qn:=Qr on
  have gR:=Qq (r':=⟨[.int .i64 x.1.1,.int .i64 x.1.2.1,n.1,n.2.1.1,n.2.1.2,n.2.2.1.1,n.2.2.2.1,n.2.2.2.2.1,n.2.2.2.2.2.1.1,n.2.2.2.2.2.2.1.1,.int .i64 x.2.2.2.2.2.2.2],0,48⟩) bK
  simp [Yp,Qk,VM.look,bK,qn,gR,hF]
  simpa [g0,Qk] using hM
 by_cases g1:Wq x.1.1 x.1.2.1 (q1,q2,q3,q4,q5)
 rotate_left
 ·have hb:¬(W9 x∧Ym x (q1,q2,q3,q4,q5)):=fun k=>g1 k.2.1
  have hb2:¬Ym x (q1,q2,q3,q4,q5):=fun k=>g1 k.1
  simp [VM.look,b0,b1,ones,nk',pk',g0,g1]
  refine Ql (ff hb) ?_
  rintro r K ⟨n,rfl,on,bK,hM⟩
  have qn:=Qr on
  have gR:=Qq (r':=⟨[.int .i64 x.1.1,.int .i64 x.1.2.1,n.1,n.2.1.1,n.2.1.2,n.2.2.1.1,n.2.2.2.1,n.2.2.2.2.1,n.2.2.2.2.2.1.1,n.2.2.2.2.2.2.1.1,.int .i64 x.2.2.2.2.2.2.2],0,48⟩) bK
  simp [Yp,Qk,VM.look,bK,qn,gR,hF]
  simpa [g0,hb2,Qk] using hM
 have hto:=g1.2.1
 unfold Y6 at hto
 simp only at hto
 have hN:=g0.2.1.2.2.2.1
 obtain ⟨m,rfl⟩:∃m:Nat,q2=m:=⟨q2.toNat,by omega⟩
 have hml:m<x.2.2.2.2.2.1.length:=by omega
 have hgd:x.2.2.2.2.2.1.getD m []=x.2.2.2.2.2.1[m]:=by simp [List.getD_eq_getElem?_getD,List.getElem?_eq_getElem hml]
 have hsm:=(g0.2.2.2.1 _ (List.getElem_mem hml)).1
 have hln:=g1.2.2.2.2.2
 unfold Xa at hln
 simp only at hln
 obtain ⟨o1,o2,o3,o4,o5,o6,o7,_⟩:=Dt.chg (T:=Qe) o cG (by simp)
 obtain ⟨a,a1,a2,a3,a4⟩:=Xi o6.1.rd (ty:=46) (e:=145) (by simp) (by simp) hml
 have la:=a4.len (P:=Tryz.prog) (ty:=145) (by simp)
 have e1:=@w6 ((x.2.2.2.2.2.1[m].length:Int)+q5) (by omega)
 simp [VM.look,b0,b1,ones,nk',pk',g0,g1,a2,a3,la,e1]
 refine Qm ?_ ?_<;>intro g2
 ·have hb2:¬Ym x (q1,(m:Int),q3,q4,q5):=fun k=>by have:=k.2;simp only [Int.toNat_natCast,hgd] at this;omega
  have hb:¬(W9 x∧Ym x (q1,(m:Int),q3,q4,q5)):=fun k=>hb2 k.2
  simp [VM.look,b0,ones]
  refine Ql (ff hb) ?_
  rintro r K ⟨n,rfl,on,bK,hM⟩
  have qn:=Qr on
  have gR:=Qq (r':=⟨[.int .i64 x.1.1,.int .i64 x.1.2.1,n.1,n.2.1.1,n.2.1.2,n.2.2.1.1,n.2.2.2.1,n.2.2.2.2.1,n.2.2.2.2.2.1.1,n.2.2.2.2.2.2.1.1,.int .i64 x.2.2.2.2.2.2.2],0,48⟩) bK
  simp [Yp,Qk,VM.look,bK,qn,gR,hF]
  simpa [g0,hb2,Qk] using hM
 have hso:Ym x (q1,(m:Int),q3,q4,q5):=⟨g1,by simp only [Int.toNat_natCast,hgd];omega⟩
 simp [VM.look,b0,b1,ones]
 refine Ql (esend G cG m rfl hml hsm) ?_
 rintro _ K ⟨n,rfl,on,cn,mn,dn⟩
 obtain ⟨bK,hM⟩:=key _ n K true on cn mn dn (if_pos ⟨g0,hso⟩) (decide_eq_true ⟨g0,hso⟩)
 generalize U2 x (q1,(m:Int),q3,q4,q5)=y at *
 have qn:=Qr on
 have gR:=Qq (r':=⟨[.int .i64 y.1.1,.int .i64 y.1.2.1,n.1,n.2.1.1,n.2.1.2,n.2.2.1.1,n.2.2.2.1,n.2.2.2.2.1,n.2.2.2.2.2.1.1,n.2.2.2.2.2.2.1.1,.int .i64 y.2.2.2.2.2.2.2],0,48⟩) bK
 simp [Yp,Qk,VM.look,bK,qn,gR,hF]
 simpa [g0,hso,Qk] using hM
theorem Qfo (x y:Q9):R6 [0,0,0,1,1] (Yh.f x) (Yh.f y)=some (decide (x=y)):=by
 obtain ⟨p,t,c,h,l⟩:=x
 obtain ⟨p',t',c',h',l'⟩:=y
 simp only [Xp,R6,ceq,if_true]
 congr 1
 rw [Bool.eq_iff_iff];simp [and_assoc]
theorem Qgb (x y:Yy):R6 [0,0,0,0,0] (U7.f x) (U7.f y)=some (decide (x=y)):=by
 obtain ⟨p,t,c,h,l⟩:=x
 obtain ⟨p',t',c',h',l'⟩:=y
 simp only [Zj,R6,ceq,if_true]
 congr 1
 rw [Bool.eq_iff_iff];simp [and_assoc]
theorem Qe7 (a b:Value) (xs ys:List Int) (ha:Rd Fl.int H a xs) (hb:Rd Fl.int H b ys) (hl:xs.length≤1073741824) :
 Qh C frz 45 [a,b] H=some (.bool (decide (xs=ys)),H):=by
 refine wp.exact (by simp) ?_ rfl
 rw [Qb (fn:=Tryz.f45) Tryz.func45 rfl (by kernel_rfl) rfl]
 generalize hY:decide (xs=ys)=Y
 have la:=ha.len (P:=Tryz.prog) (ty:=24) (by simp)
 have lb:=hb.len (P:=Tryz.prog) (ty:=24) (by simp)
 have no:¬xs=ys→Y=false:=fun hh=>by rw [← hY];exact decide_eq_false hh
 simp [la,lb]
 refine Qm ?_ ?_<;>intro h0
 ·have h0':xs.length=ys.length:=by omega
  simp [la]
  refine Qw (fun n t H'=>∃i:Nat,n=xs.length-i∧i≤xs.length∧t 0=a∧t 1=b∧t 12=.int .i64 xs.length∧t 13=.int .i64 i∧H'=H∧xs.take i=ys.take i) ?_ (n:=xs.length) ⟨0,rfl,by omega,by simp,by simp,by simp,by simp,rfl,by simp⟩
  rintro n t H' ⟨i,rfl,hi,t0,t1,t12,t13,rfl,h4⟩ ih
  simp [t0,t1,t12,t13,la]
  refine Qm ?_ ?_<;>intro h
  ·have hx:i<xs.length:=by omega
   have hy:i<ys.length:=by omega
   have q1:=ha.idx (P:=Tryz.prog) (ty:=24) (e:=3) (by simp) (i:=(i:Int)) (by omega) (by omega)
   have q2:=ha.cell1 (P:=Tryz.prog) (e:=3) rfl (by simp) hx
   have q3:=hb.idx (P:=Tryz.prog) (ty:=24) (e:=3) (by simp) (i:=(i:Int)) (by omega) (by omega)
   have q4:=hb.cell1 (P:=Tryz.prog) (e:=3) rfl (by simp) hy
   simp only [Int.toNat_natCast,Fl.int_n,Nat.mul_one] at q1 q2 q3 q4
   simp at q2 q4
   simp [t0,t1,t12,t13]
   rw [Qv (h:=by kernel_rfl)]
   simp [t0,t1,t12,t13,q1,q2,q3,q4]
   refine Qm ?_ ?_<;>intro h5
   ·simp [t0,t1,t12,t13]
    refine ih (xs.length-(i+1)) _ _ ⟨i+1,rfl,by omega,by simp [t0],by simp [t1],by simp [t12],?_,rfl,?_⟩ (by omega)
    ·simp;rw [Q0 (by omega) (by omega)]
    ·rw [List.take_succ_eq_append_getElem hx,List.take_succ_eq_append_getElem hy,h4,h5]
   ·simp [t0,t1,t12,t13]
    exact no (fun hh=>h5 (by subst hh;rfl))
  ·have:i=xs.length:=by omega
   subst this
   rw [List.take_length,List.take_of_length_le (by omega)] at h4
   simp [t0,t1,t12,t13]
   rw [← hY];exact decide_eq_true h4
 ·simp
  exact no (fun hh=>h0 (by rw [hh]))
def Um:Q9:=(0,0,0,false,false)
def wholeAt (l:List Q9) (i:Nat):Q9:=((l.getD 0 Um).1,(l.getD 0 Um).2.1,(l.getD 0 Um).2.2.1,decide ((i:Int)=0),decide ((i:Int)=(l.length:Int)-1))
def whole (l:List Q9):Prop:=(∀i,i<l.length→l.getD i Um=wholeAt l i)∧0<l.length
instance (l:List Q9):Decidable (whole l):=inferInstanceAs (Decidable (_∧_))
theorem Qdi (a b c a' b' c':Int) (d e d' e':Bool):R6 [0,0,0,1,1] [.int .i64 a,.int .i64 b,.int .i64 c,.bool d,.bool e] [.int .i64 a',.int .i64 b',.int .i64 c',.bool d',.bool e']=some (decide (((a,b,c,d,e):Q9)=(a',b',c',d',e'))):=
 Qfo (a,b,c,d,e) (a',b',c',d',e')
theorem Qc2 (v:Value) (xs:List Q9) (hI:Rd Yh H v xs) (hl:xs.length≤1073741824) :
 Qh C frz 202 [v] H=some (.bool (decide (whole xs)),H):=by
 refine wp.exact (by simp) ?_ rfl
 rw [Qb (fn:=Tryz.f202) Tryz.func202 rfl (by kernel_rfl) rfl]
 generalize hY:decide (whole xs)=Y
 have no:¬whole xs→Y=false:=fun hh=>by rw [← hY];exact decide_eq_false hh
 simp [hI.len (P:=Tryz.prog) (ty:=145) (by simp)]
 refine Qw (fun n t H'=>∃i:Nat,n=xs.length-i∧i≤xs.length∧t 0=v∧t 5=v∧t 6=.int .i64 xs.length∧t 7=.int .i64 i∧Qp H H' []∧∀j,j<i→xs.getD j Um=wholeAt xs j) ?_ (n:=xs.length)
  ⟨0,rfl,by omega,by simp,by simp,by simp,by simp,Qp.refl _,by omega⟩
 rintro n t H' ⟨i,rfl,hi,t0,t5,t6,t7,c,hk⟩ ih
 simp [t0,t5,t6,t7]
 refine Qm ?_ ?_<;>intro g
 ·have hi':i<xs.length:=by omega
  have h0:0<xs.length:=by omega
  have rd:=hI.chg c (by simp)
  have q1:=rd.idx (P:=Tryz.prog) (ty:=145) (e:=148) (by simp) (i:=(i:Int)) (by omega) (by omega)
  have q2:=rd.load (P:=Tryz.prog) (e:=148) (by simp) hi'
  have rd2:=fun (r:Row)=>(rd.app (L:=[r]))
  have z0:=fun (r:Row)=>(rd2 r).idx (P:=Tryz.prog) (ty:=145) (e:=148) (by simp) (i:=0) (by omega) (by omega)
  have zl:=fun (r:Row)=>(rd2 r).len (P:=Tryz.prog) (ty:=145) (by simp)
  have f0:=fun (r:Row)=>(rd2 r).field (P:=Tryz.prog) (s:=148) (f:=0) (o:=0) (n:=1) (ag:=false) (by simp) (j:=0) h0
  have f1:=fun (r:Row)=>(rd2 r).field (P:=Tryz.prog) (s:=148) (f:=1) (o:=1) (n:=1) (ag:=false) (by simp) (j:=0) h0
  have f2:=fun (r:Row)=>(rd2 r).field (P:=Tryz.prog) (s:=148) (f:=2) (o:=2) (n:=1) (ag:=false) (by simp) (j:=0) h0
  have c0:=fun (r:Row)=>(rd2 r).cell (P:=Tryz.prog) (e:=3) (by simp) h0 (c:=0) (by decide)
  have c1:=fun (r:Row)=>(rd2 r).cell (P:=Tryz.prog) (e:=3) (by simp) h0 (c:=1) (by decide)
  have c2:=fun (r:Row)=>(rd2 r).cell (P:=Tryz.prog) (e:=3) (by simp) h0 (c:=2) (by decide)
  simp only [Int.toNat_natCast,Ty,Int.toNat_zero,Nat.zero_mul,Nat.zero_add,Nat.add_zero] at q1 q2 z0 f0 f1 f2 c0 c1 c2
  simp only [Xp] at c0 c1 c2
  simp at c0 c1 c2
  have hw:=@w6 ((xs.length:Int)-1) (by omega)
  have hF:H.length≤H'.length:=c.1
  have hg0:xs.getD 0 Um=xs[0]:=by simp [List.getD_eq_getElem?_getD,h0]
  have hgi:xs.getD i Um=xs[i]:=by simp [List.getD_eq_getElem?_getD,hi']
  have hwt:wholeAt xs i=(xs[0].1,xs[0].2.1,xs[0].2.2.1,decide ((i:Int)=0),decide ((i:Int)=(xs.length:Int)-1)):=by unfold wholeAt;rw [hg0]
  obtain ⟨p,hp⟩:∃p,p=xs[i]:=⟨_,rfl⟩
  obtain ⟨z,hz⟩:∃z,z=xs[0]:=⟨_,rfl⟩
  rw [← hp] at q2 hgi
  rw [← hz] at c0 c1 c2 hwt
  obtain ⟨B1,hB1⟩:∃B,B=decide ((i:Int)=0):=⟨_,rfl⟩
  obtain ⟨B2,hB2⟩:∃B,B=decide ((i:Int)=(xs.length:Int)-1):=⟨_,rfl⟩
  rw [← hB1,← hB2] at hwt
  have e1:∀[Inhabited Unit],decide ((i:Int)=0)=B1:=by intro _;exact hB1.symm
  have e1':∀[Inhabited Unit],decide (i=0)=B1:=by intro _;rw [hB1];congr 1;simp
  have e2:∀[Inhabited Unit],decide ((i:Int)=(xs.length:Int)-1)=B2:=by intro _;exact hB2.symm
  simp [t0,t5,t6,t7,q1,q2,Xp,hF]
  rw [Qv (h:=by kernel_rfl)]
  simp [-Qy,Wr,VM.look,t0,t5,t6,t7,z0,zl,f0,f1,f2,c0,c1,c2,hw,e1,e1',e2,Qdi,-R6,-Prod.mk.injEq]
  have hdec:(((p.1,p.2.1,p.2.2.1,p.2.2.2.1,p.2.2.2.2):Q9)=(z.1,z.2.1,z.2.2.1,B1,B2))↔xs.getD i Um=wholeAt xs i:=by rw [hgi,hwt]
  by_cases g2:xs.getD i Um=wholeAt xs i
  ·have g3:=hdec.2 g2
   rw [decide_eq_true g3]
   simp [t0,t5,t6,t7]
   refine ih (xs.length-(i+1)) _ _ ⟨i+1,rfl,by omega,by simp [t0],by simp [t5],by simp [t6],?_,c.trans (Qp.app _),fun j hj=>?_⟩ (by omega)
   ·simp;rw [Q0 (by omega) (by omega)]
   ·by_cases hji:j<i
    ·exact hk j hji
    ·have:j=i:=by omega
     subst this;exact g2
  ·have g3:¬((p.1,p.2.1,p.2.2.1,p.2.2.2.1,p.2.2.2.2):Q9)=(z.1,z.2.1,z.2.2.1,B1,B2):=fun hh=>g2 (hdec.1 hh)
   rw [decide_eq_false g3]
   simp [t0,t5,t6,t7]
   exact no (fun hh=>g2 (hh.1 i hi'))
 ·have:i=xs.length:=by omega
  subst this
  have ll:=(hI.chg c (by simp)).len (P:=Tryz.prog) (ty:=145) (by simp)
  simp [t0,t5,t6,t7,ll]
  rw [← hY];exact decide_eq_decide.2 ⟨fun h0=>⟨hk,h0⟩,fun k=>k.2⟩
theorem Qar (v:Value) (xs:List Q9) (hI:Rd Yh H v xs) (hl:xs.length≤1073741824) :
 Qh C frz 188 [v] H=some (.bool (decide (whole xs)),H):=by
 refine wp.exact (by simp) ?_ rfl
 rw [Qb (fn:=Tryz.f188) Tryz.func188 rfl (by kernel_rfl) rfl]
 generalize hY:decide (whole xs)=Y
 have no:¬whole xs→Y=false:=fun hh=>by rw [← hY];exact decide_eq_false hh
 simp
 refine Qw (fun n t H'=>∃i:Nat,n=xs.length-i∧i≤xs.length∧t 0=v∧t 3=.int .i64 i∧Qp H H' []∧∀j,j<i→xs.getD j Um=wholeAt xs j) ?_ (n:=xs.length)
  ⟨0,rfl,by omega,by simp,by simp,Qp.refl _,by omega⟩
 rintro n t H' ⟨i,rfl,hi,t0,t3,c,hk⟩ ih
 have ll:=(hI.chg c (by simp)).len (P:=Tryz.prog) (ty:=145) (by simp)
 simp [t0,t3,ll]
 refine Qm ?_ ?_<;>intro g
 ·have hi':i<xs.length:=by omega
  have h0:0<xs.length:=by omega
  have rd:=hI.chg c (by simp)
  have q1:=rd.idx (P:=Tryz.prog) (ty:=145) (e:=148) (by simp) (i:=(i:Int)) (by omega) (by omega)
  have q2:=rd.load (P:=Tryz.prog) (e:=148) (by simp) hi'
  have rd2:=fun (r:Row)=>(rd.app (L:=[r]))
  have z0:=fun (r:Row)=>(rd2 r).idx (P:=Tryz.prog) (ty:=145) (e:=148) (by simp) (i:=0) (by omega) (by omega)
  have zl:=fun (r:Row)=>(rd2 r).len (P:=Tryz.prog) (ty:=145) (by simp)
  have f0:=fun (r:Row)=>(rd2 r).field (P:=Tryz.prog) (s:=148) (f:=0) (o:=0) (n:=1) (ag:=false) (by simp) (j:=0) h0
  have f1:=fun (r:Row)=>(rd2 r).field (P:=Tryz.prog) (s:=148) (f:=1) (o:=1) (n:=1) (ag:=false) (by simp) (j:=0) h0
  have f2:=fun (r:Row)=>(rd2 r).field (P:=Tryz.prog) (s:=148) (f:=2) (o:=2) (n:=1) (ag:=false) (by simp) (j:=0) h0
  have c0:=fun (r:Row)=>(rd2 r).cell (P:=Tryz.prog) (e:=3) (by simp) h0 (c:=0) (by decide)
  have c1:=fun (r:Row)=>(rd2 r).cell (P:=Tryz.prog) (e:=3) (by simp) h0 (c:=1) (by decide)
  have c2:=fun (r:Row)=>(rd2 r).cell (P:=Tryz.prog) (e:=3) (by simp) h0 (c:=2) (by decide)
  simp only [Int.toNat_natCast,Ty,Int.toNat_zero,Nat.zero_mul,Nat.zero_add,Nat.add_zero] at q1 q2 z0 f0 f1 f2 c0 c1 c2
  simp only [Xp] at c0 c1 c2
  simp at c0 c1 c2
  have hw:=@w6 ((xs.length:Int)-1) (by omega)
  have hF:H.length≤H'.length:=c.1
  have hg0:xs.getD 0 Um=xs[0]:=by simp [List.getD_eq_getElem?_getD,h0]
  have hgi:xs.getD i Um=xs[i]:=by simp [List.getD_eq_getElem?_getD,hi']
  have hwt:wholeAt xs i=(xs[0].1,xs[0].2.1,xs[0].2.2.1,decide ((i:Int)=0),decide ((i:Int)=(xs.length:Int)-1)):=by unfold wholeAt;rw [hg0]
  obtain ⟨p,hp⟩:∃p,p=xs[i]:=⟨_,rfl⟩
  obtain ⟨z,hz⟩:∃z,z=xs[0]:=⟨_,rfl⟩
  rw [← hp] at q2 hgi
  rw [← hz] at c0 c1 c2 hwt
  obtain ⟨B1,hB1⟩:∃B,B=decide ((i:Int)=0):=⟨_,rfl⟩
  obtain ⟨B2,hB2⟩:∃B,B=decide ((i:Int)=(xs.length:Int)-1):=⟨_,rfl⟩
  rw [← hB1,← hB2] at hwt
  have e1:∀[Inhabited Unit],decide ((i:Int)=0)=B1:=by intro _;exact hB1.symm
  have e1':∀[Inhabited Unit],decide (i=0)=B1:=by intro _;rw [hB1];congr 1;simp
  have e2:∀[Inhabited Unit],decide ((i:Int)=(xs.length:Int)-1)=B2:=by intro _;exact hB2.symm
  simp [t0,t3,q1,q2,Xp,hF]
  rw [Qv (h:=by kernel_rfl)]
  have hcmp:xs.getD i Um=wholeAt xs i↔p.1=z.1∧p.2.1=z.2.1∧p.2.2.1=z.2.2.1∧p.2.2.2.1=B1∧p.2.2.2.2=B2:=by
   rw [hgi,hwt];obtain ⟨_,_,_,_,_⟩:=p;simp
  have bad:¬(p.1=z.1∧p.2.1=z.2.1∧p.2.2.1=z.2.2.1∧p.2.2.2.1=B1∧p.2.2.2.2=B2)→Y=false:=fun hh=>no (fun k=>hh (hcmp.1 (k.1 i hi')))
  obtain ⟨p1,p2,p3,p4,p5⟩:=p
  simp only at hcmp bad
  simp [-Qy,Wr,VM.look,t0,t3,z0,zl,f0,f1,f2,c0,c1,c2,hw,e1,e1',e2]
  by_cases g1:p1=z.1
  rotate_left
  ·simp [t0,t3,g1];exact bad (fun k=>g1 k.1)
  simp [-Qy,Wr,VM.look,t0,t3,z0,zl,f0,f1,f2,c0,c1,c2,hw,e1,e1',e2,g1]
  by_cases g2:p2=z.2.1
  rotate_left
  ·simp [t0,t3,g2];exact bad (fun k=>g2 k.2.1)
  simp [-Qy,Wr,VM.look,t0,t3,z0,zl,f0,f1,f2,c0,c1,c2,hw,e1,e1',e2,g1,g2]
  by_cases g3:p3=z.2.2.1
  rotate_left
  ·simp [t0,t3,g3];exact bad (fun k=>g3 k.2.2.1)
  simp [-Qy,Wr,VM.look,t0,t3,z0,zl,f0,f1,f2,c0,c1,c2,hw,e1,e1',e2,g1,g2,g3]
  by_cases g4:p4=B1
  rotate_left
  ·have g4':(p4 != B1)=true:=bne_iff_ne.2 g4
   simp [t0,t3,g4'];exact bad (fun k=>g4 k.2.2.2.1)
  simp [-Qy,Wr,VM.look,t0,t3,z0,zl,f0,f1,f2,c0,c1,c2,hw,e1,e1',e2,g1,g2,g3,g4]
  by_cases g5:p5=B2
  rotate_left
  ·have g5':(p5 != B2)=true:=bne_iff_ne.2 g5
   simp [t0,t3,g5'];exact bad (fun k=>g5 k.2.2.2.2)
  have g6:=hcmp.2 ⟨g1,g2,g3,g4,g5⟩
  simp [t0,t3,g5]
  refine ih (xs.length-(i+1)) _ _ ⟨i+1,rfl,by omega,by simp [t0],?_,c.trans (Qp.app _),fun j hj=>?_⟩ (by omega)
  ·simp;rw [Q0 (by omega) (by omega)]
  ·by_cases hji:j<i
   ·exact hk j hji
   ·have:j=i:=by omega
    subst this;exact g6
 ·have:i=xs.length:=by omega
  subst this
  simp [t0,t3,ll]
  rw [← hY];exact decide_eq_decide.2 ⟨fun h0=>⟨hk,h0⟩,fun k=>k.2⟩
def part (l:List Q9) (f i:Nat):List Q9:=(l.drop f).take (i+1-f)
def Iq (l:List Q9):Nat→List Int×Nat
 | 0=>([],0)
 | i+1=>if whole (part l (Iq l i).2 i) then ((Iq l i).1++[(l.getD (Iq l i).2 Um).1],i+1) else Iq l i
def Vu (l:List Q9):List Int:=if (Iq l l.length).2<l.length then [] else (Iq l l.length).1
theorem A4 (l:List Q9):∀i,(Iq l i).2≤i∧(Iq l i).1.length≤i
 | 0=>by simp [Iq]
 | i+1=>by
  have:=A4 l i
  simp only [Iq];split
  ·simp;omega
  ·omega
theorem xq {l:List Q9} {f i:Nat} (hf:f≤i) (hi:i<l.length) {j:Nat} (hj:j+f≤i):(part l f i).getD j Um=l.getD (f+j) Um:=by
 unfold part
 simp only [List.getD_eq_getElem?_getD]
 rw [List.getElem?_take,if_pos (by omega),List.getElem?_drop]
theorem Fp {l:List Q9} {f i:Nat} (hf:f≤i) (hi:i<l.length):(part l f i).length=i+1-f:=by unfold part;simp;omega
theorem Ei {l:List Q9} {f i:Nat} (hf:f≤i) (hi:i<l.length) (h:whole (part l f i)):(l.getD i Um).1=(l.getD f Um).1:=by
 have h1:=h.1 (i-f) (by rw [Fp hf hi];omega)
 rw [xq hf hi (by omega)] at h1
 rw [show f+(i-f)=i by omega] at h1
 rw [h1]
 unfold wholeAt
 rw [xq hf hi (by omega)];rfl
def Jg (H:Qd) (xs:List Int) (r:Value) (H':Qd):Prop:=∃u ok,r=.tuple #[u,.bool ok]∧Ow Fl.int 3 H' u xs∧(∀i∈ids u,H.length≤i)∧Qp H H' []
theorem Fu (v:Value) (l:List Q9) (o:Ow Yh 148 H v l) (hl:l.length≤67108864) :
 wp (Qh C frz 172 [v] H) (Jg H (Vu l)):=by
 rw [Qb (fn:=Tryz.f172) Tryz.func172 rfl (by kernel_rfl) rfl]
 simp
 refine Qw (fun n t H'=>∃(i:Nat) (out:Value),n=l.length-i∧i≤l.length∧t 0=v∧t 4=out∧t 5=.int .i64 (Iq l i).2∧t 6=.int .i64 ((i:Int)+1)∧Qp H H' []∧Ow Fl.int 3 H' out (Iq l i).1∧(∀j∈ids out,H.length≤j)) ?_ (n:=l.length)
  ⟨0,.slice (some ⟨H.length,0,some 0⟩) 0 0,rfl,by omega,by simp,by simp,by simp [Iq],by simp,Qp.app _,Ow.new0 (D:=Fl.int) (xs:=[]) rfl rfl rfl rfl,by simp⟩
 rintro n t H' ⟨i,out,rfl,hi,t0,t4,t5,t6,c,oo,no⟩ ih
 have ov:=o.chg c (by simp)
 have ll:=ov.rd.len (P:=Tryz.prog) (ty:=145) (by simp)
 obtain ⟨wle,wll⟩:=A4 l i
 have hF:H.length≤H'.length:=c.1
 simp [t0,t4,t5,t6,ll]
 refine Qm ?_ ?_<;>intro g
 ·have hi':i<l.length:=by omega
  obtain ⟨f,hf⟩:∃f,f=(Iq l i).2:=⟨_,rfl⟩
  have hwp:Iq l (i+1)=if whole (part l f i) then ((Iq l i).1++[(l.getD f Um).1],i+1) else Iq l i:=by rw [hf];rfl
  rw [← hf] at t5 wle
  have e1:=@w6 ((i:Int)+1) (by omega)
  have e2:∀[Inhabited Unit],IntKind.i64.wrap ((i:Int)+1+1)=((i+1:Nat):Int)+1:=by intro _;rw [Q0 (by omega) (by omega)];omega
  obtain ⟨s,hs,os,ids_s⟩:=ov.slice (P:=Tryz.prog) (ty:=145) (by simp) (lo:=some (.int .i64 (f:Int))) (hi:=some (.int .i64 ((i:Int)+1))) (l:=f) (u:=i+1) rfl rfl (by omega) (by omega)
  have iw:=fun F=>Qc2 (frz:=F) (H:=H') s (part l f i) os.rd (by rw [Fp wle hi'];omega)
  have hfl:f<l.length:=by omega
  have q1:=ov.rd.idx (P:=Tryz.prog) (ty:=145) (e:=148) (by simp) (i:=(f:Int)) (by omega) (by omega)
  have q2:=ov.rd.field (P:=Tryz.prog) (s:=148) (f:=0) (o:=0) (n:=1) (ag:=false) (by simp) (j:=f*5) (by omega)
  have q3:=ov.rd.cell (P:=Tryz.prog) (e:=3) (by simp) hfl (c:=0) (by decide)
  simp only [Int.toNat_natCast,Ty,Nat.add_zero] at q1 q2 q3
  simp only [Xp] at q3
  simp at q3
  simp [t0,t4,t5,t6,e1,hs,iw]
  refine Qm ?_ ?_<;>intro g2
  ·obtain ⟨out',H2,hap,o2,c2,n2⟩:=oo.push (P:=Tryz.prog) (frz:=H.length) (ty:=24) (a:=l[f].1) (by simp) rfl (by omega) no
   simp only [Fl.int_f] at hap
   have l2:=c2.1
   have hsame:=Ei wle hi' g2
   have hgf:l.getD f Um=l[f]:=by simp [List.getD_eq_getElem?_getD,hfl]
   have hgi:l.getD i Um=l[i]:=by simp [List.getD_eq_getElem?_getD,hi']
   rw [hgf,hgi] at hsame
   rw [if_pos g2,hgf] at hwp
   simp [-Qy,Wr,t0,t4,t5,t6,q1,q2,q3,hap,e1]
   refine ih (l.length-(i+1)) _ _ ⟨i+1,out',rfl,by omega,by simp [t0],by simp,by simp [hwp],by simp [e2],c.trans' c2 (fun j hj=>.inr (no j hj)),?_,fun j hj=>?_⟩ (by omega)
   ·rw [hwp];exact o2
   ·rcases n2 j hj with h1|h1
    ·exact no j h1
    ·omega
  ·rw [if_neg g2] at hwp
   simp [t0,t4,t5,t6]
   refine ih (l.length-(i+1)) _ _ ⟨i+1,out,rfl,by omega,by simp [t0],by simp [t4],by rw [hwp,← hf];simp [t5],by simp [e2],c,by rw [hwp];exact oo,no⟩ (by omega)
 ·have:i=l.length:=by omega
  subst this
  simp [t0,t4,t5,t6,ll]
  refine Qm ?_ ?_<;>intro g2
  ·have hz:Vu l=[]:=if_pos (by omega)
   simp [t0,t4,t5,t6]
   exact ⟨.slice none 0 0,false,rfl,by rw [hz];exact .inl ⟨rfl,rfl⟩,by simp,c⟩
  ·have hz:Vu l=(Iq l l.length).1:=if_neg (by omega)
   simp [t0,t4,t5,t6]
   exact ⟨out,true,rfl,by rw [hz];exact oo,no,c⟩
theorem I9 (v:Value) (l:List Q9) (o:Ow Yh 148 H v l) (hl:l.length≤67108864) :
 wp (Qh C frz 158 [v] H) (Jg H (Vu l)):=by
 rw [Qb (fn:=Tryz.f158) Tryz.func158 rfl (by kernel_rfl) rfl]
 simp
 refine Qw (fun n t H'=>∃(i:Nat) (out:Value),n=l.length-i∧i≤l.length∧t 0=v∧t 4=out∧t 5=.int .i64 (Iq l i).2∧t 6=.int .i64 i∧Qp H H' []∧Ow Fl.int 3 H' out (Iq l i).1∧(∀j∈ids out,H.length≤j)) ?_ (n:=l.length)
  ⟨0,.slice (some ⟨H.length,0,some 0⟩) 0 0,rfl,by omega,by simp,by simp,by simp [Iq],by simp,Qp.app _,Ow.new0 (D:=Fl.int) (xs:=[]) rfl rfl rfl rfl,by simp⟩
 rintro n t H' ⟨i,out,rfl,hi,t0,t4,t5,t6,c,oo,no⟩ ih
 have ov:=o.chg c (by simp)
 have ll:=ov.rd.len (P:=Tryz.prog) (ty:=145) (by simp)
 obtain ⟨wle,wll⟩:=A4 l i
 have hF:H.length≤H'.length:=c.1
 simp [t0,t4,t5,t6,ll]
 refine Qm ?_ ?_<;>intro g
 ·have hi':i<l.length:=by omega
  obtain ⟨f,hf⟩:∃f,f=(Iq l i).2:=⟨_,rfl⟩
  have hwp:Iq l (i+1)=if whole (part l f i) then ((Iq l i).1++[(l.getD f Um).1],i+1) else Iq l i:=by rw [hf];rfl
  rw [← hf] at t5 wle
  have e1:=@w6 ((i:Int)+1) (by omega)
  have e2:∀[Inhabited Unit],IntKind.i64.wrap ((i:Int)+1+1)=((i+1:Nat):Int)+1:=by intro _;rw [Q0 (by omega) (by omega)];omega
  obtain ⟨s,hs,os,ids_s⟩:=ov.slice (P:=Tryz.prog) (ty:=145) (by simp) (lo:=some (.int .i64 (f:Int))) (hi:=some (.int .i64 ((i:Int)+1))) (l:=f) (u:=i+1) rfl rfl (by omega) (by omega)
  have iw:=fun F=>Qar (frz:=F) (H:=H') s (part l f i) os.rd (by rw [Fp wle hi'];omega)
  have hfl:f<l.length:=by omega
  have q1:=ov.rd.idx (P:=Tryz.prog) (ty:=145) (e:=148) (by simp) (i:=(i:Int)) (by omega) (by omega)
  have q2:=ov.rd.field (P:=Tryz.prog) (s:=148) (f:=0) (o:=0) (n:=1) (ag:=false) (by simp) (j:=i*5) (by omega)
  have q3:=ov.rd.cell (P:=Tryz.prog) (e:=3) (by simp) hi' (c:=0) (by decide)
  simp only [Int.toNat_natCast,Ty,Nat.add_zero] at q1 q2 q3
  simp only [Xp] at q3
  simp at q3
  simp [t0,t4,t5,t6,e1,hs,iw]
  refine Qm ?_ ?_<;>intro g2
  ·obtain ⟨out',H2,hap,o2,c2,n2⟩:=oo.push (P:=Tryz.prog) (frz:=H.length) (ty:=24) (a:=l[i].1) (by simp) rfl (by omega) no
   simp only [Fl.int_f] at hap
   have l2:=c2.1
   have hsame:=Ei wle hi' g2
   have hgf:l.getD f Um=l[f]:=by simp [List.getD_eq_getElem?_getD,hfl]
   have hgi:l.getD i Um=l[i]:=by simp [List.getD_eq_getElem?_getD,hi']
   rw [hgf,hgi] at hsame
   rw [if_pos g2,hgf] at hwp
   simp [-Qy,Wr,t0,t4,t5,t6,q1,q2,q3,hap,e1]
   refine ih (l.length-(i+1)) _ _ ⟨i+1,out',rfl,by omega,by simp [t0],by simp,by simp [hwp],by simp,c.trans' c2 (fun j hj=>.inr (no j hj)),?_,fun j hj=>?_⟩ (by omega)
   ·rw [hwp];rw [hsame] at o2;exact o2
   ·rcases n2 j hj with h1|h1
    ·exact no j h1
    ·omega
  ·rw [if_neg g2] at hwp
   simp [t0,t4,t5,t6]
   refine ih (l.length-(i+1)) _ _ ⟨i+1,out,rfl,by omega,by simp [t0],by simp [t4],by rw [hwp,← hf];simp [t5],by simp [e1],c,by rw [hwp];exact oo,no⟩ (by omega)
 ·have:i=l.length:=by omega
  subst this
  simp [t0,t4,t5,t6,ll]
  refine Qm ?_ ?_<;>intro g2
  ·have hz:Vu l=[]:=if_pos (by omega)
   simp [t0,t4,t5,t6]
   exact ⟨.slice (some ⟨H'.length,0,some 0⟩) 0 0,false,rfl,by rw [hz];exact Ow.new0 (D:=Fl.int) (xs:=[]) rfl rfl rfl rfl,by simp;omega,c.trans (Qp.app _)⟩
  ·have hz:Vu l=(Iq l l.length).1:=if_neg (by omega)
   simp [t0,t4,t5,t6]
   exact ⟨out,true,rfl,by rw [hz];exact oo,no,c⟩
def Oy (l:List Q9):List Q9:=(l.reverse.dropWhile fun f=>!f.2.2.2.2).reverse
theorem Cx (l:List Q9) (f:Q9):Oy (l++[f])=if f.2.2.2.2=true then l++[f] else Oy l:=by
 unfold Oy
 rw [List.reverse_append,List.reverse_singleton,List.singleton_append,List.dropWhile_cons]
 cases h:f.2.2.2.2<;>simp
def Ut (arr:X9) (node:Nat) (c:Int):List Int:=Vu (Oy ((arr.getD node []).filter fun f=>f.2.2.1=c))
theorem Aw (v:Value) (xs:List Q9) (c:Int) (hI:Rd Yh H v xs) (hl:xs.length≤1073741824) :
 wp (Qh C frz 157 [v,.int .i64 c] H) (fun r H'=>Ow Yh 148 H' r (xs.filter fun f=>f.2.2.1=c)∧(∀i∈ids r,H.length≤i)∧Qp H H' []):=by
 rw [Qb (fn:=Tryz.f157) Tryz.func157 rfl (by kernel_rfl) rfl]
 simp
 refine Qw (fun n t H'=>∃(i:Nat) (r:Value),n=xs.length-i∧i≤xs.length∧t 0=v∧t 1=.int .i64 c∧t 5=r∧t 6=.int .i64 i∧Qp H H' []∧Ow Yh 148 H' r ((xs.take i).filter fun f=>f.2.2.1=c)∧(∀j∈ids r,H.length≤j)) ?_ (n:=xs.length)
  ⟨0,.slice (some ⟨H.length,0,some 0⟩) 0 0,rfl,by omega,by simp,by simp,by simp,by simp,Qp.app _,Ow.new0 (D:=Yh) (xs:=[]) rfl rfl rfl rfl,by simp⟩
 rintro n t H' ⟨i,r,rfl,hi,t0,t1,t5,t6,ch,o,nr⟩ ih
 have rd:=hI.chg ch (by simp)
 simp [t0,t1,t5,t6,rd.len (P:=Tryz.prog) (ty:=145) (by simp)]
 refine Qm ?_ ?_<;>intro g
 ·have hi':i<xs.length:=by omega
  have q1:=rd.idx (P:=Tryz.prog) (ty:=145) (e:=148) (by simp) (i:=(i:Int)) (by omega) (by omega)
  have q2:=rd.load (P:=Tryz.prog) (e:=148) (by simp) hi'
  have q3:=rd.field (P:=Tryz.prog) (s:=148) (f:=2) (o:=2) (n:=1) (ag:=false) (by simp) (j:=i*5) (by omega)
  have q4:=rd.cell (P:=Tryz.prog) (e:=3) (by simp) hi' (c:=2) (by decide)
  simp only [Int.toNat_natCast,Ty] at q1 q2 q4
  simp only [Xp] at q4
  simp at q4
  have hF:H.length≤H'.length:=ch.1
  have hfl:=List.length_filter_le (fun f:Q9=>decide (f.2.2.1=c)) (xs.take i)
  have htl:(xs.take i).length≤i:=by simp;omega
  simp [-Qy,Wr,t0,t1,t5,t6,q1,q3,q4]
  refine Qm ?_ ?_<;>intro g1
  ·obtain ⟨r',H2,hap,o2,c2,n2⟩:=o.push (P:=Tryz.prog) (frz:=H.length) (ty:=145) (a:=xs[i]) (by simp) rfl (by omega) nr
   simp only [Xp] at hap
   simp [t0,t1,t5,t6,q1,q2,Xp,hap]
   refine ih (xs.length-(i+1)) _ _ ⟨i+1,r',rfl,by omega,by simp [t0],by simp [t1],by simp,?_,ch.trans' c2 (fun j hj=>.inr (nr j hj)),?_,fun j hj=>?_⟩ (by omega)
   ·simp;rw [Q0 (by omega) (by omega)]
   ·rw [List.take_succ_eq_append_getElem hi',List.filter_append];simpa [g1] using o2
   ·rcases n2 j hj with h1|h1
    ·exact nr j h1
    ·omega
  ·simp [t0,t1,t5,t6,g1]
   refine ih (xs.length-(i+1)) _ _ ⟨i+1,r,rfl,by omega,by simp [t0],by simp [t1],by simp [t5],?_,ch,?_,nr⟩ (by omega)
   ·simp;rw [Q0 (by omega) (by omega)]
   ·rw [List.take_succ_eq_append_getElem hi',List.filter_append];simpa [g1] using o
 ·have:i=xs.length:=by omega
  subst this
  rw [List.take_length] at o
  simp [t0,t1,t5,t6]
  exact ⟨o,nr,ch⟩
theorem Qdo {id:Nat} {w h tm:Int} {u2 u3 u4 u5 u6 u7 u8:Value} {v9:I5} {arr:X9} {node:Nat} {k:Int} (hr:H[id]? = some ⟨[.int .i64 w,.int .i64 h,u2,u3,u4,u5,u6,u7,u8,v9.1,.int .i64 tm],0,48⟩) (h9:Qt.Ow H v9 arr) (hn:node<arr.length) :
 wp (Qh C frz 136 [.pointer (some ⟨id,0,some 0⟩),.int .i64 node,.int .i64 k] H) (Jg H (Ut arr node k)):=by
 rw [Qb (fn:=Tryz.f136) Tryz.func136 rfl (by kernel_rfl) rfl]
 have rl:=h9.1.rd
 obtain ⟨u,_,a2,a3,a4⟩:=Xi rl (ty:=46) (e:=145) (by simp) (by simp) hn
 have hm:=h9.2.2 _ (List.getElem_mem hn)
 have hg:arr.getD node []=arr[node]:=by simp [List.getD_eq_getElem?_getD,hn]
 simp [VM.vnil,VM.look,hr,a2,a3]
 refine Ql (Ix u arr[node] k a4 (by omega)) ?_
 rintro s G1 ⟨os,ns,c1⟩
 have cH:Qp H G1 []:=c1
 have ns':∀i∈ids s,H.length≤i:=fun i hi=>by have:=ns i hi;omega
 have hfl:=List.length_filter_le (fun f:Q9=>decide (f.2.2.1=k)) arr[node]
 unfold Ut
 rw [hg]
 generalize (arr[node].filter fun f=>f.2.2.1=k)=l0 at *
 simp
 refine Qw (fun n t H'=>∃(s:Value) (l:List Q9),n=l.length∧t 8=s∧H'=G1∧Ow Yh 148 G1 s l∧Oy l=Oy l0∧l.length≤l0.length) ?_ (n:=l0.length)
  ⟨s,l0,rfl,by simp,rfl,os,rfl,Nat.le_refl _⟩
 rintro n t H' ⟨s,l,rfl,t8,rfl,o,ht,hle⟩ ih
 have ll:=o.rd.len (P:=Tryz.prog) (ty:=145) (by simp)
 simp [t8,ll]
 have fin:Oy l0=l→wp (Qh C H.length 172 [s] H') (fun r H2=>Jg H (Vu (Oy l0)) r H2):=fun e=>by
  rw [e]
  refine (Fu s l o (by omega)).mono ?_
  rintro r H2 ⟨u',ok,rfl,o2,n2,c2⟩
  exact ⟨u',ok,rfl,o2,fun i hi=>by have:=n2 i hi;have:=cH.1;omega,cH.trans c2⟩
 by_cases h0:l=[]
 ·have hz:Oy l0=l:=by rw [← ht,h0];rfl
  have hl0:l.length=0:=by rw [h0];rfl
  simp [hl0,t8]
  refine Ql (fin hz) ?_
  rintro _ H2 ⟨u',ok,rfl,o2,n2,c2⟩
  simp
  exact ⟨u',ok,rfl,o2,n2,c2⟩
 ·have hpos:0<l.length:=List.length_pos_iff.2 h0
  obtain ⟨m,hm1⟩:∃m,l.length=m+1:=⟨l.length-1,by omega⟩
  have hml:m<l.length:=by omega
  have hsn:l=l.take m++[l[m]]:=by
   have:=List.take_succ_eq_append_getElem hml
   rw [← this,List.take_of_length_le (by omega)]
  have e1:∀[Inhabited Unit],IntKind.i64.wrap ((m:Int)+1-1)=(m:Int):=by intro _;rw [Q0 (by omega) (by omega)];omega
  have e1':∀[Inhabited Unit],IntKind.i64.wrap (m:Int)=(m:Int):=by intro _;rw [Q0 (by omega) (by omega)]
  have q1:=o.rd.idx (P:=Tryz.prog) (ty:=145) (e:=148) (by simp) (i:=(m:Int)) (by omega) (by omega)
  have q3:=o.rd.field (P:=Tryz.prog) (s:=148) (f:=4) (o:=4) (n:=1) (ag:=false) (by simp) (j:=m*5) (by omega)
  have q4:=o.rd.cell (P:=Tryz.prog) (e:=4) (by simp) hml (c:=4) (by decide)
  simp only [Int.toNat_natCast,Ty] at q1 q4
  simp only [Xp] at q4
  simp at q4
  have hgt:(0:Int)<(m:Int)+1:=by omega
  have hts:=Cx (l.take m) l[m]
  rw [← hsn] at hts
  obtain ⟨f,hf⟩:∃f,f=l[m]:=⟨_,rfl⟩
  rw [← hf] at hts q4
  simp [-Qy,Wr,t8,ll,hm1,hgt,e1,e1',q1,q3,q4]
  cases hb:f.2.2.2.2
  ·rw [if_neg (by rw [hb];simp)] at hts
   obtain ⟨s',hs',os',ids_s⟩:=o.slice (P:=Tryz.prog) (ty:=145) (by simp) (lo:=none) (hi:=some (.int .i64 (m:Int))) (l:=0) (u:=m) rfl rfl (by omega) (by omega)
   simp only [List.drop_zero,Nat.sub_zero] at os'
   simp [t8,ll,hm1,e1,e1',hs']
   refine ih (l.take m).length _ _ ⟨s',l.take m,rfl,by simp,rfl,os',by rw [← hts,ht],by simp;omega⟩ (by simp;omega)
  ·rw [if_pos hb] at hts
   have hz:Oy l0=l:=by rw [← ht,hts]
   simp [t8]
   refine Ql (fin hz) ?_
   rintro _ H2 ⟨u',ok,rfl,o2,n2,c2⟩
   simp
   exact ⟨u',ok,rfl,o2,n2,c2⟩
theorem kw {v:Wo} {x:Qu} {node:Nat} {k:Int} (o:Qe.Ow H v x) (hn:node<x.2.2.2.2.2.2.1.length) :
 wp (Qh C frz 106 [Qe.val v x,.int .i64 node,.int .i64 k] H) (Jg H (Ut x.2.2.2.2.2.2.1 node k)):=by
 have ones:=Qr o
 obtain ⟨_,_,_,_,_,_,h9,_⟩:=o
 rw [Qk,Qb (fn:=Tryz.f106) Tryz.func106 rfl (by kernel_rfl) rfl]
 have rl:=h9.1.rd
 obtain ⟨arr,harr⟩:∃a,a=x.2.2.2.2.2.2.1:=⟨_,rfl⟩
 simp only [← harr] at hn h9 rl ⊢
 have rl':=fun (L:Qd)=>rl.app (L:=L)
 have hm:=h9.2.2 _ (List.getElem_mem hn)
 have hg:arr.getD node []=arr[node]:=by simp [List.getD_eq_getElem?_getD,hn]
 obtain ⟨u,hu,_,_,a4'⟩:=Xi rl (ty:=46) (e:=145) (by simp) (by simp) hn
 have aa:∀(L:Qd),Q6 Tryz.prog (H++L) 46 v.2.2.2.2.2.2.1.1 (.int .i64 node)=some (Yi v.2.2.2.2.2.2.1.1 node)∧Xh Tryz.prog (H++L) 145 (Yi v.2.2.2.2.2.2.1.1 node)=some u:=fun L=>by
  obtain ⟨u',hu',b2,b3,b4⟩:=Xi (rl' L) (ty:=46) (e:=145) (by simp) (by simp) hn
  rw [hu] at hu';cases hu'
  exact ⟨b2,b3⟩
 have a2:=fun L=>(aa L).1
 have a3:=fun L=>(aa L).2
 simp [ones,a2,a3]
 refine Ql (Aw u arr[node] k a4'.app (by omega)) ?_
 rintro s G1 ⟨os,ns,c1⟩
 have cH:Qp H G1 []:=(Qp.app []).trans c1
 have ns':∀i∈ids s,H.length≤i:=fun i hi=>by have:=ns i hi;simp at this;omega
 have hfl:=List.length_filter_le (fun f:Q9=>decide (f.2.2.1=k)) arr[node]
 unfold Ut
 rw [hg]
 generalize (arr[node].filter fun f=>f.2.2.1=k)=l0 at *
 simp
 refine Qw (fun n t H'=>∃(s:Value) (l:List Q9),n=l.length∧t 8=s∧H'=G1∧Ow Yh 148 G1 s l∧Oy l=Oy l0∧l.length≤l0.length) ?_ (n:=l0.length)
  ⟨s,l0,rfl,by simp,rfl,os,rfl,Nat.le_refl _⟩
 rintro n t H' ⟨s,l,rfl,t8,rfl,o,ht,hle⟩ ih
 have ll:=o.rd.len (P:=Tryz.prog) (ty:=145) (by simp)
 simp [t8,ll]
 have fin:Oy l0=l→wp (Qh C H.length 158 [s] H') (fun r H2=>Jg H (Vu (Oy l0)) r H2):=fun e=>by
  rw [e]
  refine (I9 s l o (by omega)).mono ?_
  rintro r H2 ⟨u',ok,rfl,o2,n2,c2⟩
  exact ⟨u',ok,rfl,o2,fun i hi=>by have:=n2 i hi;have:=cH.1;omega,cH.trans c2⟩
 by_cases h0:l=[]
 ·have hz:Oy l0=l:=by rw [← ht,h0];rfl
  have hl0:l.length=0:=by rw [h0];rfl
  simp [hl0,t8]
  refine Ql (fin hz) ?_
  rintro _ H2 ⟨u',ok,rfl,o2,n2,c2⟩
  simp
  exact ⟨u',ok,rfl,o2,n2,c2⟩
 ·have hpos:0<l.length:=List.length_pos_iff.2 h0
  obtain ⟨m,hm1⟩:∃m,l.length=m+1:=⟨l.length-1,by omega⟩
  have hml:m<l.length:=by omega
  have hsn:l=l.take m++[l[m]]:=by
   have:=List.take_succ_eq_append_getElem hml
   rw [← this,List.take_of_length_le (by omega)]
  have e1:∀[Inhabited Unit],IntKind.i64.wrap ((m:Int)+1-1)=(m:Int):=by intro _;rw [Q0 (by omega) (by omega)];omega
  have e1':∀[Inhabited Unit],IntKind.i64.wrap (m:Int)=(m:Int):=by intro _;rw [Q0 (by omega) (by omega)]
  have q1:=o.rd.idx (P:=Tryz.prog) (ty:=145) (e:=148) (by simp) (i:=(m:Int)) (by omega) (by omega)
  have q3:=o.rd.field (P:=Tryz.prog) (s:=148) (f:=4) (o:=4) (n:=1) (ag:=false) (by simp) (j:=m*5) (by omega)
  have q4:=o.rd.cell (P:=Tryz.prog) (e:=4) (by simp) hml (c:=4) (by decide)
  simp only [Int.toNat_natCast,Ty] at q1 q4
  simp only [Xp] at q4
  simp at q4
  have hgt:(0:Int)<(m:Int)+1:=by omega
  have hts:=Cx (l.take m) l[m]
  rw [← hsn] at hts
  obtain ⟨f,hf⟩:∃f,f=l[m]:=⟨_,rfl⟩
  rw [← hf] at hts q4
  simp [-Qy,Wr,t8,ll,hm1,hgt,e1,e1',q1,q3,q4]
  cases hb:f.2.2.2.2
  ·rw [if_neg (by rw [hb];simp)] at hts
   obtain ⟨s',hs',os',ids_s⟩:=o.slice (P:=Tryz.prog) (ty:=145) (by simp) (lo:=none) (hi:=some (.int .i64 (m:Int))) (l:=0) (u:=m) rfl rfl (by omega) (by omega)
   simp only [List.drop_zero,Nat.sub_zero] at os'
   simp [t8,ll,hm1,e1,e1',hs']
   refine ih (l.take m).length _ _ ⟨s',l.take m,rfl,by simp,rfl,os',by rw [← hts,ht],by simp;omega⟩ (by simp;omega)
  ·rw [if_pos hb] at hts
   have hz:Oy l0=l:=by rw [← ht,hts]
   simp [t8]
   refine Ql (fin hz) ?_
   rintro _ H2 ⟨u',ok,rfl,o2,n2,c2⟩
   simp
   exact ⟨u',ok,rfl,o2,n2,c2⟩
def Uk (a b c:Int) (p:Yy):Prop:=p.2.1=a∧p.2.2.1=b∧p.2.2.2.1=c
instance (a b c:Int) (p:Yy):Decidable (Uk a b c p):=inferInstanceAs (Decidable (_∧_))
def Mq (list:List Yy) (id a b c:Int):Prop:=∃p∈list,p.1=id∧Uk a b c p
instance (list:List Yy) (id a b c:Int):Decidable (Mq list id a b c):=inferInstanceAs (Decidable (∃p∈list,_))
def Zb (list:List Yy) (a b c:Int):List Int:=(list.filter fun p=>Uk a b c p).map (·.1)
def among (all:List Int) (list:List Yy) (a b c:Int):List Int:=all.filter fun id=>Mq list id a b c
theorem Nw (all:List Int) (list:List Yy) (a b c:Int):(among all list a b c).length≤all.length:=List.length_filter_le _ _
theorem Ii (list:List Yy) (a b c:Int):(Zb list a b c).length≤list.length:=by unfold Zb;rw [List.length_map];exact List.length_filter_le _ _
def Se (H:Qd) (xs:List Int) (r:Value) (H':Qd):Prop:=Ow Fl.int 3 H' r xs∧(∀i∈ids r,H.length≤i)∧Qp H H' []
theorem Qgr (v:Value) (list:List Yy) (id a b c:Int) (hI:Rd U7 H v list) (hl:list.length≤1073741824) :
 Qh C frz 173 [v,.int .i64 id,.int .i64 a,.int .i64 b,.int .i64 c] H=some (.bool (decide (Mq list id a b c)),H):=by
 refine wp.exact (by simp) ?_ rfl
 rw [Qb (fn:=Tryz.f173) Tryz.func173 rfl (by kernel_rfl) rfl]
 generalize hY:decide (Mq list id a b c)=Y
 simp [hI.len (P:=Tryz.prog) (ty:=49) (by simp)]
 refine Qw (fun n t H'=>∃i:Nat,n=list.length-i∧i≤list.length∧t 1=.int .i64 id∧t 2=.int .i64 a∧t 3=.int .i64 b∧t 4=.int .i64 c∧t 13=v∧t 14=.int .i64 list.length∧t 15=.int .i64 i∧Qp H H' []∧∀p∈list.take i,¬(p.1=id∧Uk a b c p)) ?_ (n:=list.length)
  ⟨0,rfl,by omega,by simp,by simp,by simp,by simp,by simp,by simp,by simp,Qp.refl _,by simp⟩
 rintro n t H' ⟨i,rfl,hi,t1,t2,t3,t4,t13,t14,t15,ch,hk⟩ ih
 simp [t1,t2,t3,t4,t13,t14,t15]
 refine Qm ?_ ?_<;>intro g
 ·have hi':i<list.length:=by omega
  have rd:=hI.chg ch (by simp)
  have q1:=rd.idx (P:=Tryz.prog) (ty:=49) (e:=104) (by simp) (i:=(i:Int)) (by omega) (by omega)
  have q2:=rd.load (P:=Tryz.prog) (e:=104) (by simp) hi'
  simp only [Int.toNat_natCast,S4] at q1 q2
  have hF:H.length≤H'.length:=ch.1
  have hst:=fun {x} (hx:x∈list.take (i+1))=>Ue hi' hx
  have hmem:=List.getElem_mem hi'
  obtain ⟨p,hp⟩:∃p,p=list[i]:=⟨_,rfl⟩
  rw [← hp] at q2 hst hmem
  have ext:¬(p.1=id∧Uk a b c p)→∀x∈list.take (i+1),¬(x.1=id∧Uk a b c x):=fun hh x hx=>by
   rcases hst hx with hx|rfl
   ·exact hk x hx
   ·exact hh
  simp [t1,t2,t3,t4,t13,t14,t15,q1,q2,Zj,hF,VM.look]
  by_cases g1:p.1=id
  rotate_left
  ·simp [t1,t2,t3,t4,t13,t14,t15,g1]
   refine ih (list.length-(i+1)) _ _ ⟨i+1,rfl,by omega,by simp [t1],by simp [t2],by simp [t3],by simp [t4],by simp [t13],by simp [t14],?_,ch.trans (Qp.app _),ext (fun k=>g1 k.1)⟩ (by omega)
   simp;rw [Q0 (by omega) (by omega)]
  simp [t1,t2,t3,t4,t13,t14,t15,VM.look,g1]
  by_cases g2:p.2.1=a
  rotate_left
  ·simp [t1,t2,t3,t4,t13,t14,t15,g1,g2]
   refine ih (list.length-(i+1)) _ _ ⟨i+1,rfl,by omega,by simp [t1],by simp [t2],by simp [t3],by simp [t4],by simp [t13],by simp [t14],?_,ch.trans (Qp.app _),ext (fun k=>g2 k.2.1)⟩ (by omega)
   simp;rw [Q0 (by omega) (by omega)]
  simp [t1,t2,t3,t4,t13,t14,t15,VM.look,g1,g2]
  by_cases g3:p.2.2.1=b
  rotate_left
  ·simp [t1,t2,t3,t4,t13,t14,t15,g1,g2,g3]
   refine ih (list.length-(i+1)) _ _ ⟨i+1,rfl,by omega,by simp [t1],by simp [t2],by simp [t3],by simp [t4],by simp [t13],by simp [t14],?_,ch.trans (Qp.app _),ext (fun k=>g3 k.2.2.1)⟩ (by omega)
   simp;rw [Q0 (by omega) (by omega)]
  simp [t1,t2,t3,t4,t13,t14,t15,VM.look,g1,g2,g3]
  by_cases g4:p.2.2.2.1=c
  rotate_left
  ·simp [t1,t2,t3,t4,t13,t14,t15,g1,g2,g3,g4]
   refine ih (list.length-(i+1)) _ _ ⟨i+1,rfl,by omega,by simp [t1],by simp [t2],by simp [t3],by simp [t4],by simp [t13],by simp [t14],?_,ch.trans (Qp.app _),ext (fun k=>g4 k.2.2.2)⟩ (by omega)
   simp;rw [Q0 (by omega) (by omega)]
  simp [t1,t2,t3,t4,t13,t14,t15,VM.look,g1,g2,g3,g4]
  rw [← hY];exact decide_eq_true ⟨p,hmem,g1,g2,g3,g4⟩
 ·have:i=list.length:=by omega
  subst this
  rw [List.take_length] at hk
  simp [t1,t2,t3,t4,t13,t14,t15]
  rw [← hY];exact decide_eq_false (fun ⟨p,h1,h2⟩=>hk p h1 h2)
theorem jx (u v:Value) (all:List Int) (list:List Yy) (a b c:Int) (hA:Rd Fl.int H u all) (hI:Rd U7 H v list) (hla:all.length≤1073741824) (hl:list.length≤1073741824) :
 wp (Qh C frz 138 [u,v,.int .i64 a,.int .i64 b,.int .i64 c] H) (Se H (among all list a b c)):=by
 rw [Qb (fn:=Tryz.f138) Tryz.func138 rfl (by kernel_rfl) rfl]
 simp [hA.app.len (P:=Tryz.prog) (ty:=24) (by simp)]
 refine Qw (fun n t H'=>∃(i:Nat) (out:Value),n=all.length-i∧i≤all.length∧t 1=v∧t 2=.int .i64 a∧t 3=.int .i64 b∧t 4=.int .i64 c∧t 11=out∧t 15=u∧t 16=.int .i64 all.length∧t 17=.int .i64 i∧Se H (among (all.take i) list a b c) out H') ?_ (n:=all.length)
  ⟨0,.slice (some ⟨H.length,0,some 0⟩) 0 0,rfl,by omega,by simp,by simp,by simp,by simp,by simp,by simp,by simp,by simp,Ow.new0 (D:=Fl.int) (xs:=[]) rfl rfl rfl rfl,by simp,Qp.app _⟩
 rintro n t H' ⟨i,out,rfl,hi,t1,t2,t3,t4,t11,t15,t16,t17,o,no,ch⟩ ih
 simp [t1,t2,t3,t4,t11,t15,t16,t17]
 refine Qm ?_ ?_<;>intro g
 ·have hi':i<all.length:=by omega
  have ra:=(hA.chg ch (by simp)).isI
  have q1:=ra.idx (P:=Tryz.prog) (ty:=24) (e:=3) (by simp) (i:=(i:Int)) (by omega) (by omega)
  have q2:=ra.load (P:=Tryz.prog) (e:=3) (by simp) hi'
  simp only [Int.toNat_natCast,Vc hi'] at q1 q2
  have is:=fun F=>Qgr (frz:=F) (H:=H') v list all[i] a b c (hI.chg ch (by simp)) hl
  have hal:=Nw (all.take i) list a b c
  have htl:(all.take i).length≤i:=by simp;omega
  have hF:H.length≤H'.length:=ch.1
  have hsu:among (all.take (i+1)) list a b c=among (all.take i) list a b c++(if Mq list all[i] a b c then [all[i]] else []):=by
   unfold among;rw [List.take_succ_eq_append_getElem hi',List.filter_append];congr 1;by_cases h:Mq list all[i] a b c<;>simp [h]
  simp [t1,t2,t3,t4,t11,t15,t16,t17,q1,q2,is]
  refine Qm ?_ ?_<;>intro g1
  ·obtain ⟨r',H2,hap,o2,c2,n2⟩:=o.push (P:=Tryz.prog) (frz:=H.length) (ty:=24) (a:=all[i]) (by simp) rfl (by omega) no
   simp only [Fl.int_f] at hap
   simp [t1,t2,t3,t4,t11,t15,t16,t17,hap]
   refine ih (all.length-(i+1)) _ _ ⟨i+1,r',rfl,by omega,by simp [t1],by simp [t2],by simp [t3],by simp [t4],by simp,by simp [t15],by simp [t16],?_,by rw [hsu,if_pos g1];exact o2,fun j hj=>?_,ch.trans' c2 (fun j hj=>.inr (no j hj))⟩ (by omega)
   ·simp;rw [Q0 (by omega) (by omega)]
   ·rcases n2 j hj with h1|h1
    ·exact no j h1
    ·omega
  ·simp [t1,t2,t3,t4,t11,t15,t16,t17]
   refine ih (all.length-(i+1)) _ _ ⟨i+1,out,rfl,by omega,by simp [t1],by simp [t2],by simp [t3],by simp [t4],by simp [t11],by simp [t15],by simp [t16],?_,by rw [hsu,if_neg g1,List.append_nil];exact o,no,ch⟩ (by omega)
   simp;rw [Q0 (by omega) (by omega)]
 ·have:i=all.length:=by omega
  subst this
  rw [List.take_length] at o
  simp [t1,t2,t3,t4,t11,t15,t16,t17]
  exact ⟨o,no,ch⟩
theorem vq (v:Value) (list:List Yy) (a b c:Int) (hI:Rd U7 H v list) (hl:list.length≤1073741824) :
 wp (Qh C frz 139 [v,.int .i64 a,.int .i64 b,.int .i64 c] H) (Se H (Zb list a b c)):=by
 rw [Qb (fn:=Tryz.f139) Tryz.func139 rfl (by kernel_rfl) rfl]
 simp [hI.app.len (P:=Tryz.prog) (ty:=49) (by simp)]
 refine Qw (fun n t H'=>∃(i:Nat) (out:Value),n=list.length-i∧i≤list.length∧t 1=.int .i64 a∧t 2=.int .i64 b∧t 3=.int .i64 c∧t 9=out∧t 13=v∧t 14=.int .i64 list.length∧t 15=.int .i64 i∧Se H (Zb (list.take i) a b c) out H') ?_ (n:=list.length)
  ⟨0,.slice (some ⟨H.length,0,some 0⟩) 0 0,rfl,by omega,by simp,by simp,by simp,by simp,by simp,by simp,by simp,Ow.new0 (D:=Fl.int) (xs:=[]) rfl rfl rfl rfl,by simp,Qp.app _⟩
 rintro n t H' ⟨i,out,rfl,hi,t1,t2,t3,t9,t13,t14,t15,o,no,ch⟩ ih
 have rd:=hI.chg ch (by simp)
 simp [t1,t2,t3,t9,t13,t14,t15,rd.len (P:=Tryz.prog) (ty:=49) (by simp)]
 refine Qm ?_ ?_<;>intro g
 ·have hi':i<list.length:=by omega
  have q1:=rd.idx (P:=Tryz.prog) (ty:=49) (e:=104) (by simp) (i:=(i:Int)) (by omega) (by omega)
  have q2:=rd.load (P:=Tryz.prog) (e:=104) (by simp) hi'
  have f0:=rd.field (P:=Tryz.prog) (s:=104) (f:=0) (o:=0) (n:=1) (ag:=false) (by simp) (j:=i*5) (by omega)
  have f1:=rd.field (P:=Tryz.prog) (s:=104) (f:=1) (o:=1) (n:=1) (ag:=false) (by simp) (j:=i*5) (by omega)
  have f2:=rd.field (P:=Tryz.prog) (s:=104) (f:=2) (o:=2) (n:=1) (ag:=false) (by simp) (j:=i*5) (by omega)
  have f3:=rd.field (P:=Tryz.prog) (s:=104) (f:=3) (o:=3) (n:=1) (ag:=false) (by simp) (j:=i*5) (by omega)
  have k0:=rd.cell (P:=Tryz.prog) (e:=3) (by simp) hi' (c:=0) (by decide)
  have k1:=rd.cell (P:=Tryz.prog) (e:=3) (by simp) hi' (c:=1) (by decide)
  have k2:=rd.cell (P:=Tryz.prog) (e:=3) (by simp) hi' (c:=2) (by decide)
  have k3:=rd.cell (P:=Tryz.prog) (e:=3) (by simp) hi' (c:=3) (by decide)
  simp only [Int.toNat_natCast,S4,Nat.add_zero] at q1 q2 f0 k0 k1 k2 k3
  simp only [Zj] at k0 k1 k2 k3
  simp at k0 k1 k2 k3
  have hsl:=Ii (list.take i) a b c
  have htl:(list.take i).length≤i:=by simp;omega
  have hF:H.length≤H'.length:=ch.1
  have hsu:Zb (list.take (i+1)) a b c=Zb (list.take i) a b c++(if Uk a b c list[i] then [list[i].1] else []):=by
   unfold Zb;rw [List.take_succ_eq_append_getElem hi',List.filter_append,List.map_append];congr 1;by_cases h:Uk a b c list[i]<;>simp [h]
  obtain ⟨p,hp⟩:∃p,p=list[i]:=⟨_,rfl⟩
  rw [← hp] at q2 k0 k1 k2 k3 hsu
  simp [-Qy,Wr,t1,t2,t3,t9,t13,t14,t15,q1,q2,f0,f1,f2,f3,k0,k1,k2,k3,Zj,hF,VM.look]
  by_cases g1:p.2.1=a
  rotate_left
  ·have hno:¬Uk a b c p:=fun k=>g1 k.1
   simp [t1,t2,t3,t9,t13,t14,t15,g1]
   refine ih (list.length-(i+1)) _ _ ⟨i+1,out,rfl,by omega,by simp [t1],by simp [t2],by simp [t3],by simp [t9],by simp [t13],by simp [t14],?_,by rw [hsu,if_neg hno,List.append_nil];exact o.app,no,ch.trans (Qp.app _)⟩ (by omega)
   simp;rw [Q0 (by omega) (by omega)]
  simp [-Qy,Wr,t1,t2,t3,t9,t13,t14,t15,VM.look,q1,f0,f1,f2,f3,k0,k1,k2,k3,g1]
  by_cases g2:p.2.2.1=b
  rotate_left
  ·have hno:¬Uk a b c p:=fun k=>g2 k.2.1
   simp [t1,t2,t3,t9,t13,t14,t15,g1,g2]
   refine ih (list.length-(i+1)) _ _ ⟨i+1,out,rfl,by omega,by simp [t1],by simp [t2],by simp [t3],by simp [t9],by simp [t13],by simp [t14],?_,by rw [hsu,if_neg hno,List.append_nil];exact o.app,no,ch.trans (Qp.app _)⟩ (by omega)
   simp;rw [Q0 (by omega) (by omega)]
  simp [-Qy,Wr,t1,t2,t3,t9,t13,t14,t15,VM.look,q1,f0,f1,f2,f3,k0,k1,k2,k3,g1,g2]
  by_cases g3:p.2.2.2.1=c
  rotate_left
  ·have hno:¬Uk a b c p:=fun k=>g3 k.2.2
   simp [t1,t2,t3,t9,t13,t14,t15,g1,g2,g3]
   refine ih (list.length-(i+1)) _ _ ⟨i+1,out,rfl,by omega,by simp [t1],by simp [t2],by simp [t3],by simp [t9],by simp [t13],by simp [t14],?_,by rw [hsu,if_neg hno,List.append_nil];exact o.app,no,ch.trans (Qp.app _)⟩ (by omega)
   simp;rw [Q0 (by omega) (by omega)]
  simp [-Qy,Wr,t1,t2,t3,t9,t13,t14,t15,VM.look,q1,f0,f1,f2,f3,k0,k1,k2,k3,g1,g2,g3]
  obtain ⟨r',H2,hap,o2,c2,n2⟩:=(o.app (L:=[⟨[.int .i64 p.1,.int .i64 a,.int .i64 b,.int .i64 c,.int .i64 p.2.2.2.2],0,104⟩])).push (P:=Tryz.prog) (frz:=H.length) (ty:=24) (a:=p.1) (by simp) rfl (by omega) no
  simp only [Fl.int_f,List.append_assoc,List.cons_append,List.nil_append,List.length_append,List.length_cons,List.length_nil] at hap
  simp [t1,t2,t3,t9,t13,t14,t15,hap]
  refine ih (list.length-(i+1)) _ _ ⟨i+1,r',rfl,by omega,by simp [t1],by simp [t2],by simp [t3],by simp,by simp [t13],by simp [t14],?_,by rw [hsu,if_pos ⟨g1,g2,g3⟩];exact o2,fun j hj=>?_,(ch.trans (Qp.app _)).trans' c2 (fun j hj=>.inr (no j hj))⟩ (by omega)
  ·simp;rw [Q0 (by omega) (by omega)]
  ·rcases n2 j hj with h1|h1
   ·exact no j h1
   ·simp at h1;omega
 ·have:i=list.length:=by omega
  subst this
  rw [List.take_length] at o
  simp [t1,t2,t3,t9,t13,t14,t15]
  exact ⟨o,no,ch⟩
theorem jw (v:Value) (list:List Yy) (a b c:Int) (hI:Rd U7 H v list) (hl:list.length≤1073741824) :
 wp (Qh C frz 109 [v,.int .i64 a,.int .i64 b,.int .i64 c] H) (Se H (Zb list a b c)):=by
 rw [Qb (fn:=Tryz.f109) Tryz.func109 rfl (by kernel_rfl) rfl]
 simp
 refine Qw (fun n t H'=>∃(i:Nat) (out:Value),n=list.length-i∧i≤list.length∧t 0=v∧t 1=.int .i64 a∧t 2=.int .i64 b∧t 3=.int .i64 c∧t 9=out∧t 10=.int .i64 i∧Se H (Zb (list.take i) a b c) out H') ?_ (n:=list.length)
  ⟨0,.slice (some ⟨H.length,0,some 0⟩) 0 0,rfl,by omega,by simp,by simp,by simp,by simp,by simp,by simp,Ow.new0 (D:=Fl.int) (xs:=[]) rfl rfl rfl rfl,by simp,Qp.app _⟩
 rintro n t H' ⟨i,out,rfl,hi,t0,t1,t2,t3,t9,t10,o,no,ch⟩ ih
 have rd:=hI.chg ch (by simp)
 simp [t0,t1,t2,t3,t9,t10,rd.len (P:=Tryz.prog) (ty:=49) (by simp)]
 refine Qm ?_ ?_<;>intro g
 ·have hi':i<list.length:=by omega
  have q1:=rd.idx (P:=Tryz.prog) (ty:=49) (e:=104) (by simp) (i:=(i:Int)) (by omega) (by omega)
  have q2:=rd.load (P:=Tryz.prog) (e:=104) (by simp) hi'
  have f0:=rd.field (P:=Tryz.prog) (s:=104) (f:=0) (o:=0) (n:=1) (ag:=false) (by simp) (j:=i*5) (by omega)
  have f1:=rd.field (P:=Tryz.prog) (s:=104) (f:=1) (o:=1) (n:=1) (ag:=false) (by simp) (j:=i*5) (by omega)
  have f2:=rd.field (P:=Tryz.prog) (s:=104) (f:=2) (o:=2) (n:=1) (ag:=false) (by simp) (j:=i*5) (by omega)
  have f3:=rd.field (P:=Tryz.prog) (s:=104) (f:=3) (o:=3) (n:=1) (ag:=false) (by simp) (j:=i*5) (by omega)
  have k0:=rd.cell (P:=Tryz.prog) (e:=3) (by simp) hi' (c:=0) (by decide)
  have k1:=rd.cell (P:=Tryz.prog) (e:=3) (by simp) hi' (c:=1) (by decide)
  have k2:=rd.cell (P:=Tryz.prog) (e:=3) (by simp) hi' (c:=2) (by decide)
  have k3:=rd.cell (P:=Tryz.prog) (e:=3) (by simp) hi' (c:=3) (by decide)
  simp only [Int.toNat_natCast,S4,Nat.add_zero] at q1 q2 f0 k0 k1 k2 k3
  simp only [Zj] at k0 k1 k2 k3
  simp at k0 k1 k2 k3
  have hsl:=Ii (list.take i) a b c
  have htl:(list.take i).length≤i:=by simp;omega
  have hF:H.length≤H'.length:=ch.1
  have hsu:Zb (list.take (i+1)) a b c=Zb (list.take i) a b c++(if Uk a b c list[i] then [list[i].1] else []):=by
   unfold Zb;rw [List.take_succ_eq_append_getElem hi',List.filter_append,List.map_append];congr 1;by_cases h:Uk a b c list[i]<;>simp [h]
  obtain ⟨p,hp⟩:∃p,p=list[i]:=⟨_,rfl⟩
  rw [← hp] at q2 k0 k1 k2 k3 hsu
  simp [-Qy,Wr,t0,t1,t2,t3,t9,t10,q1,q2,f0,f1,f2,f3,k0,k1,k2,k3,Zj,hF,VM.look]
  by_cases g1:p.2.1=a
  rotate_left
  ·have hno:¬Uk a b c p:=fun k=>g1 k.1
   simp [t0,t1,t2,t3,t9,t10,g1]
   refine ih (list.length-(i+1)) _ _ ⟨i+1,out,rfl,by omega,by simp [t0],by simp [t1],by simp [t2],by simp [t3],by simp [t9],?_,by rw [hsu,if_neg hno,List.append_nil];exact o,no,ch⟩ (by omega)
   simp;rw [Q0 (by omega) (by omega)]
  simp [-Qy,Wr,t0,t1,t2,t3,t9,t10,VM.look,q1,f0,f1,f2,f3,k0,k1,k2,k3,g1]
  by_cases g2:p.2.2.1=b
  rotate_left
  ·have hno:¬Uk a b c p:=fun k=>g2 k.2.1
   simp [t0,t1,t2,t3,t9,t10,g1,g2]
   refine ih (list.length-(i+1)) _ _ ⟨i+1,out,rfl,by omega,by simp [t0],by simp [t1],by simp [t2],by simp [t3],by simp [t9],?_,by rw [hsu,if_neg hno,List.append_nil];exact o,no,ch⟩ (by omega)
   simp;rw [Q0 (by omega) (by omega)]
  simp [-Qy,Wr,t0,t1,t2,t3,t9,t10,VM.look,q1,f0,f1,f2,f3,k0,k1,k2,k3,g1,g2]
  by_cases g3:p.2.2.2.1=c
  rotate_left
  ·have hno:¬Uk a b c p:=fun k=>g3 k.2.2
   simp [t0,t1,t2,t3,t9,t10,g1,g2,g3]
   refine ih (list.length-(i+1)) _ _ ⟨i+1,out,rfl,by omega,by simp [t0],by simp [t1],by simp [t2],by simp [t3],by simp [t9],?_,by rw [hsu,if_neg hno,List.append_nil];exact o,no,ch⟩ (by omega)
   simp;rw [Q0 (by omega) (by omega)]
  simp [-Qy,Wr,t0,t1,t2,t3,t9,t10,VM.look,q1,f0,f1,f2,f3,k0,k1,k2,k3,g1,g2,g3]
  obtain ⟨r',H2,hap,o2,c2,n2⟩:=o.push (P:=Tryz.prog) (frz:=H.length) (ty:=24) (a:=p.1) (by simp) rfl (by omega) no
  simp only [Fl.int_f] at hap
  simp [t0,t1,t2,t3,t9,t10,hap]
  refine ih (list.length-(i+1)) _ _ ⟨i+1,r',rfl,by omega,by simp [t0],by simp [t1],by simp [t2],by simp [t3],by simp,?_,by rw [hsu,if_pos ⟨g1,g2,g3⟩];exact o2,fun j hj=>?_,(ch).trans' c2 (fun j hj=>.inr (no j hj))⟩ (by omega)
  ·simp;rw [Q0 (by omega) (by omega)]
  ·rcases n2 j hj with h1|h1
   ·exact no j h1
   ·omega
 ·have:i=list.length:=by omega
  subst this
  rw [List.take_length] at o
  simp [t0,t1,t2,t3,t9,t10]
  exact ⟨o,no,ch⟩
end Go.Proofs.YtlhaeingdonaeaaGreat.V
