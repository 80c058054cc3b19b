/- Texts of a proof, joined. -/
import Derived.Test.YtaldglgobgjeaaaGreatKM0
import Derived.Test.YtaldglgobgjeaaaGreatKM1
import Derived.Test.YtaldglgobgjeaaaGreatKFnBreaks0
import Derived.Test.YtaldglgobgjeaaaGreatKFnBreaks1
import Derived.Test.YtaldglgobgjeaaaGreatKFnBreaks2
set_option linter.all false
namespace Go.Proofs.YtaldglgobgjeaaaGreat.V
open Go Go.VM Go.Proofs
set_option maxRecDepth 10000
variable {frz:Nat} {H:Heap} {v:Value} {xs:List Int} {e:TypeId} {cf:Value} (hK:CmpK cf)
include hK
theorem A3 (v:Value) (xs:List Int) (e:TypeId) (a b:Nat) (h:OwE e H v xs) (hab:a≤b) (hb:b≤xs.length) (hl:xs.length≤1073741824) (hf:∀i∈ids v,frz≤i) :
 wp (vcall C frz 205 [v,.int .i64 a,.int .i64 b,cf] H) (fun _ H'=>SwdE H v xs e a b (fun ys=>Srt ys a b) H'):=by
 rw [Qa (fn:=Tryz.f205) Tryz.func205 rfl (by kernel_rfl) rfl]
 simp
 refine Qg (fun n t H'=>∃i:Nat,n=b-i∧(t 0=v∧t 3=cf)∧t 1=.int .i64 a∧t 2=.int .i64 b∧t 8=.int .i64 i∧a+1≤i∧i≤max (a+1) b∧SwdE H v xs e a b (fun ys=>Srt ys a i) H') ?_ (n:=b-(a+1))
  ⟨a+1,by simp,by simp,by simp,by simp,by simp;exact w64 (by omega) (by omega),by omega,by omega,xs,.refl,Srt.short (by omega),h,Chg.refl _,rfl⟩
 rintro n t H' ⟨i,rfl,h0,h1,h2,h6,ha,hi,ys,sw,sr,o,c,l⟩ ih
 simp [h0,h1,h2,h6]
 refine Qc ?_ ?_<;>intro hib
 ·simp [h0,h1,h2,h6]
  refine Qg (fun n t H'=>∃j:Nat,n=j∧(t 0=v∧t 3=cf)∧t 1=.int .i64 a∧t 2=.int .i64 b∧t 8=.int .i64 i∧t 9=.int .i64 j∧a≤j∧j≤i∧SwdE H v xs e a b (fun ys=>Ins ys a i j) H') ?_ (n:=i)
   ⟨i,rfl,by simp [h0],by simp [h1],by simp [h2],by simp [h6],by simp,by omega,by omega,ys,sw,Ins.start sr,o,c,l⟩
  rintro j t H' ⟨_,rfl,h0,h1,h2,h6,h7,haj,hji,ys,sw,ins,o,c,l⟩ ih2
  have len:=sw.len
  simp [h0,h1,h2,h6,h7]
  rw [Qf (h:=by kernel_rfl)]
  simp [h0,h1,h2,h6,h7]
  refine Qv ?_ ?_<;>intro hja
  ·have e1:IntKind.i64.wrap ((j:Int)-1)=((j-1:Nat):Int):=by rw [w64 (by omega) (by omega)];omega
   have p1:j<ys.length:=by omega
   have p2:j-1<ys.length:=by omega
   simp [h0,h1,h2,h6,h7,hja,e1,Qq o p1,Qq o p2,Qr o p1,Qr o p2,dlt hK o]
   have out:∀t':Env,(t' 0=v∧t' 3=cf)→t' 1=.int .i64 a→t' 2=.int .i64 b→t' 8=.int .i64 (IntKind.i64.wrap ((i:Int)+1))→(j=a∨(a<j∧G ys (j-1)≤G ys j))→
    ∃i':Nat,b-(i+1)=b-i'∧(t' 0=v∧t' 3=cf)∧t' 1=.int .i64 a∧t' 2=.int .i64 b∧t' 8=.int .i64 i'∧a+1≤i'∧i'≤max (a+1) b∧SwdE H v xs e a b (fun ys=>Srt ys a i') H':=by
    intro t' g0 g1 g2 g6 hj
    exact ⟨i+1,rfl,g0,g1,g2,by rw [g6,w64 (by omega) (by omega)];simp,by omega,by omega,ys,sw,ins.done hj,o,c,l⟩
   refine Qc ?_ ?_<;>intro hlt
   ·simp [h0,h1,h2,h6,h7]
    rw [Qf (h:=by kernel_rfl)]
    obtain ⟨H1,H2,s1,ix,s2,o2,c2,l2⟩:=Ww o p1 p2 hf
    simp [h0,h1,h2,h6,h7,e1,Qq o p1,Qq o p2,Qr o p1,Qr o p2,s1,ix _ p1,ix _ p2,s2]
    refine ih2 (j-1) _ _ ⟨j-1,rfl,by simp [h0],by simp [h1],by simp [h2],by simp [h6],by simp [e1],by omega,by omega,_,sw.step j (j-1) (by omega) (by omega),?_,o2,c.trans c2,by omega⟩ (by omega)
    exact ins.step (by omega) hja hji hlt
   ·simp [h0,h1,h2,h6,h7]
    refine ih (b-(i+1)) _ _ (out _ ?_ ?_ ?_ ?_ (.inr ⟨hja,by omega⟩)) (by omega)<;>simp [h0,h1,h2]
  ·simp [h0,h1,h2,h6,h7,hja]
   refine ih (b-(i+1)) _ _ ⟨i+1,rfl,by simp [h0],by simp [h1],by simp [h2],?_,by omega,by omega,ys,sw,ins.done (.inl (by omega)),o,c,l⟩ (by omega)
   simp;exact w64 (by omega) (by omega)
 ·have:i=max (a+1) b:=by omega
  simp
  exact ⟨ys,sw,fun p q h1 h2 h3=>sr p q h1 h2 (by omega),o,c,l⟩
theorem O9 (v:Value) (xs:List Int) (e:TypeId) (lo n f:Nat) (h:OwE e H v xs) (hp:Hp xs f (lo+1) n) (hlo:lo≤n) (hn:f+n≤xs.length) (hl:xs.length≤1073741824) (hf:∀i∈ids v,frz≤i) :
 wp (vcall C frz 218 [v,.int .i64 lo,.int .i64 n,.int .i64 f,cf] H) (fun _ H'=>SwdE H v xs e (f+lo) (f+n) (fun ys=>Hp ys f lo n) H'):=by
 rw [Qa (fn:=Tryz.f218) Tryz.func218 rfl (by kernel_rfl) rfl]
 simp
 refine Qg (fun m t H'=>∃r:Nat,m=n-r∧(t 0=v∧t 4=cf)∧t 2=.int .i64 n∧t 3=.int .i64 f∧t 10=.int .i64 r∧lo≤r∧r≤n∧SwdE H v xs e (f+lo) (f+n) (fun ys=>HpB ys f lo n r) H') ?_ (n:=n-lo)
  ⟨lo,rfl,by simp,by simp,by simp,by simp,by omega,by omega,xs,.refl,HpB.start hp,h,Chg.refl _,rfl⟩
 rintro m t H' ⟨r,rfl,h0,h2,h3,h8,hlr,hrn,ys,sw,hb,o,c,l⟩ ih
 have len:=sw.len
 obtain ⟨c1,hc1⟩:∃c1,c1=2*r+1:=⟨_,rfl⟩
 obtain ⟨c2,hc2⟩:∃c2,c2=2*r+2:=⟨_,rfl⟩
 obtain ⟨d0,hd0⟩:∃d0,d0=f+r:=⟨_,rfl⟩
 obtain ⟨d1,hd1⟩:∃d1,d1=f+c1:=⟨_,rfl⟩
 obtain ⟨d2,hd2⟩:∃d2,d2=f+c2:=⟨_,rfl⟩
 have e1:IntKind.i64.wrap (IntKind.i64.wrap (2*(r:Int))+1)=(c1:Int):=by rw [w64 (x:=2*(r:Int)) (by omega) (by omega),w64 (by omega) (by omega)];omega
 simp [h0,h2,h3,h8,e1]
 refine Qc ?_ ?_<;>intro hc
 ·simp
  exact ⟨ys,sw,hb.done (fun q h1 h2=>by omega),o,c,l⟩
 ·have e2:IntKind.i64.wrap ((c1:Int)+1)=(c2:Int):=by rw [w64 (by omega) (by omega)];omega
  have e3:IntKind.i64.wrap ((f:Int)+(c1:Int))=(d1:Int):=by rw [w64 (by omega) (by omega)];omega
  have e4:IntKind.i64.wrap ((d1:Int)+1)=(d2:Int):=by rw [w64 (by omega) (by omega)];omega
  have e5:IntKind.i64.wrap ((f:Int)+(r:Int))=(d0:Int):=by rw [w64 (by omega) (by omega)];omega
  have p0:d0<ys.length:=by omega
  have p1:d1<ys.length:=by omega
  refine (fun (rest:∀(q:Nat) (t':Env),(q=2*r+1∨q=2*r+2)→q<n→(∀p,(p=2*r+1∨p=2*r+2)→p<n→G ys (f+p)≤G ys (f+q))→
   (t' 0=v∧t' 4=cf)→t' 2=.int .i64 n→t' 3=.int .i64 f→t' 10=.int .i64 r→t' 11=.int .i64 q→wp (go ?F ?k .normal t' H') ?Q)=>?main) ?rest
  case main=>
   simp [h0,h2,h3,h8,hc,e2]
   rw [Qf (h:=by kernel_rfl)]
   simp [h0,h2,h3,h8,e2]
   refine Qv ?_ ?_<;>intro g1
   ·have p2:d2<ys.length:=by omega
    simp [h0,h2,h3,h8,e2,g1,e3,e4,Qq o p1,Qq o p2,Qr o p1,Qr o p2,dlt hK o]
    refine Qc ?_ ?_<;>intro g2<;>simp [e2]
    ·refine rest c2 _ (.inr hc2) g1 (fun p g3 g4=>?_) ?_ ?_ ?_ ?_ ?_<;>try simp [h0,h2,h3,h8]
     rw [← hd2]
     rcases g3 with g3|g3
     ·rw [g3,← hc1,← hd1];omega
     ·rw [g3,← hc2,← hd2];omega
    ·refine rest c1 _ (.inl hc1) (by omega) (fun p g3 g4=>?_) ?_ ?_ ?_ ?_ ?_<;>try simp [h0,h2,h3,h8]
     rw [← hd1]
     rcases g3 with g3|g3
     ·rw [g3,← hc1,← hd1];omega
     ·rw [g3,← hc2,← hd2];omega
   ·simp [h0,h2,h3,h8,e2,g1]
    refine rest c1 _ (.inl hc1) (by omega) (fun p g3 g4=>?_) ?_ ?_ ?_ ?_ ?_<;>try simp [h0,h2,h3,h8]
    have:p=c1:=by omega
    rw [this];omega
  case rest=>
   intro q t hq hqn hbig h0 h2 h3 h8 h9
   obtain ⟨dq,hdq⟩:∃dq,dq=f+q:=⟨_,rfl⟩
   have e6:IntKind.i64.wrap ((f:Int)+(q:Int))=(dq:Int):=by rw [w64 (by omega) (by omega)];omega
   have pq:dq<ys.length:=by omega
   rw [← hdq] at hbig
   rw [Qf (h:=by kernel_rfl)]
   simp [h0,h2,h3,h8,h9,e5,e6,Qq o p0,Qq o pq,Qr o p0,Qr o pq,dlt hK o]
   refine Qc ?_ ?_<;>intro g1
   ·simp [h0,h2,h3,h8,h9]
    rw [Qf (h:=by kernel_rfl)]
    obtain ⟨H1,H2,s1,ix,s2,o2,c3,l2⟩:=Ww o p0 pq hf
    simp [h0,h2,h3,h8,h9,e5,e6,Qq o p0,Qq o pq,Qr o p0,Qr o pq,s1,ix _ p0,ix _ pq,s2]
    refine ih (n-q) _ _ ⟨q,rfl,by simp [h0],by simp [h2],by simp [h3],by simp,by omega,by omega,_,sw.step d0 dq (by omega) (by omega),?_,o2,c.trans c3,by omega⟩ (by omega)
    subst hd0 hdq
    exact hb.step (by omega) hlr hq hqn g1 hbig
   ·simp
    subst hd0 hdq
    exact ⟨ys,sw,hb.done (fun p g3 g4=>by have:=hbig p g3 g4;omega),o,c,l⟩
theorem Fw (v:Value) (xs:List Int) (e:TypeId) (a b:Nat) (h:OwE e H v xs) (hab:a<b) (hb:b≤xs.length) (hl:xs.length≤1073741824) (hf:∀i∈ids v,frz≤i) :
 wp (vcall C frz 206 [v,.int .i64 a,.int .i64 b,cf] H) (fun _ H'=>SwdE H v xs e a b (fun ys=>Srt ys a b) H'):=by
 rw [Qa (fn:=Tryz.f206) Tryz.func206 rfl (by kernel_rfl) rfl]
 obtain ⟨n,hn⟩:∃n,n=b-a:=⟨_,rfl⟩
 have e1:IntKind.i64.wrap ((b:Int)-a)=(n:Int):=by rw [w64 (by omega) (by omega)];omega
 have e2:IntKind.i64.wrap ((n:Int)-1)=((n-1:Nat):Int):=by rw [w64 (by omega) (by omega)];omega
 have e3:IntKind.i64.wrap (((n-1:Nat):Int)/2)=(((n-1)/2+1:Nat):Int)-1:=by rw [w64 (by omega) (by omega)];omega
 have e4:((n:Int)-1)=((n-1:Nat):Int):=by omega
 have hbn:a+n=b:=by omega
 simp [e1,e2,e3]
 refine Qg (fun m t H'=>∃k:Nat,m=k∧(t 0=v∧t 3=cf)∧t 8=.int .i64 a∧t 9=.int .i64 0∧t 10=.int .i64 n∧t 11=.int .i64 ((k:Int)-1)∧k≤n∧SwdE H v xs e a b (fun ys=>Hp ys a k n) H') ?_ (n:=(n-1)/2+1)
  ⟨(n-1)/2+1,rfl,by simp,by simp,by simp,by simp,by simp,by omega,xs,.refl,fun r c h1 h2 h3=>by omega,h,Chg.refl _,rfl⟩
 rintro k t H' ⟨_,rfl,h0,h6,h7,h8,h9,hkn,ys,sw,hp,o,c,l⟩ ih
 have len:=sw.len
 simp [h0,h6,h7,h8,h9]
 refine Qc ?_ ?_<;>intro hk
 ·obtain ⟨k,rfl⟩:∃k',k=k'+1:=⟨k-1,by omega⟩
  have e5:((k+1:Nat):Int)-1=(k:Int):=by omega
  rw [e5] at h9
  simp [h0,h6,h7,h8,h9]
  refine Qd (O9 hK v ys e k n a o hp (by omega) (by omega) (by omega) hf) ?_
  rintro _ H1 ⟨zs,sw1,hp1,o1,c1,l1⟩
  simp [h0,h6,h7,h8,h9]
  refine ih k _ _ ⟨k,rfl,by simp [h0],by simp [h6],by simp [h7],by simp [h8],?_,by omega,zs,sw.trans (sw1.mono (by omega) (by omega)),hp1,o1,c.trans c1,by omega⟩ (by omega)
  simp;rw [w64 (by omega) (by omega)]
 ·obtain rfl:k=0:=by omega
  simp [h0,h6,h7,h8,h9,e2]
  refine Qg (fun m t H'=>∃k:Nat,m=k∧(t 0=v∧t 3=cf)∧t 8=.int .i64 a∧t 9=.int .i64 0∧t 12=.int .i64 ((k:Int)-1)∧k≤n∧
   SwdE H v xs e a b (fun ys=>Hp ys a 0 k∧Srt ys (a+k) b∧∀p q,a≤p→p<a+k→a+k≤q→q<b→G ys p≤G ys q) H') ?_ (n:=n)
   ⟨n,rfl,by simp [h0],by simp [h6],by simp [h7],by simp [e4],by omega,ys,sw,⟨hp,Srt.short (by omega),fun p q h1 h2 h3 h4=>by omega⟩,o,c,l⟩
  clear ih h0 h6 h7 h8 h9 o c l hp sw len
  rintro k t H' ⟨_,rfl,h0,h6,h7,h10,hkn,ys,sw,⟨hp,hs,hle⟩,o,c,l⟩ ih
  have len:=sw.len
  simp [h0,h6,h7,h10]
  refine Qc ?_ ?_<;>intro hk
  ·obtain ⟨k,rfl⟩:∃k',k=k'+1:=⟨k-1,by omega⟩
   have e5:((k+1:Nat):Int)-1=(k:Int):=by omega
   rw [e5] at h10
   obtain ⟨d,hd⟩:∃d,d=a+k:=⟨_,rfl⟩
   have e6:IntKind.i64.wrap ((a:Int)+(k:Int))=(d:Int):=by rw [w64 (by omega) (by omega)];omega
   have p0:a<ys.length:=by omega
   have p1:d<ys.length:=by omega
   obtain ⟨H1,H2,s1,ix,s2,o2,c2,l2⟩:=Ww o p0 p1 hf
   simp [h0,h6,h7,h10]
   rw [Qf (h:=by kernel_rfl)]
   simp [h0,h6,h7,h10,e6,Qq o p0,Qq o p1,Qr o p0,Qr o p1,s1,ix _ p0,ix _ p1,s2]
   have gs:=fun q=>Xr (xs:=ys) p0 p1 q
   refine Qd (O9 hK v _ e 0 k a o2 (fun r q h1 h2 h3=>?_) (by omega) (by simp;omega) (by simp;omega) hf) ?_
   ·rw [gs,gs,if_neg (by omega),if_neg (by omega),if_neg (by omega),if_neg (by omega)]
    exact hp r q (by omega) h2 (by omega)
   ·rintro _ H3 ⟨zs,sw1,hp1,o3,c3,l3⟩
    simp only [Nat.add_zero] at sw1
    have hlz:a+k≤(swp ys a d).length:=by simp;omega
    have top:=hp.top
    have hz:∀q,q<a∨a+k≤q→G zs q=G (swp ys a d) q:=fun q hq=>sw1.out hlz hq
    have zd:G zs d=G ys a:=by rw [hz d (by omega),gs,if_pos rfl]
    have zo:∀q,d<q→q<b→G zs q=G ys q:=fun q h1 h2=>by rw [hz q (by omega),gs,if_neg (by omega),if_neg (by omega)]
    have zlo:∀p,a≤p→p<a+k→G zs p≤G ys a∧∀q,d<q→q<b→G zs p≤G ys q:=sw1.all (p:=fun x=>x≤G ys a∧∀q,d<q→q<b→x≤G ys q) hlz (fun p h1 h2=>by
     rw [gs,if_neg (by omega)]
     split
     ·have:=top k (by omega);rw [← hd] at this
      exact ⟨this,fun q g1 g2=>hle d q (by omega) (by omega) (by omega) g2⟩
     ·have:=top (p-a) (by omega);rw [show a+(p-a)=p by omega] at this
      exact ⟨this,fun q g1 g2=>hle p q (by omega) (by omega) (by omega) g2⟩)
    simp [h0,h6,h7,h10]
    refine ih k _ _ ⟨k,rfl,by simp [h0],by simp [h6],by simp [h7],?_,by omega,zs,(sw.step a d (by omega) (by omega)).trans (sw1.mono (by omega) (by omega)),⟨hp1,fun p q h1 h2 h3=>?_,fun p q h1 h2 h3 h4=>?_⟩,o3,c.trans (c2.trans c3),by omega⟩ (by omega)
    ·simp;rw [w64 (by omega) (by omega)]
    ·rw [zo q (by omega) h3]
     by_cases hpd:p=d
     ·rw [hpd,zd];exact hle a q (by omega) (by omega) (by omega) h3
     ·rw [zo p (by omega) (by omega)];exact hs p q (by omega) h2 h3
    ·by_cases hq:q=d
     ·rw [hq,zd];exact (zlo p h1 h2).1
     ·rw [zo q (by omega) h4];exact (zlo p h1 h2).2 q (by omega) h4
  ·obtain rfl:k=0:=by omega
   simp
   exact ⟨ys,sw,hs,o,c,l⟩
include hK
theorem D3 (v:Value) (xs:List Int) (e:TypeId) (a b:Nat) (h:OwE e H v xs) (hab:a<b) (hb:b≤xs.length) (hl:xs.length≤1073741824) (hf:∀i∈ids v,frz≤i) :
 wp (vcall C frz 209 [v,.int .i64 a,.int .i64 b,cf] H) (fun _ H'=>SwdE H v xs e a b (fun ys=>True) H'):=by
 rw [Qa (fn:=Tryz.f209) Tryz.func209 rfl (by kernel_rfl) rfl]
 have e1:IntKind.i64.wrap ((b:Int)-1)=((b-1:Nat):Int):=by rw [w64 (by omega) (by omega)];omega
 simp [e1]
 refine Qg (fun m t H'=>∃i j:Nat,m=j-i∧(t 0=v∧t 3=cf)∧t 8=.int .i64 i∧t 9=.int .i64 j∧a≤i∧j<b∧i≤j+1∧SwdE H v xs e a b (fun ys=>True) H') ?_ (n:=b-1-a)
  ⟨a,b-1,rfl,by simp,by simp,by simp,by omega,by omega,by omega,xs,.refl,trivial,h,Chg.refl _,rfl⟩
 rintro m t H' ⟨i,j,rfl,h0,h6,h7,hi,hj,hij,ys,sw,_,o,c,l⟩ ih
 have len:=sw.len
 simp [h0,h6,h7]
 refine Qc ?_ ?_<;>intro hk
 ·have p0:i<ys.length:=by omega
  have p1:j<ys.length:=by omega
  obtain ⟨H1,H2,s1,ix,s2,o2,c2,l2⟩:=Ww o p0 p1 hf
  simp [h0,h6,h7]
  rw [Qf (h:=by kernel_rfl)]
  simp [h0,h6,h7,Qq o p0,Qq o p1,Qr o p0,Qr o p1,s1,ix _ p0,ix _ p1,s2]
  refine ih (j-1-(i+1)) _ _ ⟨i+1,j-1,rfl,by simp [h0],?_,?_,by omega,by omega,by omega,_,sw.step i j (by omega) (by omega),trivial,o2,c.trans c2,by omega⟩ (by omega)
  ·simp;rw [w64 (by omega) (by omega)]
  ·simp;rw [w64 (by omega) (by omega)];omega
 ·simp
  exact ⟨ys,sw,trivial,o,c,l⟩
theorem O3 (v:Value) (xs:List Int) (e:TypeId) (a b r:Nat) (h:OwE e H v xs) (ha:a<xs.length) (hb:b<xs.length) (hr:BoxE H r) (hf:frz≤r) :
 wp (vcall C frz 221 [v,.int .i64 a,.int .i64 b,.pointer (some ⟨r,0,some 0⟩),cf] H)
  (fun u H'=>(∃a' b':Nat,u=.tuple #[.int .i64 a',.int .i64 b']∧((a'=a∧b'=b)∨(a'=b∧b'=a)))∧Chg H H' [r]∧BoxE H' r):=by
 obtain ⟨s,hs⟩:=hr
 rw [Qa (fn:=Tryz.f221) Tryz.func221 rfl (by kernel_rfl) rfl]
 simp
 rw [Qf (h:=by kernel_rfl)]
 simp [Qq h ha,Qq h hb,Qr h ha,Qr h hb,dlt hK h]
 refine Qc ?_ ?_<;>intro g1
 ·simp [vnil,VM.look,hs,hf]
  exact ⟨⟨b,a,⟨rfl,rfl⟩,.inr ⟨rfl,rfl⟩⟩,Qh _ _,_,Qo hs⟩
 ·simp
  exact ⟨⟨a,b,⟨rfl,rfl⟩,.inl ⟨rfl,rfl⟩⟩,Chg.refl _,_,hs⟩
theorem I8 (v:Value) (xs:List Int) (e:TypeId) (a b c r:Nat) (h:OwE e H v xs) (ha:a<xs.length) (hb:b<xs.length) (hc:c<xs.length) (hr:BoxE H r) (hf:frz≤r) (hn:r∉ids v) :
 wp (vcall C frz 220 [v,.int .i64 a,.int .i64 b,.int .i64 c,.pointer (some ⟨r,0,some 0⟩),cf] H)
  (fun u H'=>(∃m:Nat,u=.int .i64 m∧(m=a∨m=b∨m=c))∧Chg H H' [r]∧BoxE H' r):=by
 rw [Qa (fn:=Tryz.f220) Tryz.func220 rfl (by kernel_rfl) rfl]
 simp
 refine Qd (O3 hK v xs e a b r h ha hb hr hf) ?_
 rintro _ H1 ⟨⟨a1,b1,rfl,h1⟩,c1,r1⟩
 have o1:=h.chg c1 (fun i hi hh=>by simp at hh;subst hh;exact hn hi)
 simp
 refine Qd (O3 hK v xs e b1 c r o1 (by omega) hc r1 hf) ?_
 rintro _ H2 ⟨⟨b2,c2,rfl,h2⟩,c2',r2⟩
 have o2:=o1.chg c2' (fun i hi hh=>by simp at hh;subst hh;exact hn hi)
 simp
 refine Qd (O3 hK v xs e a1 b2 r o2 (by omega) (by omega) r2 hf) ?_
 rintro _ H3 ⟨⟨a3,b3,rfl,h3⟩,c3,r3⟩
 simp
 exact ⟨⟨b3,rfl,by omega⟩,c1.trans (c2'.trans c3),r3⟩
theorem U0 (v:Value) (xs:List Int) (e:TypeId) (a r:Nat) (h:OwE e H v xs) (h0:0<a) (ha:a+1<xs.length) (hl:xs.length≤1073741824) (hr:BoxE H r) (hf:frz≤r) (hn:r∉ids v) :
 wp (vcall C frz 219 [v,.int .i64 a,.pointer (some ⟨r,0,some 0⟩),cf] H)
  (fun u H'=>(∃m:Nat,u=.int .i64 m∧(m+1=a∨m=a∨m=a+1))∧Chg H H' [r]∧BoxE H' r):=by
 rw [Qa (fn:=Tryz.f219) Tryz.func219 rfl (by kernel_rfl) rfl]
 have e1:IntKind.i64.wrap ((a:Int)-1)=((a-1:Nat):Int):=by rw [w64 (by omega) (by omega)];omega
 have e2:IntKind.i64.wrap ((a:Int)+1)=((a+1:Nat):Int):=by rw [w64 (by omega) (by omega)];omega
 simp [e1]
 rw [e2]
 refine Qd (I8 hK v xs e (a-1) a (a+1) r h (by omega) (by omega) ha hr hf hn) ?_
 rintro _ H1 ⟨⟨m,rfl,hm⟩,c1,r1⟩
 simp
 exact ⟨⟨m,rfl,by omega⟩,c1,r1⟩
theorem N2 (v:Value) (xs:List Int) (e:TypeId) (a b:Nat) (h:OwE e H v xs) (hab:a+8≤b) (hb:b≤xs.length) (hl:xs.length≤1073741824) (hf:frz≤H.length) :
 wp (vcall C frz 208 [v,.int .i64 a,.int .i64 b,cf] H)
  (fun u H'=>(∃(m:Nat) (k:Int),u=.tuple #[.int .i64 m,.int .i64 k]∧a≤m∧m<b)∧Chg H H' []):=by
 rw [Qa (fn:=Tryz.f208) Tryz.func208 rfl (by kernel_rfl) rfl]
 obtain ⟨n,hn⟩:∃n,n=b-a:=⟨_,rfl⟩
 have e1:∀[Inhabited Unit],IntKind.i64.wrap ((b:Int)-a)=(n:Int):=by intro _;rw [w64 (by omega) (by omega)];omega
 obtain ⟨q,hq⟩:∃q,q=n/4:=⟨_,rfl⟩
 have e2:∀[Inhabited Unit],IntKind.i64.wrap ((n:Int)/4)=(q:Int):=by intro _;rw [w64 (by omega) (by omega)];omega
 obtain ⟨q2,hq2⟩:∃q2,q2=q*2:=⟨_,rfl⟩
 obtain ⟨q3,hq3⟩:∃q3,q3=q*3:=⟨_,rfl⟩
 obtain ⟨i0,hi0⟩:∃i0,i0=a+q:=⟨_,rfl⟩
 obtain ⟨i1,hi1⟩:∃i1,i1=a+q2:=⟨_,rfl⟩
 obtain ⟨i2,hi2⟩:∃i2,i2=a+q3:=⟨_,rfl⟩
 have e3:∀[Inhabited Unit],IntKind.i64.wrap (q:Int)=(q:Int):=by intro _;rw [w64 (by omega) (by omega)]
 have e4:∀[Inhabited Unit],IntKind.i64.wrap ((q:Int)*2)=(q2:Int):=by intro _;rw [w64 (by omega) (by omega)];omega
 have e5:∀[Inhabited Unit],IntKind.i64.wrap ((q:Int)*3)=(q3:Int):=by intro _;rw [w64 (by omega) (by omega)];omega
 have e6:∀[Inhabited Unit],IntKind.i64.wrap ((a:Int)+q)=(i0:Int):=by intro _;rw [w64 (by omega) (by omega)];omega
 have e7:∀[Inhabited Unit],IntKind.i64.wrap ((a:Int)+q2)=(i1:Int):=by intro _;rw [w64 (by omega) (by omega)];omega
 have e8:∀[Inhabited Unit],IntKind.i64.wrap ((a:Int)+q3)=(i2:Int):=by intro _;rw [w64 (by omega) (by omega)];omega
 have g8:(8:Int)≤n:=by omega
 have lt:=h.lt
 have nin:H.length∉ids v:=fun hh=>by have:=lt _ hh;omega
 simp [e1,e2,e3,e4,e5,e6,e7,e8,g8]
 have b0:BoxE (H++[⟨[.int .i64 0],0,3⟩]) H.length:=⟨0,by simp⟩
 have o0:OwE e (H++[⟨[.int .i64 0],0,3⟩]) v xs:=h.app
 refine Zi (F:=?F) (k:=?k) (d:=?d) (Q:=?Q) (fun r t=>∃(i0 i1 i2:Nat) (H1:Heap),r=vcall C frz 220 [v,.int .i64 i0,.int .i64 i1,.int .i64 i2,.pointer (some ⟨H.length,0,some 0⟩),cf] H1∧
  (a≤i0∧i0<b)∧(a≤i1∧i1<b)∧(a≤i2∧i2<b)∧t 11=.pointer (some ⟨H.length,0,some 0⟩)∧
  Chg (H++[⟨[.int .i64 0],0,3⟩]) H1 [H.length]∧BoxE H1 H.length) ?main ?rest
 case main=>
  intro rest
  refine Qc ?_ ?_<;>intro g1
  ·simp [e6,e7,e8]
   refine Qd (U0 hK v xs e i0 H.length o0 (by omega) (by omega) hl b0 hf nin) ?_
   rintro _ H1 ⟨⟨j0,rfl,hj0⟩,c1,r1⟩
   have o1:=o0.chg c1 (fun i hi hh=>by simp at hh;subst hh;exact nin hi)
   simp [e6,e7,e8]
   refine Qd (U0 hK v xs e i1 H.length o1 (by omega) (by omega) hl r1 hf nin) ?_
   rintro _ H2 ⟨⟨j1,rfl,hj1⟩,c2,r2⟩
   have o2:=o1.chg c2 (fun i hi hh=>by simp at hh;subst hh;exact nin hi)
   simp [e6,e7,e8]
   refine Qd (U0 hK v xs e i2 H.length o2 (by omega) (by omega) hl r2 hf nin) ?_
   rintro _ H3 ⟨⟨j2,rfl,hj2⟩,c3,r3⟩
   simp [e6,e7,e8]
   refine rest _ _ ?_
   exact ⟨j0,j1,j2,H3,rfl,by omega,by omega,by omega,by simp,c1.trans (c2.trans c3),r3⟩
  ·simp [e6,e7,e8]
   refine rest _ _ ?_
   exact ⟨i0,i1,i2,_,rfl,by omega,by omega,by omega,by simp,Chg.refl _,b0⟩
 case rest=>
  rintro _ t ⟨i0,i1,i2,H1,rfl,h0,h1,h2,t9,c1,r1⟩
  have o1:=o0.chg c1 (fun i hi hh=>by simp at hh;subst hh;exact nin hi)
  refine Qd (I8 hK v xs e i0 i1 i2 H.length o1 (by omega) (by omega) (by omega) r1 hf nin) ?_
  rintro _ H2 ⟨⟨m,rfl,hm⟩,c2,s,hs⟩
  have cc:Chg H H2 []:=(Chg.app (L:=[⟨[.int .i64 0],0,3⟩]) []).trans' (c1.trans c2) (fun i hi=>by simp at hi;subst hi;right;simp)
  simp [t9,VM.look,hs]
  refine Qc ?_ ?_<;>intro g2<;>simp
  ·exact ⟨⟨m,rfl,by omega⟩,cc⟩
  ·refine Qc ?_ ?_<;>intro g3<;>simp
   ·exact ⟨⟨m,rfl,by omega⟩,cc⟩
   ·exact ⟨⟨m,rfl,by omega⟩,cc⟩
include hK
theorem E6 (v:Value) (xs:List Int) (e:TypeId) (a b:Nat) (h:OwE e H v xs) (hab:a≤b) (hb:b≤xs.length) (hl:xs.length≤1073741824) (hf:∀i∈ids v,frz≤i) (hF:frz≤H.length) :
 wp (vcall C frz 207 [v,.int .i64 a,.int .i64 b,cf] H) (fun _ H'=>∃ys,Sw a b xs ys∧OwE e H' v ys∧Chg H H' (ids v)):=by
 rw [Qa (fn:=Tryz.f207) Tryz.func207 rfl (by kernel_rfl) rfl]
 obtain ⟨n,hn⟩:∃n,n=b-a:=⟨_,rfl⟩
 have e1:∀[Inhabited Unit],IntKind.i64.wrap ((b:Int)-a)=(n:Int):=by intro _;rw [w64 (by omega) (by omega)];omega
 simp [e1]
 refine Qc ?_ ?_<;>intro g1
 ·have lt:=h.lt
  have nin:H.length∉ids v:=fun hh=>by have:=lt _ hh;omega
  have e2:∀[Inhabited Unit],IntKind.u64.wrap (n:Int)=(n:Int):=by intro _;exact w64u (by omega) (by omega)
  have e3:∀[Inhabited Unit],IntKind.i64.wrap (n:Int)=(n:Int):=by intro _;exact w64 (by omega) (by omega)
  simp [e1,e2,VM.look,hF]
  refine Qd (wu n (by omega)) ?_
  rintro _ _ ⟨rfl,m,rfl,m1,m2,m3⟩
  obtain ⟨q,hq⟩:∃q,q=n/4:=⟨_,rfl⟩
  obtain ⟨q2,hq2⟩:∃q2,q2=q*2:=⟨_,rfl⟩
  obtain ⟨s,hs⟩:∃s,s=a+q2:=⟨_,rfl⟩
  have e4:∀[Inhabited Unit],IntKind.i64.wrap ((n:Int)/4)=(q:Int):=by intro _;rw [w64 (by omega) (by omega)];omega
  have e5:∀[Inhabited Unit],IntKind.i64.wrap ((q:Int)*2)=(q2:Int):=by intro _;rw [w64 (by omega) (by omega)];omega
  have e6:∀[Inhabited Unit],IntKind.i64.wrap ((a:Int)+q2)=(s:Int):=by intro _;rw [w64 (by omega) (by omega)];omega
  have e7:∀[Inhabited Unit],IntKind.i64.wrap ((s:Int)-1)=((s-1:Nat):Int):=by intro _;rw [w64 (by omega) (by omega)];omega
  have e8:∀[Inhabited Unit],IntKind.i64.wrap ((s:Int)+1)=((s+1:Nat):Int):=by intro _;rw [w64 (by omega) (by omega)];omega
  have e9:∀[Inhabited Unit],IntKind.u64.wrap ((m:Int)-1)=((m-1:Nat):Int):=by intro _;rw [w64u (by omega) (by omega)];omega
  simp [e1,e2,e3,e4,e5,e6,e7]
  refine Qg (fun c t H'=>∃i:Nat,c=s+2-i∧s≤i+1∧i≤s+2∧(t 0=v∧t 3=cf)∧t 1=.int .i64 a∧t 8=.int .i64 n∧t 9=.pointer (some ⟨H.length,0,some 0⟩)∧t 10=.int .u64 m∧t 11=.int .i64 i∧
   BoxX H' H.length∧Chg (H++[⟨[.int .u64 n],0,208⟩]) H' (H.length::ids v)∧∃ys,Sw a b xs ys∧OwE e H' v ys) ?_ (n:=s+2-(s-1))
   ⟨s-1,rfl,by omega,by omega,by simp,by simp,by simp,by simp,by simp,by simp,⟨n,by simp⟩,Chg.refl _,xs,.refl,h.app⟩
  rintro c t H1 ⟨i,rfl,hi1,hi2,t0,t1,t6,t7,t8,t9,bx,ch,ys,sw,o⟩ ih
  have len:=sw.len
  simp [t0,t1,t6,t7,t8,t9,e4,e5,e6,e8]
  refine Qc ?_ ?_<;>intro g2
  ·have p0:i<ys.length:=by omega
   simp [t0,t1,t6,t7,t8,t9]
   refine Qd (Cv H.length bx hF) ?_
   rintro _ H2 ⟨⟨z,rfl⟩,c2,bx2⟩
   have o2:=o.chg c2 (fun i hi hh=>by simp at hh;subst hh;exact nin hi)
   obtain ⟨k,hk⟩:∃k:Nat,iand .u64 z ((m-1:Nat):Int)=k:=⟨_,(Int.toNat_of_nonneg (Ge z (m-1) (by omega)).1).symm⟩
   have hk2:=(Ge z (m-1) (by omega)).2
   rw [hk] at hk2
   have e10:∀[Inhabited Unit],IntKind.i64.wrap (k:Int)=(k:Int):=by intro _;exact w64 (by omega) (by omega)
   have hk':∀[Inhabited Unit],iand .u64 z ((m-1:Nat):Int)=k:=by intro _;exact hk
   clear hk
   simp [t0,t1,t6,t7,t8,t9,e9,hk',e10]
   refine W3 (F:=?F) (k:=?k) (Q:=?Q) (fun t H'=>∃d:Nat,d<n∧H'=H2∧(t 0=v∧t 3=cf)∧t 1=.int .i64 a∧t 8=.int .i64 n∧t 9=.pointer (some ⟨H.length,0,some 0⟩)∧t 10=.int .u64 m∧t 11=.int .i64 i∧t 12=.int .i64 d) ?main ?rest
   case main=>
    intro rest
    refine Qc ?_ ?_<;>intro g3
    ·have e11:∀[Inhabited Unit],IntKind.i64.wrap ((k:Int)-n)=((k-n:Nat):Int):=by intro _;rw [w64 (by omega) (by omega)];omega
     simp [t0,t1,t6,t7,t8,t9,e9,hk',e10,e11]
     refine rest _ _ ?_
     exact ⟨k-n,by omega,rfl,by simp [t0],by simp [t1],by simp [t6],by simp [t7],by simp [t8],by simp [t9],by simp⟩
    ·simp
     refine rest _ _ ?_
     exact ⟨k,by omega,rfl,by simp [t0],by simp [t1],by simp [t6],by simp [t7],by simp [t8],by simp [t9],by simp⟩
   case rest=>
    rintro t _ ⟨d,hd,rfl,t0,t1,t6,t7,t8,t9,t10⟩
    obtain ⟨j,hj⟩:∃j,j=a+d:=⟨_,rfl⟩
    have e12:∀[Inhabited Unit],IntKind.i64.wrap ((a:Int)+d)=(j:Int):=by intro _;rw [w64 (by omega) (by omega)];omega
    have p1:j<ys.length:=by omega
    obtain ⟨H3,H4,s1,ix,s2,o4,c4,l4⟩:=Ww o2 p0 p1 hf
    rw [Qf (h:=by kernel_rfl)]
    simp [t0,t1,t6,t7,t8,t9,t10,e12,Qq o2 p0,Qq o2 p1,Qr o2 p0,Qr o2 p1,s1,ix _ p0,ix _ p1,s2]
    obtain ⟨sx,hsx⟩:=bx2
    have bx4:BoxX H4 H.length:=⟨sx,Qb hsx c4 nin⟩
    refine ih (s+2-(i+1)) _ _ ⟨i+1,rfl,by omega,by omega,by simp [t0],by simp [t1],by simp [t6],by simp [t7],by simp [t8],?_,bx4,?_,_,sw.step i j (by omega) (by omega),o4⟩ (by omega)
    ·simp;rw [w64 (by omega) (by omega)]
    ·exact ch.trans ((c2.mono (by simp)).trans (c4.mono (fun q hq=>by simp [hq])))
  ·simp
   exact ⟨ys,sw,o,(Chg.app (ids v)).trans' ch (fun q hq=>by
    rcases List.mem_cons.1 hq with hq|hq
    ·right;simp [hq]
    ·exact .inl hq)⟩
 ·simp
  exact ⟨xs,.refl,h,Chg.refl _⟩
include hK
theorem jo (v:Value) (xs:List Int) (e:TypeId) (a b p:Nat) (h:OwE e H v xs) (hp:a≤p∧p<b) (hb:b≤xs.length) (hl:xs.length≤1073741824) (hf:∀i∈ids v,frz≤i) :
 wp (vcall C frz 211 [v,.int .i64 a,.int .i64 b,.int .i64 p,cf] H) (fun r H'=>∃m:Nat,r=.int .i64 m∧a<m∧m≤b∧
  SwdE H v xs e a b (fun ys=>(∀k,a≤k→k<m→¬G xs p<G ys k)∧∀k,m≤k→k<b→G xs p<G ys k) H'):=by
 rw [Qa (fn:=Tryz.f211) Tryz.func211 rfl (by kernel_rfl) rfl]
 obtain ⟨x,hx⟩:∃x,x=G xs p:=⟨_,rfl⟩
 obtain ⟨i0,hi0⟩:∃i0,i0=a+1:=⟨_,rfl⟩
 obtain ⟨j0,hj0⟩:∃j0,j0=b-1:=⟨_,rfl⟩
 have e2:∀[Inhabited Unit],IntKind.i64.wrap ((a:Int)+1)=(i0:Int):=by intro _;rw [w64 (by omega) (by omega)];omega
 have e3:∀[Inhabited Unit],IntKind.i64.wrap ((b:Int)-1)=(j0:Int):=by intro _;rw [w64 (by omega) (by omega)];omega
 have p0:a<xs.length:=by omega
 have p1:p<xs.length:=by omega
 simp
 rw [Qf (h:=by kernel_rfl)]
 obtain ⟨H1,H2,s1,ix,s2,o2,c2,l2⟩:=Ww h p0 p1 hf
 simp [Qq h p0,Qq h p1,Qr h p0,Qr h p1,s1,ix _ p0,ix _ p1,s2,e2,e3]
 have pt0:Pt (swp xs a p) a b x (fun y=>¬x<y) i0 j0:=by
  refine ⟨?_,fun k h1 h2=>by omega,fun k h1 h2=>by omega⟩
  rw [Xr p0 p1,hx]
  split
  ·rename_i e;rw [e]
  ·rw [if_pos rfl]
 have sw0:Sw a b xs (swp xs a p):=Sw.refl.step a p (by omega) (by omega)
 refine Qg (fun c t H'=>∃i j:Nat,c=j+1-i∧(t 0=v∧t 4=cf)∧t 1=.int .i64 a∧t 11=.int .i64 i∧t 12=.int .i64 j∧a<i∧i≤j+1∧j<b∧SwdE H v xs e a b (fun ys=>Pt ys a b x (fun y=>¬x<y) i j) H') ?_ (n:=j0+1-i0)
  ⟨i0,j0,rfl,by simp,by simp,by simp,by simp,by omega,by omega,by omega,_,sw0,pt0,o2,c2,l2⟩
 rw [← hx]
 clear pt0 sw0 o2 s1 s2 ix c2 l2 p0 p1
 rintro c t H' ⟨i,j,rfl,h0,h1,hi,hj,hai,hij,hjb,ys,sw,pt,o,c,l⟩ ih
 have len:=sw.len
 have p0:a<ys.length:=by omega
 simp [h0,h1,hi,hj]
 obtain ⟨il,hil⟩:∃il,il=i:=⟨_,rfl⟩
 have hai':il≤i∧a<i:=⟨by omega,hai⟩
 refine W3 (F:=?F1) (k:=?k1) (Q:=?Q1) (fun t H1=>∃i:Nat,(t 0=v∧t 4=cf)∧t 1=.int .i64 a∧t 11=.int .i64 i∧t 12=.int .i64 j∧(il≤i∧a<i)∧i≤j+1∧(i=j+1∨(i≤j∧¬(fun y=>¬x<y) (G ys i)))∧H'=H1∧Pt ys a b x (fun y=>¬x<y) i j) ?main1 ?rest1
 case main1=>
  intro rest
  refine Qg (fun c t H1=>∃i:Nat,c=j+1-i∧(t 0=v∧t 4=cf)∧t 1=.int .i64 a∧t 11=.int .i64 i∧t 12=.int .i64 j∧(il≤i∧a<i)∧i≤j+1∧H'=H1∧Pt ys a b x (fun y=>¬x<y) i j) ?_ (n:=j+1-i)
   ⟨i,rfl,by simp [h0],by simp [h1],by simp [hi],by simp [hj],hai',hij,rfl,pt⟩
  rintro c t _ ⟨i,rfl,h0,h1,hi,hj,hai',hij,rfl,pt⟩ ih2
  have hai:=hai'.2
  simp [h0,h1,hi,hj]
  rw [Qf (h:=by kernel_rfl)]
  simp [h0,h1,hi,hj]
  refine Qv ?_ ?_<;>intro g1
  ·have p1:i<ys.length:=by omega
   simp [h0,h1,hi,hj,g1,Qq o p0,Qq o p1,Qr o p0,Qr o p1,dlt hK o]
   refine Qc ?_ ?_<;>intro g2
   ·simp [h0,h1,hi,hj]
    refine rest _ _ ?_
    exact ⟨i,by simp [h0],by simp [h1],by simp [hi],by simp [hj],hai',by omega,.inr ⟨by omega,by have:=pt.1;show ¬(¬x<G ys i);omega⟩,rfl,pt⟩
   ·simp [h0,h1,hi,hj]
    refine ih2 (j+1-(i+1)) _ _ ⟨i+1,rfl,by simp [h0],by simp [h1],?_,by simp [hj],by omega,by omega,rfl,pt.incr hai (by have:=pt.1;show ¬x<G ys i;omega)⟩ (by omega)
    simp;rw [w64 (by omega) (by omega)]
  ·simp [h0,h1,hi,hj,g1]
   refine rest _ _ ?_
   exact ⟨i,by simp [h0],by simp [h1],by simp [hi],by simp [hj],hai',hij,.inl (by omega),rfl,pt⟩
 case rest1=>
  rintro t _ ⟨i,h0,h1,hi,hj,hai',hij,hex,rfl,pt⟩
  have hai:=hai'.2
  refine Qg (fun c t H1=>∃j':Nat,c=j'+1-i∧(t 0=v∧t 4=cf)∧t 1=.int .i64 a∧t 11=.int .i64 i∧t 12=.int .i64 j'∧j'≤j∧i≤j'+1∧H'=H1∧Pt ys a b x (fun y=>¬x<y) i j') ?_ (n:=j+1-i)
   ⟨j,rfl,by simp [h0],by simp [h1],by simp [hi],by simp [hj],Nat.le_refl _,hij,rfl,pt⟩
  have hex':i<j+1→¬(fun y=>¬x<y) (G ys i):=fun hh=>by rcases hex with hex|hex;omega;exact hex.2
  have hjb0:=hjb
  rintro c t _ ⟨j',rfl,h0,h1,hi,hj,hjj',hij,rfl,pt⟩ ih2
  have hjb:j'<b:=by omega
  simp [h0,h1,hi,hj]
  rw [Qf (h:=by kernel_rfl)]
  simp [h0,h1,hi,hj]
  refine Qv ?_ ?_<;>intro g1
  ·have p1:j'<ys.length:=by omega
   simp [h0,h1,hi,hj,g1,Qq o p0,Qq o p1,Qr o p0,Qr o p1,dlt hK o]
   refine Qc ?_ ?_<;>intro g2
   ·simp [h0,h1,hi,hj]
    refine ih2 (j'-1+1-i) _ _ ⟨j'-1,rfl,by simp [h0],by simp [h1],by simp [hi],?_,by omega,by omega,rfl,pt.decr (by omega) (by have:=pt.1;show ¬(¬x<G ys j');omega)⟩ (by omega)
    simp;rw [w64 (by omega) (by omega)];omega
   ·simp [h0,h1,hi,hj]
    have hnj:¬j'<i:=by omega
    simp [hnj]
    have p2:i<ys.length:=by omega
    have hlo:(fun y=>¬x<y) (G ys j'):=by have:=pt.1;show ¬x<G ys j';omega
    rw [Qf (h:=by kernel_rfl)]
    obtain ⟨H3,H4,s3,ix3,s4,o4,c4,l4⟩:=Ww o p2 p1 hf
    simp [h0,h1,hi,hj,Qq o p2,Qq o p1,Qr o p2,Qr o p1,s3,ix3 _ p2,ix3 _ p1,s4]
    have hlt:i<j':=by
     rcases Nat.lt_or_ge i j' with q|q
     ·exact q
     ·have q2:i=j':=by omega
      exact absurd (q2▸hlo) (hex' (by omega))
    refine ih (j'-1+1-(i+1)) _ _ ⟨i+1,j'-1,rfl,by simp [h0],by simp [h1],?_,?_,by omega,by omega,by omega,_,sw.step i j' (by omega) (by omega),pt.swap hai hlt hjb (by omega) (hex' (by omega)) hlo,o4,c.trans c4,by omega⟩ (by omega)
    ·simp;rw [w64 (by omega) (by omega)]
    ·simp;rw [w64 (by omega) (by omega)];omega
  ·have hij':i=j'+1:=by omega
   have hji:j'<i:=by omega
   simp [h0,h1,hi,hj,g1,hji]
   refine ⟨i,rfl,by omega,by omega,ys,sw,⟨fun k k1 k2=>?_,fun k k1 k2=>?_⟩,o,c,l⟩
   ·by_cases hk:k=a
    ·have:=pt.1;rw [hk];omega
    ·have q:¬x<G ys k:=pt.2.1 k (by omega) k2
     omega
   ·have q:¬¬x<G ys k:=pt.2.2 k (by omega) k2
    omega
theorem Qb0 (v:Value) (xs:List Int) (e:TypeId) (a b p:Nat) (h:OwE e H v xs) (hp:a≤p∧p<b) (hb:b≤xs.length) (hl:xs.length≤1073741824) (hf:∀i∈ids v,frz≤i) :
 wp (vcall C frz 212 [v,.int .i64 a,.int .i64 b,.int .i64 p,cf] H) (fun r H'=>∃(m:Nat) (d:Bool),r=.tuple #[.int .i64 m,.bool d]∧a≤m∧m<b∧
  SwdE H v xs e a b (fun ys=>(∀k,a≤k→k<m→G ys k<G ys m)∧∀k,m<k→k<b→G ys m≤G ys k) H'):=by
 rw [Qa (fn:=Tryz.f212) Tryz.func212 rfl (by kernel_rfl) rfl]
 obtain ⟨x,hx⟩:∃x,x=G xs p:=⟨_,rfl⟩
 obtain ⟨i0,hi0⟩:∃i0,i0=a+1:=⟨_,rfl⟩
 obtain ⟨j0,hj0⟩:∃j0,j0=b-1:=⟨_,rfl⟩
 have e2:∀[Inhabited Unit],IntKind.i64.wrap ((a:Int)+1)=(i0:Int):=by intro _;rw [w64 (by omega) (by omega)];omega
 have e3:∀[Inhabited Unit],IntKind.i64.wrap ((b:Int)-1)=(j0:Int):=by intro _;rw [w64 (by omega) (by omega)];omega
 have p0:a<xs.length:=by omega
 have p1:p<xs.length:=by omega
 simp
 rw [Qf (h:=by kernel_rfl)]
 obtain ⟨H1,H2,s1,ix,s2,o2,c2,l2⟩:=Ww h p0 p1 hf
 simp [Qq h p0,Qq h p1,Qr h p0,Qr h p1,s1,ix _ p0,ix _ p1,s2,e2,e3]
 have pt0:Pt (swp xs a p) a b x (fun y=>y<x) i0 j0:=by
  refine ⟨?_,fun k h1 h2=>by omega,fun k h1 h2=>by omega⟩
  rw [Xr p0 p1,hx]
  split
  ·rename_i e;rw [e]
  ·rw [if_pos rfl]
 have sw0:Sw a b xs (swp xs a p):=Sw.refl.step a p (by omega) (by omega)
 obtain ⟨ys,sw,o,c,l,pt⟩:∃ys,Sw a b xs ys∧OwE e H2 v ys∧Chg H H2 (ids v)∧H2.length=H.length∧Pt ys a b x (fun y=>y<x) i0 j0:=⟨_,sw0,o2,c2,l2,pt0⟩
 obtain ⟨i,hii⟩:∃i,i0=i:=⟨_,rfl⟩
 obtain ⟨j,hjj⟩:∃j,j0=j:=⟨_,rfl⟩
 rw [hii] at pt ⊢
 rw [hjj] at pt ⊢
 have hai:a<i:=by omega
 have hij:i≤j+1:=by omega
 have hjb:j<b:=by omega
 clear pt0 sw0 o2 s1 s2 ix c2 l2 p0 p1
 have len:=sw.len
 have p0:a<ys.length:=by omega
 refine W3 (F:=?F) (k:=?k) (Q:=?Q) (fun t H1=>H2=H1∧(t 0=v∧t 4=cf)∧t 1=.int .i64 a∧t 12=.int .i64 i∧t 13=.int .i64 j) ?main ?rest
 case main=>intro rest;refine rest _ _ ?_;exact ⟨rfl,by simp,by simp,by simp,by simp⟩
 case rest=>
  rintro t H' ⟨rfl,h0,h1,hi,hj⟩
  obtain ⟨H',hH⟩:∃H',H'=H2:=⟨_,rfl⟩
  subst hH
  obtain ⟨il,hil⟩:∃il,il=i:=⟨_,rfl⟩
  have hai':il≤i∧a<i:=⟨by omega,hai⟩
  refine W3 (F:=?F3) (k:=?k3) (Q:=?Q3) (fun t H1=>∃i:Nat,(t 0=v∧t 4=cf)∧t 1=.int .i64 a∧t 12=.int .i64 i∧t 13=.int .i64 j∧(il≤i∧a<i)∧i≤j+1∧(i=j+1∨(i≤j∧¬(fun y=>y<x) (G ys i)))∧H'=H1∧Pt ys a b x (fun y=>y<x) i j) ?main3 ?rest3
  case main3=>
   intro rest
   refine Qg (fun c t H1=>∃i:Nat,c=j+1-i∧(t 0=v∧t 4=cf)∧t 1=.int .i64 a∧t 12=.int .i64 i∧t 13=.int .i64 j∧(il≤i∧a<i)∧i≤j+1∧H'=H1∧Pt ys a b x (fun y=>y<x) i j) ?_ (n:=j+1-i)
    ⟨i,rfl,by simp [h0],by simp [h1],by simp [hi],by simp [hj],hai',hij,rfl,pt⟩
   rintro c t _ ⟨i,rfl,h0,h1,hi,hj,hai',hij,rfl,pt⟩ ih2
   have hai:=hai'.2
   simp [h0,h1,hi,hj]
   rw [Qf (h:=by kernel_rfl)]
   simp [h0,h1,hi,hj]
   refine Qv ?_ ?_<;>intro g1
   ·have p1:i<ys.length:=by omega
    simp [h0,h1,hi,hj,g1,Qq o p0,Qq o p1,Qr o p0,Qr o p1,dlt hK o]
    refine Qc ?_ ?_<;>intro g2
    ·simp [h0,h1,hi,hj]
     refine ih2 (j+1-(i+1)) _ _ ⟨i+1,rfl,by simp [h0],by simp [h1],?_,by simp [hj],by omega,by omega,rfl,pt.incr hai (by have:=pt.1;show G ys i<x;omega)⟩ (by omega)
     simp;rw [w64 (by omega) (by omega)]
    ·simp [h0,h1,hi,hj]
     refine rest _ _ ?_
     exact ⟨i,by simp [h0],by simp [h1],by simp [hi],by simp [hj],hai',by omega,.inr ⟨by omega,by have:=pt.1;show ¬(G ys i<x);omega⟩,rfl,pt⟩
   ·simp [h0,h1,hi,hj,g1]
    refine rest _ _ ?_
    exact ⟨i,by simp [h0],by simp [h1],by simp [hi],by simp [hj],hai',hij,.inl (by omega),rfl,pt⟩
  case rest3=>
   rintro t _ ⟨i,h0,h1,hi,hj,hai',hij,hex,rfl,pt⟩
   have hai:=hai'.2
   refine Qg (fun c t H1=>∃j':Nat,c=j'+1-i∧(t 0=v∧t 4=cf)∧t 1=.int .i64 a∧t 12=.int .i64 i∧t 13=.int .i64 j'∧j'≤j∧i≤j'+1∧H'=H1∧Pt ys a b x (fun y=>y<x) i j') ?_ (n:=j+1-i)
    ⟨j,rfl,by simp [h0],by simp [h1],by simp [hi],by simp [hj],Nat.le_refl _,hij,rfl,pt⟩
   have hex':i<j+1→¬(fun y=>y<x) (G ys i):=fun hh=>by rcases hex with hex|hex;omega;exact hex.2
   have hjb0:=hjb
   rintro c t _ ⟨j',rfl,h0,h1,hi,hj,hjj',hij,rfl,pt⟩ ih2
   have hjb:j'<b:=by omega
   simp [h0,h1,hi,hj]
   rw [Qf (h:=by kernel_rfl)]
   simp [h0,h1,hi,hj]
   refine Qv ?_ ?_<;>intro g1
   ·have p1:j'<ys.length:=by omega
    simp [h0,h1,hi,hj,g1,Qq o p0,Qq o p1,Qr o p0,Qr o p1,dlt hK o]
    refine Qc ?_ ?_<;>intro g2
    ·simp [h0,h1,hi,hj]
     have hnj:¬j'<i:=by omega
     simp [hnj]
     have p2:i<ys.length:=by omega
     have hlo:(fun y=>y<x) (G ys j'):=by have:=pt.1;show G ys j'<x;omega
     rw [Qf (h:=by kernel_rfl)]
     obtain ⟨H3,H4,s3,ix3,s4,o4,c4,l4⟩:=Ww o p2 p1 hf
     simp [h0,h1,hi,hj,Qq o p2,Qq o p1,Qr o p2,Qr o p1,s3,ix3 _ p2,ix3 _ p1,s4]
     have hlt:i<j':=by
      rcases Nat.lt_or_ge i j' with q|q
      ·exact q
      ·have q2:i=j':=by omega
       exact absurd (q2▸hlo) (hex' (by omega))
     refine Qg (fun c t H'=>∃i j:Nat,c=j+1-i∧(t 0=v∧t 4=cf)∧t 1=.int .i64 a∧t 12=.int .i64 i∧t 13=.int .i64 j∧a<i∧i≤j+1∧j<b∧SwdE H v xs e a b (fun ys=>Pt ys a b x (fun y=>y<x) i j) H') ?_ (n:=j'-1+1-(i+1))
      ⟨i+1,j'-1,rfl,by simp [h0],by simp [h1],by simp;rw [w64 (by omega) (by omega)],by simp;rw [w64 (by omega) (by omega)];omega,by omega,by omega,by omega,_,sw.step i j' (by omega) (by omega),pt.swap hai hlt hjb (by omega) (hex' (by omega)) hlo,o4,c.trans c4,by omega⟩
     rintro c t H' ⟨i,j,rfl,h0,h1,hi,hj,hai,hij,hjb,ys,sw,pt,o,c,l⟩ ih
     have len:=sw.len
     have p0:a<ys.length:=by omega
     simp [h0,h1,hi,hj]
     obtain ⟨il,hil⟩:∃il,il=i:=⟨_,rfl⟩
     have hai':il≤i∧a<i:=⟨by omega,hai⟩
     refine W3 (F:=?F32) (k:=?k2) (Q:=?Q32) (fun t H1=>∃i:Nat,(t 0=v∧t 4=cf)∧t 1=.int .i64 a∧t 12=.int .i64 i∧t 13=.int .i64 j∧(il≤i∧a<i)∧i≤j+1∧(i=j+1∨(i≤j∧¬(fun y=>y<x) (G ys i)))∧H'=H1∧Pt ys a b x (fun y=>y<x) i j) ?main32 ?rest32
     case main32=>
      intro rest
      refine Qg (fun c t H1=>∃i:Nat,c=j+1-i∧(t 0=v∧t 4=cf)∧t 1=.int .i64 a∧t 12=.int .i64 i∧t 13=.int .i64 j∧(il≤i∧a<i)∧i≤j+1∧H'=H1∧Pt ys a b x (fun y=>y<x) i j) ?_ (n:=j+1-i)
       ⟨i,rfl,by simp [h0],by simp [h1],by simp [hi],by simp [hj],hai',hij,rfl,pt⟩
      rintro c t _ ⟨i,rfl,h0,h1,hi,hj,hai',hij,rfl,pt⟩ ih2
      have hai:=hai'.2
      simp [h0,h1,hi,hj]
      rw [Qf (h:=by kernel_rfl)]
      simp [h0,h1,hi,hj]
      refine Qv ?_ ?_<;>intro g1
      ·have p1:i<ys.length:=by omega
       simp [h0,h1,hi,hj,g1,Qq o p0,Qq o p1,Qr o p0,Qr o p1,dlt hK o]
       refine Qc ?_ ?_<;>intro g2
       ·simp [h0,h1,hi,hj]
        refine ih2 (j+1-(i+1)) _ _ ⟨i+1,rfl,by simp [h0],by simp [h1],?_,by simp [hj],by omega,by omega,rfl,pt.incr hai (by have:=pt.1;show G ys i<x;omega)⟩ (by omega)
        simp;rw [w64 (by omega) (by omega)]
       ·simp [h0,h1,hi,hj]
        refine rest _ _ ?_
        exact ⟨i,by simp [h0],by simp [h1],by simp [hi],by simp [hj],hai',by omega,.inr ⟨by omega,by have:=pt.1;show ¬(G ys i<x);omega⟩,rfl,pt⟩
      ·simp [h0,h1,hi,hj,g1]
       refine rest _ _ ?_
       exact ⟨i,by simp [h0],by simp [h1],by simp [hi],by simp [hj],hai',hij,.inl (by omega),rfl,pt⟩
     case rest32=>
      rintro t _ ⟨i,h0,h1,hi,hj,hai',hij,hex,rfl,pt⟩
      have hai:=hai'.2
      refine Qg (fun c t H1=>∃j':Nat,c=j'+1-i∧(t 0=v∧t 4=cf)∧t 1=.int .i64 a∧t 12=.int .i64 i∧t 13=.int .i64 j'∧j'≤j∧i≤j'+1∧H'=H1∧Pt ys a b x (fun y=>y<x) i j') ?_ (n:=j+1-i)
       ⟨j,rfl,by simp [h0],by simp [h1],by simp [hi],by simp [hj],Nat.le_refl _,hij,rfl,pt⟩
      have hex':i<j+1→¬(fun y=>y<x) (G ys i):=fun hh=>by rcases hex with hex|hex;omega;exact hex.2
      have hjb0:=hjb
      rintro c t _ ⟨j',rfl,h0,h1,hi,hj,hjj',hij,rfl,pt⟩ ih2
      have hjb:j'<b:=by omega
      simp [h0,h1,hi,hj]
      rw [Qf (h:=by kernel_rfl)]
      simp [h0,h1,hi,hj]
      refine Qv ?_ ?_<;>intro g1
      ·have p1:j'<ys.length:=by omega
       simp [h0,h1,hi,hj,g1,Qq o p0,Qq o p1,Qr o p0,Qr o p1,dlt hK o]
       refine Qc ?_ ?_<;>intro g2
       ·simp [h0,h1,hi,hj]
        have hnj:¬j'<i:=by omega
        simp [hnj]
        have p2:i<ys.length:=by omega
        have hlo:(fun y=>y<x) (G ys j'):=by have:=pt.1;show G ys j'<x;omega
        rw [Qf (h:=by kernel_rfl)]
        obtain ⟨H3,H4,s3,ix3,s4,o4,c4,l4⟩:=Ww o p2 p1 hf
        simp [h0,h1,hi,hj,Qq o p2,Qq o p1,Qr o p2,Qr o p1,s3,ix3 _ p2,ix3 _ p1,s4]
        have hlt:i<j':=by
         rcases Nat.lt_or_ge i j' with q|q
         ·exact q
         ·have q2:i=j':=by omega
          exact absurd (q2▸hlo) (hex' (by omega))
        refine ih (j'-1+1-(i+1)) _ _ ⟨i+1,j'-1,rfl,by simp [h0],by simp [h1],?_,?_,by omega,by omega,by omega,_,sw.step i j' (by omega) (by omega),pt.swap hai hlt hjb (by omega) (hex' (by omega)) hlo,o4,c.trans c4,by omega⟩ (by omega)
        ·simp;rw [w64 (by omega) (by omega)]
        ·simp;rw [w64 (by omega) (by omega)];omega
       ·simp [h0,h1,hi,hj]
        refine ih2 (j'-1+1-i) _ _ ⟨j'-1,rfl,by simp [h0],by simp [h1],by simp [hi],?_,by omega,by omega,rfl,pt.decr (by omega) (by have:=pt.1;show ¬(G ys j'<x);omega)⟩ (by omega)
        simp;rw [w64 (by omega) (by omega)];omega
      ·have hij':i=j'+1:=by omega
       have hji:j'<i:=by omega
       simp [h0,h1,hi,hj,g1,hji]
       have p3:j'<ys.length:=by omega
       rw [Qf (h:=by kernel_rfl)]
       obtain ⟨H3,H4,s3,ix3,s4,o4,c4,l4⟩:=Ww o p3 p0 hf
       simp [h0,h1,hi,hj,Qq o p3,Qq o p0,Qr o p3,Qr o p0,s3,ix3 _ p3,ix3 _ p0,s4]
       obtain ⟨f1,f2,f3⟩:=pt.fin hij' hai hjb (by omega)
       exact ⟨j',rfl,by omega,by omega,_,sw.step j' a (by omega) (by omega),⟨fun k k1 k2=>by have:=f2 k k1 k2;rw [f1];exact this,fun k k1 k2=>by have:=f3 k k1 k2;rw [f1];omega⟩,o4,c.trans c4,by omega⟩
    ·simp [h0,h1,hi,hj]
     refine ih2 (j'-1+1-i) _ _ ⟨j'-1,rfl,by simp [h0],by simp [h1],by simp [hi],?_,by omega,by omega,rfl,pt.decr (by omega) (by have:=pt.1;show ¬(G ys j'<x);omega)⟩ (by omega)
     simp;rw [w64 (by omega) (by omega)];omega
   ·have hij':i=j'+1:=by omega
    have hji:j'<i:=by omega
    simp [h0,h1,hi,hj,g1,hji]
    have p3:j'<ys.length:=by omega
    rw [Qf (h:=by kernel_rfl)]
    obtain ⟨H3,H4,s3,ix3,s4,o4,c4,l4⟩:=Ww o p3 p0 hf
    simp [h0,h1,hi,hj,Qq o p3,Qq o p0,Qr o p3,Qr o p0,s3,ix3 _ p3,ix3 _ p0,s4]
    obtain ⟨f1,f2,f3⟩:=pt.fin hij' hai hjb (by omega)
    exact ⟨j',rfl,by omega,by omega,_,sw.step j' a (by omega) (by omega),⟨fun k k1 k2=>by have:=f2 k k1 k2;rw [f1];exact this,fun k k1 k2=>by have:=f3 k k1 k2;rw [f1];omega⟩,o4,c.trans c4,by omega⟩
include hK
theorem qo (v:Value) (xs:List Int) (e:TypeId) (a b:Nat) (h:OwE e H v xs) (hab:a<b) (hb:b≤xs.length) (hl:xs.length≤1073741824) (hlo:0<a→∀k,a≤k→k<b→G xs (a-1)≤G xs k) (hf:∀i∈ids v,frz≤i) :
 wp (vcall C frz 210 [v,.int .i64 a,.int .i64 b,cf] H) (fun r H'=>∃d:Bool,r=.bool d∧SwdE H v xs e a b (fun ys=>d=true→Srt ys a b) H'):=by
 rw [Qa (fn:=Tryz.f210) Tryz.func210 rfl (by kernel_rfl) rfl]
 obtain ⟨i0,hi0⟩:∃i0,i0=a+1:=⟨_,rfl⟩
 have e2:∀[Inhabited Unit],IntKind.i64.wrap ((a:Int)+1)=(i0:Int):=by intro _;rw [w64 (by omega) (by omega)];omega
 simp [e2]
 refine Qg (fun c t H'=>∃i s:Nat,c=5-s∧s≤5∧(t 0=v∧t 3=cf)∧t 1=.int .i64 a∧t 2=.int .i64 b∧t 9=.int .i64 i∧t 10=.int .i64 s∧a<i∧i≤b∧SwdE H v xs e a b (fun ys=>Srt ys a i) H') ?_ (n:=5)
  ⟨i0,0,rfl,by omega,by simp,by simp,by simp,by simp,by simp,by omega,by omega,xs,.refl,Srt.short (by omega),h,Chg.refl _,rfl⟩
 rintro c t H' ⟨i,s,rfl,hs,h0,h1,h2,h7,h8,hai,hib,ys,sw,sr,o,c,l⟩ ih
 have len:=sw.len
 simp [h0,h1,h2,h7,h8]
 refine Qc ?_ ?_<;>intro g0
 ·simp [h0,h1,h2,h7,h8]
  refine Tk (F:=?F) (k1:=?k1) (k2:=?k2) (Q:=?Q) (fun c t H1=>∃i:Nat,c=.bool (decide ((i:Int)=b))∧H'=H1∧(t 0=v∧t 3=cf)∧t 1=.int .i64 a∧t 2=.int .i64 b∧t 9=.int .i64 i∧t 10=.int .i64 s∧a<i∧i≤b∧Srt ys a i) ?main ?rest
  case main=>
   intro rest
   refine Qg (fun c t H1=>∃i:Nat,c=b-i∧H'=H1∧(t 0=v∧t 3=cf)∧t 1=.int .i64 a∧t 2=.int .i64 b∧t 9=.int .i64 i∧t 10=.int .i64 s∧a<i∧i≤b∧Srt ys a i) ?_ (n:=b-i)
    ⟨i,rfl,rfl,by simp [h0],by simp [h1],by simp [h2],by simp [h7],by simp [h8],hai,hib,sr⟩
   rintro c t _ ⟨i,rfl,rfl,h0,h1,h2,h7,h8,hai,hib,sr⟩ ih2
   have e3:∀[Inhabited Unit],IntKind.i64.wrap ((i:Int)-1)=((i-1:Nat):Int):=by intro _;rw [w64 (by omega) (by omega)];omega
   simp [h0,h1,h2,h7,h8]
   rw [Qf (h:=by kernel_rfl)]
   simp [h0,h1,h2,h7,h8]
   refine Qv ?_ ?_<;>intro g1
   ·have p1:i<ys.length:=by omega
    have p2:i-1<ys.length:=by omega
    simp [h0,h1,h2,h7,h8,g1,e3,Qq o p1,Qq o p2,Qr o p1,Qr o p2,dlt hK o]
    refine Qc ?_ ?_<;>intro g2
    ·simp [h0,h1,h2,h7,h8]
     refine rest _ _ _ ?_
     exact ⟨i,rfl,rfl,by simp [h0],by simp [h1],by simp [h2],by simp [h7],by simp [h8],hai,hib,sr⟩
    ·simp [h0,h1,h2,h7,h8]
     refine ih2 (b-(i+1)) _ _ ⟨i+1,rfl,rfl,by simp [h0],by simp [h1],by simp [h2],?_,by simp [h8],by omega,by omega,sr.snoc (fun _=>by omega)⟩ (by omega)
     simp;rw [w64 (by omega) (by omega)]
   ·simp [h0,h1,h2,h7,h8,g1]
    refine rest _ _ _ ?_
    exact ⟨i,rfl,rfl,by simp [h0],by simp [h1],by simp [h2],by simp [h7],by simp [h8],hai,hib,sr⟩
  case rest=>
   rintro _ t _ ⟨i,rfl,rfl,h0,h1,h2,h7,h8,hai,hib,sr⟩
   obtain ⟨n,hn⟩:∃n,n=b-a:=⟨_,rfl⟩
   obtain ⟨m,hm⟩:∃m,m=i-a:=⟨_,rfl⟩
   obtain ⟨r,hr⟩:∃r,r=b-i:=⟨_,rfl⟩
   have e4:∀[Inhabited Unit],IntKind.i64.wrap ((b:Int)-a)=(n:Int):=by intro _;rw [w64 (by omega) (by omega)];omega
   have e5:∀[Inhabited Unit],IntKind.i64.wrap ((i:Int)-a)=(m:Int):=by intro _;rw [w64 (by omega) (by omega)];omega
   have e6:∀[Inhabited Unit],IntKind.i64.wrap ((b:Int)-i)=(r:Int):=by intro _;rw [w64 (by omega) (by omega)];omega
   have e3:∀[Inhabited Unit],IntKind.i64.wrap ((i:Int)-1)=((i-1:Nat):Int):=by intro _;rw [w64 (by omega) (by omega)];omega
   refine Qc ?_ ?_<;>intro g1
   ·simp
    have hib:i=b:=by omega
    exact ⟨ys,sw,hib▸sr,o,c,l⟩
   ·simp [h0,h1,h2,h7,h8,e4]
    refine Qc ?_ ?_<;>intro g2
    ·simp
     exact ⟨ys,sw,trivial,o,c,l⟩
    ·have p1:i<ys.length:=by omega
     have p2:i-1<ys.length:=by omega
     simp [h0,h1,h2,h7,h8]
     rw [Qf (h:=by kernel_rfl)]
     obtain ⟨H3,H4,s3,ix3,s4,o4,c4,l4⟩:=Ww o p1 p2 hf
     simp [h0,h1,h2,h7,h8,e3,e5,Qq o p1,Qq o p2,Qr o p1,Qr o p2,s3,ix3 _ p1,ix3 _ p2,s4]
     have sw4:=sw.step i (i-1) (by omega) (by omega)
     have sr4:Srt (swp ys i (i-1)) a (i-1):=Srt.frame (fun p q q1 q2 q3=>sr p q q1 q2 (by omega)) (fun k k1 k2=>by rw [Xr p1 p2,if_neg (by omega),if_neg (by omega)])
     have c5:=c.trans c4
     have l5:H4.length=H.length:=by omega
     generalize swp ys i (i-1)=zs at *
     refine Tk (F:=?F2) (k1:=?k12) (k2:=?k22) (Q:=?Q2) (fun c t H1=>c=.bool (decide (2≤(r:Int)))∧(t 0=v∧t 3=cf)∧t 1=.int .i64 a∧t 2=.int .i64 b∧t 9=.int .i64 i∧t 10=.int .i64 s∧SwdE H v xs e a b (fun ys=>Srt ys a i) H1) ?main2 ?rest2
     case main2=>
      intro rest2
      refine Qc ?_ ?_<;>intro g3
      ·simp [h0,h1,h2,h7,h8,e3]
       refine Qg (fun c t H1=>∃j:Nat,c=j∧(t 0=v∧t 3=cf)∧t 1=.int .i64 a∧t 2=.int .i64 b∧t 9=.int .i64 i∧t 10=.int .i64 s∧t 11=.int .i64 j∧a≤j∧j≤i-1∧SwdE H v xs e a b (fun ys=>Ins ys a (i-1) j) H1) ?_ (n:=i-1)
        ⟨i-1,rfl,by simp [h0],by simp [h1],by simp [h2],by simp [h7],by simp [h8],by simp,by omega,by omega,zs,sw4,Ins.start sr4,o4,c5,l5⟩
       rintro j t H1 ⟨_,rfl,h0,h1,h2,h7,h8,h9,haj,hji,ws,sw,ins,o,c,l⟩ ih2
       have len:=sw.len
       have e7:∀[Inhabited Unit],IntKind.i64.wrap ((j:Int)-1)=((j-1:Nat):Int)∨j=0:=by
        intro _
        by_cases hj:j=0
        ·exact .inr hj
        ·left;rw [w64 (by omega) (by omega)];omega
       simp [h0,h1,h2,h7,h8,h9]
       refine Qc ?_ ?_<;>intro g4
       ·have e7:∀[Inhabited Unit],IntKind.i64.wrap ((j:Int)-1)=((j-1:Nat):Int):=by intro _;rw [w64 (by omega) (by omega)];omega
        have p3:j<ws.length:=by omega
        have p4:j-1<ws.length:=by omega
        simp [h0,h1,h2,h7,h8,h9]
        rw [Qf (h:=by kernel_rfl)]
        simp [h0,h1,h2,h7,h8,h9,e7,Qq o p3,Qq o p4,Qr o p3,Qr o p4,dlt hK o]
        have low:j=a→G ws (j-1)≤G ws j:=by
         intro hja
         have:=sw.all hb (p:=fun y=>G xs (a-1)≤y) (fun k k1 k2=>hlo (by omega) k k1 k2) j haj (by omega)
         rw [hja] at this ⊢
         rw [sw.out hb (k:=a-1) (by omega)];exact this
        refine Qc ?_ ?_<;>intro g5
        ·have haj2:a<j:=by
          rcases Nat.lt_or_ge a j with q|q
          ·exact q
          ·have:=low (by omega);omega
         simp [h0,h1,h2,h7,h8,h9]
         rw [Qf (h:=by kernel_rfl)]
         obtain ⟨H5,H6,s5,ix5,s6,o6,c6,l6⟩:=Ww o p3 p4 hf
         simp [h0,h1,h2,h7,h8,h9,e7,Qq o p3,Qq o p4,Qr o p3,Qr o p4,s5,ix5 _ p3,ix5 _ p4,s6]
         refine ih2 (j-1) _ _ ⟨j-1,rfl,by simp [h0],by simp [h1],by simp [h2],by simp [h7],by simp [h8],by simp [e7],by omega,by omega,_,sw.step j (j-1) (by omega) (by omega),ins.step (by omega) haj2 hji g5,o6,c.trans c6,by omega⟩ (by omega)
        ·have sr6:Srt ws a (i-1+1):=ins.done (by
          rcases Nat.lt_or_ge a j with q|q
          ·exact .inr ⟨q,by omega⟩
          ·exact .inl (by omega))
         rw [show i-1+1=i by omega] at sr6
         simp [h0,h1,h2,h7,h8,h9,e6]
         refine rest2 _ _ _ ?_
         exact ⟨rfl,by simp [h0],by simp [h1],by simp [h2],by simp [h7],by simp [h8],ws,sw,sr6,o,c,l⟩
       ·have sr6:Srt ws a (i-1+1):=ins.done (.inl (by omega))
        rw [show i-1+1=i by omega] at sr6
        simp [h0,h1,h2,h7,h8,h9,e6]
        refine rest2 _ _ _ ?_
        exact ⟨rfl,by simp [h0],by simp [h1],by simp [h2],by simp [h7],by simp [h8],ws,sw,sr6,o,c,l⟩
      ·simp [h0,h1,h2,h7,h8,e6]
       refine rest2 _ _ _ ?_
       exact ⟨rfl,by simp [h0],by simp [h1],by simp [h2],by simp [h7],by simp [h8],zs,sw4,Srt.short (by omega),o4,c5,l5⟩
     case rest2=>
      clear sw4 sr4 o4 c5 l5 s3 s4 ix3 c4 p1 p2
      rintro _ t H1 ⟨rfl,h0,h1,h2,h7,h8,ws,sw,sr,o,c,l⟩
      have fin:∀(t:Env) (H1:Heap),(t 0=v∧t 3=cf)→t 1=.int .i64 a→t 2=.int .i64 b→t 9=.int .i64 i→t 10=.int .i64 (IntKind.i64.wrap ((s:Int)+1))→SwdE H v xs e a b (fun ys=>Srt ys a i) H1→
       ∃i s':Nat,5-(s+1)=5-s'∧s'≤5∧(t 0=v∧t 3=cf)∧t 1=.int .i64 a∧t 2=.int .i64 b∧t 9=.int .i64 i∧t 10=.int .i64 s'∧a<i∧i≤b∧SwdE H v xs e a b (fun ys=>Srt ys a i) H1:=
       fun t H1 g0 g1 g2 g7 g8 gs=>⟨i,s+1,rfl,by omega,g0,g1,g2,g7,by rw [g8,w64 (by omega) (by omega)];simp,hai,hib,gs⟩
      refine Qc ?_ ?_<;>intro g3
      ·have e8:∀[Inhabited Unit],IntKind.i64.wrap ((i:Int)+1)=((i+1:Nat):Int):=by intro _;rw [w64 (by omega) (by omega)];omega
       obtain ⟨j0,hj0⟩:∃j0,j0=i+1:=⟨_,rfl⟩
       rw [← hj0] at e8
       simp [h0,h1,h2,h7,h8,e8]
       refine Qg (fun c t H1=>∃j:Nat,c=b-j∧(t 0=v∧t 3=cf)∧t 1=.int .i64 a∧t 2=.int .i64 b∧t 9=.int .i64 i∧t 10=.int .i64 s∧t 12=.int .i64 j∧i<j∧j≤b∧SwdE H v xs e a b (fun ys=>Srt ys a i) H1) ?_ (n:=b-j0)
        ⟨j0,rfl,by simp [h0],by simp [h1],by simp [h2],by simp [h7],by simp [h8],by simp,by omega,by omega,ws,sw,sr,o,c,l⟩
       rintro _ t H1 ⟨j,rfl,h0,h1,h2,h7,h8,h10,hij,hjb,ws,sw,sr,o,c,l⟩ ih2
       have len:=sw.len
       simp [h0,h1,h2,h7,h8,h10]
       refine Qc ?_ ?_<;>intro g4
       ·have e7:∀[Inhabited Unit],IntKind.i64.wrap ((j:Int)-1)=((j-1:Nat):Int):=by intro _;rw [w64 (by omega) (by omega)];omega
        have p3:j<ws.length:=by omega
        have p4:j-1<ws.length:=by omega
        simp [h0,h1,h2,h7,h8,h10]
        rw [Qf (h:=by kernel_rfl)]
        simp [h0,h1,h2,h7,h8,h10,e7,Qq o p3,Qq o p4,Qr o p3,Qr o p4,dlt hK o]
        refine Qc ?_ ?_<;>intro g5
        ·simp [h0,h1,h2,h7,h8,h10]
         rw [Qf (h:=by kernel_rfl)]
         obtain ⟨H5,H6,s5,ix5,s6,o6,c6,l6⟩:=Ww o p3 p4 hf
         simp [h0,h1,h2,h7,h8,h10,e7,Qq o p3,Qq o p4,Qr o p3,Qr o p4,s5,ix5 _ p3,ix5 _ p4,s6]
         refine ih2 (b-(j+1)) _ _ ⟨j+1,rfl,by simp [h0],by simp [h1],by simp [h2],by simp [h7],by simp [h8],?_,by omega,by omega,_,sw.step j (j-1) (by omega) (by omega),Srt.frame sr (fun k k1 k2=>by rw [Xr p3 p4,if_neg (by omega),if_neg (by omega)]),o6,c.trans c6,by omega⟩ (by omega)
         simp;rw [w64 (by omega) (by omega)]
        ·simp [h0,h1,h2,h7,h8,h10]
         refine ih (5-(s+1)) _ _ (fin _ _ ?_ ?_ ?_ ?_ ?_ ⟨ws,sw,sr,o,c,l⟩) (by omega)<;>simp [h0,h1,h2,h7,h8]
       ·simp [h0,h1,h2,h7,h8,h10]
        refine ih (5-(s+1)) _ _ (fin _ _ ?_ ?_ ?_ ?_ ?_ ⟨ws,sw,sr,o,c,l⟩) (by omega)<;>simp [h0,h1,h2,h7,h8]
      ·simp [h0,h1,h2,h7,h8]
       refine ih (5-(s+1)) _ _ (fin _ _ ?_ ?_ ?_ ?_ ?_ ⟨ws,sw,sr,o,c,l⟩) (by omega)<;>simp [h0,h1,h2,h7,h8]
 ·simp
  exact ⟨ys,sw,trivial,o,c,l⟩
include hK
theorem Qfh:∀(n:Nat) (H:Heap) (v:Value) (xs:List Int) (e:TypeId) (A B:Nat) (L:Int) (h:OwE e H v xs) (hn:B-A≤n) (hab:A≤B) (hb:B≤xs.length) (hl:xs.length≤1073741824)
 (hlo:0<A→∀k,A≤k→k<B→G xs (A-1)≤G xs k) (hf:∀i∈ids v,frz≤i) (hF:frz≤H.length),
 wp (vcall C frz 197 [v,.int .i64 A,.int .i64 B,.int .i64 L,cf] H) (fun _ H'=>∃ys,Sw A B xs ys∧Srt ys A B∧OwE e H' v ys∧Chg H H' (ids v)):=by
 intro n
 induction n using Nat.strongRecOn with
 | _ n IH=>
 intro H v xs e A B L h hn hab hb hl hlo hf hF
 rw [Qa (fn:=Tryz.f197) Tryz.func197 rfl (by kernel_rfl) rfl]
 simp
 refine Qg (fun c t H'=>∃(a b:Nat) (L:Int) (w1 w2:Bool),c=b-a∧(t 0=v∧t 4=cf)∧t 1=.int .i64 a∧t 2=.int .i64 b∧t 3=.int .i64 L∧t 10=.bool w1∧t 11=.bool w2∧
  ∃ys,Sw A B xs ys∧Pq ys A B a b∧OwE e H' v ys∧Chg H H' (ids v)) ?_ (n:=B-A)
  ⟨A,B,L,true,true,rfl,by simp,by simp,by simp,by simp,by simp,by simp,xs,.refl,⟨by omega,Srt.short (by omega),Srt.short (by omega),fun p q h1 h2 h3 h4=>by omega,fun p q h1 h2 h3 h4=>by omega,hlo⟩,h,Chg.refl _⟩
 rintro c t H' ⟨a,b,L,w1,w2,rfl,h0,h1,h2,h3,h8,h9,ys,sw,pq,o,c⟩ ih
 have len:=sw.len
 obtain ⟨l1,l2,l3⟩:=pq.le
 obtain ⟨n1,hn1⟩:∃n1,n1=b-a:=⟨_,rfl⟩
 have e1:∀[Inhabited Unit],IntKind.i64.wrap ((b:Int)-a)=(n1:Int):=by intro _;rw [w64 (by omega) (by omega)];omega
 simp [h0,h1,h2,h3,h8,h9,e1]
 refine Qc ?_ ?_<;>intro g1
 ·simp [h0,h1,h2,h3,h8,h9]
  refine Qd (A3 hK v ys e a b o l2 (by omega) (by omega) hf) ?_
  rintro _ H1 ⟨zs,sw1,sr1,o1,c1,k1⟩
  simp
  exact ⟨zs,sw.trans (sw1.mono l1 l3),(pq.sw sw1 (by omega)).done sr1,o1,c.trans c1⟩
 ·simp [h0,h1,h2,h3,h8,h9]
  refine Qc ?_ ?_<;>intro g2
  ·simp [h0,h1,h2,h3,h8,h9]
   refine Qd (Fw hK v ys e a b o (by omega) (by omega) (by omega) hf) ?_
   rintro _ H1 ⟨zs,sw1,sr1,o1,c1,k1⟩
   simp
   exact ⟨zs,sw.trans (sw1.mono l1 l3),(pq.sw sw1 (by omega)).done sr1,o1,c.trans c1⟩
  ·simp [h0,h1,h2,h3,h8,h9]
   refine Zi (F:=?F1) (k:=?k1) (d:=?d1) (Q:=?Q1) (fun r t=>∃(L:Int) (zs:List Int) (H1:Heap),r=vcall C frz 208 [v,.int .i64 a,.int .i64 b,cf] H1∧(t 0=v∧t 4=cf)∧t 1=.int .i64 a∧t 2=.int .i64 b∧t 3=.int .i64 L∧t 12=.int .i64 n1∧t 10=.bool w1∧t 11=.bool w2∧
    Sw A B xs zs∧Pq zs A B a b∧OwE e H1 v zs∧Chg H H1 (ids v)) ?main1 ?rest1
   case main1=>
    intro rest
    have h10:=True.intro
    refine R8 ?_ ?_<;>intro g3
    ·simp [h0,h1,h2,h3,h8,h9]
     refine rest _ _ ?_
     exact ⟨L,ys,H',rfl,by simp [h0],by simp [h1],by simp [h2],by simp [h3],by simp [h10],by simp [h8],by simp [h9],sw,pq,o,c⟩
    ·simp [h0,h1,h2,h3,h8,h9]
     refine Qd (E6 hK v ys e a b o l2 (by omega) (by omega) hf (by have:=c.1;omega)) ?_
     rintro _ H1 ⟨zs,sw1,o1,c1⟩
     simp [h0,h1,h2,h3,h8,h9]
     refine rest _ _ ?_
     exact ⟨IntKind.i64.wrap (L-1),zs,H1,rfl,by simp [h0],by simp [h1],by simp [h2],by simp,by simp,by simp [h8],by simp [h9],sw.trans (sw1.mono l1 l3),pq.sw sw1 (by omega),o1,c.trans c1⟩
   case rest1=>
    clear h0 h1 h2 h3 h8 h9 sw pq o c len
    rintro _ t ⟨L,ys,H',rfl,h0,h1,h2,h3,h10,h8,h9,sw,pq,o,c⟩
    have len:=sw.len
    refine Qd (N2 hK v ys e a b o (by omega) (by omega) (by omega) (by have:=c.1;omega)) ?_
    rintro _ H1 ⟨⟨p,k,rfl,hp1,hp2⟩,c1⟩
    have o1:=o.chg c1 (by simp)
    have cH1:=c.trans (c1.mono (by simp))
    simp [h0,h1,h2,h3,h8,h9]
    refine Ij (F:=?F2) (k:=?k2) (d:=?d2) (want:=?w2) (op:=?op2) (Q:=?Q2) (fun c t H1=>c=.bool w1∧∃(p:Nat) (k:Int) (zs:List Int),(a≤p∧p<b)∧(t 0=v∧t 4=cf)∧t 1=.int .i64 a∧t 2=.int .i64 b∧t 3=.int .i64 L∧t 12=.int .i64 n1∧t 10=.bool w1∧t 11=.bool w2∧t 13=.int .i64 p∧t 14=.int .i64 k∧t 69=.bool w1∧
     Sw A B xs zs∧Pq zs A B a b∧OwE e H1 v zs∧Chg H H1 (ids v)) ?main2 ?rest2
    case main2=>
     intro rest
     refine Qc ?_ ?_<;>intro g3
     ·simp [h0,h1,h2,h3,h8,h9]
      refine Qd (D3 hK v ys e a b o1 (by omega) (by omega) (by omega) hf) ?_
      rintro _ H2 ⟨zs,sw1,_,o2,c2,k2⟩
      obtain ⟨b1,hb1⟩:∃b1,b1=b-1:=⟨_,rfl⟩
      obtain ⟨p1,hp3⟩:∃p1,p1=p-a:=⟨_,rfl⟩
      obtain ⟨p2,hp4⟩:∃p2,p2=b1-p1:=⟨_,rfl⟩
      have e2:∀[Inhabited Unit],IntKind.i64.wrap ((b:Int)-1)=(b1:Int):=by intro _;rw [w64 (by omega) (by omega)];omega
      have e3:∀[Inhabited Unit],IntKind.i64.wrap ((p:Int)-a)=(p1:Int):=by intro _;rw [w64 (by omega) (by omega)];omega
      have e4:∀[Inhabited Unit],IntKind.i64.wrap ((b1:Int)-p1)=(p2:Int):=by intro _;rw [w64 (by omega) (by omega)];omega
      simp [h0,h1,h2,h3,h8,h9,e2,e3,e4]
      refine rest _ _ _ ?_
      exact ⟨rfl,p2,1,zs,by omega,by simp [h0],by simp [h1],by simp [h2],by simp [h3],by simp [h10],by simp [h8],by simp [h9],by simp,by simp,by simp,sw.trans (sw1.mono l1 l3),pq.sw sw1 (by omega),o2,cH1.trans c2⟩
     ·simp [h0,h1,h2,h3,h8,h9]
      refine rest _ _ _ ?_
      exact ⟨rfl,p,k,ys,by omega,by simp [h0],by simp [h1],by simp [h2],by simp [h3],by simp [h10],by simp [h8],by simp [h9],by simp,by simp,by simp,sw,pq,o1,cH1⟩
    case rest2=>
     clear h0 h1 h2 h3 h8 h9 sw pq o c len o1 c1 cH1 hp1 hp2
     rintro _ t H1 ⟨rfl,p,k,ys,hp,h0,h1,h2,h3,h10,h8,h9,h11,h12,h62,sw,pq,o,c⟩
     have len:=sw.len
     refine W3 (F:=?F3) (k:=?k3) (Q:=?Q3) (fun t H1=>∃(zs:List Int),(t 0=v∧t 4=cf)∧t 1=.int .i64 a∧t 2=.int .i64 b∧t 3=.int .i64 L∧t 12=.int .i64 n1∧t 10=.bool w1∧t 11=.bool w2∧t 13=.int .i64 p∧
      Sw A B xs zs∧Pq zs A B a b∧OwE e H1 v zs∧Chg H H1 (ids v)) ?main3 ?rest3
     case main3=>
      intro rest
      refine Tm ?_ ?_<;>intro g3
      ·simp [h0,h1,h2,h3,h8,h9,h11,h12,h62,g3]
       refine Tm ?_ ?_<;>intro g4
       ·simp [h0,h1,h2,h3,h8,h9,h11,h12,h62,g3,g4]
        refine Qc ?_ ?_<;>intro g5
        ·simp [h0,h1,h2,h3,h8,h9,h11,h12]
         refine Qd (qo hK v ys e a b o (by omega) (by omega) (by omega) (fun h0 k k1 k2=>pq.below h0 k k1 (by omega)) hf) ?_
         rintro _ H2 ⟨d,rfl,zs,sw1,sr1,o2,c2,k2⟩
         simp
         refine R8 ?_ ?_<;>intro g6
         ·simp
          exact ⟨zs,sw.trans (sw1.mono l1 l3),(pq.sw sw1 (by omega)).done (sr1 g6),o2,c.trans c2⟩
         ·simp
          refine rest _ _ ?_
          exact ⟨zs,by simp [h0],by simp [h1],by simp [h2],by simp [h3],by simp [h10],by simp [h8],by simp [h9],by simp [h11],sw.trans (sw1.mono l1 l3),pq.sw sw1 (by omega),o2,c.trans c2⟩
        ·simp
         refine rest _ _ ?_
         exact ⟨ys,by simp [h0],by simp [h1],by simp [h2],by simp [h3],by simp [h10],by simp [h8],by simp [h9],by simp [h11],sw,pq,o,c⟩
       ·simp [h0,h1,h2,h3,h8,h9,h11,h12,h62,g3,g4]
        refine rest _ _ ?_
        exact ⟨ys,by simp [h0],by simp [h1],by simp [h2],by simp [h3],by simp [h10],by simp [h8,g3],by simp [h9,g4],by simp [h11],sw,pq,o,c⟩
      ·simp [h0,h1,h2,h3,h8,h9,h11,h12,h62,g3]
       refine rest _ _ ?_
       exact ⟨ys,by simp [h0],by simp [h1],by simp [h2],by simp [h3],by simp [h10],by simp [h8,g3],by simp [h9],by simp [h11],sw,pq,o,c⟩
     case rest3=>
      clear h0 h1 h2 h3 h8 h9 h11 h12 sw pq o c len
      rintro t H1 ⟨ys,h0,h1,h2,h3,h10,h8,h9,h11,sw,pq,o,c⟩
      have len:=sw.len
      have q1:p<ys.length:=by omega
      rw [Qf (h:=by kernel_rfl)]
      simp [h0,h1,h2,h3,h8,h9,h11]
      refine Zi (F:=?F4) (k:=?k4) (d:=?d4) (Q:=?Q4) (fun r t=>r=vcall C frz 212 [v,.int .i64 a,.int .i64 b,.int .i64 p,cf] H1∧(t 0=v∧t 4=cf)∧t 1=.int .i64 a∧t 2=.int .i64 b∧t 3=.int .i64 L∧t 12=.int .i64 n1) ?main4 ?rest4
      case main4=>
       intro rest
       refine Qv ?_ ?_<;>intro g3
       ·have e5:∀[Inhabited Unit],IntKind.i64.wrap ((a:Int)-1)=((a-1:Nat):Int):=by intro _;rw [w64 (by omega) (by omega)];omega
        have q2:a-1<ys.length:=by omega
        simp [h0,h1,h2,h3,h8,h9,h11,g3,e5,Qq o q1,Qq o q2,Qr o q1,Qr o q2,dlt hK o]
        refine Qc ?_ ?_<;>intro g4
        ·simp [h0,h1,h2,h3,h8,h9,h11]
         refine rest _ _ ?_
         exact ⟨rfl,by simp [h0],by simp [h1],by simp [h2],by simp [h3],by simp [h10]⟩
        ·simp [h0,h1,h2,h3,h8,h9,h11]
         refine Qd (jo hK v ys e a b p o hp (by omega) (by omega) hf) ?_
         rintro _ H2 ⟨m,rfl,m1,m2,zs,sw1,⟨f1,f2⟩,o2,c2,k2⟩
         simp [h0,h1,h2,h3,h8,h9,h11]
         have low:=(pq.sw sw1 (by omega)).below g3
         have out:=sw1.out (by omega) (k:=a-1) (by omega)
         refine ih (b-m) _ _ ⟨m,b,L,w1,w2,rfl,by simp [h0],by simp,by simp [h2],by simp [h3],by simp [h8],by simp [h9],zs,sw.trans (sw1.mono l1 l3),(pq.sw sw1 (by omega)).eq ⟨m1,m2⟩ (fun k k1 k2=>?_) f1 f2,o2,c.trans c2⟩ (by omega)
         have:=low k k1 (by omega);omega
       ·simp [h0,h1,h2,h3,h8,h9,h11,g3]
        refine rest _ _ ?_
        exact ⟨rfl,by simp [h0],by simp [h1],by simp [h2],by simp [h3],by simp [h10]⟩
      case rest4=>
       rintro _ t ⟨rfl,h0,h1,h2,h3,h10⟩
       refine Qd (Qb0 hK v ys e a b p o hp (by omega) (by omega) hf) ?_
       rintro _ H2 ⟨m,d,rfl,m1,m2,zs,sw1,⟨f1,f2⟩,o2,c2,k2⟩
       have pq2:=pq.sw sw1 (by omega)
       have len2:=sw1.len
       obtain ⟨r1,hr1⟩:∃r1,r1=m-a:=⟨_,rfl⟩
       obtain ⟨r2,hr2⟩:∃r2,r2=b-m:=⟨_,rfl⟩
       obtain ⟨mm,hmm⟩:∃mm,mm=m+1:=⟨_,rfl⟩
       have e6:∀[Inhabited Unit],IntKind.i64.wrap ((m:Int)-a)=(r1:Int):=by intro _;rw [w64 (by omega) (by omega)];omega
       have e7:∀[Inhabited Unit],IntKind.i64.wrap ((b:Int)-m)=(r2:Int):=by intro _;rw [w64 (by omega) (by omega)];omega
       have e8:∀[Inhabited Unit],IntKind.i64.wrap ((m:Int)+1)=(mm:Int):=by intro _;rw [w64 (by omega) (by omega)];omega
       have f1':∀k,a≤k→k<m→G zs k≤G zs m:=fun k k1 k2=>Int.le_of_lt (f1 k k1 k2)
       have cc:=c.trans c2
       have q8:∀[Inhabited Unit],IntKind.i64.wrap ((n1:Int)/8)=(n1/8:Nat):=by intro _;rw [w64 (by omega) (by omega)];omega
       obtain ⟨n8,hn8⟩:∃n8,n8=n1/8:=⟨_,rfl⟩
       rw [← hn8] at q8
       simp [h0,h1,h2,h3,h10,e6,e7,e8,q8]
       refine Qc ?_ ?_<;>intro g7
       ·simp [h0,h1,h2,h3,h10]
        refine Qd (IH (m-a) (by omega) H2 v zs e a m L o2 (Nat.le_refl _) (by omega) (by omega) (by omega) (fun q0 k k1 k2=>pq2.below q0 k k1 (by omega)) hf (by have:=cc.1;omega)) ?_
        rintro _ H3 ⟨ws,sw3,sr3,o3,c3⟩
        simp [h0,h1,h2,h3,h10,e8]
        have hbz:m≤zs.length:=by omega
        have wm:G ws m=G zs m:=sw3.out hbz (.inr (Nat.le_refl _))
        refine ih (b-mm) _ _ ⟨mm,b,L,decide (n8≤r1),d,rfl,by simp [h0],by simp,by simp [h2],by simp [h3],by simp,by simp,ws,(sw.trans (sw1.mono l1 l3)).trans (sw3.mono l1 (by omega)),?_,o3,cc.trans c3⟩ (by omega)
        rw [hmm]
        refine (pq2.sw (sw3.mono (Nat.le_refl _) (by omega)) (by omega)).goRight ⟨m1,m2⟩ sr3 ?_ (fun k k1 k2=>?_)
        ·rw [wm];exact sw3.all hbz (p:=fun y=>y≤G zs m) f1'
        ·rw [wm,sw3.out hbz (.inr (by omega))];exact f2 k k1 k2
       ·simp [h0,h1,h2,h3,h10,e8]
        refine Qd (IH (b-mm) (by omega) H2 v zs e mm b L o2 (Nat.le_refl _) (by omega) (by omega) (by omega) (fun q0 k k1 k2=>by rw [show mm-1=m by omega];exact f2 k (by omega) k2) hf (by have:=cc.1;omega)) ?_
        rintro _ H3 ⟨ws,sw3,sr3,o3,c3⟩
        simp [h0,h1,h2,h3,h10,e8]
        have hbz:b≤zs.length:=by omega
        have wm:G ws m=G zs m:=sw3.out hbz (.inl (by omega))
        refine ih (m-a) _ _ ⟨a,m,L,decide (n8≤r2),d,rfl,by simp [h0],by simp [h1],by simp,by simp [h3],by simp,by simp,ws,(sw.trans (sw1.mono l1 l3)).trans (sw3.mono (by omega) l3),?_,o3,cc.trans c3⟩ (by omega)
        refine (pq2.sw (sw3.mono (by omega) (Nat.le_refl _)) (by omega)).goLeft ⟨m1,m2⟩ (hmm▸sr3) (fun k k1 k2=>?_) (fun k k1 k2=>?_)
        ·rw [wm,sw3.out hbz (.inl (by omega))];exact f1' k k1 k2
        ·rw [wm];exact sw3.all hbz (p:=fun y=>G zs m≤y) (fun k k1 k2=>f2 k (by omega) k2) k (by omega) k2
theorem nq (v:Value) (xs:List Int) (e:TypeId) (h:OwE e H v xs) (hl:xs.length≤1073741824) (hf:∀i∈ids v,frz≤i) (hF:frz≤H.length) :
 wp (vcall C frz 186 [v,cf] H) (fun _ H'=>∃ys:List Int,ys.Pairwise (·≤·)∧ys.Perm xs∧OwE e H' v ys∧Chg H H' (ids v)):=by
 rw [Qa (fn:=Tryz.f186) Tryz.func186 rfl (by kernel_rfl) rfl]
 have e1:∀[Inhabited Unit],IntKind.u64.wrap (xs.length:Int)=(xs.length:Int):=by intro _;exact w64u (by omega) (by omega)
 simp [h.rd.len,e1]
 refine Qd (zi xs.length (by omega)) ?_
 rintro _ H0 ⟨hH,n,rfl,_⟩
 rw [hH]
 simp
 have:=Qfh (frz:=frz) hK xs.length H v xs e 0 xs.length n h (by omega) (by omega) (Nat.le_refl _) hl (fun h=>by omega) hf hF
 refine Qd (by simpa using this) ?_
 rintro _ H1 ⟨ys,sw,sr,o,c⟩
 simp
 rw [← sw.len] at sr
 exact ⟨ys,sr.pairwise,sw.perm (Nat.le_refl _),o,c⟩
end Go.Proofs.YtaldglgobgjeaaaGreat.V
set_option linter.all false
namespace Go.Proofs.YtaldglgobgjeaaaGreat.V
open Go Go.VM Go.Proofs
set_option maxRecDepth 10000
variable {frz:Nat} {H:Heap} {v:Value} {xs ys:List Int} {e:TypeId}
theorem Bd.take (h:Bd xs) (k:Nat):Bd (xs.take k):=fun x hx=>h x (List.mem_of_mem_take hx)
theorem Bd.drop (h:Bd xs) (k:Nat):Bd (xs.drop k):=fun x hx=>h x (List.mem_of_mem_drop hx)
theorem Bd.set (h:Bd xs) (k:Nat) {x:Int} (hx:KB x):Bd (xs.set k x):=fun y hy=>by
 rcases List.mem_or_eq_of_mem_set hy with hy|rfl
 ·exact h y hy
 ·exact hx
theorem Bd.app (h:Bd xs) (h':Bd ys):Bd (xs++ys):=fun y hy=>by
 rcases List.mem_append.1 hy with hy|hy
 ·exact h y hy
 ·exact h' y hy
theorem KB0:KB 0:=⟨by decide,by decide⟩
@[simp] theorem Qgr (x y:Int):vbin Tryz.prog .eql 194 (dv x) (dv y)=some (.bool (decide (x=y))):=by
 unfold dv
 simp [cseq]
 rw [Bool.eq_iff_iff]
 simp
 omega
@[simp] theorem Qgs (x y:Int):vbin Tryz.prog .neq 194 (dv x) (dv y)=some (.bool (!decide (x=y))):=by
 unfold dv
 simp [cseq]
 rw [Bool.eq_iff_iff]
 simp
 omega
theorem Cr (o:OwE 194 H v xs) (h0:0<xs.length) {l:Nat} (hl:l≤xs.length):∃z,∀(H':Heap) (ys:List Int),OwE 194 H' v ys→ys.length=xs.length→
 vslice Tryz.prog H' 125 (some (.int .i64 (l:Nat))) none v=some z∧OwE 194 H' z (ys.drop l)∧ids z=ids v:=by
 rcases o with ⟨⟨_,rfl⟩|⟨id,off,r,rfl,k2,k3,k4,k5,k6⟩,_⟩
 ·simp at h0
 ·refine ⟨.slice (some ⟨id,off+l*2,some r.gen⟩) (xs.length-l) 0,fun H' ys o' hlen=>?_⟩
  obtain ⟨o',bd⟩:=o'
  obtain ⟨z',h1,h2,h3⟩:=o'.slice (P:=Tryz.prog) (ty:=125) (lo:=some (.int .i64 (l:Int))) (hi:=none) (l:=l) (u:=ys.length) (by simp) rfl rfl (by omega) (Nat.le_refl _)
  have e:(ys.drop l).take (ys.length-l)=ys.drop l:=List.take_of_length_le (by simp)
  rw [e] at h2
  have hz:z'=.slice (some ⟨id,off+l*2,some r.gen⟩) (xs.length-l) 0:=by
   rcases o' with ⟨hv,_⟩|⟨id',off',r',hv,q2,q3,q4,q5,q6⟩
   ·cases hv
   ·injection hv with hv1 hv2
    injection hv1 with hv1
    injection hv1 with i1 i2 i3
    injection i3 with i3
    subst i1 i2
    have hle:(l:Int)≤(xs.length:Int):=by omega
    simp [vslice,VM.look,q2,i3,vbound,q5,hle] at h1
    simp [← h1,i3]
  rw [← hz]
  exact ⟨h1,⟨h2,bd.drop l⟩,h3⟩
theorem dep0 (n:Nat):(List.replicate n [Value.int .i64 0,Value.int .i64 0]).flatten=cellsOf Fl.dep (List.replicate n 0):=by
 induction n with
 | zero=>rfl
 | succ n ih=>rw [List.replicate_succ,List.replicate_succ,Wa,List.flatten_cons,ih];rfl
theorem wt (o:OwE 194 H v ys) (h0:0<ys.length) {l:Nat} (hl:l≤ys.length) {z:Value} (hz:vslice Tryz.prog H 125 (some (.int .i64 (l:Nat))) none v=some z) (hf:∀i∈ids v,frz≤i) :
 ∃H' zs,vclear Tryz.prog frz H 125 z=some (undef,H')∧zs.length=ys.length∧zs.take l=ys.take l∧OwE 194 H' v zs∧Chg H H' (ids v):=by
 rcases o with ⟨⟨_,rfl⟩|⟨id,off,r,rfl,k2,k3,k4,k5,k6⟩,bd⟩
 ·simp at h0
 ·have hle:(l:Int)≤(ys.length:Int):=by omega
  simp [vslice,VM.look,k2,vbound,k5,hle] at hz
  subst hz
  have hfr:frz≤id:=hf id (by simp)
  have hn:Fl.dep.n=2:=rfl
  rw [hn] at k3 k4
  have hroom:off+l*2+(ys.length-l)*2≤r.cells.length:=by omega
  have one0:ones [Value.int .i64 0,Value.int .i64 0]=true:=rfl
  have onz:∀n,ones (cellsOf Fl.dep (List.replicate n (0:Int)))=true:=fun n=>by
   induction n with
   | zero=>rfl
   | succ n ih=>rw [List.replicate_succ,Wa,Jg,ih];rfl
  refine ⟨H.set id { r with cells:=VM.splice r.cells (off+l*2) (cellsOf Fl.dep (List.replicate (ys.length-l) 0)) },ys.take l++List.replicate (ys.length-l) 0,?_,by simp;omega,by rw [List.take_append_of_le_length (by simp;omega),List.take_take,Nat.min_self],?_,Qh _ _⟩
  ·rw [← dep0]
   simp [vclear,VM.look,k2,hfr,hroom,one0]
  ·have hcl:(cellsOf Fl.dep (List.replicate (ys.length-l) (0:Int))).length=(ys.length-l)*2:=by simp
   have hlt:id<H.length:=Qu k2
   have hzl:(ys.take l++List.replicate (ys.length-l) (0:Int)).length=ys.length:=by simp;omega
   refine ⟨.inr ⟨id,off,{ r with cells:=VM.splice r.cells (off+l*2) (cellsOf Fl.dep (List.replicate (ys.length-l) 0)) },by rw [hzl],by simp [hlt],?_,?_,k5,Y6 k6 (onz _)⟩,(bd.take l).app fun x hx=>by rw [(List.mem_replicate.1 hx).2];exact KB0⟩
   ·rw [hzl,hn,X7 k3 k4 (by rw [hcl];omega),Y5,← Zs]
    unfold VM.splice
    rw [hcl,hn]
    have e1:(cellsOf Fl.dep ys).drop (l*2+(ys.length-l)*2)=[]:=by rw [List.drop_eq_nil_iff];simp;omega
    rw [e1,List.append_nil]
   ·rw [hzl,hn,Yw (by rw [hcl];omega)];exact k4
theorem Bj (v:Value) (xs:List Int) (h:OwE 194 H v xs) (hl:xs.length≤1073741824) (hf:∀i∈ids v,frz≤i) :
 wp (vcall C frz 187 [v] H) (fun u H'=>OwE 194 H' u (compact xs)∧(∀i∈ids u,i∈ids v)∧Chg H H' (ids v)):=by
 rw [Qa (fn:=Tryz.f187) Tryz.func187 rfl (by kernel_rfl) rfl]
 simp [h.rd.len]
 have dk1:dk xs 1=[G xs 0]:=by simp [dk]
 refine Qc ?_ ?_<;>intro g0
 ·simp
  have:compact xs=xs:=by
   match xs,g0 with
   | [],_=>rfl
   | [a],_=>simp [compact,dk,G]
   | a::b::l,g=>simp at g;omega
  rw [this]
  exact ⟨h,Chg.refl _⟩
 ·simp
  have hl1:=h.rd.len (P:=Tryz.prog) (ty:=125) (by simp)
  refine Qg (fun n t H'=>∃i:Nat,n=xs.length-i∧1≤i∧i≤xs.length∧t 0=v∧t 3=.int .i64 i∧H'=H∧dk xs i=xs.take i) ?_ (n:=xs.length-1)
   ⟨1,rfl,by omega,by omega,by simp,by simp,rfl,by rw [dk1,Ll (by omega)];rfl⟩
  rintro n t H' ⟨i,rfl,hi1,hi,t0,t3,hH,hd⟩ ih
  rw [hH]
  simp [t0,t3,hl1]
  refine Qc ?_ ?_<;>intro g1
  ·have e1:∀[Inhabited Unit],IntKind.i64.wrap ((i:Int)-1)=((i-1:Nat):Int):=by intro _;rw [w64 (by omega) (by omega)];omega
   have p2:i-1<xs.length:=by omega
   simp [t0,t3]
   rw [Qf (h:=by kernel_rfl)]
   simp [t0,t3,e1,Qq h g1,Qq h p2,Qr h g1,Qr h p2]
   refine Qc ?_ ?_<;>intro g2
   ·obtain ⟨z,hz⟩:=Cr h (by omega) (l:=i) (by omega)
    obtain ⟨z1,_,z3⟩:=hz H xs h rfl
    simp [t0,t3,z1]
    have dki:dk xs (i+1)=xs.take i:=by
     have:0<i∧G xs (i-1)=G xs i:=⟨by omega,g2.symm⟩
     unfold dk;rw [if_pos this,hd]
    refine Qg (fun n t H'=>∃(k j:Nat) (ys:List Int),n=xs.length-(i+j)∧1≤j∧i+j≤xs.length∧k<i+j∧t 0=v∧t 3=.int .i64 k∧t 4=z∧t 5=.int .i64 j∧ys.length=xs.length∧ys.take k=dk xs (i+j)∧(∀m,i+j≤m+1→G ys m=G xs m)∧
     OwE 194 H' v ys∧Chg H H' (ids v)) ?_ (n:=xs.length-(i+1))
     ⟨i,1,xs,rfl,by omega,by omega,by omega,by simp [t0],by simp [t3],by simp,by simp,rfl,dki.symm,fun m hm=>rfl,h,Chg.refl _⟩
    clear ih hH t0 t3
    rintro n t H' ⟨k,j,ys,rfl,hj1,hj,hk,t0,t3,t4,t5,hlen,htk,hG,o,ch⟩ ih
    obtain ⟨z1',oz,_⟩:=hz H' ys o hlen
    have lz:=oz.rd.len (P:=Tryz.prog) (ty:=125) (by simp)
    have hzl:(ys.drop i).length=xs.length-i:=by simp [hlen]
    simp [t0,t3,t4,t5,lz,hlen]
    refine Qc ?_ ?_<;>intro g3
    ·have p1:j<(ys.drop i).length:=by omega
     have p2':j-1<(ys.drop i).length:=by omega
     have e2:∀[Inhabited Unit],IntKind.i64.wrap ((j:Int)-1)=((j-1:Nat):Int):=by intro _;rw [w64 (by omega) (by omega)];omega
     have e3:∀[Inhabited Unit],IntKind.i64.wrap ((j:Int)+1)=((j+1:Nat):Int):=by intro _;rw [w64 (by omega) (by omega)];omega
     have e4:∀[Inhabited Unit],IntKind.i64.wrap ((k:Int)+1)=((k+1:Nat):Int):=by intro _;rw [w64 (by omega) (by omega)];omega
     have dG:∀m,G (ys.drop i) m=G ys (i+m):=fun m=>by simp [G,List.getD_eq_getElem?_getD]
     have G1:G (ys.drop i) j=G xs (i+j):=by rw [dG,hG _ (by omega)]
     have G2:G (ys.drop i) (j-1)=G xs (i+j-1):=by rw [dG,hG _ (by omega),show i+(j-1)=i+j-1 by omega]
     simp [t0,t3,t4,t5]
     rw [Qf (h:=by kernel_rfl)]
     simp [t0,t3,t4,t5,e2,Qq oz p1,Qq oz p2',Qr oz p1,Qr oz p2',G1,G2]
     have hkl:k<ys.length:=by omega
     refine Qc ?_ ?_<;>intro g4
     ·have hd2:dk xs (i+j+1)=dk xs (i+j):=by
       have:0<i+j∧G xs (i+j-1)=G xs (i+j):=⟨by omega,g4.symm⟩
       rw [dk,if_pos this]
      simp [t0,t3,t4,t5]
      refine ih (xs.length-(i+(j+1))) _ _ ⟨k,j+1,ys,rfl,by omega,by omega,by omega,by simp [t0],by simp [t3],by simp [t4],by simp [e3],hlen,by rw [← Nat.add_assoc,hd2];exact htk,fun m hm=>hG m (by omega),o,ch⟩ (by omega)
     ·obtain ⟨H2,s2,o2',c2,l2⟩:=o.1.store (P:=Tryz.prog) (frz:=frz) (et:=194) (ag:=true) (by simp) hkl (x:=dv (G xs (i+j))) (y:=G xs (i+j)) rfl rfl hf
      have o2:OwE 194 H2 v (ys.set k (G xs (i+j))):=⟨o2',o.2.set k (h.2.G _)⟩
      simp only [Fl.dep_n] at s2
      have hd2:dk xs (i+j+1)=dk xs (i+j)++[G xs (i+j)]:=by
       have:¬(0<i+j∧G xs (i+j-1)=G xs (i+j)):=fun hh=>g4 hh.2.symm
       rw [dk,if_neg this]
      simp [t0,t3,t4,t5,Qq oz p1,Qr oz p1,G1,Qq o hkl,s2]
      refine ih (xs.length-(i+(j+1))) _ _ ⟨k+1,j+1,ys.set k (G xs (i+j)),rfl,by omega,by omega,by omega,by simp [t0],by simp [e4],by simp [t4],by simp [e3],by simp [hlen],?_,fun m hm=>?_,o2,ch.trans c2⟩ (by omega)
      ·rw [← Nat.add_assoc,hd2,← htk,List.take_succ_eq_append_getElem (by simpa using hkl),List.getElem_set_self]
       simp [List.take_set_of_le]
      ·have hmk:m≠k:=by omega
       have:G (ys.set k (G xs (i+j))) m=G ys m:=by simp [G,List.getD_eq_getElem?_getD,List.getElem?_set_ne (Ne.symm hmk)]
       rw [this];exact hG m (by omega)
    ·have hij:i+j=xs.length:=by omega
     have hkl:k≤ys.length:=by omega
     obtain ⟨y,hy⟩:=Cr o (by omega) (l:=k) hkl
     obtain ⟨y1,_,_⟩:=hy H' ys o rfl
     obtain ⟨H2,zs,cl,zl,zt,oz2,c2⟩:=wt o (by omega) hkl y1 hf
     obtain ⟨q,q1,q2',q3⟩:=oz2.1.slice (P:=Tryz.prog) (ty:=125) (lo:=none) (hi:=some (.int .i64 (k:Int))) (l:=0) (u:=k) (by simp) rfl rfl (Nat.zero_le _) (by omega)
     simp [t0,t3,t4,t5,y1,cl,q1]
     have q2:OwE 194 H2 q ((zs.drop 0).take (k-0)):=⟨q2',oz2.2.take k⟩
     simp only [List.drop_zero,Nat.sub_zero,zt,htk,hij] at q2
     exact ⟨q2,by rw [q3];exact fun i hi=>hi,ch.trans c2⟩
   ·simp [t0,t3]
    refine ih (xs.length-(i+1)) _ _ ⟨i+1,rfl,by omega,by omega,by simp [t0],?_,rfl,?_⟩ (by omega)
    ·simp;rw [w64 (by omega) (by omega)]
    ·have:¬(0<i∧G xs (i-1)=G xs i):=fun hh=>g2 hh.2.symm
     unfold dk;rw [if_neg this,Ll g1,hd]
  ·have him:i=xs.length:=by omega
   simp [t0]
   rw [him,List.take_length] at hd
   exact ⟨by rw [compact,hd];exact h,Chg.refl _⟩
@[simp] theorem Qcn (g:Fn) (a b:Array Value):(Value.func g a b).cells=#[Value.func g a b]:=rfl
@[simp] theorem Qeo (g:Fn) (a b:Array Value):VM.one (Value.func g a b)=true:=rfl
def keyD (a b:Int):Int:=1024*a+b
theorem Qbe {a b:Int} (h:0≤b∧b<1024):dv (keyD a b)=.agg #[.int .i64 a,.int .i64 b]:=by
 have e1:keyD a b/1024=a:=by unfold keyD;omega
 have e2:keyD a b%1024=b:=by unfold keyD;omega
 rw [dv,e1,e2]
theorem M4 (x y:Int) (hx:KB x) (hy:KB y):vcall C frz 180 [dv x,dv y] H=some (.int .i64 (cmpZ x y),H):=by
 rw [Qa (fn:=Tryz.f180) Tryz.func180 rfl (by kernel_rfl) rfl]
 have h1:=hx.1;have h2:=hx.2;have h3:=hy.1;have h4:=hy.2
 have e1:=@w6 (x/1024-y/1024) (by omega)
 have e2:=@w6 (x%1024-y%1024) (by omega)
 simp [dv]
 refine Q0 _ ?_ ?_<;>intro g<;>simp [g,e1,e2,cmpZ]
theorem O0 (v:Value) (xs:List Int) (h:OwE 194 H v xs) (hl:xs.length≤1073741824) (hf:∀i∈ids v,frz≤i) (hF:frz≤H.length) :
 wp (vcall C frz 158 [v] H) (fun u H'=>OwE 194 H' u (arrK xs)∧(∀i∈ids u,i∈ids v)∧Chg H H' (ids v)):=by
 rw [Qa (fn:=Tryz.f158) Tryz.func158 rfl (by kernel_rfl) rfl]
 simp
 refine Qd (nq (cf:=.func (.func 180) #[] #[]) (fun F K x y hx hy=>by simp [M4 x y hx hy]) v xs _ h hl hf hF) ?_
 rintro _ H1 ⟨ys,y1,y2,o1,c1⟩
 simp
 refine Qd (Bj v ys o1 (by rw [y2.length_eq];exact hl) hf) ?_
 rintro u H2 ⟨o2,n2,c2⟩
 simp
 obtain ⟨q1,q2⟩:=Px y1
 have:compact ys=arrK xs:=Ed q1 (Pb _) fun x=>by rw [q2,Tz,y2.mem_iff]
 rw [this] at o2
 exact ⟨o2,n2,c1.trans c2⟩
def CB (a b:Int):Prop:=(0≤a∧a<1024)∧0≤b∧b<1024
theorem CB.kb {a b:Int} (h:CB a b):KB (keyD a b):=by obtain ⟨⟨h1,h2⟩,h3,h4⟩:=h;unfold KB keyD;omega
theorem Cx (o:OwE 194 H v xs) {a b:Int} (hb:CB a b) (hl:xs.length+1≤1073741824) (hf:∀i∈ids v,frz≤i) :
 ∃v' H',vappend Tryz.prog frz (H++[⟨[.int .i64 a,.int .i64 b],0,194⟩]) 125 125 v (.slice (some ⟨H.length,0,some 0⟩) 1 0)=some (v',H')∧OwE 194 H' v' (xs++[keyD a b])∧Chg H H' (ids v)∧∀i∈ids v',i∈ids v∨H.length≤i:=by
 obtain ⟨v',H',h1,h2,h3,h4⟩:=o.1.push (P:=Tryz.prog) (frz:=frz) (ty:=125) (a:=keyD a b) (by simp) rfl hl hf
 have e:Fl.dep.f (keyD a b)=[.int .i64 a,.int .i64 b]:=by
  have:=Qbe (a:=a) hb.2
  rw [← xq] at this
  injection this with this
  exact List.toArray_inj this
 rw [e] at h1
 exact ⟨v',H',h1,⟨h2,o.2.app fun x hx=>by rw [List.mem_singleton.1 hx];exact hb.kb⟩,h3,h4⟩
def BoxD (H:Heap) (r:Nat) (x:Value) (xs:List Int):Prop:=H[r]? = some ⟨[x],0,125⟩∧OwE 194 H x xs∧r∉ids x
theorem Lt (r:Nat) (x:Value) (xs:List Int) (a b:Int) (h:BoxD H r x xs) (hb:CB a b) (hl:xs.length+1≤1073741824) (hf:∀i∈ids x,frz≤i) (hr:frz≤r) :
 wp (vcall C frz 161 [.int .i64 a,.int .i64 b,.pointer (some ⟨r,0,some 0⟩)] H) (fun _ H'=>∃x',BoxD H' r x' (xs++[keyD a b])∧(∀i∈ids x',i∈ids x∨H.length≤i)∧Chg H H' (r::ids x)):=by
 obtain ⟨g,o,nr⟩:=h
 rw [Qa (fn:=Tryz.f161) Tryz.func161 rfl (by kernel_rfl) rfl]
 obtain ⟨x',H2,hap,o2,c2,n2⟩:=Cx o hb hl hf
 have hlt:=Qu g
 have g2:H2[r]? = some ⟨[x],0,125⟩:=Qb g c2 nr
 have on:=And.intro o.rd.one' o.rd.cells
 have on2:=And.intro o2.rd.one' o2.rd.cells
 simp [VM.look,g,on,hap]
 simp [VM.look,g2,on2,hr]
 have nr2:r∉ids x':=fun hh=>by
  rcases n2 r hh with q|q
  ·exact nr q
  ·omega
 refine ⟨x',⟨Qo g2,o2.chg (Qh _ _) (fun i hi hh=>by simp at hh;subst hh;exact nr2 hi),nr2⟩,n2,(c2.mono (by simp +contextual)).trans ((Qh _ _).mono (by simp))⟩
theorem Tu (n a m:Nat):(rowPairs n a m).length≤m:=by
 unfold rowPairs
 rw [List.length_map]
 exact Nat.le_trans (List.length_filter_le ..) (by simp)
theorem Yp (n:Nat):∀m,(allPairs n m).length≤m*n
 | 0=>by simp [allPairs]
 | m+1=>by
  rw [Y8,List.length_append,Nat.succ_mul]
  have:=Yp n m
  have:=Tu n m n
  omega
theorem Ag (n i j:Nat) (hi:i<n) (hj:j≤n) (hn:n≤16):(allPairs n i++rowPairs n i j).length≤256:=by
 rw [List.length_append]
 have h1:=Yp n i
 have h2:=Tu n i j
 have h3:i*n≤15*16:=Nat.mul_le_mul (by omega) hn
 omega
theorem ju (w h:Int) (f:Value) {Q:Value→Heap→Prop} (Inv:List (Nat×Nat)→Heap→Prop)
 (h0:Inv [] (H++[⟨[.int .i64 w,.int .i64 h],0,25⟩]))
 (hs:∀(done:List (Nat×Nat)) (a c:Nat) (H':Heap),a<(cnt w h).toNat→c<(cnt w h).toNat→a≠c→done.length≤256→Inv done H'→wp (vclos (vcall C frz) f [.int .i64 a,.int .i64 c] H') fun r H''=>(r=.bool true∧Inv (done++[(a,c)]) H'')∨(r=.bool false∧Q (.bool false) H''))
 (he:∀H',Inv (allPairs (cnt w h).toNat (cnt w h).toNat) H'→Q (.bool true) H') :
 wp (vcall C frz 95 [.agg #[.int .i64 w,.int .i64 h],f] H) Q:=by
 rw [Qa (fn:=Tryz.f95) Tryz.func95 rfl (by kernel_rfl) rfl]
 have hc:=Qe w h
 simp [Q7]
 refine Qg (fun n t H'=>∃(i:Nat),n=(cnt w h).toNat-i∧i≤(cnt w h).toNat∧t 1=f∧t 5=.int .i64 (cnt w h)∧t 10=.int .i64 (cnt w h)∧t 11=.int .i64 i∧
  Inv (allPairs (cnt w h).toNat i) H') ?_ (n:=(cnt w h).toNat) ⟨0,by simp [allPairs,h0]⟩
 rintro n t H' ⟨i,rfl,hi,h1,h5,h10,h11,hk⟩ ih
 simp [h1,h5,h10,h11]
 refine Qc ?_ ?_<;>intro hlt
 ·simp [h1,h5,h10,h11,hlt]
  refine Qg (fun n t H'=>∃(j:Nat),n=(cnt w h).toNat-j∧j≤(cnt w h).toNat∧t 1=f∧t 5=.int .i64 (cnt w h)∧t 10=.int .i64 (cnt w h)∧t 11=.int .i64 i∧t 6=.int .i64 i∧t 14=.int .i64 (cnt w h)∧t 15=.int .i64 j∧
   Inv (allPairs (cnt w h).toNat i++rowPairs (cnt w h).toNat i j) H') ?_ (n:=(cnt w h).toNat) ⟨0,by simp [h1,h5,h10,h11,rowPairs,hk]⟩
  clear h1 h5 h10 h11 hk
  rintro n t H' ⟨j,rfl,hj,h1,h5,h10,h11,h6,h14,h15,hk⟩ ih2
  simp [h1,h5,h10,h11,h6,h14,h15]
  refine Qc ?_ ?_<;>intro hlj
  ·have ni:i<(cnt w h).toNat:=by omega
   have nj:j<(cnt w h).toNat:=by omega
   have yes:=fun (t':Env) (H':Heap) (x1:t' 1=f) (x5:t' 5=.int .i64 (cnt w h)) (x10:t' 10=.int .i64 (cnt w h)) (x11:t' 11=.int .i64 i) (x6:t' 6=.int .i64 i) (x14:t' 14=.int .i64 (cnt w h)) (x15:t' 15=.int .i64 (j+1:Nat)) (hg:Inv (allPairs (cnt w h).toNat i++rowPairs (cnt w h).toNat i (j+1)) H')=>
    ih2 ((cnt w h).toNat-(j+1)) t' H' ⟨j+1,rfl,by omega,x1,x5,x10,x11,x6,x14,x15,hg⟩ (by omega)
   simp [h1,h5,h10,h11,h6,h14,h15,hlj]
   refine Qv ?_ ?_<;>intro hij
   ·simp [h1,h5,h10,h11,h6,h14,h15,hlj,hij]
    refine yes _ _ (by simp [h1]) (by simp [h5]) (by simp [h10]) (by simp [h11]) (by simp [h6]) (by simp [h14]) ?_ (by rw [Rf _ _ _ (by omega)];exact hk)
    simp;rw [w64 (by omega) (by omega)]
   ·simp [h1,h5,h10,h11,h6,h14,h15,hlj,hij]
    refine Qd (hs _ i j H' ni nj (by omega) (Ag _ _ _ (by omega) hj (by have:=Qe w h;omega)) hk) ?_
    rintro r H'' (⟨rfl,hq⟩|⟨rfl,hq⟩)
    ·simp [h1,h5,h10,h11,h6,h14,h15,hlj,hij]
     refine yes _ _ (by simp [h1]) (by simp [h5]) (by simp [h10]) (by simp [h11]) (by simp [h6]) (by simp [h14]) ?_ (by rw [Ra _ _ _ (by omega),← List.append_assoc];exact hq)
     simp;rw [w64 (by omega) (by omega)]
    ·simp [h1,h5,h10,h11,h6,h14,h15,hlj,hij]
     exact hq
  ·have:j=(cnt w h).toNat:=by omega
   subst this
   simp [h1,h5,h10,h11,h6,h14,h15,hlj]
   refine ih ((cnt w h).toNat-(i+1)) _ _ ⟨i+1,rfl,by omega,by simp [h1],by simp [h5],by simp [h10],?_,by rw [Y8];exact hk⟩ (by omega)
   ·simp;rw [w64 (by omega) (by omega)]
 ·simp [h1,h5,h10,h11,hlt]
  have:i=(cnt w h).toNat:=by omega
  subst this
  exact he _ hk
def adjN (l:List Int) (i:Nat):List Int:=(List.range i).map fun k=>keyD (G l k) (G l (k+1))
def adjK (l:List Int):List Int:=adjN l (l.length-1)
theorem Bw (l:List Int) (i:Nat):adjN l (i+1)=adjN l i++[keyD (G l i) (G l (i+1))]:=by simp [adjN,List.range_succ]
theorem Gu (l:List Int) (i:Nat):(adjN l i).length=i:=by simp [adjN]
def DI (K:Heap) (r:Nat) (D:List Nat) (xs:List Int) (H':Heap):Prop:=∃x,BoxD H' r x xs∧(∀i∈ids x,i∈D∨K.length≤i)∧Chg K H' (r::D)
theorem DI.trans {K K1 H':Heap} {r:Nat} {D:List Nat} {x0:Value} {xs:List Int} (c:Chg K K1 (r::D)) (n:∀i∈ids x0,i∈D∨K.length≤i) (h:DI K1 r (ids x0) xs H'):DI K r D xs H':=by
 obtain ⟨x,bx,nx,ch⟩:=h
 have:=c.1
 refine ⟨x,bx,fun i hi=>?_,c.trans' ch fun i hi=>?_⟩
 ·rcases nx i hi with q|q
  ·exact n i q
  ·right;omega
 ·rcases List.mem_cons.1 hi with rfl|hi
  ·exact .inl (List.mem_cons_self ..)
  ·rcases n i hi with q|q
   ·exact .inl (List.mem_cons_of_mem _ q)
   ·exact .inr q
theorem xn (H:Heap) (xs:List Int):∃z L,V.ret H xs=(z,H++L)∧IsI (H++L) z xs∧∀i∈ids z,H.length≤i∧i<(H++L).length:=by
 unfold V.ret
 split
 ·rename_i h;subst h
  exact ⟨_,[],by rw [List.append_nil],.inl ⟨rfl,rfl⟩,fun i hi=>by simp at hi⟩
 ·exact ⟨_,_,rfl,IsI.at0 rfl,fun i hi=>by simp at hi;subst hi;simp⟩
theorem J9 (w h:Int) (v u:Value) (b T:List Int) (K:Heap) (r r1 r2 r3:Nat) (D:List Nat) (a c:Nat) (xs:List Int) (hI:IsI K v b) (hT:IsI K u T) (hl:b.length≤1073741824) (hz:tsized w h b T)
 (ha:a<(cnt w h).toNat) (hc:c<(cnt w h).toNat) (hne:a≠c) (hw:∀x∈walk w h b T a c,0≤x∧x<1024) (hx:xs.length≤1048576)
 (g1:K[r1]? = some ⟨[.int .i64 w,.int .i64 h,v],0,28⟩) (g2:K[r2]? = some ⟨[u],0,30⟩) (g3:K[r3]? = some ⟨[.func (.func 161) #[] #[.pointer (some ⟨r,0,some 0⟩)]],0,200⟩)
 (n1:r1∉r::D) (n2:r2∉r::D) (n3:r3∉r::D) (nv:∀i∈ids v,i∉r::D) (nu:∀i∈ids u,i∉r::D) (hr:frz≤r) (hD:∀i∈D,frz≤i) (hK:frz≤K.length) (hd:DI K r D xs H) :
 wp (vcall C frz 189 [.int .i64 a,.int .i64 c,.pointer (some ⟨r1,0,some 0⟩),.pointer (some ⟨r2,0,some 0⟩),.pointer (some ⟨r3,0,some 0⟩)] H) (fun u H'=>u=.bool true∧DI K r D (xs++adjK (walk w h b T a c)) H'):=by
 obtain ⟨x,⟨bx,o,nr⟩,nx,ch⟩:=hd
 have b1:=Qb g1 ch n1
 have b2:=Qb g2 ch n2
 have b3:=Qb g3 ch n3
 rw [Qa (fn:=Tryz.f189) Tryz.func189 rfl (by kernel_rfl) rfl]
 have hIH:=(hI.rd.chg ch nv).isI
 have hTH:=(hT.rd.chg ch nu).isI
 obtain ⟨z,L,e0,hz1,hz2⟩:=xn H (walk w h b T a c)
 have wc:=fun F=>jk (frz:=F) w h v u b T a c hIH hTH hl hz (Q9 ha) (Q9 hc) (by omega)
 have wl:(walk w h b T a c).length≤256:=by
  have:=S0 w h b T c (cnt w h).toNat a []
  have:=Qe w h
  unfold walk;simp at *;omega
 have onv:=And.intro hI.one' hI.cells
 have onu:=And.intro hT.one' hT.cells
 generalize hws:walk w h b T a c=ws at *
 simp [VM.look,b1,b2,wc,e0,onv,onu]
 have hrH:=Qu bx
 have oL:=o.lt
 refine Qg (fun n t H'=>∃i:Nat,n=ws.length-i∧1≤i∧i≤max 1 ws.length∧t 4=.pointer (some ⟨r3,0,some 0⟩)∧t 8=z∧t 9=.int .i64 i∧DI (H++L) r (ids x) (xs++adjN ws (i-1)) H') ?_ (n:=ws.length-1)
  ⟨1,rfl,by omega,by omega,by simp,by simp,by simp,x,⟨Qn bx _,by simpa [adjN] using o.app,nr⟩,fun i hi=>.inl hi,Chg.refl _⟩
 rintro n t H' ⟨i,rfl,hi1,hi2,t4,t8,t9,di⟩ ih
 obtain ⟨x1,⟨bx1,o1,nr1⟩,nx1,ch1⟩:=di
 have zH:IsI H' z ws:=(hz1.rd.chg ch1 fun j hj hh=>by
  have:=(hz2 j hj).1
  rcases List.mem_cons.1 hh with rfl|hh
  ·omega
  ·have:=oL j hh;omega).isI
 have b3':H'[r3]? = some ⟨[.func (.func 161) #[] #[.pointer (some ⟨r,0,some 0⟩)]],0,200⟩:=Qb (Qn b3 L) ch1 (fun hh=>by
  rcases List.mem_cons.1 hh with q|hh
  ·exact n3 (q▸List.mem_cons_self ..)
  ·rcases nx r3 hh with q|q
   ·exact n3 (List.mem_cons_of_mem _ q)
   ·have:=Qu g3;omega)
 simp [t4,t8,t9,zH.len]
 refine Qc ?_ ?_<;>intro hlt
 ·have e1:∀[Inhabited Unit],IntKind.i64.wrap ((i:Int)-1)=((i-1:Nat):Int):=by intro _;rw [w64 (by omega) (by omega)];omega
  have p1:∀(k:Nat),k<ws.length→vindexAddr Tryz.prog H' 26 z (.int .i64 k)=some (elp z k)∧vload Tryz.prog H' 3 (elp z k)=some (.int .i64 (G ws k)):=fun k hk=>by
   refine ⟨?_,zH.load (by simp) hk⟩
   have:=zH.idx (P:=Tryz.prog) (ty:=26) (e:=3) (by simp) (i:=(k:Int)) (by omega) (by omega)
   simpa using this
  have q1:=p1 i (by omega)
  have q2:=p1 (i-1) (by omega)
  have cb:CB (G ws (i-1)) (G ws i):=by
   rw [Wr (by omega:i-1<ws.length),Wr (by omega:i<ws.length)]
   exact ⟨hw _ (List.getElem_mem _),hw _ (List.getElem_mem _)⟩
  have hn:(adjN ws (i-1)).length=i-1:=Gu _ _
  simp [t4,t8,t9]
  rw [Qf (h:=by kernel_rfl)]
  simp [VM.look,t4,t8,t9,b3',e1,q1,q2]
  refine Qd (Lt r x1 _ (G ws (i-1)) (G ws i) ⟨bx1,o1,nr1⟩ cb (by simp [hn];omega) (fun j hj=>?_) hr) ?_
  ·rcases nx1 j hj with q|q
   ·rcases nx j q with q|q
    ·exact hD j q
    ·omega
   ·have:=ch.1;simp at q;omega
  rintro _ H2 ⟨x2,bx2,nx2,c2⟩
  simp [t4,t8,t9]
  refine ih (ws.length-(i+1)) _ _ ⟨i+1,rfl,by omega,by omega,by simp [t4],by simp [t8],?_,?_⟩ (by omega)
  ·simp;rw [w64 (by omega) (by omega)]
  ·have e3:adjN ws (i+1-1)=adjN ws (i-1)++[keyD (G ws (i-1)) (G ws i)]:=by
    have:=Bw ws (i-1)
    rw [show i-1+1=i by omega] at this
    exact this
   rw [e3,← List.append_assoc]
   exact DI.trans ch1 nx1 ⟨x2,bx2,nx2,c2⟩
 ·simp
  have e3:adjN ws (i-1)=adjK ws:=by
   unfold adjK
   by_cases h0:ws.length=0
   ·rw [show i-1=ws.length-1 by omega]
   ·rw [show i-1=ws.length-1 by omega]
  rw [← e3]
  refine DI.trans (x0:=x) (K1:=H++L) (ch.trans' (Chg.app (r::D)) fun j hj=>.inl hj) nx ⟨x1,⟨bx1,o1,nr1⟩,nx1,ch1⟩
def walkAdj (w h:Int) (b T:List Int) (l:List (Nat×Nat)):List Int:=l.flatMap fun p=>adjK (walk w h b T p.1 p.2)
theorem Kt (w h:Int) (b T:List Int) (l:List (Nat×Nat)) (p:Nat×Nat):walkAdj w h b T (l++[p])=walkAdj w h b T l++adjK (walk w h b T p.1 p.2):=by simp [walkAdj]
theorem qj (w h:Int) (b T:List Int) (a c:Int):(walk w h b T a c).length≤256:=by
 have:=S0 w h b T c (cnt w h).toNat a []
 have:=Qe w h
 unfold walk;simp at *;omega
theorem U7 (w h:Int) (b T:List Int) (l:List (Nat×Nat)):(walkAdj w h b T l).length≤256*l.length:=by
 induction l with
 | nil=>simp [walkAdj]
 | cons p l ih=>
  have e:walkAdj w h b T (p::l)=adjK (walk w h b T p.1 p.2)++walkAdj w h b T l:=rfl
  rw [e,List.length_append,List.length_cons]
  have h1:=qj w h b T p.1 p.2
  have h2:(adjK (walk w h b T p.1 p.2)).length=(walk w h b T p.1 p.2).length-1:=Gu _ _
  omega
theorem Di (w h:Int) (v u:Value) (b T:List Int) (r:Nat) (x0:Value) (hI:IsI H v b) (hT:IsI H u T) (hl:b.length≤1073741824) (hz:tsized w h b T)
 (hw:∀a c:Nat,a<(cnt w h).toNat→c<(cnt w h).toNat→∀x∈walk w h b T a c,0≤x∧x<1024)
 (bx:BoxD H r x0 []) (nv:∀i∈ids v,i∉r::ids x0) (nu:∀i∈ids u,i∉r::ids x0) (hr:frz≤r) (hf:∀i∈ids x0,frz≤i) (hF:frz≤H.length) :
 wp (vcall C frz 160 [.agg #[.int .i64 w,.int .i64 h,v],.agg #[u],.func (.func 161) #[] #[.pointer (some ⟨r,0,some 0⟩)]] H) (fun _ H'=>DI H r (ids x0) (walkAdj w h b T (allPairs (cnt w h).toNat (cnt w h).toNat)) H'):=by
 rw [Qa (fn:=Tryz.f160) Tryz.func160 rfl (by kernel_rfl) rfl]
 have onv:=And.intro hI.one' hI.cells
 have onu:=And.intro hT.one' hT.cells
 simp [onv,onu,VM.look]
 obtain ⟨M,hM⟩:∃M:Heap,M=[⟨[.int .i64 w,.int .i64 h,v],0,28⟩,⟨[u],0,30⟩,⟨[.func (.func 161) #[] #[.pointer (some ⟨r,0,some 0⟩)]],0,200⟩]:=⟨_,rfl⟩
 rw [← hM]
 obtain ⟨bx1,bx2,bx3⟩:=bx
 have hrl:=Qu bx1
 have hxl:=bx2.lt
 have hMl:M.length=3:=by rw [hM];rfl
 refine Qd (ju w h _ (Q:=fun r' H'=>r'=.bool true∧DI H r (ids x0) (walkAdj w h b T (allPairs (cnt w h).toNat (cnt w h).toNat)) H')
  (fun done H'=>DI (H++M) r (ids x0) (walkAdj w h b T done) H') ?_ ?_ ?_) ?_
 ·exact ⟨x0,⟨Qn (Qn bx1 _) _,by simpa [walkAdj] using bx2.app.app,bx3⟩,fun i hi=>.inl hi,Chg.app _⟩
 ·rintro done a c H' ha hc hne hd di
  have hlen:=U7 w h b T done
  simp
  refine (J9 w h v u b T (H++M) r H.length (H.length+1) (H.length+2) (ids x0) a c _ (hI.app _) (hT.app _) hl hz ha hc hne (hw a c ha hc) (by omega) (by simp [hM]) (by simp [hM]) (by simp [hM]) ?_ ?_ ?_ nv nu hr hf (by simp;omega) di).mono ?_
  ·simp;exact ⟨by omega,fun hh=>by have:=hxl _ hh;omega⟩
  ·simp;exact ⟨by omega,fun hh=>by have:=hxl _ hh;omega⟩
  ·simp;exact ⟨by omega,fun hh=>by have:=hxl _ hh;omega⟩
  ·rintro _ H2 ⟨rfl,di2⟩
   rw [Kt]
   exact ⟨rfl,di2⟩
 ·intro H' di
  exact ⟨rfl,DI.trans (Chg.app _) (fun i hi=>.inl hi) di⟩
 ·rintro _ H' ⟨rfl,di⟩
  simp
  exact di
theorem F9 {w h:Int} {b T:List Int} {to:Int}:∀(f:Nat) (a:Int) (out:List Int),isN w h a→(∀x∈out,0≤x∧x<64)→∀x∈walkN w h b T to f a out,0≤x∧x<64:=by
 intro f
 induction f with
 | zero=>
  intro a out ha ho x hx
  simp only [walkN] at hx
  repeat' split at hx
  ·exact ho x hx
  ·simp at hx
  ·simp at hx
 | succ f ih=>
  intro a out ha ho x hx
  simp only [walkN] at hx
  repeat' split at hx
  ·exact ho x hx
  ·simp at hx
  ·rename_i hs
   refine ih _ _ (Xl hs.1 hs.2).2.2 (fun y hy=>?_) x hx
   rcases List.mem_append.1 hy with hy|hy
   ·exact ho y hy
   ·rw [List.mem_singleton.1 hy]
    have:=hs.1;have:=(Uc ha).2
    unfold inR at *
    omega
  ·simp at hx
theorem Zp {w h:Int} {b T:List Int} {a to:Int} (ha:isN w h a):∀x∈walk w h b T a to,0≤x∧x<64:=F9 _ _ _ ha (by simp)
def MadeE (H:Heap) (xs:List Int) (r:Value) (H':Heap):Prop:=OwE 194 H' r xs∧Chg H H' []∧∀i∈ids r,H.length≤i
noncomputable def depsOf (w h:Int) (b T:List Int):List Int:=if tableOk w h b T then arrK (walkAdj w h b T (allPairs (cnt w h).toNat (cnt w h).toNat)) else []
theorem S9 (w h:Int) (v u:Value) (b T:List Int) (hI:IsI H v b) (hT:IsI H u T) (hl:b.length≤1073741824) (hF:frz≤H.length) :
 wp (vcall C frz 115 [.agg #[.int .i64 w,.int .i64 h,v],.agg #[u]] H) (MadeE H (depsOf w h b T)):=by
 rw [Qa (fn:=Tryz.f115) Tryz.func115 rfl (by kernel_rfl) rfl]
 have onv:=And.intro hI.one' hI.cells
 have onu:=And.intro hT.one' hT.cells
 have nv:=hI.rd.lt
 have nu:=hT.rd.lt
 have tk:=fun F=>Sg (frz:=F) w h v u b T (hI.app [⟨[.int .i64 w,.int .i64 h,v],0,28⟩,⟨[u],0,30⟩,⟨[],0,194⟩,⟨[.slice (some ⟨H.length+2,0,some 0⟩) 0 0],0,125⟩]) (hT.app _) hl
 simp [onv,onu,VM.look,tk]
 obtain ⟨M,hM⟩:∃M:Heap,M=[⟨[.int .i64 w,.int .i64 h,v],0,28⟩,⟨[u],0,30⟩,⟨[],0,194⟩,⟨[.slice (some ⟨H.length+2,0,some 0⟩) 0 0],0,125⟩]:=⟨_,rfl⟩
 have o0:OwE 194 (H++M) (.slice (some ⟨H.length+2,0,some 0⟩) 0 0) []:=⟨by rw [hM];exact Ow.new (D:=Fl.dep) (xs:=[]) (k:=2) rfl rfl rfl rfl,fun x hx=>by simp at hx⟩
 have g0:(H++M)[H.length+3]? = some ⟨[.slice (some ⟨H.length+2,0,some 0⟩) 0 0],0,125⟩:=by rw [hM];simp
 have b0:(H++M)[H.length]? = some ⟨[.int .i64 w,.int .i64 h,v],0,28⟩:=by rw [hM];simp
 have b1:(H++M)[H.length+1]? = some ⟨[u],0,30⟩:=by rw [hM];simp
 rw [← hM]
 have hMl:M.length=4:=by rw [hM];rfl
 clear hM tk
 refine Qc ?_ ?_<;>intro g
 ·simp [VM.look,g0,b0,b1]
  refine Qd (Di w h v u b T (H.length+3) (.slice (some ⟨H.length+2,0,some 0⟩) 0 0) (hI.app _) (hT.app _) hl g.1 (fun a c ha hc x hx=>by have:=Zp (b:=b) (T:=T) (Q9 ha) (to:=c) x hx;omega) ⟨g0,o0,by simp⟩ ?_ ?_ (by omega) (by simp) (by simp)) ?_
  ·intro i hi hh;have:=nv i hi;simp at hh;omega
  ·intro i hi hh;have:=nu i hi;simp at hh;omega
  rintro _ H1 ⟨x,⟨bx1,bx2,bx3⟩,nx,ch⟩
  have hlen:=U7 w h b T (allPairs (cnt w h).toNat (cnt w h).toNat)
  have hpl:=Yp (cnt w h).toNat (cnt w h).toNat
  have hcn:(cnt w h).toNat*(cnt w h).toNat≤16*16:=Nat.mul_le_mul (by have:=Qe w h;omega) (by have:=Qe w h;omega)
  have nxx:∀i∈ids x,H.length≤i:=fun i hi=>by
   rcases nx i hi with q|q
   ·simp at q;omega
   ·simp at q;omega
  have c1:=ch.1
  simp at c1
  simp [VM.look,bx1]
  refine Qd (O0 x _ bx2 (by omega) nxx (by omega)) ?_
  rintro u2 H2 ⟨o2,n2,c2⟩
  simp
  have:depsOf w h b T=arrK (walkAdj w h b T (allPairs (cnt w h).toNat (cnt w h).toNat)):=by rw [depsOf,if_pos g]
  rw [← this] at o2
  refine ⟨o2,?_,fun i hi=>nxx i (n2 i hi)⟩
  refine (((Chg.app (H:=H) (L:=M) []).trans' ch (fun i hi=>.inr ?_)).trans' c2 fun i hi=>.inr (nxx i hi))
  simp at hi;omega
 ·simp [VM.look,g0]
  rw [depsOf,if_neg g]
  exact ⟨o0,Chg.app _,by simp⟩
@[simp] theorem Qd5 (x:Int):(dv x).cells=#[.int .i64 (x/1024),.int .i64 (x%1024)]:=rfl
theorem T2 (x:Int):Value.agg #[.int .i64 (x/1024),.int .i64 (x%1024)]=dv x:=rfl
@[simp] theorem Qf5 (x y:Int):0≤cmpZ x y↔y≤x:=by unfold cmpZ;split<;>omega
def dAt (xs:List Int) (j:Nat):Prop:=(G xs j/1024≤127∧G xs j%1024≤127)∧(0<j→G xs (j-1)<G xs j)
instance (xs:List Int) (j:Nat):Decidable (dAt xs j):=inferInstanceAs (Decidable (_∧_))
def dOk (xs:List Int):Prop:=∀j,j<xs.length→dAt xs j
instance (xs:List Int):Decidable (dOk xs):=inferInstanceAs (Decidable (∀j,_→_))
theorem Dz (h:xs.Pairwise (· < ·)) (hs:∀x∈xs,x/1024≤127∧x%1024≤127):dOk xs:=fun j hj=>by
 refine ⟨?_,fun h0=>?_⟩
 ·rw [Wr hj];exact hs _ (List.getElem_mem hj)
 ·rw [Wr hj,Wr (by omega:j-1<xs.length)]
  exact List.pairwise_iff_getElem.1 h _ _ _ _ (by omega)
theorem Co (o:OwE e H v xs) {i:Nat} (h1:i<xs.length):∀L,vindexAddr Tryz.prog (H++L) 125 v (.int .i64 i)=some (elp v (i*2))∧vload Tryz.prog (H++L) 194 (elp v (i*2))=some (dv (G xs i)):=fun L=>⟨Qq o.app h1,Qr o.app h1⟩
theorem Ji (v:Value) (xs:List Int) (h:OwE e H v xs) (hl:xs.length≤1073741824):wp (vcall C frz 153 [v] H) (fun r _=>r=.bool (decide (dOk xs))):=by
 rw [Qa (fn:=Tryz.f153) Tryz.func153 rfl (by kernel_rfl) rfl]
 simp [h.rd.len]
 refine Qg (fun n t H'=>∃i:Nat,n=xs.length-i∧i≤xs.length∧t 0=v∧t 5=v∧t 6=.int .i64 xs.length∧t 7=.int .i64 i∧(∃L,H'=H++L)∧∀j,j<i→dAt xs j) ?_ (n:=xs.length)
  ⟨0,by simp,by omega,by simp,by simp,by simp,by simp,⟨[],by simp⟩,fun j hj=>by omega⟩
 rintro n t H' ⟨i,rfl,hi,t0,t5,t6,t7,⟨L,rfl⟩,hd⟩ ih
 simp [t0,t5,t6,t7]
 refine Qc ?_ ?_<;>intro hlt
 ·have b:=h.2.G i
  have b1:=b.1;have b2:=b.2
  have p1:=Co h hlt
  simp [t0,t5,t6,t7,p1]
  rw [Qf (h:=by kernel_rfl)]
  have e1:0<i→∀[Inhabited Unit],IntKind.i64.wrap ((i:Int)-1)=((i-1:Nat):Int):=by intro _ _;rw [w64 (by omega) (by omega)];omega
  have p2:0<i→∀L,vindexAddr Tryz.prog (H++L) 125 v (.int .i64 (i-1:Nat))=some (elp v ((i-1)*2))∧vload Tryz.prog (H++L) 194 (elp v ((i-1)*2))=some (dv (G xs (i-1))):=fun h0 L=>Co h (by omega) L
  have cc:=fun F K (j k:Nat)=>M4 (frz:=F) (H:=K) (G xs j) (G xs k) (h.2.G j) (h.2.G k)
  have yes:=fun (t':Env) (L':Heap) (x0:t' 0=v) (x5:t' 5=v) (x6:t' 6=.int .i64 xs.length) (x7:t' 7=.int .i64 (i+1:Nat)) (hq:dAt xs i)=>
   ih (xs.length-(i+1)) t' (H++L') ⟨i+1,rfl,by omega,x0,x5,x6,x7,⟨L',rfl⟩,fun j hj=>by
    by_cases hji:j<i
    ·exact hd j hji
    ·rw [show j=i by omega];exact hq⟩ (by omega)
  have w1:IntKind.i64.wrap ((i:Int)+1)=((i+1:Nat):Int):=by rw [w64 (by omega) (by omega)];omega
  simp [t0,t5,t6,t7,p1,VM.look,Qm,T2]
  refine Qv ?_ ?_<;>intro g1<;>simp [t0,t5,t6,t7,p1,VM.look,Qm,T2,g1]
  ·refine Qv ?_ ?_<;>intro g2<;>simp [t0,t5,t6,t7,p1,VM.look,Qm,T2,g1,g2]
   ·have g12:G xs i/1024≤127∧G xs i%1024≤127:=⟨g1.2,g2.2⟩
    refine Qv ?_ ?_<;>intro g3<;>simp [t0,t5,t6,t7,p1,VM.look,Qm,T2,g1,g2,g3]
    ·have g3':0<i:=by omega
     have e1:=fun [Inhabited Unit]=>e1 g3'
     have p2:=p2 g3'
     simp [t0,t5,t6,t7,p1,VM.look,Qm,T2,g1,g2,g3,e1,p2,cc]
     refine Qc ?_ ?_<;>intro g4<;>simp [t0,t5,t6,t7]
     ·intro hh;have:=(hh i hlt).2 g3';omega
     ·refine yes _ _ ?_ ?_ ?_ ?_ ⟨g12,fun _=>by omega⟩<;>simp [t0,t5,t6,w1]
    ·refine yes _ _ ?_ ?_ ?_ ?_ ⟨g12,fun _=>by omega⟩<;>simp [t0,t5,t6,w1]
   ·intro hh;have:=(hh i hlt).1;exact g2 ⟨by omega,this.2⟩
  ·intro hh;have:=(hh i hlt).1;exact g1 ⟨by omega,this.1⟩
 ·simp
  have:i=xs.length:=by omega
  subst this
  exact hd
theorem Yc (v:Value) (xs:List Int) (h:OwE e H v xs) (hl:xs.length≤1073741824):vcall C frz 153 [v] H=some (.bool (decide (dOk xs)),H):=(Ji v xs h hl).exact (by simp) rfl
theorem Jq (xs:List Int):ones (cellsOf Fl.dep xs)=true:=by
 induction xs with
 | nil=>rfl
 | cons a l ih=>rw [Wa,Jg,ih];rfl
def shiftK (b:Int) (xs:List Int):List Int:=xs.map (·+1025*b)
noncomputable def shiftOf (b:Int) (xs:List Int):List Int:=if dOk xs then (if dOk (shiftK b xs) then shiftK b xs else []) else []
theorem Rp (y:Int) (xs:List Int):(shiftOf y xs).length≤xs.length:=by
 unfold shiftOf shiftK;repeat' split
 all_goals simp
theorem qx {b:Int} (hb:0≤b∧b≤64) (hd:dOk xs) {i:Nat} (hi:i<xs.length) (h0:KB (G xs i)):CB (G xs i/1024+b) (G xs i%1024+b)∧keyD (G xs i/1024+b) (G xs i%1024+b)=G xs i+1025*b:=by
 have:=(hd i hi).1
 have:=h0.1
 unfold CB keyD
 omega
theorem Fv (b:Int) {i:Nat} (hi:i<xs.length):shiftK b (xs.take (i+1))=shiftK b (xs.take i)++[G xs i+1025*b]:=by
 rw [Ll hi];simp [shiftK]
theorem vj (v:Value) (xs:List Int) (b:Int) (h:OwE e H v xs) (hb:0≤b∧b≤64) (hl:xs.length≤1048576) (hF:frz≤H.length):wp (vcall C frz 116 [v,.int .i64 b] H) (MadeE H (shiftOf b xs)):=by
 rw [Qa (fn:=Tryz.f116) Tryz.func116 rfl (by kernel_rfl) rfl]
 have nil:MadeE H [] (.slice none 0 0) H:=⟨⟨.inl ⟨rfl,rfl⟩,fun x hx=>by simp at hx⟩,Chg.refl _,by simp⟩
 have hin:inR (-1000) b 1000:=⟨by omega,by omega⟩
 simp [Yc v xs h (by omega),Qm,hin]
 refine Qv ?_ ?_<;>intro g1
 ·simp [g1,Qm,hin,h.rd.len]
  have o0:OwE 194 (H++[⟨[],0,194⟩]) (.slice (some ⟨H.length,0,some 0⟩) 0 0) []:=⟨Ow.new0 (D:=Fl.dep) (xs:=[]) rfl rfl rfl rfl,fun x hx=>by simp at hx⟩
  have lenA:=fun L=>(h.app (L:=L)).rd.len (P:=Tryz.prog) (ty:=125) (by simp)
  simp [lenA]
  refine Qg (fun n t H'=>∃(i:Nat) (r:Value),n=xs.length-i∧i≤xs.length∧t 0=v∧t 1=.int .i64 b∧t 5=r∧t 17=v∧t 18=.int .i64 xs.length∧t 19=.int .i64 i∧OwE 194 H' r (shiftK b (xs.take i))∧(∀j∈ids r,H.length≤j)∧Chg H H' []) ?_ (n:=xs.length)
   ⟨0,_,by simp,by omega,by simp,by simp,by simp,by simp,by simp,by simp,o0,by simp,Chg.app _⟩
  rintro n t H' ⟨i,r,rfl,hi,t0,t1,t5,t17,t18,t19,o,nr,ch⟩ ih
  simp [t0,t1,t5,t17,t18,t19]
  refine Qc ?_ ?_<;>intro hlt
  ·have hH':=h.chg ch (by simp)
   have p1:=Co hH' hlt []
   simp only [List.append_nil] at p1
   obtain ⟨s1,s2⟩:=qx hb g1 hlt (h.2.G i)
   have hlr:(shiftK b (xs.take i)).length=i:=by simp [shiftK];omega
   obtain ⟨r2,H2,hap,o2,c2,n2⟩:=Cx (frz:=H.length) (o.app (L:=[⟨[.int .i64 (G xs i/1024),.int .i64 (G xs i%1024)],0,194⟩])) s1 (by rw [hlr];omega) nr
   rw [s2,← Fv b hlt] at o2
   have e1:∀[Inhabited Unit],IntKind.i64.wrap (G xs i/1024+b)=G xs i/1024+b:=by intro _;have:=s1.1;exact w64 (by omega) (by omega)
   have e2:∀[Inhabited Unit],IntKind.i64.wrap (G xs i%1024+b)=G xs i%1024+b:=by intro _;have:=s1.2;exact w64 (by omega) (by omega)
   have l1:=ch.1
   simp at hap
   simp [t0,t1,t5,t17,t18,t19,p1,VM.look,e1,e2,hap,l1]
   refine ih (xs.length-(i+1)) _ _ ⟨i+1,r2,rfl,by omega,by simp [t0],by simp [t1],by simp,by simp [t17],by simp [t18],?_,o2,fun j hj=>?_,(ch.trans (Chg.app [])).trans' c2 (fun j hj=>.inr (nr j hj))⟩ (by omega)
   ·simp;rw [w64 (by omega) (by omega)]
   ·rcases n2 j hj with q|q
    ·exact nr j q
    ·simp at q;omega
  ·have hin:i=xs.length:=by omega
   rw [hin,List.take_length] at o
   have hlr:(shiftK b xs).length=xs.length:=by simp [shiftK]
   simp [t0,t1,t5,Yc r _ o (by omega)]
   refine Qc ?_ ?_<;>intro g2
   ·simp [t5]
    rw [shiftOf,if_pos g1,if_pos g2]
    exact ⟨o,ch,nr⟩
   ·simp
    rw [shiftOf,if_pos g1,if_neg g2]
    exact ⟨⟨.inl ⟨rfl,rfl⟩,fun x hx=>by simp at hx⟩,ch,by simp⟩
 ·simp [g1]
  rw [shiftOf,if_neg g1]
  exact nil
theorem Ik (k:Int):∀l:List Int,(insK k l).length≤l.length+1
 | []=>by simp [insK]
 | a::l=>by
  have:=Ik k l
  unfold insK
  repeat' split
  all_goals simp
  omega
theorem My:∀(l s:List Int),(l.foldl (fun s k=>insK k s) s).length≤s.length+l.length
 | [],s=>by simp
 | k::l,s=>by
  have:=My l (insK k s)
  have:=Ik k s
  simp only [List.foldl_cons,List.length_cons]
  omega
noncomputable def mergeOf (xs ys:List Int):List Int:=if dOk xs then (if dOk ys then arrK (xs++ys) else []) else []
theorem Gi (l:List Int):(arrK l).length≤l.length:=by
 have:=My l []
 unfold arrK;simpa using this
theorem yu {l:List Int} {i:Nat} {x:Int}:x∈adjN l i↔∃k,k<i∧x=keyD (G l k) (G l (k+1)):=by
 simp [adjN,eq_comm]
theorem Pk {l:List Int} {x:Int}:x∈adjK l↔∃k,k+1<l.length∧x=keyD (G l k) (G l (k+1)):=by
 unfold adjK
 rw [yu]
 constructor<;>rintro ⟨k,h1,h2⟩<;>exact ⟨k,by omega,h2⟩
theorem A7 {w h:Int} {b T:List Int} {a to:Int} (ha:isN w h a):∀x∈adjK (walk w h b T a to),(0≤x/1024∧x/1024<64)∧0≤x%1024∧x%1024<64:=fun x hx=>by
 obtain ⟨k,h1,rfl⟩:=Pk.1 hx
 have q1:=Zp (b:=b) (T:=T) ha (to:=to) (G (walk w h b T a to) k) (by rw [Wr (by omega)];exact List.getElem_mem _)
 have q2:=Zp (b:=b) (T:=T) ha (to:=to) (G (walk w h b T a to) (k+1)) (by rw [Wr h1];exact List.getElem_mem _)
 unfold keyD
 omega
theorem Wo {w h:Int} {b T:List Int}:∀x∈depsOf w h b T,(0≤x/1024∧x/1024<64)∧0≤x%1024∧x%1024<64:=fun x hx=>by
 unfold depsOf at hx
 split at hx
 ·rw [Tz] at hx
  obtain ⟨p,hp,hx⟩:=List.mem_flatMap.1 hx
  exact A7 (Q9 (Yk (a:=p.1) (c:=p.2).1 hp).1) x hx
 ·simp at hx
theorem Oh {w h:Int} {b T:List Int}:(depsOf w h b T).Pairwise (· < ·):=by
 unfold depsOf;split
 ·exact Pb _
 ·exact List.Pairwise.nil
theorem Mv {w h:Int} {b T:List Int}:dOk (depsOf w h b T):=Dz Oh fun x hx=>by have:=Wo x hx;omega
theorem Z2 (w h:Int) (b T:List Int):(depsOf w h b T).length≤65536:=by
 unfold depsOf;split
 ·have h1:=Gi (walkAdj w h b T (allPairs (cnt w h).toNat (cnt w h).toNat))
  have h2:=U7 w h b T (allPairs (cnt w h).toNat (cnt w h).toNat)
  have h3:=Yp (cnt w h).toNat (cnt w h).toNat
  have h4:(cnt w h).toNat*(cnt w h).toNat≤16*16:=Nat.mul_le_mul (by have:=Qe w h;omega) (by have:=Qe w h;omega)
  omega
 ·simp
theorem Fz {w h:Int} {b T:List Int} (k:tableOk w h b T) {a:Nat} (ha:a<(cnt w h).toNat):walk w h b T a a=[]:=by
 have h4:=(k.2 a ha a ha).1 rfl
 unfold walk
 cases (cnt w h).toNat<;>simp [walkN,h4]
end Go.Proofs.YtaldglgobgjeaaaGreat.V
set_option linter.all false
namespace Go.Proofs.YtaldglgobgjeaaaGreat.V
open Go Go.VM Go.Proofs
set_option maxRecDepth 10000
def ordFree (ds:List (Nat×Nat)) (ranks:List Int) (c:Nat):Prop:=ranks.getD c 0<0∧∀d∈ds,d.2=c→¬ranks.getD d.1 0<0
instance (ds:List (Nat×Nat)) (ranks:List Int) (c:Nat):Decidable (ordFree ds ranks c):=inferInstanceAs (Decidable (_∧_))
def ordNext (ds:List (Nat×Nat)) (ranks:List Int):Option Nat:=(List.range 128).find? fun c=>decide (ordFree ds ranks c)
def ordRun (ds:List (Nat×Nat)):Nat→Option (List Int)
 | 0=>some (List.replicate 128 (-1))
 | r+1=>match ordRun ds r with
  | some ranks=>match ordNext ds ranks with
   | some c=>some (ranks.set c (r:Int))
   | none=>none
  | none=>none
def orderOk (ds:List (Nat×Nat)):Prop:=ordRun ds 128≠none
instance (ds:List (Nat×Nat)):Decidable (orderOk ds):=inferInstanceAs (Decidable (_≠_))
def negs (ranks:List Int):Nat:=(ranks.filter fun x=>decide (x<0)).length
theorem Nf:∀(ranks:List Int) (c:Nat) (x:Int),c<ranks.length→ranks.getD c 0<0→0≤x→negs (ranks.set c x)+1=negs ranks
 | [],c,x,h,_,_=>by simp at h
 | a::l,0,x,_,h1,h2=>by
  have h1:a<0:=h1
  unfold negs
  rw [List.set_cons_zero,List.filter_cons_of_neg (by simp;omega),List.filter_cons_of_pos (by simp;omega)]
  rfl
 | a::l,c+1,x,h,h1,h2=>by
  have ih:=Nf l c x (by simpa using h) h1 h2
  unfold negs at ih ⊢
  rw [List.set_cons_succ,List.filter_cons,List.filter_cons]
  split
  ·simp only [List.length_cons];omega
  ·omega
theorem jv {ranks:List Int} (h:0<negs ranks):∃c,c<ranks.length∧ranks.getD c 0<0:=by
 unfold negs at h
 obtain ⟨x,hx⟩:=List.exists_mem_of_length_pos h
 obtain ⟨h1,h2⟩:=List.mem_filter.1 hx
 obtain ⟨c,hc,rfl⟩:=List.mem_iff_getElem.1 h1
 exact ⟨c,hc,by simpa [List.getD_eq_getElem?_getD,hc] using h2⟩
theorem lowest (φ:Nat→Int) (P:Nat→Prop):∀n,(∃c,c<n∧P c)→∃c,c<n∧P c∧∀c',c'<n→P c'→φ c≤φ c'
 | 0,⟨c,h,_⟩=>by omega
 | n+1,⟨c,h,hp⟩=>by
  by_cases e:∃c,c<n∧P c
  ·obtain ⟨m,m1,m2,m3⟩:=lowest φ P n e
   by_cases q:P n∧φ n<φ m
   ·refine ⟨n,by omega,q.1,fun c' h1 h2=>?_⟩
    by_cases ec:c'=n
    ·subst ec;omega
    ·have:=m3 c' (by omega) h2;omega
   ·refine ⟨m,by omega,m2,fun c' h1 h2=>?_⟩
    by_cases ec:c'=n
    ·subst ec
     rcases Int.lt_or_le (φ c') (φ m) with k|k
     ·exact absurd ⟨h2,k⟩ q
     ·exact k
    ·exact m3 c' (by omega) h2
  ·have ec:c=n:=by
    rcases Nat.lt_or_ge c n with k|k
    ·exact absurd ⟨c,k,hp⟩ e
    ·omega
   subst ec
   refine ⟨c,h,hp,fun c' h1 h2=>?_⟩
   have:c'=c:=by
    rcases Nat.lt_or_ge c' c with k|k
    ·exact absurd ⟨c',k,h2⟩ e
    ·omega
   subst this;omega
theorem La {ds:List (Nat×Nat)} (hd:∀d∈ds,d.1<128) (φ:Nat→Int) (hφ:∀d∈ds,φ d.1<φ d.2):∀r,r≤128→∃ranks,ordRun ds r=some ranks∧ranks.length=128∧negs ranks=128-r
 | 0,_=>⟨_,rfl,by simp,by
  unfold negs
  rw [List.filter_eq_self.2]
  ·simp
  ·intro x hx
   rw [List.eq_of_mem_replicate hx];decide⟩
 | r+1,hr=>by
  obtain ⟨ranks,h1,h2,h3⟩:=La hd φ hφ r (by omega)
  obtain ⟨c0,k1,k2⟩:=jv (ranks:=ranks) (by omega)
  obtain ⟨c,m1,m2,m3⟩:=lowest φ (fun c=>ranks.getD c 0<0) 128 ⟨c0,by omega,k2⟩
  have hf:ordFree ds ranks c:=⟨m2,fun d hdm e k=>by
   have:=m3 d.1 (hd d hdm) k
   have:=hφ d hdm
   rw [e] at this;omega⟩
  have hn:ordNext ds ranks≠none:=fun e=>by
   have:=List.find?_eq_none.1 e c (List.mem_range.2 m1)
   simp [hf] at this
  obtain ⟨c',hc'⟩:∃c',ordNext ds ranks=some c':=Option.ne_none_iff_exists'.1 hn
  have hf':ordFree ds ranks c':=by simpa using List.find?_some hc'
  have hl':c'<128:=List.mem_range.1 (List.mem_of_find?_eq_some hc')
  refine ⟨ranks.set c' (r:Int),?_,by rw [List.length_set];exact h2,?_⟩
  ·unfold ordRun;rw [h1];simp only;rw [hc']
  ·have:=Nf ranks c' (r:Int) (by omega) hf'.1 (by omega)
   omega
theorem zx {ds:List (Nat×Nat)} (hd:∀d∈ds,d.1<128) (φ:Nat→Int) (hφ:∀d∈ds,φ d.1<φ d.2):orderOk ds:=by
 obtain ⟨ranks,h,_⟩:=La hd φ hφ 128 (Nat.le_refl _)
 unfold orderOk;rw [h];simp
end Go.Proofs.YtaldglgobgjeaaaGreat.V
set_option linter.all false
namespace Go.Proofs.YtaldglgobgjeaaaGreat.V
open Go Go.VM Go.Proofs
set_option maxRecDepth 10000
variable {frz:Nat} {H:Heap} {v:Value} {xs ys:List Int} {e:TypeId}
theorem Vj {z:Value} {ws:List Int} (hz:IsI H z ws) {k:Nat} (hk:k<ws.length):vindexAddr Tryz.prog H 26 z (.int .i64 k)=some (elp z k)∧vload Tryz.prog H 3 (elp z k)=some (.int .i64 (G ws k)):=by
 refine ⟨?_,hz.load (by simp) hk⟩
 have:=hz.idx (P:=Tryz.prog) (ty:=26) (e:=3) (by simp) (i:=(k:Int)) (by omega) (by omega)
 simpa using this
theorem ng (v:Value) (l:List Int) (hI:IsI H v l) (hne:0<l.length) (hl:l.length≤1073741824):vcall C frz 155 [v] H=some (.slice (some ⟨H.length,0,some 0⟩) l.length 0,H++[⟨l.map (.int .i64),0,3⟩]):=by
 rw [Qa (fn:=Tryz.f155) Tryz.func155 rfl (by kernel_rfl) rfl]
 have hsrc:=(hI.app [⟨[],0,3⟩]).src
 rcases hI with ⟨rfl,rfl⟩|⟨id,off,r,rfl,h2,h3⟩
 ·simp at hne
 have h0:¬l.length=0:=by omega
 simp [hsrc,h0,hl,vnilq,VM.look,h2]
 done
def prs (xs:List Int):List (Nat×Nat):=xs.map fun k=>((k/1024).toNat,(k%1024).toNat)
theorem jr {l:List Int} {i:Nat} (x:Int) (h:i<l.length) (c:Nat):G (l.set i x) c=if c=i then x else G l c:=by
 unfold G
 rw [List.getD_eq_getElem?_getD,List.getD_eq_getElem?_getD,List.getElem?_set]
 by_cases e:i=c
 ·subst e;simp [h]
 ·rw [if_neg e,if_neg (Ne.symm e)]
theorem yg (rk:List Int) (c:Nat):ordFree (prs xs) rk c↔G rk c<0∧∀j,j<xs.length→(G xs j%1024).toNat=c→¬G rk (G xs j/1024).toNat<0:=by
 unfold ordFree prs
 refine and_congr Iff.rfl ⟨fun h j hj e=>?_,fun h d hd e=>?_⟩
 ·rw [Wr hj] at e ⊢
  exact h _ (List.mem_map_of_mem (List.getElem_mem hj)) e
 ·obtain ⟨k,hk,rfl⟩:=List.mem_map.1 hd
  obtain ⟨j,hj,rfl⟩:=List.mem_iff_getElem.1 hk
  have:=h j hj
  rw [Wr hj] at this
  exact this e
theorem Nm {ds:List (Nat×Nat)}:∀{r:Nat} {rk:List Int},ordRun ds r=some rk→rk.length=128
 | 0,rk,h=>by cases h;simp
 | r+1,rk,h=>by
  unfold ordRun at h
  split at h
  ·rename_i rk0 h0
   split at h
   ·cases h;rw [List.length_set];exact Nm h0
   ·cases h
  ·cases h
theorem Rs {ds:List (Nat×Nat)} {r:Nat} (h:ordRun ds r=none):∀k,ordRun ds (r+k)=none
 | 0=>h
 | k+1=>by
  show ordRun ds ((r+k)+1)=none
  unfold ordRun
  rw [Rs h k]
theorem qi {ds:List (Nat×Nat)} {r:Nat} {rk:List Int} (hr:r<128) (h:ordRun ds r=some rk) (hn:ordNext ds rk=none):¬orderOk ds:=fun k=>by
 have h1:ordRun ds (r+1)=none:=by
  unfold ordRun;rw [h];simp only [hn]
 have:=Rs h1 (128-(r+1))
 rw [show r+1+(128-(r+1))=128 by omega] at this
 exact k this
theorem B0 {ds:List (Nat×Nat)} {r c:Nat} {rk:List Int} (h:ordRun ds r=some rk) (hn:ordNext ds rk=some c):ordRun ds (r+1)=some (rk.set c (r:Int)):=by
 unfold ordRun;rw [h];simp only [hn]
theorem Dm {fr rk:List Int} (fl:fr.length=128) (hf:∀c,G fr c=-2↔ordFree (prs xs) rk c) :
 (∃c:Nat,c<128∧placeP (fun x=>decide (x=-2)) fr=c∧ordNext (prs xs) rk=some c)∨(placeP (fun x=>decide (x=-2)) fr=-1∧ordNext (prs xs) rk=none):=by
 cases hn:ordNext (prs xs) rk with
 | none=>
  refine .inr ⟨?_,rfl⟩
  unfold placeP
  rw [if_neg]
  rw [List.any_eq_true]
  rintro ⟨x,hx,hp⟩
  obtain ⟨c,hc,rfl⟩:=List.mem_iff_getElem.1 hx
  have h1:G fr c=-2:=by rw [Wr hc];simpa using hp
  have:=List.find?_eq_none.1 hn c (List.mem_range.2 (by omega))
  exact this (by simpa using (hf c).1 h1)
 | some c=>
  unfold ordNext at hn
  rw [List.find?_eq_some_iff_getElem] at hn
  obtain ⟨h1,i,hi,h2,h3⟩:=hn
  simp at hi h2 h1
  subst h2
  refine .inl ⟨i,hi,Lb (by omega) (fun x hx=>?_) ?_,rfl⟩
  ·rw [List.mem_take_iff_getElem] at hx
   obtain ⟨j,hj,rfl⟩:=hx
   have:=h3 j (by omega)
   simp at this
   have q:¬G fr j=-2:=fun h=>this ((hf j).1 h)
   rw [Wr (by omega)] at q
   simpa using q
  ·have:=(hf i).2 h1
   rw [Wr (by omega)] at this
   simpa using this
def OrdRes (H:Heap) (xs:List Int) (r:Value) (H':Heap):Prop:=
 ∃z ranks,r=.tuple #[z,.bool (decide (dOk xs∧orderOk (prs xs)))]∧Rd Fl.int H' z ranks∧Chg H H' []∧∀i∈ids z,H.length≤i
theorem De {A B:Heap} {is:List Nat} (h:Chg A B is) (L:Heap):Chg A (B++L) is:=h.trans (Chg.app _)
theorem kg (x:Int):vcall C frz 183 [.int .i64 x] H=some (.bool (decide (x=-2)),H):=by
 rw [Qa (fn:=Tryz.f183) Tryz.func183 rfl (by kernel_rfl) rfl]
 simp
theorem L6 (u:Value) (fr:List Int) (hI:IsI H u fr) (hl:fr.length≤1073741824):vcall C frz 156 [v,u] H=some (.int .i64 (placeP (fun x=>decide (x=-2)) fr),H):=by
 rw [Qa (fn:=Tryz.f156) Tryz.func156 rfl (by kernel_rfl) rfl]
 have hf:∀F,∀x∈fr,vclos (vcall C F) (.func (.func 183) #[] #[]) [.int .i64 x] H=some (.bool (decide (x=-2)),H):=fun F x hx=>by
  simp [vclos,kg]
 have:=fun F=>Rb (frz:=F) u (.func (.func 183) #[] #[]) (fun x=>decide (x=-2)) fr hI hl (hf _)
 simp [this]
 done
theorem By (v:Value) (xs:List Int) (h:OwE e H v xs) (hl:xs.length≤1073741824):wp (vcall C frz 112 [v] H) (OrdRes H xs):=by
 rw [Qa (fn:=Tryz.f112) Tryz.func112 rfl (by kernel_rfl) rfl]
 simp [Yc v xs h hl]
 refine Qc ?_ ?_<;>intro hd
 ·obtain ⟨R,hR⟩:∃R:List Value,R=List.replicate 128 (.int .i64 (-1)):=⟨_,rfl⟩
  have rc:=fun F=>G9 (frz:=F) (H:=H++[⟨[.int .i64 (-1)],0,3⟩]) H.length (-1) 128 (by simp) (by decide) (by decide)
  rw [← hR] at rc
  simp at rc
  simp [rc]
  obtain ⟨K,hK⟩:∃K,K=H++[⟨[.int .i64 (-1)],0,3⟩,⟨R,0,3⟩]:=⟨_,rfl⟩
  obtain ⟨s,hs⟩:∃s:Value,s=.slice (some ⟨H.length+1,0,some 0⟩) 128 0:=⟨_,rfl⟩
  have hcell:R=cellsOf Fl.int (List.replicate 128 (-1)):=by rw [hR,Q8,List.map_replicate]
  have o0:Ow Fl.int 3 K s (List.replicate 128 (-1)):=by
   rw [hK,hs];exact Ow.new (k:=1) rfl hcell (by rw [hR];simp [ones,VM.one]) (by simp)
  have cK:Chg H K []:=by rw [hK];exact Chg.app _
  have hids:ids s=[H.length+1]:=by rw [hs];rfl
  rw [← hK,← hs]
  clear hK rc hcell
  refine Qg (fun n t H'=>∃(r:Nat) (rk:List Int),n=128-r∧r≤128∧t 0=v∧t 4=s∧t 17=.int .i64 r∧ordRun (prs xs) r=some rk∧Ow Fl.int 3 H' s rk∧Chg H H' []) ?_ (n:=128)
   ⟨0,_,rfl,by omega,by simp,by simp,by simp,rfl,o0,cK⟩
  rintro n t H' ⟨r,rk,rfl,hr,t0,t4,t17,hrk,o,ch⟩ ih
  have hlen:=Nm hrk
  simp [t0,t4,t17]
  refine Qc ?_ ?_<;>intro hlt
  ·have cl:=fun F=>ng (frz:=F) s rk o.rd.isI (by omega) (by omega)
   have rl:=o.rd.len (P:=Tryz.prog) (ty:=26) (by simp)
   rw [hlen] at cl rl
   have rlL:=fun L=>(o.app (L:=L)).rd.len (P:=Tryz.prog) (ty:=26) (by simp)
   rw [hlen] at rlL
   simp [t0,t4,t17,cl,rlL]
   obtain ⟨u,hu⟩:∃u:Value,u=.slice (some ⟨H'.length,0,some 0⟩) 128 0:=⟨_,rfl⟩
   obtain ⟨K1,hK1⟩:∃K1,K1=H'++[⟨rk.map (.int .i64),0,3⟩]:=⟨_,rfl⟩
   have ou:Ow Fl.int 3 K1 u rk:=by rw [hK1,hu,← hlen];exact Ow.new0 rfl (Q8 rk).symm (by simp) rfl
   have c1:Chg H' K1 []:=by rw [hK1];exact Chg.app _
   have hiu:ids u=[H'.length]:=by rw [hu];rfl
   have hsl:H.length+1<H'.length:=o.lt _ (by rw [hids];simp)
   rw [← hK1,← hu]
   clear hK1
   have o1:=o.chg c1 (by simp)
   refine Qg (fun m t H2=>∃(i:Nat) (fr:List Int),m=128-i∧i≤128∧t 0=v∧t 4=s∧t 5=.int .i64 r∧t 6=u∧t 17=.int .i64 r∧t 22=s∧t 23=.int .i64 128∧t 24=.int .i64 i∧Ow Fl.int 3 H2 u fr∧fr.length=128∧Chg K1 H2 [H'.length]∧
    ∀c,G fr c=if c<i∧G rk c<0 then -2 else G rk c) ?_ (n:=128)
    ⟨0,rk,rfl,by omega,by simp [t0],by simp [t4],by simp,by simp,by simp [t17],by simp,by simp,by simp,ou,hlen,Chg.refl _,fun c=>by simp⟩
   rintro m t H2 ⟨i,fr,rfl,hi,t0,t4,t5,t6,t17,t22,t23,t24,o2,fl,ch2,hf⟩ ih1
   simp [t0,t4,t5,t6,t17,t22,t23,t24]
   refine Qc ?_ ?_<;>intro hlt1
   ·have os:=o1.chg ch2 (by rw [hids];simp;omega)
    have p1:=Vj os.rd.isI (k:=i) (by omega)
    have p2:=Vj o2.rd.isI (k:=i) (by omega)
    have w1:∀[Inhabited Unit],IntKind.i64.wrap ((i:Int)+1)=((i+1:Nat):Int):=by intro _;rw [w64 (by omega) (by omega)];omega
    simp [t0,t4,t5,t6,t17,t22,t23,t24,p1]
    refine Qc ?_ ?_<;>intro hneg
    ·obtain ⟨H3,st,o3,c3,l3⟩:=o2.put1 (P:=Tryz.prog) (frz:=H.length) (et:=3) (ag:=false) rfl (by simp) (j:=i) (by omega) (x:=.int .i64 (-2)) (y:=-2) rfl rfl rfl (by rw [hiu];simp;omega)
     simp [t0,t4,t5,t6,t17,t22,t23,t24,p2,st,w1]
     refine ih1 (128-(i+1)) _ _ ⟨i+1,_,rfl,by omega,by simp [t0],by simp [t4],by simp [t5],by simp [t6],by simp [t17],by simp [t22],by simp [t23],by simp,o3,by simpa using fl,ch2.trans (hiu▸c3),fun c=>?_⟩ (by omega)
     rw [jr _ (by omega),hf c]
     by_cases hc:c=i
     ·subst hc;simp [hneg]
     ·rw [if_neg hc]
      by_cases hc2:c<i
      ·simp [hc2,show c<i+1 by omega]
      ·rw [if_neg (fun h=>hc2 h.1),if_neg (fun h=>by omega)]
    ·simp [t0,t4,t5,t6,t17,t22,t23,t24,w1]
     refine ih1 (128-(i+1)) _ _ ⟨i+1,fr,rfl,by omega,by simp [t0],by simp [t4],by simp [t5],by simp [t6],by simp [t17],by simp [t22],by simp [t23],by simp,o2,fl,ch2,fun c=>?_⟩ (by omega)
     rw [hf c]
     by_cases hc:c=i
     ·subst hc;rw [if_neg (fun h=>by omega),if_neg (fun h=>hneg h.2)]
     ·by_cases hc2:c<i
      ·simp [hc2,show c<i+1 by omega]
      ·rw [if_neg (fun h=>hc2 h.1),if_neg (fun h=>by omega)]
   ·have hi':i=128:=by omega
    subst hi'
    have h2:=h.chg (((ch.trans c1).trans' ch2 (fun i hi=>.inr (by simp at hi;omega)))) (by simp)
    simp [t0,t4,t5,t6,t17,h2.rd.len]
    have hsm:=fun j (hj:j<xs.length)=>(hd j hj).1
    have hbd:=fun j=>h.2.G j
    refine Qg (fun m t H3=>∃(i:Nat) (fr:List Int),m=xs.length-i∧i≤xs.length∧t 0=v∧t 4=s∧t 5=.int .i64 r∧t 6=u∧t 17=.int .i64 r∧t 35=v∧t 36=.int .i64 xs.length∧t 37=.int .i64 i∧Ow Fl.int 3 H3 u fr∧fr.length=128∧Chg K1 H3 [H'.length]∧
     ∀c,G fr c=-2↔G rk c<0∧∀j,j<i→(G xs j%1024).toNat=c→¬G rk (G xs j/1024).toNat<0) ?_ (n:=xs.length)
     ⟨0,fr,by simp,by omega,by simp [t0],by simp [t4],by simp [t5],by simp [t6],by simp [t17],by simp,by simp,by simp,o2,fl,ch2,fun c=>by
      rw [hf c]
      by_cases hc:c<128
      ·by_cases hg:G rk c<0
       ·simp [hc,hg]
       ·simp [hg];omega
      ·have:G rk c=0:=by unfold G;rw [List.getD_eq_getElem?_getD,List.getElem?_eq_none (by omega)];rfl
       simp [this]⟩
    clear hf o2 fl ch2 t0 t4 t5 t6 t17 t22 t23 t24 h2
    rintro m t H3 ⟨i,fr,rfl,hi2,t0,t4,t5,t6,t17,t35,t36,t37,o2,fl,ch2,hf⟩ ih2
    have h2:=h.chg (((ch.trans c1).trans' ch2 (fun i hi=>.inr (by simp at hi;omega)))) (by simp)
    simp [t0,t4,t5,t6,t17,t35,t36,t37]
    refine Qc ?_ ?_<;>intro hlt2
    ·have os:=fun L=>(o1.chg ch2 (by rw [hids];simp;omega)).app (L:=L)
     have b:=hbd i
     have b1:=b.1;have b2:=b.2
     have b3:=hsm i hlt2
     have p1:=Co h2 hlt2
     have p10:=p1 []
     simp only [List.append_nil] at p10
     obtain ⟨f,hfr⟩:∃f:Nat,f=(G xs i/1024).toNat:=⟨_,rfl⟩
     obtain ⟨g,hto⟩:∃g:Nat,g=(G xs i%1024).toNat:=⟨_,rfl⟩
     have ef:G xs i/1024=(f:Int):=by omega
     have eg:G xs i%1024=(g:Int):=by omega
     have p2:=fun L=>Vj (os L).rd.isI (k:=f) (by omega)
     have p3:=fun L=>Vj (os L).rd.isI (k:=g) (by omega)
     have o2L:=fun L=>o2.app (L:=L)
     have p4:=fun L=>Vj (o2L L).rd.isI (k:=g) (by omega)
     have w1:∀[Inhabited Unit],IntKind.i64.wrap ((i:Int)+1)=((i+1:Nat):Int):=by intro _;rw [w64 (by omega) (by omega)];omega
     have yes:=fun (t':Env) (H4:Heap) (fr':List Int) (x0:t' 0=v) (x4:t' 4=s) (x5:t' 5=.int .i64 r) (x6:t' 6=u) (x17:t' 17=.int .i64 r) (x35:t' 35=v) (x36:t' 36=.int .i64 xs.length) (x37:t' 37=.int .i64 (i+1:Nat)) (o4:Ow Fl.int 3 H4 u fr') (fl':fr'.length=128) (ch4:Chg K1 H4 [H'.length])
      (hq:∀c,G fr' c=-2↔G rk c<0∧∀j,j<i+1→(G xs j%1024).toNat=c→¬G rk (G xs j/1024).toNat<0)=>
      ih2 (xs.length-(i+1)) t' H4 ⟨i+1,fr',rfl,by omega,x0,x4,x5,x6,x17,x35,x36,x37,o4,fl',ch4,hq⟩ (by omega)
     have stay:¬(G rk f<0∧G rk g<0)→∀c,G fr c=-2↔G rk c<0∧∀j,j<i+1→(G xs j%1024).toNat=c→¬G rk (G xs j/1024).toNat<0:=fun hn c=>by
      rw [hf c]
      refine and_congr_right fun hc=>⟨fun hh j hj e=>?_,fun hh j hj=>hh j (by omega)⟩
      by_cases hji:j=i
      ·subst hji;rw [← hfr];intro hneg;refine hn ⟨hneg,?_⟩;rw [hto,e];exact hc
      ·exact hh j (by omega) e
     have hHl:H.length≤H3.length:=by have:=ch.1;have:=c1.1;have:=ch2.1;omega
     simp [t0,t4,t5,t6,t17,t35,t36,t37,p10,hHl,ef,eg,p2]
     have cb:=fun L=>De ch2 L
     refine Qv ?_ ?_<;>intro g1<;>simp [t0,t4,t5,t6,t17,t35,t36,t37,VM.look,p3,g1]
     ·refine Qc ?_ ?_<;>intro g2
      ·obtain ⟨H5,st,o5,c5,l5⟩:=(o2L [⟨[.int .i64 (f:Int),.int .i64 (g:Int)],0,194⟩]).put1 (P:=Tryz.prog) (frz:=H.length) (et:=3) (ag:=false) rfl (by simp) (j:=g) (by omega) (x:=.int .i64 (-1)) (y:=-1) rfl rfl rfl (by rw [hiu];simp;omega)
       simp [t0,t4,t5,t6,t17,t35,t36,t37,VM.look,p4,st,w1]
       refine yes _ _ _ ?_ ?_ ?_ ?_ ?_ ?_ ?_ ?_ o5 (by simpa using fl) ((cb _).trans (hiu▸c5)) ?_
       any_goals simp [t0,t4,t5,t6,t17,t35,t36]
       intro c
       rw [jr _ (by omega)]
       by_cases hc:c=g
       ·rw [if_pos hc]
        refine ⟨fun hh=>by omega,fun hh=>?_⟩
        have:=hh.2 i (by omega) (by rw [hc,hto])
        rw [← hfr] at this;omega
       ·rw [if_neg hc,hf c]
        refine and_congr_right fun _=>⟨fun hh j hj e=>?_,fun hh j hj e=>?_⟩
        ·by_cases hji:j=i
         ·subst hji;omega
         ·have:=hh j (by omega) e;omega
        ·have:=hh j (by omega) e;omega
      ·simp [t0,t4,t5,t6,t17,t35,t36,t37,w1]
       refine yes _ _ _ ?_ ?_ ?_ ?_ ?_ ?_ ?_ ?_ (o2L _) fl (cb _) (stay fun h=>g2 h.2)<;>simp [t0,t4,t5,t6,t17,t35,t36]
     ·simp [t0,t4,t5,t6,t17,t35,t36,t37,w1]
      refine yes _ _ _ ?_ ?_ ?_ ?_ ?_ ?_ ?_ ?_ (o2L _) fl (cb _) (stay fun h=>g1 h.1)<;>simp [t0,t4,t5,t6,t17,t35,t36]
    ·have hi':i=xs.length:=by omega
     subst hi'
     simp [t0,t4,t5,t6,t17]
     have pl:=Dm fl (fun c=>(hf c).trans (yg rk c).symm)
     have nx:=fun F=>L6 (v:=v) (frz:=F) u fr o2.rd.isI (by omega)
     rcases pl with ⟨c,hc,e1,e2⟩|⟨e1,e2⟩
     ·rw [e1] at nx
      have os:=o1.chg ch2 (by rw [hids];simp;omega)
      have p2:=Vj os.rd.isI (k:=c) (by omega)
      have w1:∀[Inhabited Unit],IntKind.i64.wrap ((r:Int)+1)=((r+1:Nat):Int):=by intro _;rw [w64 (by omega) (by omega)];omega
      have hc0:¬((c:Int)<0):=by omega
      obtain ⟨H5,st,o5,c5,l5⟩:=os.put1 (P:=Tryz.prog) (frz:=H.length) (et:=3) (ag:=false) rfl (by simp) (j:=c) (by omega) (x:=.int .i64 (r:Int)) (y:=(r:Int)) rfl rfl rfl (by rw [hids];simp)
      simp [t0,t4,t5,t6,t17,nx,hc0,p2,st,w1]
      refine ih (128-(r+1)) _ _ ⟨r+1,_,rfl,by omega,by simp [t0],by simp [t4],by simp,B0 hrk e2,o5,?_⟩ (by omega)
      exact ((ch.trans c1).trans' ch2 (fun i hi=>.inr (by simp at hi;omega))).trans' c5 (fun i hi=>.inr (by rw [hids] at hi;simp at hi;omega))
     ·rw [e1] at nx
      simp [t0,t4,t5,t6,t17,nx]
      refine ⟨.slice none 0 0,[],?_,.inl ⟨rfl,rfl⟩,(ch.trans c1).trans' ch2 (fun i hi=>.inr (by simp at hi;omega)),by simp⟩
      have:=qi (by omega) hrk e2
      simp [this]
  ·have hr':r=128:=by omega
   subst hr'
   simp [t4]
   refine ⟨s,rk,?_,o.rd,ch,by rw [hids];simp⟩
   have:orderOk (prs xs):=by unfold orderOk;rw [hrk];simp
   simp [this,hd]
 ·simp
  exact ⟨.slice none 0 0,[],by simp [hd],.inl ⟨rfl,rfl⟩,Chg.refl _,by simp⟩
theorem growE (n:Int) (h0:0≤n) (h1:n≤1073741824) :
 wp (vcall C frz 188 [.slice none 0 0,.int .i64 n] H) (MadeE H []):=by
 rw [Qa (fn:=Tryz.f188) Tryz.func188 rfl (by kernel_rfl) rfl]
 have wr0:IntKind.i64.wrap 0=0:=by decide
 have e:IntKind.i64.wrap n=n:=w64 (by omega) (by omega)
 have hn:¬n<0:=by omega
 have hb:Bd []:=fun x hx=>by simp at hx
 simp [wr0,e,hn]
 refine Qc ?_ ?_<;>intro h2
 ·simp [h2,wr0,e,hn]
  refine Xx h1 (Xx (by omega) ?_)
  refine Qe3 rfl ?_
  exact ⟨⟨Ow.new0 rfl rfl rfl rfl,hb⟩,Chg.app _,by simp⟩
 ·simp
  exact ⟨⟨.inl ⟨rfl,rfl⟩,hb⟩,Chg.refl _,by simp⟩
theorem zu (id:Nat) (x y:Value) (xs ys:List Int) (hr:H[id]? = some ⟨[x,y],0,125⟩) (hx:OwE 194 H x xs) (hy:OwE 194 H y ys) (hl:xs.length+ys.length≤1073741824) :
 wp (vcall C frz 159 [.slice (some ⟨id,0,some 0⟩) 2 0] H) (MadeE H (xs++ys)):=by
 rw [Qa (fn:=Tryz.f159) Tryz.func159 rfl (by kernel_rfl) rfl]
 simp [VM.look,hr]
 have wr0:IntKind.i64.wrap 0=0:=by decide
 have wr1:IntKind.i64.wrap 1=1:=by decide
 have wr2:IntKind.i64.wrap 2=2:=by decide
 have e1:IntKind.i64.wrap (xs.length:Int)=xs.length:=w64 (by omega) (by omega)
 have e2:IntKind.i64.wrap ((xs.length:Int)+ys.length)=xs.length+ys.length:=w64 (by omega) (by omega)
 have n1:¬(xs.length:Int)<0:=by omega
 have n2:¬(xs.length:Int)+ys.length<0:=by omega
 rw [Wl]
 simp [VM.look,hr,hx.rd.len,hy.rd.len,wr0,wr1,wr2,e1,n1]
 rw [Wq,Wl]
 simp [VM.look,hr,hx.rd.len,hy.rd.len,wr0,wr1,wr2,e1,e2,n1,n2]
 rw [Wq,Wl]
 simp [VM.look,hr,hx.rd.len,hy.rd.len,wr0,wr1,wr2,e1,e2,n1,n2]
 refine Qd (growE _ (by omega) (by omega)) ?_
 rintro z H1 ⟨o1,c1,n1⟩
 have r1:=Qb hr c1 (by simp)
 simp [VM.look,r1]
 rw [Wl]
 obtain ⟨x2,H2,ap2,o2,c2,n2⟩:=o1.1.append (P:=Tryz.prog) (frz:=H.length) (ty:=125) (hx.chg c1 (by simp)).rd (by simp) (Jq _) (by simp;omega) n1
 have m2:∀i∈ids x2,H.length≤i:=fun i hi=>by
  rcases n2 i hi with q|q
  ·exact n1 i q
  ·have:=c1.1;omega
 have r2:=Qb r1 c2 (fun hh=>by have:=n1 _ hh;have:=Qu hr;omega)
 have c12:Chg H H2 []:=c1.trans' c2 (fun i hi=>.inr (n1 i hi))
 have hy2:=(hy.chg c12 (by simp)).rd
 obtain ⟨x3,H3,ap3,o3,c3,n3⟩:=o2.append (P:=Tryz.prog) (frz:=H.length) (ty:=125) hy2 (by simp) (Jq _) (by simp;omega) m2
 have r3:=Qb r2 c3 (fun hh=>by have:=m2 _ hh;have:=Qu hr;omega)
 have m3:∀i∈ids x3,H.length≤i:=fun i hi=>by
  rcases n3 i hi with q|q
  ·exact m2 i q
  ·have:=c12.1;omega
 simp [VM.look,r1,wr0,wr1,ap2,r2]
 rw [Wq,Wl]
 simp [VM.look,r2,wr0,wr1,wr2,ap3,r3]
 rw [Wq,Wl]
 simp [VM.look,r3,wr0,wr1,wr2]
 exact ⟨⟨by simpa using o3,hx.2.app hy.2⟩,c12.trans' c3 (fun i hi=>.inr (m2 i hi)),m3⟩
theorem Jk (xs ys:List Int):(mergeOf xs ys).length≤xs.length+ys.length:=by
 unfold mergeOf
 repeat' split
 ·have:=Gi (xs++ys);simpa using this
 ·simp
 ·simp
theorem mj (u v:Value) (xs ys:List Int) (hu:OwE 194 H u xs) (hv:OwE 194 H v ys) (lx:xs.length≤1048576) (ly:ys.length≤1048576):wp (vcall C frz 114 [u,v] H) (MadeE H (mergeOf xs ys)):=by
 rw [Qa (fn:=Tryz.f114) Tryz.func114 rfl (by kernel_rfl) rfl]
 have d1:=fun F=>Yc (frz:=F) u xs hu (by omega)
 have d2:=fun F=>Yc (frz:=F) v ys hv (by omega)
 have nl:MadeE H [] (.slice none 0 0) H:=⟨⟨.inl ⟨rfl,rfl⟩,fun x hx=>by simp at hx⟩,Chg.refl _,by simp⟩
 have onu:=And.intro hu.rd.one' hu.rd.cells
 have onv:=And.intro hv.rd.one' hv.rd.cells
 simp [d1]
 refine Qv ?_ ?_<;>intro g1<;>simp [g1,d2]
 ·refine Qc ?_ ?_<;>intro g2<;>simp [mergeOf,g1,g2,onu,onv,VM.splice,ones]
  ·have c0:Chg H (H++[⟨[u,v],0,125⟩]) []:=Chg.app _
   refine Qd (zu (frz:=H.length) H.length u v xs ys (by simp) hu.app hv.app (by omega)) ?_
   rintro x H1 ⟨o1,c1,n1⟩
   have c01:=c0.trans c1
   have l01:=c01.1
   have nx:∀i∈ids x,H.length≤i:=fun i hi=>by have:=n1 i hi;simp at this;omega
   simp
   refine Qd (O0 x _ o1 (by simp;omega) nx l01) ?_
   rintro y H2 ⟨o2,s2,c2⟩
   simp
   exact ⟨o2,c01.trans' c2 (fun i hi=>.inr (nx i hi)),fun i hi=>nx i (s2 i hi)⟩
  ·exact nl
 ·simpa [mergeOf,g1] using nl
noncomputable def classDeps (w h:Int) (b A B:List Int):List Int:=if classesOk w h b A B then mergeOf (depsOf w h b A) (shiftOf 64 (depsOf w h b B)) else []
theorem In (w h:Int) (v u1 u2:Value) (b A B:List Int) (hI:IsI H v b) (h1:IsI H u1 A) (h2:IsI H u2 B) (hl:b.length≤1073741824) :
 wp (vcall C frz 77 [.agg #[.int .i64 w,.int .i64 h,v],.agg #[u1,u2]] H) (MadeE H (classDeps w h b A B)):=by
 rw [Qa (fn:=Tryz.f77) Tryz.func77 rfl (by kernel_rfl) rfl]
 have onv:=And.intro hI.one' hI.cells
 have onu:=And.intro h1.one' h1.cells
 have onu2:=And.intro h2.one' h2.cells
 obtain ⟨M,hM⟩:∃M:Heap,M=[⟨[.int .i64 w,.int .i64 h,v],0,28⟩,⟨[u1,u2],0,32⟩]:=⟨_,rfl⟩
 have ck:=fun F=>Y2 (frz:=F) w h v u1 u2 b A B (hI.app M) (h1.app M) (h2.app M) hl
 rw [hM] at ck
 have nl:MadeE H [] (.slice none 0 0) (H++M):=⟨⟨.inl ⟨rfl,rfl⟩,fun x hx=>by simp at hx⟩,Chg.app _,by simp⟩
 have g0:(H++M)[H.length]? = some ⟨[.int .i64 w,.int .i64 h,v],0,28⟩:=by rw [hM];simp
 have g1:(H++M)[H.length+1]? = some ⟨[u1,u2],0,32⟩:=by rw [hM];simp
 have hK:=hI.app M
 have h1K:=h1.app M
 have h2K:=h2.app M
 have cK:Chg H (H++M) []:=Chg.app _
 simp [onv,onu,onu2,VM.look,ck]
 rw [← hM]
 clear hM ck
 generalize H++M=K at *
 unfold classDeps
 refine Qc ?_ ?_<;>intro g<;>simp [g]
 ·rw [Qf (h:=by kernel_rfl)]
  simp [VM.look,g0,g1,onv,onu,onu2]
  refine Qd (S9 w h v u1 b A hK h1K hl (by have:=cK.1;omega)) ?_
  rintro d1 H1 ⟨o1,c1,n1⟩
  have b0:=Qb g0 c1 (by simp)
  have b1:=Qb g1 c1 (by simp)
  have hK1:=(hK.rd.chg c1 (by simp)).isI
  have h2K1:=(h2K.rd.chg c1 (by simp)).isI
  have cK1:=cK.trans c1
  simp [VM.look,b0,b1,onv,onu,onu2]
  refine Qd (S9 w h v u2 b B hK1 h2K1 hl (by have:=cK1.1;omega)) ?_
  rintro d2 H2 ⟨o2,c2,n2⟩
  have b0:=Qb b0 c2 (by simp)
  have b1:=Qb b1 c2 (by simp)
  have cK2:=cK1.trans c2
  have l1:=Z2 w h b A
  have l2:=Z2 w h b B
  simp [VM.look,b0,b1,onv,onu,onu2]
  refine Qd (vj d2 _ 64 o2 (by omega) (by omega) (by have:=cK2.1;omega)) ?_
  rintro d3 H3 ⟨o3,c3,n3⟩
  have l3:=Rp 64 (depsOf w h b B)
  simp
  refine Qd (mj d1 d3 _ _ ((o1.chg c2 (by simp)).chg c3 (by simp)) o3 (by omega) (by omega)) ?_
  rintro d4 H4 ⟨o4,c4,n4⟩
  simp
  exact ⟨o4,(cK2.trans c3).trans c4,fun i hi=>by have:=n4 i hi;have:=(cK2.trans c3).1;omega⟩
 ·exact nl
def VdRes (H:Heap) (c:Int) (r:Value) (H':Heap):Prop:=∃z y rk cy,r=.agg #[.int .i64 c,z,y]∧Rd Fl.int H' z rk∧Rd Fl.int H' y cy∧Chg H H' []∧(∀i∈ids z,H.length≤i)∧(∀i∈ids y,H.length≤i)
theorem zr (v:Value) (xs:List Int) (h:OwE e H v xs) (hl:xs.length≤1073741824) (hd:dOk xs) (ho:orderOk (prs xs)) :
 wp (vcall C frz 76 [v] H) (VdRes H 1):=by
 rw [Qa (fn:=Tryz.f76) Tryz.func76 rfl (by kernel_rfl) rfl]
 simp
 refine Qd (By v xs h.app hl) ?_
 rintro _ H1 ⟨z,rk,rfl,rz,c1,n1⟩
 have e1:decide (dOk xs∧orderOk (prs xs))=true:=by simp [hd,ho]
 have oz:=And.intro rz.one' rz.cells
 have b0:H1[H.length]? = some ⟨[.int .i64 0,.slice none 0 0,.slice none 0 0],0,87⟩:=Qb (by simp) c1 (by simp)
 have ln:∀i∈ids z,H.length+1≤i:=fun i hi=>by have:=n1 i hi;simpa using this
 rw [e1]
 simp [oz,VM.look,b0,VM.splice]
 have cs:=Qh (H:=H1) H.length ⟨[.int .i64 1,z,.slice none 0 0],0,87⟩
 have gs:=Qo (r':=⟨[.int .i64 1,z,.slice none 0 0],0,87⟩) b0
 have rz2:=rz.chg cs (fun i hi hh=>by simp at hh;have:=ln i hi;omega)
 have cc:Chg H (H1.set H.length ⟨[.int .i64 1,z,.slice none 0 0],0,87⟩) []:=((Chg.app _).trans c1).trans' cs (fun i hi=>.inr (by simp at hi;omega))
 generalize H1.set H.length ⟨[.int .i64 1,z,.slice none 0 0],0,87⟩=H2 at *
 simp [gs]
 exact ⟨z,_,rk,[],rfl,rz2,.inl ⟨rfl,rfl⟩,cc,fun i hi=>by have:=ln i hi;omega,by simp⟩
theorem N3 (w h:Int) (b A B:List Int):(classDeps w h b A B).length≤131072:=by
 unfold classDeps
 split
 ·have h1:=Jk (depsOf w h b A) (shiftOf 64 (depsOf w h b B))
  have h2:=Rp 64 (depsOf w h b B)
  have h3:=Z2 w h b A
  have h4:=Z2 w h b B
  omega
 ·simp
theorem O5 (w h:Int) (v u1 u2:Value) (b A B:List Int) (hI:IsI H v b) (h1:IsI H u1 A) (h2:IsI H u2 B) (hl:b.length≤1073741824) (hk:classesOk w h b A B) (ho:dOk (classDeps w h b A B)∧orderOk (prs (classDeps w h b A B))) :
 wp (vcall C frz 43 [.agg #[.int .i64 w,.int .i64 h,v],.agg #[u1,u2]] H) (VdRes H 1):=by
 rw [Qa (fn:=Tryz.f43) Tryz.func43 rfl (by kernel_rfl) rfl]
 have onv:=And.intro hI.one' hI.cells
 have onu:=And.intro (And.intro h1.one' h1.cells) (And.intro h2.one' h2.cells)
 obtain ⟨M,hM⟩:∃M:Heap,M=[⟨[.int .i64 w,.int .i64 h,v],0,28⟩,⟨[u1,u2],0,32⟩,⟨[.int .i64 0,.slice none 0 0,.slice none 0 0],0,87⟩]:=⟨_,rfl⟩
 have ck:=fun F=>Y2 (frz:=F) w h v u1 u2 b A B (hI.app M) (h1.app M) (h2.app M) hl
 rw [hM] at ck
 have g0:(H++M)[H.length]? = some ⟨[.int .i64 w,.int .i64 h,v],0,28⟩:=by rw [hM];simp
 have g1:(H++M)[H.length+1]? = some ⟨[u1,u2],0,32⟩:=by rw [hM];simp
 have g2:(H++M)[H.length+2]? = some ⟨[.int .i64 0,.slice none 0 0,.slice none 0 0],0,87⟩:=by rw [hM];simp
 have hK:=hI.app M
 have h1K:=h1.app M
 have h2K:=h2.app M
 have cK:Chg H (H++M) []:=Chg.app _
 have lK:(H++M).length=H.length+3:=by rw [hM];simp
 simp [onv,onu,VM.look,ck,hk]
 rw [← hM]
 clear hM ck
 generalize H++M=K at *
 try simp [VM.look,g0,g1,g2,onv,onu]
 refine Qd (In w h v u1 u2 b A B hK h1K h2K hl) ?_
 rintro d1 H1 ⟨o1,c1,n1⟩
 have b2:=Qb g2 c1 (by simp)
 simp
 refine Qd (zr d1 _ o1 (by have:=N3 w h b A B;omega) ho.1 ho.2) ?_
 rintro _ H2 ⟨z,y,rk,cy,rfl,rz,ry,c2,nz,ny⟩
 have b2:=Qb b2 c2 (by simp)
 have oz:=And.intro rz.one' rz.cells
 have oy:=And.intro ry.one' ry.cells
 have l1:=c1.1
 simp [VM.look,b2,oz,oy,VM.splice]
 have cs:=Qh (H:=H2) (H.length+2) ⟨[.int .i64 1,z,y],0,87⟩
 have gs:=Qo (r':=⟨[.int .i64 1,z,y],0,87⟩) b2
 have rz2:=rz.chg cs (fun i hi hh=>by simp at hh;have:=nz i hi;omega)
 have ry2:=ry.chg cs (fun i hi hh=>by simp at hh;have:=ny i hi;omega)
 have cc:=((cK.trans c1).trans c2).trans' cs (fun i hi=>.inr (by simp at hi;omega))
 generalize H2.set (H.length+2) ⟨[.int .i64 1,z,y],0,87⟩=H3 at *
 simp [gs]
 exact ⟨z,y,rk,cy,rfl,rz2,ry2,cc,fun i hi=>by have:=nz i hi;omega,fun i hi=>by have:=ny i hi;omega⟩
end Go.Proofs.YtaldglgobgjeaaaGreat.V
set_option linter.all false
namespace Go.Proofs.YtaldglgobgjeaaaGreat.V
open Go Go.VM
section
variable {w h r:Int} {b:List Int} (H:rootOk w h b r)
include H
theorem zg {v:Int} (hv:isN w h v):rd (parents w h b r) v=par w h b (depths w h b r) v:=by
 have hl:=(Wb H).1
 have hv2:=hv.2
 exact Ok hv.1 (by omega)
theorem me {v:Int} (hv:isN w h v) (h0:rd (depths w h b r) v≤0):rd (parents w h b r) v=-1:=by
 rw [zg H hv];unfold par;rw [if_neg (by omega)]
theorem zn {v:Int} (hv:isN w h v) (h0:0<rd (depths w h b r) v):isN w h (rd (parents w h b r) v)∧rd (depths w h b r) (rd (parents w h b r) v)=rd (depths w h b r) v-1:=by
 rw [zg H hv]
 obtain ⟨p,hp,h2,h3,h4⟩:=Fc H hv h0
 rw [h2];exact ⟨(Wd hp h3).2.1,h4⟩
theorem F5 {v:Int} (hv:isN w h v):anc (parents w h b r) v=v::(if rd (parents w h b r) v=-1 then [] else anc (parents w h b r) (rd (parents w h b r) v)):=by
 have h1:((parents w h b r).length:Int)=cnt w h:=by rw [Xw];exact (Wb H).1
 exact Jd (Tx H) hv.1 (by have:=hv.2;omega)
theorem gq {v:Int} (hv:isN w h v) (h0:rd (depths w h b r) v≤0):anc (parents w h b r) v=[v]:=by
 rw [F5 H hv,me H hv h0,if_pos rfl]
theorem Xz:∀(n:Nat) {v:Int},isN w h v→rd (depths w h b r) v=n→(anc (parents w h b r) v).length=n+1∧r∈anc (parents w h b r) v∧∀(k:Nat) (hk:k<(anc (parents w h b r) v).length),isN w h (anc (parents w h b r) v)[k]∧rd (depths w h b r) (anc (parents w h b r) v)[k]=n-k:=by
 intro n
 induction n with
 | zero=>
  intro v hv h0
  have hroot:=(Wh H).zero.2 v hv (by omega)
  have e:=gq H hv (by omega)
  rw [e]
  refine ⟨rfl,by simp [hroot],fun k hk=>?_⟩
  simp at hk
  subst hk
  exact ⟨hv,by simpa using h0⟩
 | succ n ih=>
  intro v hv h0
  obtain ⟨h1,h2⟩:=zn H hv (by omega)
  have e:=F5 H hv
  rw [if_neg (by have:=h1.1;omega)] at e
  obtain ⟨i1,i2,i3⟩:=ih h1 (by omega)
  rw [e]
  refine ⟨by simp [i1],List.mem_cons_of_mem _ i2,fun k hk=>?_⟩
  cases k with
  | zero=>exact ⟨hv,by simpa using h0⟩
  | succ k=>
   simp only [List.getElem_cons_succ]
   obtain ⟨j1,j2⟩:=i3 k (by simpa using hk)
   exact ⟨j1,by rw [j2];omega⟩
theorem Uj {v:Int} (hv:isN w h v):(anc (parents w h b r) v)[0]? = some v:=by rw [F5 H hv];rfl
theorem way {a c:Int} (ha:isN w h a) (hc:isN w h c) (h0:0≤rd (depths w h b r) a) (h1:0≤rd (depths w h b r) c) :
 ∃(i j:Nat) (hi:i<(anc (parents w h b r) a).length) (hj:j<(anc (parents w h b r) c).length),common (parents w h b r) a c=(anc (parents w h b r) a)[i]∧(anc (parents w h b r) a)[i]=(anc (parents w h b r) c)[j]∧
  treeNodes (parents w h b r) a c=(anc (parents w h b r) a).take (i+1)++((anc (parents w h b r) c).take j).reverse∧isN w h (anc (parents w h b r) a)[i]:=by
 obtain ⟨n,hn⟩:=Int.eq_ofNat_of_zero_le h0
 obtain ⟨m,hm⟩:=Int.eq_ofNat_of_zero_le h1
 obtain ⟨a1,a2,a3⟩:=Xz H n ha hn
 obtain ⟨c1,c2,c3⟩:=Xz H m hc hm
 have hpos:0≤common (parents w h b r) a c:=by
  unfold common
  cases hf:(anc (parents w h b r) a).find? (fun x=>decide (x∈anc (parents w h b r) c)) with
  | none=>
   have:=List.find?_eq_none.1 hf r a2
   simp [c2] at this
  | some u=>
   have h1:=List.mem_of_find?_eq_some hf
   obtain ⟨k,hk,rfl⟩:=List.mem_iff_getElem.1 h1
   exact (a3 k hk).1.1
 obtain ⟨m1,m2⟩:=Ua hpos
 have hi:=List.idxOf_lt_length_iff.2 m1
 have hj:=List.idxOf_lt_length_iff.2 m2
 have e1:=List.getElem_idxOf hi
 have e2:=List.getElem_idxOf hj
 refine ⟨_,_,hi,hj,e1.symm,e1.trans e2.symm,?_,(a3 _ hi).1⟩
 unfold treeNodes
 rw [if_neg (by omega)]
end
end Go.Proofs.YtaldglgobgjeaaaGreat.V
set_option linter.all false
namespace Go.Proofs.YtaldglgobgjeaaaGreat.V
open Go Go.VM Go.Proofs
set_option maxRecDepth 10000
variable {frz:Nat} {H:Heap}
theorem Tj {w h:Int} {b:List Int} {r:Int} {a:Nat} (ha:a<(cnt w h).toNat):portOf w h (treeTab w h b r) a a=4:=by
 have hc:=Qe w h
 have hlt:a*(cnt w h).toNat+a<(cnt w h).toNat*(cnt w h).toNat:=by
  have:=Nat.mul_le_mul_right (cnt w h).toNat (show a+1≤(cnt w h).toNat by omega)
  rw [Nat.succ_mul] at this;omega
 have e:(a:Int)*cnt w h+a=((a*(cnt w h).toNat+a:Nat):Int):=by
  rw [Int.natCast_add,Int.natCast_mul,Int.toNat_of_nonneg hc.1]
 unfold portOf
 rw [e,Y0 (by simpa [treeTab] using hlt)]
 have hdv:(a*(cnt w h).toNat+a)/(cnt w h).toNat=a:=by rw [Nat.mul_comm,Nat.mul_add_div (by omega),Nat.div_eq_of_lt ha];omega
 have hmd:(a*(cnt w h).toNat+a)%(cnt w h).toNat=a:=by rw [Nat.mul_comm,Nat.mul_add_mod,Nat.mod_eq_of_lt ha]
 simp only [treeTab,List.getElem_map,List.getElem_range,treePort]
 rw [hdv,hmd,if_pos rfl]
theorem Ny {w h:Int} {b:List Int} {r:Int} (hm:meshOk w h b):tsized w h b (treeTab w h b r):=by
 have hc:=Qe w h
 refine ⟨hm,?_⟩
 simp only [treeTab,List.length_map,List.length_range]
 rw [Int.natCast_mul,Int.toNat_of_nonneg hc.1]
end Go.Proofs.YtaldglgobgjeaaaGreat.V
set_option linter.all false
namespace Go.Proofs.YtaldglgobgjeaaaGreat.V
open Go Go.VM
set_option maxRecDepth 100000
section
variable {w h r:Int} {b:List Int} (H:rootOk w h b r)
include H
end
theorem To:∀{l:List Int} {a x:Int},x∈l→x≤l.foldl max a∧True
 | y::l,a,x,hx=>by
  have mono:∀(l:List Int) (a:Int),a≤l.foldl max a:=fun l=>by
   induction l with
   | nil=>intro a;exact Int.le_refl _
   | cons z l ih=>intro a;have:=ih (max a z);simp only [List.foldl_cons];omega
  rcases List.mem_cons.1 hx with rfl|hx
  ·refine ⟨?_,trivial⟩
   have:=mono l (max a x)
   simp only [List.foldl_cons];omega
  ·exact To (a:=max a y) hx
def geo2B:Bool:=(List.range 5).all fun w=>(List.range 5).all fun h=>(List.range 16).all fun a=>(List.range 4).all fun p=>
 decide (next (w:Int) h a p<0) || (List.range 4).all fun q=>decide (p=q) || decide (next (w:Int) h a p≠next w h a q)
theorem wy:geo2B=true:=by decide +kernel
theorem Be {w h a:Int} {p q:Nat} (hp:p<4) (hq:q<4) (ha:isN w h a) (hu:0≤next w h a p) (e:next w h a p=next w h a q):p=q:=by
 obtain ⟨⟨⟨a1,a2⟩,b1,b2⟩,c1,c2,c3⟩:=Uc ha
 have h0:=wy
 unfold geo2B at h0
 rw [List.all_eq_true] at h0
 have h1:=h0 w.toNat (by simp;omega)
 rw [List.all_eq_true] at h1
 have h2:=h1 h.toNat (by simp;omega)
 rw [List.all_eq_true] at h2
 have h3:=h2 a.toNat (by simp;omega)
 rw [List.all_eq_true] at h3
 have h4:=h3 p (by simp;omega)
 have e1:(w.toNat:Int)=w:=by omega
 have e2:(h.toNat:Int)=h:=by omega
 have e3:(a.toNat:Int)=a:=by omega
 rw [e1,e2,e3] at h4
 simp only [Bool.or_eq_true,decide_eq_true_eq] at h4
 rcases h4 with h4|h4
 ·omega
 ·rw [List.all_eq_true] at h4
  have h5:=h4 q (by simp;omega)
  simp only [Bool.or_eq_true,decide_eq_true_eq] at h5
  rcases h5 with h5|h5
  ·exact h5
  ·exact absurd e h5
theorem Ev {w h a u:Int} {p:Nat} (hp:p<4) (ha:isN w h a) (h0:0≤u) (h1:next w h a p=u):firstPort w h a u=p:=by
 refine Ty hp h1 fun q hq e=>?_
 have:=Be (q:=p) (p:=q) (by omega) hp ha (by omega) (e.trans h1.symm)
 omega
theorem Ov:∀(n:Nat) (l:List Int),l.Nodup→(∀x∈l,0≤x∧x<n)→l.length≤n
 | 0,l,_,h=>by
  cases l with
  | nil=>simp
  | cons a l=>have:=h a (List.mem_cons_self ..);omega
 | n+1,l,nd,h=>by
  have ih:=Ov n (l.erase (n:Int)) (nd.erase _) fun x hx=>by
   have h1:=h x (List.mem_of_mem_erase hx)
   have h2:x≠(n:Int):=fun e=>by subst e;exact nd.not_mem_erase hx
   omega
  have:=List.length_erase (a:=(n:Int)) (l:=l)
  split at this<;>omega
theorem Jp (w h:Int) (b T:List Int) (to:Int) (h4:portOf w h T to to=4):∀L F a out,L≤F→(0<L∨out≠[])→itN (nuT w h T to) L a=to→(∀n,n<L→stepOk w h b T (itN (nuT w h T to) n a) to)→walkN w h b T to F a out≠[]
 | 0,F,a,out,_,ho,e,_=>by
  have e:a=to:=e
  subst e
  have ho:=ho.resolve_left (by omega)
  cases F with
  | zero=>unfold walkN;rw [if_pos h4,if_pos rfl];exact ho
  | succ F=>unfold walkN;rw [if_pos h4,if_pos rfl];exact ho
 | L+1,F,a,out,hF,_,e,hs=>by
  have s0:stepOk w h b T a to:=hs 0 (by omega)
  have hne:¬portOf w h T a to=4:=fun k=>by have:=s0.1;unfold inR at this;omega
  cases F with
  | zero=>omega
  | succ F=>
   unfold walkN
   rw [if_neg hne,if_pos s0]
   refine Jp w h b T to h4 L F _ _ (by omega) (.inr (by simp)) ?_ fun n hn=>?_
   ·have:=e;rw [Qz] at this;exact this
   ·have:=hs (n+1) (by omega);rw [Qz] at this;exact this
theorem Qac {w h:Int} {b T:List Int} {a to:Int} {L:Nat} (h4:portOf w h T to to=4) (hne:a≠to) (ha:isN w h a) (e:itN (nuT w h T to) L a=to) (hs:∀n,n<L→isN w h (itN (nuT w h T to) n a)∧stepOk w h b T (itN (nuT w h T to) n a) to):walk w h b T a to≠[]:=by
 have hL:0<L:=by
  cases L with
  | zero=>exact absurd e hne
  | succ L=>omega
 generalize hg:nuT w h T to=g at *
 have hne2:∀n,n<L→itN g n a≠to:=fun n hn' e=>by
  have k1:=(hs n hn').2.1
  rw [e,h4] at k1
  unfold inR at k1;omega
 have hinj:∀m n,m<n→n≤L→itN g m a≠itN g n a:=fun m n hm hn' e2=>by
  have e1:itN g (L-n+m) a=itN g (L-n+n) a:=by rw [Tn g m,Tn g n,e2]
  rw [show L-n+n=L by omega,e] at e1
  exact hne2 (L-n+m) (by omega) e1
 have hle:L≤(cnt w h).toNat:=by
  have hc:=Qe w h
  have:=Ov (cnt w h).toNat ((List.range L).map fun n=>itN g n a) ?_ ?_
  ·simpa using this
  ·refine List.pairwise_map.2 ((List.pairwise_lt_range).imp_of_mem fun {m n} hm hn hlt=>?_)
   exact hinj m n hlt (by have:=List.mem_range.1 hn;omega)
  ·intro x hx
   obtain ⟨n,hn,rfl⟩:=List.mem_map.1 hx
   have:=(hs n (List.mem_range.1 hn)).1
   unfold isN at this;omega
 unfold walk
 refine Jp w h b T to h4 L _ a [] hle (.inl hL) (by rw [hg];exact e) fun n hn=>by rw [hg];exact (hs n hn).2
theorem Dd {w h:Int} {b:List Int} {r a c:Int} (ha:isN w h a) (hc:isN w h c) (hne:a≠c):portOf w h (treeTab w h b r) a c=firstPort w h a ((treeNodes (parents w h b r) a c).getD 1 0):=by
 have hcn:=Qe w h
 obtain ⟨x,rfl⟩:=Int.eq_ofNat_of_zero_le ha.1
 obtain ⟨y,rfl⟩:=Int.eq_ofNat_of_zero_le hc.1
 have hx:x<(cnt w h).toNat:=by have:=ha.2;omega
 have hy:y<(cnt w h).toNat:=by have:=hc.2;omega
 have hlt:x*(cnt w h).toNat+y<(cnt w h).toNat*(cnt w h).toNat:=by
  have:=Nat.mul_le_mul_right (cnt w h).toNat (show x+1≤(cnt w h).toNat by omega)
  rw [Nat.succ_mul] at this;omega
 have e:(x:Int)*cnt w h+y=((x*(cnt w h).toNat+y:Nat):Int):=by
  rw [Int.natCast_add,Int.natCast_mul,Int.toNat_of_nonneg hcn.1]
 unfold portOf
 rw [e,Y0 (by simpa [treeTab] using hlt)]
 have hdv:(x*(cnt w h).toNat+y)/(cnt w h).toNat=x:=by rw [Nat.mul_comm,Nat.mul_add_div (by omega),Nat.div_eq_of_lt hy];omega
 have hmd:(x*(cnt w h).toNat+y)%(cnt w h).toNat=y:=by rw [Nat.mul_comm,Nat.mul_add_mod,Nat.mod_eq_of_lt hy]
 simp only [treeTab,List.getElem_map,List.getElem_range,treePort]
 rw [hdv,hmd,if_neg (by omega)]
section
variable {w h r:Int} {b:List Int} (hc:conn w h b) (hr:isN w h r)
include hc hr
theorem Xo {a c:Int} (ha:isN w h a) (hcn:isN w h c) (hne:a≠c) :
 (a∉anc (parents w h b r) c∧(treeNodes (parents w h b r) a c).getD 1 0=rd (parents w h b r) a∧a≠r)∨
 ∃j,∃hj:j+1<(anc (parents w h b r) c).length,(anc (parents w h b r) c)[j+1]=a∧(treeNodes (parents w h b r) a c).getD 1 0=(anc (parents w h b r) c)[j]:=by
 have H:rootOk w h b r:=⟨hc.1,hr⟩
 obtain ⟨i,j,hi,hj,e1,e2,e3,e4⟩:=way H ha hcn (Wi hc hr a ha) (Wi hc hr c hcn)
 have dn:=fun {v:Int} (hv:isN w h v)=>(Int.toNat_of_nonneg (Wi hc hr v hv)).symm
 have ea:=Ye hc hr ha
 have a0:(anc (parents w h b r) a)[0]? = some a:=Uj H ha
 have hcom:0≤common (parents w h b r) a c:=by rw [e1];exact e4.1
 obtain ⟨ma,mc⟩:=Ua hcom
 have tn:treeNodes (parents w h b r) a c=(anc (parents w h b r) a).take ((anc (parents w h b r) a).idxOf (common (parents w h b r) a c)+1)++((anc (parents w h b r) c).take ((anc (parents w h b r) c).idxOf (common (parents w h b r) a c))).reverse:=by
  unfold treeNodes;rw [if_neg (by omega)]
 by_cases hm:a∈anc (parents w h b r) c
 ·right
  have ec:common (parents w h b r) a c=a:=by
   unfold common
   rw [ea,List.find?_cons_of_pos (by simpa using hm)];rfl
  have i0:(anc (parents w h b r) a).idxOf a=0:=by rw [ea];simp
  rw [ec,i0] at tn
  have hk:=List.idxOf_lt_length_iff.2 hm
  have vk:=List.getElem_idxOf hk
  have c0:(anc (parents w h b r) c)[0]? = some c:=Uj H hcn
  generalize (anc (parents w h b r) c).idxOf a=k at *
  have k0:k≠0:=fun e=>by
   subst e
   rw [List.getElem?_eq_getElem hk,vk] at c0
   exact hne (by simpa using c0)
  have l1:((anc (parents w h b r) a).take (0+1)).length=1:=by rw [ea];rfl
  refine ⟨k-1,by omega,?_,?_⟩
  ·have:k-1+1=k:=by omega
   simp only [this];exact vk
  ·rw [tn]
   simp only [List.getD_eq_getElem?_getD]
   rw [List.getElem?_append_right (by omega),l1,List.getElem?_reverse (by simp;omega)]
   have e5:((anc (parents w h b r) c).take k).length-1-(1-1)=k-1:=by rw [List.length_take];omega
   rw [e5,List.getElem?_take,if_pos (by omega),List.getElem?_eq_getElem (by omega)];rfl
 ·left
  have hk:=List.idxOf_lt_length_iff.2 ma
  have vk:=List.getElem_idxOf hk
  have hr':=Uw hc hr _ hcn (dn hcn)
  have hne2:common (parents w h b r) a c≠a:=fun e=>hm (e▸mc)
  generalize (anc (parents w h b r) a).idxOf (common (parents w h b r) a c)=k at *
  have k0:k≠0:=fun e=>by
   subst e
   rw [List.getElem?_eq_getElem hk,vk] at a0
   exact hne2 (by simpa using a0)
  refine ⟨hm,?_,fun e=>hm (e▸hr')⟩
  have hp:rd (parents w h b r) a≠-1:=fun e=>by
   rw [e,if_pos rfl] at ea
   rw [ea] at hk;simp at hk;omega
  rw [if_neg hp] at ea
  have hpn:isN w h (rd (parents w h b r) a):=by
   rcases Yd hc hr ha with ⟨_,h1⟩|⟨p,_,h2,_,h4,_⟩
   ·exact absurd h1 hp
   ·rw [h2];exact h4
  have p0:=Uj H hpn
  rw [tn]
  simp only [List.getD_eq_getElem?_getD]
  rw [List.getElem?_append_left (by rw [List.length_take];omega),List.getElem?_take,if_pos (by omega),ea,List.getElem?_cons_succ,p0];rfl
theorem X6 {a c:Int} (ha:isN w h a) (hcn:isN w h c) (hne:a≠c):stepOk w h b (treeTab w h b r) a c∧nuT w h (treeTab w h b r) c a=(treeNodes (parents w h b r) a c).getD 1 0:=by
 have H:rootOk w h b r:=⟨hc.1,hr⟩
 have dn:=fun {v:Int} (hv:isN w h v)=>(Int.toNat_of_nonneg (Wi hc hr v hv)).symm
 have key:∃p:Nat,p<4∧next w h a p=(treeNodes (parents w h b r) a c).getD 1 0∧link w h b (4*a+p):=by
  rcases Xo hc hr ha hcn hne with ⟨_,h2,h3⟩|⟨j,hj,h2,h3⟩
  ·rcases Yd hc hr ha with ⟨h1,_⟩|⟨p,hp,h4,h5,_⟩
   ·exact absurd h1 h3
   ·exact ⟨p,hp,by rw [h2,h4],h5⟩
  ·obtain ⟨_,_,p,hp,g1,g2⟩:=Ka hc hr _ hcn (dn hcn) j hj
   obtain ⟨q,hq,g3,g4⟩:=Vq hp g2
   rw [g1,h2] at g3 g4
   exact ⟨q,hq,by rw [h3];exact g4,g3⟩
 obtain ⟨p,hp,h1,h2⟩:=key
 obtain ⟨_,hu,_⟩:=Wd hp h2
 have ep:portOf w h (treeTab w h b r) a c=p:=by
  rw [Dd ha hcn hne,← h1]
  exact Ev hp ha hu.1 rfl
 refine ⟨?_,?_⟩
 ·unfold stepOk
  rw [ep]
  exact ⟨⟨by omega,by omega⟩,h2.1⟩
 ·unfold nuT
  rw [ep,h1]
theorem Me {c:Int} (hcn:isN w h c):∀(j:Nat) (hj:j<(anc (parents w h b r) c).length),∃L,itN (nuT w h (treeTab w h b r) c) L (anc (parents w h b r) c)[j]=c∧∀n,n<L→isN w h (itN (nuT w h (treeTab w h b r) c) n (anc (parents w h b r) c)[j])∧itN (nuT w h (treeTab w h b r) c) n (anc (parents w h b r) c)[j]≠c:=by
 have H:rootOk w h b r:=⟨hc.1,hr⟩
 have dn:=fun {v:Int} (hv:isN w h v)=>(Int.toNat_of_nonneg (Wi hc hr v hv)).symm
 obtain ⟨c1,c2,c3⟩:=Xz H _ hcn (dn hcn)
 intro j
 induction j with
 | zero=>
  intro hj
  have c0:(anc (parents w h b r) c)[0]? = some c:=Uj H hcn
  rw [List.getElem?_eq_getElem hj] at c0
  exact ⟨0,Option.some.inj c0,fun n hn=>by omega⟩
 | succ j ih=>
  intro hj
  obtain ⟨L,i1,i2⟩:=ih (by omega)
  obtain ⟨k1,k2⟩:=c3 (j+1) hj
  have hne:(anc (parents w h b r) c)[j+1]≠c:=fun e=>by rw [e] at k2;have:=dn hcn;omega
  have st:nuT w h (treeTab w h b r) c (anc (parents w h b r) c)[j+1]=(anc (parents w h b r) c)[j]:=by
   rw [(X6 hc hr k1 hcn hne).2]
   rcases Xo hc hr k1 hcn hne with ⟨h1,_,_⟩|⟨j',hj',h2,h3⟩
   ·exact absurd (List.getElem_mem hj) h1
   ·rw [h3]
    have k3:=(c3 (j'+1) hj').2
    rw [h2,k2] at k3
    have:j'=j:=by omega
    subst this;rfl
  refine ⟨L+1,by rw [Qz,st];exact i1,fun n hn=>?_⟩
  cases n with
  | zero=>exact ⟨k1,hne⟩
  | succ n=>rw [Qz,st];exact i2 n (by omega)
theorem vl {c:Int} (hcn:isN w h c):∀(m:Nat) {a:Int},isN w h a→rd (depths w h b r) a=m→∃L,itN (nuT w h (treeTab w h b r) c) L a=c∧∀n,n<L→isN w h (itN (nuT w h (treeTab w h b r) c) n a)∧itN (nuT w h (treeTab w h b r) c) n a≠c:=by
 have H:rootOk w h b r:=⟨hc.1,hr⟩
 have dn:=fun {v:Int} (hv:isN w h v)=>(Int.toNat_of_nonneg (Wi hc hr v hv)).symm
 intro m
 induction m with
 | zero=>
  intro a ha hd
  have hroot:=(Wh H).zero.2 a ha (by omega)
  obtain ⟨k,hk,e⟩:=List.mem_iff_getElem.1 (Uw hc hr _ hcn (dn hcn))
  have:=Me hc hr hcn k hk
  rw [e] at this
  rw [hroot]
  exact this
 | succ m ih=>
  intro a ha hd
  by_cases hne:a=c
  ·exact ⟨0,hne,fun n hn=>by omega⟩
  rcases Xo hc hr ha hcn hne with ⟨h1,h2,h3⟩|⟨j,hj,h2,h3⟩
  ·rcases Yd hc hr ha with ⟨h4,_⟩|⟨p,hp,h4,h5,h6,h7⟩
   ·exact absurd h4 h3
   ·have st:nuT w h (treeTab w h b r) c a=next w h a p:=by
     rw [(X6 hc hr ha hcn hne).2,h2,h4]
    obtain ⟨L,i1,i2⟩:=ih h6 (by omega)
    refine ⟨L+1,by rw [Qz,st];exact i1,fun n hn=>?_⟩
    cases n with
    | zero=>exact ⟨ha,hne⟩
    | succ n=>rw [Qz,st];exact i2 n (by omega)
  ·have:=Me hc hr hcn (j+1) hj
   rw [h2] at this
   exact this
theorem Vb:tableOk w h b (treeTab w h b r):=by
 have dn:=fun {v:Int} (hv:isN w h v)=>(Int.toNat_of_nonneg (Wi hc hr v hv)).symm
 have hcn:=Qe w h
 refine ⟨Ny hc.1,fun a ha c hcl=>⟨fun _=>Tj ha,fun hne=>?_⟩⟩
 have ha':isN w h (a:Int):=⟨by omega,by omega⟩
 have hc':isN w h (c:Int):=⟨by omega,by omega⟩
 have hne':(a:Int)≠c:=by omega
 obtain ⟨L,h1,h2⟩:=vl hc hr hc' _ ha' (dn ha')
 exact Qac (Tj hcl) hne' ha' h1 fun n hn=>⟨(h2 n hn).1,(X6 hc hr (h2 n hn).1 hc' (h2 n hn).2).1⟩
end
theorem qf {w h:Int} {b:List Int} (hk:repairOk w h b=true):classesOk w h b (repair w h b).1 (repair w h b).2:=by
 have hk:treeOk w h b (bestRoot w h b):=by simpa [repairOk] using hk
 have e:treeTable w h b (bestRoot w h b)=treeTab w h b (bestRoot w h b):=if_pos hk
 unfold repair
 rw [e]
 exact ⟨Vb hk.1 hk.2,Vb hk.1 hk.2⟩
end Go.Proofs.YtaldglgobgjeaaaGreat.V
set_option linter.all false
namespace Go.Proofs.YtaldglgobgjeaaaGreat.V
open Go Go.VM Go.Proofs
set_option maxRecDepth 10000
def chanT (w h:Int) (T:List Int) (to a:Int) (n:Nat):Int:=4*itN (nuT w h T to) n a+portOf w h T (itN (nuT w h T to) n a) to
theorem Oy (w h:Int) (b T:List Int) (to:Int) (h4:portOf w h T to to=4):∀L F a out,L≤F→itN (nuT w h T to) L a=to→(∀n,n<L→stepOk w h b T (itN (nuT w h T to) n a) to)→walkN w h b T to F a out=out++(List.range L).map (chanT w h T to a)
 | 0,F,a,out,_,e,_=>by
  have e:a=to:=e
  subst e
  cases F with
  | zero=>unfold walkN;rw [if_pos h4,if_pos rfl];simp
  | succ F=>unfold walkN;rw [if_pos h4,if_pos rfl];simp
 | L+1,F,a,out,hF,e,hs=>by
  have s0:stepOk w h b T a to:=hs 0 (by omega)
  have hne:¬portOf w h T a to=4:=fun k=>by have:=s0.1;unfold inR at this;omega
  cases F with
  | zero=>omega
  | succ F=>
   unfold walkN
   rw [if_neg hne,if_pos s0]
   rw [Oy w h b T to h4 L F _ _ (by omega) (by have:=e;rw [Qz] at this;exact this) fun n hn=>by have:=hs (n+1) (by omega);rw [Qz] at this;exact this]
   rw [List.range_succ_eq_map,List.map_cons,List.map_map,List.append_assoc]
   congr 1
   rw [List.singleton_append]
   congr 1
   refine List.map_congr_left fun n _=>?_
   show chanT w h T to (nuT w h T to a) n=chanT w h T to a (n+1)
   unfold chanT
   rw [Qz]
theorem Sn {w h:Int} {b T:List Int} (k:tableOk w h b T) {a t:Nat} (ha:a<(cnt w h).toNat) (ht:t<(cnt w h).toNat) (hne:a≠t):∃L,walk w h b T a t=(List.range L).map (chanT w h T t a)∧0<L∧itN (nuT w h T t) L a=(t:Int)∧∀n,n<L→stepOk w h b T (itN (nuT w h T t) n a) t:=by
 obtain ⟨L,h0,h1,h2⟩:=Up _ _ _ _ _ _ _ _ ((k.2 a ha t ht).2 hne)
 have h4:=(k.2 t ht t ht).1 rfl
 refine ⟨L,?_,?_,h1,h2⟩
 ·unfold walk
  rw [Oy w h b T t h4 L _ a [] h0 h1 h2]
  rfl
 ·cases L with
  | zero=>have:(a:Int)=t:=h1;omega
  | succ L=>omega
def Adj (w h:Int) (b T:List Int) (c d:Int):Prop:=∃(a t L n:Nat),a<(cnt w h).toNat∧t<(cnt w h).toNat∧a≠t∧itN (nuT w h T t) L a=(t:Int)∧(∀m,m<L→stepOk w h b T (itN (nuT w h T t) m a) t)∧n+1<L∧c=chanT w h T t a n∧d=chanT w h T t a (n+1)
noncomputable def treeRank (w h:Int) (b:List Int) (r c:Int):Int:=if rd (depths w h b r) (next w h (c/4) (c%4))<rd (depths w h b r) (c/4) then 100-rd (depths w h b r) (c/4) else 200+rd (depths w h b r) (next w h (c/4) (c%4))
section
variable {w h r:Int} {b:List Int} (hc:conn w h b) (hr:isN w h r)
include hc hr
theorem Pu {a:Int} (ha:isN w h a):0≤rd (depths w h b r) a∧rd (depths w h b r) a≤16:=by
 have H:rootOk w h b r:=⟨hc.1,hr⟩
 have hcn:=Qe w h
 have h0:=Wi hc hr a ha
 obtain ⟨m,hm⟩:=Int.eq_ofNat_of_zero_le h0
 obtain ⟨a1,_,a3⟩:=Xz H m ha hm
 refine ⟨h0,?_⟩
 have nd:(anc (parents w h b r) a).Nodup:=by
  refine List.pairwise_iff_getElem.2 fun i j hi hj hij e=>?_
  have k1:=(a3 i hi).2
  have k2:=(a3 j hj).2
  rw [e,k2] at k1
  omega
 have:=Ov (cnt w h).toNat _ nd fun x hx=>by
  obtain ⟨i,hi,rfl⟩:=List.mem_iff_getElem.1 hx
  obtain ⟨k1,k2⟩:=(a3 i hi).1
  omega
 omega
theorem yk {c d:Int} (k:Adj w h b (treeTab w h b r) c d):treeRank w h b r c<treeRank w h b r d:=by
 obtain ⟨a,t,L,n,ha,ht,hne,h1,h2,hn,rfl,rfl⟩:=k
 have H:rootOk w h b r:=⟨hc.1,hr⟩
 have hcn:=Qe w h
 have ok:=Vb hc hr
 have h4:=(ok.2 t ht t ht).1 rfl
 have nt:∀m,m<L→itN (nuT w h (treeTab w h b r) t) m a≠t:=fun m hm e=>by
  have:=(h2 m hm).1
  rw [e,h4] at this
  unfold inR at this;omega
 have nn:∀m,m≤L→isN w h (itN (nuT w h (treeTab w h b r) t) m a):=fun m=>by
  induction m with
  | zero=>intro _;exact ⟨by show (0:Int)≤a;omega,by show (a:Int)<cnt w h;omega⟩
  | succ m ih=>
   intro hm
   obtain ⟨k1,k2⟩:=h2 m (by omega)
   exact (Xl k1 k2).2.2
 have it:isN w h (t:Int):=⟨by omega,by omega⟩
 have dn:=fun {v:Int} (hv:isN w h v)=>(Int.toNat_of_nonneg (Wi hc hr v hv)).symm
 obtain ⟨_,_,c3⟩:=Xz H _ it (dn it)
 -- a step: up or down
 have stp:∀m,m<L→chanT w h (treeTab w h b r) t a m/4=itN (nuT w h (treeTab w h b r) t) m a∧next w h (chanT w h (treeTab w h b r) t a m/4) (chanT w h (treeTab w h b r) t a m%4)=itN (nuT w h (treeTab w h b r) t) (m+1) a:=fun m hm=>by
  obtain ⟨k1,k2⟩:=h2 m hm
  obtain ⟨e1,e2,_⟩:=Xl k1 k2
  unfold chanT
  rw [e1,e2]
  exact ⟨rfl,rfl⟩
 obtain ⟨x,hx⟩:∃x,x=itN (nuT w h (treeTab w h b r) t) n a:=⟨_,rfl⟩
 obtain ⟨y,hy⟩:∃y,y=itN (nuT w h (treeTab w h b r) t) (n+1) a:=⟨_,rfl⟩
 obtain ⟨z,hz⟩:∃z,z=itN (nuT w h (treeTab w h b r) t) (n+2) a:=⟨_,rfl⟩
 obtain ⟨f1,f2⟩:=stp n (by omega)
 obtain ⟨g1,g2⟩:=stp (n+1) hn
 have nx:=nn n (by omega)
 have ny:=nn (n+1) (by omega)
 have nz:=nn (n+2) (by omega)
 have tx:=nt n (by omega)
 have ty:=nt (n+1) hn
 have sx:=(X6 hc hr nx it tx).2
 have sy:=(X6 hc hr ny it ty).2
 have exy:y=(treeNodes (parents w h b r) x t).getD 1 0:=by rw [hy,hx];exact sx
 have eyz:z=(treeNodes (parents w h b r) y t).getD 1 0:=by rw [hz,hy];exact sy
 rw [← hx] at f1 nx tx
 rw [← hy] at f2 g1 ny ty
 rw [← hz] at g2 nz
 obtain ⟨dx0,dx⟩:=Pu hc hr nx
 obtain ⟨dy0,dy⟩:=Pu hc hr ny
 obtain ⟨dz0,dz⟩:=Pu hc hr nz
 unfold treeRank
 rw [f2,f1,g2,g1]
 -- what the next nodes' depths are
 have up:∀{u v:Int},isN w h u→v=(treeNodes (parents w h b r) u t).getD 1 0→(treeNodes (parents w h b r) u t).getD 1 0=rd (parents w h b r) u→u≠r→rd (depths w h b r) v=rd (depths w h b r) u-1:=fun {u v} hu ev e hur=>by
  rcases Yd hc hr hu with ⟨e1,_⟩|⟨p,_,e1,_,_,e2⟩
  ·exact absurd e1 hur
  ·rw [ev,e,e1];exact e2
 rcases Xo hc hr nx it tx with ⟨_,u2,u3⟩|⟨j,hj,u2,u3⟩
 ·have ex:=up nx exy u2 u3
  rw [if_pos (by omega)]
  rcases Xo hc hr ny it ty with ⟨_,v2,v3⟩|⟨j,hj,v2,v3⟩
  ·have ey:=up ny eyz v2 v3
   rw [if_pos (by omega)];omega
  ·have k1:=(c3 (j+1) hj).2
   have k2:=(c3 j (by omega)).2
   rw [v2] at k1
   rw [← v3,← eyz] at k2
   rw [if_neg (by omega)];omega
 ·have k1:=(c3 (j+1) hj).2
  have k2:=(c3 j (by omega)).2
  rw [u2] at k1
  have ey:y=(anc (parents w h b r) t)[j]:=by rw [exy,u3]
  rw [← ey] at k2
  rw [if_neg (by omega)]
  have my:y∈anc (parents w h b r) t:=by rw [ey];exact List.getElem_mem _
  rcases Xo hc hr ny it ty with ⟨v1,_,_⟩|⟨i,hi,v2,v3⟩
  ·exact absurd my v1
  ·have k3:=(c3 (i+1) hi).2
   have k4:=(c3 i (by omega)).2
   rw [v2] at k3
   rw [← v3,← eyz] at k4
   rw [if_neg (by omega)];omega
end
theorem gD {l:List Int} {i:Nat} (x:Int) (h:i<l.length) (c:Nat):(l.set i x).getD c 0=if c=i then x else l.getD c 0:=jr x h c
theorem Lz {ds:List (Nat×Nat)} {rk:List Int} {c:Nat} (h:ordNext ds rk=some c):c<128∧ordFree ds rk c:=by
 unfold ordNext at h
 exact ⟨List.mem_range.1 (List.mem_of_find?_eq_some h),by simpa using List.find?_some h⟩
theorem Zv {ds:List (Nat×Nat)} (hs:∀d∈ds,d.1<128∧d.2<128):∀{r:Nat} {rk:List Int},r≤128→ordRun ds r=some rk→rk.length=128∧negs rk=128-r∧(∀c,c<128→rk.getD c 0<(r:Int))∧∀d∈ds,0≤rk.getD d.2 0→0≤rk.getD d.1 0∧rk.getD d.1 0<rk.getD d.2 0
 | 0,rk,_,h=>by
  cases h
  have g:∀c,c<128→(List.replicate 128 (-1:Int)).getD c 0=-1:=fun c hc=>by
   rw [List.getD_eq_getElem?_getD,List.getElem?_eq_getElem (by simpa using hc)];simp only [List.getElem_replicate,Option.getD_some]
  refine ⟨by simp,?_,fun c hc=>by rw [g c hc];omega,fun d hd h=>?_⟩
  ·unfold negs
   rw [List.filter_eq_self.2]
   ·simp
   ·intro x hx
    rw [List.eq_of_mem_replicate hx];decide
  ·rw [g _ (hs d hd).2] at h;omega
 | r+1,rk,hr,h=>by
  unfold ordRun at h
  split at h
  ·rename_i rk0 h0
   obtain ⟨i1,i2,i3,i4⟩:=Zv hs (by omega) h0
   split at h
   ·rename_i c hc
    cases h
    obtain ⟨c1,c2,c3⟩:=Lz hc
    have:=Nf rk0 c (r:Int) (by omega) c2 (by omega)
    refine ⟨by rw [List.length_set];exact i1,by omega,fun k hk=>?_,fun d hd hp=>?_⟩
    ·rw [gD _ (by omega)]
     split
     ·omega
     ·have:=i3 k hk;omega
    ·have h2:=hs d hd
     rw [gD _ (by omega)] at hp ⊢
     rw [gD _ (by omega)]
     by_cases e2:d.2=c
     ·have k1:=c3 d hd e2
      have ne:d.1≠c:=fun e=>k1 (by rw [e];exact c2)
      rw [if_pos e2,if_neg ne]
      have:=i3 d.1 h2.1
      omega
     ·rw [if_neg e2] at hp ⊢
      obtain ⟨k1,k2⟩:=i4 d hd hp
      have ne:d.1≠c:=fun e=>by rw [e] at k1;omega
      rw [if_neg ne];exact ⟨k1,k2⟩
   ·cases h
  ·cases h
theorem km {ds:List (Nat×Nat)} (hs:∀d∈ds,d.1<128∧d.2<128) (h:orderOk ds):∃φ:Nat→Int,∀d∈ds,φ d.1<φ d.2:=by
 obtain ⟨rk,hr⟩:=Option.ne_none_iff_exists'.1 h
 obtain ⟨h1,h2,_,h4⟩:=Zv hs (Nat.le_refl _) hr
 refine ⟨fun c=>rk.getD c 0,fun d hd=>(h4 d hd ?_).2⟩
 rcases Int.lt_or_le (rk.getD d.2 0) 0 with k|k
 ·exfalso
  have:rk.getD d.2 0∈rk.filter fun x=>decide (x<0):=by
   refine List.mem_filter.2 ⟨?_,by simpa using k⟩
   rw [List.getD_eq_getElem?_getD,List.getElem?_eq_getElem (by have:=(hs d hd).2;omega)]
   exact List.getElem_mem _
  have:=List.length_pos_of_mem this
  unfold negs at h2;omega
 ·exact k
def Acyc (xs:List Int):Prop:=∃φ:Nat→Int,∀x∈xs,φ (x/1024).toNat<φ (x%1024).toNat
theorem Mt {xs:List Int} (hs:∀x∈xs,x/1024≤127∧x%1024≤127):orderOk (prs xs)↔Acyc xs:=by
 have hb:∀d∈prs xs,d.1<128∧d.2<128:=fun d hd=>by
  obtain ⟨x,hx,rfl⟩:=List.mem_map.1 hd
  have:=hs x hx
  simp only
  omega
 constructor
 ·intro h
  obtain ⟨φ,hφ⟩:=km hb h
  exact ⟨φ,fun x hx=>hφ _ (List.mem_map_of_mem hx)⟩
 ·rintro ⟨φ,hφ⟩
  refine zx (fun d hd=>(hb d hd).1) φ fun d hd=>?_
  obtain ⟨x,hx,rfl⟩:=List.mem_map.1 hd
  exact hφ x hx
theorem Ou {w h:Int} {b T:List Int} (k:tableOk w h b T) {x:Int}:x∈depsOf w h b T↔∃a t:Nat,a<(cnt w h).toNat∧t<(cnt w h).toNat∧a≠t∧∃n,n+1<(walk w h b T a t).length∧x=keyD (G (walk w h b T a t) n) (G (walk w h b T a t) (n+1)):=by
 unfold depsOf
 rw [if_pos k,Tz]
 constructor
 ·intro hx
  obtain ⟨p,hp,hx⟩:=List.mem_flatMap.1 hx
  obtain ⟨h1,h2,h3⟩:=Yk (a:=p.1) (c:=p.2) |>.1 hp
  exact ⟨p.1,p.2,h1,h2,h3,Pk.1 hx⟩
 ·rintro ⟨a,t,h1,h2,h3,hx⟩
  exact List.mem_flatMap.2 ⟨(a,t),Yk.2 ⟨h1,h2,h3⟩,Pk.2 hx⟩
theorem Kf {a b:Int} (h:0≤b∧b<1024):keyD a b/1024=a∧keyD a b%1024=b:=by unfold keyD;omega
theorem Ks {w h:Int} {T:List Int} {to a:Int} {L n:Nat} (hn:n<L):G ((List.range L).map (chanT w h T to a)) n=chanT w h T to a n:=by
 rw [Wr (by simpa using hn)];simp
section
variable {w h r:Int} {b:List Int} (hc:conn w h b) (hr:isN w h r)
include hc hr
theorem Mp:Acyc (depsOf w h b (treeTab w h b r)):=by
 refine ⟨fun c=>treeRank w h b r c,fun x hx=>?_⟩
 have ok:=Vb hc hr
 have sm:=Wo x hx
 obtain ⟨a,t,h1,h2,h3,n,h4,rfl⟩:=(Ou ok).1 hx
 obtain ⟨L,e,h5,h6,h7⟩:=Sn ok h1 h2 h3
 rw [e] at h4 sm ⊢
 simp at h4
 rw [Ks (by omega),Ks (by omega)] at sm ⊢
 obtain ⟨A,hA⟩:∃A,A=chanT w h (treeTab w h b r) t a n:=⟨_,rfl⟩
 obtain ⟨B,hB⟩:∃B,B=chanT w h (treeTab w h b r) t a (n+1):=⟨_,rfl⟩
 have:=yk hc hr ⟨a,t,L,n,h1,h2,h3,h6,h7,h4,hA,hB⟩
 have kb:=Zp (b:=b) (T:=treeTab w h b r) (Q9 h1) (to:=t) B (by
  rw [e,hB];exact List.mem_map_of_mem (List.mem_range.2 h4))
 rw [← hA,← hB] at sm ⊢
 obtain ⟨k1,k2⟩:=Kf (a:=A) (b:=B) (by omega)
 rw [k1,k2] at sm ⊢
 simpa [Int.toNat_of_nonneg sm.1.1,Int.toNat_of_nonneg sm.2.1] using this
end
theorem Vu {w h:Int} {b A B:List Int} (k:classesOk w h b A B) {x:Int}:x∈classDeps w h b A B↔x∈depsOf w h b A∨∃y∈depsOf w h b B,x=y+1025*64:=by
 unfold classDeps
 rw [if_pos k]
 have s1:dOk (shiftK 64 (depsOf w h b B)):=by
  refine Dz ?_ fun x hx=>?_
  ·unfold shiftK
   rw [List.pairwise_map]
   exact Oh.imp fun h=>by omega
  ·obtain ⟨y,hy,rfl⟩:=List.mem_map.1 hx
   have:=Wo y hy
   omega
 have s2:shiftOf 64 (depsOf w h b B)=shiftK 64 (depsOf w h b B):=by
  unfold shiftOf;rw [if_pos Mv,if_pos s1]
 rw [s2]
 unfold mergeOf
 rw [if_pos Mv,if_pos s1,Tz,List.mem_append]
 refine or_congr Iff.rfl ⟨fun hx=>?_,fun ⟨y,hy,e⟩=>?_⟩
 ·obtain ⟨y,hy,rfl⟩:=List.mem_map.1 hx
  exact ⟨y,hy,rfl⟩
 ·rw [e];exact List.mem_map_of_mem (f:=fun z=>z+1025*64) hy
theorem Ug {w h:Int} {b A B:List Int} (k:classesOk w h b A B):∀x∈classDeps w h b A B,(0≤x/1024∧x/1024≤127)∧0≤x%1024∧x%1024≤127:=fun x hx=>by
 rcases (Vu k).1 hx with hx|⟨y,hy,rfl⟩
 ·have:=Wo x hx;omega
 ·have:=Wo y hy;omega
theorem Kr {w h:Int} {b A B:List Int} (k:classesOk w h b A B):dOk (classDeps w h b A B):=by
 refine Dz ?_ fun x hx=>by have:=Ug k x hx;omega
 unfold classDeps
 rw [if_pos k]
 unfold mergeOf
 repeat' split
 ·exact Pb _
 ·exact List.Pairwise.nil
 ·exact List.Pairwise.nil
theorem Fy {w h:Int} {b A B:List Int} (k:classesOk w h b A B) (hA:Acyc (depsOf w h b A)) (hB:Acyc (depsOf w h b B)):Acyc (classDeps w h b A B):=by
 obtain ⟨φ,hφ⟩:=hA
 obtain ⟨ψ,hψ⟩:=hB
 refine ⟨fun c=>if c<64 then φ c else ψ (c-64),fun x hx=>?_⟩
 rcases (Vu k).1 hx with hx|⟨y,hy,rfl⟩
 ·have h1:=Wo x hx
  have:=hφ x hx
  simp only
  rw [if_pos (by omega),if_pos (by omega)];exact this
 ·have h1:=Wo y hy
  have:=hψ y hy
  simp only
  rw [if_neg (by omega),if_neg (by omega),show ((y+1025*64)/1024).toNat-64=(y/1024).toNat by omega,show ((y+1025*64)%1024).toNat-64=(y%1024).toNat by omega]
  exact this
theorem Fm {w h:Int} {b A B:List Int} (k:classesOk w h b A B) (hA:Acyc (depsOf w h b A)) (hB:Acyc (depsOf w h b B)):dOk (classDeps w h b A B)∧orderOk (prs (classDeps w h b A B)):=
 ⟨Kr k,(Mt fun x hx=>by have:=Ug k x hx;omega).2 (Fy k hA hB)⟩
end Go.Proofs.YtaldglgobgjeaaaGreat.V
set_option linter.all false
namespace Go.Proofs.YtaldglgobgjeaaaGreat.V
open Go Go.VM Go.Proofs
set_option maxRecDepth 100000
def srank (r w h c:Int):Int:=
 let x:=c/4%w;let y:=c/4/w;let p:=c%4
 if r=1 then (if p=1 then x else if p=3 then 3-x else if p=2 then 10+y else 13-y)
 else if r=2 then (if p=1 then 10+x else if p=3 then 13-x else if p=2 then y else 3-y)
 else (if p=1 then 20+x else if p=3 then 3-x else if p=2 then 10+y else 13-y)
def incB (f:Int→Int):List Int→Bool
 | []=>true
 | [_]=>true
 | a::b::l=>decide (f a<f b)&&incB f (b::l)
theorem C4 {f:Int→Int}:∀{l:List Int} (n:Nat),incB f l=true→n+1<l.length→f (G l n)<f (G l (n+1))
 | [],n,_,h=>by simp at h
 | [a],n,_,h=>by simp at h
 | a::b::l,0,h,_=>by
  simp only [incB,Bool.and_eq_true,decide_eq_true_eq] at h
  exact h.1
 | a::b::l,n+1,h,h1=>by
  simp only [incB,Bool.and_eq_true] at h
  exact C4 (l:=b::l) n h.2 (by simpa using h1)
def chkS1 (r w h:Int) (n:Nat) (a to:Int):Bool:=decide ((wkR r w h n a to).length≤6)&&incB (srank r w h) (wkR r w h n a to)
def chkS (r w h n:Nat):Bool:=(List.range n).all fun a=>(List.range n).all fun to=>chkS1 r w h n a to
theorem ww:((List.range 3).all fun r=>(List.range 4).all fun w=>(List.range 4).all fun h=>chkS (r+1) (w+1) (h+1) ((w+1)*(h+1)))=true:=by kernel_rfl
theorem mi {r w h a to:Int} {n:Nat} (hr:1≤r∧r≤3) (hg:okG w h) (hn:cnt w h=n) (ha:isN w h a) (hto:isN w h to):chkS1 r w h n a to=true:=by
 obtain ⟨⟨w0,w1⟩,h0,h1⟩:=hg
 obtain ⟨i,hi⟩:∃i:Nat,w=((i+1:Nat):Int):=⟨(w-1).toNat,by omega⟩
 obtain ⟨j,hj⟩:∃j:Nat,h=((j+1:Nat):Int):=⟨(h-1).toNat,by omega⟩
 obtain ⟨q,hq⟩:∃j:Nat,r=((j+1:Nat):Int):=⟨(r-1).toNat,by omega⟩
 obtain ⟨k,rfl⟩:=Int.eq_ofNat_of_zero_le ha.1
 obtain ⟨l,rfl⟩:=Int.eq_ofNat_of_zero_le hto.1
 have e9:=ww
 rw [List.all_eq_true] at e9
 have e0:=e9 q (List.mem_range.2 (by omega))
 rw [List.all_eq_true] at e0
 have e1:=e0 i (List.mem_range.2 (by omega))
 rw [List.all_eq_true] at e1
 have e2:=e1 j (List.mem_range.2 (by omega))
 have hk:=ha.2
 have hl:=hto.2
 have hnn:n=(i+1)*(j+1):=by
  rw [cnt,if_pos ⟨⟨w0,w1⟩,h0,h1⟩,hi,hj,← Int.natCast_mul] at hn;omega
 rw [chkS,List.all_eq_true] at e2
 have e3:=e2 k (List.mem_range.2 (by omega))
 rw [List.all_eq_true] at e3
 have e4:=e3 l (List.mem_range.2 (by omega))
 rw [hi,hj,hq,hnn];exact e4
theorem Pi {r w h:Int} {n:Nat} (hr:1≤r∧r≤3) (hg:okG w h) (hn:cnt w h=n) {a t:Int} (ha:isN w h a) (ht:isN w h t) :
 (walk w h [] (stdTab w r n) a t).length≤6∧∀k,k+1<(walk w h [] (stdTab w r n) a t).length→srank r w h (G (walk w h [] (stdTab w r n) a t) k)<srank r w h (G (walk w h [] (stdTab w r n) a t) (k+1)):=by
 rw [xb hn hg ha ht]
 have c:=mi hr hg hn ha ht
 rw [chkS1,Bool.and_eq_true,decide_eq_true_eq] at c
 exact ⟨c.1,fun k hk=>C4 k c.2 hk⟩
theorem Tw {r w h:Int} {n:Nat} (hr:1≤r∧r≤3) (hg:okG w h) (hn:cnt w h=n):Acyc (depsOf w h [] (stdTab w r n)):=by
 refine ⟨fun c=>srank r w h c,fun x hx=>?_⟩
 have ok:=V6 ⟨hr.1,by omega⟩ hg hn
 have sm:=Wo x hx
 obtain ⟨a,t,h1,h2,h3,k,h4,rfl⟩:=(Ou ok).1 hx
 have s:=(Pi hr hg hn (Q9 h1) (Q9 h2)).2 k h4
 have kb:=Zp (b:=[]) (T:=stdTab w r n) (Q9 h1) (to:=t) (G (walk w h [] (stdTab w r n) a t) (k+1)) (by rw [Wr h4];exact List.getElem_mem _)
 obtain ⟨k1,k2⟩:=Kf (a:=G (walk w h [] (stdTab w r n) a t) k) (b:=G (walk w h [] (stdTab w r n) a t) (k+1)) (by omega)
 rw [k1,k2] at sm ⊢
 simpa [Int.toNat_of_nonneg sm.1.1,Int.toNat_of_nonneg sm.2.1] using s
theorem Fr {ds:List (Nat×Nat)} (hs:∀d∈ds,d.1<128∧d.2<128) (h:orderOk ds):∃φ:Nat→Int,(∀c,0≤φ c∧φ c<128)∧∀d∈ds,φ d.1<φ d.2:=by
 obtain ⟨rk,hr⟩:=Option.ne_none_iff_exists'.1 h
 obtain ⟨h1,h2,h3,h4⟩:=Zv hs (Nat.le_refl _) hr
 have pos:∀c,0≤rk.getD c 0:=fun c=>by
  rcases Int.lt_or_le (rk.getD c 0) 0 with k|k
  ·exfalso
   by_cases hc:c<128
   ·have:rk.getD c 0∈rk.filter fun x=>decide (x<0):=by
     refine List.mem_filter.2 ⟨?_,by simpa using k⟩
     rw [List.getD_eq_getElem?_getD,List.getElem?_eq_getElem (by omega)]
     exact List.getElem_mem _
    have:=List.length_pos_of_mem this
    unfold negs at h2;omega
   ·rw [List.getD_eq_getElem?_getD,List.getElem?_eq_none (by omega)] at k
    simp at k
  ·exact k
 refine ⟨fun c=>rk.getD c 0,fun c=>⟨pos c,?_⟩,fun d hd=>(h4 d hd (pos _)).2⟩
 by_cases hc:c<128
 ·exact h3 c hc
 ·simp only
  rw [List.getD_eq_getElem?_getD,List.getElem?_eq_none (by omega)];decide
theorem Po {xs:List Int} (hs:∀x∈xs,(0≤x/1024∧x/1024≤127)∧0≤x%1024∧x%1024≤127) (h:Acyc xs):∃φ:Nat→Int,(∀c,0≤φ c∧φ c<128)∧∀x∈xs,φ (x/1024).toNat<φ (x%1024).toNat:=by
 have hb:∀d∈prs xs,d.1<128∧d.2<128:=fun d hd=>by
  obtain ⟨x,hx,rfl⟩:=List.mem_map.1 hd
  have:=hs x hx
  simp only
  omega
 obtain ⟨φ,h1,h2⟩:=Fr hb ((Mt fun x hx=>by have:=hs x hx;omega).2 h)
 exact ⟨φ,h1,fun x hx=>h2 _ (List.mem_map_of_mem hx)⟩
end Go.Proofs.YtaldglgobgjeaaaGreat.V
set_option linter.all false
namespace Go.Proofs.YtaldglgobgjeaaaGreat.V
open Go Go.VM Go.Proofs
set_option maxRecDepth 10000
def bufC (x:NetD) (j:Nat):Int:=4*next x.1.1 x.1.2.1 ((j/10:Nat):Int) ((j%10/2:Nat):Int)+opp ((j%10/2:Nat):Int)
noncomputable def brank (x:NetD) (φ ψ:Nat→Int) (j:Nat):Nat:=if j%10/2=4 then 0 else (1+(if j%2=0 then φ else ψ) (bufC x j).toNat).toNat
theorem Cc {x:NetD} {a p c:Nat} (h:hasP x a p) (ha:a<nC x) (hp:p<4) (hc:c<2):tgt x a p c%10/2≠4∧bufC x (tgt x a p c)=4*(a:Int)+p∧tgt x a p c%2=c:=by
 obtain ⟨h1,h2,h3⟩:=Ym (c:=c) h hp hc
 obtain ⟨t1,t2,t3,t4⟩:=Y9 (c:=c) h hp hc
 have ia:isN x.1.1 x.1.2.1 (a:Int):=by have:=Yj x;exact ⟨by omega,by omega⟩
 have h0:0≤next x.1.1 x.1.2.1 a p:=by rw [← t3];omega
 obtain ⟨g1,g2,g3,g4,g5⟩:=geo hp ia h0
 have e:((tgt x a p c%10/2:Nat):Int)=opp p:=by
  have ev:tgt x a p c=(10*next x.1.1 x.1.2.1 a p+2*opp p+c).toNat:=rfl
  generalize next x.1.1 x.1.2.1 a p=N at *
  generalize opp p=Op at *
  omega
 refine ⟨fun k=>by rw [k] at e;omega,?_,t2⟩
 unfold bufC
 rw [e,t3,g1,g5]
theorem Pz {x:NetD} {s t c:Nat} {R:Nat→Nat} {L:Nat} (hc:c<2) (rt:Route x s t c R L):∀n,n≤L→((R n/10:Nat):Int)=itN (nuT x.1.1 x.1.2.1 (tabC x c) t) n s
 | 0,_=>by rw [rt.r0];show _=(s:Int);omega
 | n+1,hn=>by
  obtain ⟨p,p1,p2,p3,p4⟩:=rt.rs n (by omega)
  have ih:=Pz hc rt n (by omega)
  rw [p3,(Y9 (c:=c) p4 p1 hc).2.2.1]
  show _=nuT x.1.1 x.1.2.1 (tabC x c) t (itN (nuT x.1.1 x.1.2.1 (tabC x c) t) n s)
  rw [← ih]
  unfold nuT
  rw [← p2];rfl
theorem vq {x:NetD} (tk:tabsOk x) {φ ψ:Nat→Int} (b0:∀c,0≤φ c∧φ c<128) (b1:∀c,0≤ψ c∧ψ c<128)
 (hA:∀k∈depsOf x.1.1 x.1.2.1 x.1.2.2 x.2.1.1,φ (k/1024).toNat<φ (k%1024).toNat) (hB:∀k∈depsOf x.1.1 x.1.2.1 x.1.2.2 x.2.1.2,ψ (k/1024).toNat<ψ (k%1024).toNat):Ranked x (brank x φ ψ):=by
 have bd:∀j c,0≤(if j%2=0 then φ else ψ) c∧(if j%2=0 then φ else ψ) c<128:=fun j c=>by split;exact b0 c;exact b1 c
 refine ⟨fun j=>?_,fun s t c R L hs ht hc rt n hn=>?_⟩
 ·unfold brank
  split
  ·omega
  ·have:=bd j (bufC x j).toNat;omega
 ·obtain ⟨p,p1,p2,p3,p4⟩:=rt.rs n hn
  have hlt:=rt.lt n (by omega)
  have ha:R n/10<nC x:=by omega
  obtain ⟨u1,u2,u3⟩:=Cc p4 ha p1 hc
  have e1:brank x φ ψ (R (n+1))=(1+(if c=0 then φ else ψ) (4*((R n/10:Nat):Int)+p).toNat).toNat:=by
   unfold brank
   rw [p3,if_neg u1,u2,u3]
  have bc:=fun k=>bd c k
  have c2:c%2=c:=by omega
  rw [c2] at bc
  rw [e1]
  cases n with
  | zero=>
   have e0:brank x φ ψ (R 0)=0:=by
    unfold brank
    rw [rt.r0,if_pos (by omega)]
   rw [e0]
   have:=bc (4*((R 0/10:Nat):Int)+p).toNat
   omega
  | succ m=>
   obtain ⟨q,q1,q2,q3,q4⟩:=rt.rs m (by omega)
   have hlt':=rt.lt m (by omega)
   have ha':R m/10<nC x:=by omega
   obtain ⟨v1,v2,v3⟩:=Cc q4 ha' q1 hc
   have e2:brank x φ ψ (R (m+1))=(1+(if c=0 then φ else ψ) (4*((R m/10:Nat):Int)+q).toNat).toNat:=by
    unfold brank
    rw [q3,if_neg v1,v2,v3]
   rw [e2]
   have hne:s≠t:=fun e=>by
    have:=rt.ij 0 L (by omega) (Nat.le_refl _) (by rw [rt.r0,rt.rt];omega)
    omega
   have ok:=tk c hc
   obtain ⟨K,f1,f2,f3,f4⟩:=Sn ok hs ht hne
   have hK:K=L:=by
    have:=Mz tk hs ht hc rt
    unfold hop at this
    rw [f1] at this
    simpa using this
   subst hK
   have i1:=Pz hc rt m (by omega)
   have i2:=Pz hc rt (m+1) (by omega)
   have g1:G (walk x.1.1 x.1.2.1 x.1.2.2 (tabC x c) s t) m=4*((R m/10:Nat):Int)+q:=by
    rw [f1,Ks (by omega)];unfold chanT;rw [← i1];rw [← q2];rfl
   have g2:G (walk x.1.1 x.1.2.1 x.1.2.2 (tabC x c) s t) (m+1)=4*((R (m+1)/10:Nat):Int)+p:=by
    rw [f1,Ks (by omega)];unfold chanT;rw [← i2];rw [← p2];rfl
   have mem:keyD (4*((R m/10:Nat):Int)+q) (4*((R (m+1)/10:Nat):Int)+p)∈depsOf x.1.1 x.1.2.1 x.1.2.2 (tabC x c):=by
    refine (Ou ok).2 ⟨s,t,hs,ht,hne,m,by rw [f1];simp;omega,by rw [g1,g2]⟩
   have nb:nC x≤16:=by have:=Qe x.1.1 x.1.2.1;unfold nC;omega
   obtain ⟨k1,k2⟩:=Kf (a:=4*((R m/10:Nat):Int)+q) (b:=4*((R (m+1)/10:Nat):Int)+p) (by omega)
   have lt:(if c=0 then φ else ψ) (4*((R m/10:Nat):Int)+q).toNat<(if c=0 then φ else ψ) (4*((R (m+1)/10:Nat):Int)+p).toNat:=by
    unfold tabC at mem
    rcases (show c=0∨c=1 by omega) with rfl|rfl
    ·have:=hA _ mem
     rw [k1,k2] at this
     exact this
    ·have:=hB _ mem
     rw [k1,k2] at this
     exact this
   have:=bc (4*((R m/10:Nat):Int)+q).toNat
   omega
theorem Gq {x:NetD} (tk:tabsOk x) (hA:Acyc (depsOf x.1.1 x.1.2.1 x.1.2.2 x.2.1.1)) (hB:Acyc (depsOf x.1.1 x.1.2.1 x.1.2.2 x.2.1.2)):∃ρ,Ranked x ρ:=by
 have sm:=fun (T:List Int) (k:Int) (hk:k∈depsOf x.1.1 x.1.2.1 x.1.2.2 T)=>(show (0≤k/1024∧k/1024≤127)∧0≤k%1024∧k%1024≤127 by have:=Wo k hk;omega)
 obtain ⟨φ,b0,h0⟩:=Po (sm _) hA
 obtain ⟨ψ,b1,h1⟩:=Po (sm _) hB
 exact ⟨_,vq tk b0 b1 h0 h1⟩
theorem Cn {w h:Int} {b:List Int}:∀(l:List Nat) (best:Int),l.foldl (better w h b) best=best∨∃k∈l,l.foldl (better w h b) best=(k:Int)
 | [],best=>.inl rfl
 | a::l,best=>by
  rw [List.foldl_cons]
  rcases Cn l (better w h b best a) with e|⟨k,hk,e⟩
  ·rw [e]
   unfold better
   split
   ·exact .inr ⟨a,by simp,rfl⟩
   ·exact .inl rfl
  ·exact .inr ⟨k,List.mem_cons_of_mem _ hk,e⟩
theorem zp {w h:Int} {b:List Int} (hc:conn w h b):isN w h (bestRoot w h b):=by
 have hg:okG w h:=hc.1.2
 have hcn:=Qe w h
 have h1:1≤cnt w h:=by unfold cnt;rw [if_pos hg];have:=W7 hg;omega
 unfold bestRoot
 rw [if_pos hc]
 rcases Cn (w:=w) (h:=h) (b:=b) (List.range (cnt w h).toNat) 0 with e|⟨k,hk,e⟩
 ·rw [e];exact ⟨by omega,by omega⟩
 ·rw [e];have:=List.mem_range.1 hk;exact ⟨by omega,by omega⟩
theorem qv {w h:Int} {b:List Int} {best:Int} {k:Nat}:depthOf w h b (better w h b best k)≤depthOf w h b best∧depthOf w h b (better w h b best k)≤depthOf w h b k:=by
 unfold better;split<;>omega
theorem M7 {w h:Int} {b:List Int}:∀(l:List Nat) (best:Int),depthOf w h b (l.foldl (better w h b) best)≤depthOf w h b best∧∀k∈l,depthOf w h b (l.foldl (better w h b) best)≤depthOf w h b k
 | [],best=>⟨Int.le_refl _,fun k hk=>by simp at hk⟩
 | a::l,best=>by
  obtain ⟨h1,h2⟩:=M7 l (better w h b best a)
  have h3:=qv (w:=w) (h:=h) (b:=b) (best:=best) (k:=a)
  refine ⟨Int.le_trans h1 h3.1,fun k hk=>?_⟩
  rcases List.mem_cons.1 hk with rfl|hk
  ·exact Int.le_trans h1 h3.2
  ·exact h2 k hk
theorem kr {w h:Int} {b:List Int} (hc:conn w h b) {k:Nat} (hk:k<(cnt w h).toNat):depthOf w h b (bestRoot w h b)≤depthOf w h b k:=by
 unfold bestRoot
 rw [if_pos hc]
 exact (M7 _ _).2 k (List.mem_range.2 hk)
section
variable {w h r:Int} {b:List Int} (hc:conn w h b) (hr:isN w h r)
include hc hr
theorem Pr {c:Int} (hcn:isN w h c):∀(j:Nat) (hj:j<(anc (parents w h b r) c).length),∃L,L≤j∧itN (nuT w h (treeTab w h b r) c) L (anc (parents w h b r) c)[j]=c∧∀n,n<L→isN w h (itN (nuT w h (treeTab w h b r) c) n (anc (parents w h b r) c)[j])∧itN (nuT w h (treeTab w h b r) c) n (anc (parents w h b r) c)[j]≠c:=by
 have H:rootOk w h b r:=⟨hc.1,hr⟩
 have dn:=fun {v:Int} (hv:isN w h v)=>(Int.toNat_of_nonneg (Wi hc hr v hv)).symm
 obtain ⟨c1,c2,c3⟩:=Xz H _ hcn (dn hcn)
 intro j
 induction j with
 | zero=>
  intro hj
  have c0:(anc (parents w h b r) c)[0]? = some c:=Uj H hcn
  rw [List.getElem?_eq_getElem hj] at c0
  exact ⟨0,Nat.le_refl _,Option.some.inj c0,fun n hn=>by omega⟩
 | succ j ih=>
  intro hj
  obtain ⟨L,i0,i1,i2⟩:=ih (by omega)
  obtain ⟨k1,k2⟩:=c3 (j+1) hj
  have hne:(anc (parents w h b r) c)[j+1]≠c:=fun e=>by rw [e] at k2;have:=dn hcn;omega
  have st:nuT w h (treeTab w h b r) c (anc (parents w h b r) c)[j+1]=(anc (parents w h b r) c)[j]:=by
   rw [(X6 hc hr k1 hcn hne).2]
   rcases Xo hc hr k1 hcn hne with ⟨h1,_,_⟩|⟨j',hj',h2,h3⟩
   ·exact absurd (List.getElem_mem hj) h1
   ·rw [h3]
    have k3:=(c3 (j'+1) hj').2
    rw [h2,k2] at k3
    have:j'=j:=by omega
    subst this;rfl
  refine ⟨L+1,by omega,by rw [Qz,st];exact i1,fun n hn=>?_⟩
  cases n with
  | zero=>exact ⟨k1,hne⟩
  | succ n=>rw [Qz,st];exact i2 n (by omega)
theorem yx {c:Int} (hcn:isN w h c):∀(m:Nat) {a:Int},isN w h a→rd (depths w h b r) a=m→∃L:Nat,(L:Int)≤m+rd (depths w h b r) c∧itN (nuT w h (treeTab w h b r) c) L a=c∧∀n,n<L→isN w h (itN (nuT w h (treeTab w h b r) c) n a)∧itN (nuT w h (treeTab w h b r) c) n a≠c:=by
 have H:rootOk w h b r:=⟨hc.1,hr⟩
 have dn:=fun {v:Int} (hv:isN w h v)=>(Int.toNat_of_nonneg (Wi hc hr v hv)).symm
 obtain ⟨c1,c2,c3⟩:=Xz H _ hcn (dn hcn)
 intro m
 induction m with
 | zero=>
  intro a ha hd
  have hroot:=(Wh H).zero.2 a ha (by omega)
  obtain ⟨k,hk,e⟩:=List.mem_iff_getElem.1 (Uw hc hr _ hcn (dn hcn))
  obtain ⟨L,j0,tt⟩:=Pr hc hr hcn k hk
  rw [e] at tt
  rw [hroot]
  have:=dn hcn
  rw [c1] at hk
  exact ⟨L,by omega,tt⟩
 | succ m ih=>
  intro a ha hd
  by_cases hne:a=c
  ·exact ⟨0,by have:=dn hcn;omega,hne,fun n hn=>by omega⟩
  rcases Xo hc hr ha hcn hne with ⟨h1,h2,h3⟩|⟨j,hj,h2,h3⟩
  ·rcases Yd hc hr ha with ⟨h4,_⟩|⟨p,hp,h4,h5,h6,h7⟩
   ·exact absurd h4 h3
   ·have st:nuT w h (treeTab w h b r) c a=next w h a p:=by
     rw [(X6 hc hr ha hcn hne).2,h2,h4]
    obtain ⟨L,i0,i1,i2⟩:=ih h6 (by omega)
    refine ⟨L+1,by omega,by rw [Qz,st];exact i1,fun n hn=>?_⟩
    cases n with
    | zero=>exact ⟨ha,hne⟩
    | succ n=>rw [Qz,st];exact i2 n (by omega)
  ·obtain ⟨L,j0,this⟩:=Pr hc hr hcn (j+1) hj
   rw [h2] at this
   rw [c1] at hj
   have:=dn hcn
   exact ⟨L,by omega,by assumption⟩
theorem At {a t:Nat} (ha:a<(cnt w h).toNat) (ht:t<(cnt w h).toNat) (hne:a≠t):((walk w h b (treeTab w h b r) a t).length:Int)≤rd (depths w h b r) a+rd (depths w h b r) t:=by
 have ok:=Vb hc hr
 have hcn:=Qe w h
 have ia:isN w h (a:Int):=⟨by omega,by omega⟩
 have it:isN w h (t:Int):=⟨by omega,by omega⟩
 obtain ⟨L,e,h0,h1,h2⟩:=Sn ok ha ht hne
 have dn:=(Int.toNat_of_nonneg (Wi hc hr _ ia)).symm
 obtain ⟨K,k1,k2,_⟩:=yx hc hr it _ ia dn
 have h4:=(ok.2 t ht t ht).1 rfl
 have:L≤K:=by
  rcases Nat.lt_or_ge K L with q|q
  ·have s:=(h2 K q).1
   rw [k2,h4] at s
   unfold inR at s;omega
  ·exact q
 rw [e]
 simp
 omega
theorem Bk {a t:Nat} (ha:a<(cnt w h).toNat) (ht:t<(cnt w h).toNat) (hne:a≠t):((walk w h b (treeTab w h b r) a t).length:Int)≤2*depthOf w h b r:=by
 have l:=At hc hr ha ht hne
 have hcn:=Qe w h
 have H:rootOk w h b r:=⟨hc.1,hr⟩
 have dl:=(Wb H).1
 have m:=fun (v:Nat) (hv:v<(cnt w h).toNat)=>(To (a:=-1) (Ux (s:=depths w h b r) (k:=(v:Int)) (by omega) (by omega))).1
 have m1:=m a ha
 have m2:=m t ht
 unfold depthOf
 omega
end
end Go.Proofs.YtaldglgobgjeaaaGreat.V
set_option linter.all false
namespace Go.Proofs.YtaldglgobgjeaaaGreat.V
open Go Go.VM
set_option maxRecDepth 100000
def EdgeI (w h:Int) (b s rest nx:List Int):Prop:=∀v,isN w h v→0≤rd s v→v∉rest→v∉nx→∀p:Nat,p<4→link w h b (4*v+p)→rd s (next w h v p)≤rd s v+1
theorem Run.edge {w h root:Int} {b s rest nx r:List Int} {d:Int} (hr:isN w h root) (R:Run w h b s rest nx d r):Inv w h s rest nx d→Inv2 w h b root s rest nx→EdgeI w h b s rest nx→EdgeI w h b r [] []:=by
 induction R with
 | done s d=>exact fun _ _ j=>j
 | level _ ih=>exact fun i i2 j=>ih i.level ⟨fun v hv h0 h1 h2=>i2.cl v hv h0 (by simp) h1,i2.pre,i2.zero⟩ fun v hv h0 h1 h2=>j v hv h0 (by simp) h1
 | @node s a rest nx d r _ ih=>
  intro i i2 j
  have h1:=i.one
  obtain ⟨ha,hda⟩:=i.fr a (by simp)
  have O:VOut w h b a d (List.range 4) (s,nx) (vis w h b a d (s,nx)):=Kd (by omega) _ _ (by simp) (fun v hv=>by have:=i.len;have:=hv.2;simp only;omega)
  refine ih i.node ⟨fun v hv h0 hn1 hn2 p hp hlk=>?_,fun v hv h0=>?_,?_,fun v hv h0=>?_⟩ fun v hv h0 hn1 hn2 p hp hlk=>?_
  ·have hnx:=(Wd hp hlk).2.1
   by_cases h2:0≤rd s v
   ·by_cases hva:v=a
    ·subst hva;exact O.all p (by simp;omega) hlk
    ·have h3:=i2.cl v hv h2 (by simp [hva,hn1]) (fun hh=>hn2 (O.pre v hh)) p hp hlk
     rw [O.keep _ hnx.1 h3];exact h3
   ·exact absurd (O.new v hv (by simp only;omega) h0).2.1 hn2
  ·by_cases h2:0≤rd s v
   ·have e:=O.keep v hv.1 h2
    simp only at e
    rw [e] at h0 ⊢
    obtain ⟨u,hu,hu1,hq⟩:=i2.pre v hv h0
    refine ⟨u,hu,?_,hq⟩
    rw [O.keep u hu.1 (by simp only;omega)];exact hu1
   ·obtain ⟨e,_,hq⟩:=O.new v hv (by simp only;omega) (by omega)
    refine ⟨a,ha,?_,hq⟩
    rw [O.keep a ha.1 (by simp only;omega),e];exact hda
  ·have:=i2.zero.1
   rw [O.keep root hr.1 (by simp only;omega)];exact this
  ·by_cases h2:0≤rd s v
   ·have e:=O.keep v hv.1 h2
    simp only at e
    exact i2.zero.2 v hv (by rw [← e];exact h0)
   ·obtain ⟨e,_⟩:=O.new v hv (by simp only;omega) (by omega)
    omega
  ·have hnx:=(Wd hp hlk).2.1
   by_cases h2:0≤rd s v
   ·have e:=O.keep v hv.1 h2
    simp only at e
    by_cases hva:v=a
    ·subst hva
     rw [e,hda]
     have l:=i.node (b:=b)
     have hm:=Ux (s:=(vis w h b v d (s,nx)).1) hnx.1 (by have:=l.len;have:=hnx.2;omega)
     have:=l.low _ hm
     omega
    ·have h3:=i2.cl v hv h2 (by simp [hva,hn1]) (fun hh=>hn2 (O.pre v hh)) p hp hlk
     have h4:=j v hv h2 (by simp [hva,hn1]) (fun hh=>hn2 (O.pre v hh)) p hp hlk
     rw [O.keep _ hnx.1 h3,e];exact h4
   ·exact absurd (O.new v hv (by simp only;omega) h0).2.1 hn2
theorem Nc {w h root:Int} {b:List Int} (H:rootOk w h b root) {v:Int} (hv:isN w h v) (h0:0≤rd (depths w h b root) v) {p:Nat} (hp:p<4) (hl:link w h b (4*v+p)):rd (depths w h b root) (next w h v p)≤rd (depths w h b root) v+1:=by
 refine (Yv H).edge H.2 (X0 H.2).1 (Nh b H.2) ?_ v hv h0 (by simp) (by simp) p hp hl
 intro v hv h0 h1
 rw [U2 H.2 hv] at h0
 split at h0
 ·rename_i h2;simp [h2] at h1
 ·omega
def lid (w c:Nat):Nat:=if c%4=1 then 2*(c/4) else if c%4=3 then 2*(c/4-1) else if c%4=2 then 2*(c/4)+1 else 2*(c/4-w)+1
def lkAt (w n i:Nat):Option (Nat×Nat):=if i%2=0 then (if (i/2)%w+1<w then some (i/2,i/2+1) else none) else (if i/2+w<n then some (i/2,i/2+w) else none)
def eM0 (w n:Nat):Nat:=(2 ^ (w-1)-1)*((2 ^ n-1)/(2 ^ w-1))
def sM0 (w n:Nat):Nat:=2 ^ (n-w)-1
def clr (m k:Nat):Nat:=m ^^^ (m&&& 2 ^ k)
def eM (w n:Nat) (S:List Nat):Nat:=S.foldl (fun m i=>if i%2=0 then clr m (i/2) else m) (eM0 w n)
def sM (w n:Nat) (S:List Nat):Nat:=S.foldl (fun m i=>if i%2=0 then m else clr m (i/2)) (sM0 w n)
def stepM (w e s R:Nat):Nat:=R ||| (((R&&& e) <<< 1) ||| ((R >>> 1)&&& e)) ||| (((R&&& s) <<< w) ||| ((R >>> w)&&& s))
def reachM (w e s:Nat):Nat→Nat→Nat
 | 0,R=>R
 | k+1,R=>reachM w e s k (stepM w e s R)
def nearB (w n D e s:Nat):Bool:=
 ([5,6,9,10,1,4,0,2,3,7,8,13].any fun r=>decide (r<n)&&decide (reachM w e s D (2 ^ r)&&& (2 ^ n-1)=2 ^ n-1)) || !decide (reachM w e s 16 1&&& (2 ^ n-1)=2 ^ n-1)
def near (w n D:Nat) (S:List Nat):Bool:=nearB w n D (eM w n S) (sM w n S)
theorem Cm (m k j:Nat):(clr m k).testBit j=(m.testBit j&&decide (j≠k)):=by
 unfold clr
 rw [Nat.testBit_xor,Nat.testBit_and,Nat.testBit_two_pow]
 by_cases h:k=j
 ·subst h;simp
 ·have:¬j=k:=fun e=>h e.symm
  simp [h,this]
def Edge (w e s u v:Nat):Prop:=(v=u+1∧e.testBit u=true)∨(v=u+w∧s.testBit u=true)
theorem J7 {w e s R:Nat} (v:Nat):(stepM w e s R).testBit v=true↔R.testBit v=true∨∃a b,Edge w e s a b∧(v=a∨v=b)∧(R.testBit a=true∨R.testBit b=true):=by
 unfold stepM
 simp only [Nat.testBit_or,Nat.testBit_shiftLeft,Nat.testBit_shiftRight,Nat.testBit_and,Bool.or_eq_true,Bool.and_eq_true,decide_eq_true_eq]
 constructor
 ·rintro ((h|⟨h1,h2,h3⟩|⟨h1,h2⟩)|⟨h1,h2,h3⟩|⟨h1,h2⟩)
  ·exact .inl h
  ·exact .inr ⟨v-1,v,.inl ⟨by omega,h3⟩,.inr rfl,.inl h2⟩
  ·exact .inr ⟨v,v+1,.inl ⟨rfl,h2⟩,.inl rfl,.inr (by rw [Nat.add_comm];exact h1)⟩
  ·exact .inr ⟨v-w,v,.inr ⟨by omega,h3⟩,.inr rfl,.inl h2⟩
  ·exact .inr ⟨v,v+w,.inr ⟨rfl,h2⟩,.inl rfl,.inr (by rw [Nat.add_comm];exact h1)⟩
 ·rintro (h|⟨a,b,h1|h1,h2|h2,h3|h3⟩)
  ·exact .inl (.inl h)
  ·subst h2;exact .inl (.inl h3)
  ·obtain ⟨rfl,h4⟩:=h1;subst h2;exact .inl (.inr (.inr ⟨by rw [Nat.add_comm];exact h3,h4⟩))
  ·obtain ⟨rfl,h4⟩:=h1;subst h2;exact .inl (.inr (.inl ⟨by omega,by simpa using h3,by simpa using h4⟩))
  ·subst h2;exact .inl (.inl h3)
  ·subst h2;exact .inl (.inl h3)
  ·obtain ⟨rfl,h4⟩:=h1;subst h2;exact .inr (.inr ⟨by rw [Nat.add_comm];exact h3,h4⟩)
  ·obtain ⟨rfl,h4⟩:=h1;subst h2;exact .inr (.inl ⟨by omega,by simpa using h3,by simpa using h4⟩)
  ·subst h2;exact .inl (.inl h3)
theorem Ic {w e s:Nat} {d:Nat→Int} (hL:∀a b,Edge w e s a b→d a≤d b+1∧d b≤d a+1):∀(k:Nat) {R:Nat} {m:Int},(∀v,R.testBit v=true→d v≤m)→∀v,(reachM w e s k R).testBit v=true→d v≤m+k
 | 0,R,m,h,v,hv=>by have:=h v hv;simp;exact this
 | k+1,R,m,h,v,hv=>by
  have:=Ic hL k (R:=stepM w e s R) (m:=m+1) (fun u hu=>by
   rcases (J7 u).1 hu with h1|⟨a,b,h1,h2,h3⟩
   ·have:=h u h1;omega
   ·have q:=hL a b h1
    rcases h3 with h3|h3
    ·have:=h _ h3
     rcases h2 with rfl|rfl<;>omega
    ·have:=h _ h3
     rcases h2 with rfl|rfl<;>omega) v hv
  omega
theorem Tr {w e s:Nat} {d:Nat→Int} {n:Nat} (hp:∀v,v<n→0<d v→∃u,u<n∧d u=d v-1∧(Edge w e s u v∨Edge w e s v u)):∀(k:Nat) {R:Nat} {m:Int},0≤m→(∀v,v<n→d v≤m→R.testBit v=true)→∀v,v<n→d v≤m+k→(reachM w e s k R).testBit v=true
 | 0,R,m,_,h,v,hv,hd=>h v hv (by simpa using hd)
 | k+1,R,m,h0,h,v,hv,hd=>by
  refine Tr hp k (R:=stepM w e s R) (m:=m+1) (by omega) (fun u hu hdu=>?_) v hv (by omega)
  refine (J7 u).2 ?_
  by_cases g:d u≤m
  ·exact .inl (h u hu g)
  ·obtain ⟨x,h1,h2,h3⟩:=hp u hu (by omega)
   have hx:=h x h1 (by omega)
   rcases h3 with h3|h3
   ·exact .inr ⟨_,_,h3,.inr rfl,.inl hx⟩
   ·exact .inr ⟨_,_,h3,.inl rfl,.inr hx⟩
def geoJ:Bool:=(List.range 5).all fun w=>(List.range 5).all fun h=>(List.range (w*h)).all fun a=>(List.range 4).all fun p=>
 decide (next (w:Int) h a p<0) || (let u:=(next (w:Int) h a p).toNat;let q:=(opp p).toNat
  decide (u<w*h)&&decide (lid w (4*a+p)<2*(w*h))&&decide (lid w (4*u+q)=lid w (4*a+p))&&(decide (lkAt w (w*h) (lid w (4*a+p))=some (a,u)) || decide (lkAt w (w*h) (lid w (4*a+p))=some (u,a)))&&
  (List.range (4*(w*h))).all fun c=>decide (lid w c≠lid w (4*a+p)) || decide (next (w:Int) h (c/4:Nat) (c%4:Nat)<0) || decide (c=4*a+p) || decide (c=4*u+q))
theorem xc:geoJ=true:=by decide +kernel
def geoK:Bool:=(List.range 5).all fun w=>(List.range 5).all fun h=>(List.range (2*(w*h))).all fun i=>match lkAt w (w*h) i with
 | none=>true
 | some (u,v)=>([1,2]:List Nat).any fun p=>decide (next (w:Int) h u (p:Nat)=v)&&decide (u<w*h)&&decide (lid w (4*u+p)=i)
theorem zq:geoK=true:=by decide +kernel
def maskB:Bool:=(List.range 4).all fun w=>(List.range 4).all fun h=>(List.range 40).all fun i=>let W:=w+1;let n:=W*(h+1)
 decide ((eM0 W n).testBit i=decide (lkAt W n (2*i)≠none∧i<n))&&decide ((sM0 W n).testBit i=decide (lkAt W n (2*i+1)≠none))
theorem Mm:maskB=true:=by decide +kernel
def radB (w n:Nat):Bool:=(List.range (2*n)).all fun i=>(lkAt w n i).isNone || (near w n 4 [i]&&(List.range (i+1)).all fun j=>(lkAt w n j).isNone || (near w n 5 [i,j]&&(List.range (j+1)).all fun k=>(lkAt w n k).isNone || near w n 5 [i,j,k]))
theorem kh:((List.range 4).all fun w=>(List.range 4).all fun h=>radB (w+1) ((w+1)*(h+1)))=true:=by kernel_rfl
theorem Ss (a:Nat):∀(S:List Nat) (m:Nat),(S.foldl (fun m i=>if i%2=0 then clr m (i/2) else m) m).testBit a=true↔m.testBit a=true∧2*a∉S
 | [],m=>by simp
 | i::S,m=>by
  rw [List.foldl_cons,Ss a S,List.mem_cons]
  by_cases h:i%2=0
  ·rw [if_pos h,Cm,Bool.and_eq_true,decide_eq_true_eq]
   constructor
   ·rintro ⟨⟨h1,h2⟩,h3⟩;exact ⟨h1,fun k=>k.elim (fun e=>by omega) h3⟩
   ·rintro ⟨h1,h2⟩;exact ⟨⟨h1,fun e=>h2 (.inl (by omega))⟩,fun k=>h2 (.inr k)⟩
  ·rw [if_neg h]
   constructor
   ·rintro ⟨h1,h3⟩;exact ⟨h1,fun k=>k.elim (fun e=>by omega) h3⟩
   ·rintro ⟨h1,h2⟩;exact ⟨h1,fun k=>h2 (.inr k)⟩
theorem S5 (a:Nat):∀(S:List Nat) (m:Nat),(S.foldl (fun m i=>if i%2=0 then m else clr m (i/2)) m).testBit a=true↔m.testBit a=true∧2*a+1∉S
 | [],m=>by simp
 | i::S,m=>by
  rw [List.foldl_cons,S5 a S,List.mem_cons]
  by_cases h:i%2=0
  ·rw [if_pos h]
   constructor
   ·rintro ⟨h1,h3⟩;exact ⟨h1,fun k=>k.elim (fun e=>by omega) h3⟩
   ·rintro ⟨h1,h2⟩;exact ⟨h1,fun k=>h2 (.inr k)⟩
  ·rw [if_neg h,Cm,Bool.and_eq_true,decide_eq_true_eq]
   constructor
   ·rintro ⟨⟨h1,h2⟩,h3⟩;exact ⟨h1,fun k=>k.elim (fun e=>by omega) h3⟩
   ·rintro ⟨h1,h2⟩;exact ⟨⟨h1,fun e=>h2 (.inl (by omega))⟩,fun k=>h2 (.inr k)⟩
theorem Lh {w n a:Nat}:lkAt w n (2*a)=if a%w+1<w then some (a,a+1) else none:=by
 unfold lkAt
 rw [if_pos (by omega),show 2*a/2=a by omega]
theorem Lg {w n a:Nat}:lkAt w n (2*a+1)=if a+w<n then some (a,a+w) else none:=by
 unfold lkAt
 rw [if_neg (by omega),show (2*a+1)/2=a by omega]
section
variable {w h:Int} {b:List Int} (hm:meshOk w h b)
include hm
theorem dims:∃W H:Nat,w=(W+1:Nat)∧h=(H+1:Nat)∧W<4∧H<4∧(cnt w h).toNat=(W+1)*(H+1)∧cnt w h=((W+1)*(H+1):Nat):=by
 obtain ⟨_,⟨w0,w1⟩,h0,h1⟩:=hm
 obtain ⟨i,hi⟩:∃i:Nat,w=((i+1:Nat):Int):=⟨(w-1).toNat,by omega⟩
 obtain ⟨j,hj⟩:∃j:Nat,h=((j+1:Nat):Int):=⟨(h-1).toNat,by omega⟩
 have e:cnt w h=((i+1)*(j+1):Nat):=by
  rw [cnt,if_pos ⟨⟨w0,w1⟩,h0,h1⟩,hi,hj,← Int.natCast_mul]
 exact ⟨i,j,hi,hj,by omega,by omega,by rw [e];rfl,e⟩
theorem Ld {a p:Nat} (ha:isN w h a) (hp:p<4) (hu:0≤next w h a p) :
 (next w h a p).toNat<(cnt w h).toNat∧lid w.toNat (4*a+p)<2*(cnt w h).toNat∧lid w.toNat (4*(next w h a p).toNat+(opp p).toNat)=lid w.toNat (4*a+p)∧(lkAt w.toNat (cnt w h).toNat (lid w.toNat (4*a+p))=some (a,(next w h a p).toNat)∨lkAt w.toNat (cnt w h).toNat (lid w.toNat (4*a+p))=some ((next w h a p).toNat,a))∧
 ∀c,c<4*(cnt w h).toNat→lid w.toNat c=lid w.toNat (4*a+p)→0≤next w h (c/4:Nat) (c%4:Nat)→c=4*a+p∨c=4*(next w h a p).toNat+(opp p).toNat:=by
 obtain ⟨W,H,e1,e2,hW,hH,e3,e4⟩:=dims hm
 have h0:=xc
 unfold geoJ at h0
 rw [List.all_eq_true] at h0
 have h1:=h0 (W+1) (by simp;omega)
 rw [List.all_eq_true] at h1
 have h2:=h1 (H+1) (by simp;omega)
 rw [List.all_eq_true] at h2
 have ha2:=ha.2
 have h3:=h2 a (List.mem_range.2 (by omega))
 rw [List.all_eq_true] at h3
 have h4:=h3 p (by simp;omega)
 rw [← e1,← e2] at h4
 have ew:w.toNat=W+1:=by omega
 rw [ew,e3]
 simp only [Bool.or_eq_true,Bool.and_eq_true,decide_eq_true_eq,List.all_eq_true,List.mem_range] at h4
 rcases h4 with h4|⟨⟨⟨⟨hx,h4⟩,h5⟩,h6⟩,h7⟩
 ·omega
 ·refine ⟨hx,h4,h5,h6,fun c hc hl hn=>?_⟩
  rcases h7 c hc with ((h8|h8)|h8)|h8
  ·exact absurd hl h8
  ·omega
  ·exact .inl h8
  ·exact .inr h8
theorem vi {i u v:Nat} (hi:i<2*(cnt w h).toNat) (hl:lkAt w.toNat (cnt w h).toNat i=some (u,v)):∃p:Nat,p<4∧next w h u p=v∧isN w h u∧lid w.toNat (4*u+p)=i:=by
 obtain ⟨W,H,e1,e2,hW,hH,e3,e4⟩:=dims hm
 have h0:=zq
 unfold geoK at h0
 rw [List.all_eq_true] at h0
 have h1:=h0 (W+1) (by simp;omega)
 rw [List.all_eq_true] at h1
 have h2:=h1 (H+1) (by simp;omega)
 rw [List.all_eq_true] at h2
 have h3:=h2 i (List.mem_range.2 (by omega))
 have ew:w.toNat=W+1:=by omega
 rw [ew,e3] at hl
 rw [hl,← e1,← e2] at h3
 simp only [List.any_eq_true,Bool.and_eq_true,decide_eq_true_eq] at h3
 obtain ⟨p,hp,⟨h4,h5⟩,h6⟩:=h3
 simp at hp
 rw [ew]
 exact ⟨p,by omega,h4,⟨by omega,by omega⟩,h6⟩
def brS (w:Int) (b:List Int):List Nat:=b.map fun c=>lid w.toNat c.toNat
omit hm in
theorem R7 {i:Nat}:i∈brS w b↔∃c∈b,lid w.toNat c.toNat=i:=by unfold brS;rw [List.mem_map]
theorem ve {a p:Nat} (ha:isN w h a) (hp:p<4) (hu:0≤next w h a p) (hi:lid w.toNat (4*a+p)∉brS w b):link w h b (4*(a:Int)+p):=by
 obtain ⟨j0,j1,j2,j3,j4⟩:=Ld hm ha hp hu
 obtain ⟨g1,g2,g3,g4,g5⟩:=geo hp ha hu
 have hcn:=Qe w h
 have ha2:=ha.2
 have e1:(4*(a:Int)+p)/4=a:=by omega
 have e2:(4*(a:Int)+p)%4=p:=by omega
 have lu:next w h a p<cnt w h:=by omega
 have hb:backC w h (4*(a:Int)+p)=4*next w h a p+opp p:=by unfold backC endC;rw [e1,e2]
 refine ⟨⟨⟨⟨by omega,by omega⟩,by rw [e1,e2];exact hu⟩,fun hh=>hi (R7.2 ⟨_,hh,by rw [show (4*(a:Int)+p).toNat=4*a+p by omega]⟩)⟩,?_⟩
 rw [hb]
 refine ⟨⟨⟨by omega,by omega⟩,?_⟩,fun hh=>hi (R7.2 ⟨_,hh,by rw [← j2];congr 1;omega⟩)⟩
 rw [show (4*next w h a p+opp p)/4=next w h a p by omega,show (4*next w h a p+opp p)%4=opp p by omega,g1]
 omega
theorem Ai {u v:Nat} (k:Edge w.toNat (eM w.toNat (cnt w h).toNat (brS w b)) (sM w.toNat (cnt w h).toNat (brS w b)) u v):∃p:Nat,p<4∧isN w h u∧next w h u p=v∧link w h b (4*(u:Int)+p):=by
 obtain ⟨W,H,e1,e2,hW,hH,e3,e4⟩:=dims hm
 have ew:w.toNat=W+1:=by omega
 have mk:=Mm
 unfold maskB at mk
 rw [List.all_eq_true] at mk
 have m1:=mk W (by simp;omega)
 rw [List.all_eq_true] at m1
 have m2:=m1 H (by simp;omega)
 have fin:∀i,i<2*(cnt w h).toNat→i∉brS w b→lkAt w.toNat (cnt w h).toNat i=some (u,v)→∃p:Nat,p<4∧isN w h u∧next w h u p=v∧link w h b (4*(u:Int)+p):=fun i hi hS hl=>by
  obtain ⟨p,p1,p2,p3,p4⟩:=vi hm hi hl
  exact ⟨p,p1,p3,p2,ve hm p3 p1 (by omega) (by rw [p4];exact hS)⟩
 have small:u<40:=by
  rcases Nat.lt_or_ge u 40 with q|q
  ·exact q
  ·exfalso
   have big:∀m:Nat,m<2 ^ 40→m.testBit u=false:=fun m hm=>Nat.testBit_lt_two_pow (Nat.lt_of_lt_of_le hm (Nat.pow_le_pow_right (by decide) q))
   have s1:∀W,W<4→∀H,H<4→eM0 (W+1) ((W+1)*(H+1))<2 ^ 40∧sM0 (W+1) ((W+1)*(H+1))<2 ^ 40:=by decide +kernel
   have s2:=s1 W hW H hH
   rcases k with ⟨_,k⟩|⟨_,k⟩
   ·have:=((Ss u _ _).1 k).1
    rw [ew,e3,big _ s2.1] at this;cases this
   ·have:=((S5 u _ _).1 k).1
    rw [ew,e3,big _ s2.2] at this;cases this
 rw [List.all_eq_true] at m2
 have m3:=m2 u (List.mem_range.2 small)
 simp only [Bool.and_eq_true,decide_eq_true_eq] at m3
 rcases k with ⟨hv,k⟩|⟨hv,k⟩
 ·obtain ⟨k1,k2⟩:=(Ss u _ _).1 k
  have k1':=k1
  rw [ew,e3,m3.1,decide_eq_true_eq] at k1
  have hl:=k1.1
  rw [Lh] at hl
  refine fin (2*u) (by omega) k2 ?_
  rw [ew,e3,Lh]
  split at hl
  ·rename_i q;rw [if_pos q,hv]
  ·exact absurd rfl hl
 ·obtain ⟨k1,k2⟩:=(S5 u _ _).1 k
  rw [ew,e3,m3.2,decide_eq_true_eq] at k1
  rw [Lg] at k1
  split at k1
  ·rename_i q
   refine fin (2*u+1) (by omega) k2 ?_
   rw [e3,ew,Lg,if_pos q,hv,ew]
  ·exact absurd rfl k1
theorem Bn {a p:Nat} (ha:isN w h a) (hp:p<4) (hk:link w h b (4*(a:Int)+p)) :
 Edge w.toNat (eM w.toNat (cnt w h).toNat (brS w b)) (sM w.toNat (cnt w h).toNat (brS w b)) a (next w h a p).toNat∨Edge w.toNat (eM w.toNat (cnt w h).toNat (brS w b)) (sM w.toNat (cnt w h).toNat (brS w b)) (next w h a p).toNat a:=by
 obtain ⟨W,H,e1,e2,hW,hH,e3,e4⟩:=dims hm
 have ew:w.toNat=W+1:=by omega
 obtain ⟨_,hu,he⟩:=Wd hp hk
 obtain ⟨j0,j1,j2,j3,j4⟩:=Ld hm ha hp hu.1
 obtain ⟨g1,g2,g3,g4,g5⟩:=geo hp ha hu.1
 have f2:(4*(a:Int)+p)%4=p:=by omega
 have hb:backC w h (4*(a:Int)+p)=4*next w h a p+opp p:=by unfold backC;rw [he,f2]
 have hS:lid w.toNat (4*a+p)∉brS w b:=fun hh=>by
  obtain ⟨c,hc,hl⟩:=R7.1 hh
  obtain ⟨m1,m2,_⟩:=(V5 w h b).1 hm
  obtain ⟨⟨c0,c1⟩,c2⟩:=m2 c hc
  have e:((c.toNat/4:Nat):Int)=c/4:=by omega
  have e':((c.toNat%4:Nat):Int)=c%4:=by omega
  rcases j4 c.toNat (by omega) hl (by rw [e,e'];exact c2) with q|q
  ·exact hk.1.2 (by rw [show 4*(a:Int)+p=c by omega];exact hc)
  ·have h2:=hk.2.2
   rw [hb,show 4*next w h a p+opp p=c by have:=hu.1;omega] at h2
   exact h2 hc
 have mk:=Mm
 unfold maskB at mk
 rw [List.all_eq_true] at mk
 have m1:=mk W (by simp;omega)
 rw [List.all_eq_true] at m1
 have m2:=m1 H (by simp;omega)
 rw [List.all_eq_true] at m2
 have n16:(cnt w h).toNat≤16:=by have:=Qe w h;omega
 have fin:∀i x y,i<2*(cnt w h).toNat→i∉brS w b→lkAt w.toNat (cnt w h).toNat i=some (x,y)→Edge w.toNat (eM w.toNat (cnt w h).toNat (brS w b)) (sM w.toNat (cnt w h).toNat (brS w b)) x y:=fun i x y hi hS hl=>by
  have m3:=m2 (i/2) (List.mem_range.2 (by omega))
  simp only [Bool.and_eq_true,decide_eq_true_eq] at m3
  rcases (show i=2*(i/2)∨i=2*(i/2)+1 by omega) with q|q
  ·rw [q,Lh] at hl
   split at hl
   ·rename_i q2
    cases hl
    refine .inl ⟨rfl,(Ss _ _ _).2 ⟨?_,by rw [← q];exact hS⟩⟩
    rw [ew] at q2
    rw [ew,e3,m3.1,decide_eq_true_eq]
    refine ⟨?_,by omega⟩
    rw [Lh,if_pos q2];simp
   ·cases hl
  ·rw [q,Lg] at hl
   split at hl
   ·rename_i q2
    cases hl
    refine .inr ⟨rfl,(S5 _ _ _).2 ⟨?_,by rw [← q];exact hS⟩⟩
    rw [ew,e3] at q2
    rw [ew,e3,m3.2,decide_eq_true_eq,Lg,if_pos q2];simp
   ·cases hl
 rcases j3 with j3|j3
 ·exact .inl (fin _ _ _ j1 hS j3)
 ·exact .inr (fin _ _ _ j1 hS j3)
end
theorem Tv:∀(l:List Int) (a D:Int),a≤D→(∀x∈l,x≤D)→l.foldl max a≤D
 | [],a,D,h,_=>h
 | x::l,a,D,h,hl=>by
  rw [List.foldl_cons]
  have:=hl x (by simp)
  exact Tv l _ D (by omega) fun y hy=>hl y (List.mem_cons_of_mem _ hy)
theorem jf {n R:Nat} (h:R&&& (2 ^ n-1)=2 ^ n-1) {v:Nat} (hv:v<n):R.testBit v=true:=by
 have:=congrArg (fun x=>Nat.testBit x v) h
 simp only [Nat.testBit_and,Nat.testBit_two_pow_sub_one,hv,decide_true,Bool.and_true] at this
 exact this
theorem V2 {w h:Int} {b:List Int} (hc:conn w h b) {D:Nat} (hn:near w.toNat (cnt w h).toNat D (brS w b)=true):depthOf w h b (bestRoot w h b)≤D:=by
 have hm:=hc.1
 have hcn:=Qe w h
 have isn:∀v:Nat,v<(cnt w h).toNat→isN w h (v:Int):=fun v hv=>⟨by omega,by omega⟩
 unfold near nearB at hn
 rw [Bool.or_eq_true] at hn
 rcases hn with hn|hn
 ·obtain ⟨r,_,hr⟩:=List.any_eq_true.1 hn
  rw [Bool.and_eq_true,decide_eq_true_eq,decide_eq_true_eq] at hr
  obtain ⟨hr,e⟩:=hr
  have ir:=isn r hr
  have H:rootOk w h b r:=⟨hm,ir⟩
  have hL:∀x y,Edge w.toNat (eM w.toNat (cnt w h).toNat (brS w b)) (sM w.toNat (cnt w h).toNat (brS w b)) x y→rd (depths w h b r) (x:Int)≤rd (depths w h b r) (y:Int)+1∧rd (depths w h b r) (y:Int)≤rd (depths w h b r) (x:Int)+1:=fun x y k=>by
   obtain ⟨p,p1,p2,p3,p4⟩:=Ai hm k
   have q1:=Nc H p2 (Wi hc ir _ p2) p1 p4
   obtain ⟨q,s1,s2,s3⟩:=Vq p1 p4
   have iy:=(Wd p1 p4).2.1
   have q2:=Nc H iy (Wi hc ir _ iy) s1 s2
   rw [s3,p3] at q2
   rw [p3] at q1
   exact ⟨q2,q1⟩
  have le:∀v:Nat,v<(cnt w h).toNat→rd (depths w h b r) (v:Int)≤D:=fun v hv=>by
   have:=Ic (d:=fun v:Nat=>rd (depths w h b r) (v:Int)) hL D (R:=2 ^ r) (m:=0) (fun u hu=>by
    rw [Nat.testBit_two_pow,decide_eq_true_eq] at hu
    subst hu
    rw [(Wh H).zero.1];exact Int.le_refl _) v (jf e hv)
   omega
  refine Int.le_trans (kr hc hr) ?_
  unfold depthOf
  refine Tv _ _ _ (by omega) fun x hx=>?_
  obtain ⟨i,hi,rfl⟩:=List.mem_iff_getElem.1 hx
  have dl:=(Wb H).1
  have:=le i (by omega)
  rw [Y0 hi] at this
  exact this
 ·exfalso
  simp only [Bool.not_eq_true',decide_eq_false_iff_not] at hn
  apply hn
  have i0:isN w h 0:=C7 hm.2
  have H:rootOk w h b 0:=⟨hm,i0⟩
  have al:=Tr (w:=w.toNat) (e:=eM w.toNat (cnt w h).toNat (brS w b)) (s:=sM w.toNat (cnt w h).toNat (brS w b)) (d:=fun v:Nat=>rd (depths w h b 0) (v:Int)) (n:=(cnt w h).toNat) (fun v hv h0=>by
   obtain ⟨u,u1,u2,q,q1,q2,q3⟩:=(Wh H).pre _ (isn v hv) h0
   obtain ⟨k,rfl⟩:=Int.eq_ofNat_of_zero_le u1.1
   have:=u1.2
   refine ⟨k,by omega,u2,?_⟩
   have:=Bn hm u1 q1 q2
   rw [q3] at this
   simpa using this) 16 (R:=1) (m:=0) (by omega) (fun v hv h0=>by
    have p0:=Wi hc i0 _ (isn v hv)
    have:=(Wh H).zero.2 _ (isn v hv) (by omega)
    have:v=0:=by omega
    subst this;rfl)
  refine Nat.eq_of_testBit_eq fun i=>?_
  rw [Nat.testBit_and,Nat.testBit_two_pow_sub_one]
  by_cases hi:i<(cnt w h).toNat
  ·have:=al i hi (by
    have:=(Wb H).2 _ (Ux (s:=depths w h b 0) (k:=(i:Int)) (by omega) (by have:=(Wb H).1;omega))
    omega)
   simp [hi,this]
  ·simp [hi]
theorem Xh {w n D:Nat} {S S':List Nat} (h:∀x,x∈S↔x∈S'):near w n D S=near w n D S':=by
 have e1:eM w n S=eM w n S':=Nat.eq_of_testBit_eq fun a=>by
  rw [Bool.eq_iff_iff]
  unfold eM
  rw [Ss,Ss,h]
 have e2:sM w n S=sM w n S':=Nat.eq_of_testBit_eq fun a=>by
  rw [Bool.eq_iff_iff]
  unfold sM
  rw [S5,S5,h]
 unfold near
 rw [e1,e2]
theorem ke {w n:Nat} (hr:radB w n=true):∀S:List Nat,S≠[]→(∀i∈S,i<2*n∧lkAt w n i≠none)→(S.length=1→near w n 4 S=true)∧(S.length≤3→near w n 5 S=true∨near w n 4 S=true):=by
 unfold radB at hr
 rw [List.all_eq_true] at hr
 have ok:∀{i},i<2*n→lkAt w n i≠none→near w n 4 [i]=true∧∀{j},j≤i→lkAt w n j≠none→near w n 5 [i,j]=true∧∀{k},k≤j→lkAt w n k≠none→near w n 5 [i,j,k]=true:=fun {i} hi hl=>by
  have h1:=hr i (List.mem_range.2 hi)
  have:(lkAt w n i).isNone=false:=by cases hq:lkAt w n i;exact absurd hq hl;rfl
  rw [this,Bool.false_or,Bool.and_eq_true,List.all_eq_true] at h1
  refine ⟨h1.1,fun {j} hj hlj=>?_⟩
  have h2:=h1.2 j (List.mem_range.2 (by omega))
  have:(lkAt w n j).isNone=false:=by cases hq:lkAt w n j;exact absurd hq hlj;rfl
  rw [this,Bool.false_or,Bool.and_eq_true,List.all_eq_true] at h2
  refine ⟨h2.1,fun {k} hk hlk=>?_⟩
  have h3:=h2.2 k (List.mem_range.2 (by omega))
  have:(lkAt w n k).isNone=false:=by cases hq:lkAt w n k;exact absurd hq hlk;rfl
  rw [this,Bool.false_or] at h3
  exact h3
 intro S hne hS
 match S,hne,hS with
 | [],h,_=>exact absurd rfl h
 | [i],_,hS=>exact ⟨fun _=>(ok (hS i (by simp)).1 (hS i (by simp)).2).1,fun _=>.inr (ok (hS i (by simp)).1 (hS i (by simp)).2).1⟩
 | [i,j],_,hS=>
  obtain ⟨i1,i2⟩:=hS i (by simp)
  obtain ⟨j1,j2⟩:=hS j (by simp)
  refine ⟨fun h=>by simp at h,fun _=>.inl ?_⟩
  rcases Nat.le_total j i with q|q
  ·exact ((ok i1 i2).2 q j2).1
  ·rw [Xh (S':=[j,i]) (fun x=>by simp;omega)]
   exact ((ok j1 j2).2 q i2).1
 | [i,j,k],_,hS=>
  obtain ⟨i1,i2⟩:=hS i (by simp)
  obtain ⟨j1,j2⟩:=hS j (by simp)
  obtain ⟨k1,k2⟩:=hS k (by simp)
  refine ⟨fun h=>by simp at h,fun _=>.inl ?_⟩
  rcases Nat.le_total j i with q|q<;>rcases Nat.le_total k j with q'|q'<;>rcases Nat.le_total k i with q''|q''
  ·exact ((ok i1 i2).2 q j2).2 q' k2
  ·exact ((ok i1 i2).2 q j2).2 q' k2
  ·rw [Xh (S':=[i,k,j]) (fun x=>by simp;omega)];exact ((ok i1 i2).2 q'' k2).2 q' j2
  ·rw [Xh (S':=[k,i,j]) (fun x=>by simp;omega)];exact ((ok k1 k2).2 q'' i2).2 q j2
  ·rw [Xh (S':=[j,i,k]) (fun x=>by simp;omega)];exact ((ok j1 j2).2 q i2).2 q'' k2
  ·rw [Xh (S':=[j,k,i]) (fun x=>by simp;omega)];exact ((ok j1 j2).2 q' k2).2 q'' i2
  ·rw [Xh (S':=[k,j,i]) (fun x=>by simp;omega)];exact ((ok k1 k2).2 q' j2).2 q i2
  ·rw [Xh (S':=[k,j,i]) (fun x=>by simp;omega)];exact ((ok k1 k2).2 q' j2).2 q i2
 | i::j::k::l::S,_,_=>exact ⟨fun h=>by simp at h,fun h=>by simp at h⟩
theorem radius {w h:Int} {b:List Int} (hc:conn w h b) (h0:b≠[]):(b.length=1→depthOf w h b (bestRoot w h b)≤4)∧(b.length≤3→depthOf w h b (bestRoot w h b)≤5):=by
 obtain ⟨W,H,e1,e2,hW,hH,e3,e4⟩:=dims hc.1
 have ew:w.toNat=W+1:=by omega
 have r:=kh
 rw [List.all_eq_true] at r
 have r1:=r W (by simp;omega)
 rw [List.all_eq_true] at r1
 have r2:=r1 H (by simp;omega)
 rw [← ew] at r2
 have r3:=ke (n:=(cnt w h).toNat) (w:=w.toNat) (by rw [e3,← ew];exact r2) (brS w b) (by unfold brS;simpa using h0) fun i hi=>by
  obtain ⟨c,hcb,rfl⟩:=R7.1 hi
  obtain ⟨m1,m2,_⟩:=(V5 w h b).1 hc.1
  obtain ⟨⟨c0,c1⟩,c2⟩:=m2 c hcb
  obtain ⟨a,ha⟩:=Int.eq_ofNat_of_zero_le (show 0≤c/4 by omega)
  obtain ⟨p,hp⟩:=Int.eq_ofNat_of_zero_le (show 0≤c%4 by omega)
  rw [ha,hp] at c2
  have ec:c.toNat=4*a+p:=by omega
  obtain ⟨_,g1,_,g2,_⟩:=Ld hc.1 (a:=a) (p:=p) ⟨by omega,by omega⟩ (by omega) c2
  rw [ec]
  refine ⟨g1,?_⟩
  rcases g2 with g2|g2<;>rw [g2]<;>simp
 have len:(brS w b).length=b.length:=by unfold brS;simp
 rw [len] at r3
 refine ⟨fun h=>V2 hc (r3.1 h),fun h=>?_⟩
 rcases r3.2 h with k|k
 ·exact V2 hc k
 ·have:=V2 hc k;omega
end Go.Proofs.YtaldglgobgjeaaaGreat.V
set_option linter.all false
namespace Go.Proofs.YtaldglgobgjeaaaGreat.V
open Go Go.VM Go.Proofs
set_option maxRecDepth 10000
variable {frz:Nat} {H:Heap}
noncomputable def idleAt (x:NetD):Int:=if runs x 400 then (match (List.range 401).find? fun i=>decide (idle (runN x i)) with|some i=>(i:Int)|none=>-1) else -1
noncomputable def idled (x:NetD):NetD:=if 0≤idleAt x then runN x (idleAt x).toNat else x
def MadeI (H:Heap) (y:NetD) (k:Int) (r:Value) (H':Heap):Prop:=∃u,r=.tuple #[u,.int .i64 k]∧dNet.Made H y u H'
theorem Kx {x:NetD} (g:runs x 400) {i:Nat} (hi:i<401) (h:idle (runN x i)) (hn:∀j,j<i→¬idle (runN x j)):idleAt x=i∧idled x=runN x i:=by
 have e:idleAt x=i:=by
  unfold idleAt;rw [if_pos g,Ni hi (decide_eq_true h) (fun j hj=>decide_eq_false (hn j hj))]
 refine ⟨e,?_⟩
 unfold idled
 rw [e,if_pos (by omega),Int.toNat_natCast]
theorem Gs {x:NetD} (g:runs x 400) (hn:∀j,j<401→¬idle (runN x j)):idleAt x=-1∧idled x=x:=by
 have e:idleAt x=-1:=by
  unfold idleAt;rw [if_pos g,Uf (fun j hj=>decide_eq_false (hn j hj))]
 refine ⟨e,?_⟩
 unfold idled
 rw [e,if_neg (by omega)]
theorem Df {x:NetD} (g:¬runs x 400):idleAt x=-1∧idled x=x:=by
 have e:idleAt x=-1:=if_neg g
 refine ⟨e,?_⟩
 unfold idled
 rw [e,if_neg (by omega)]
theorem Kh (x:NetD):idleAt x=-1∨(0≤idleAt x∧idleAt x≤400∧runs x 400):=by
 unfold idleAt
 split
 ·rename_i g
  split
  ·rename_i i hi
   have:=List.mem_of_find?_eq_some hi
   have:=List.mem_range.1 this
   exact .inr ⟨by omega,by omega,g⟩
  ·exact .inl rfl
 ·exact .inl rfl
theorem xx {v:NetV} {x:NetD} (o:dNet.Ow H v x) (h9:allL 66000000 x.2.2.2.2.2.2.1) :
 wp (vcall C frz 34 [dNet.val v x] H) (MadeI H (idled x) (idleAt x)):=by
 have ones:=Qk o
 have ecopy:=fun K (c:Chg H K [])=>Vr (frz:=H.length) (H:=K) (v:=v) (x:=x) (Dt.chg (T:=dNet) o c (by simp))
 have ck:=fun F K (c:Chg H K [])=>yo (frz:=F) (H:=K) (v:=v) (x:=x) (k:=400) (Dt.chg (T:=dNet) o c (by simp))
 simp only [Ql] at ecopy ck ⊢
 rw [Qa (fn:=Tryz.f34) Tryz.func34 rfl (by kernel_rfl) rfl]
 simp [ones]
 refine Qd (ecopy _ (Chg.app _)) ?_
 rintro _ K ⟨n,rfl,on,cn,mn,dn⟩
 simp at mn
 have qn:=Qk on
 have lK:=cn.1
 simp at lK
 have hF:H.length≤K.length:=by omega
 have ltn:∀i∈dNet.ids n,i<K.length:=fun i hi=>dNet.lt on i hi
 simp [Ql,qn,VM.look,hF]
 obtain ⟨K1,hK1⟩:∃K1,K1=K++[⟨netCells n x,0,38⟩]:=⟨_,rfl⟩
 have c1:Chg K K1 []:=by rw [hK1];exact Chg.app _
 have cK:Chg H K []:=(Chg.app _).trans cn
 have cK1:=cK.trans c1
 have l1:K1.length=K.length+1:=by rw [hK1];simp
 have b1:K1[H.length]? = some ⟨netCells v x,0,38⟩:=Qb (Qb (by simp [netCells]) cn (by simp)) c1 (by simp)
 have bR:K1[H.length+1]? = some ⟨[.int .i64 0,.int .i64 0,.slice none 0 0,.slice none 0 0,.slice none 0 0,.slice none 0 0,.slice none 0 0,.slice none 0 0,.slice none 0 0,.slice none 0 0,.int .i64 0],0,38⟩:=Qb (Qb (by simp) cn (by simp)) c1 (by simp)
 have b3:K1[K.length]? = some ⟨netCells n x,0,38⟩:=by rw [hK1];simp
 have on1:=Dt.chg (T:=dNet) on c1 (by simp)
 have hKs:K++[⟨netCells n x,0,38⟩]=K1:=hK1.symm
 have b1':=b1
 unfold netCells at hKs b1'
 rw [hKs]
 clear hK1 hKs
 have ck':=fun F=>ck F K1 cK1
 have hF1:H.length≤H.length+1:=by omega
 -- what is handed back
 have fin:∀(J:Heap) (w:NetV) (y:NetD) (b:Int),Chg H J []→
  dNet.Ow J w y→(dNet.ids w).Nodup→(∀i∈dNet.ids w,H.length+2≤i)→idled x=y→idleAt x=b→MadeI H (idled x) (idleAt x) (.tuple #[dNet.val w y,.int .i64 b]) (J.set (H.length+1) ⟨netCells w y,0,38⟩):=fun J w y b cJ oJ dJ mJ e1 e2=>by
  rw [e1,e2]
  exact ⟨_,rfl,w,rfl,Dt.chg (T:=dNet) oJ (Qh _ _) (fun i hi hh=>by have:=mJ i hi;simp at hh;omega),cJ.trans' (Qh _ _) (fun i hi=>.inr (by simp at hi;omega)),fun i hi=>by have:=mJ i hi;omega,dJ⟩
 by_cases g0:runs x 400
 rotate_left
 ·obtain ⟨e1,e2⟩:=Df g0
  have gR:=Qo (r':=⟨netCells n x,0,38⟩) bR
  have hM:=fin K1 n x (-1) cK1 on1 dn (fun i hi=>by have:=mn i hi;omega) e2 e1
  have b3':=b3
  unfold netCells at b3' gR
  simp [VM.look,b1',ones,ck',g0,b3',bR,gR,qn,hF1]
  simpa [Ql,netCells] using hM
 have ht:=g0.1.2.2.2.2.2.2
 have ht2:=g0.2.2
 unfold inR at ht
 have hro:=Rc g0.1
 have ra:=fun i (hi:i≤400)=>Qbq (i:=i) hro (Ab g0.1) h9 hi
 simp [VM.look,b1',ones,ck',g0]
 refine Qg (fun q t J=>∃(i:Nat) (w:NetV),q=401-i∧i≤401∧t 1=.pointer (some ⟨H.length,0,some 0⟩)∧t 2=.pointer (some ⟨H.length+1,0,some 0⟩)∧t 4=.pointer (some ⟨K.length,0,some 0⟩)∧t 12=.int .i64 i∧J[K.length]? = some ⟨netCells w (runN x i),0,38⟩∧dNet.Ow J w (runN x i)∧(dNet.ids w).Nodup∧(∀i∈dNet.ids w,H.length+2≤i∧i≠K.length)∧
  J[H.length]? = some ⟨netCells v x,0,38⟩∧
  J[H.length+1]? = some ⟨[.int .i64 0,.int .i64 0,.slice none 0 0,.slice none 0 0,.slice none 0 0,.slice none 0 0,.slice none 0 0,.slice none 0 0,.slice none 0 0,.slice none 0 0,.int .i64 0],0,38⟩∧Chg H J []∧∀j,j<i→¬idle (runN x j)) ?_ (n:=401)
  ⟨0,n,rfl,by omega,by simp,by simp,by simp,by simp,b3,on1,dn,fun i hi=>⟨by have:=mn i hi;omega,by have:=ltn i hi;omega⟩,b1,bR,cK1,by omega⟩
 rintro q t J ⟨i,w,rfl,hi,t1,t2,t4,t12,bJ,oJ,dJ,mJ,bO,bRJ,cJ,hno⟩ ih
 simp [t1,t2,t4,t12]
 refine Qc ?_ ?_<;>intro g
 ·have hi':i<401:=by omega
  obtain ⟨r1,r2,r3,r4⟩:=ra i (by omega)
  have lJ:=Qu bJ
  have ic:=fun F=>Ir (frz:=F) (H:=J) (id:=K.length) (v5:=w.2.2.1) (v8:=w.2.2.2.2.2.1) bJ oJ.2.2.1 oJ.2.2.2.2.2.1
  have oneJ:=Qk oJ
  simp [t1,t2,t4,t12,ic]
  by_cases g1:idle (runN x i)
  ·obtain ⟨e1,e2⟩:=Kx g0 hi' g1 hno
   have gR:=Qo (r':=⟨netCells w (runN x i),0,38⟩) bRJ
   have hM:=fin J w (runN x i) i cJ oJ dJ (fun j hj=>(mJ j hj).1) e2 e1
   have g1':=g1
   unfold idle at g1'
   unfold netCells at bJ gR
   simp [t1,t2,t4,t12,g1',VM.look,bJ,bRJ,gR,oneJ,hF1]
   simpa [Ql,netCells] using hM
  have g1':¬(flits (runN x i).2.2.1=0∧flits (runN x i).2.2.2.2.2.1=0):=g1
  have g1b:(decide (flits (runN x i).2.2.1=0)&&decide (flits (runN x i).2.2.2.2.2.1=0))=false:=by
   rw [← Bool.decide_and];exact decide_eq_false g1'
  have st:=Qcg (frz:=H.length) (id:=K.length) (tail:=[]) (e:=38) (by simpa using bJ) oJ dJ (fun i hi=>by have:=(mJ i hi).1;omega) hF (fun hh=>(mJ _ hh).2 rfl) cJ.1 r1 r2 r3 (by rw [r4];unfold inR;omega)
  rw [g1b]
  simp [t1,t2,t4,t12]
  refine Qd st ?_
  rintro _ J2 ⟨w2,s1,s2,s3,s4,s5⟩
  rw [List.append_nil] at s1
  simp [t1,t2,t4,t12]
  refine ih (401-(i+1)) _ _ ⟨i+1,w2,rfl,by omega,by simp [t1],by simp [t2],by simp [t4],?_,s1,s2,s3,fun j hj=>?_,Qb bO s5 (fun hh=>?_),Qb bRJ s5 (fun hh=>?_),cJ.trans' s5 (fun j hj=>?_),fun j hj=>?_⟩ (by omega)
  ·simp [t12];rw [w64 (by omega) (by omega)]
  ·rcases s4 j hj with h|h
   ·exact mJ j h
   ·exact ⟨by omega,by omega⟩
  ·rcases List.mem_cons.1 hh with h|h
   ·omega
   ·have:=(mJ _ h).1;omega
  ·rcases List.mem_cons.1 hh with h|h
   ·omega
   ·have:=(mJ _ h).1;omega
  ·right
   rcases List.mem_cons.1 hj with h|h
   ·omega
   ·have:=(mJ _ h).1;omega
  ·by_cases hji:j<i
   ·exact hno j hji
   ·have:j=i:=by omega
    subst this;exact g1
 ·have:i=401:=by omega
  subst this
  obtain ⟨e1,e2⟩:=Gs g0 hno
  have bO':=bO
  unfold netCells at bO'
  simp [t1,t2,t4,t12,VM.look,bO',ones]
  refine Qd (ecopy J cJ) ?_
  rintro _ J2 ⟨n2,rfl,on2,cn2,mn2,dn2⟩
  have qn2:=Qk on2
  have bR2:=Qb bRJ cn2 (by simp)
  have lR:=Qu bRJ
  have gR:=Qo (r':=⟨netCells n2 x,0,38⟩) bR2
  have hM:=fin J2 n2 x (-1) (cJ.trans cn2) on2 dn2 (fun i hi=>by have:=mn2 i hi;omega) e2 e1
  unfold netCells at gR
  simp [Ql,VM.look,t1,t2,bR2,gR,qn2,hF1]
  simpa [Ql,netCells] using hM
def brkOk (x:NetD) (c:Int):Prop:=idleOk x∧breakOk x.1.1 x.1.2.1 x.1.2.2 c∧repairOk x.1.1 x.1.2.1 (withBroken x.1.1 x.1.2.1 x.1.2.2 c)=true
noncomputable instance (x:NetD) (c:Int):Decidable (brkOk x c):=inferInstanceAs (Decidable (_∧_))
noncomputable def brk (x:NetD) (c:Int):NetD:=if brkOk x c then fresh x (x.1.1,x.1.2.1,withBroken x.1.1 x.1.2.1 x.1.2.2 c) (repair x.1.1 x.1.2.1 (withBroken x.1.1 x.1.2.1 x.1.2.2 c)) else x
theorem B2 {v:NetV} {x:NetD} {c:Int} (o:dNet.Ow H v x) :
 wp (vcall C frz 12 [dNet.val v x,.int .i64 c] H) (Made2 dNet H (brk x c) (decide (brkOk x c))):=by
 have ones:=Qk o
 have oo:=fun (K:Heap) (ch:Chg H K [])=>Dt.chg (T:=dNet) o ch (by simp)
 have ii:=fun F K (ch:Chg H K [])=>Jb (frz:=F) (H:=K) (v:=v) (x:=x) (oo K ch)
 have ecopy:=fun K (ch:Chg H K [])=>Vr (frz:=H.length) (H:=K) (v:=v) (x:=x) (oo K ch)
 simp only [Ql] at ii ecopy ⊢
 rw [Qa (fn:=Tryz.f12) Tryz.func12 rfl (by kernel_rfl) rfl]
 have key:∀(y:NetD) (n:NetV) (K K0:Heap) (ok:Bool),dNet.Ow K n y→Chg H K0 []→Chg K0 K []→H.length+1<K0.length→K0[H.length+1]? = some ⟨[.int .i64 0,.int .i64 0,.slice none 0 0,.slice none 0 0,.slice none 0 0,.slice none 0 0,.slice none 0 0,.slice none 0 0,.slice none 0 0,.slice none 0 0,.int .i64 0],0,38⟩→(∀i∈dNet.ids n,K0.length≤i)→(dNet.ids n).Nodup→brk x c=y→decide (brkOk x c)=ok→
  K[H.length+1]? = some ⟨[.int .i64 0,.int .i64 0,.slice none 0 0,.slice none 0 0,.slice none 0 0,.slice none 0 0,.slice none 0 0,.slice none 0 0,.slice none 0 0,.slice none 0 0,.int .i64 0],0,38⟩∧Made2 dNet H (brk x c) (decide (brkOk x c)) (.tuple #[dNet.val n y,.bool ok]) (K.set (H.length+1) ⟨[.int .i64 y.1.1,.int .i64 y.1.2.1,n.1,n.2.1.1,n.2.1.2,n.2.2.1.1,n.2.2.2.1,n.2.2.2.2.1,n.2.2.2.2.2.1.1,n.2.2.2.2.2.2.1.1,.int .i64 y.2.2.2.2.2.2.2],0,38⟩):=by
  intro y n K K0 ok on c0 ck hlt hz mn dn e1 e2
  have bR:K[H.length+1]? = some ⟨[.int .i64 0,.int .i64 0,.slice none 0 0,.slice none 0 0,.slice none 0 0,.slice none 0 0,.slice none 0 0,.slice none 0 0,.slice none 0 0,.slice none 0 0,.int .i64 0],0,38⟩:=Qb hz ck (by simp)
  refine ⟨bR,dNet.val n y,by rw [e2],n,by rw [e1],?_,?_,fun i hi=>by have:=mn i hi;omega,dn⟩
  ·rw [e1];exact Dt.chg (T:=dNet) on (Qh _ _) (fun i hi hh=>by have:=mn i hi;simp at hh;omega)
  ·exact (c0.trans ck).trans' (Qh _ _) (fun i hi=>.inr (by simp at hi;omega))
 have fail:¬brkOk x c→brk x c=x∧decide (brkOk x c)=false:=fun hh=>⟨if_neg hh,decide_eq_false hh⟩
 have bad:∀(K0:Heap),Chg H K0 []→H.length+1<K0.length→K0[H.length+1]? = some ⟨[.int .i64 0,.int .i64 0,.slice none 0 0,.slice none 0 0,.slice none 0 0,.slice none 0 0,.slice none 0 0,.slice none 0 0,.slice none 0 0,.slice none 0 0,.int .i64 0],0,38⟩→¬brkOk x c→∀r K,dNet.Made K0 x r K→∃n,r=netVal n x∧dNet.Ow K n x∧K[H.length+1]? = some ⟨[.int .i64 0,.int .i64 0,.slice none 0 0,.slice none 0 0,.slice none 0 0,.slice none 0 0,.slice none 0 0,.slice none 0 0,.slice none 0 0,.slice none 0 0,.int .i64 0],0,38⟩∧Made2 dNet H (brk x c) (decide (brkOk x c)) (.tuple #[dNet.val n x,.bool false]) (K.set (H.length+1) ⟨[.int .i64 x.1.1,.int .i64 x.1.2.1,n.1,n.2.1.1,n.2.1.2,n.2.2.1.1,n.2.2.2.1,n.2.2.2.2.1,n.2.2.2.2.2.1.1,n.2.2.2.2.2.2.1.1,.int .i64 x.2.2.2.2.2.2.2],0,38⟩):=by
  intro K0 c0 hlt hz hb r K hm
  obtain ⟨n,rfl,on,cn,mn,dn⟩:=hm
  obtain ⟨f1,f2⟩:=fail hb
  obtain ⟨k1,k2⟩:=key x n K K0 false on c0 cn hlt hz mn dn f1 f2
  exact ⟨n,rfl,on,k1,k2⟩
 obtain ⟨G,hG⟩:∃G,G=H++[⟨[.int .i64 x.1.1,.int .i64 x.1.2.1,v.1,v.2.1.1,v.2.1.2,v.2.2.1.1,v.2.2.2.1,v.2.2.2.2.1,v.2.2.2.2.2.1.1,v.2.2.2.2.2.2.1.1,.int .i64 x.2.2.2.2.2.2.2],0,38⟩,⟨[.int .i64 0,.int .i64 0,.slice none 0 0,.slice none 0 0,.slice none 0 0,.slice none 0 0,.slice none 0 0,.slice none 0 0,.slice none 0 0,.slice none 0 0,.int .i64 0],0,38⟩]:=⟨_,rfl⟩
 have cG:Chg H G []:=by rw [hG];exact Chg.app _
 have b0:G[H.length]? = some ⟨[.int .i64 x.1.1,.int .i64 x.1.2.1,v.1,v.2.1.1,v.2.1.2,v.2.2.1.1,v.2.2.2.1,v.2.2.2.2.1,v.2.2.2.2.2.1.1,v.2.2.2.2.2.2.1.1,.int .i64 x.2.2.2.2.2.2.2],0,38⟩:=by rw [hG];simp
 have b1:G[H.length+1]? = some ⟨[.int .i64 0,.int .i64 0,.slice none 0 0,.slice none 0 0,.slice none 0 0,.slice none 0 0,.slice none 0 0,.slice none 0 0,.slice none 0 0,.slice none 0 0,.int .i64 0],0,38⟩:=by rw [hG];simp
 have hlG:G.length=H.length+2:=by rw [hG];simp
 simp [ones]
 rw [← hG]
 clear hG
 refine Qd (Ko (c:=c) (oo G cG).1) ?_
 rintro _ K1 ⟨_,rfl,vm,rfl,om,cm,mm,dm⟩
 have c1:Chg H K1 []:=cG.trans cm
 have b01:=Qb b0 cm (by simp)
 have b11:=Qb b1 cm (by simp)
 have hl1:=cm.1
 have onem:=Xb om
 obtain ⟨B,hB⟩:∃B,B=withBroken x.1.1 x.1.2.1 x.1.2.2 c:=⟨_,rfl⟩
 rw [← hB] at om
 have hl1':H.length≤K1.length:=c1.1
 simp [W1,onem,VM.look,hl1']
 obtain ⟨K1',hK1⟩:∃K,K=K1++[⟨[.int .i64 x.1.1,.int .i64 x.1.2.1,vm],0,28⟩]:=⟨_,rfl⟩
 have c1':Chg K1 K1' []:=by rw [hK1];exact Chg.app _
 have bm:K1'[K1.length]? = some ⟨[.int .i64 x.1.1,.int .i64 x.1.2.1,vm],0,28⟩:=by rw [hK1];simp
 have om1:=Dt.chg (T:=dMesh) om c1' (by simp)
 rw [← hK1]
 have hrp:=zf (frz:=H.length) om1
 refine Qd hrp ?_
 rintro _ K2 ⟨_,rfl,vc,rfl,oc,cc,mc,dc⟩
 have onec:=Q5 oc
 have hl2:H.length≤K2.length:=Nat.le_trans hl1' (Nat.le_trans c1'.1 cc.1)
 simp [Xd,onec,VM.look,hl2]
 obtain ⟨K3,hK3⟩:∃K,K=K2++[⟨[vc.1,vc.2],0,32⟩]:=⟨_,rfl⟩
 have c3':Chg K2 K3 []:=by rw [hK3];exact Chg.app _
 have bc:K3[K2.length]? = some ⟨[vc.1,vc.2],0,32⟩:=by rw [hK3];simp
 rw [← hK3]
 have c13:Chg K1' K3 []:=cc.trans c3'
 have cG3:Chg G K3 []:=(cm.trans c1').trans c13
 have c3:Chg H K3 []:=cG.trans cG3
 have b03:=Qb b0 cG3 (by simp)
 have b13:=Qb b1 cG3 (by simp)
 have bm3:=Qb bm c13 (by simp)
 have om3:=Dt.chg (T:=dMesh) om1 c13 (by simp)
 have oc3:=Dt.chg (T:=dClasses) oc c3' (by simp)
 have hl3:H.length+1<K3.length:=Qu b13
 have ii':=fun F=>ii F K3 c3
 simp [VM.look,b03,ones,ii']
 have ffail:¬brkOk x c→wp (vcall C H.length 31 [netVal v x] K3) (fun r K=>∃n,r=netVal n x∧dNet.Ow K n x∧K[H.length+1]? = some ⟨[.int .i64 0,.int .i64 0,.slice none 0 0,.slice none 0 0,.slice none 0 0,.slice none 0 0,.slice none 0 0,.slice none 0 0,.slice none 0 0,.slice none 0 0,.int .i64 0],0,38⟩∧Made2 dNet H (brk x c) (decide (brkOk x c)) (.tuple #[dNet.val n x,.bool false]) (K.set (H.length+1) ⟨[.int .i64 x.1.1,.int .i64 x.1.2.1,n.1,n.2.1.1,n.2.1.2,n.2.2.1.1,n.2.2.2.1,n.2.2.2.2.1,n.2.2.2.2.2.1.1,n.2.2.2.2.2.2.1.1,.int .i64 x.2.2.2.2.2.2.2],0,38⟩)):=fun hb=>(ecopy K3 c3).mono (fun r K hm=>bad K3 c3 hl3 b13 hb r K hm)
 unfold netVal at ffail
 by_cases g0:idleOk x
 rotate_left
 ·simp [g0,VM.look,b03,ones]
  refine Qd (ffail (fun k=>g0 k.1)) ?_
  rintro r K ⟨n,rfl,on,bR,hM⟩
  have qn:=Qk on
  have gR:=Qo (r':=⟨[.int .i64 x.1.1,.int .i64 x.1.2.1,n.1,n.2.1.1,n.2.1.2,n.2.2.1.1,n.2.2.2.1,n.2.2.2.2.1,n.2.2.2.2.2.1.1,n.2.2.2.2.2.2.1.1,.int .i64 x.2.2.2.2.2.2.2],0,38⟩) bR
  have hF:H.length≤K.length:=by have:=Qu bR;omega
  simp [netVal,Ql,VM.look,bR,qn,gR,hF]
  exact hM
 by_cases g1:breakOk x.1.1 x.1.2.1 x.1.2.2 c
 rotate_left
 ·simp [g0,g1,VM.look,b03,ones]
  refine Qd (ffail (fun k=>g1 k.2.1)) ?_
  rintro r K ⟨n,rfl,on,bR,hM⟩
  have qn:=Qk on
  have gR:=Qo (r':=⟨[.int .i64 x.1.1,.int .i64 x.1.2.1,n.1,n.2.1.1,n.2.1.2,n.2.2.1.1,n.2.2.2.1,n.2.2.2.2.1,n.2.2.2.2.2.1.1,n.2.2.2.2.2.2.1.1,.int .i64 x.2.2.2.2.2.2.2],0,38⟩) bR
  have hF:H.length≤K.length:=by have:=Qu bR;omega
  simp [netVal,Ql,VM.look,bR,qn,gR,hF]
  exact hM
 by_cases g2:repairOk x.1.1 x.1.2.1 B=true
 rotate_left
 ·simp [g0,g1,g2,VM.look,b03,ones]
  refine Qd (ffail (fun k=>g2 (by rw [hB];exact k.2.2))) ?_
  rintro r K ⟨n,rfl,on,bR,hM⟩
  have qn:=Qk on
  have gR:=Qo (r':=⟨[.int .i64 x.1.1,.int .i64 x.1.2.1,n.1,n.2.1.1,n.2.1.2,n.2.2.1.1,n.2.2.2.1,n.2.2.2.2.1,n.2.2.2.2.2.1.1,n.2.2.2.2.2.2.1.1,.int .i64 x.2.2.2.2.2.2.2],0,38⟩) bR
  have hF:H.length≤K.length:=by have:=Qu bR;omega
  simp [netVal,Ql,VM.look,bR,qn,gR,hF]
  exact hM
 simp [g0,g1,g2,VM.look,b03,ones,bm3,bc,onem,onec]
 have hok:brkOk x c:=⟨g0,g1,by rw [← hB];exact g2⟩
 have hbr:brk x c=fresh x (x.1.1,x.1.2.1,B) (repair x.1.1 x.1.2.1 B):=by rw [hB];exact if_pos hok
 refine Qd (Fk (frz:=H.length) (oo K3 c3) om3 oc3) ?_
 rintro _ K ⟨n,rfl,on,cn,mn,dn⟩
 obtain ⟨bR,hM⟩:=key _ n K K3 true on c3 cn hl3 b13 mn dn hbr (decide_eq_true hok)
 generalize fresh x (x.1.1,x.1.2.1,B) (repair x.1.1 x.1.2.1 B)=y at *
 have qn:=Qk on
 have gR:=Qo (r':=⟨[.int .i64 y.1.1,.int .i64 y.1.2.1,n.1,n.2.1.1,n.2.1.2,n.2.2.1.1,n.2.2.2.1,n.2.2.2.2.1,n.2.2.2.2.2.1.1,n.2.2.2.2.2.2.1.1,.int .i64 y.2.2.2.2.2.2.2],0,38⟩) bR
 have hF:H.length≤K.length:=by have:=Qu bR;omega
 simp [netVal,Ql,VM.look,bR,qn,gR,hF]
 exact hM
def replOk (x:NetD) (t:ClassesD):Prop:=idleOk x∧classesOk x.1.1 x.1.2.1 x.1.2.2 t.1 t.2
instance (x:NetD) (t:ClassesD):Decidable (replOk x t):=inferInstanceAs (Decidable (_∧_))
def repl (x:NetD) (t:ClassesD):NetD:=if replOk x t then fresh x x.1 t else x
def tabs (x:NetD) (p q:Int):ClassesD:=(stdTab x.1.1 p (cnt x.1.1 x.1.2.1).toNat,stdTab x.1.1 q (cnt x.1.1 x.1.2.1).toNat)
def ruledOk (x:NetD) (p q:Int):Prop:=¬0<x.1.2.2.length∧replOk x (tabs x p q)
instance (x:NetD) (p q:Int):Decidable (ruledOk x p q):=inferInstanceAs (Decidable (_∧_))
def ruledN (x:NetD) (p q:Int):NetD:=if 0<x.1.2.2.length then x else repl x (tabs x p q)
noncomputable def actN (a:ChipD) (k p q r s:Int):ChipD×Int:=
 if k=1 then (chipSend a p q r s,if sendsOk a (nextP a p q r s) then ((chipSend a p q r s).2.length:Int) else 0)
 else if k=2 then (chipRun a p,(flits (chipRun a p).1.2.2.1:Int)+flits (chipRun a p).1.2.2.2.2.2.1)
 else if k=3 then ((idled a.1,a.2),idleAt a.1)
 else if k=4 then ((brk a.1 p,a.2),if brkOk a.1 p then 1 else 0)
 else ((ruledN a.1 p q,a.2),if ruledOk a.1 p q then 1 else 0)
def ActPost (H:Heap) (v:ChipV) (id:Nat) (y:ChipD) (k:Int) (r:Value) (H':Heap):Prop:=
 r=.int .i64 k∧∃w:ChipV,H'[id]? = some ⟨chipCells w y,0,51⟩∧dChip.Ow H' w y∧(dChip.ids w).Nodup∧(∀i∈dChip.ids w,i∈dChip.ids v∨H.length≤i)∧Chg H H' [id]
theorem ActPost.mono {G J:Heap} {v:ChipV} {id:Nat} {y:ChipD} {k:Int} {r:Value} (h:ActPost G v id y k r J) (c:Chg H G []):ActPost H v id y k r J:=by
 obtain ⟨h1,w,h2,h3,h4,h5,h6⟩:=h
 exact ⟨h1,w,h2,h3,h4,fun i hi=>(h5 i hi).imp _root_.id (fun h=>by have:=c.1;omega),(c.mono (fun _ h=>by cases h)).trans h6⟩
def acts (a:ChipD) (k p q r s:Int):Prop:=chipOk a∧actOk k p q r s
instance (a:ChipD) (k p q r s:Int):Decidable (acts a k p q r s):=inferInstanceAs (Decidable (_∧_))
noncomputable def doAct (a:ChipD) (k p q r s:Int):ChipD×Int:=if acts a k p q r s then actN a k p q r s else (a,-1)
noncomputable def actF (z:ChipD×List Int) (c:PkD):ChipD×List Int:=((doAct z.1 c.1 c.2.1 c.2.2.1 c.2.2.2.1 c.2.2.2.2).1,z.2++[(doAct z.1 c.1 c.2.1 c.2.2.1 c.2.2.2.1 c.2.2.2.2).2])
def canAct (a:ChipD) (l:List PkD):Prop:=chipOk a∧l.length≤30
instance (a:ChipD) (l:List PkD):Decidable (canAct a l):=inferInstanceAs (Decidable (_∧_))
end Go.Proofs.YtaldglgobgjeaaaGreat.V
set_option linter.all false
namespace Go.Proofs.YtaldglgobgjeaaaGreat.V
open Go Go.VM Go.Proofs
set_option maxRecDepth 10000
end Go.Proofs.YtaldglgobgjeaaaGreat.V
set_option linter.all false
namespace Go.Proofs.YtaldglgobgjeaaaGreat.V
open Go Go.VM Go.Proofs
set_option maxRecDepth 10000
variable {frz:Nat} {H:Heap}
end Go.Proofs.YtaldglgobgjeaaaGreat.V
set_option linter.all false
namespace Go.Proofs.YtaldglgobgjeaaaGreat.V
open Go Go.VM Go.Proofs
set_option maxRecDepth 10000
variable {frz:Nat} {H:Heap} {r:Nat} {vb:Value} {code:List Int}
end Go.Proofs.YtaldglgobgjeaaaGreat.V
set_option linter.all false
namespace Go.Proofs.YtaldglgobgjeaaaGreat.V
open Go Go.VM Go.Proofs
set_option maxRecDepth 10000
variable {frz:Nat} {H:Heap}
theorem B7 (l:List PkD):∀(a:ChipD) (xs:List Int),l.foldl actF (a,xs)=((l.foldl actF (a,[])).1,xs++(l.foldl actF (a,[])).2):=by
 induction l with
 | nil=>intro a xs;simp
 | cons c l ih=>
  intro a xs
  rw [List.foldl_cons,List.foldl_cons]
  have e:∀ys,actF (a,ys) c=((doAct a c.1 c.2.1 c.2.2.1 c.2.2.2.1 c.2.2.2.2).1,ys++[(doAct a c.1 c.2.1 c.2.2.1 c.2.2.2.1 c.2.2.2.2).2]):=fun _=>rfl
  rw [e,e,ih,ih _ ([]++_)]
  simp
end Go.Proofs.YtaldglgobgjeaaaGreat.V
