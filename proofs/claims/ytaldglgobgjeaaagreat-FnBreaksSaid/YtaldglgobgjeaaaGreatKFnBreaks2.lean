/- Texts of a proof, joined. -/
import Derived.Test.YtaldglgobgjeaaaGreatKM0
import Derived.Test.YtaldglgobgjeaaaGreatKM1
import Derived.Test.YtaldglgobgjeaaaGreatKFnBreaks0
import Derived.Test.YtaldglgobgjeaaaGreatKFnBreaks1
set_option linter.all false
namespace Go.Proofs.YtaldglgobgjeaaaGreat.V
open Go Go.VM Go.Proofs
set_option maxRecDepth 10000
variable {frz:Nat} {H:Heap} {v:Value} {xs:List Int} {e:TypeId}
def Pt (ys:List Int) (a b:Nat) (x:Int) (P:Int→Prop) (i j:Nat):Prop:=G ys a=x∧(∀k,a<k→k<i→P (G ys k))∧∀k,j<k→k<b→¬P (G ys k)
section
variable {ys:List Int} {a b i j:Nat} {x:Int} {P:Int→Prop}
theorem Pt.incr (h:Pt ys a b x P i j) (ha:a<i) (hp:P (G ys i)):Pt ys a b x P (i+1) j:=⟨h.1,fun k h1 h2=>by
 by_cases hk:k=i
 ·rw [hk];exact hp
 ·exact h.2.1 k h1 (by omega),h.2.2⟩
theorem Pt.decr (h:Pt ys a b x P i j) (hj:0<j) (hp:¬P (G ys j)):Pt ys a b x P i (j-1):=⟨h.1,h.2.1,fun k h1 h2=>by
 by_cases hk:k=j
 ·rw [hk];exact hp
 ·exact h.2.2 k (by omega) h2⟩
theorem Pt.swap (h:Pt ys a b x P i j) (ha:a<i) (hij:i<j) (hj:j<b) (hb:b≤ys.length) (hi:¬P (G ys i)) (hp:P (G ys j)):Pt (swp ys i j) a b x P (i+1) (j-1):=by
 have g:=fun k=>Xr (xs:=ys) (i:=i) (j:=j) (by omega) (by omega) k
 refine ⟨?_,fun k h1 h2=>?_,fun k h1 h2=>?_⟩
 ·rw [g,if_neg (by omega),if_neg (by omega)];exact h.1
 ·rw [g,if_neg (by omega)]
  split
  ·exact hp
  ·exact h.2.1 k h1 (by omega)
 ·rw [g]
  split
  ·exact hi
  ·rw [if_neg (by omega)];exact h.2.2 k (by omega) h2
theorem Pt.fin (h:Pt ys a b x P i j) (hij:i=j+1) (ha:a<i) (hj:j<b) (hb:b≤ys.length):G (swp ys j a) j=x∧(∀k,a≤k→k<j→P (G (swp ys j a) k))∧∀k,j<k→k<b→¬P (G (swp ys j a) k):=by
 have g:=fun k=>Xr (xs:=ys) (i:=j) (j:=a) (by omega) (by omega) k
 refine ⟨?_,fun k h1 h2=>?_,fun k h1 h2=>?_⟩
 ·rw [g]
  split
  ·rename_i e;rw [e];exact h.1
  ·rw [if_pos rfl];exact h.1
 ·rw [g]
  split
  ·exact h.2.1 j (by omega) (by omega)
  ·rw [if_neg (by omega)];exact h.2.1 k (by omega) (by omega)
 ·rw [g,if_neg (by omega),if_neg (by omega)];exact h.2.2 k h1 h2
end
theorem xj (v:Value) (xs:List Int) (e:TypeId) (a b p:Nat) (h:Ow Fl.int e H v xs) (hp:a≤p∧p<b) (hb:b≤xs.length) (hl:xs.length≤1073741824) (hf:∀i∈ids v,frz≤i) :
 wp (vcall C frz 141 [v,.int .i64 a,.int .i64 b,.int .i64 p] H) (fun r H'=>∃m:Nat,r=.int .i64 m∧a<m∧m≤b∧
  Swd H v xs e a b (fun ys=>(∀k,a≤k→k<m→¬G xs p<G ys k)∧∀k,m≤k→k<b→G xs p<G ys k) H'):=by
 rw [Qa (fn:=Tryz.f141) Tryz.func141 rfl (by kernel_rfl) rfl]
 obtain ⟨x,hx⟩:∃x,x=G xs p:=⟨_,rfl⟩
 obtain ⟨i0,hi0⟩:∃i0,i0=a+1:=⟨_,rfl⟩
 obtain ⟨j0,hj0⟩:∃j0,j0=b-1:=⟨_,rfl⟩
 have e2:∀[Inhabited Unit],IntKind.i64.wrap ((a:Int)+1)=(i0:Int):=by intro _;rw [w64 (by omega) (by omega)];omega
 have e3:∀[Inhabited Unit],IntKind.i64.wrap ((b:Int)-1)=(j0:Int):=by intro _;rw [w64 (by omega) (by omega)];omega
 have p0:a<xs.length:=by omega
 have p1:p<xs.length:=by omega
 simp
 rw [Qf (h:=by kernel_rfl)]
 obtain ⟨H1,H2,s1,ix,s2,o2,c2,l2⟩:=Wv h p0 p1 hf
 simp [Qs h p0,Qs h p1,Qt h p0,Qt h p1,s1,ix _ p0,ix _ p1,s2,e2,e3]
 have pt0:Pt (swp xs a p) a b x (fun y=>¬x<y) i0 j0:=by
  refine ⟨?_,fun k h1 h2=>by omega,fun k h1 h2=>by omega⟩
  rw [Xr p0 p1,hx]
  split
  ·rename_i e;rw [e]
  ·rw [if_pos rfl]
 have sw0:Sw a b xs (swp xs a p):=Sw.refl.step a p (by omega) (by omega)
 refine Qg (fun c t H'=>∃i j:Nat,c=j+1-i∧t 0=v∧t 1=.int .i64 a∧t 9=.int .i64 i∧t 10=.int .i64 j∧a<i∧i≤j+1∧j<b∧Swd H v xs e a b (fun ys=>Pt ys a b x (fun y=>¬x<y) i j) H') ?_ (n:=j0+1-i0)
  ⟨i0,j0,rfl,by simp,by simp,by simp,by simp,by omega,by omega,by omega,_,sw0,pt0,o2,c2,l2⟩
 rw [← hx]
 clear pt0 sw0 o2 s1 s2 ix c2 l2 p0 p1
 rintro c t H' ⟨i,j,rfl,h0,h1,hi,hj,hai,hij,hjb,ys,sw,pt,o,c,l⟩ ih
 have len:=sw.len
 have p0:a<ys.length:=by omega
 simp [h0,h1,hi,hj]
 obtain ⟨il,hil⟩:∃il,il=i:=⟨_,rfl⟩
 have hai':il≤i∧a<i:=⟨by omega,hai⟩
 refine W3 (F:=?F1) (k:=?k1) (Q:=?Q1) (fun t H1=>∃i:Nat,t 0=v∧t 1=.int .i64 a∧t 9=.int .i64 i∧t 10=.int .i64 j∧(il≤i∧a<i)∧i≤j+1∧(i=j+1∨(i≤j∧¬(fun y=>¬x<y) (G ys i)))∧H'=H1∧Pt ys a b x (fun y=>¬x<y) i j) ?main1 ?rest1
 case main1=>
  intro rest
  refine Qg (fun c t H1=>∃i:Nat,c=j+1-i∧t 0=v∧t 1=.int .i64 a∧t 9=.int .i64 i∧t 10=.int .i64 j∧(il≤i∧a<i)∧i≤j+1∧H'=H1∧Pt ys a b x (fun y=>¬x<y) i j) ?_ (n:=j+1-i)
   ⟨i,rfl,by simp [h0],by simp [h1],by simp [hi],by simp [hj],hai',hij,rfl,pt⟩
  rintro c t _ ⟨i,rfl,h0,h1,hi,hj,hai',hij,rfl,pt⟩ ih2
  have hai:=hai'.2
  simp [h0,h1,hi,hj]
  rw [Qf (h:=by kernel_rfl)]
  simp [h0,h1,hi,hj]
  refine Qv ?_ ?_<;>intro g1
  ·have p1:i<ys.length:=by omega
   simp [h0,h1,hi,hj,g1,Qs o p0,Qs o p1,Qt o p0,Qt o p1,Xp]
   refine Qc ?_ ?_<;>intro g2
   ·simp [h0,h1,hi,hj]
    refine rest _ _ ?_
    exact ⟨i,by simp [h0],by simp [h1],by simp [hi],by simp [hj],hai',by omega,.inr ⟨by omega,by have:=pt.1;show ¬(¬x<G ys i);omega⟩,rfl,pt⟩
   ·simp [h0,h1,hi,hj]
    refine ih2 (j+1-(i+1)) _ _ ⟨i+1,rfl,by simp [h0],by simp [h1],?_,by simp [hj],by omega,by omega,rfl,pt.incr hai (by have:=pt.1;show ¬x<G ys i;omega)⟩ (by omega)
    simp;rw [w64 (by omega) (by omega)]
  ·simp [h0,h1,hi,hj,g1]
   refine rest _ _ ?_
   exact ⟨i,by simp [h0],by simp [h1],by simp [hi],by simp [hj],hai',hij,.inl (by omega),rfl,pt⟩
 case rest1=>
  rintro t _ ⟨i,h0,h1,hi,hj,hai',hij,hex,rfl,pt⟩
  have hai:=hai'.2
  refine Qg (fun c t H1=>∃j':Nat,c=j'+1-i∧t 0=v∧t 1=.int .i64 a∧t 9=.int .i64 i∧t 10=.int .i64 j'∧j'≤j∧i≤j'+1∧H'=H1∧Pt ys a b x (fun y=>¬x<y) i j') ?_ (n:=j+1-i)
   ⟨j,rfl,by simp [h0],by simp [h1],by simp [hi],by simp [hj],Nat.le_refl _,hij,rfl,pt⟩
  have hex':i<j+1→¬(fun y=>¬x<y) (G ys i):=fun hh=>by rcases hex with hex|hex;omega;exact hex.2
  have hjb0:=hjb
  rintro c t _ ⟨j',rfl,h0,h1,hi,hj,hjj',hij,rfl,pt⟩ ih2
  have hjb:j'<b:=by omega
  simp [h0,h1,hi,hj]
  rw [Qf (h:=by kernel_rfl)]
  simp [h0,h1,hi,hj]
  refine Qv ?_ ?_<;>intro g1
  ·have p1:j'<ys.length:=by omega
   simp [h0,h1,hi,hj,g1,Qs o p0,Qs o p1,Qt o p0,Qt o p1,Xp]
   refine Qc ?_ ?_<;>intro g2
   ·simp [h0,h1,hi,hj]
    refine ih2 (j'-1+1-i) _ _ ⟨j'-1,rfl,by simp [h0],by simp [h1],by simp [hi],?_,by omega,by omega,rfl,pt.decr (by omega) (by have:=pt.1;show ¬(¬x<G ys j');omega)⟩ (by omega)
    simp;rw [w64 (by omega) (by omega)];omega
   ·simp [h0,h1,hi,hj]
    have hnj:¬j'<i:=by omega
    simp [hnj]
    have p2:i<ys.length:=by omega
    have hlo:(fun y=>¬x<y) (G ys j'):=by have:=pt.1;show ¬x<G ys j';omega
    rw [Qf (h:=by kernel_rfl)]
    obtain ⟨H3,H4,s3,ix3,s4,o4,c4,l4⟩:=Wv o p2 p1 hf
    simp [h0,h1,hi,hj,Qs o p2,Qs o p1,Qt o p2,Qt o p1,s3,ix3 _ p2,ix3 _ p1,s4]
    have hlt:i<j':=by
     rcases Nat.lt_or_ge i j' with q|q
     ·exact q
     ·have q2:i=j':=by omega
      exact absurd (q2▸hlo) (hex' (by omega))
    refine ih (j'-1+1-(i+1)) _ _ ⟨i+1,j'-1,rfl,by simp [h0],by simp [h1],?_,?_,by omega,by omega,by omega,_,sw.step i j' (by omega) (by omega),pt.swap hai hlt hjb (by omega) (hex' (by omega)) hlo,o4,c.trans c4,by omega⟩ (by omega)
    ·simp;rw [w64 (by omega) (by omega)]
    ·simp;rw [w64 (by omega) (by omega)];omega
  ·have hij':i=j'+1:=by omega
   have hji:j'<i:=by omega
   simp [h0,h1,hi,hj,g1,hji]
   refine ⟨i,rfl,by omega,by omega,ys,sw,⟨fun k k1 k2=>?_,fun k k1 k2=>?_⟩,o,c,l⟩
   ·by_cases hk:k=a
    ·have:=pt.1;rw [hk];omega
    ·have q:¬x<G ys k:=pt.2.1 k (by omega) k2
     omega
   ·have q:¬¬x<G ys k:=pt.2.2 k (by omega) k2
    omega
theorem Qa6 (v:Value) (xs:List Int) (e:TypeId) (a b p:Nat) (h:Ow Fl.int e H v xs) (hp:a≤p∧p<b) (hb:b≤xs.length) (hl:xs.length≤1073741824) (hf:∀i∈ids v,frz≤i) :
 wp (vcall C frz 142 [v,.int .i64 a,.int .i64 b,.int .i64 p] H) (fun r H'=>∃(m:Nat) (d:Bool),r=.tuple #[.int .i64 m,.bool d]∧a≤m∧m<b∧
  Swd H v xs e a b (fun ys=>(∀k,a≤k→k<m→G ys k<G ys m)∧∀k,m<k→k<b→G ys m≤G ys k) H'):=by
 rw [Qa (fn:=Tryz.f142) Tryz.func142 rfl (by kernel_rfl) rfl]
 obtain ⟨x,hx⟩:∃x,x=G xs p:=⟨_,rfl⟩
 obtain ⟨i0,hi0⟩:∃i0,i0=a+1:=⟨_,rfl⟩
 obtain ⟨j0,hj0⟩:∃j0,j0=b-1:=⟨_,rfl⟩
 have e2:∀[Inhabited Unit],IntKind.i64.wrap ((a:Int)+1)=(i0:Int):=by intro _;rw [w64 (by omega) (by omega)];omega
 have e3:∀[Inhabited Unit],IntKind.i64.wrap ((b:Int)-1)=(j0:Int):=by intro _;rw [w64 (by omega) (by omega)];omega
 have p0:a<xs.length:=by omega
 have p1:p<xs.length:=by omega
 simp
 rw [Qf (h:=by kernel_rfl)]
 obtain ⟨H1,H2,s1,ix,s2,o2,c2,l2⟩:=Wv h p0 p1 hf
 simp [Qs h p0,Qs h p1,Qt h p0,Qt h p1,s1,ix _ p0,ix _ p1,s2,e2,e3]
 have pt0:Pt (swp xs a p) a b x (fun y=>y<x) i0 j0:=by
  refine ⟨?_,fun k h1 h2=>by omega,fun k h1 h2=>by omega⟩
  rw [Xr p0 p1,hx]
  split
  ·rename_i e;rw [e]
  ·rw [if_pos rfl]
 have sw0:Sw a b xs (swp xs a p):=Sw.refl.step a p (by omega) (by omega)
 obtain ⟨ys,sw,o,c,l,pt⟩:∃ys,Sw a b xs ys∧Ow Fl.int e H2 v ys∧Chg H H2 (ids v)∧H2.length=H.length∧Pt ys a b x (fun y=>y<x) i0 j0:=⟨_,sw0,o2,c2,l2,pt0⟩
 obtain ⟨i,hii⟩:∃i,i0=i:=⟨_,rfl⟩
 obtain ⟨j,hjj⟩:∃j,j0=j:=⟨_,rfl⟩
 rw [hii] at pt ⊢
 rw [hjj] at pt ⊢
 have hai:a<i:=by omega
 have hij:i≤j+1:=by omega
 have hjb:j<b:=by omega
 clear pt0 sw0 o2 s1 s2 ix c2 l2 p0 p1
 have len:=sw.len
 have p0:a<ys.length:=by omega
 refine W3 (F:=?F) (k:=?k) (Q:=?Q) (fun t H1=>H2=H1∧t 0=v∧t 1=.int .i64 a∧t 10=.int .i64 i∧t 11=.int .i64 j) ?main ?rest
 case main=>intro rest;refine rest _ _ ?_;exact ⟨rfl,by simp,by simp,by simp,by simp⟩
 case rest=>
  rintro t H' ⟨rfl,h0,h1,hi,hj⟩
  obtain ⟨H',hH⟩:∃H',H'=H2:=⟨_,rfl⟩
  subst hH
  obtain ⟨il,hil⟩:∃il,il=i:=⟨_,rfl⟩
  have hai':il≤i∧a<i:=⟨by omega,hai⟩
  refine W3 (F:=?F3) (k:=?k3) (Q:=?Q3) (fun t H1=>∃i:Nat,t 0=v∧t 1=.int .i64 a∧t 10=.int .i64 i∧t 11=.int .i64 j∧(il≤i∧a<i)∧i≤j+1∧(i=j+1∨(i≤j∧¬(fun y=>y<x) (G ys i)))∧H'=H1∧Pt ys a b x (fun y=>y<x) i j) ?main3 ?rest3
  case main3=>
   intro rest
   refine Qg (fun c t H1=>∃i:Nat,c=j+1-i∧t 0=v∧t 1=.int .i64 a∧t 10=.int .i64 i∧t 11=.int .i64 j∧(il≤i∧a<i)∧i≤j+1∧H'=H1∧Pt ys a b x (fun y=>y<x) i j) ?_ (n:=j+1-i)
    ⟨i,rfl,by simp [h0],by simp [h1],by simp [hi],by simp [hj],hai',hij,rfl,pt⟩
   rintro c t _ ⟨i,rfl,h0,h1,hi,hj,hai',hij,rfl,pt⟩ ih2
   have hai:=hai'.2
   simp [h0,h1,hi,hj]
   rw [Qf (h:=by kernel_rfl)]
   simp [h0,h1,hi,hj]
   refine Qv ?_ ?_<;>intro g1
   ·have p1:i<ys.length:=by omega
    simp [h0,h1,hi,hj,g1,Qs o p0,Qs o p1,Qt o p0,Qt o p1,Xp]
    refine Qc ?_ ?_<;>intro g2
    ·simp [h0,h1,hi,hj]
     refine ih2 (j+1-(i+1)) _ _ ⟨i+1,rfl,by simp [h0],by simp [h1],?_,by simp [hj],by omega,by omega,rfl,pt.incr hai (by have:=pt.1;show G ys i<x;omega)⟩ (by omega)
     simp;rw [w64 (by omega) (by omega)]
    ·simp [h0,h1,hi,hj]
     refine rest _ _ ?_
     exact ⟨i,by simp [h0],by simp [h1],by simp [hi],by simp [hj],hai',by omega,.inr ⟨by omega,by have:=pt.1;show ¬(G ys i<x);omega⟩,rfl,pt⟩
   ·simp [h0,h1,hi,hj,g1]
    refine rest _ _ ?_
    exact ⟨i,by simp [h0],by simp [h1],by simp [hi],by simp [hj],hai',hij,.inl (by omega),rfl,pt⟩
  case rest3=>
   rintro t _ ⟨i,h0,h1,hi,hj,hai',hij,hex,rfl,pt⟩
   have hai:=hai'.2
   refine Qg (fun c t H1=>∃j':Nat,c=j'+1-i∧t 0=v∧t 1=.int .i64 a∧t 10=.int .i64 i∧t 11=.int .i64 j'∧j'≤j∧i≤j'+1∧H'=H1∧Pt ys a b x (fun y=>y<x) i j') ?_ (n:=j+1-i)
    ⟨j,rfl,by simp [h0],by simp [h1],by simp [hi],by simp [hj],Nat.le_refl _,hij,rfl,pt⟩
   have hex':i<j+1→¬(fun y=>y<x) (G ys i):=fun hh=>by rcases hex with hex|hex;omega;exact hex.2
   have hjb0:=hjb
   rintro c t _ ⟨j',rfl,h0,h1,hi,hj,hjj',hij,rfl,pt⟩ ih2
   have hjb:j'<b:=by omega
   simp [h0,h1,hi,hj]
   rw [Qf (h:=by kernel_rfl)]
   simp [h0,h1,hi,hj]
   refine Qv ?_ ?_<;>intro g1
   ·have p1:j'<ys.length:=by omega
    simp [h0,h1,hi,hj,g1,Qs o p0,Qs o p1,Qt o p0,Qt o p1,Xp]
    refine Qc ?_ ?_<;>intro g2
    ·simp [h0,h1,hi,hj]
     have hnj:¬j'<i:=by omega
     simp [hnj]
     have p2:i<ys.length:=by omega
     have hlo:(fun y=>y<x) (G ys j'):=by have:=pt.1;show G ys j'<x;omega
     rw [Qf (h:=by kernel_rfl)]
     obtain ⟨H3,H4,s3,ix3,s4,o4,c4,l4⟩:=Wv o p2 p1 hf
     simp [h0,h1,hi,hj,Qs o p2,Qs o p1,Qt o p2,Qt o p1,s3,ix3 _ p2,ix3 _ p1,s4]
     have hlt:i<j':=by
      rcases Nat.lt_or_ge i j' with q|q
      ·exact q
      ·have q2:i=j':=by omega
       exact absurd (q2▸hlo) (hex' (by omega))
     refine Qg (fun c t H'=>∃i j:Nat,c=j+1-i∧t 0=v∧t 1=.int .i64 a∧t 10=.int .i64 i∧t 11=.int .i64 j∧a<i∧i≤j+1∧j<b∧Swd H v xs e a b (fun ys=>Pt ys a b x (fun y=>y<x) i j) H') ?_ (n:=j'-1+1-(i+1))
      ⟨i+1,j'-1,rfl,by simp [h0],by simp [h1],by simp;rw [w64 (by omega) (by omega)],by simp;rw [w64 (by omega) (by omega)];omega,by omega,by omega,by omega,_,sw.step i j' (by omega) (by omega),pt.swap hai hlt hjb (by omega) (hex' (by omega)) hlo,o4,c.trans c4,by omega⟩
     rintro c t H' ⟨i,j,rfl,h0,h1,hi,hj,hai,hij,hjb,ys,sw,pt,o,c,l⟩ ih
     have len:=sw.len
     have p0:a<ys.length:=by omega
     simp [h0,h1,hi,hj]
     obtain ⟨il,hil⟩:∃il,il=i:=⟨_,rfl⟩
     have hai':il≤i∧a<i:=⟨by omega,hai⟩
     refine W3 (F:=?F32) (k:=?k2) (Q:=?Q32) (fun t H1=>∃i:Nat,t 0=v∧t 1=.int .i64 a∧t 10=.int .i64 i∧t 11=.int .i64 j∧(il≤i∧a<i)∧i≤j+1∧(i=j+1∨(i≤j∧¬(fun y=>y<x) (G ys i)))∧H'=H1∧Pt ys a b x (fun y=>y<x) i j) ?main32 ?rest32
     case main32=>
      intro rest
      refine Qg (fun c t H1=>∃i:Nat,c=j+1-i∧t 0=v∧t 1=.int .i64 a∧t 10=.int .i64 i∧t 11=.int .i64 j∧(il≤i∧a<i)∧i≤j+1∧H'=H1∧Pt ys a b x (fun y=>y<x) i j) ?_ (n:=j+1-i)
       ⟨i,rfl,by simp [h0],by simp [h1],by simp [hi],by simp [hj],hai',hij,rfl,pt⟩
      rintro c t _ ⟨i,rfl,h0,h1,hi,hj,hai',hij,rfl,pt⟩ ih2
      have hai:=hai'.2
      simp [h0,h1,hi,hj]
      rw [Qf (h:=by kernel_rfl)]
      simp [h0,h1,hi,hj]
      refine Qv ?_ ?_<;>intro g1
      ·have p1:i<ys.length:=by omega
       simp [h0,h1,hi,hj,g1,Qs o p0,Qs o p1,Qt o p0,Qt o p1,Xp]
       refine Qc ?_ ?_<;>intro g2
       ·simp [h0,h1,hi,hj]
        refine ih2 (j+1-(i+1)) _ _ ⟨i+1,rfl,by simp [h0],by simp [h1],?_,by simp [hj],by omega,by omega,rfl,pt.incr hai (by have:=pt.1;show G ys i<x;omega)⟩ (by omega)
        simp;rw [w64 (by omega) (by omega)]
       ·simp [h0,h1,hi,hj]
        refine rest _ _ ?_
        exact ⟨i,by simp [h0],by simp [h1],by simp [hi],by simp [hj],hai',by omega,.inr ⟨by omega,by have:=pt.1;show ¬(G ys i<x);omega⟩,rfl,pt⟩
      ·simp [h0,h1,hi,hj,g1]
       refine rest _ _ ?_
       exact ⟨i,by simp [h0],by simp [h1],by simp [hi],by simp [hj],hai',hij,.inl (by omega),rfl,pt⟩
     case rest32=>
      rintro t _ ⟨i,h0,h1,hi,hj,hai',hij,hex,rfl,pt⟩
      have hai:=hai'.2
      refine Qg (fun c t H1=>∃j':Nat,c=j'+1-i∧t 0=v∧t 1=.int .i64 a∧t 10=.int .i64 i∧t 11=.int .i64 j'∧j'≤j∧i≤j'+1∧H'=H1∧Pt ys a b x (fun y=>y<x) i j') ?_ (n:=j+1-i)
       ⟨j,rfl,by simp [h0],by simp [h1],by simp [hi],by simp [hj],Nat.le_refl _,hij,rfl,pt⟩
      have hex':i<j+1→¬(fun y=>y<x) (G ys i):=fun hh=>by rcases hex with hex|hex;omega;exact hex.2
      have hjb0:=hjb
      rintro c t _ ⟨j',rfl,h0,h1,hi,hj,hjj',hij,rfl,pt⟩ ih2
      have hjb:j'<b:=by omega
      simp [h0,h1,hi,hj]
      rw [Qf (h:=by kernel_rfl)]
      simp [h0,h1,hi,hj]
      refine Qv ?_ ?_<;>intro g1
      ·have p1:j'<ys.length:=by omega
       simp [h0,h1,hi,hj,g1,Qs o p0,Qs o p1,Qt o p0,Qt o p1,Xp]
       refine Qc ?_ ?_<;>intro g2
       ·simp [h0,h1,hi,hj]
        have hnj:¬j'<i:=by omega
        simp [hnj]
        have p2:i<ys.length:=by omega
        have hlo:(fun y=>y<x) (G ys j'):=by have:=pt.1;show G ys j'<x;omega
        rw [Qf (h:=by kernel_rfl)]
        obtain ⟨H3,H4,s3,ix3,s4,o4,c4,l4⟩:=Wv o p2 p1 hf
        simp [h0,h1,hi,hj,Qs o p2,Qs o p1,Qt o p2,Qt o p1,s3,ix3 _ p2,ix3 _ p1,s4]
        have hlt:i<j':=by
         rcases Nat.lt_or_ge i j' with q|q
         ·exact q
         ·have q2:i=j':=by omega
          exact absurd (q2▸hlo) (hex' (by omega))
        refine ih (j'-1+1-(i+1)) _ _ ⟨i+1,j'-1,rfl,by simp [h0],by simp [h1],?_,?_,by omega,by omega,by omega,_,sw.step i j' (by omega) (by omega),pt.swap hai hlt hjb (by omega) (hex' (by omega)) hlo,o4,c.trans c4,by omega⟩ (by omega)
        ·simp;rw [w64 (by omega) (by omega)]
        ·simp;rw [w64 (by omega) (by omega)];omega
       ·simp [h0,h1,hi,hj]
        refine ih2 (j'-1+1-i) _ _ ⟨j'-1,rfl,by simp [h0],by simp [h1],by simp [hi],?_,by omega,by omega,rfl,pt.decr (by omega) (by have:=pt.1;show ¬(G ys j'<x);omega)⟩ (by omega)
        simp;rw [w64 (by omega) (by omega)];omega
      ·have hij':i=j'+1:=by omega
       have hji:j'<i:=by omega
       simp [h0,h1,hi,hj,g1,hji]
       have p3:j'<ys.length:=by omega
       rw [Qf (h:=by kernel_rfl)]
       obtain ⟨H3,H4,s3,ix3,s4,o4,c4,l4⟩:=Wv o p3 p0 hf
       simp [h0,h1,hi,hj,Qs o p3,Qs o p0,Qt o p3,Qt o p0,s3,ix3 _ p3,ix3 _ p0,s4]
       obtain ⟨f1,f2,f3⟩:=pt.fin hij' hai hjb (by omega)
       exact ⟨j',rfl,by omega,by omega,_,sw.step j' a (by omega) (by omega),⟨fun k k1 k2=>by have:=f2 k k1 k2;rw [f1];exact this,fun k k1 k2=>by have:=f3 k k1 k2;rw [f1];omega⟩,o4,c.trans c4,by omega⟩
    ·simp [h0,h1,hi,hj]
     refine ih2 (j'-1+1-i) _ _ ⟨j'-1,rfl,by simp [h0],by simp [h1],by simp [hi],?_,by omega,by omega,rfl,pt.decr (by omega) (by have:=pt.1;show ¬(G ys j'<x);omega)⟩ (by omega)
     simp;rw [w64 (by omega) (by omega)];omega
   ·have hij':i=j'+1:=by omega
    have hji:j'<i:=by omega
    simp [h0,h1,hi,hj,g1,hji]
    have p3:j'<ys.length:=by omega
    rw [Qf (h:=by kernel_rfl)]
    obtain ⟨H3,H4,s3,ix3,s4,o4,c4,l4⟩:=Wv o p3 p0 hf
    simp [h0,h1,hi,hj,Qs o p3,Qs o p0,Qt o p3,Qt o p0,s3,ix3 _ p3,ix3 _ p0,s4]
    obtain ⟨f1,f2,f3⟩:=pt.fin hij' hai hjb (by omega)
    exact ⟨j',rfl,by omega,by omega,_,sw.step j' a (by omega) (by omega),⟨fun k k1 k2=>by have:=f2 k k1 k2;rw [f1];exact this,fun k k1 k2=>by have:=f3 k k1 k2;rw [f1];omega⟩,o4,c.trans c4,by omega⟩
theorem Srt.snoc {ys:List Int} {a i:Nat} (h:Srt ys a i) (hi:a<i→G ys (i-1)≤G ys i):Srt ys a (i+1):=fun p q h1 h2 h3=>by
 by_cases hq:q=i
 ·rw [hq]
  have hlt:a<i:=by omega
  have:=hi hlt
  by_cases hp:p=i-1
  ·rw [hp];exact this
  ·have:=h p (i-1) h1 (by omega) (by omega);omega
 ·exact h p q h1 h2 (by omega)
theorem qe (v:Value) (xs:List Int) (e:TypeId) (a b:Nat) (h:Ow Fl.int e H v xs) (hab:a<b) (hb:b≤xs.length) (hl:xs.length≤1073741824) (hlo:0<a→∀k,a≤k→k<b→G xs (a-1)≤G xs k) (hf:∀i∈ids v,frz≤i) :
 wp (vcall C frz 139 [v,.int .i64 a,.int .i64 b] H) (fun r H'=>∃d:Bool,r=.bool d∧Swd H v xs e a b (fun ys=>d=true→Srt ys a b) H'):=by
 rw [Qa (fn:=Tryz.f139) Tryz.func139 rfl (by kernel_rfl) rfl]
 obtain ⟨i0,hi0⟩:∃i0,i0=a+1:=⟨_,rfl⟩
 have e2:∀[Inhabited Unit],IntKind.i64.wrap ((a:Int)+1)=(i0:Int):=by intro _;rw [w64 (by omega) (by omega)];omega
 simp [e2]
 refine Qg (fun c t H'=>∃i s:Nat,c=5-s∧s≤5∧t 0=v∧t 1=.int .i64 a∧t 2=.int .i64 b∧t 7=.int .i64 i∧t 8=.int .i64 s∧a<i∧i≤b∧Swd H v xs e a b (fun ys=>Srt ys a i) H') ?_ (n:=5)
  ⟨i0,0,rfl,by omega,by simp,by simp,by simp,by simp,by simp,by omega,by omega,xs,.refl,Srt.short (by omega),h,Chg.refl _,rfl⟩
 rintro c t H' ⟨i,s,rfl,hs,h0,h1,h2,h7,h8,hai,hib,ys,sw,sr,o,c,l⟩ ih
 have len:=sw.len
 simp [h0,h1,h2,h7,h8]
 refine Qc ?_ ?_<;>intro g0
 ·simp [h0,h1,h2,h7,h8]
  refine Tk (F:=?F) (k1:=?k1) (k2:=?k2) (Q:=?Q) (fun c t H1=>∃i:Nat,c=.bool (decide ((i:Int)=b))∧H'=H1∧t 0=v∧t 1=.int .i64 a∧t 2=.int .i64 b∧t 7=.int .i64 i∧t 8=.int .i64 s∧a<i∧i≤b∧Srt ys a i) ?main ?rest
  case main=>
   intro rest
   refine Qg (fun c t H1=>∃i:Nat,c=b-i∧H'=H1∧t 0=v∧t 1=.int .i64 a∧t 2=.int .i64 b∧t 7=.int .i64 i∧t 8=.int .i64 s∧a<i∧i≤b∧Srt ys a i) ?_ (n:=b-i)
    ⟨i,rfl,rfl,by simp [h0],by simp [h1],by simp [h2],by simp [h7],by simp [h8],hai,hib,sr⟩
   rintro c t _ ⟨i,rfl,rfl,h0,h1,h2,h7,h8,hai,hib,sr⟩ ih2
   have e3:∀[Inhabited Unit],IntKind.i64.wrap ((i:Int)-1)=((i-1:Nat):Int):=by intro _;rw [w64 (by omega) (by omega)];omega
   simp [h0,h1,h2,h7,h8]
   rw [Qf (h:=by kernel_rfl)]
   simp [h0,h1,h2,h7,h8]
   refine Qv ?_ ?_<;>intro g1
   ·have p1:i<ys.length:=by omega
    have p2:i-1<ys.length:=by omega
    simp [h0,h1,h2,h7,h8,g1,e3,Qs o p1,Qs o p2,Qt o p1,Qt o p2,Xp]
    refine Qc ?_ ?_<;>intro g2
    ·simp [h0,h1,h2,h7,h8]
     refine rest _ _ _ ?_
     exact ⟨i,rfl,rfl,by simp [h0],by simp [h1],by simp [h2],by simp [h7],by simp [h8],hai,hib,sr⟩
    ·simp [h0,h1,h2,h7,h8]
     refine ih2 (b-(i+1)) _ _ ⟨i+1,rfl,rfl,by simp [h0],by simp [h1],by simp [h2],?_,by simp [h8],by omega,by omega,sr.snoc (fun _=>by omega)⟩ (by omega)
     simp;rw [w64 (by omega) (by omega)]
   ·simp [h0,h1,h2,h7,h8,g1]
    refine rest _ _ _ ?_
    exact ⟨i,rfl,rfl,by simp [h0],by simp [h1],by simp [h2],by simp [h7],by simp [h8],hai,hib,sr⟩
  case rest=>
   rintro _ t _ ⟨i,rfl,rfl,h0,h1,h2,h7,h8,hai,hib,sr⟩
   obtain ⟨n,hn⟩:∃n,n=b-a:=⟨_,rfl⟩
   obtain ⟨m,hm⟩:∃m,m=i-a:=⟨_,rfl⟩
   obtain ⟨r,hr⟩:∃r,r=b-i:=⟨_,rfl⟩
   have e4:∀[Inhabited Unit],IntKind.i64.wrap ((b:Int)-a)=(n:Int):=by intro _;rw [w64 (by omega) (by omega)];omega
   have e5:∀[Inhabited Unit],IntKind.i64.wrap ((i:Int)-a)=(m:Int):=by intro _;rw [w64 (by omega) (by omega)];omega
   have e6:∀[Inhabited Unit],IntKind.i64.wrap ((b:Int)-i)=(r:Int):=by intro _;rw [w64 (by omega) (by omega)];omega
   have e3:∀[Inhabited Unit],IntKind.i64.wrap ((i:Int)-1)=((i-1:Nat):Int):=by intro _;rw [w64 (by omega) (by omega)];omega
   refine Qc ?_ ?_<;>intro g1
   ·simp
    have hib:i=b:=by omega
    exact ⟨ys,sw,hib▸sr,o,c,l⟩
   ·simp [h0,h1,h2,h7,h8,e4]
    refine Qc ?_ ?_<;>intro g2
    ·simp
     exact ⟨ys,sw,trivial,o,c,l⟩
    ·have p1:i<ys.length:=by omega
     have p2:i-1<ys.length:=by omega
     simp [h0,h1,h2,h7,h8]
     rw [Qf (h:=by kernel_rfl)]
     obtain ⟨H3,H4,s3,ix3,s4,o4,c4,l4⟩:=Wv o p1 p2 hf
     simp [h0,h1,h2,h7,h8,e3,e5,Qs o p1,Qs o p2,Qt o p1,Qt o p2,s3,ix3 _ p1,ix3 _ p2,s4]
     have sw4:=sw.step i (i-1) (by omega) (by omega)
     have sr4:Srt (swp ys i (i-1)) a (i-1):=Srt.frame (fun p q q1 q2 q3=>sr p q q1 q2 (by omega)) (fun k k1 k2=>by rw [Xr p1 p2,if_neg (by omega),if_neg (by omega)])
     have c5:=c.trans c4
     have l5:H4.length=H.length:=by omega
     generalize swp ys i (i-1)=zs at *
     refine Tk (F:=?F2) (k1:=?k12) (k2:=?k22) (Q:=?Q2) (fun c t H1=>c=.bool (decide (2≤(r:Int)))∧t 0=v∧t 1=.int .i64 a∧t 2=.int .i64 b∧t 7=.int .i64 i∧t 8=.int .i64 s∧Swd H v xs e a b (fun ys=>Srt ys a i) H1) ?main2 ?rest2
     case main2=>
      intro rest2
      refine Qc ?_ ?_<;>intro g3
      ·simp [h0,h1,h2,h7,h8,e3]
       refine Qg (fun c t H1=>∃j:Nat,c=j∧t 0=v∧t 1=.int .i64 a∧t 2=.int .i64 b∧t 7=.int .i64 i∧t 8=.int .i64 s∧t 9=.int .i64 j∧a≤j∧j≤i-1∧Swd H v xs e a b (fun ys=>Ins ys a (i-1) j) H1) ?_ (n:=i-1)
        ⟨i-1,rfl,by simp [h0],by simp [h1],by simp [h2],by simp [h7],by simp [h8],by simp,by omega,by omega,zs,sw4,Ins.start sr4,o4,c5,l5⟩
       rintro j t H1 ⟨_,rfl,h0,h1,h2,h7,h8,h9,haj,hji,ws,sw,ins,o,c,l⟩ ih2
       have len:=sw.len
       have e7:∀[Inhabited Unit],IntKind.i64.wrap ((j:Int)-1)=((j-1:Nat):Int)∨j=0:=by
        intro _
        by_cases hj:j=0
        ·exact .inr hj
        ·left;rw [w64 (by omega) (by omega)];omega
       simp [h0,h1,h2,h7,h8,h9]
       refine Qc ?_ ?_<;>intro g4
       ·have e7:∀[Inhabited Unit],IntKind.i64.wrap ((j:Int)-1)=((j-1:Nat):Int):=by intro _;rw [w64 (by omega) (by omega)];omega
        have p3:j<ws.length:=by omega
        have p4:j-1<ws.length:=by omega
        simp [h0,h1,h2,h7,h8,h9]
        rw [Qf (h:=by kernel_rfl)]
        simp [h0,h1,h2,h7,h8,h9,e7,Qs o p3,Qs o p4,Qt o p3,Qt o p4,Xp]
        have low:j=a→G ws (j-1)≤G ws j:=by
         intro hja
         have:=sw.all hb (p:=fun y=>G xs (a-1)≤y) (fun k k1 k2=>hlo (by omega) k k1 k2) j haj (by omega)
         rw [hja] at this ⊢
         rw [sw.out hb (k:=a-1) (by omega)];exact this
        refine Qc ?_ ?_<;>intro g5
        ·have haj2:a<j:=by
          rcases Nat.lt_or_ge a j with q|q
          ·exact q
          ·have:=low (by omega);omega
         simp [h0,h1,h2,h7,h8,h9]
         rw [Qf (h:=by kernel_rfl)]
         obtain ⟨H5,H6,s5,ix5,s6,o6,c6,l6⟩:=Wv o p3 p4 hf
         simp [h0,h1,h2,h7,h8,h9,e7,Qs o p3,Qs o p4,Qt o p3,Qt o p4,s5,ix5 _ p3,ix5 _ p4,s6]
         refine ih2 (j-1) _ _ ⟨j-1,rfl,by simp [h0],by simp [h1],by simp [h2],by simp [h7],by simp [h8],by simp [e7],by omega,by omega,_,sw.step j (j-1) (by omega) (by omega),ins.step (by omega) haj2 hji g5,o6,c.trans c6,by omega⟩ (by omega)
        ·have sr6:Srt ws a (i-1+1):=ins.done (by
          rcases Nat.lt_or_ge a j with q|q
          ·exact .inr ⟨q,by omega⟩
          ·exact .inl (by omega))
         rw [show i-1+1=i by omega] at sr6
         simp [h0,h1,h2,h7,h8,h9,e6]
         refine rest2 _ _ _ ?_
         exact ⟨rfl,by simp [h0],by simp [h1],by simp [h2],by simp [h7],by simp [h8],ws,sw,sr6,o,c,l⟩
       ·have sr6:Srt ws a (i-1+1):=ins.done (.inl (by omega))
        rw [show i-1+1=i by omega] at sr6
        simp [h0,h1,h2,h7,h8,h9,e6]
        refine rest2 _ _ _ ?_
        exact ⟨rfl,by simp [h0],by simp [h1],by simp [h2],by simp [h7],by simp [h8],ws,sw,sr6,o,c,l⟩
      ·simp [h0,h1,h2,h7,h8,e6]
       refine rest2 _ _ _ ?_
       exact ⟨rfl,by simp [h0],by simp [h1],by simp [h2],by simp [h7],by simp [h8],zs,sw4,Srt.short (by omega),o4,c5,l5⟩
     case rest2=>
      clear sw4 sr4 o4 c5 l5 s3 s4 ix3 c4 p1 p2
      rintro _ t H1 ⟨rfl,h0,h1,h2,h7,h8,ws,sw,sr,o,c,l⟩
      have fin:∀(t:Env) (H1:Heap),t 0=v→t 1=.int .i64 a→t 2=.int .i64 b→t 7=.int .i64 i→t 8=.int .i64 (IntKind.i64.wrap ((s:Int)+1))→Swd H v xs e a b (fun ys=>Srt ys a i) H1→
       ∃i s':Nat,5-(s+1)=5-s'∧s'≤5∧t 0=v∧t 1=.int .i64 a∧t 2=.int .i64 b∧t 7=.int .i64 i∧t 8=.int .i64 s'∧a<i∧i≤b∧Swd H v xs e a b (fun ys=>Srt ys a i) H1:=
       fun t H1 g0 g1 g2 g7 g8 gs=>⟨i,s+1,rfl,by omega,g0,g1,g2,g7,by rw [g8,w64 (by omega) (by omega)];simp,hai,hib,gs⟩
      refine Qc ?_ ?_<;>intro g3
      ·have e8:∀[Inhabited Unit],IntKind.i64.wrap ((i:Int)+1)=((i+1:Nat):Int):=by intro _;rw [w64 (by omega) (by omega)];omega
       obtain ⟨j0,hj0⟩:∃j0,j0=i+1:=⟨_,rfl⟩
       rw [← hj0] at e8
       simp [h0,h1,h2,h7,h8,e8]
       refine Qg (fun c t H1=>∃j:Nat,c=b-j∧t 0=v∧t 1=.int .i64 a∧t 2=.int .i64 b∧t 7=.int .i64 i∧t 8=.int .i64 s∧t 10=.int .i64 j∧i<j∧j≤b∧Swd H v xs e a b (fun ys=>Srt ys a i) H1) ?_ (n:=b-j0)
        ⟨j0,rfl,by simp [h0],by simp [h1],by simp [h2],by simp [h7],by simp [h8],by simp,by omega,by omega,ws,sw,sr,o,c,l⟩
       rintro _ t H1 ⟨j,rfl,h0,h1,h2,h7,h8,h10,hij,hjb,ws,sw,sr,o,c,l⟩ ih2
       have len:=sw.len
       simp [h0,h1,h2,h7,h8,h10]
       refine Qc ?_ ?_<;>intro g4
       ·have e7:∀[Inhabited Unit],IntKind.i64.wrap ((j:Int)-1)=((j-1:Nat):Int):=by intro _;rw [w64 (by omega) (by omega)];omega
        have p3:j<ws.length:=by omega
        have p4:j-1<ws.length:=by omega
        simp [h0,h1,h2,h7,h8,h10]
        rw [Qf (h:=by kernel_rfl)]
        simp [h0,h1,h2,h7,h8,h10,e7,Qs o p3,Qs o p4,Qt o p3,Qt o p4,Xp]
        refine Qc ?_ ?_<;>intro g5
        ·simp [h0,h1,h2,h7,h8,h10]
         rw [Qf (h:=by kernel_rfl)]
         obtain ⟨H5,H6,s5,ix5,s6,o6,c6,l6⟩:=Wv o p3 p4 hf
         simp [h0,h1,h2,h7,h8,h10,e7,Qs o p3,Qs o p4,Qt o p3,Qt o p4,s5,ix5 _ p3,ix5 _ p4,s6]
         refine ih2 (b-(j+1)) _ _ ⟨j+1,rfl,by simp [h0],by simp [h1],by simp [h2],by simp [h7],by simp [h8],?_,by omega,by omega,_,sw.step j (j-1) (by omega) (by omega),Srt.frame sr (fun k k1 k2=>by rw [Xr p3 p4,if_neg (by omega),if_neg (by omega)]),o6,c.trans c6,by omega⟩ (by omega)
         simp;rw [w64 (by omega) (by omega)]
        ·simp [h0,h1,h2,h7,h8,h10]
         refine ih (5-(s+1)) _ _ (fin _ _ ?_ ?_ ?_ ?_ ?_ ⟨ws,sw,sr,o,c,l⟩) (by omega)<;>simp [h0,h1,h2,h7,h8]
       ·simp [h0,h1,h2,h7,h8,h10]
        refine ih (5-(s+1)) _ _ (fin _ _ ?_ ?_ ?_ ?_ ?_ ⟨ws,sw,sr,o,c,l⟩) (by omega)<;>simp [h0,h1,h2,h7,h8]
      ·simp [h0,h1,h2,h7,h8]
       refine ih (5-(s+1)) _ _ (fin _ _ ?_ ?_ ?_ ?_ ?_ ⟨ws,sw,sr,o,c,l⟩) (by omega)<;>simp [h0,h1,h2,h7,h8]
 ·simp
  exact ⟨ys,sw,trivial,o,c,l⟩
structure Pq (ys:List Int) (A B a b:Nat):Prop where
 le:A≤a∧a≤b∧b≤B
 left:Srt ys A a
 right:Srt ys b B
 lo:∀p q,A≤p→p<a→a≤q→q<B→G ys p≤G ys q
 hi:∀p q,A≤p→p<b→b≤q→q<B→G ys p≤G ys q
 low:0<A→∀k,A≤k→k<B→G ys (A-1)≤G ys k
section
variable {ys zs:List Int} {A B a b m:Nat}
theorem Pq.below (h:Pq ys A B a b) (ha:0<a):∀k,a≤k→k<B→G ys (a-1)≤G ys k:=fun k h1 h2=>by
 obtain ⟨l1,l2,l3⟩:=h.le
 by_cases hA:a=A
 ·have:=h.low (by omega) k (by omega) h2;rw [hA];exact this
 ·exact h.lo (a-1) k (by omega) (by omega) h1 h2
theorem Pq.sw (h:Pq ys A B a b) (s:Sw a b ys zs) (hB:B≤ys.length):Pq zs A B a b:=by
 obtain ⟨l1,l2,l3⟩:=h.le
 have hb:b≤ys.length:=by omega
 have out:=fun k (hk:k<a∨b≤k)=>s.out hb hk
 refine ⟨h.le,h.left.frame (fun k h1 h2=>out k (.inl h2)),h.right.frame (fun k h1 h2=>out k (.inr h1)),fun p q h1 h2 h3 h4=>?_,fun p q h1 h2 h3 h4=>?_,fun h0 k h1 h2=>?_⟩
 ·rw [out p (.inl h2)]
  exact s.all' hb (p:=fun y=>G ys p≤y) (Nat.le_refl a) l3 (fun k k1 k2=>h.lo p k h1 h2 k1 k2) q h3 h4
 ·rw [out q (.inr h3)]
  exact s.all' hb (p:=fun y=>y≤G ys q) l1 (Nat.le_refl b) (fun k k1 k2=>h.hi k q k1 k2 h3 h4) p h1 h2
 ·rw [out (A-1) (.inl (by omega))]
  exact s.all' hb (p:=fun y=>G ys (A-1)≤y) l1 l3 (fun k k1 k2=>h.low h0 k k1 k2) k h1 h2
theorem Pq.done (h:Pq ys A B a b) (s:Srt ys a b):Srt ys A B:=by
 obtain ⟨l1,l2,l3⟩:=h.le
 exact (h.left.join (s.join h.right (fun p q h1 h2 h3 h4=>h.hi p q (by omega) h2 h3 h4)) h.lo)
theorem Pq.eq {x:Int} (h:Pq ys A B a b) (hm:a<m∧m≤b) (hx:∀k,a≤k→k<b→x≤G ys k) (h1:∀k,a≤k→k<m→¬x<G ys k) (h2:∀k,m≤k→k<b→x<G ys k):Pq ys A B m b:=by
 obtain ⟨l1,l2,l3⟩:=h.le
 refine ⟨by omega,h.left.join (fun p q q1 q2 q3=>?_) (fun p q q1 q2 q3 q4=>h.lo p q q1 q2 q3 (by omega)),h.right,fun p q q1 q2 q3 q4=>?_,h.hi,h.low⟩
 ·have:=h1 p q1 (by omega);have:=hx q (by omega) (by omega);omega
 ·by_cases hp:p<a
  ·exact h.lo p q q1 hp (by omega) q4
  ·by_cases hq:q<b
   ·have:=h1 p (by omega) q2;have:=h2 q q3 hq;omega
   ·exact h.hi p q q1 (by omega) (by omega) q4
theorem Pq.goRight (h:Pq ys A B a b) (hm:a≤m∧m<b) (s:Srt ys a m) (h1:∀k,a≤k→k<m→G ys k≤G ys m) (h2:∀k,m<k→k<b→G ys m≤G ys k):Pq ys A B (m+1) b:=by
 obtain ⟨l1,l2,l3⟩:=h.le
 refine ⟨by omega,h.left.join (fun p q q1 q2 q3=>?_) (fun p q q1 q2 q3 q4=>h.lo p q q1 q2 q3 (by omega)),h.right,fun p q q1 q2 q3 q4=>?_,h.hi,h.low⟩
 ·by_cases hq:q=m
  ·rw [hq];exact h1 p q1 (by omega)
  ·exact s p q q1 q2 (by omega)
 ·by_cases hp:p<a
  ·exact h.lo p q q1 hp (by omega) q4
  ·by_cases hq:q<b
   ·have:=h2 q (by omega) hq
    by_cases hpm:p=m
    ·rw [hpm];exact this
    ·have:=h1 p (by omega) (by omega);omega
   ·exact h.hi p q q1 (by omega) (by omega) q4
theorem Pq.goLeft (h:Pq ys A B a b) (hm:a≤m∧m<b) (s:Srt ys (m+1) b) (h1:∀k,a≤k→k<m→G ys k≤G ys m) (h2:∀k,m<k→k<b→G ys m≤G ys k):Pq ys A B a m:=by
 obtain ⟨l1,l2,l3⟩:=h.le
 refine ⟨by omega,h.left,Srt.join (b:=b) (fun p q q1 q2 q3=>?_) h.right (fun p q q1 q2 q3 q4=>h.hi p q (by omega) q2 q3 q4),h.lo,fun p q q1 q2 q3 q4=>?_,h.low⟩
 ·by_cases hp:p=m
  ·rw [hp];exact h2 q (by omega) q3
  ·exact s p q (by omega) q2 q3
 ·by_cases hq:q<b
  ·by_cases hp:p<a
   ·exact h.lo p q q1 hp (by omega) q4
   ·have:=h1 p (by omega) q2
    by_cases hqm:q=m
    ·rw [hqm];exact this
    ·have:=h2 q (by omega) hq;omega
  ·exact h.hi p q q1 (by omega) (by omega) q4
end
theorem Qef:∀(n:Nat) (H:Heap) (v:Value) (xs:List Int) (e:TypeId) (A B:Nat) (L:Int) (h:Ow Fl.int e H v xs) (hn:B-A≤n) (hab:A≤B) (hb:B≤xs.length) (hl:xs.length≤1073741824)
 (hlo:0<A→∀k,A≤k→k<B→G xs (A-1)≤G xs k) (hf:∀i∈ids v,frz≤i) (hF:frz≤H.length),
 wp (vcall C frz 104 [v,.int .i64 A,.int .i64 B,.int .i64 L] H) (fun _ H'=>∃ys,Sw A B xs ys∧Srt ys A B∧Ow Fl.int e H' v ys∧Chg H H' (ids v)):=by
 intro n
 induction n using Nat.strongRecOn with
 | _ n IH=>
 intro H v xs e A B L h hn hab hb hl hlo hf hF
 rw [Qa (fn:=Tryz.f104) Tryz.func104 rfl (by kernel_rfl) rfl]
 simp
 refine Qg (fun c t H'=>∃(a b:Nat) (L:Int) (w1 w2:Bool),c=b-a∧t 0=v∧t 1=.int .i64 a∧t 2=.int .i64 b∧t 3=.int .i64 L∧t 8=.bool w1∧t 9=.bool w2∧
  ∃ys,Sw A B xs ys∧Pq ys A B a b∧Ow Fl.int e H' v ys∧Chg H H' (ids v)) ?_ (n:=B-A)
  ⟨A,B,L,true,true,rfl,by simp,by simp,by simp,by simp,by simp,by simp,xs,.refl,⟨by omega,Srt.short (by omega),Srt.short (by omega),fun p q h1 h2 h3 h4=>by omega,fun p q h1 h2 h3 h4=>by omega,hlo⟩,h,Chg.refl _⟩
 rintro c t H' ⟨a,b,L,w1,w2,rfl,h0,h1,h2,h3,h8,h9,ys,sw,pq,o,c⟩ ih
 have len:=sw.len
 obtain ⟨l1,l2,l3⟩:=pq.le
 obtain ⟨n1,hn1⟩:∃n1,n1=b-a:=⟨_,rfl⟩
 have e1:∀[Inhabited Unit],IntKind.i64.wrap ((b:Int)-a)=(n1:Int):=by intro _;rw [w64 (by omega) (by omega)];omega
 simp [h0,h1,h2,h3,h8,h9,e1]
 refine Qc ?_ ?_<;>intro g1
 ·simp [h0,h1,h2,h3,h8,h9]
  refine Qd (B9 v ys e a b o l2 (by omega) (by omega) hf) ?_
  rintro _ H1 ⟨zs,sw1,sr1,o1,c1,k1⟩
  simp
  exact ⟨zs,sw.trans (sw1.mono l1 l3),(pq.sw sw1 (by omega)).done sr1,o1,c.trans c1⟩
 ·simp [h0,h1,h2,h3,h8,h9]
  refine Qc ?_ ?_<;>intro g2
  ·simp [h0,h1,h2,h3,h8,h9]
   refine Qd (Et v ys e a b o (by omega) (by omega) (by omega) hf) ?_
   rintro _ H1 ⟨zs,sw1,sr1,o1,c1,k1⟩
   simp
   exact ⟨zs,sw.trans (sw1.mono l1 l3),(pq.sw sw1 (by omega)).done sr1,o1,c.trans c1⟩
  ·simp [h0,h1,h2,h3,h8,h9]
   refine Zi (F:=?F1) (k:=?k1) (d:=?d1) (Q:=?Q1) (fun r t=>∃(L:Int) (zs:List Int) (H1:Heap),r=vcall C frz 137 [v,.int .i64 a,.int .i64 b] H1∧t 0=v∧t 1=.int .i64 a∧t 2=.int .i64 b∧t 3=.int .i64 L∧t 10=.int .i64 n1∧t 8=.bool w1∧t 9=.bool w2∧
    Sw A B xs zs∧Pq zs A B a b∧Ow Fl.int e H1 v zs∧Chg H H1 (ids v)) ?main1 ?rest1
   case main1=>
    intro rest
    have h10:=True.intro
    refine R8 ?_ ?_<;>intro g3
    ·simp [h0,h1,h2,h3,h8,h9]
     refine rest _ _ ?_
     exact ⟨L,ys,H',rfl,by simp [h0],by simp [h1],by simp [h2],by simp [h3],by simp [h10],by simp [h8],by simp [h9],sw,pq,o,c⟩
    ·simp [h0,h1,h2,h3,h8,h9]
     refine Qd (Ei v ys e a b o l2 (by omega) (by omega) hf (by have:=c.1;omega)) ?_
     rintro _ H1 ⟨zs,sw1,o1,c1⟩
     simp [h0,h1,h2,h3,h8,h9]
     refine rest _ _ ?_
     exact ⟨IntKind.i64.wrap (L-1),zs,H1,rfl,by simp [h0],by simp [h1],by simp [h2],by simp,by simp,by simp [h8],by simp [h9],sw.trans (sw1.mono l1 l3),pq.sw sw1 (by omega),o1,c.trans c1⟩
   case rest1=>
    clear h0 h1 h2 h3 h8 h9 sw pq o c len
    rintro _ t ⟨L,ys,H',rfl,h0,h1,h2,h3,h10,h8,h9,sw,pq,o,c⟩
    have len:=sw.len
    refine Qd (Nv v ys e a b o (by omega) (by omega) (by omega) (by have:=c.1;omega)) ?_
    rintro _ H1 ⟨⟨p,k,rfl,hp1,hp2⟩,c1⟩
    have o1:=o.chg c1 (by simp)
    have cH1:=c.trans (c1.mono (by simp))
    simp [h0,h1,h2,h3,h8,h9]
    refine Ij (F:=?F2) (k:=?k2) (d:=?d2) (want:=?w2) (op:=?op2) (Q:=?Q2) (fun c t H1=>c=.bool w1∧∃(p:Nat) (k:Int) (zs:List Int),(a≤p∧p<b)∧t 0=v∧t 1=.int .i64 a∧t 2=.int .i64 b∧t 3=.int .i64 L∧t 10=.int .i64 n1∧t 8=.bool w1∧t 9=.bool w2∧t 11=.int .i64 p∧t 12=.int .i64 k∧t 62=.bool w1∧
     Sw A B xs zs∧Pq zs A B a b∧Ow Fl.int e H1 v zs∧Chg H H1 (ids v)) ?main2 ?rest2
    case main2=>
     intro rest
     refine Qc ?_ ?_<;>intro g3
     ·simp [h0,h1,h2,h3,h8,h9]
      refine Qd (Dq v ys e a b o1 (by omega) (by omega) (by omega) hf) ?_
      rintro _ H2 ⟨zs,sw1,_,o2,c2,k2⟩
      obtain ⟨b1,hb1⟩:∃b1,b1=b-1:=⟨_,rfl⟩
      obtain ⟨p1,hp3⟩:∃p1,p1=p-a:=⟨_,rfl⟩
      obtain ⟨p2,hp4⟩:∃p2,p2=b1-p1:=⟨_,rfl⟩
      have e2:∀[Inhabited Unit],IntKind.i64.wrap ((b:Int)-1)=(b1:Int):=by intro _;rw [w64 (by omega) (by omega)];omega
      have e3:∀[Inhabited Unit],IntKind.i64.wrap ((p:Int)-a)=(p1:Int):=by intro _;rw [w64 (by omega) (by omega)];omega
      have e4:∀[Inhabited Unit],IntKind.i64.wrap ((b1:Int)-p1)=(p2:Int):=by intro _;rw [w64 (by omega) (by omega)];omega
      simp [h0,h1,h2,h3,h8,h9,e2,e3,e4]
      refine rest _ _ _ ?_
      exact ⟨rfl,p2,1,zs,by omega,by simp [h0],by simp [h1],by simp [h2],by simp [h3],by simp [h10],by simp [h8],by simp [h9],by simp,by simp,by simp,sw.trans (sw1.mono l1 l3),pq.sw sw1 (by omega),o2,cH1.trans c2⟩
     ·simp [h0,h1,h2,h3,h8,h9]
      refine rest _ _ _ ?_
      exact ⟨rfl,p,k,ys,by omega,by simp [h0],by simp [h1],by simp [h2],by simp [h3],by simp [h10],by simp [h8],by simp [h9],by simp,by simp,by simp,sw,pq,o1,cH1⟩
    case rest2=>
     clear h0 h1 h2 h3 h8 h9 sw pq o c len o1 c1 cH1 hp1 hp2
     rintro _ t H1 ⟨rfl,p,k,ys,hp,h0,h1,h2,h3,h10,h8,h9,h11,h12,h62,sw,pq,o,c⟩
     have len:=sw.len
     refine W3 (F:=?F3) (k:=?k3) (Q:=?Q3) (fun t H1=>∃(zs:List Int),t 0=v∧t 1=.int .i64 a∧t 2=.int .i64 b∧t 3=.int .i64 L∧t 10=.int .i64 n1∧t 8=.bool w1∧t 9=.bool w2∧t 11=.int .i64 p∧
      Sw A B xs zs∧Pq zs A B a b∧Ow Fl.int e H1 v zs∧Chg H H1 (ids v)) ?main3 ?rest3
     case main3=>
      intro rest
      refine Tm ?_ ?_<;>intro g3
      ·simp [h0,h1,h2,h3,h8,h9,h11,h12,h62,g3]
       refine Tm ?_ ?_<;>intro g4
       ·simp [h0,h1,h2,h3,h8,h9,h11,h12,h62,g3,g4]
        refine Qc ?_ ?_<;>intro g5
        ·simp [h0,h1,h2,h3,h8,h9,h11,h12]
         refine Qd (qe v ys e a b o (by omega) (by omega) (by omega) (fun h0 k k1 k2=>pq.below h0 k k1 (by omega)) hf) ?_
         rintro _ H2 ⟨d,rfl,zs,sw1,sr1,o2,c2,k2⟩
         simp
         refine R8 ?_ ?_<;>intro g6
         ·simp
          exact ⟨zs,sw.trans (sw1.mono l1 l3),(pq.sw sw1 (by omega)).done (sr1 g6),o2,c.trans c2⟩
         ·simp
          refine rest _ _ ?_
          exact ⟨zs,by simp [h0],by simp [h1],by simp [h2],by simp [h3],by simp [h10],by simp [h8],by simp [h9],by simp [h11],sw.trans (sw1.mono l1 l3),pq.sw sw1 (by omega),o2,c.trans c2⟩
        ·simp
         refine rest _ _ ?_
         exact ⟨ys,by simp [h0],by simp [h1],by simp [h2],by simp [h3],by simp [h10],by simp [h8],by simp [h9],by simp [h11],sw,pq,o,c⟩
       ·simp [h0,h1,h2,h3,h8,h9,h11,h12,h62,g3,g4]
        refine rest _ _ ?_
        exact ⟨ys,by simp [h0],by simp [h1],by simp [h2],by simp [h3],by simp [h10],by simp [h8,g3],by simp [h9,g4],by simp [h11],sw,pq,o,c⟩
      ·simp [h0,h1,h2,h3,h8,h9,h11,h12,h62,g3]
       refine rest _ _ ?_
       exact ⟨ys,by simp [h0],by simp [h1],by simp [h2],by simp [h3],by simp [h10],by simp [h8,g3],by simp [h9],by simp [h11],sw,pq,o,c⟩
     case rest3=>
      clear h0 h1 h2 h3 h8 h9 h11 h12 sw pq o c len
      rintro t H1 ⟨ys,h0,h1,h2,h3,h10,h8,h9,h11,sw,pq,o,c⟩
      have len:=sw.len
      have q1:p<ys.length:=by omega
      rw [Qf (h:=by kernel_rfl)]
      simp [h0,h1,h2,h3,h8,h9,h11]
      refine Zi (F:=?F4) (k:=?k4) (d:=?d4) (Q:=?Q4) (fun r t=>r=vcall C frz 142 [v,.int .i64 a,.int .i64 b,.int .i64 p] H1∧t 0=v∧t 1=.int .i64 a∧t 2=.int .i64 b∧t 3=.int .i64 L∧t 10=.int .i64 n1) ?main4 ?rest4
      case main4=>
       intro rest
       refine Qv ?_ ?_<;>intro g3
       ·have e5:∀[Inhabited Unit],IntKind.i64.wrap ((a:Int)-1)=((a-1:Nat):Int):=by intro _;rw [w64 (by omega) (by omega)];omega
        have q2:a-1<ys.length:=by omega
        simp [h0,h1,h2,h3,h8,h9,h11,g3,e5,Qs o q1,Qs o q2,Qt o q1,Qt o q2,Xp]
        refine Qc ?_ ?_<;>intro g4
        ·simp [h0,h1,h2,h3,h8,h9,h11]
         refine rest _ _ ?_
         exact ⟨rfl,by simp [h0],by simp [h1],by simp [h2],by simp [h3],by simp [h10]⟩
        ·simp [h0,h1,h2,h3,h8,h9,h11]
         refine Qd (xj v ys e a b p o hp (by omega) (by omega) hf) ?_
         rintro _ H2 ⟨m,rfl,m1,m2,zs,sw1,⟨f1,f2⟩,o2,c2,k2⟩
         simp [h0,h1,h2,h3,h8,h9,h11]
         have low:=(pq.sw sw1 (by omega)).below g3
         have out:=sw1.out (by omega) (k:=a-1) (by omega)
         refine ih (b-m) _ _ ⟨m,b,L,w1,w2,rfl,by simp [h0],by simp,by simp [h2],by simp [h3],by simp [h8],by simp [h9],zs,sw.trans (sw1.mono l1 l3),(pq.sw sw1 (by omega)).eq ⟨m1,m2⟩ (fun k k1 k2=>?_) f1 f2,o2,c.trans c2⟩ (by omega)
         have:=low k k1 (by omega);omega
       ·simp [h0,h1,h2,h3,h8,h9,h11,g3]
        refine rest _ _ ?_
        exact ⟨rfl,by simp [h0],by simp [h1],by simp [h2],by simp [h3],by simp [h10]⟩
      case rest4=>
       rintro _ t ⟨rfl,h0,h1,h2,h3,h10⟩
       refine Qd (Qa6 v ys e a b p o hp (by omega) (by omega) hf) ?_
       rintro _ H2 ⟨m,d,rfl,m1,m2,zs,sw1,⟨f1,f2⟩,o2,c2,k2⟩
       have pq2:=pq.sw sw1 (by omega)
       have len2:=sw1.len
       obtain ⟨r1,hr1⟩:∃r1,r1=m-a:=⟨_,rfl⟩
       obtain ⟨r2,hr2⟩:∃r2,r2=b-m:=⟨_,rfl⟩
       obtain ⟨mm,hmm⟩:∃mm,mm=m+1:=⟨_,rfl⟩
       have e6:∀[Inhabited Unit],IntKind.i64.wrap ((m:Int)-a)=(r1:Int):=by intro _;rw [w64 (by omega) (by omega)];omega
       have e7:∀[Inhabited Unit],IntKind.i64.wrap ((b:Int)-m)=(r2:Int):=by intro _;rw [w64 (by omega) (by omega)];omega
       have e8:∀[Inhabited Unit],IntKind.i64.wrap ((m:Int)+1)=(mm:Int):=by intro _;rw [w64 (by omega) (by omega)];omega
       have f1':∀k,a≤k→k<m→G zs k≤G zs m:=fun k k1 k2=>Int.le_of_lt (f1 k k1 k2)
       have cc:=c.trans c2
       have q8:∀[Inhabited Unit],IntKind.i64.wrap ((n1:Int)/8)=(n1/8:Nat):=by intro _;rw [w64 (by omega) (by omega)];omega
       obtain ⟨n8,hn8⟩:∃n8,n8=n1/8:=⟨_,rfl⟩
       rw [← hn8] at q8
       simp [h0,h1,h2,h3,h10,e6,e7,e8,q8]
       refine Qc ?_ ?_<;>intro g7
       ·simp [h0,h1,h2,h3,h10]
        refine Qd (IH (m-a) (by omega) H2 v zs e a m L o2 (Nat.le_refl _) (by omega) (by omega) (by omega) (fun q0 k k1 k2=>pq2.below q0 k k1 (by omega)) hf (by have:=cc.1;omega)) ?_
        rintro _ H3 ⟨ws,sw3,sr3,o3,c3⟩
        simp [h0,h1,h2,h3,h10,e8]
        have hbz:m≤zs.length:=by omega
        have wm:G ws m=G zs m:=sw3.out hbz (.inr (Nat.le_refl _))
        refine ih (b-mm) _ _ ⟨mm,b,L,decide (n8≤r1),d,rfl,by simp [h0],by simp,by simp [h2],by simp [h3],by simp,by simp,ws,(sw.trans (sw1.mono l1 l3)).trans (sw3.mono l1 (by omega)),?_,o3,cc.trans c3⟩ (by omega)
        rw [hmm]
        refine (pq2.sw (sw3.mono (Nat.le_refl _) (by omega)) (by omega)).goRight ⟨m1,m2⟩ sr3 ?_ (fun k k1 k2=>?_)
        ·rw [wm];exact sw3.all hbz (p:=fun y=>y≤G zs m) f1'
        ·rw [wm,sw3.out hbz (.inr (by omega))];exact f2 k k1 k2
       ·simp [h0,h1,h2,h3,h10,e8]
        refine Qd (IH (b-mm) (by omega) H2 v zs e mm b L o2 (Nat.le_refl _) (by omega) (by omega) (by omega) (fun q0 k k1 k2=>by rw [show mm-1=m by omega];exact f2 k (by omega) k2) hf (by have:=cc.1;omega)) ?_
        rintro _ H3 ⟨ws,sw3,sr3,o3,c3⟩
        simp [h0,h1,h2,h3,h10,e8]
        have hbz:b≤zs.length:=by omega
        have wm:G ws m=G zs m:=sw3.out hbz (.inl (by omega))
        refine ih (m-a) _ _ ⟨a,m,L,decide (n8≤r2),d,rfl,by simp [h0],by simp [h1],by simp,by simp [h3],by simp,by simp,ws,(sw.trans (sw1.mono l1 l3)).trans (sw3.mono (by omega) l3),?_,o3,cc.trans c3⟩ (by omega)
        refine (pq2.sw (sw3.mono (by omega) (Nat.le_refl _)) (by omega)).goLeft ⟨m1,m2⟩ (hmm▸sr3) (fun k k1 k2=>?_) (fun k k1 k2=>?_)
        ·rw [wm,sw3.out hbz (.inl (by omega))];exact f1' k k1 k2
        ·rw [wm];exact sw3.all hbz (p:=fun y=>G zs m≤y) (fun k k1 k2=>f2 k (by omega) k2) k (by omega) k2
theorem Au {xs ys:List Int} (h1:xs.Pairwise (·≤·)) (h2:ys.Pairwise (·≤·)) (h:xs.Perm ys):xs=ys:=
 List.Perm.eq_of_pairwise (le:=(·≤·)) (fun a b _ _ h1 h2=>Int.le_antisymm h1 h2) h1 h2 h
def isort (xs:List Int):List Int:=xs.mergeSort (fun a b=>decide (a≤b))
theorem Tf (xs:List Int):(isort xs).Perm xs:=List.mergeSort_perm xs _
theorem Lv (xs:List Int):(isort xs).Pairwise (·≤·):=by
 have:=List.pairwise_mergeSort (le:=fun a b:Int=>decide (a≤b)) (fun a b c h1 h2=>by simp at *;omega) (fun a b=>by simp;omega) xs
 exact this.imp (fun h=>by simpa using h)
theorem Mb (xs:List Int):(isort xs).length=xs.length:=(Tf xs).length_eq
theorem Qb6 (v:Value) (xs:List Int) (e:TypeId) (h:Ow Fl.int e H v xs) (hl:xs.length≤1073741824) (hf:∀i∈ids v,frz≤i) (hF:frz≤H.length) :
 wp (vcall C frz 71 [v] H) (fun _ H'=>Ow Fl.int e H' v (isort xs)∧Chg H H' (ids v)):=by
 rw [Qa (fn:=Tryz.f71) Tryz.func71 rfl (by kernel_rfl) rfl]
 have e1:∀[Inhabited Unit],IntKind.u64.wrap (xs.length:Int)=(xs.length:Int):=by intro _;exact w64u (by omega) (by omega)
 simp [h.rd.len,e1]
 refine Qd (zi xs.length (by omega)) ?_
 rintro _ H0 ⟨hH,n,rfl,_⟩
 rw [hH]
 simp
 have:=Qef (frz:=frz) xs.length H v xs e 0 xs.length n h (by omega) (by omega) (Nat.le_refl _) hl (fun h=>by omega) hf hF
 refine Qd (by simpa using this) ?_
 rintro _ H1 ⟨ys,sw,sr,o,c⟩
 simp
 have hys:ys=isort xs:=by
  have hp:=sw.perm (Nat.le_refl _)
  rw [← sw.len] at sr
  exact Au sr.pairwise (Lv xs) (hp.trans (Tf xs).symm)
 subst hys
 exact ⟨o,c⟩
end Go.Proofs.YtaldglgobgjeaaaGreat.V
set_option linter.all false
namespace Go.Proofs.YtaldglgobgjeaaaGreat.V
open Go Go.VM Go.Proofs
set_option maxRecDepth 10000
variable {frz:Nat} {H:Heap} {v:Value} {xs ys:List Int} {e:TypeId}
def dk (xs:List Int):Nat→List Int
 | 0=>[]
 | j+1=>if 0<j∧G xs (j-1)=G xs j then dk xs j else dk xs j++[G xs j]
def compact (xs:List Int):List Int:=dk xs xs.length
theorem Ll {xs:List Int} {j:Nat} (h:j<xs.length):xs.take (j+1)=xs.take j++[G xs j]:=by rw [List.take_succ_eq_append_getElem h,Wr h]
theorem Mg {xs:List Int} (hs:xs.Pairwise (·≤·)):∀j,j≤xs.length→(dk xs j).Pairwise (· < ·)∧(∀x,x∈dk xs j↔x∈xs.take j)
 | 0,_=>by simp [dk]
 | j+1,hj=>by
  obtain ⟨h1,h2⟩:=Mg hs j (by omega)
  have hjl:j<xs.length:=by omega
  rw [Ll hjl]
  have mem_le:∀x∈xs.take j,∃i,i<j∧x=G xs i∧(i<j-1→x≤G xs (j-1))∧x≤G xs j:=by
   intro x hx
   obtain ⟨i,hi,rfl⟩:=List.mem_iff_getElem.1 hx
   simp at hi
   rw [List.getElem_take]
   refine ⟨i,by omega,(Wr (by omega)).symm,fun h=>?_,?_⟩
   ·rw [Wr (by omega)];exact List.pairwise_iff_getElem.1 hs i (j-1) (by omega) (by omega) (by omega)
   ·rw [Wr hjl];exact List.pairwise_iff_getElem.1 hs i j (by omega) (by omega) (by omega)
  unfold dk
  split
  ·rename_i hc
   refine ⟨h1,fun x=>?_⟩
   rw [h2,List.mem_append,List.mem_singleton]
   refine ⟨.inl,fun hh=>hh.elim id fun hx=>?_⟩
   rw [hx,← hc.2,Wr (by omega),← List.getElem_take (j:=j) (h:=by simp;omega)]
   exact List.getElem_mem _
  ·rename_i hc
   refine ⟨?_,fun x=>by rw [List.mem_append,List.mem_append,h2]⟩
   rw [List.pairwise_append]
   refine ⟨h1,by simp,fun x hx y hy=>?_⟩
   rw [List.mem_singleton.1 hy]
   obtain ⟨i,hi,he,hl,hle⟩:=mem_le x ((h2 x).1 hx)
   by_cases hij:i=j-1
   ·have h0:0<j:=by omega
    have:G xs (j-1)≠G xs j:=fun hh=>hc ⟨h0,hh⟩
    rw [hij] at he
    omega
   ·have h3:=hl (by omega)
    have h0:0<j:=by omega
    have:G xs (j-1)≠G xs j:=fun hh=>hc ⟨h0,hh⟩
    have h4:G xs (j-1)≤G xs j:=by
     rw [Wr (by omega),Wr hjl];exact List.pairwise_iff_getElem.1 hs (j-1) j (by omega) (by omega) (by omega)
    omega
theorem Px {xs:List Int} (hs:xs.Pairwise (·≤·)):(compact xs).Pairwise (· < ·)∧∀x,x∈compact xs↔x∈xs:=by
 obtain ⟨h1,h2⟩:=Mg hs xs.length (Nat.le_refl _)
 exact ⟨h1,fun x=>by rw [compact,h2,List.take_length]⟩
theorem mh (o:Ow Fl.int 3 H v xs) (h0:0<xs.length) {l:Nat} (hl:l≤xs.length):∃z,∀(H':Heap) (ys:List Int),Ow Fl.int 3 H' v ys→ys.length=xs.length→
 vslice Tryz.prog H' 26 (some (.int .i64 (l:Nat))) none v=some z∧Ow Fl.int 3 H' z (ys.drop l)∧ids z=ids v:=by
 rcases o with ⟨_,rfl⟩|⟨id,off,r,rfl,k2,k3,k4,k5,k6⟩
 ·simp at h0
 ·refine ⟨.slice (some ⟨id,off+l*1,some r.gen⟩) (xs.length-l) 0,fun H' ys o' hlen=>?_⟩
  obtain ⟨z',h1,h2,h3⟩:=o'.slice (P:=Tryz.prog) (ty:=26) (lo:=some (.int .i64 (l:Int))) (hi:=none) (l:=l) (u:=ys.length) (by simp) rfl rfl (by omega) (Nat.le_refl _)
  have e:(ys.drop l).take (ys.length-l)=ys.drop l:=List.take_of_length_le (by simp)
  rw [e] at h2
  have hz:z'=.slice (some ⟨id,off+l*1,some r.gen⟩) (xs.length-l) 0:=by
   rcases o' with ⟨hv,_⟩|⟨id',off',r',hv,q2,q3,q4,q5,q6⟩
   ·cases hv
   ·injection hv with hv1 hv2
    injection hv1 with hv1
    injection hv1 with i1 i2 i3
    injection i3 with i3
    subst i1 i2
    have hle:(l:Int)≤(xs.length:Int):=by omega
    simp [vslice,VM.look,q2,i3,vbound,q5,hle] at h1
    simp [← h1,i3]
  rw [← hz]
  exact ⟨h1,h2,h3⟩
theorem qz (o:Ow Fl.int 3 H v ys) (h0:0<ys.length) {l:Nat} (hl:l≤ys.length) {z:Value} (hz:vslice Tryz.prog H 26 (some (.int .i64 (l:Nat))) none v=some z) (hf:∀i∈ids v,frz≤i) :
 ∃H' zs,vclear Tryz.prog frz H 26 z=some (undef,H')∧zs.length=ys.length∧zs.take l=ys.take l∧Ow Fl.int 3 H' v zs∧Chg H H' (ids v):=by
 rcases o with ⟨_,rfl⟩|⟨id,off,r,rfl,k2,k3,k4,k5,k6⟩
 ·simp at h0
 ·have hle:(l:Int)≤(ys.length:Int):=by omega
  simp [vslice,VM.look,k2,vbound,k5,hle] at hz
  subst hz
  have hfr:frz≤id:=hf id (by simp)
  have hn:Fl.int.n=1:=rfl
  rw [hn] at k3 k4
  have hroom:off+l+(ys.length-l)≤r.cells.length:=by omega
  refine ⟨H.set id { r with cells:=VM.splice r.cells (off+l) (List.replicate (ys.length-l) [Value.int .i64 0]).flatten },ys.take l++List.replicate (ys.length-l) 0,?_,by simp;omega,by rw [List.take_append_of_le_length (by simp;omega),List.take_take,Nat.min_self],?_,Qh _ _⟩
  ·simp [vclear,VM.look,k2,hfr,hroom,ones,VM.one]
  ·have hcl:((List.replicate (ys.length-l) [Value.int .i64 0]).flatten).length=ys.length-l:=by simp
   have hlt:id<H.length:=Qu k2
   have hzl:(ys.take l++List.replicate (ys.length-l) (0:Int)).length=ys.length:=by simp;omega
   refine .inr ⟨id,off,{ r with cells:=VM.splice r.cells (off+l) (List.replicate (ys.length-l) [Value.int .i64 0]).flatten },by rw [hzl],by simp [hlt],?_,?_,k5,Y6 k6 (by simp [ones,VM.one])⟩
   ·rw [hzl,hn,X7 k3 k4 (by rw [hcl];omega),Q8,Q8]
    unfold VM.splice
    rw [hcl]
    have e1:(List.map (Value.int .i64) ys).drop (l+(ys.length-l))=[]:=by rw [List.drop_eq_nil_iff];simp;omega
    rw [e1,List.append_nil,List.map_append,List.map_take]
    simp
   ·rw [hzl,hn,Yw (by rw [hcl];omega)];exact k4
end Go.Proofs.YtaldglgobgjeaaaGreat.V
set_option linter.all false
namespace Go.Proofs.YtaldglgobgjeaaaGreat.V
open Go Go.VM Go.Proofs
set_option maxRecDepth 10000
variable {frz:Nat} {H:Heap}
def placeP (p:Int→Bool) (b:List Int):Int:=if b.any p then b.findIdx p else -1
theorem Lb {p:Int→Bool} {b:List Int} {i:Nat} (h:i<b.length) (h1:∀x∈b.take i,p x=false) (h2:p b[i]=true):placeP p b=i:=by
 unfold placeP
 rw [if_pos (List.any_eq_true.2 ⟨b[i],List.getElem_mem h,h2⟩)]
 congr 1
 rw [List.findIdx_eq h]
 refine ⟨h2,fun j hj=>?_⟩
 refine Bool.eq_false_iff.1 ?_ |> fun hh=>by simpa using hh
 exact h1 _ (by rw [List.mem_take_iff_getElem];exact ⟨j,by omega,rfl⟩)
theorem Rb (v f:Value) (p:Int→Bool) (b:List Int) (hI:IsI H v b) (hl:b.length≤1073741824)
 (hf:∀x∈b,vclos (vcall C H.length) f [.int .i64 x] H=some (.bool (p x),H)) :
 vcall C frz 182 [v,f] H=some (.int .i64 (placeP p b),H):=by
 rw [Qa (fn:=Tryz.f182) Tryz.func182 rfl (by kernel_rfl) rfl]
 simp [hI.len]
 refine Z7 (fun n t H'=>∃i:Nat,n=b.length-i∧i≤b.length∧t 0=v∧t 1=f∧t 6=v∧t 7=.int .i64 b.length∧t 8=.int .i64 i∧H'=H∧∀x∈b.take i,p x=false) ?_ (n:=b.length) ⟨0,by simp⟩
 rintro n t H' ⟨i,rfl,hi,h0,h1,h2,h3,h4,rfl,hj⟩ ih
 simp [h0,h1,h2,h3,h4,hI.len]
 refine Q0 _ ?_ ?_<;>intro h5
 ·simp [h0,h1,h2,h3,h4,h5,hI.idx,hI.load,Qx,hf]
  refine Qfn _ ?_ ?_<;>intro h6<;>simp [h0,h1,h2,h3,h4,h6]
  ·rw [Lb h5 hj h6]
  ·refine ih (b.length-(i+1)) _ _ ⟨i+1,rfl,by omega,by simp [h0],by simp [h1],by simp [h2],by simp [h3],?_,rfl,?_⟩ (by omega)
   ·simp;rw [w64 (by omega) (by omega)]
   ·rw [List.take_succ_eq_append_getElem h5]
    intro x hx
    rcases List.mem_append.1 hx with hx|hx
    ·exact hj x hx
    ·rw [List.mem_singleton.1 hx];exact h6
 ·have:i=b.length:=by omega
  subst this
  simp [h0,h1,h2,h3]
  rw [List.take_length] at hj
  rw [placeP,if_neg]
  rw [List.any_eq_true]
  rintro ⟨x,hx,hp⟩
  rw [hj x hx] at hp;cases hp
end Go.Proofs.YtaldglgobgjeaaaGreat.V
set_option linter.all false
namespace Go.Proofs.YtaldglgobgjeaaaGreat.V
open Go Go.VM Go.Proofs
set_option maxRecDepth 10000
variable {frz:Nat} {H:Heap} {v:Value} {xs:List Int}
theorem K7 {p:Int→Bool} {l:List Int} (h:l.any p=false):l.filter (fun x=>!p x)=l:=by
 rw [List.filter_eq_self]
 intro x hx
 cases hp:p x with
 | false=>rfl
 | true=>rw [List.any_eq_true.2 ⟨x,hx,hp⟩] at h;cases h
theorem Ly {p:Int→Bool} {b:List Int} (h:b.any p=true):∃i:Nat,placeP p b=i∧i<b.length∧(∀x∈b.take i,p x=false)∧∀(hi:i<b.length),p b[i]=true:=by
 have hl:b.findIdx p<b.length:=by
  obtain ⟨x,hx,hp⟩:=List.any_eq_true.1 h
  exact List.findIdx_lt_length_of_exists ⟨x,hx,hp⟩
 refine ⟨b.findIdx p,by rw [placeP,if_pos h],hl,fun x hx=>?_,fun hi=>List.findIdx_getElem⟩
 obtain ⟨j,hj,rfl⟩:=List.mem_iff_getElem.1 hx
 rw [List.length_take] at hj
 rw [List.getElem_take]
 have:=List.not_of_lt_findIdx (p:=p) (xs:=b) (i:=j) (by omega)
 simpa using this
theorem Le (v f:Value) (p:Int→Bool) (xs:List Int) (h:Ow Fl.int 3 H v xs) (hl:xs.length≤1073741824) (hf:∀i∈ids v,frz≤i)
 (hc:∀K,Chg H K (ids v)→∀F,∀x∈xs,vclos (vcall C F) f [.int .i64 x] K=some (.bool (p x),K)) :
 wp (vcall C frz 168 [v,f] H) (fun u H'=>Ow Fl.int 3 H' u (xs.filter fun x=>!p x)∧(∀i∈ids u,i∈ids v)∧Chg H H' (ids v)):=by
 rw [Qa (fn:=Tryz.f168) Tryz.func168 rfl (by kernel_rfl) rfl]
 have ix:=fun F=>Rb (frz:=F) v f p xs h.rd.isI hl (fun x hx=>hc H (Chg.refl _) _ x hx)
 simp [ix]
 by_cases g0:xs.any p=true
 rotate_left
 ·have g0':xs.any p=false:=by simpa using g0
  have e:placeP p xs=-1:=by rw [placeP,if_neg g0]
  simp [e]
  rw [K7 g0']
  exact ⟨h,Chg.refl _⟩
 obtain ⟨k0,e,hk0,hb,hat⟩:=Ly g0
 have e':¬((k0:Int)=-1):=by omega
 have w1:∀[Inhabited Unit],IntKind.i64.wrap ((k0:Int)+1)=((k0+1:Nat):Int):=by intro _;rw [w64 (by omega) (by omega)];omega
 have f0:(xs.take (k0+1)).filter (fun x=>!p x)=xs.take k0:=by
  rw [List.take_succ_eq_append_getElem hk0,List.filter_append,List.filter_eq_self.2 (fun x hx=>by rw [hb x hx];rfl)]
  simp [hat hk0]
 simp [e,e']
 refine Qg (fun n t H'=>∃(k j:Nat) (ys:List Int),n=xs.length-j∧j≤xs.length∧k<j∧t 0=v∧t 1=f∧t 5=.int .i64 k∧t 6=.int .i64 j∧ys.length=xs.length∧ys.take k=(xs.take j).filter (fun x=>!p x)∧(∀m,j≤m→G ys m=G xs m)∧
  Ow Fl.int 3 H' v ys∧Chg H H' (ids v)) ?_ (n:=xs.length-(k0+1))
  ⟨k0,k0+1,xs,rfl,by omega,by omega,by simp,by simp,by simp,by simp [w1],rfl,f0.symm,fun m hm=>rfl,h,Chg.refl _⟩
 rintro n t H' ⟨k,j,ys,rfl,hj,hk,t0,t1,t5,t6,hlen,htk,hG,o,ch⟩ ih
 have lz:=o.rd.len (P:=Tryz.prog) (ty:=26) (by simp)
 simp [t0,t1,t5,t6,lz,hlen]
 refine Qc ?_ ?_<;>intro g
 ·have hj':j<xs.length:=by omega
  have hjy:j<ys.length:=by omega
  have hkl:k<ys.length:=by omega
  have e3:∀[Inhabited Unit],IntKind.i64.wrap ((j:Int)+1)=((j+1:Nat):Int):=by intro _;rw [w64 (by omega) (by omega)];omega
  have e4:∀[Inhabited Unit],IntKind.i64.wrap ((k:Int)+1)=((k+1:Nat):Int):=by intro _;rw [w64 (by omega) (by omega)];omega
  have hGx:G xs j=xs[j]:=Wr hj'
  have cl:=fun F=>hc H' ch F (G xs j) (by rw [hGx];exact List.getElem_mem hj')
  have hts:(xs.take (j+1)).filter (fun x=>!p x)=(xs.take j).filter (fun x=>!p x)++(if p (G xs j)=true then [] else [G xs j]):=by
   rw [List.take_succ_eq_append_getElem hj',List.filter_append,hGx]
   cases hpj:p xs[j]<;>simp [hpj]
  generalize hX:G xs j=X at *
  simp [t0,t1,t5,t6,Qs o hjy,Qt o hjy,hG j (Nat.le_refl _),hX,cl]
  cases hp:p X with
  | true=>
   rw [if_pos hp] at hts
   simp [t0,t1,t5,t6]
   refine ih (xs.length-(j+1)) _ _ ⟨k,j+1,ys,rfl,by omega,by omega,by simp [t0],by simp [t1],by simp [t5],by simp [e3],hlen,by rw [hts,List.append_nil];exact htk,fun m hm=>hG m (by omega),o,ch⟩ (by omega)
  | false=>
   rw [if_neg (by rw [hp];simp)] at hts
   obtain ⟨H2,s2,o2,c2,l2⟩:=o.put1 (P:=Tryz.prog) (frz:=frz) rfl (et:=3) (ag:=false) (by simp) hkl (x:=.int .i64 X) (y:=X) rfl rfl rfl hf
   simp [t0,t1,t5,t6,Qs o hkl,s2]
   refine ih (xs.length-(j+1)) _ _ ⟨k+1,j+1,ys.set k X,rfl,by omega,by omega,by simp [t0],by simp [t1],by simp [e4],by simp [e3],by simp [hlen],?_,fun m hm=>?_,o2,ch.trans c2⟩ (by omega)
   ·rw [hts,← htk,List.take_succ_eq_append_getElem (by simpa using hkl),List.getElem_set_self]
    simp [List.take_set_of_le]
   ·have hmk:m≠k:=by omega
    have:G (ys.set k X) m=G ys m:=by simp [G,List.getD_eq_getElem?_getD,List.getElem?_set_ne (Ne.symm hmk)]
    rw [this];exact hG m (by omega)
 ·have hjl:j=xs.length:=by omega
  have hkl:k≤ys.length:=by omega
  have hn:0<ys.length:=by omega
  obtain ⟨y,hy⟩:=mh o hn (l:=k) hkl
  obtain ⟨y1,_,_⟩:=hy H' ys o rfl
  obtain ⟨H2,zs,cl,zl,zt,oz2,c2⟩:=qz o hn hkl y1 hf
  obtain ⟨q,q1,q2,q3⟩:=oz2.slice (P:=Tryz.prog) (ty:=26) (lo:=none) (hi:=some (.int .i64 (k:Int))) (l:=0) (u:=k) (by simp) rfl rfl (Nat.zero_le _) (by omega)
  simp [t0,t1,t5,t6,y1,cl,q1]
  simp only [List.drop_zero,Nat.sub_zero,zt,htk,hjl,List.take_length] at q2
  exact ⟨q2,by rw [q3];exact fun i hi=>hi,ch.trans c2⟩
end Go.Proofs.YtaldglgobgjeaaaGreat.V
set_option linter.all false
namespace Go.Proofs.YtaldglgobgjeaaaGreat.V
open Go Go.VM Go.Proofs
set_option maxRecDepth 10000
variable {frz:Nat} {H:Heap}
def grF:Fl GrD:=⟨3,fun a=>[.int .i64 a.1,.int .i64 a.2.1,.int .i64 a.2.2],fun _=>rfl⟩
@[simp] theorem Qeh:grF.n=3:=rfl
theorem N9 (a:GrD):grF.f a=[.int .i64 a.1,.int .i64 a.2.1,.int .i64 a.2.2]:=rfl
theorem xt (xs:List GrD):ones (cellsOf grF xs)=true:=by
 induction xs with
 | nil=>rfl
 | cons a l ih=>rw [Wa];simp [ih,N9]
theorem Qfb {K:Heap} {e:TypeId} {v:Value} {u:List Bool} (o:Ow Fl.bool e K v u) {j:Nat} (hj:j<u.length):vload Tryz.prog K 4 (elp v j)=some (.bool (u.getD j false)):=by
 rw [o.rd.cell1 (P:=Tryz.prog) rfl (by simp) hj]
 simp [List.getD_eq_getElem?_getD,hj]
theorem wv {x:NetD} {a p:Nat} {u:List Bool}:((reqsN x a p).map Int.ofNat).filter (fun y=>!u.getD (y/2).toNat false)=(freeN x a p u).map Int.ofNat:=by
 rw [List.filter_map]
 unfold freeN
 congr 1
theorem vf {x:NetD} {a p:Nat} {u:List Bool}:∀y∈(freeN x a p u).map Int.ofNat,inR 0 y 9:=fun y hy=>by
 obtain ⟨i,hi,rfl⟩:=List.mem_map.1 hy
 have:=(Pn hi).1
 unfold inR;show (0:Int)≤(i:Int)∧(i:Int)≤9;omega
theorem zc {x:NetD} {a p:Nat} {u:List Bool}:((freeN x a p u).map Int.ofNat).length≤10:=by
 rw [List.length_map]
 have h1:=List.length_filter_le (fun i=>!u.getD (i/2) false) (reqsN x a p)
 have h2:=List.length_filter_le (fun i=>decide (reqN x a i p)) (List.range 10)
 rw [List.length_range] at h2
 unfold freeN;unfold reqsN at h1 ⊢;omega
theorem vy {x:NetD} {a p:Nat} {u:List Bool} (h:0≤pickN x a p u):∃k:Nat,pickN x a p u=k∧k<10:=by
 have:=(Pn (Gt h)).1
 exact ⟨(pickN x a p u).toNat,by omega,this⟩
theorem jm {K:Heap} {e:TypeId} {R:Nat} {u:List Bool} (o:Ow Fl.bool e K (.slice (some ⟨R,0,some 0⟩) 5 0) u) {j:Nat} (hj:j<5):vindexAddr Tryz.prog K 204 (.pointer (some ⟨R,0,some 0⟩)) (.int .i64 (j:Int))=some (elp (.slice (some ⟨R,0,some 0⟩) 5 0) j):=by
 have hl:=Xa o
 have hj':(j:Int)<5:=by omega
 simp only [VM.live] at hl
 unfold vindexAddr
 cases hh:VM.look K ⟨R,0,some 0⟩ with
 | none=>exact absurd hh hl
 | some r=>simp [elp,hj',hh]
theorem Av {K:Heap} {e:TypeId} {R i:Nat} {u:List Bool} (o:Ow Fl.bool e K (.slice (some ⟨R,0,some 0⟩) 5 0) u) (hl:u.length=5) (hi:i<10) :
 vcall C frz 170 [.int .i64 (i:Int),.pointer (some ⟨R,0,some 0⟩)] K=some (.bool (u.getD (i/2) false),K):=by
 rw [Qa (fn:=Tryz.f170) Tryz.func170 rfl (by kernel_rfl) rfl]
 obtain ⟨q,hq⟩:∃q,q=i/2:=⟨_,rfl⟩
 rw [← hq]
 have e4:∀[Inhabited Unit],IntKind.i64.wrap ((i:Int)/2)=(q:Int):=by intro _;rw [w64 (by omega) (by omega)];omega
 have q1:=jm o (j:=q) (by omega)
 have q2:=Qfb o (j:=q) (by omega)
 simp [e4,q1,q2]
theorem jg {v:NetV} {x:NetD} {id a:Nat} {e:TypeId} {tail:List Value} (hr:H[id]? = some ⟨netCells v x++tail,0,e⟩) (o:dNet.Ow H v x) (hx:runOk x) (ha:(a:Int)<cnt x.1.1 x.1.2.1) :
 wp (vcall C frz 130 [.pointer (some ⟨id,0,some 0⟩),.int .i64 a] H) (fun r H'=>Ow grF 149 H' r (grN x a)∧(∀i∈ids r,H.length≤i)∧Chg H H' []):=by
 have ones:=Qk o
 have cr:=Qe x.1.1 x.1.2.1
 have hidl:=Qu hr
 rw [Qa (fn:=Tryz.f130) Tryz.func130 rfl (by kernel_rfl) rfl]
 have oB0:Ow Fl.bool 204 (H++[⟨[],0,149⟩,⟨[.bool false,.bool false,.bool false,.bool false,.bool false],0,204⟩]) (.slice (some ⟨H.length+1,0,some 0⟩) 5 0) (List.replicate 5 false):=Ow.new (D:=Fl.bool) (xs:=List.replicate 5 false) (k:=1) rfl rfl rfl rfl
 have oG0:Ow grF 149 (H++[⟨[],0,149⟩,⟨[.bool false,.bool false,.bool false,.bool false,.bool false],0,204⟩]) (.slice (some ⟨H.length,0,some 0⟩) 0 0) []:=Ow.new0 (D:=grF) (xs:=[]) rfl rfl rfl rfl
 have bp:bplaces Tryz.prog 204=some [(0,1),(1,1),(2,1),(3,1),(4,1)]:=by kernel_rfl
 simp [bp]
 refine Qg (fun n t H'=>∃(p:Nat) (r:Value),n=5-p∧p≤5∧t 0=.pointer (some ⟨id,0,some 0⟩)∧t 1=.int .i64 a∧t 5=r∧t 6=.pointer (some ⟨H.length+1,0,some 0⟩)∧t 7=.int .i64 p∧Chg H H' []∧
  Ow Fl.bool 204 H' (.slice (some ⟨H.length+1,0,some 0⟩) 5 0) (grTo x a p).2∧Ow grF 149 H' r (grTo x a p).1∧(∀j∈ids r,H.length≤j∧j≠H.length+1)) ?_ (n:=5)
  ⟨0,.slice (some ⟨H.length,0,some 0⟩) 0 0,rfl,by omega,by simp,by simp,by simp,by simp,by simp,Chg.app _,oB0,oG0,by simp⟩
 rintro n t H' ⟨p,r,rfl,hp,t0,t1,t5,t6,t7,ch,oB,oG,nG⟩ ih
 simp [t0,t1,t5,t6,t7]
 refine Qc ?_ ?_<;>intro g
 ·have hp':p<5:=by omega
  obtain ⟨l5,gat,gnd,gle⟩:=Vo x a p hp
  have gs:=Zb x a p
  unfold grStep at gs
  have r1:=Qb hr ch (by simp)
  have o1:=Dt.chg (T:=dNet) o ch (by simp)
  have hbl:H.length+1<H'.length:=oB.lt _ (by simp)
  generalize grTo x a p=st at *
  simp [t0,t1,t5,t6,t7]
  refine Qd (Fs r1 o1 hx ha hp') ?_
  rintro L H1 ⟨oL,nL,cL⟩
  have oB1:=oB.chg cL (by simp)
  have oG1:=oG.chg cL (by simp)
  have c1:=ch.trans cL
  simp [t0,t1,t5,t6,t7]
  have hrl:((reqsN x a p).map Int.ofNat).length≤10:=by
   rw [List.length_map]
   have h2:=List.length_filter_le (fun i=>decide (reqN x a i p)) (List.range 10)
   rw [List.length_range] at h2
   exact h2
  refine Qd (Le L _ (fun y=>st.2.getD (y/2).toNat false) _ oL (by omega) (fun i hi=>by have:=nL i hi;have:=ch.1;omega) (fun K hK F y hy=>?_)) ?_
  ·obtain ⟨i,hi,rfl⟩:=List.mem_map.1 hy
   have hi10:i<10:=List.mem_range.1 (List.mem_filter.1 hi).1
   have:=Av (frz:=F) (i:=i) (oB1.chg hK (fun j hj hh=>by have:=nL j hh;simp at hj;omega)) l5 hi10
   simp
   exact this
  rintro U H2 ⟨oU,nU,cU⟩
  have fm:((reqsN x a p).map Int.ofNat).filter (fun y=>!(fun y=>st.2.getD (y/2).toNat false) y)=(freeN x a p st.2).map Int.ofNat:=wv
  rw [fm] at oU
  have c2:=c1.trans' cU (fun i hi=>.inr (by have:=nL i hi;have:=ch.1;omega))
  have oB2:=oB1.chg cU (fun j hj hh=>by have:=nL j hh;simp at hj;omega)
  have lG:=oG.lt
  have oG2:=oG1.chg cU (fun j hj hh=>by have:=nL j hh;have:=lG j hj;omega)
  have r2:=Qb hr c2 (by simp)
  have o2:=Dt.chg (T:=dNet) o c2 (by simp)
  unfold netCells at r2
  simp only [List.cons_append,List.nil_append] at r2
  obtain ⟨z,hz⟩:∃z,z=5*a+p:=⟨_,rfl⟩
  have hzl:z<x.2.2.2.2.1.length:=by have:=hx.2.1.2.2.1;omega
  have e1:=@w6 (5*(a:Int)) (by omega)
  have e2:∀[Inhabited Unit],IntKind.i64.wrap (5*(a:Int)+(p:Int))=(z:Int):=by intro _;rw [w64 (by omega) (by omega)];omega
  have rd:=Rd.isI o2.2.2.2.2.1.1.rd
  have q1:=rd.idx (P:=Tryz.prog) (ty:=26) (e:=3) (by simp) (i:=(z:Int)) (by omega) (by omega)
  have q2:=rd.load (P:=Tryz.prog) (e:=3) (by simp) hzl
  simp only [Int.toNat_natCast] at q1 q2
  have hti:inR 0 (x.2.2.2.2.1.getD z 0) 9:=by
   have:x.2.2.2.2.1.getD z 0=x.2.2.2.2.1[z]:=by simp [List.getD_eq_getElem?_getD,hzl]
   rw [this];exact hx.2.2.2.2 _ (List.getElem_mem hzl)
  have ff:=fun F=>Gl (frz:=F) (H:=H2) U _ _ oU.rd.isI (by have:=zc (x:=x) (a:=a) (p:=p) (u:=st.2);omega) vf hti
  have hpk:firstF (x.2.2.2.2.1.getD z 0) ((freeN x a p st.2).map Int.ofNat)=pickN x a p st.2:=by rw [hz];rfl
  rw [hpk] at ff
  generalize x.2.2.2.2.1.getD z 0=T at *
  simp [t0,t1,t5,t6,t7,VM.look,VM.vnil,r2,ones,e1,e2,q1,q2,ff]
  by_cases g2:0≤pickN x a p st.2
  rotate_left
  ·rw [if_neg g2] at gs
   simp [t0,t1,t5,t6,t7,g2]
   refine ih (5-(p+1)) _ _ ⟨p+1,r,rfl,by omega,by simp [t0],by simp [t1],by simp [t5],by simp [t6],?_,c2,by rw [gs];exact oB2,by rw [gs];exact oG2,nG⟩ (by omega)
   simp [t7];rw [w64 (by omega) (by omega)]
  rw [if_pos g2] at gs
  obtain ⟨k,hk,hk10⟩:=vy g2
  rw [hk,Int.toNat_natCast] at gs
  obtain ⟨q,hq⟩:∃q,q=k/2:=⟨_,rfl⟩
  rw [← hq] at gs
  have e4:∀[Inhabited Unit],IntKind.i64.wrap ((k:Int)/2)=(q:Int):=by intro _;rw [w64 (by omega) (by omega)];omega
  have ai:=jm oB2 (j:=q) (by omega)
  obtain ⟨H3,s3,oB3,c3,l3⟩:=oB2.put1 (P:=Tryz.prog) (frz:=H.length) rfl (et:=4) (ag:=false) (by simp) (j:=q) (x:=.bool true) (y:=true) (by omega) rfl rfl rfl (fun i hi=>by simp at hi;omega)
  have c03:=c2.trans' c3 (fun i hi=>.inr (by simp at hi;omega))
  have oG3:=oG2.chg c3 (fun j hj hh=>(nG j hj).2 (by simpa using hh))
  have l03:=c03.1
  obtain ⟨r',H4,hap,oG4,c4,n4⟩:=oG3.push (P:=Tryz.prog) (frz:=H.length) (ty:=145) (a:=(a,p,k)) (by simp) rfl (by omega) (fun i hi=>(nG i hi).1)
  simp only [N9] at hap
  have oB4:=oB3.chg c4 (fun j hj hh=>by simp at hj;exact (nG j hh).2 hj)
  have l2:=c2.1
  have l13:=ch.1
  have lcU:=cU.1
  have lcL:=cL.1
  simp [-Qp,-Q6,t0,t1,t5,t6,t7,hk,e4,ai,s3,hap]
  refine ih (5-(p+1)) _ _ ⟨p+1,r',rfl,by omega,by simp [t0],by simp [t1],by simp,by simp [t6],?_,c03.trans' c4 (fun i hi=>.inr (nG i hi).1),by rw [gs];exact oB4,by rw [gs];exact oG4,fun j hj=>?_⟩ (by omega)
  ·simp [t7];rw [w64 (by omega) (by omega)]
  ·rcases n4 j hj with h1|h1
   ·exact nG j h1
   ·omega
 ·have:p=5:=by omega
  subst this
  simp [t0,t1,t5,t6,t7]
  exact ⟨oG,fun i hi=>(nG i hi).1,ch⟩
theorem Aq (x:NetD) (n:Nat):(allTo x n).length≤5*n:=(Zn x n).2.2
noncomputable def enterTo (x:NetD) (n:Nat):List Nat:=(List.range n).filter fun k=>entersN x k
theorem Lw (x:NetD) (n:Nat):enterTo x (n+1)=if entersN x n then enterTo x n++[n] else enterTo x n:=by
 unfold enterTo;rw [List.range_succ,List.filter_append]
 by_cases h:entersN x n<;>simp [h]
theorem I2 (x:NetD) (n:Nat):(enterTo x n).length≤n:=by
 have:=List.length_filter_le (fun k=>decide (entersN x k)) (List.range n)
 rw [List.length_range] at this;exact this
theorem Jf {v:NetV} {x:NetD} {id:Nat} {e:TypeId} {tail:List Value} (hr:H[id]? = some ⟨netCells v x++tail,0,e⟩) (o:dNet.Ow H v x) (hx:runOk x) :
 wp (vcall C frz 98 [.pointer (some ⟨id,0,some 0⟩)] H) (fun r H'=>Ow grF 149 H' r (allN x)∧(∀i∈ids r,H.length≤i)∧Chg H H' []):=by
 have ones:=Qk o
 obtain ⟨N,hN⟩:∃N:Nat,cnt x.1.1 x.1.2.1=N:=⟨(cnt x.1.1 x.1.2.1).toNat,by have:=Qe x.1.1 x.1.2.1;omega⟩
 have hN2:N≤16:=by have:=Qe x.1.1 x.1.2.1;omega
 have hall:allN x=allTo x N:=by unfold allN;rw [hN,Int.toNat_natCast]
 have hidl:=Qu hr
 rw [Qa (fn:=Tryz.f98) Tryz.func98 rfl (by kernel_rfl) rfl]
 have hr':=hr
 unfold netCells at hr'
 simp only [List.cons_append,List.nil_append] at hr'
 have rd:=(RdL.app (L:=[⟨[],0,149⟩]) o.2.2.2.2.2.1.1.rd)
 have ll:=rd.1.len (P:=Tryz.prog) (ty:=36) (by simp)
 rw [rd.2.1] at ll
 have hsl:x.2.2.2.2.2.1.length=N:=by have:=hx.2.1.2.2.2.1;omega
 rw [hsl] at ll
 rw [hall]
 simp [VM.look,VM.vnil,hr',Qn hr',ones,ll]
 refine Qg (fun n t H'=>∃(i:Nat) (r:Value),n=N-i∧i≤N∧t 0=.pointer (some ⟨id,0,some 0⟩)∧t 3=r∧t 10=.int .i64 N∧t 11=.int .i64 i∧Chg H H' []∧Ow grF 149 H' r (allTo x i)∧(∀j∈ids r,H.length≤j)) ?_ (n:=N)
  ⟨0,.slice (some ⟨H.length,0,some 0⟩) 0 0,rfl,by omega,by simp,by simp,by simp,by simp,Chg.app _,Ow.new0 (D:=grF) (xs:=[]) rfl rfl rfl rfl,by simp⟩
 rintro n t H' ⟨i,r,rfl,hi,t0,t3,t10,t11,ch,oo,nr⟩ ih
 simp [t0,t3,t10,t11]
 refine Qc ?_ ?_<;>intro g
 ·have hi':i<N:=by omega
  have r1:=Qb hr ch (by simp)
  have o1:=Dt.chg (T:=dNet) o ch (by simp)
  simp [t0,t3,t10,t11]
  refine Qd (jg r1 o1 hx (a:=i) (by omega)) ?_
  rintro L H1 ⟨oL,nL,cL⟩
  have l1:=ch.1
  have l2:=cL.1
  have al:=Aq x i
  have gl:=nf x i
  obtain ⟨r',H2,hap,o2,c2,n2⟩:=(oo.chg cL (by simp)).append (P:=Tryz.prog) (frz:=H.length) (ty:=145) oL.rd (by simp) (xt _) (by omega) nr
  have asu:=Vy x i
  simp [-Qp,-Q6,t0,t3,t10,t11,hap]
  refine ih (N-(i+1)) _ _ ⟨i+1,r',rfl,by omega,by simp [t0],by simp,by simp [t10],?_,(ch.trans cL).trans' c2 (fun j hj=>.inr (nr j hj)),by rw [asu];exact o2,fun j hj=>?_⟩ (by omega)
  ·simp [t11];rw [w64 (by omega) (by omega)]
  ·rcases n2 j hj with h1|h1
   ·exact nr j h1
   ·omega
 ·have:i=N:=by omega
  subst this
  simp [t0,t3,t10,t11]
  exact ⟨oo,nr,ch⟩
theorem En {v:NetV} {x:NetD} {id:Nat} {e:TypeId} {tail:List Value} (hr:H[id]? = some ⟨netCells v x++tail,0,e⟩) (o:dNet.Ow H v x) (hx:runOk x) :
 wp (vcall C frz 99 [.pointer (some ⟨id,0,some 0⟩)] H) (fun r H'=>Ow Fl.int 3 H' r ((enterN x).map Int.ofNat)∧(∀i∈ids r,H.length≤i)∧Chg H H' []):=by
 have ones:=Qk o
 obtain ⟨N,hN⟩:∃N:Nat,cnt x.1.1 x.1.2.1=N:=⟨(cnt x.1.1 x.1.2.1).toNat,by have:=Qe x.1.1 x.1.2.1;omega⟩
 have hN2:N≤16:=by have:=Qe x.1.1 x.1.2.1;omega
 have hall:enterN x=enterTo x N:=by unfold enterN enterTo;rw [hN,Int.toNat_natCast]
 have hidl:=Qu hr
 rw [Qa (fn:=Tryz.f99) Tryz.func99 rfl (by kernel_rfl) rfl]
 unfold netCells at hr
 simp only [List.cons_append,List.nil_append] at hr
 have rd:=(RdL.app (L:=[⟨[],0,3⟩]) o.2.2.2.2.2.1.1.rd)
 have ll:=rd.1.len (P:=Tryz.prog) (ty:=36) (by simp)
 rw [rd.2.1] at ll
 have hsl:x.2.2.2.2.2.1.length=N:=by have:=hx.2.1.2.2.2.1;omega
 have hbl:x.2.2.1.length=10*N:=by have:=hx.2.1.1;omega
 rw [hsl] at ll
 rw [hall]
 simp [VM.look,VM.vnil,hr,Qn hr,ones,ll]
 refine Qg (fun n t H'=>∃(i:Nat) (r:Value),n=N-i∧i≤N∧t 0=.pointer (some ⟨id,0,some 0⟩)∧t 3=r∧t 10=v.2.2.2.2.2.1.1∧t 11=.int .i64 N∧t 12=.int .i64 i∧Chg H H' []∧Ow Fl.int 3 H' r ((enterTo x i).map Int.ofNat)∧(∀j∈ids r,H.length≤j)) ?_ (n:=N)
  ⟨0,.slice (some ⟨H.length,0,some 0⟩) 0 0,rfl,by omega,by simp,by simp,by simp,by simp,by simp,Chg.app _,Ow.new0 (D:=Fl.int) (xs:=[]) rfl rfl rfl rfl,by simp⟩
 rintro n t H' ⟨i,r,rfl,hi,t0,t3,t10,t11,t12,ch,oo,nr⟩ ih
 simp [t0,t3,t10,t11,t12]
 refine Qc ?_ ?_<;>intro g
 rotate_left
 ·have:i=N:=by omega
  subst this
  simp [t0,t3,t10,t11,t12]
  exact ⟨oo,nr,ch⟩
 have hi':i<N:=by omega
 have r1:=Qb hr ch (by simp)
 have o1:=Dt.chg (T:=dNet) o ch (by simp)
 have his:i<x.2.2.2.2.2.1.length:=by omega
 obtain ⟨u,a1,a2,a3,a4⟩:=Xi o1.2.2.2.2.2.1.1.rd (ty:=36) (e:=109) (by simp) (by simp) his
 have la:=a4.len (P:=Tryz.prog) (ty:=109) (by simp)
 have qa:VM.one u=true∧u.cells=#[u]:=⟨a4.one',a4.cells⟩
 have hgd:x.2.2.2.2.2.1.getD i []=x.2.2.2.2.2.1[i]:=by simp [List.getD_eq_getElem?_getD,his]
 have hes:=Lw x i
 have hel:=I2 x i
 simp [t0,t3,t10,t11,t12,a2,a3]
 rw [Qf (h:=by kernel_rfl)]
 by_cases g0:x.2.2.2.2.2.1[i]=[]
 ·have hne:¬entersN x i:=fun k=>k.1 (by rw [hgd];exact g0)
  rw [if_neg hne] at hes
  rw [g0] at la
  simp [t0,t3,t10,t11,t12,la]
  refine ih (N-(i+1)) _ _ ⟨i+1,r,rfl,by omega,by simp [t0],by simp [t3],by simp [t10],by simp [t11],?_,ch,by rw [hes];exact oo,nr⟩ (by omega)
  simp [t12];rw [w64 (by omega) (by omega)]
 have g0':0<x.2.2.2.2.2.1[i].length:=List.length_pos_iff.2 g0
 obtain ⟨z0,f1,f2,f3,c1,c2,c3,_⟩:=front a4 g0
 obtain ⟨en1,en2,en3⟩:=Sx hx (k:=i) (by rw [hgd];exact g0)
 have hsh:srcHead x i=headL x.2.2.2.2.2.1[i]:=by unfold srcHead;rw [hgd]
 have hcl:=en1.2
 rw [hsh] at en2 hcl
 generalize headL x.2.2.2.2.2.1[i]=f at *
 have bA:∀F,vcall C F 101 [.int .i64 (i:Int),.int .i64 4,.int .i64 f.2.2.1] H'=some (.int .i64 (entAt x i:Int),H'):=fun F=>by
  rw [Ub,if_pos ⟨⟨by omega,by omega⟩,⟨by omega,by omega⟩,hcl⟩,en2];congr 3
 have key:entersN x i↔(x.2.2.1.getD (entAt x i) []).length<3:=⟨fun k=>k.2,fun k=>⟨by rw [hgd];exact g0,k⟩⟩
 have hzl:entAt x i<x.2.2.1.length:=by unfold inR at hcl;omega
 generalize entAt x i=z at *
 obtain ⟨u',b1,b2,b3,b4⟩:=Xi o1.2.2.1.1.rd (ty:=36) (e:=109) (by simp) (by simp) hzl
 have lb:=b4.len (P:=Tryz.prog) (ty:=109) (by simp)
 have hgz:x.2.2.1.getD z []=x.2.2.1[z]:=by simp [List.getD_eq_getElem?_getD,hzl]
 have qb:VM.one u'=true∧u'.cells=#[u']:=⟨b4.one',b4.cells⟩
 rw [hgz] at key
 simp [-vfieldAddr,Vk,t0,t3,t10,t11,t12,la,g0',VM.look,VM.vnil,r1,ones,z0,f2,c2,bA,b2,b3,lb]
 refine Qc ?_ ?_<;>intro g1
 ·rw [if_pos (key.2 (by omega))] at hes
  obtain ⟨r',H2,hap,o2,c2',n2⟩:=oo.push (P:=Tryz.prog) (frz:=H.length) (ty:=26) (a:=(i:Int)) (by simp) rfl (by simp;omega) nr
  simp only [Fl.int_f] at hap
  have l0:=ch.1
  simp [t0,t3,t10,t11,t12,hap]
  refine ih (N-(i+1)) _ _ ⟨i+1,r',rfl,by omega,by simp [t0],by simp,by simp [t10],by simp [t11],?_,ch.trans' c2' (fun j hj=>.inr (nr j hj)),?_,fun j hj=>?_⟩ (by omega)
  ·simp [t12];rw [w64 (by omega) (by omega)]
  ·rw [hes,List.map_append];exact o2
  ·rcases n2 j hj with h1|h1
   ·exact nr j h1
   ·omega
 ·rw [if_neg (fun k=>by have:=key.1 k;omega)] at hes
  simp [t0,t3,t10,t11,t12]
  refine ih (N-(i+1)) _ _ ⟨i+1,r,rfl,by omega,by simp [t0],by simp [t3],by simp [t10],by simp [t11],?_,ch,by rw [hes];exact oo,nr⟩ (by omega)
  simp [t12];rw [w64 (by omega) (by omega)]
theorem E2 {s:SSD} {j:Nat} (h:j<s.length) (f:List FlitD→List FlitD):upd s j f=s.set j (f s[j]):=by
 unfold upd;rw [List.getD_eq_getElem?_getD,List.getElem?_eq_getElem h];rfl
structure Put (K K3:Heap) (u u':SSV) (s':SSD):Prop where
 hd:u'.1=u.1
 ow:dSS.Ow K3 u' s'
 nd:(dSS.ids u').Nodup
 ids:∀i∈dSS.ids u',i∈dSS.ids u∨K.length≤i
 chg:Chg K K3 (dSS.ids u)
theorem T3 {K:Heap} {u:SSV} {s:SSD} (o:dSS.Ow K u s) {j:Nat} (hj:j<s.length) :
 ∃a,u.2[j]? = some a∧vindexAddr Tryz.prog K 36 u.1 (.int .i64 (j:Int))=some (elp u.1 j)∧vload Tryz.prog K 109 (elp u.1 j)=some a∧Ow flF 144 K a s[j]∧VM.one a=true∧a.cells=#[a]∧VM.live K u.1:=by
 obtain ⟨a,a1,a2,a3,a4⟩:=Xi o.1.rd (ty:=36) (e:=109) (by simp) (by simp) hj
 have oa:=o.1.2.2 j a s[j] a1 (by simp [hj])
 exact ⟨a,a1,a2,a3,oa,a4.one',a4.cells,Xa o.1.1⟩
theorem L9 {K:Heap} {u:SSV} {s:SSD} {j:Nat} {a:Value} (o:dSS.Ow K u s) (nd:(dSS.ids u).Nodup) (hj:j<s.length) (hb:s[j].length+1≤67108864) (hf:∀i∈dSS.ids u,frz≤i) (ha:u.2[j]? = some a) (y:FlitD) :
 ∃a' K2 K3,vappend Tryz.prog frz (K++[⟨flF.f y,0,144⟩]) 109 109 a (.slice (some ⟨K.length,0,some 0⟩) 1 0)=some (a',K2)∧vindexAddr Tryz.prog K2 36 u.1 (.int .i64 (j:Int))=some (elp u.1 j)∧
  vstore Tryz.prog frz K2 109 a' (elp u.1 j)=some K3∧VM.live K2 u.1∧VM.live K3 u.1∧VM.one a'=true∧a'.cells=#[a']∧Chg K K2 (ids a)∧Put K K3 u (u.1,u.2.set j a') (upd s j (·++[y])):=by
 have hj':j<u.2.length:=by rw [o.1.2.1];exact hj
 have ea:u.2[j]=a:=by rw [List.getElem?_eq_getElem hj'] at ha;exact Option.some.inj ha
 have oa:Ow flF 144 K a s[j]:=o.1.2.2 j a _ ha (by simp [hj])
 have hia:∀i∈ids a,i∈dSS.ids u:=fun i hi=>U1 ha hi
 obtain ⟨a',K2,hap,oa',c2,na'⟩:=oa.push (P:=Tryz.prog) (frz:=frz) (ty:=109) (a:=y) (by simp) rfl (by omega) (fun i hi=>hf i (hia i hi))
 have c2':Chg K K2 (ids u.2[j]):=by rw [ea];exact c2
 obtain ⟨K3,hst,oL,c3,ndL,idL,l3⟩:=R9 (frz:=frz) (et:=109) (ag:=false) o.1 nd hj' c2' oa' (by rw [ea];exact na') (fun i hi=>hf i hi) (by simp)
 have dav:∀i∈ids u.1,i∉ids a:=fun i hi hh=>(List.nodup_append.1 nd).2.2 i hi i (List.mem_flatMap.2 ⟨a,List.mem_of_getElem? ha,hh⟩) rfl
 have ol2:=o.1.1.chg c2 dav
 have hsl:=o.1.2.1
 have ix2:=ol2.rd.idx (P:=Tryz.prog) (ty:=36) (e:=109) (by simp) (i:=(j:Int)) (by omega) (by omega)
 simp only [Int.toNat_natCast,Nat.mul_one,show Fl.val.n=1 from rfl] at ix2
 have hup:=E2 hj (·++[y])
 refine ⟨a',K2,K3,hap,ix2,hst,Xa ol2,Xa oL.1,oa'.rd.one',oa'.rd.cells,c2,rfl,?_,ndL,idL,c3⟩
 rw [hup]
 exact Lu oL o.2.1 o.2.2 (by simp;omega)
theorem Qbb {K:Heap} {u:SSV} {s:SSD} {j:Nat} {a:Value} (o:dSS.Ow K u s) (nd:(dSS.ids u).Nodup) (hj:j<s.length) (hne:s[j]≠[]) (hf:∀i∈dSS.ids u,frz≤i) (hfK:frz≤K.length) (ha:u.2[j]? = some a) :
 ∃z a' K2 K3,vload Tryz.prog (K++[⟨[],0,144⟩]) 109 (elp u.1 j)=some a∧vindexAddr Tryz.prog (K++[⟨[],0,144⟩]) 36 u.1 (.int .i64 (j:Int))=some (elp u.1 j)∧
  vslice Tryz.prog (K++[⟨[],0,144⟩]) 109 (some (.int .i64 1)) none a=some z∧
  vappend Tryz.prog frz (K++[⟨[],0,144⟩]) 109 109 (.slice (some ⟨K.length,0,some 0⟩) 0 0) z=some (a',K2)∧vindexAddr Tryz.prog K2 36 u.1 (.int .i64 (j:Int))=some (elp u.1 j)∧
  vstore Tryz.prog frz K2 109 a' (elp u.1 j)=some K3∧VM.live (K++[⟨[],0,144⟩]) u.1∧VM.live K2 u.1∧VM.live K3 u.1∧VM.one a'=true∧a'.cells=#[a']∧Chg K K2 []∧Put K K3 u (u.1,u.2.set j a') (upd s j (List.drop 1)):=by
 have hj':j<u.2.length:=by rw [o.1.2.1];exact hj
 have ea:u.2[j]=a:=by rw [List.getElem?_eq_getElem hj'] at ha;exact Option.some.inj ha
 have o1:=Dt.app (T:=dSS) (L:=[⟨[],0,144⟩]) o
 obtain ⟨a1,h1,h2,h3,oa,h4,h5,h6⟩:=T3 o1 hj
 have e1:a1=a:=by rw [ha] at h1;exact (Option.some.inj h1).symm
 subst e1
 have hsl:=o.1.2.1
 have hpos:=List.length_pos_iff.2 hne
 obtain ⟨z,hz,oz,nz⟩:=oa.slice (P:=Tryz.prog) (ty:=109) (lo:=some (.int .i64 1)) (hi:=none) (l:=1) (u:=s[j].length) (by simp) rfl rfl (by omega) (Nat.le_refl _)
 have et:(s[j].drop 1).take (s[j].length-1)=s[j].drop 1:=List.take_of_length_le (by simp)
 rw [et] at oz
 have hlb:=o.2.2 _ (List.getElem_mem hj)
 have on:Ow flF 144 (K++[⟨[],0,144⟩]) (.slice (some ⟨K.length,0,some 0⟩) 0 0) []:=Ow.new0 (D:=flF) (xs:=[]) rfl rfl rfl rfl
 obtain ⟨a',K2,hap,oa',c2,na'⟩:=on.append (P:=Tryz.prog) (frz:=frz) (ty:=109) oz.rd (by simp) (T4 _) (by simp;omega) (fun i hi=>by simp at hi;omega)
 rw [List.nil_append] at oa'
 have c12:Chg K K2 []:=(Chg.app _).trans' c2 (fun i hi=>.inr (by simp at hi;omega))
 obtain ⟨K3,hst,oL,c3,ndL,idL,l3⟩:=R9 (frz:=frz) (et:=109) (ag:=false) o.1 nd hj' (c12.mono (fun _ h=>by cases h)) oa' (fun i hi=>by
  rcases na' i hi with g|g
  ·right;simp at g;omega
  ·right;simp at g;omega) (fun i hi=>hf i hi) (by simp)
 have ol2:=o.1.1.chg c12 (by simp)
 have ix2:=ol2.rd.idx (P:=Tryz.prog) (ty:=36) (e:=109) (by simp) (i:=(j:Int)) (by omega) (by omega)
 simp only [Int.toNat_natCast,Nat.mul_one,show Fl.val.n=1 from rfl] at ix2
 have hup:=E2 hj (List.drop 1)
 refine ⟨z,a',K2,K3,h3,h2,hz,hap,ix2,hst,h6,Xa ol2,Xa oL.1,oa'.rd.one',oa'.rd.cells,c12,rfl,?_,ndL,idL,c3⟩
 rw [hup]
 exact Lu oL o.2.1 o.2.2 (by simp;omega)
theorem Qaj {K:Heap} {u:SSV} {s:SSD} {j:Nat} {a:Value} (o:dSS.Ow K u s) (nd:(dSS.ids u).Nodup) (hj:j<s.length) (hne:s[j]≠[]) (hf:∀i∈dSS.ids u,frz≤i) (ha:u.2[j]? = some a) :
 ∃z a' K2 K3,vslice Tryz.prog K 109 (some (.int .i64 1)) none a=some z∧
  vappend Tryz.prog frz K 109 109 (.slice none 0 0) z=some (a',K2)∧vindexAddr Tryz.prog K2 36 u.1 (.int .i64 (j:Int))=some (elp u.1 j)∧
  vstore Tryz.prog frz K2 109 a' (elp u.1 j)=some K3∧VM.live K2 u.1∧VM.live K3 u.1∧VM.one a'=true∧a'.cells=#[a']∧Chg K K2 []∧Put K K3 u (u.1,u.2.set j a') (upd s j (List.drop 1)):=by
 have hj':j<u.2.length:=by rw [o.1.2.1];exact hj
 obtain ⟨a1,h1,h2,h3,oa,h4,h5,h6⟩:=T3 o hj
 have e1:a1=a:=by rw [ha] at h1;exact (Option.some.inj h1).symm
 subst e1
 have hsl:=o.1.2.1
 have hpos:=List.length_pos_iff.2 hne
 obtain ⟨z,hz,oz,nz⟩:=oa.slice (P:=Tryz.prog) (ty:=109) (lo:=some (.int .i64 1)) (hi:=none) (l:=1) (u:=s[j].length) (by simp) rfl rfl (by omega) (Nat.le_refl _)
 have et:(s[j].drop 1).take (s[j].length-1)=s[j].drop 1:=List.take_of_length_le (by simp)
 rw [et] at oz
 have hlb:=o.2.2 _ (List.getElem_mem hj)
 have on:Ow flF 144 K (.slice none 0 0) []:=.inl ⟨rfl,rfl⟩
 obtain ⟨a',K2,hap,oa',c12,na'⟩:=on.append (P:=Tryz.prog) (frz:=frz) (ty:=109) oz.rd (by simp) (T4 _) (by simp;omega) (by simp)
 rw [List.nil_append] at oa'
 obtain ⟨K3,hst,oL,c3,ndL,idL,l3⟩:=R9 (frz:=frz) (et:=109) (ag:=false) o.1 nd hj' (c12.mono (fun i h=>by simp at h)) oa' (fun i hi=>by
  rcases na' i hi with g|g
  ·simp at g
  ·exact .inr g) (fun i hi=>hf i hi) (by simp)
 have c12':Chg K K2 []:=c12.mono (fun i h=>by simp at h)
 have ol2:=o.1.1.chg c12' (by simp)
 have ix2:=ol2.rd.idx (P:=Tryz.prog) (ty:=36) (e:=109) (by simp) (i:=(j:Int)) (by omega) (by omega)
 simp only [Int.toNat_natCast,Nat.mul_one,show Fl.val.n=1 from rfl] at ix2
 have hup:=E2 hj (List.drop 1)
 refine ⟨z,a',K2,K3,hz,hap,ix2,hst,Xa ol2,Xa oL.1,oa'.rd.one',oa'.rd.cells,c12',rfl,?_,ndL,idL,c3⟩
 rw [hup]
 exact Lu oL o.2.1 o.2.2 (by simp;omega)
theorem zh {α:Type} {D:Fl α} {e:TypeId} {K:Heap} {v:Value} {xs:List α} (o:Ow D e K v xs) (h:0<xs.length) (j:Nat):VM.vnil K (elp v j)=some (elp v j):=by
 rcases o with ⟨_,rfl⟩|⟨id,off,r,rfl,h2,_⟩
 ·simp at h
 ·simp [elp,VM.vnil,VM.look,h2]
def vw (v:NetV) (h5 h8 h9:List Value):NetV:=(v.1,v.2.1,(v.2.2.1.1,h5),v.2.2.2.1,v.2.2.2.2.1,(v.2.2.2.2.2.1.1,h8),(v.2.2.2.2.2.2.1.1,h9),v.2.2.2.2.2.2.2)
structure NS (H K:Heap) (W:List Nat) (v:NetV) (y:NetD) (h5 h8 h9:List Value):Prop where
 ow:dNet.Ow K (vw v h5 h8 h9) y
 nd:(dNet.ids (vw v h5 h8 h9)).Nodup
 ids:∀i∈dNet.ids (vw v h5 h8 h9),i∈dNet.ids v∨H.length≤i
 chg:Chg H K (W++dNet.ids v)
theorem NS.start {v:NetV} {y:NetD} (W:List Nat) (o:dNet.Ow H v y) (nd:(dNet.ids v).Nodup):NS H H W v y v.2.2.1.2 v.2.2.2.2.2.1.2 v.2.2.2.2.2.2.1.2:=
 ⟨o,nd,fun i hi=>.inl hi,Chg.refl _⟩
theorem NS.other {K K':Heap} {W:List Nat} {v:NetV} {y:NetD} {h5 h8 h9:List Value} {I:List Nat} (n:NS H K W v y h5 h8 h9) (c:Chg K K' I) (hd:∀i∈dNet.ids (vw v h5 h8 h9),i∉I) (hI:∀i∈I,i∈W∨H.length≤i):NS H K' W v y h5 h8 h9:=
 ⟨Dt.chg (T:=dNet) n.ow c hd,n.nd,n.ids,n.chg.trans' c (fun i hi=>(hI i hi).imp (fun h=>List.mem_append_left _ h) id)⟩
theorem NS.step {K K':Heap} {W:List Nat} {v:NetV} {y y':NetD} {h5 h8 h9 h5' h8' h9':List Value} {I:List Nat} (n:NS H K W v y h5 h8 h9) (c:Chg K K' I) (hI:∀i∈I,i∈dNet.ids (vw v h5 h8 h9))
 (o:dNet.Ow K' (vw v h5' h8' h9') y') (nd:(dNet.ids (vw v h5' h8' h9')).Nodup) (hi:∀i∈dNet.ids (vw v h5' h8' h9'),i∈dNet.ids (vw v h5 h8 h9)∨K.length≤i):NS H K' W v y' h5' h8' h9':=
 ⟨o,nd,fun i h=>by
  rcases hi i h with g|g
  ·exact n.ids i g
  ·have:=n.chg.1;right;omega,n.chg.trans' c (fun i h=>(n.ids i (hI i h)).imp (fun h=>List.mem_append_right _ h) id)⟩
theorem NS.buf {K K':Heap} {W:List Nat} {v:NetV} {y:NetD} {h5 h8 h9 h5':List Value} {s':SSD} (n:NS H K W v y h5 h8 h9) (p:Put K K' (v.2.2.1.1,h5) (v.2.2.1.1,h5') s') :
 NS H K' W v (withBuf y s') h5' h8 h9∧(∀i∈dNet.ids (vw v h5' h8 h9),i∈dNet.ids (vw v h5 h8 h9)∨K.length≤i)∧Chg K K' (dNet.ids (vw v h5 h8 h9)):=by
 obtain ⟨a,b,c⟩:=E7 (n:=vw v h5 h8 h9) (u:=(v.2.2.1.1,h5')) n.ow n.nd p.chg p.ow p.nd p.ids
 exact ⟨n.step p.chg (fun i hi=>Yq (n:=vw v h5 h8 h9) i hi) a b c,c,p.chg.mono (fun i hi=>Yq (n:=vw v h5 h8 h9) i hi)⟩
theorem NS.src {K K':Heap} {W:List Nat} {v:NetV} {y:NetD} {h5 h8 h9 h8':List Value} {s':SSD} (n:NS H K W v y h5 h8 h9) (p:Put K K' (v.2.2.2.2.2.1.1,h8) (v.2.2.2.2.2.1.1,h8') s') :
 NS H K' W v (withSrc y s') h5 h8' h9∧(∀i∈dNet.ids (vw v h5 h8' h9),i∈dNet.ids (vw v h5 h8 h9)∨K.length≤i)∧Chg K K' (dNet.ids (vw v h5 h8 h9)):=by
 obtain ⟨a,b,c⟩:=P8 (n:=vw v h5 h8 h9) (u:=(v.2.2.2.2.2.1.1,h8')) n.ow n.nd p.chg p.ow p.nd p.ids
 exact ⟨n.step p.chg (fun i hi=>Zk (n:=vw v h5 h8 h9) i hi) a b c,c,p.chg.mono (fun i hi=>Zk (n:=vw v h5 h8 h9) i hi)⟩
theorem NS.arr {K K':Heap} {W:List Nat} {v:NetV} {y:NetD} {h5 h8 h9 h9':List Value} {s':SSD} (n:NS H K W v y h5 h8 h9) (p:Put K K' (v.2.2.2.2.2.2.1.1,h9) (v.2.2.2.2.2.2.1.1,h9') s') :
 NS H K' W v (withArr y s') h5 h8 h9'∧(∀i∈dNet.ids (vw v h5 h8 h9'),i∈dNet.ids (vw v h5 h8 h9)∨K.length≤i)∧Chg K K' (dNet.ids (vw v h5 h8 h9)):=by
 obtain ⟨a,b,c⟩:=Ek (n:=vw v h5 h8 h9) (u:=(v.2.2.2.2.2.2.1.1,h9')) n.ow n.nd p.chg p.ow p.nd p.ids
 exact ⟨n.step p.chg (fun i hi=>Sz (n:=vw v h5 h8 h9) i hi) a b c,c,p.chg.mono (fun i hi=>Sz (n:=vw v h5 h8 h9) i hi)⟩
theorem NS.own {K:Heap} {W:List Nat} {v:NetV} {y:NetD} {h5 h8 h9:List Value} (n:NS H K W v y h5 h8 h9) (hf:∀i∈dNet.ids (vw v h5 h8 h9),frz≤i) {j:Nat} (hj:j<y.2.2.2.1.length) (z:Int) :
 ∃K',vstore Tryz.prog frz K 3 (.int .i64 z) (elp v.2.2.2.1 j)=some K'∧NS H K' W v (withOwn y (y.2.2.2.1.set j z)) h5 h8 h9∧Chg K K' (dNet.ids (vw v h5 h8 h9)):=by
 obtain ⟨K',s,o,c,l⟩:=n.ow.2.2.2.1.1.put1 (P:=Tryz.prog) (frz:=frz) rfl (et:=3) (ag:=false) (by simp) hj (x:=.int .i64 z) (y:=z) rfl rfl rfl (fun i hi=>hf i (S7 (n:=vw v h5 h8 h9) i hi))
 obtain ⟨a,b,c'⟩:=Fu (n:=vw v h5 h8 h9) (u:=v.2.2.2.1) (s:=y.2.2.2.1.set j z) n.ow n.nd c ⟨o,by have:=n.ow.2.2.2.1.2;simpa using this⟩ (Am (n:=vw v h5 h8 h9) n.nd) (fun i hi=>.inl hi)
 exact ⟨K',s,n.step c (fun i hi=>S7 (n:=vw v h5 h8 h9) i hi) a b c',c.mono (fun i hi=>S7 (n:=vw v h5 h8 h9) i hi)⟩
theorem NS.turn {K:Heap} {W:List Nat} {v:NetV} {y:NetD} {h5 h8 h9:List Value} (n:NS H K W v y h5 h8 h9) (hf:∀i∈dNet.ids (vw v h5 h8 h9),frz≤i) {j:Nat} (hj:j<y.2.2.2.2.1.length) (z:Int) :
 ∃K',vstore Tryz.prog frz K 3 (.int .i64 z) (elp v.2.2.2.2.1 j)=some K'∧NS H K' W v (withTurn y (y.2.2.2.2.1.set j z)) h5 h8 h9∧Chg K K' (dNet.ids (vw v h5 h8 h9)):=by
 obtain ⟨K',s,o,c,l⟩:=n.ow.2.2.2.2.1.1.put1 (P:=Tryz.prog) (frz:=frz) rfl (et:=3) (ag:=false) (by simp) hj (x:=.int .i64 z) (y:=z) rfl rfl rfl (fun i hi=>hf i (V9 (n:=vw v h5 h8 h9) i hi))
 obtain ⟨a,b,c'⟩:=Io (n:=vw v h5 h8 h9) (u:=v.2.2.2.2.1) (s:=y.2.2.2.2.1.set j z) n.ow n.nd c ⟨o,by have:=n.ow.2.2.2.2.1.2;simpa using this⟩ (Ft (n:=vw v h5 h8 h9) n.nd) (fun i hi=>.inl hi)
 exact ⟨K',s,n.step c (fun i hi=>V9 (n:=vw v h5 h8 h9) i hi) a b c',c.mono (fun i hi=>V9 (n:=vw v h5 h8 h9) i hi)⟩
noncomputable def nPop (x:NetD) (i:Nat):NetD:=withBuf x (((allN x).take i).foldl popS x.2.2.1)
noncomputable def nPush (x y:NetD) (i:Nat):NetD:=
 (y.1,y.2.1,((allN x).take i).foldl (pushS x) y.2.2.1,((allN x).take i).foldl (ownS x) y.2.2.2.1,((allN x).take i).foldl turnS y.2.2.2.2.1,y.2.2.2.2.2.1,((allN x).take i).foldl (arrS x) y.2.2.2.2.2.2.1,y.2.2.2.2.2.2.2)
noncomputable def nEnt (x y:NetD) (i:Nat):NetD:=
 (y.1,y.2.1,((enterN x).take i).foldl (entS x) y.2.2.1,y.2.2.2.1,y.2.2.2.2.1,((enterN x).take i).foldl srcS y.2.2.2.2.2.1,y.2.2.2.2.2.2.1,y.2.2.2.2.2.2.2)
theorem mt (x:NetD):stepN x=older (nEnt x (nPush x (nPop x (allN x).length) (allN x).length) (enterN x).length) 1:=by
 unfold nEnt nPush nPop older withBuf
 simp only [List.take_length]
 rfl
def tgI (x:NetD) (g:GrD):Int:=if g.2.1=4 then -1 else (tgt x g.1 g.2.1 (g.2.2%2):Int)
theorem Eb {K:Heap} {e:TypeId} {v:Value} {l:List GrD} (o:Ow grF e K v l) {i:Nat} (hi:i<l.length) :
 vindexAddr Tryz.prog K 145 v (.int .i64 (i:Int))=some (elp v (i*3))∧vload Tryz.prog K 149 (elp v (i*3))=some (.agg (grF.f l[i]).toArray):=by
 have q1:=o.rd.idx (P:=Tryz.prog) (ty:=145) (e:=149) (by simp) (i:=(i:Int)) (by omega) (by omega)
 have q2:=o.rd.load (P:=Tryz.prog) (e:=149) (by simp) hi
 simp only [Int.toNat_natCast,Qeh] at q1 q2
 exact ⟨q1,q2⟩
def StepPost (H:Heap) (v:NetV) (y:NetD) (id:Nat) (e:TypeId) (tail:List Value) (_:Value) (H':Heap):Prop:=
 ∃v':NetV,H'[id]? = some ⟨netCells v' y++tail,0,e⟩∧dNet.Ow H' v' y∧(dNet.ids v').Nodup∧(∀i∈dNet.ids v',i∈dNet.ids v∨H.length≤i)∧Chg H H' (id::dNet.ids v)
theorem Xs {K:Heap} {w:Value} (h:VM.live K w) (hw:∃a n c,w=.slice (some a) n c) (j:Nat):VM.vnil K (elp w j)=some (elp w j):=by
 obtain ⟨a,n,c,rfl⟩:=hw
 simp only [VM.live,live1] at h
 show (match VM.look K a with|some _=>some (Value.pointer (some ⟨a.block,a.off+j,a.spot⟩))|none=>none)=_
 cases hh:VM.look K a with
 | none=>exact absurd hh h
 | some r=>rfl
theorem Kq {α:Type} {D:Fl α} {e:TypeId} {K:Heap} {v:Value} {xs:List α} (o:Ow D e K v xs) (h:0<xs.length):∃a n c,v=.slice (some a) n c:=by
 rcases o with ⟨_,rfl⟩|⟨id,off,r,rfl,h2,_⟩
 ·simp at h
 ·exact ⟨_,_,_,rfl⟩
theorem qr {x:NetD} {i:Nat} (h:i<(allN x).length):nPop x (i+1)=withBuf (nPop x i) (upd (nPop x i).2.2.1 (frm (allN x)[i]) (List.drop 1)):=by
 unfold nPop;rw [Yf _ _ h];rfl
theorem Jv (x:NetD) (i:Nat):(nPop x i).2.2.1.length=x.2.2.1.length:=Wm Ju _ _
theorem ky {x:NetD} {i:Nat} (h:i<(allN x).length):(nPop x i).2.2.1.getD (frm (allN x)[i]) []=x.2.2.1.getD (frm (allN x)[i]) []:=Ba _ _ _ (Ib (Zu x) h)
theorem Qa3 {K:Heap} {e:TypeId} {v:Value} {l:List FlitD} (o:Ow flF e K v l) {i:Nat} (hi:i<l.length) :
 vindexAddr Tryz.prog K 109 v (.int .i64 (i:Int))=some (elp v (i*5))∧vload Tryz.prog K 144 (elp v (i*5))=some (.agg (flF.f l[i]).toArray)∧vfieldAddr Tryz.prog K 144 4 (elp v (i*5))=some (elp v (i*5+4))∧vload Tryz.prog K 4 (elp v (i*5+4))=some (.bool l[i].2.2.2.2):=by
 have q1:=o.rd.idx (P:=Tryz.prog) (ty:=109) (e:=144) (by simp) (i:=(i:Int)) (by omega) (by omega)
 have q2:=o.rd.load (P:=Tryz.prog) (e:=144) (by simp) hi
 have q3:=o.rd.field (P:=Tryz.prog) (s:=144) (f:=4) (o:=4) (n:=1) (ag:=false) (by simp) (j:=i*5) (by omega)
 have q4:=o.rd.cell (P:=Tryz.prog) (e:=4) (by simp) hi (c:=4) (by decide)
 simp only [Int.toNat_natCast,Fd] at q1 q2 q4
 simp only [Yu] at q4
 simp at q4
 exact ⟨q1,q2,q3,q4⟩
theorem C5 {K:Heap} {v:Value} {l:List Int} (h:IsI K v l) {i:Nat} (hi:i<l.length) :
 vindexAddr Tryz.prog K 26 v (.int .i64 (i:Int))=some (elp v i)∧vload Tryz.prog K 3 (elp v i)=some (.int .i64 l[i]):=by
 have q1:=h.idx (P:=Tryz.prog) (ty:=26) (e:=3) (by simp) (i:=(i:Int)) (by omega) (by omega)
 have q2:=h.load (P:=Tryz.prog) (e:=3) (by simp) hi
 simp only [Int.toNat_natCast] at q1
 rw [Qx _ _ hi] at q2
 exact ⟨q1,q2⟩
theorem Dh {x y:NetD} {i:Nat} (h:i<(allN x).length):nPush x y (i+1)=withTurn (withOwn (withArr (withBuf (nPush x y i) (pushS x (nPush x y i).2.2.1 (allN x)[i])) (arrS x (nPush x y i).2.2.2.2.2.2.1 (allN x)[i])) (ownS x (nPush x y i).2.2.2.1 (allN x)[i])) (turnS (nPush x y i).2.2.2.2.1 (allN x)[i]):=by
 unfold nPush;simp only [Yf _ _ h];rfl
theorem qg {x y:NetD} {i:Nat} (h:i<(enterN x).length):nEnt x y (i+1)=withSrc (withBuf (nEnt x y i) (entS x (nEnt x y i).2.2.1 (enterN x)[i])) (srcS (nEnt x y i).2.2.2.2.2.1 (enterN x)[i]):=by
 unfold nEnt;simp only [Yf _ _ h];rfl
theorem Qcg {v:NetV} {x:NetD} {id:Nat} {e:TypeId} {tail:List Value} (hr:H[id]? = some ⟨netCells v x++tail,0,e⟩) (o:dNet.Ow H v x) (nd:(dNet.ids v).Nodup) (hf:∀i∈dNet.ids v,frz≤i) (hfi:frz≤id) (hid:id∉dNet.ids v) (hfH:frz≤H.length) (hx:runOk x) (hb5:allL 67000000 x.2.2.1) (hb9:allL 67000000 x.2.2.2.2.2.2.1) (ht:inR 0 x.2.2.2.2.2.2.2 1000000) :
 wp (vcall C frz 67 [.pointer (some ⟨id,0,some 0⟩)] H) (StepPost H v (stepN x) id e tail):=by
 have ones:=Qk o
 have cr:=Qe x.1.1 x.1.2.1
 have hidl:=Qu hr
 have hlt:=dNet.lt o
 rw [Qa (fn:=Tryz.f67) Tryz.func67 rfl (by kernel_rfl) rfl]
 simp
 refine Qd (Jf hr o hx) ?_
 rintro gl H1 ⟨oG,nG,cG⟩
 simp
 refine Qd (En (Qb hr cG (by simp)) (Dt.chg (T:=dNet) o cG (by simp)) hx) ?_
 rintro el H2 ⟨oE,nE,cE⟩
 simp
 obtain ⟨G,hG⟩:∃G,G=H2++[⟨[],0,144⟩,⟨[],0,3⟩]:=⟨_,rfl⟩
 have oM0:Ow flF 144 G (.slice (some ⟨H2.length,0,some 0⟩) 0 0) []:=by rw [hG];exact Ow.new0 (D:=flF) (xs:=[]) rfl rfl rfl rfl
 have oT0:Ow Fl.int 3 G (.slice (some ⟨H2.length+1,0,some 0⟩) 0 0) []:=by rw [hG];exact Ow.new (D:=Fl.int) (xs:=[]) (k:=1) rfl rfl rfl rfl
 have c2G:Chg H2 G []:=by rw [hG];exact Chg.app _
 have lG:G.length=H2.length+2:=by rw [hG];simp
 have c0G:Chg H G []:=(cG.trans cE).trans c2G
 have l1:=cG.1
 have l2:=cE.1
 have oG1:=(oG.chg cE (by simp)).chg c2G (by simp)
 have oE1:=oE.chg c2G (by simp)
 have hGs:H2++[⟨[],0,144⟩,⟨[],0,3⟩]=G:=hG.symm
 have ltG:∀i∈ids gl,i<H1.length:=oG.lt
 have ltE:∀i∈ids el,i<H2.length:=oE.lt
 have hgl:=oG1.rd.len (P:=Tryz.prog) (ty:=145) (by simp)
 rw [hGs]
 clear hG hGs
 have hL:=Gx x
 have hat:=fun g (hg:g∈allN x)=>Yl hg
 have hnd:=Zu x
 simp [hgl]
 -- the targets
 refine Qg (fun n t H'=>∃(i:Nat) (r:Value),n=(allN x).length-i∧i≤(allN x).length∧t 0=.pointer (some ⟨id,0,some 0⟩)∧t 2=gl∧t 3=el∧t 4=.slice (some ⟨H2.length,0,some 0⟩) 0 0∧t 5=r∧t 25=gl∧t 26=.int .i64 (allN x).length∧t 27=.int .i64 i∧
  Chg G H' [H2.length+1]∧Ow Fl.int 3 H' r (((allN x).take i).map (tgI x))∧(∀j∈ids r,j=H2.length+1∨G.length≤j)) ?_ (n:=(allN x).length)
  ⟨0,.slice (some ⟨H2.length+1,0,some 0⟩) 0 0,rfl,by omega,by simp,by simp,by simp,by simp,by simp,by simp,by simp,by simp,Chg.refl _,oT0,by simp⟩
 rintro n t H' ⟨i,r,rfl,hi,t0,t2,t3,t4,t5,t25,t26,t27,ch,oT,nT⟩ ih
 simp [t0,t2,t3,t4,t5,t25,t26,t27]
 refine Qc ?_ ?_<;>intro g
 ·have hi':i<(allN x).length:=by omega
  have oG2:=oG1.chg ch (fun j hj hh=>by have:=ltG j hj;simp at hh;omega)
  obtain ⟨q1,q2⟩:=Eb oG2 hi'
  obtain ⟨m1,m2,m3,m4⟩:=hat _ (List.getElem_mem hi')
  have htk:(allN x).take (i+1)=(allN x).take i++[(allN x)[i]]:=List.take_succ_eq_append_getElem hi'
  generalize (allN x)[i]=gg at *
  have cH':Chg H H' []:=c0G.trans' ch (fun j hj=>.inr (by simp at hj;omega))
  obtain ⟨c,hc⟩:∃c,c=gg.2.2%2:=⟨_,rfl⟩
  have e3:∀[Inhabited Unit],(gg.2.2:Int).tmod 2=(c:Int):=by intro _;rw [tmod2];omega
  have e3':∀[Inhabited Unit],(gg.2.2:Int)%2=(c:Int):=by intro _;omega
  have bh:=fun F L=>Kz (frz:=F) (H:=H'++L) (a:=gg.1) (p:=gg.2.1) (c:=c) (Qn (Qb hr cH' (by simp)) L) (Dt.app (T:=dNet) (Dt.chg (T:=dNet) o cH' (by simp))) m1 m2 (by omega)
  have ht:(if gg.2.1≠4∧has x.1.1 x.1.2.1 x.1.2.2 (4*(gg.1:Int)+gg.2.1) then (tgt x gg.1 gg.2.1 c:Int) else -1)=tgI x gg:=by
   unfold tgI
   rw [← hc]
   by_cases h4:gg.2.1=4
   ·rw [if_neg (fun k=>k.1 h4),if_pos h4]
   ·rcases m4.2.1 with k|⟨k,_⟩
    ·exact absurd k h4
    ·rw [if_pos ⟨h4,k⟩,if_neg h4]
  rw [ht] at bh
  obtain ⟨T,hT⟩:∃T,T=tgI x gg:=⟨_,rfl⟩
  rw [← hT] at bh
  simp [t0,t2,t3,t4,t5,t25,t26,t27,q1,q2,N9,VM.look,e3,e3',bh]
  have hF:frz≤H'.length:=by have:=cH'.1;omega
  have l3:=ch.1
  obtain ⟨r',H3,hap,oT3,c3,n3⟩:=(oT.app (L:=[⟨[.int .i64 (gg.1:Int),.int .i64 (gg.2.1:Int),.int .i64 (gg.2.2:Int)],0,149⟩])).push (P:=Tryz.prog) (frz:=frz) (ty:=26) (a:=T) (by simp) rfl (by simp;omega) (fun j hj=>by have:=nT j hj;omega)
  simp only [Fl.int_f,List.append_assoc,List.cons_append,List.nil_append,List.length_append,List.length_cons,List.length_nil] at hap
  simp [-Qp,-Q6,t0,t2,t3,t4,t5,t25,t26,t27,hF,hap]
  refine ih ((allN x).length-(i+1)) _ _ ⟨i+1,r',rfl,by omega,by simp [t0],by simp [t2],by simp [t3],by simp [t4],by simp,by simp [t25],by simp [t26],?_,?_,by rw [htk,List.map_append,List.map_cons,List.map_nil,← hT];exact oT3,fun j hj=>?_⟩ (by omega)
  ·simp [t27];rw [w64 (by omega) (by omega)]
  ·exact (ch.trans (Chg.app _)).trans' c3 (fun j hj=>(nT j hj).imp (fun h=>by simp [h]) _root_.id)
  ·rcases n3 j hj with h1|h1
   ·exact nT j h1
   ·simp at h1;omega
 ·have hil:i=(allN x).length:=by omega
  subst hil
  rw [List.take_length] at oT
  clear ih
  have cK0:Chg H H' []:=c0G.trans' ch (fun j hj=>.inr (by simp at hj;omega))
  have oG2:=oG1.chg ch (fun j hj hh=>by have:=ltG j hj;simp at hh;omega)
  have oE2:=oE1.chg ch (fun j hj hh=>by have:=ltE j hj;simp at hh;omega)
  have oM2:=oM0.chg ch (by simp)
  have hgl2:=oG2.rd.len (P:=Tryz.prog) (ty:=145) (by simp)
  have ltT:∀j∈ids r,j<H'.length:=oT.lt
  have nT':∀j∈ids r,H2.length<j:=fun j hj=>by rcases nT j hj with h|h<;>omega
  have hr0:=Qb hr cK0 (by simp)
  have ns0:NS H' H' [H2.length] v x _ _ _:=NS.start [H2.length] (Dt.chg (T:=dNet) o cK0 (by simp)) nd
  have lK0:H2.length+2≤H'.length:=by have:=ch.1;omega
  simp [t0,t2,t3,t4,t5,t25,t26,t27,hgl2]
  -- the pops
  clear ch oT0 oG1 oE1 oM0 hgl c2G
  refine Qg (fun n t K=>∃(i:Nat) (mv:Value) (h5:List Value),n=(allN x).length-i∧i≤(allN x).length∧t 0=.pointer (some ⟨id,0,some 0⟩)∧t 2=gl∧t 3=el∧t 4=mv∧t 5=r∧t 44=gl∧t 45=.int .i64 (allN x).length∧t 46=.int .i64 i∧
   NS H' K [H2.length] v (nPop x i) h5 v.2.2.2.2.2.1.2 v.2.2.2.2.2.2.1.2∧Ow flF 144 K mv (((allN x).take i).map fun g=>headOf x (frm g))∧(∀j∈ids mv,(j=H2.length∨H'.length≤j)∧j∉dNet.ids (vw v h5 v.2.2.2.2.2.1.2 v.2.2.2.2.2.2.1.2))) ?_ (n:=(allN x).length)
   ⟨0,.slice (some ⟨H2.length,0,some 0⟩) 0 0,v.2.2.1.2,rfl,by omega,by simp [t0],by simp [t2],by simp [t3],by simp [t4],by simp [t5],by simp,by simp,by simp,ns0,oM2,fun j hj=>⟨.inl (by simpa using hj),fun hh=>by have:=hlt j hh;simp at hj;omega⟩⟩
  clear t0 t2 t3 t4 t5 t25 t26 t27
  rintro n t K ⟨i,mv,h5,rfl,hi,t0,t2,t3,t4,t5,t44,t45,t46,ns,oM,nM⟩ ih
  simp [t0,t2,t3,t4,t5,t44,t45,t46]
  refine Qc ?_ ?_<;>intro g
  ·have hi':i<(allN x).length:=by omega
   have oG3:=oG2.chg ns.chg (fun j hj hh=>by
    have h1:=ltG j hj
    have h2:=nG j hj
    rcases List.mem_append.1 hh with hh|hh
    ·simp at hh;omega
    ·have:=hlt j hh;omega)
   obtain ⟨q1,q2⟩:=Eb oG3 hi'
   obtain ⟨m1,m2,m3,m4⟩:=hat _ (List.getElem_mem hi')
   have htk:(allN x).take (i+1)=(allN x).take i++[(allN x)[i]]:=List.take_succ_eq_append_getElem hi'
   have hps:=qr hi'
   have hpa:=ky hi'
   generalize (allN x)[i]=gg at *
   obtain ⟨j,hj⟩:∃j,j=frm gg:=⟨_,rfl⟩
   rw [← hj] at hps hpa
   have hjl:j<(nPop x i).2.2.1.length:=by rw [Jv];have:=hx.2.1.1;unfold frm at hj;omega
   have hgd:(nPop x i).2.2.1.getD j []=(nPop x i).2.2.1[j]:=by simp [List.getD_eq_getElem?_getD,hjl]
   have hne:(nPop x i).2.2.1[j]≠[]:=by rw [← hgd,hpa,hj];exact Td m4
   have hhd:headL (nPop x i).2.2.1[j]=headOf x (frm gg):=by rw [← hgd,hpa,hj];rfl
   have e1:=@w6 (10*(gg.1:Int)) (by omega)
   have e2:∀[Inhabited Unit],IntKind.i64.wrap (10*(gg.1:Int)+(gg.2.2:Int))=(j:Int):=by intro _;unfold frm at hj;rw [w64 (by omega) (by omega)];omega
   have hrK:=Qb hr0 ns.chg (fun hh=>by
    rcases List.mem_append.1 hh with hh|hh
    ·simp at hh;omega
    ·exact hid hh)
   unfold netCells at hrK
   simp only [List.cons_append,List.nil_append] at hrK
   obtain ⟨A,hA⟩:∃A,A=K++[⟨[.int .i64 (gg.1:Int),.int .i64 (gg.2.1:Int),.int .i64 (gg.2.2:Int)],0,149⟩]:=⟨_,rfl⟩
   have cA:Chg K A []:=by rw [hA];exact Chg.app _
   have lA:A.length=K.length+1:=by rw [hA];simp
   have bx:A[K.length]? = some ⟨[.int .i64 (gg.1:Int),.int .i64 (gg.2.1:Int),.int .i64 (gg.2.2:Int)],0,149⟩:=by rw [hA];simp
   have nsA:=ns.other cA (by simp) (by simp)
   have oMA:=oM.chg cA (by simp)
   have hrA:=Qb hrK cA (by simp)
   obtain ⟨a,a1,a2,a3,oa,qa1,qa2,lvA⟩:=T3 (u:=(v.2.2.1.1,h5)) nsA.ow.2.2.1 hjl
   obtain ⟨z0,_,_,_,_,_,_,zw⟩:=front oa.rd hne
   rw [hhd] at zw
   have ltM:=oM.lt
   have lcK:=ns.chg.1
   obtain ⟨f,hfe⟩:∃f,f=headOf x (frm gg):=⟨_,rfl⟩
   rw [← hfe] at zw
   obtain ⟨mv',B,hap,oM',cB,nB⟩:=oMA.push (P:=Tryz.prog) (frz:=frz) (ty:=109) (a:=f) (by simp) rfl (by simp;omega) (fun k hk=>by have:=(nM k hk).1;omega)
   have nsB:=nsA.other cB (fun k hk hh=>(nM k hh).2 hk) (fun k hk=>(nM k hk).1.imp (fun h=>by simp [h]) _root_.id)
   have hfn:∀k∈dNet.ids (vw v h5 v.2.2.2.2.2.1.2 v.2.2.2.2.2.2.1.2),frz≤k:=fun k hk=>by
    rcases ns.ids k hk with g|g
    ·exact hf k g
    ·omega
   have lcB:=cB.1
   obtain ⟨z,a',K2,K3,p1,p2,p3,p4,p5,p6,lv1,lv2,lv3,qb1,qb2,c2,pt⟩:=Qbb (frz:=frz) (u:=(v.2.2.1.1,h5)) nsB.ow.2.2.1 (Su (n:=vw v h5 v.2.2.2.2.2.1.2 v.2.2.2.2.2.2.1.2) nsB.nd) hjl hne (fun k hk=>hfn k (Yq (n:=vw v h5 v.2.2.2.2.2.1.2 v.2.2.2.2.2.2.1.2) k hk)) (by omega) a1
   simp only at a2 a3 lvA p1 p2 p5 p6 lv1 lv2 lv3
   obtain ⟨nsC,nC,cC⟩:=nsB.buf pt
   have hw:=Kq nsA.ow.2.2.1.1.1 (by show 0<h5.length;have:=nsA.ow.2.2.1.1.2.1;have h2:(vw v h5 v.2.2.2.2.2.1.2 v.2.2.2.2.2.2.1.2).2.2.1.2=h5:=rfl;rw [h2] at this;omega)
   have hw':∃a n c,v.2.2.1.1=.slice (some a) n c:=hw
   have vA:=Xs lvA hw' j
   have lvB:VM.live B v.2.2.1.1:=Xa nsB.ow.2.2.1.1.1
   have vB:=Xs lvB hw' j
   have v1:=Xs lv1 hw' j
   have v2:=Xs lv2 hw' j
   have aB:vload Tryz.prog B 109 (elp v.2.2.1.1 j)=some a:=by
    obtain ⟨ab,b1,b2,b3,_⟩:=T3 (u:=(v.2.2.1.1,h5)) nsB.ow.2.2.1 hjl
    rw [a1] at b1;cases b1;exact b3
   have hFK:frz≤K.length:=by omega
   have hFA:frz≤A.length:=by omega
   have hFB:frz≤B.length:=by omega
   simp only [Yu] at hap zw
   have hAs:K++[⟨[.int .i64 (gg.1:Int),.int .i64 (gg.2.1:Int),.int .i64 (gg.2.2:Int)],0,149⟩]=A:=hA.symm
   simp [t0,t2,t3,t4,t5,t44,t45,t46,q1,q2,N9]
   rw [hAs]
   clear hA hAs
   rw [Qf (h:=by kernel_rfl)]
   have vI:VM.vnil A (.pointer (some ⟨id,0,some 0⟩))=some (.pointer (some ⟨id,0,some 0⟩)):=by simp [VM.vnil,VM.look,hrA]
   simp [-Qp,-Q6,t0,t2,t3,t4,t5,t44,t45,t46,VM.look,hrA,vI,bx,ones,e1,e2,a2,vA,a3,z0,zw,hFK,hFA,hap,hFB,vB,v1,v2,p1,p3,p4,p6,qa1,qa2,qb1,qb2]
   have ltN:∀k∈dNet.ids (vw v h5 v.2.2.2.2.2.1.2 v.2.2.2.2.2.2.1.2),k<K.length:=fun k hk=>dNet.lt ns.ow k hk
   have dMN:∀k∈ids mv',k∉dNet.ids (vw v h5 v.2.2.2.2.2.1.2 v.2.2.2.2.2.2.1.2):=fun k hk hh=>by
    rcases nB k hk with h|h
    ·exact (nM k h).2 hh
    ·have:=ltN k hh;omega
   have ltM':=oM'.lt
   refine ih ((allN x).length-(i+1)) _ _ ⟨i+1,mv',h5.set j a',rfl,by omega,by simp [t0],by simp [t2],by simp [t3],by simp,by simp [t5],by simp [t44],by simp [t45],?_,by rw [hps];exact nsC,?_,fun k hk=>⟨?_,fun hh=>?_⟩⟩ (by omega)
   ·simp [t46];rw [w64 (by omega) (by omega)]
   ·rw [htk,List.map_append,List.map_cons,List.map_nil,← hfe];exact oM'.chg cC dMN
   ·rcases nB k hk with h|h
    ·exact (nM k h).1
    ·right;omega
   ·rcases nC k hh with h|h
    ·exact dMN k hk h
    ·have:=ltM' k hk;omega
  ·have hil:i=(allN x).length:=by omega
   subst hil
   rw [List.take_length] at oM
   clear ih
   -- between the loops: the network w,y1
   have hrK:K[id]? = some ⟨netCells (vw v h5 v.2.2.2.2.2.1.2 v.2.2.2.2.2.2.1.2) (nPop x (allN x).length)++tail,0,e⟩:=Qb hr0 ns.chg (fun hh=>by
    rcases List.mem_append.1 hh with hh|hh
    ·simp at hh;omega
    ·exact hid hh)
   have hdn:∀k,H.length≤k→k<H2.length∨H2.length<k→k<H'.length→k∉[H2.length]++dNet.ids v:=fun k h1 h2 h3 hh=>by
    rcases List.mem_append.1 hh with hh|hh
    ·simp at hh;omega
    ·have:=hlt k hh;omega
   have lG1:H1.length≤H2.length:=cE.1
   have oG3:=oG2.chg ns.chg (fun k hk=>hdn k (nG k hk) (.inl (by have:=ltG k hk;omega)) (by have:=ltG k hk;omega))
   have oE3:=oE2.chg ns.chg (fun k hk=>hdn k (by have:=nE k hk;omega) (.inl (ltE k hk)) (by have:=ltE k hk;omega))
   have oT3:=oT.chg ns.chg (fun k hk=>hdn k (by have:=nT' k hk;omega) (.inr (nT' k hk)) (ltT k hk))
   have hfw:∀k∈dNet.ids (vw v h5 v.2.2.2.2.2.1.2 v.2.2.2.2.2.2.1.2),(k∈dNet.ids v∨H'.length≤k):=ns.ids
   have nM':=fun k hk=>(nM k hk).2
   have hgl3:=oG3.rd.len (P:=Tryz.prog) (ty:=145) (by simp)
   have c1K:=ns.chg
   have b5:allL 67000000 (nPop x (allN x).length).2.2.1:=Mu _ _ hb5
   have l5:(nPop x (allN x).length).2.2.1.length=x.2.2.1.length:=Jv x _
   have ns1:NS K K [] (vw v h5 v.2.2.2.2.2.1.2 v.2.2.2.2.2.2.1.2) (nPop x (allN x).length) _ _ _:=NS.start [] ns.ow ns.nd
   simp [t0,t2,t3,t4,t5,t44,t45,t46,hgl3]
   clear ns hr0 oG2 oE2 oM2 oT nM hgl2
   generalize hw:vw v h5 v.2.2.2.2.2.1.2 v.2.2.2.2.2.2.1.2=w at *
   obtain ⟨y1,hy1⟩:∃y1,y1=nPop x (allN x).length:=⟨_,rfl⟩
   rw [← hy1] at hrK b5 l5 ns1
   have ye:y1.1=x.1∧y1.2.1=x.2.1∧y1.2.2.2.1=x.2.2.2.1∧y1.2.2.2.2.1=x.2.2.2.2.1∧y1.2.2.2.2.2.1=x.2.2.2.2.2.1∧y1.2.2.2.2.2.2.1=x.2.2.2.2.2.2.1∧y1.2.2.2.2.2.2.2=x.2.2.2.2.2.2.2:=by rw [hy1];exact ⟨rfl,rfl,rfl,rfl,rfl,rfl,rfl⟩
   have lK1:H'.length≤K.length:=c1K.1
   have hidw:id∉dNet.ids w:=fun hh=>by
    rcases hfw _ hh with h|h
    ·exact hid h
    ·omega
   have hgw:∀k,H.length≤k→k<H'.length→k∉dNet.ids w:=fun k h1 h2 hh=>by
    rcases hfw k hh with h|h
    ·have:=hlt k h;omega
    ·omega
   have hff:∀k∈dNet.ids w,frz≤k:=fun k hk=>by
    rcases hfw k hk with h|h
    ·exact hf k h
    ·omega
   have onew:=Qk (v:=w) ns1.ow
   -- the pushes
   refine Qg (fun n t J=>∃(i:Nat) (g5 g9:List Value),n=(allN x).length-i∧i≤(allN x).length∧t 0=.pointer (some ⟨id,0,some 0⟩)∧t 3=el∧t 4=mv∧t 5=r∧t 78=gl∧t 79=.int .i64 (allN x).length∧t 80=.int .i64 i∧
    NS K J [] w (nPush x y1 i) g5 w.2.2.2.2.2.1.2 g9) ?_ (n:=(allN x).length)
    ⟨0,w.2.2.1.2,w.2.2.2.2.2.2.1.2,rfl,by omega,by simp [t0],by simp [t3],by simp [t4],by simp [t5],by simp,by simp,by simp,ns1⟩
   clear t0 t2 t3 t4 t5 t44 t45 t46
   rintro n t J ⟨i,g5,g9,rfl,hi,t0,t3,t4,t5,t78,t79,t80,ns⟩ ih
   simp [t0,t3,t4,t5,t78,t79,t80]
   refine Qc ?_ ?_<;>intro g
   ·have hi':i<(allN x).length:=by omega
    have oG4:=oG3.chg ns.chg (fun k hk hh=>by
     rw [List.nil_append] at hh
     exact hgw k (nG k hk) (by have:=ltG k hk;omega) hh)
    obtain ⟨q1,q2⟩:=Eb oG4 hi'
    obtain ⟨m1,m2,m3,m4⟩:=hat _ (List.getElem_mem hi')
    have hps:=Dh (y:=y1) hi'
    have lmv:i<((allN x).map fun g=>headOf x (frm g)).length:=by simpa using hi'
    have lti:i<((allN x).map (tgI x)).length:=by simpa using hi'
    have emv:((allN x).map fun g=>headOf x (frm g))[i]=headOf x (frm (allN x)[i]):=by simp
    have eti:((allN x).map (tgI x))[i]=tgI x (allN x)[i]:=by simp
    obtain ⟨J1,hJ1⟩:∃J1,J1=J++[⟨grF.f (allN x)[i],0,149⟩]:=⟨_,rfl⟩
    have cJ:Chg J J1 []:=by rw [hJ1];exact Chg.app _
    have lJ:J1.length=J.length+1:=by rw [hJ1];simp
    have bx:J1[J.length]? = some ⟨grF.f (allN x)[i],0,149⟩:=by rw [hJ1];simp
    have hJs:J++[⟨grF.f (allN x)[i],0,149⟩]=J1:=hJ1.symm
    generalize (allN x)[i]=gg at *
    simp only [N9] at bx hJs
    have nsA:=ns.other cJ (by simp) (by simp)
    obtain ⟨c,hc⟩:∃c,c=gg.2.2%2:=⟨_,rfl⟩
    obtain ⟨q,hq⟩:∃q,q=gg.2.2/2:=⟨_,rfl⟩
    obtain ⟨f,hfe⟩:∃f,f=headOf x (frm gg):=⟨_,rfl⟩
    rw [← hfe] at emv
    have hFJ:frz≤J.length:=by have:=ns.chg.1;omega
    have rowA:∀J':Heap,Chg K J' ([]++dNet.ids w)→J'[id]? = some ⟨netCells w y1++tail,0,e⟩:=fun J' c=>Qb hrK c (by simpa using hidw)
    have mvA:∀J':Heap,Chg K J' ([]++dNet.ids w)→Ow flF 144 J' mv _:=fun J' c=>oM.chg c (fun k hk=>by simpa using nM' k hk)
    have tlA:∀J':Heap,Chg K J' ([]++dNet.ids w)→Ow Fl.int 3 J' r _:=fun J' c=>oT3.chg c (fun k hk hh=>by rw [List.nil_append] at hh;exact hgw k (by have:=nT' k hk;omega) (ltT k hk) hh)
    have e3:∀[Inhabited Unit],(gg.2.2:Int).tmod 2=(c:Int):=by intro _;rw [tmod2];omega
    have e3':∀[Inhabited Unit],(gg.2.2:Int)%2=(c:Int):=by intro _;omega
    have e4:∀[Inhabited Unit],IntKind.i64.wrap ((gg.2.2:Int)/2)=(q:Int):=by intro _;rw [w64 (by omega) (by omega)];omega
    have rA:=rowA J1 nsA.chg
    unfold netCells at rA
    simp only [List.cons_append,List.nil_append] at rA
    obtain ⟨u1,u2⟩:=C5 (tlA J1 nsA.chg).rd.isI lti
    rw [eti] at u2
    have hNx:(x.2.2.1.length:Int)=10*cnt x.1.1 x.1.2.1:=hx.2.1.1
    have l9:(nPush x y1 i).2.2.2.2.2.2.1.length=x.2.2.2.2.2.2.1.length:=by rw [← ye.2.2.2.2.2.1];exact Wm (Jz x) _ _
    have l5':(nPush x y1 i).2.2.1.length=x.2.2.1.length:=by rw [← l5];exact Wm (Sm x) _ _
    have h9l:gg.1<(nPush x y1 i).2.2.2.2.2.2.1.length:=by rw [l9];have:=hx.2.1.2.2.2.2;omega
    obtain ⟨a9,r1,r2,r3,r4,r5,r6,r7⟩:=T3 (u:=(w.2.2.2.2.2.2.1.1,g9)) nsA.ow.2.2.2.2.2.2.1 h9l
    simp only at r2 r3 r7
    have vI:∀J':Heap,J'[id]? = some ⟨netCells w y1++tail,0,e⟩→VM.vnil J' (.pointer (some ⟨id,0,some 0⟩))=some (.pointer (some ⟨id,0,some 0⟩)):=fun J' h=>by simp [VM.vnil,VM.look,h]
    have vI1:=vI J1 (rowA J1 nsA.chg)
    simp [t0,t3,t4,t5,t78,t79,t80,q1,q2,N9]
    rw [hJs]
    clear hJ1 hJs
    rw [Qf (h:=by kernel_rfl)]
    have hlw:∀k∈dNet.ids (vw w g5 w.2.2.2.2.2.1.2 g9),k<J.length:=fun k hk=>dNet.lt ns.ow k hk
    have hfg:∀k∈dNet.ids (vw w g5 w.2.2.2.2.2.1.2 g9),frz≤k:=fun k hk=>by
     rcases ns.ids k hk with h|h
     ·exact hff k h
     ·omega
    have b5i:=Ws (Xn (Si x) ((allN x).take i) y1.2.2.1 67000000 b5) (show _≤67000080 by simp;omega)
    have b9i:=Ws (Xn (Gr x) ((allN x).take i) y1.2.2.2.2.2.2.1 67000000 (by rw [ye.2.2.2.2.2.1];exact hb9)) (show _≤67000080 by simp;omega)
    obtain ⟨w1,w2,w3,w4⟩:=Qa3 (mvA J1 nsA.chg) lmv
    rw [emv] at w2
    simp only [Yu] at w2
    have hJJ:([⟨[.int .i64 f.1,.int .i64 f.2.1,.int .i64 f.2.2.1,.bool f.2.2.2.1,.bool f.2.2.2.2],0,144⟩]:Heap)=[⟨flF.f f,0,144⟩]:=rfl
    have hFJ1:frz≤J1.length:=by omega
    have hF1:frz≤J.length+1:=by omega
    simp [t0,t3,t4,t5,t78,t79,t80,VM.look,rA,vI1,bx,onew,r2,u1,u2,hFJ]
    -- the flit is put
    refine W3 (F:=?FA1) (k:=?kA1) (Q:=?QA1) (fun t J2=>∃(g5' g9':List Value),t 0=.pointer (some ⟨id,0,some 0⟩)∧t 3=el∧t 4=mv∧t 5=r∧t 11=.int .i64 i∧t 12=.pointer (some ⟨J.length,0,some 0⟩)∧t 78=gl∧t 79=.int .i64 (allN x).length∧t 80=.int .i64 i∧
     J2[J.length]? = some ⟨[.int .i64 (gg.1:Int),.int .i64 (gg.2.1:Int),.int .i64 (gg.2.2:Int)],0,149⟩∧NS K J2 [] w (withArr (withBuf (nPush x y1 i) (pushS x (nPush x y1 i).2.2.1 gg)) (arrS x (nPush x y1 i).2.2.2.2.2.2.1 gg)) g5' w.2.2.2.2.2.1.2 g9'∧∀k∈dNet.ids (vw w g5' w.2.2.2.2.2.1.2 g9'),k≠J.length) ?main ?rest
    case main=>
     intro rest
     by_cases h4:gg.2.1=4
     ·have hT:tgI x gg=-1:=by unfold tgI;rw [if_pos h4]
      obtain ⟨a',K2,K3,hap,p5,p6,lv2,lv3,qb1,qb2,c2,pt⟩:=L9 (frz:=frz) (u:=(w.2.2.2.2.2.2.1.1,g9)) nsA.ow.2.2.2.2.2.2.1 (Ar (n:=vw w g5 w.2.2.2.2.2.1.2 g9) nsA.nd) h9l (by have:=b9i _ (List.getElem_mem h9l);omega) (fun k hk=>hfg k (Sz (n:=vw w g5 w.2.2.2.2.2.1.2 g9) k hk)) r1 f
      simp only at p5 p6 lv2 lv3
      obtain ⟨nsC,nC,cC⟩:=nsA.arr pt
      have hwa:=Kq nsA.ow.2.2.2.2.2.2.1.1.1 (by show 0<g9.length;have:=nsA.ow.2.2.2.2.2.2.1.1.2.1;have h2:(vw w g5 w.2.2.2.2.2.1.2 g9).2.2.2.2.2.2.1.2=g9:=rfl;rw [h2] at this;omega)
      have v1:=Xs r7 hwa gg.1
      have v2:=Xs lv2 hwa gg.1
      have bx3:=Qb bx cC (fun hh=>by have:=hlw _ hh;omega)
      simp only [Yu] at hap
      simp [hT]
      rw [Qf (h:=by kernel_rfl)]
      simp [-Qp,-Q6,t0,t3,t4,t5,t78,t79,t80,VM.look,v1,r3,w1,w2,hap,v2,p6,r5,r6,qb1,qb2,hFJ1]
      refine rest _ _ ?_
      have e1:withArr (withBuf (nPush x y1 i) (pushS x (nPush x y1 i).2.2.1 gg)) (arrS x (nPush x y1 i).2.2.2.2.2.2.1 gg)=withArr (nPush x y1 i) (upd (nPush x y1 i).2.2.2.2.2.2.1 gg.1 (·++[f])):=by
       unfold pushS arrS;rw [if_pos h4,if_pos h4,hfe];rfl
      rw [e1]
      exact ⟨g5,g9.set gg.1 a',by simp [t0],by simp [t3],by simp [t4],by simp [t5],by simp,by simp,by simp [t78],by simp [t79],by simp [t80],bx3,nsC,fun k hk=>by rcases nC k hk with h|h;(have:=hlw k h;omega);omega⟩
     ·obtain ⟨hh,hroom⟩:=m4.2.1.resolve_left h4
      rw [← hc] at hroom
      obtain ⟨s1,s2,s3⟩:=Ym (c:=c) hh (by omega) (by omega)
      obtain ⟨z,hz⟩:∃z,z=tgt x gg.1 gg.2.1 c:=⟨_,rfl⟩
      rw [← hz] at s1 s2 s3
      have hT:tgI x gg=(z:Int):=by unfold tgI;rw [if_neg h4,← hc,hz]
      have hzl:z<(nPush x y1 i).2.2.1.length:=by rw [l5'];omega
      obtain ⟨az,d1,d2,d3,d4,d5,d6,d7⟩:=T3 (u:=(w.2.2.1.1,g5)) nsA.ow.2.2.1 hzl
      simp only at d2 d3 d7
      obtain ⟨a',K2,K3,hap,p5,p6,lv2,lv3,qb1,qb2,c2,pt⟩:=L9 (frz:=frz) (u:=(w.2.2.1.1,g5)) nsA.ow.2.2.1 (Su (n:=vw w g5 w.2.2.2.2.2.1.2 g9) nsA.nd) hzl (by have:=b5i _ (List.getElem_mem hzl);omega) (fun k hk=>hfg k (Yq (n:=vw w g5 w.2.2.2.2.2.1.2 g9) k hk)) d1 f
      simp only at p5 p6 lv2 lv3
      obtain ⟨nsC,nC,cC⟩:=nsA.buf pt
      have hwa:=Kq nsA.ow.2.2.1.1.1 (by show 0<g5.length;have:=nsA.ow.2.2.1.1.2.1;have h2:(vw w g5 w.2.2.2.2.2.1.2 g9).2.2.1.2=g5:=rfl;rw [h2] at this;omega)
      have v1:=Xs d7 hwa z
      have v2:=Xs lv2 hwa z
      have bx3:=Qb bx cC (fun hh=>by have:=hlw _ hh;omega)
      rw [hT] at u2
      simp only [Yu] at hap
      simp [hT]
      rw [Qf (h:=by kernel_rfl)]
      simp [t0,t3,t4,t5,t78,t79,t80,VM.look,rA,vI1,onew,u1,u2,d2]
      rw [Qf (h:=by kernel_rfl)]
      simp [-Qp,-Q6,t0,t3,t4,t5,t78,t79,t80,VM.look,v1,d3,w1,w2,hap,v2,p6,d5,d6,qb1,qb2,hFJ1]
      refine rest _ _ ?_
      have e1:withArr (withBuf (nPush x y1 i) (pushS x (nPush x y1 i).2.2.1 gg)) (arrS x (nPush x y1 i).2.2.2.2.2.2.1 gg)=withBuf (nPush x y1 i) (upd (nPush x y1 i).2.2.1 z (·++[f])):=by
       unfold pushS arrS;rw [if_neg h4,if_neg h4,hfe,hz,hc];rfl
      rw [e1]
      exact ⟨g5.set z a',g9,by simp [t0],by simp [t3],by simp [t4],by simp [t5],by simp,by simp,by simp [t78],by simp [t79],by simp [t80],bx3,nsC,fun k hk=>by rcases nC k hk with h|h;(have:=hlw k h;omega);omega⟩
    case rest=>
     rintro t J2 ⟨g5',g9',t0,t3,t4,t5,t11,t12,t78,t79,t80,bx2,ns2,hlw2⟩
     obtain ⟨s2,hs2⟩:∃s2,s2=withArr (withBuf (nPush x y1 i) (pushS x (nPush x y1 i).2.2.1 gg)) (arrS x (nPush x y1 i).2.2.2.2.2.2.1 gg):=⟨_,rfl⟩
     rw [← hs2] at hps ns2
     have own2:s2.2.2.2.1=(nPush x y1 i).2.2.2.1:=by rw [hs2];rfl
     have turn2:s2.2.2.2.2.1=(nPush x y1 i).2.2.2.2.1:=by rw [hs2];rfl
     have lown:s2.2.2.2.1.length=x.2.2.2.1.length:=by rw [own2,← ye.2.2.1];exact Wm (J8 x) _ _
     have lturn:s2.2.2.2.2.1.length=x.2.2.2.2.1.length:=by rw [turn2,← ye.2.2.2.1];exact Wm Mn _ _
     clear hs2
     have rA2:=rowA J2 ns2.chg
     have vI2:=vI J2 rA2
     unfold netCells at rA2
     simp only [List.cons_append,List.nil_append] at rA2
     obtain ⟨z,hz⟩:∃z,z=outAt gg.1 gg.2.1 c:=⟨_,rfl⟩
     have hzl:z<s2.2.2.2.1.length:=by rw [lown,hz];have:=hx.2.1.2.1;unfold outAt;omega
     have bA:=fun F=>Th (frz:=F) (H:=J2) (n:=gg.1) (p:=gg.2.1) (c:=c) (by omega) m2 (by omega)
     rw [← hz] at bA
     obtain ⟨o1,_⟩:=C5 (Rd.isI ns2.ow.2.2.2.1.1.rd) hzl
     have o1':vindexAddr Tryz.prog J2 26 w.2.2.2.1 (.int .i64 (z:Int))=some (elp w.2.2.2.1 z):=o1
     have hfg2:∀k∈dNet.ids (vw w g5' w.2.2.2.2.2.1.2 g9'),frz≤k:=fun k hk=>by
      rcases ns2.ids k hk with h|h
      ·exact hff k h
      ·have:=ns2.chg.1;omega
     obtain ⟨J3,st3,ns3,c3⟩:=ns2.own (frz:=frz) hfg2 hzl (q:Int)
     have vo:=zh ns2.ow.2.2.2.1.1 (by omega) z
     have vo':VM.vnil J2 (elp w.2.2.2.1 z)=some (elp w.2.2.2.1 z):=vo
     rw [Qf (h:=by kernel_rfl)]
     have hnot:J.length∉dNet.ids (vw w g5' w.2.2.2.2.2.1.2 g9'):=fun hh=>hlw2 _ hh rfl
     have bx3:=Qb bx2 c3 hnot
     obtain ⟨y1',y2',y3',y4'⟩:=Qa3 (mvA J3 ns3.chg) lmv
     rw [emv] at y4'
     have vo3:VM.vnil J3 (elp w.2.2.2.1 z)=some (elp w.2.2.2.1 z):=zh (v:=w.2.2.2.1) ns3.ow.2.2.2.1.1 (by show 0<(s2.2.2.2.1.set z (q:Int)).length;simp;omega) z
     simp [-vfieldAddr,Vk,t0,t3,t4,t5,t11,t12,t78,t79,t80,VM.look,rA2,vI2,bx2,onew,e3,e3',bA,o1',e4,vo',st3,y1',y3',y4']
     have hos:ownS x s2.2.2.2.1 gg=s2.2.2.2.1.set z (if f.2.2.2.2 then -1 else (q:Int)):=by unfold ownS;rw [← hfe,hz,hc,hq]
     -- the owner
     refine W3 (F:=?FA2) (k:=?kA2) (Q:=?QA2) (fun t J4=>t 0=.pointer (some ⟨id,0,some 0⟩)∧t 3=el∧t 4=mv∧t 5=r∧t 12=.pointer (some ⟨J.length,0,some 0⟩)∧t 78=gl∧t 79=.int .i64 (allN x).length∧t 80=.int .i64 i∧
      J4[J.length]? = some ⟨[.int .i64 (gg.1:Int),.int .i64 (gg.2.1:Int),.int .i64 (gg.2.2:Int)],0,149⟩∧NS K J4 [] w (withOwn s2 (ownS x s2.2.2.2.1 gg)) g5' w.2.2.2.2.2.1.2 g9') ?main2 ?rest2
     case main2=>
      intro rest
      cases ht:f.2.2.2.2 with
      | false=>
       rw [ht,if_neg (by simp)] at hos
       simp
       refine rest _ _ ?_
       rw [hos]
       exact ⟨by simp [t0],by simp [t3],by simp [t4],by simp [t5],by simp [t12],by simp [t78],by simp [t79],by simp [t80],bx3,ns3⟩
      | true=>
       rw [ht,if_pos rfl] at hos
       obtain ⟨J4,st4,ns4,c4⟩:=ns3.own (frz:=frz) hfg2 (j:=z) (by show z<(s2.2.2.2.1.set z (q:Int)).length;simp;omega) (-1)
       have e1:withOwn (withOwn s2 (s2.2.2.2.1.set z (q:Int))) ((withOwn s2 (s2.2.2.2.1.set z (q:Int))).2.2.2.1.set z (-1))=withOwn s2 (s2.2.2.2.1.set z (-1)):=by
        show withOwn s2 ((s2.2.2.2.1.set z (q:Int)).set z (-1))=_
        rw [List.set_set]
       rw [e1] at ns4
       simp [t0,t3,t4,t5,t11,t12,t78,t79,t80,vo3,st4]
       refine rest _ _ ?_
       rw [hos]
       exact ⟨by simp [t0],by simp [t3],by simp [t4],by simp [t5],by simp [t12],by simp [t78],by simp [t79],by simp [t80],Qb bx3 c4 hnot,ns4⟩
     case rest2=>
      rintro t J4 ⟨t0,t3,t4,t5,t12,t78,t79,t80,bx4,ns4⟩
      have rA4:=rowA J4 ns4.chg
      have vI4:=vI J4 rA4
      unfold netCells at rA4
      simp only [List.cons_append,List.nil_append] at rA4
      obtain ⟨zt,hzt⟩:∃zt,zt=5*gg.1+gg.2.1:=⟨_,rfl⟩
      obtain ⟨d,hd⟩:∃d,d=(gg.2.2+1)%10:=⟨_,rfl⟩
      have hztl:zt<s2.2.2.2.2.1.length:=by rw [lturn,hzt];have:=hx.2.1.2.2.1;omega
      obtain ⟨o4,_⟩:=C5 (Rd.isI ns4.ow.2.2.2.2.1.1.rd) hztl
      have o4':vindexAddr Tryz.prog J4 26 w.2.2.2.2.1 (.int .i64 (zt:Int))=some (elp w.2.2.2.2.1 zt):=o4
      obtain ⟨J5,st5,ns5,c5⟩:=ns4.turn (frz:=frz) hfg2 (j:=zt) hztl (d:Int)
      have k1:=@w6 (5*(gg.1:Int)) (by omega)
      have k2:∀[Inhabited Unit],IntKind.i64.wrap (5*(gg.1:Int)+(gg.2.1:Int))=(zt:Int):=by intro _;rw [w64 (by omega) (by omega)];omega
      have k3:=@w6 ((gg.2.2:Int)+1) (by omega)
      have k4:∀[Inhabited Unit],((gg.2.2:Int)+1).tmod 10=(d:Int):=by intro _;rw [Int.tmod_eq_emod_of_nonneg (by omega)];omega
      have k4':∀[Inhabited Unit],((gg.2.2:Int)+1)%10=(d:Int):=by intro _;omega
      have hts:turnS s2.2.2.2.2.1 gg=s2.2.2.2.2.1.set zt (d:Int):=by unfold turnS;rw [hzt,hd]
      rw [← own2,← turn2,hts] at hps
      rw [Qf (h:=by kernel_rfl)]
      simp [t0,t3,t4,t5,t12,t78,t79,t80,VM.look,rA4,vI4,bx4,onew,k1,k2,k3,k4,k4',o4',st5]
      refine ih ((allN x).length-(i+1)) _ _ ⟨i+1,g5',g9',rfl,by omega,by simp [t0],by simp [t3],by simp [t4],by simp [t5],by simp [t78],by simp [t79],?_,by rw [hps];exact ns5⟩ (by omega)
      simp [t80];rw [w64 (by omega) (by omega)]
   ·have hil:i=(allN x).length:=by omega
    subst hil
    clear ih
    have oE4:=oE3.chg ns.chg (fun k hk hh=>by
     rw [List.nil_append] at hh
     exact hgw k (by have:=nE k hk;omega) (by have:=ltE k hk;omega) hh)
    have hel:=oE4.rd.len (P:=Tryz.prog) (ty:=26) (by simp)
    rw [List.length_map] at hel
    obtain ⟨y3,hy3⟩:∃y3,y3=nPush x y1 (allN x).length:=⟨_,rfl⟩
    rw [← hy3] at ns
    have ye3:y3.1=x.1∧y3.2.1=x.2.1∧y3.2.2.2.2.2.1=x.2.2.2.2.2.1∧y3.2.2.2.2.2.2.2=x.2.2.2.2.2.2.2:=by rw [hy3];exact ⟨ye.1,ye.2.1,ye.2.2.2.2.1,ye.2.2.2.2.2.2⟩
    have l53:y3.2.2.1.length=x.2.2.1.length:=by rw [hy3,← l5];exact Wm (Sm x) _ _
    have b53:allL 67000080 y3.2.2.1:=by
     rw [hy3]
     refine Ws (Xn (Si x) ((allN x).take (allN x).length) y1.2.2.1 67000000 b5) ?_
     simp;omega
    have hE:=Pa x
    have hEat:=fun k (hk:k∈enterN x)=>Xe hk
    have hEnd:=Vi x
    simp [t0,t3,t4,t5,t78,t79,t80,hel]
    -- what enters
    refine Qg (fun n t J=>∃(i:Nat) (g5 g8:List Value),n=(enterN x).length-i∧i≤(enterN x).length∧t 0=.pointer (some ⟨id,0,some 0⟩)∧t 158=el∧t 159=.int .i64 (enterN x).length∧t 160=.int .i64 i∧
     NS K J [] w (nEnt x y3 i) g5 g8 g9) ?_ (n:=(enterN x).length)
     ⟨0,g5,w.2.2.2.2.2.1.2,rfl,by omega,by simp [t0],by simp,by simp,by simp,ns⟩
    clear t0 t3 t4 t5 t78 t79 t80 oE4 hel ns
    rintro n t J ⟨i,g5,g8,rfl,hi,t0,t158,t159,t160,ns⟩ ih
    simp [t0,t158,t159,t160]
    refine Qc ?_ ?_<;>intro g
    ·have hi':i<(enterN x).length:=by omega
     have oE4:=oE3.chg ns.chg (fun k hk hh=>by
      rw [List.nil_append] at hh
      exact hgw k (by have:=nE k hk;omega) (by have:=ltE k hk;omega) hh)
     obtain ⟨u1,u2⟩:=C5 oE4.rd.isI (i:=i) (by simpa using hi')
     have eel:((enterN x).map Int.ofNat)[i]'(by simpa using hi')=((enterN x)[i]:Int):=by simp
     rw [eel] at u2
     obtain ⟨m1,m2⟩:=hEat _ (List.getElem_mem hi')
     have hps:=qg (y:=y3) hi'
     have hsat:(nEnt x y3 i).2.2.2.2.2.1.getD (enterN x)[i] []=x.2.2.2.2.2.1.getD (enterN x)[i] []:=by
      rw [← ye3.2.2.1]
      have hnt:=Ib (f:=fun k:Nat=>k) (by simpa using hEnd) hi'
      exact D7 _ _ _ (by simpa using hnt)
     generalize (enterN x)[i]=k at *
     have hks:k<(nEnt x y3 i).2.2.2.2.2.1.length:=by
      have:(nEnt x y3 i).2.2.2.2.2.1.length=y3.2.2.2.2.2.1.length:=Wm Jx _ _
      rw [this,ye3.2.2.1];have:=hx.2.1.2.2.2.1;omega
     have hgd:(nEnt x y3 i).2.2.2.2.2.1.getD k []=(nEnt x y3 i).2.2.2.2.2.1[k]:=by simp [List.getD_eq_getElem?_getD,hks]
     have hne:(nEnt x y3 i).2.2.2.2.2.1[k]≠[]:=by rw [← hgd,hsat];exact m2.1
     have hhd:headL (nEnt x y3 i).2.2.2.2.2.1[k]=srcHead x k:=by rw [← hgd,hsat];rfl
     obtain ⟨en1,en2,en3⟩:=Sx hx m2.1
     have hcl:=en1.2
     obtain ⟨f,hfe⟩:∃f,f=srcHead x k:=⟨_,rfl⟩
     obtain ⟨z,hz⟩:∃z,z=entAt x k:=⟨_,rfl⟩
     rw [← hfe,← hz] at en2
     rw [← hfe] at hhd hcl
     have hzl:z<(nEnt x y3 i).2.2.1.length:=by
      have:(nEnt x y3 i).2.2.1.length=y3.2.2.1.length:=Wm (Jl x) _ _
      rw [this,l53];have:=hx.2.1.1;unfold inR at hcl;omega
     have b5i:=Ws (Xn (Fb x) ((enterN x).take i) y3.2.2.1 67000080 b53) (show _≤67000096 by simp;omega)
     have rA:∀J':Heap,Chg K J' ([]++dNet.ids w)→J'[id]? = some ⟨netCells w y1++tail,0,e⟩:=fun J' c=>Qb hrK c (by simpa using hidw)
     have vI:∀J':Heap,J'[id]? = some ⟨netCells w y1++tail,0,e⟩→VM.vnil J' (.pointer (some ⟨id,0,some 0⟩))=some (.pointer (some ⟨id,0,some 0⟩)):=fun J' h=>by simp [VM.vnil,VM.look,h]
     obtain ⟨J1,hJ1⟩:∃J1,J1=J++[⟨flF.f f,0,144⟩]:=⟨_,rfl⟩
     have cJ:Chg J J1 []:=by rw [hJ1];exact Chg.app _
     have lJ:J1.length=J.length+1:=by rw [hJ1];simp
     have bx:J1[J.length]? = some ⟨flF.f f,0,144⟩:=by rw [hJ1];simp
     have hJs:J++[⟨flF.f f,0,144⟩]=J1:=hJ1.symm
     simp only [Yu] at bx hJs
     have nsA:=ns.other cJ (by simp) (by simp)
     have hlw:∀l∈dNet.ids (vw w g5 g8 g9),l<J.length:=fun l hl=>dNet.lt ns.ow l hl
     have hFJ:frz≤J.length:=by have:=ns.chg.1;omega
     have hfg:∀l∈dNet.ids (vw w g5 g8 g9),frz≤l:=fun l hl=>by
      rcases ns.ids l hl with h|h
      ·exact hff l h
      ·omega
     obtain ⟨a8,r1,r2,r3,r4,r5,r6,r7⟩:=T3 (u:=(w.2.2.2.2.2.1.1,g8)) ns.ow.2.2.2.2.2.1 hks
     simp only at r2 r3 r7
     obtain ⟨z0,_,_,_,_,_,_,zw⟩:=front r4.rd hne
     rw [hhd] at zw
     simp only [Yu] at zw
     obtain ⟨az,d1,d2,d3,d4,d5,d6,d7⟩:=T3 (u:=(w.2.2.1.1,g5)) nsA.ow.2.2.1 hzl
     simp only at d2 d3 d7
     obtain ⟨a',K2,K3,hap,p5,p6,lv2,lv3,qb1,qb2,c2,pt⟩:=L9 (frz:=frz) (u:=(w.2.2.1.1,g5)) nsA.ow.2.2.1 (Su (n:=vw w g5 g8 g9) nsA.nd) hzl (by have:=b5i _ (List.getElem_mem hzl);omega) (fun l hl=>hfg l (Yq (n:=vw w g5 g8 g9) l hl)) d1 f
     simp only at p5 p6 lv2 lv3
     obtain ⟨nsB,nB,cB⟩:=nsA.buf pt
     simp only [Yu] at hap
     have hfg2:∀l∈dNet.ids (vw w (g5.set z a') g8 g9),frz≤l:=fun l hl=>by
      rcases nB l hl with h|h
      ·exact hfg l h
      ·omega
     have hFK3:frz≤K3.length:=by have:=cB.1;omega
     obtain ⟨a8',s1,s2,s3,s4,s5,s6,s7⟩:=T3 (u:=(w.2.2.2.2.2.1.1,g8)) nsB.ow.2.2.2.2.2.1 hks
     have ea8:a8'=a8:=by rw [r1] at s1;exact (Option.some.inj s1).symm
     subst ea8
     simp only at s2 s3 s7
     obtain ⟨zz,b',M2,M3,t3',t4',t5',t6',mv2,mv3,qc1,qc2,cc2,pt2⟩:=Qaj (frz:=frz) (u:=(w.2.2.2.2.2.1.1,g8)) nsB.ow.2.2.2.2.2.1 (M0 (n:=vw w (g5.set z a') g8 g9) nsB.nd) hks hne (fun l hl=>hfg2 l (Zk (n:=vw w (g5.set z a') g8 g9) l hl)) s1
     simp only at t5' t6' mv2 mv3
     obtain ⟨nsC,nC,cC⟩:=nsB.src pt2
     have rJ:=rA J ns.chg
     have rJ1:=rA J1 nsA.chg
     have rK3:=rA K3 nsB.chg
     have vJ:=vI J rJ
     have vJ1:=vI J1 rJ1
     have vK3:=vI K3 rK3
     have hidg:id∉dNet.ids (vw w g5 g8 g9):=fun hh=>by
      rcases ns.ids _ hh with h|h
      ·exact hidw h
      ·have:=Qu hrK;omega
     have rK2:K2[id]? = some ⟨netCells w y1++tail,0,e⟩:=Qb rJ1 c2 (fun hh=>hidg (Yq (n:=vw w g5 g8 g9) id (U1 d1 hh)))
     have rM2:M2[id]? = some ⟨netCells w y1++tail,0,e⟩:=Qb rK3 cc2 (by simp)
     have rM3:=rA M3 nsC.chg
     have rJL:=fun L=>Qn rJ1 L
     have lvL:∀L:Heap,VM.live (J1++L) w.2.2.1.1:=fun L=>Xa (v:=w.2.2.1.1) (Ow.app (L:=L) nsA.ow.2.2.1.1.1)
     have rM:∀L:Heap,(K3++L)[id]? = some ⟨netCells w y1++tail,0,e⟩:=fun L=>Qn rK3 L
     have vM:=fun L=>vI (K3++L) (rM L)
     unfold netCells at rJ rJ1 rK3 rM rK2 rM2 rM3 rJL
     simp only [List.cons_append,List.nil_append] at rJ rJ1 rK3 rM rK2 rM2 rM3 rJL
     have bA:∀F,vcall C F 101 [.int .i64 (k:Int),.int .i64 4,.int .i64 f.2.2.1] J1=some (.int .i64 (z:Int),J1):=fun F=>by
      rw [Ub,if_pos ⟨⟨by omega,by omega⟩,⟨by omega,by omega⟩,hcl⟩,en2];congr 3
     simp [t0,t158,t159,t160,u1,u2,VM.look,rJ,vJ,onew,r2,r3,r5,r6,z0,zw]
     rw [hJs]
     clear hJ1 hJs
     simp [t0,t158,t159,t160,VM.look,bx,bA]
     rw [Tl (fl:=([3],[16])) (h:=⟨by kernel_rfl,by kernel_rfl,by kernel_rfl,by kernel_rfl⟩)]
     simp [emps,empOp,empB,-Qp,-Q6,t0,t158,t159,t160,VM.look,rJ1,vJ1,onew,d2,d3,d5,d6,bx,hap,p5,p6,d7,lv2,lv3,qb1,qb2,hFJ,rJL,lvL,rK2,rK3]
     rw [Na (h:=⟨by kernel_rfl,by kernel_rfl⟩)]
     simp [emps,empOp,empB,-Qp,-Q6,t0,t158,t159,t160,VM.look,rK3,vK3,onew,s2,s3,s5,s6,s7,rM,vM,t3',t4',t5',t6',rM2,rM3,mv2,mv3,qc1,qc2,hFK3]
     refine ih ((enterN x).length-(i+1)) _ _ ⟨i+1,g5.set z a',g8.set k b',rfl,by omega,by simp [t0],by simp [t158],by simp [t159],?_,?_⟩ (by omega)
     ·simp [t160];rw [w64 (by omega) (by omega)]
     ·rw [hps]
      have e1:entS x (nEnt x y3 i).2.2.1 k=upd (nEnt x y3 i).2.2.1 z (·++[f]):=by unfold entS;rw [← hz,← hfe]
      rw [e1]
      exact nsC
    ·have hil:i=(enterN x).length:=by omega
     subst hil
     clear ih
     have ec:netCells w y1=netCells w x:=by unfold netCells;rw [ye.1,ye.2.2.2.2.2.2]
     have rJ:J[id]? = some ⟨netCells w x++tail,0,e⟩:=by rw [← ec];exact Qb hrK ns.chg (by simpa using hidw)
     have hse:stepN x=older (nEnt x y3 (enterN x).length) 1:=by rw [mt,← hy1,← hy3]
     have lJ:=ns.chg.1
     unfold netCells at rJ
     simp only [List.cons_append,List.nil_append] at rJ
     have vJ:VM.vnil J (.pointer (some ⟨id,0,some 0⟩))=some (.pointer (some ⟨id,0,some 0⟩)):=by simp [VM.vnil,VM.look,rJ]
     have et:∀[Inhabited Unit],IntKind.i64.wrap (x.2.2.2.2.2.2.2+1)=x.2.2.2.2.2.2.2+1:=by intro _;unfold inR at ht;exact w64 (by omega) (by omega)
     simp [t0,t158,t159,t160,VM.look,rJ,vJ,et,hfi]
     have hidg:id∉dNet.ids (vw w g5 g8 g9):=fun hh=>by
      rcases ns.ids _ hh with h|h
      ·exact hidw h
      ·have:=Qu hrK;omega
     refine ⟨vw w g5 g8 g9,Qo rJ,?_,ns.nd,fun k hk=>?_,?_⟩
     ·rw [hse]
      exact Dt.chg (T:=dNet) ns.ow (Qh _ _) (fun k hk hh=>by simp at hh;exact hidg (hh▸hk))
     ·rcases ns.ids k hk with h|h
      ·rcases hfw k h with h|h
       ·exact .inl h
       ·exact .inr (by omega)
      ·exact .inr (by omega)
     ·have c1:Chg H K (id::dNet.ids v):=(cK0.mono (fun _ h=>by cases h)).trans' c1K (fun k hk=>by
       rcases List.mem_append.1 hk with h|h
       ·simp at h;exact .inr (by omega)
       ·exact .inl (List.mem_cons_of_mem _ h))
      refine (c1.trans' ns.chg (fun k hk=>?_)).trans (Chg.mono (Qh _ _) (fun k hk=>by simp at hk;rw [hk];exact List.mem_cons_self ..))
      rw [List.nil_append] at hk
      rcases hfw k hk with h|h
      ·exact .inl (List.mem_cons_of_mem _ h)
      ·exact .inr (by omega)
def runs (x:NetD) (k:Int):Prop:=netOk x∧inR 0 k 400∧x.2.2.2.2.2.2.2+k≤1000000
instance (x:NetD) (k:Int):Decidable (runs x k):=inferInstanceAs (Decidable (_∧_))
noncomputable def runNet (x:NetD) (k:Int):NetD:=if runs x k then runN x k.toNat else x
theorem Ab {x:NetD} (h:netOk x):allL 66000000 x.2.2.1:=fun l hl=>by
 obtain ⟨i,hi,rfl⟩:=List.getElem_of_mem hl
 have:=(h.2.2.1 i hi).1
 rw [Rz hi] at this
 omega
theorem Qbq {x:NetD} (h:runOk x) (h5:allL 66000000 x.2.2.1) (h9:allL 66000000 x.2.2.2.2.2.2.1) {i:Nat} (hi:i≤400):runOk (runN x i)∧allL 67000000 (runN x i).2.2.1∧allL 67000000 (runN x i).2.2.2.2.2.2.1∧(runN x i).2.2.2.2.2.2.2=x.2.2.2.2.2.2.2+i:=by
 obtain ⟨a,b⟩:=Il h5 h9 i
 exact ⟨yl h i,Ws a (by omega),Ws b (by omega),Uy x i⟩
theorem yo {v:NetV} {x:NetD} {k:Int} (o:dNet.Ow H v x):vcall C frz 66 [dNet.val v x,.int .i64 k] H=some (.bool (decide (runs x k)),H):=by
 refine wp.exact (by simp) ?_ rfl
 have ones:=Qk o
 have nk:=fun F L=>Sd (frz:=F) (H:=H++L) (v:=v) (x:=x) (Dt.app (T:=dNet) o)
 simp only [Ql] at nk ⊢
 rw [Qa (fn:=Tryz.f66) Tryz.func66 rfl (by kernel_rfl) rfl]
 generalize hY:decide (runs x k)=Y
 have no:¬runs x k→Y=false:=fun hh=>by rw [← hY];exact decide_eq_false hh
 by_cases h1:netOk x
 rotate_left
 ·simp [ones,VM.look,nk,h1];exact no (fun k=>h1 k.1)
 by_cases h2:inR 0 k 400
 rotate_left
 ·simp [ones,VM.look,nk,h1,Qm,h2];exact no (fun k=>h2 k.2.1)
 have ht:=h1.2.2.2.2.2.2
 unfold inR at ht
 have e1:∀[Inhabited Unit],IntKind.i64.wrap (x.2.2.2.2.2.2.2+k)=x.2.2.2.2.2.2.2+k:=by intro _;unfold inR at h2;exact w64 (by omega) (by omega)
 have key:runs x k↔x.2.2.2.2.2.2.2+k≤1000000:=⟨fun h=>h.2.2,fun h=>⟨h1,h2,h⟩⟩
 simp [ones,VM.look,nk,h1,Qm,h2,e1]
 rw [← hY];simp only [key]
def actOk (k p q r s:Int):Prop:=
 if k=1 then inR 0 p 15∧inR 0 q 15∧inR 0 r 1∧inR 1 s 5 else if k=2 then inR 1 p 100∧q=0∧r=0∧s=0 else if k=3 then p=0∧q=0∧r=0∧s=0
 else if k=4 then inR 0 p 63∧q=0∧r=0∧s=0 else k=5∧inR 1 p 4∧inR 1 q 4∧r=0∧s=0
instance (k p q r s:Int):Decidable (actOk k p q r s):=by unfold actOk;infer_instance
noncomputable def repair (w h:Int) (b:List Int):ClassesD:=(treeTable w h b (bestRoot w h b),treeTable w h b (bestRoot w h b))
noncomputable def repairOk (w h:Int) (b:List Int):Bool:=decide (treeOk w h b (bestRoot w h b))
theorem xy (w h:Int) (v:Value) (b:List Int) (hI:IsI H v b) (hl:b.length≤1073741824) :
 wp (vcall C frz 37 [.agg #[.int .i64 w,.int .i64 h,v]] H) (Made2 dClasses H (repair w h b) (repairOk w h b)):=by
 rw [Qa (fn:=Tryz.f37) Tryz.func37 rfl (by kernel_rfl) rfl]
 have one:=And.intro hI.one' hI.cells
 simp [one]
 rw [Qf (h:=by kernel_rfl)]
 simp [one,Du _ _ _ _ (hI.app _) hl]
 refine Qd (Gw w h v b (bestRoot w h b) (hI.app _) hl) ?_
 rintro _ H1 ⟨_,rfl,vt,rfl,ot,c1,nt,dt⟩
 have b1:H1[H.length+1]? = some ⟨[.slice none 0 0,.slice none 0 0],0,32⟩:=Qb (by simp) c1 (by simp)
 have l1:=Qu b1
 simp at nt
 have cH:Chg H H1 []:=(Chg.app []).trans c1
 have hle:=Nu w h b (bestRoot w h b)
 have hne:¬treeOk w h b (bestRoot w h b)→treeTable w h b (bestRoot w h b)=[]:=fun hh=>if_neg hh
 unfold repair repairOk
 generalize treeTable w h b (bestRoot w h b)=tt at *
 have one1:=X5 ot
 simp [X3,one1,VM.look,b1]
 by_cases hok:treeOk w h b (bestRoot w h b)
 ·have l0:=cH.1
  simp [hok,l0]
  rw [Qf (h:=by kernel_rfl)]
  simp [one1,l0]
  refine Qd (U3 vt tt (ot.1.rd.isI.app _) (by omega)) ?_
  rintro _ H2 ⟨vu,rfl,ou,c2,nu,du⟩
  have b2:H2[H.length+1]? = some ⟨[.slice none 0 0,.slice none 0 0],0,32⟩:=Qb (Qn b1 _) c2 (by simp)
  have ot2:=Dt.chg0 (T:=dIntS) (Dt.app (T:=dIntS) ot) c2
  have lt1:=dIntS.lt ot
  simp at nu
  have one2:=X5 ou
  have g4:=Qo (r':=⟨[vt,vu],0,32⟩) b2
  simp [X3,one1,one2,VM.look,b2,g4]
  have h1:∀i∈VM.ids vt,i∉[H.length+1]:=fun i hi hh=>by have:=nt i hi;simp at hh;omega
  have h2:∀i∈VM.ids vu,i∉[H.length+1]:=fun i hi hh=>by have:=nu i hi;simp at hh;omega
  refine ⟨.agg #[vt,vu],by simp [hok],(vt,vu),rfl,⟨Dt.chg (T:=dIntS) ot2 (Qh _ _) h1,Dt.chg (T:=dIntS) ou (Qh _ _) h2⟩,((cH.trans (Chg.app [])).trans c2).trans' (Qh _ _) (fun i hi=>.inr (by simp at hi;omega)),fun i hi=>?_,List.nodup_append.2 ⟨Wk vt,Wk vu,fun i hi j hj hh=>?_⟩⟩
  ·rcases List.mem_append.1 hi with hi|hi
   ·have:=nt i hi;omega
   ·have:=nu i hi;omega
  ·have:=lt1 i hi;have:=nu j hj;omega
 ·obtain rfl:=hne hok
  have l0:=cH.1
  have g4:=Qo (r':=⟨[.slice none 0 0,.slice none 0 0],0,32⟩) (Qn b1 [⟨[vt],0,30⟩])
  have b1':=Qn b1 [⟨[vt],0,30⟩]
  simp [hok,l0,VM.look,b1,b1',g4]
  refine ⟨.agg #[.slice none 0 0,.slice none 0 0],by simp [hok],(.slice none 0 0,.slice none 0 0),rfl,⟨⟨.inl ⟨rfl,rfl⟩,by simp⟩,.inl ⟨rfl,rfl⟩,by simp⟩,(cH.trans (Chg.app [])).trans' (Qh _ _) (fun i hi=>.inr (by simp at hi;omega)),by simp [dClasses],by simp [dClasses]⟩
end Go.Proofs.YtaldglgobgjeaaaGreat.V
set_option linter.all false
namespace Go.Proofs.YtaldglgobgjeaaaGreat.V
open Go Go.VM Go.Proofs
variable {frz:Nat} {H:Heap} {v:Value} {w h:Int} {b:List Int} {root:Int}
theorem zf (o:dMesh.Ow H v (w,h,b)):wp (vcall C frz 37 [dMesh.val v (w,h,b)] H) (Made2 dClasses H (repair w h b) (repairOk w h b)):=xy w h v b o.1.rd.isI o.2
end Go.Proofs.YtaldglgobgjeaaaGreat.V
set_option linter.all false
namespace Go.Proofs.YtaldglgobgjeaaaGreat.V
open Go Go.VM Go.Proofs
set_option maxRecDepth 10000
variable {frz:Nat} {H:Heap}
def broke (b:List Int) (c:Int):List Int:=isort (b++[c])
def breakOk (w h:Int) (b:List Int) (c:Int):Prop:=meshOk w h b∧has w h b c
instance (w h:Int) (b:List Int) (c:Int):Decidable (breakOk w h b c):=inferInstanceAs (Decidable (_∧_))
def withBroken (w h:Int) (b:List Int) (c:Int):List Int:=if breakOk w h b c then broke b c else b
theorem Ca {w h:Int} {b:List Int} (hm:meshOk w h b):b.length≤64:=by
 obtain ⟨_,h2,h3⟩:=(V5 w h b).1 hm
 have hc:=Qe w h
 refine Ez h3 (fun c hc'=>?_)
 have:=(h2 c hc').1
 omega
theorem L8 (w h:Int) (v:Value) (b:List Int) (c:Int) (hI:IsI H v b) (hl:b.length≤1073741824) :
 wp (vcall C frz 36 [.agg #[.int .i64 w,.int .i64 h,v],.int .i64 c] H) (Made2 dMesh H (w,h,withBroken w h b c) (decide (breakOk w h b c))):=by
 rw [Qa (fn:=Tryz.f36) Tryz.func36 rfl (by kernel_rfl) rfl]
 have one:=And.intro hI.one' hI.cells
 simp [one]
 refine Qd (Zw w h v b (hI.app _) hl) ?_
 rintro _ H1 ⟨u,rfl,o1,c1,n1,d1⟩
 have cH:Chg H H1 []:=(Chg.app []).trans c1
 have l0:=cH.1
 have b0:H1[H.length]? = some ⟨[.int .i64 w,.int .i64 h,v],0,28⟩:=Qb (by simp) c1 (by simp)
 have b1:H1[H.length+1]? = some ⟨[.int .i64 0,.int .i64 0,.slice none 0 0],0,28⟩:=Qb (by simp) c1 (by simp)
 have l1:=Qu b1
 have hI1:=((hI.rd).chg cH (by simp)).isI
 have ob:Ow Fl.int 3 H1 u b:=o1.1
 have one1:=And.intro ob.rd.one' ob.rd.cells
 have n1':∀i∈VM.ids u,H.length+2≤i:=fun i hi=>by have:=n1 i hi;simp at this;omega
 have lu:=o1.1.lt
 simp [W1,one,one1,VM.look,b0,b1,Qn b0,Qn b1,Xu _ _ _ _ _ (hI1.app _) hl,-Bool.decide_and]
 by_cases hok:breakOk w h b c
 ·have hok':meshOk w h b∧has w h b c:=hok
  simp [hok',one,one1,VM.look,b0,b1,Qn b0,Qn b1,l0,Nat.le_add_right_of_le l0]
  have hlb:b.length≤1000:=by have:=Ca hok.1;omega
  obtain ⟨u',H2,hap,o2,c2,n2⟩:=(ob.app (L:=[⟨[.int .i64 w,.int .i64 h,u],0,28⟩])).push (P:=Tryz.prog) (frz:=H.length) (ty:=26) (a:=c) (by simp) rfl (by omega) (fun i hi=>by have:=n1' i hi;omega)
  simp at hap n2
  have q2:H2[H1.length]? = some ⟨[.int .i64 w,.int .i64 h,u],0,28⟩:=Qb (by simp) c2 (fun hh=>by have:=lu _ hh;omega)
  have q1:H2[H.length+1]? = some ⟨[.int .i64 0,.int .i64 0,.slice none 0 0],0,28⟩:=Qb (Qn b1 _) c2 (fun hh=>by have:=n1' _ hh;omega)
  have k2:=Qu q2
  have n2':∀i∈VM.ids u',i≠H1.length∧H.length+2≤i:=fun i hi=>by
   rcases n2 i hi with h1|h1
   ·have:=lu i h1;have:=n1' i h1;omega
   ·omega
  have q3:=Qo (r':=⟨[.int .i64 w,.int .i64 h,u'],0,28⟩) q2
  have q4:(H2.set H1.length ⟨[.int .i64 w,.int .i64 h,u'],0,28⟩)[H.length+1]? = some ⟨[.int .i64 0,.int .i64 0,.slice none 0 0],0,28⟩:=Qb q1 (Qh _ _) (by simp;omega)
  have o3:=o2.chg (Qh H1.length ⟨[.int .i64 w,.int .i64 h,u'],0,28⟩) (fun i hi hh=>(n2' i hi).1 (List.mem_singleton.1 hh))
  have one3:=And.intro o2.rd.one' o2.rd.cells
  have c3:Chg H H2 []:=(cH.trans (Chg.app (L:=[⟨[.int .i64 w,.int .i64 h,u],0,28⟩]) [])).trans' c2 (fun i hi=>.inr (by have:=n1' i hi;omega))
  have c4:Chg H2 (H2.set H1.length ⟨[.int .i64 w,.int .i64 h,u'],0,28⟩) [H1.length]:=Qh _ _
  simp [hap,one3,VM.look,q2,q3,q4,l0]
  generalize H2.set H1.length ⟨[.int .i64 w,.int .i64 h,u'],0,28⟩=H3 at *
  refine Qd (Qb6 u' (b++[c]) _ o3 (by simp;omega) (fun i hi=>by have:=n2' i hi;omega) (by have:=c4.1;omega)) ?_
  rintro _ H4 ⟨o5,c5⟩
  have q5:H4[H1.length]? = some ⟨[.int .i64 w,.int .i64 h,u'],0,28⟩:=Qb q3 c5 (fun hh=>by have:=n2' _ hh;omega)
  have q6:H4[H.length+1]? = some ⟨[.int .i64 0,.int .i64 0,.slice none 0 0],0,28⟩:=Qb q4 c5 (fun hh=>by have:=n2' _ hh;omega)
  have q7:=Qo (r':=⟨[.int .i64 w,.int .i64 h,u'],0,28⟩) q6
  simp [one3,VM.look,q5,q6,q7]
  have cc:Chg H H4 []:=(c3.trans' c4 (fun i hi=>.inr (by simp at hi;omega))).trans' c5 (fun i hi=>.inr (by have:=n2' i hi;omega))
  refine ⟨.agg #[.int .i64 w,.int .i64 h,u'],by simp [hok],u',by simp [withBroken,hok,broke,W1],⟨o5.chg (Qh (H.length+1) _) (fun i hi hh=>by have:=n2' i hi;have:=List.mem_singleton.1 hh;omega) |> fun hh=>by simpa [withBroken,hok,broke] using hh,by simp [withBroken,hok,broke,Mb];omega⟩,cc.trans' (Qh _ _) (fun i hi=>.inr (by simp at hi;omega)),fun i hi=>by have:=n2' i hi;omega,Wk u'⟩
 ·have hok':¬(meshOk w h b∧has w h b c):=hok
  have g:=Qo (r':=⟨[.int .i64 w,.int .i64 h,u],0,28⟩) (Qn b1 [⟨[.int .i64 w,.int .i64 h,u],0,28⟩])
  simp [hok',one,one1,VM.look,b0,b1,Qn b0,Qn b1,l0,Nat.le_add_right_of_le l0,g]
  refine ⟨.agg #[.int .i64 w,.int .i64 h,u],by simp [hok],u,by simp [withBroken,hok,W1],⟨by simpa [withBroken,hok] using ob.app.chg (Qh _ _) (fun i hi hh=>by have:=n1' i hi;simp at hh;omega),by simpa [withBroken,hok] using hl⟩,(cH.trans (Chg.app [])).trans' (Qh _ _) (fun i hi=>.inr (by simp at hi;omega)),fun i hi=>by have:=n1' i hi;omega,Wk u⟩
theorem Ko {v:Value} {w h:Int} {b:List Int} {c:Int} (o:dMesh.Ow H v (w,h,b)):wp (vcall C frz 36 [dMesh.val v (w,h,b),.int .i64 c] H) (Made2 dMesh H (w,h,withBroken w h b c) (decide (breakOk w h b c))):=L8 w h v b c o.1.rd.isI o.2
theorem wh {v:Value} {xs:List Int} {e:TypeId} (o:Ow Fl.int e H v xs) {i:Nat} (h1:i<xs.length):vindexAddr Tryz.prog H 26 v (.int .i64 (i:Nat))=some (elp v i)∧vload Tryz.prog H 3 (elp v i)=some (.int .i64 xs[i]):=by
 have h2:=o.rd.isI.idx (P:=Tryz.prog) (ty:=26) (e:=3) (by simp) (i:=(i:Int)) (by omega) (by omega)
 have h3:=(o.rd.isI.load (P:=Tryz.prog) (e:=3) (by simp) h1).trans (by rw [Qx _ _ h1])
 exact ⟨by simpa using h2,h3⟩
def chN (w h:Int) (b:List Int) (m:Nat):List Int:=((List.range m).filter (fun c:Nat=>decide (has w h b (c:Int)))).map (fun c:Nat=>(c:Int))
theorem Py (w h:Int) (b:List Int) (m:Nat):chN w h b (m+1)=if has w h b (m:Int) then chN w h b m++[(m:Int)] else chN w h b m:=by
 unfold chN
 rw [List.range_succ,List.filter_append,List.map_append]
 by_cases hh:has w h b (m:Int)
 ·rw [if_pos hh];simp [hh]
 ·rw [if_neg hh];simp [hh]
theorem Ku (w h:Int) (b:List Int):∀m,(chN w h b m).length≤m
 | 0=>Nat.le_refl _
 | m+1=>by
  rw [Py]
  have:=Ku w h b m
  split<;>simp<;>omega
theorem ki {w h:Int} {b:List Int} {m:Nat} {x:Int} (hx:x∈chN w h b m):has w h b x:=by
 unfold chN at hx
 obtain ⟨c,hc,rfl⟩:=List.mem_map.1 hx
 simpa using (List.mem_filter.1 hc).2
def chans (w h:Int) (b:List Int):List Int:=if meshOk w h b then chN w h b (4*(cnt w h).toNat) else []
theorem F0 (w h:Int) (v:Value) (b:List Int) (hI:IsI H v b) (hl:b.length≤1073741824) :
 wp (vcall C frz 11 [.agg #[.int .i64 w,.int .i64 h,v]] H) (fun u H'=>Ow Fl.int 3 H' u (chans w h b)∧(∀i∈ids u,H.length≤i)∧Chg H H' []):=by
 have hc:=Qe w h
 obtain ⟨N,hN⟩:∃N:Nat,cnt w h=N:=⟨(cnt w h).toNat,by omega⟩
 have hN2:N≤16:=by omega
 have hNt:(cnt w h).toNat=N:=by omega
 rw [Qa (fn:=Tryz.f11) Tryz.func11 rfl (by kernel_rfl) rfl]
 have e4:IntKind.i64.wrap (4*(N:Int))=((4*N:Nat):Int):=by rw [w64 (by omega) (by omega)];omega
 obtain ⟨M,hM⟩:∃M,M=4*N:=⟨_,rfl⟩
 rw [← hM] at e4
 simp [Q7,hI.one',hI.cells,hN,e4]
 refine Qg (fun n t H'=>∃(i:Nat) (u:Value),n=M-i∧i≤M∧t 1=.pointer (some ⟨H.length,0,some 0⟩)∧t 3=u∧t 9=.int .i64 M∧t 10=.int .i64 i∧H'[H.length]? = some ⟨[.int .i64 w,.int .i64 h,v],0,28⟩∧
  Ow Fl.int 3 H' u (if meshOk w h b then chN w h b i else [])∧(∀j∈ids u,H.length+1≤j)∧Chg H H' []) ?_ (n:=M)
  ⟨0,.slice (some ⟨H.length+1,0,some 0⟩) 0 0,rfl,by omega,by simp,by simp,by simp,by simp,by simp,by
   have:(if meshOk w h b then chN w h b 0 else [])=[]:=by split<;>rfl
   rw [this];exact Ow.new (D:=Fl.int) (e:=3) (xs:=[]) (H:=H) (k:=1) (by simp) rfl rfl rfl,by simp,Chg.app _⟩
 rintro n t H' ⟨i,u,rfl,hi,t1,t3,t9,t10,b0,o,nu,ch⟩ ih
 have hI1:=((hI.rd).chg ch (by simp)).isI
 simp [t1,t3,t9,t10]
 refine Qc ?_ ?_<;>intro g1
 ·simp [t1,t3,t9,t10,VM.look,b0,hI.one',hI.cells,Xu _ _ _ _ _ hI1 hl,-Bool.decide_and]
  have e1:∀[Inhabited Unit],IntKind.i64.wrap ((i:Int)+1)=((i+1:Nat):Int):=by intro _;rw [w64 (by omega) (by omega)];omega
  refine Qc ?_ ?_<;>intro g2
  ·have hll:(if meshOk w h b then chN w h b i else []).length≤i:=by rw [if_pos g2.1];exact Ku _ _ _ _
   obtain ⟨u',H2,hap,o2,c2,n2⟩:=o.push (P:=Tryz.prog) (frz:=H.length) (ty:=26) (a:=(i:Int)) (by simp) rfl (by omega) (fun j hj=>by have:=nu j hj;omega)
   simp only [Fl.int_f] at hap
   have l0:=ch.1
   have k0:=Qu b0
   simp [t1,t3,t9,t10,hap]
   refine ih (M-(i+1)) _ _ ⟨i+1,u',rfl,by omega,by simp [t1],by simp,by simp [t9],by simp [e1],Qb b0 c2 (fun hh=>by have:=nu _ hh;omega),?_,fun j hj=>?_,ch.trans' c2 (fun j hj=>.inr (by have:=nu j hj;omega))⟩ (by omega)
   ·rw [if_pos g2.1] at o2 ⊢
    rw [Py,if_pos g2.2];exact o2
   ·rcases n2 j hj with h1|h1
    ·exact nu j h1
    ·omega
  ·simp [t1,t3,t9,t10]
   refine ih (M-(i+1)) _ _ ⟨i+1,u,rfl,by omega,by simp [t1],by simp [t3],by simp [t9],by simp [e1],b0,?_,nu,ch⟩ (by omega)
   by_cases hm:meshOk w h b
   ·rw [if_pos hm] at o ⊢
    rw [Py,if_neg (fun hh=>g2 ⟨hm,hh⟩)];exact o
   ·rw [if_neg hm] at o ⊢;exact o
 ·have him:i=M:=by omega
  simp [t3]
  refine ⟨?_,fun j hj=>by have:=nu j hj;omega,ch⟩
  unfold chans;rw [hNt,← hM,← him];exact o
theorem Qb2 (v:Value) (xs:List Int) (k:Int) (hI:IsI H v xs) (hl:xs.length≤1073741824):vcall C frz 15 [v,.int .i64 k] H=some (.bool (decide (k∈xs)),H):=by
 refine wp.exact (by simp) ?_ rfl
 rw [Qa (fn:=Tryz.f15) Tryz.func15 rfl (by kernel_rfl) rfl]
 simp
 refine Qg (fun n t H'=>∃i:Nat,n=xs.length-i∧i≤xs.length∧t 0=v∧t 1=.int .i64 k∧t 5=.int .i64 i∧H'=H∧k∉xs.take i) ?_ (n:=xs.length) ⟨0,rfl,by omega,by simp,by simp,by simp,rfl,by simp⟩
 rintro n t H' ⟨i,rfl,hi,t0,t1,t5,hH,he⟩ ih
 rw [hH]
 simp [t0,t1,t5,hI.len]
 refine Qc ?_ ?_<;>intro g1
 ·have q1:=hI.idx (P:=Tryz.prog) (ty:=26) (e:=3) (by simp) (i:=(i:Int)) (by omega) (by omega)
  have r1:=(hI.load (P:=Tryz.prog) (e:=3) (by simp) g1).trans (by rw [Qx _ _ g1])
  simp only [Int.toNat_natCast] at q1
  simp [t0,t1,t5,q1,r1]
  refine Qc ?_ ?_<;>intro g2
  ·simp
   rw [← g2];exact List.getElem_mem g1
  ·simp [t0,t1,t5]
   refine ih (xs.length-(i+1)) _ _ ⟨i+1,rfl,by omega,by simp [t0],by simp [t1],?_,rfl,?_⟩ (by omega)
   ·simp;rw [w64 (by omega) (by omega)]
   ·rw [List.take_succ_eq_append_getElem g1]
    intro hh
    rcases List.mem_append.1 hh with hh|hh
    ·exact he hh
    ·exact g2 (List.mem_singleton.1 hh).symm
 ·have him:i=xs.length:=by omega
  simp
  rw [him,List.take_length] at he
  exact he
theorem Aw {w h:Int} {b:List Int} {x:Int} (hx:x∈chans w h b):breakOk w h b x:=by
 unfold chans at hx
 by_cases hm:meshOk w h b
 ·rw [if_pos hm] at hx;exact ⟨hm,ki hx⟩
 ·rw [if_neg hm] at hx;cases hx
theorem Bv (w h:Int) (b:List Int):(chans w h b).length≤64:=by
 have hc:=Qe w h
 unfold chans
 split
 ·have:=Ku w h b (4*(cnt w h).toNat);omega
 ·simp
end Go.Proofs.YtaldglgobgjeaaaGreat.V
set_option linter.all false
namespace Go.Proofs.YtaldglgobgjeaaaGreat.V
open Go Go.VM Go.Proofs
set_option maxRecDepth 10000
variable {frz:Nat} {H:Heap} {r:Nat} {vb:Value} {code:List Int}
theorem Cur.set {J:Heap} {id:Nat} {x:Row} (c:Cur J r vb code) (h1:r≠id) (h2:∀i∈ids vb,i≠id):Cur (J.set id x) r vb code:=
 c.chg (Qh _ _) (by simpa using h1) (fun i hi=>by simpa using h2 i hi)
theorem B5 (c:Cur H r vb code) (hf:frz≤r):wp (vcall C frz 23 [.pointer (some ⟨r,0,some 0⟩)] H) (fun u H'=>(∃w h,u=.agg #[.int .i64 w,.int .i64 h]∧okG w h∧2≤cnt w h)∧Chg H H' [r]∧Cur H' r vb code):=by
 have lt:=c.lt
 have vlt:=c.vlt
 rw [Qa (fn:=Tryz.f23) Tryz.func23 rfl (by kernel_rfl) rfl]
 simp
 refine Qd (qw (c.app _) hf) ?_
 rintro _ K ⟨⟨w,h,rfl,hg⟩,c1,d1⟩
 have cH:Chg H K [r]:=(Chg.app [r]).trans c1
 have l0:=cH.1
 have b0:K[H.length]? = some ⟨[.int .i64 0,.int .i64 0],0,25⟩:=Qb (by simp) c1 (by simp;omega)
 have lK:=Qu b0
 have hF:frz≤H.length:=by omega
 have hFK:frz≤K.length:=by omega
 have nc:=fun F H=>Zx (frz:=F) (H:=H) w h
 simp [hFK,VM.look,nc]
 refine Qc ?_ ?_<;>intro g
 ·have b1:=Qn b0 [⟨[.int .i64 2,.int .i64 h],0,25⟩]
  have g3:=Qo (r':=⟨[.int .i64 2,.int .i64 h],0,25⟩) b1
  have ltr:=d1.lt
  have h2:okG 2 h∧2≤cnt 2 h:=by
   have e:okG 2 h:=⟨by omega,hg.2⟩
   refine ⟨e,?_⟩
   unfold cnt;rw [if_pos e];have:=hg.2;omega
  simp [VM.look,b1,g3,hFK,hF]
  exact ⟨⟨2,h,⟨rfl,rfl⟩,h2⟩,(cH.trans (Chg.app _)).trans' (Qh _ _) (fun i hi=>.inr (by simp at hi;omega)),(d1.app _).set (by omega) (fun i hi=>by have:=vlt i hi;omega)⟩
 ·have b1:=Qn b0 [⟨[.int .i64 w,.int .i64 h],0,25⟩]
  have g3:=Qo (r':=⟨[.int .i64 w,.int .i64 h],0,25⟩) b1
  have ltr:=d1.lt
  simp [VM.look,b1,g3,hF]
  exact ⟨⟨w,h,⟨rfl,rfl⟩,hg,by omega⟩,(cH.trans (Chg.app _)).trans' (Qh _ _) (fun i hi=>.inr (by simp at hi;omega)),(d1.app _).set (by omega) (fun i hi=>by have:=vlt i hi;omega)⟩
theorem Lc {w h:Int} {id:Nat} (hid:id<1000) (hg:okG w h) (h2:2≤cnt w h) (c:Cur H r vb code) (hf:frz≤r):wp (vcall C frz 57 [.pointer (some ⟨r,0,some 0⟩),.agg #[.int .i64 w,.int .i64 h],.int .i64 id] H) (fun u H'=>(∃p:PkD,u=pkV p∧(1≤id→packetOk w h p)∧p.1=(id:Int))∧Chg H H' [r]∧Cur H' r vb code):=by
 have lt:=c.lt
 have vlt:=c.vlt
 have cr:=Qe w h
 obtain ⟨N,hN⟩:∃N:Nat,cnt w h=N:=⟨(cnt w h).toNat,by omega⟩
 have nc:=fun F H=>Zx (frz:=F) (H:=H) w h
 rw [hN] at nc h2
 rw [Qa (fn:=Tryz.f57) Tryz.func57 rfl (by kernel_rfl) rfl]
 have e1:∀[Inhabited Unit],IntKind.i64.wrap ((N:Int)-1)=((N-1:Nat):Int):=by intro _;rw [w64 (by omega) (by omega)];omega
 simp [VM.look,nc]
 refine Qd (Wu (c.app _) hf N (by omega) (by omega)) ?_
 rintro _ K1 ⟨⟨a,rfl,ha⟩,c1,d1⟩
 have e2:=@w6 ((a:Int)+1) (by omega)
 simp [e1,e2]
 refine Qd (Wu d1 hf (N-1) (by omega) (by omega)) ?_
 rintro _ K2 ⟨⟨b,rfl,hb⟩,c2,d2⟩
 have e3:∀[Inhabited Unit],IntKind.i64.wrap ((a:Int)+1+(b:Int))=(a:Int)+1+b:=by intro _;exact w64 (by omega) (by omega)
 have e4:¬(N:Int)=0:=by omega
 have e4':¬N=0:=by omega
 simp [e3,e4,e4']
 have bl:=Wu (frz:=frz) d2 hf 2 (by decide) (by decide)
 refine Qd (by simpa using bl) ?_
 rintro _ K3 ⟨⟨x,rfl,hx⟩,c3,d3⟩
 simp
 have bl:=Wu (frz:=frz) d3 hf 5 (by decide) (by decide)
 refine Qd (by simpa using bl) ?_
 rintro _ K4 ⟨⟨y,rfl,hy⟩,c4,d4⟩
 have cH:Chg H K4 [r]:=((((Chg.app [r]).trans c1).trans c2).trans c3).trans c4
 have b0:K4[H.length+1]? = some ⟨[.int .i64 0,.int .i64 0,.int .i64 0,.int .i64 0,.int .i64 0],0,73⟩:=Qb (Qb (Qb (Qb (by simp) c1 (by simp;omega)) c2 (by simp;omega)) c3 (by simp;omega)) c4 (by simp;omega)
 have hF:frz≤H.length+1:=by omega
 have hm:((a:Int)+1+(b:Int)).tmod (N:Int)=(((a+1+b)%N:Nat):Int):=by rw [show (a:Int)+1+(b:Int)=((a+1+b:Nat):Int) by omega];exact Oe (by omega)
 have hlt:(a+1+b)%N<N:=Nat.mod_lt _ (by omega)
 have e5:∀[Inhabited Unit],IntKind.i64.wrap (((a+1+b)%N:Nat):Int)=(((a+1+b)%N:Nat):Int):=by intro _;exact w64 (by omega) (by omega)
 have e6:=@w6 (1+(y:Int)) (by omega)
 have gP:=Qo (r':=⟨[.int .i64 id,.int .i64 a,.int .i64 (((a:Int)+1+(b:Int)).tmod (N:Int)),.int .i64 x,.int .i64 (1+(y:Int))],0,73⟩) b0
 have ltr:=d4.lt
 simp [VM.look,b0,e6,hF,gP]
 have pko:1≤id→packetOk w h ((id:Int),(a:Int),((a:Int)+1+(b:Int)).tmod (N:Int),(x:Int),1+(y:Int)):=fun h1=>by
  rw [hm]
  refine ⟨⟨by omega,by show (id:Int)≤9999;omega⟩,⟨by show (0:Int)≤a;omega,by show (a:Int)<cnt w h;omega⟩,⟨by show (0:Int)≤(((a+1+b)%N:Nat):Int);omega,by show (((a+1+b)%N:Nat):Int)<cnt w h;omega⟩,?_,⟨by show (0:Int)≤x;omega,by show (x:Int)≤1;omega⟩,⟨by show (1:Int)≤1+(y:Int);omega,by show 1+(y:Int)≤5;omega⟩⟩
  show (a:Int)≠(((a+1+b)%N:Nat):Int)
  have ha9:a<N:=by omega
  by_cases q:a+1+b<N
  ·rw [Nat.mod_eq_of_lt q];omega
  ·rw [Nat.mod_eq_sub_mod (by omega),Nat.mod_eq_of_lt (by omega)];omega
 exact ⟨⟨_,_,_,_,_,rfl,pko,rfl⟩,cH.trans' (Qh _ _) (fun i hi=>.inr (by simp at hi;omega)),d4.set (by omega) (fun i hi=>by have:=vlt i hi;omega)⟩
theorem Nr {w h:Int} (hg:okG w h) (h2:2≤cnt w h) (c:Cur H r vb code) (hf:frz≤r):wp (vcall C frz 26 [.pointer (some ⟨r,0,some 0⟩),.agg #[.int .i64 w,.int .i64 h]] H) (fun u H'=>∃xs:List PkD,Ow pkF 73 H' u xs∧(xs.length≤7∧(∀q∈xs,packetOk w h q)∧∀j,j<xs.length→(xs.getD j pk0).1=(j:Int)+1)∧(∀i∈ids u,H.length≤i)∧Chg H H' [r]∧Cur H' r vb code):=by
 have lt:=c.lt
 have vlt:=c.vlt
 rw [Qa (fn:=Tryz.f26) Tryz.func26 rfl (by kernel_rfl) rfl]
 simp
 refine Qg (fun n t H'=>∃(i:Nat) (u:Value) (xs:List PkD),n=7-i∧i≤7∧t 0=.pointer (some ⟨r,0,some 0⟩)∧t 3=.pointer (some ⟨H.length,0,some 0⟩)∧t 5=u∧t 6=.int .i64 i∧Cur H' r vb code∧H'[H.length]? = some ⟨[.int .i64 w,.int .i64 h],0,25⟩∧Ow pkF 73 H' u xs∧(xs.length=i∧(∀q∈xs,packetOk w h q)∧∀j,j<xs.length→(xs.getD j pk0).1=(j:Int)+1)∧(∀j∈ids u,H.length+1≤j)∧Chg H H' [r]) ?_ (n:=7)
  ⟨0,.slice (some ⟨H.length+1,0,some 0⟩) 0 0,[],rfl,by omega,by simp,by simp,by simp,by simp,c.app _,by simp,Ow.new (D:=pkF) (xs:=[]) (k:=1) rfl rfl rfl rfl,⟨rfl,by simp,by simp⟩,by simp,Chg.app _⟩
 rintro n t H' ⟨i,u,xs,rfl,hi,t0,t3,t5,t6,cc,b3,o,hx,nu,ch⟩ ih
 have l1:=ch.1
 obtain ⟨hx,hxq,hxi⟩:=hx
 have bl:=Wu (frz:=frz) cc hf 7 (by decide) (by decide)
 simp [t0,t3,t5,t6]
 refine Qd (by simpa using bl) ?_
 rintro _ H2 ⟨⟨x,rfl,hx2⟩,c2,d2⟩
 have o2:=o.chg c2 (fun j hj hh=>by have:=nu j hj;simp at hh;omega)
 have b32:=Qb b3 c2 (by simp;omega)
 have l2:=c2.1
 simp [t0,t3,t5,t6]
 refine Qc ?_ ?_<;>intro g
 ·have e1:∀[Inhabited Unit],IntKind.i64.wrap ((i:Int)+1)=((i+1:Nat):Int):=by intro _;rw [w64 (by omega) (by omega)];omega
  simp [t0,t3,t5,t6,VM.look,b32]
  have pk:=Lc (frz:=frz) (id:=i+1) (by omega) hg h2 d2 hf
  rw [e1]
  refine Qd pk ?_
  rintro _ H3 ⟨⟨p,rfl,hpq,hpi⟩,c3,d3⟩
  have o3:=o2.chg c3 (fun j hj hh=>by have:=nu j hj;simp at hh;omega)
  have b33:=Qb b32 c3 (by simp;omega)
  have l3:=c3.1
  obtain ⟨u',H4,hap,o4,c4,n4⟩:=o3.push (P:=Tryz.prog) (frz:=frz) (ty:=33) (a:=p) (by simp) rfl (by omega) (fun j hj=>by have:=nu j hj;omega)
  have hlt:=Qu b33
  simp [-Qp,-Q6,t0,t3,t5,t6,pkV,jb]
  simp only [jb] at hap
  simp [-Qp,-Q6,t0,t3,t5,t6,hap]
  refine ih (7-(i+1)) _ _ ⟨i+1,u',xs++[p],rfl,by omega,by simp [t0],by simp [t3],by simp,?_,d3.chg c4 (fun hh=>by have:=nu _ hh;omega) (fun j hj hh=>by have:=nu j hh;have:=vlt j hj;omega),Qb b33 c4 (fun hh=>by have:=nu _ hh;omega),o4,⟨by simp [hx],fun q hq=>by
   rcases List.mem_append.1 hq with hq|hq
   ·exact hxq q hq
   ·rw [List.mem_singleton.1 hq];exact hpq (by omega),fun j hj=>by
   by_cases e:j<xs.length
   ·rw [List.getD_eq_getElem?_getD,List.getElem?_append_left e,← List.getD_eq_getElem?_getD];exact hxi j e
   ·have e2:j=xs.length:=by simp at hj;omega
    rw [e2,List.getD_eq_getElem?_getD,List.getElem?_append_right (Nat.le_refl _)]
    simp [hpi,hx]⟩,fun j hj=>?_,((ch.trans c2).trans c3).trans' c4 (fun j hj=>.inr (by have:=nu j hj;omega))⟩ (by omega)
  ·simp [t6];exact e1
  ·rcases n4 j hj with h1|h1
   ·exact nu j h1
   ·omega
 ·simp [t0,t3,t5,t6]
  exact ⟨xs,o2,⟨by omega,fun _ _ _ _ _ hq=>hxq _ hq,hxi⟩,fun j hj=>by have:=nu j hj;omega,ch.trans c2,d2⟩
structure Kept (x y:NetD):Prop where
 ok:netOk y
 m:y.1=x.1
 t:y.2.1=x.2.1
 a:y.2.2.2.2.2.2.1=x.2.2.2.2.2.2.1
 tm:y.2.2.2.2.2.2.2=x.2.2.2.2.2.2.2
theorem Kept.trans {x y z:NetD} (h:Kept x y) (k:Kept y z):Kept x z:=⟨k.ok,k.m.trans h.m,k.t.trans h.t,k.a.trans h.a,k.tm.trans h.tm⟩
theorem S6 {x:NetD} (h:netOk x) (p:PkD):Kept x (sendP x p):=by
 unfold sendP
 split
 ·rename_i g
  obtain ⟨_,g1,g2⟩:=g
  obtain ⟨h1,⟨s1,s2,s3,s4,s5⟩,h3,h4,h5,h6,h7⟩:=h
  refine ⟨⟨h1,⟨s1,s2,s3,?_,s5⟩,h3,fun l hl=>?_,h5,h6,h7⟩,rfl,rfl,rfl,rfl⟩
  ·show ((x.2.2.2.2.2.1.set _ _).length:Int)=_
   rw [List.length_set];exact s4
  ·rcases List.mem_or_eq_of_mem_set hl with hl|rfl
   ·exact h4 l hl
   ·have hf:=Z3 g1
    refine ⟨by rw [List.length_append];omega,fun f hf'=>?_⟩
    rcases List.mem_append.1 hf' with hf'|hf'
    ·by_cases hl:p.2.1.toNat<x.2.2.2.2.2.1.length
     ·exact (h4 _ (Uk hl)).2 f hf'
     ·simp [List.getD_eq_getElem?_getD,List.getElem?_eq_none (Nat.le_of_not_lt hl)] at hf'
    ·unfold flitsOf at hf'
     rw [if_pos g1] at hf'
     obtain ⟨i,_,rfl⟩:=List.mem_map.1 hf'
     exact ⟨g1.2.2.1,g1.2.2.2.2.1⟩
 ·exact ⟨h,rfl,rfl,rfl,rfl⟩
theorem Te {x:NetD} (h:netOk x):∀(ps:List PkD) ,Kept x (ps.foldl sendP x):=by
 intro ps
 induction ps generalizing x with
 | nil=>exact ⟨h,rfl,rfl,rfl,rfl⟩
 | cons p l ih=>exact (S6 h p).trans (ih (S6 h p).ok)
theorem Vc {m:MeshD} {t:ClassesD} (h:classesOk m.1 m.2.1 m.2.2 t.1 t.2):netOk (netNew m t)∧(netNew m t).1=m∧allL 66000000 (netNew m t).2.2.2.2.2.2.1∧(netNew m t).2.2.2.2.2.2.2=0:=by
 have cr:=Qe m.1 m.2.1
 unfold netNew
 rw [if_pos h]
 refine ⟨⟨h,⟨?_,?_,?_,?_,?_⟩,fun i hi=>?_,fun l hl=>?_,fun o ho=>?_,fun o ho=>?_,?_⟩,rfl,fun l hl=>?_,rfl⟩
 ·simp only [List.length_replicate];omega
 ·simp only [List.length_replicate];omega
 ·simp only [List.length_replicate];omega
 ·simp only [List.length_replicate];omega
 ·simp only [List.length_replicate];omega
 ·have e:(List.replicate (10*(cnt m.1 m.2.1).toNat) ([]:List FlitD)).getD i []=[]:=by
   rw [Rz hi,List.getElem_replicate]
  show bufOk _ _ ((List.replicate (10*(cnt m.1 m.2.1).toNat) ([]:List FlitD)).getD i []) _
  rw [e]
  exact ⟨by simp,by simp,fun f hf=>by simp at hf⟩
 ·have:=List.eq_of_mem_replicate hl;subst this;exact ⟨by simp,fun f hf=>by simp at hf⟩
 ·have:=List.eq_of_mem_replicate ho;subst this;unfold inR;omega
 ·have:=List.eq_of_mem_replicate ho;subst this;unfold inR;omega
 ·exact ⟨show (0:Int)≤0 by omega,show (0:Int)≤1000000 by omega⟩
 ·have:=List.eq_of_mem_replicate hl;subst this;simp
def zNet0:List Value:=[.int .i64 0,.int .i64 0,.slice none 0 0,.slice none 0 0,.slice none 0 0,.slice none 0 0,.slice none 0 0,.slice none 0 0,.slice none 0 0,.slice none 0 0,.int .i64 0]
end Go.Proofs.YtaldglgobgjeaaaGreat.V
set_option linter.all false
namespace Go.Proofs.YtaldglgobgjeaaaGreat.V
open Go Go.VM Go.Proofs
set_option maxRecDepth 10000
variable {frz:Nat} {H:Heap}
def chipNew (w h:Int):ChipD:=if okG w h then (netNew (w,h,[]) (splitT w h),[]) else (net0,[])
theorem Oi {w h:Int} (g:okG w h):classesOk w h [] (splitT w h).1 (splitT w h).2:=by
 have hn:cnt w h=((cnt w h).toNat:Int):=by have:=Qe w h;omega
 unfold splitT;rw [if_pos g]
 exact ⟨V6 (by omega) g hn,V6 (by omega) g hn⟩
end Go.Proofs.YtaldglgobgjeaaaGreat.V
set_option linter.all false
namespace Go.Proofs.YtaldglgobgjeaaaGreat.V
open Go Go.VM Go.Proofs
set_option maxRecDepth 10000
theorem Uz (l m:List FlitD):tailIds (l++m)=tailIds l++tailIds m:=by simp [tailIds]
def firstFl (p:PkD) (n:Nat):List FlitD:=(List.range n).map fun i:Nat=>(p.1,p.2.2.1,p.2.2.2.1,decide ((i:Int)=0),false)
theorem Li (p:PkD) (n:Nat):firstFl p (n+1)=firstFl p n++[(p.1,p.2.2.1,p.2.2.2.1,decide ((n:Int)=0),false)]:=by
 unfold firstFl;rw [List.range_succ,List.map_append];rfl
theorem O8 {w h:Int} {p:PkD} (g:packetOk w h p):∃n:Nat,flitsOf w h p=firstFl p n++[(p.1,p.2.2.1,p.2.2.2.1,decide ((n:Int)=0),true)]:=by
 have h5:=g.2.2.2.2.2
 unfold inR at h5
 obtain ⟨n,hn⟩:∃n:Nat,p.2.2.2.2.toNat=n+1:=⟨p.2.2.2.2.toNat-1,by omega⟩
 have hp:p.2.2.2.2=(n:Int)+1:=by omega
 refine ⟨n,?_⟩
 unfold flitsOf
 rw [if_pos g,hn,List.range_succ,List.map_append,hp]
 congr 1
 ·unfold firstFl
  refine List.map_congr_left fun i hi=>?_
  have:=List.mem_range.1 hi
  have e:decide ((i:Int)=(n:Int)+1-1)=false:=by rw [decide_eq_false_iff_not];omega
  rw [e]
 ·simp
theorem Rm (p:PkD):∀n,Str none (firstFl p n) (if n=0 then none else some (p.1,p.2.2.1,p.2.2.2.1))
 | 0=>rfl
 | n+1=>by
  rw [Li,if_neg (by omega)]
  have:=(Rm p n).snoc (f:=(p.1,p.2.2.1,p.2.2.2.1,decide ((n:Int)=0),false)) ?_
  ·exact this
  ·by_cases e:n=0
   ·rw [if_pos e];exact .inl ⟨by subst e;simp,rfl⟩
   ·rw [if_neg e];exact .inr ⟨by simp;omega,rfl⟩
theorem Rq {w h:Int} {p:PkD} (g:packetOk w h p):Str none (flitsOf w h p) none:=by
 obtain ⟨n,e⟩:=O8 g
 rw [e]
 refine (Rm p n).snoc (f:=(p.1,p.2.2.1,p.2.2.2.1,decide ((n:Int)=0),true)) ?_
 by_cases e:n=0
 ·rw [if_pos e];exact .inl ⟨by subst e;simp,rfl⟩
 ·rw [if_neg e];exact .inr ⟨by simp;omega,rfl⟩
theorem N5 {w h:Int} {p:PkD} (g:packetOk w h p):tailIds (flitsOf w h p)=[p.1]:=by
 obtain ⟨n,e⟩:=O8 g
 have h1:tailIds (firstFl p n)=[]:=by
  unfold tailIds
  rw [List.filter_eq_nil_iff.2]
  ·rfl
  ·intro y hy
   unfold firstFl at hy
   obtain ⟨i,_,rfl⟩:=List.mem_map.1 hy
   simp [isTail]
 rw [e,Uz,h1]
 rfl
theorem Un {w h:Int} {p:PkD} {y:FlitD} (hy:y∈flitsOf w h p):p.1=y.1∧p.2.2.1=y.2.1∧p.2.2.2.1=y.2.2.1:=by
 unfold flitsOf at hy
 split at hy
 ·obtain ⟨i,_,rfl⟩:=List.mem_map.1 hy;exact ⟨rfl,rfl,rfl⟩
 ·simp at hy
theorem Dv {x:NetD} {list:List PkD} {s t c:Nat} (h:∀p∈list,packetOk x.1.1 x.1.2.1 p):tailIds (flowFl x list s t c)=sentIds list s t c:=by
 unfold flowFl sentIds
 have h':∀p∈list.filter (fun p=>decide (isFlow s t c p)),packetOk x.1.1 x.1.2.1 p:=fun p hp=>h p (List.mem_filter.1 hp).1
 generalize list.filter (fun p=>decide (isFlow s t c p))=l at *
 induction l with
 | nil=>rfl
 | cons p l ih=>
  rw [List.flatMap_cons,Uz,N5 (h' p (List.mem_cons_self ..)),ih fun q hq=>h' q (List.mem_cons_of_mem _ hq)]
  rfl
theorem xf {x:NetD} {list:List PkD} {s t c:Nat} (h:∀p∈list,packetOk x.1.1 x.1.2.1 p):Str none (flowFl x list s t c) none:=by
 unfold flowFl
 have h':∀p∈list.filter (fun p=>decide (isFlow s t c p)),packetOk x.1.1 x.1.2.1 p:=fun p hp=>h p (List.mem_filter.1 hp).1
 generalize list.filter (fun p=>decide (isFlow s t c p))=l at *
 induction l with
 | nil=>rfl
 | cons p l ih=>
  rw [List.flatMap_cons]
  exact (Rq (h' p (List.mem_cons_self ..))).app (ih fun q hq=>h' q (List.mem_cons_of_mem _ hq))
theorem K8 {A:SSD} {list:List PkD} (u:Uniq list) {t:Nat} (gA:∀y∈A.getD t [],Gen list y) (s c:Nat):((A.getD t []).filter fun f=>f.2.2.1=(c:Int)).filter (inF list s t c)=(A.getD t []).filter (inF list s t c):=by
 rw [List.filter_filter]
 refine List.filter_congr fun y hy=>?_
 by_cases e:inF list s t c y=true
 ·rw [e];simp [(Dj u (gA y hy) e).2]
 ·have e:inF list s t c y=false:=by simpa using e
  rw [e];rfl
theorem I6 (l:List FlitD) (list:List PkD) (s t c:Nat):among (tailIds l) list s t c=tailIds (l.filter (inF list s t c)):=by
 unfold among tailIds
 rw [List.filter_map,List.filter_filter,List.filter_filter]
 congr 1
 refine List.filter_congr fun y _=>?_
 exact Bool.and_comm _ _
theorem jj {x:NetD} {list:List PkD} (hn:netOk x) (h:Sent (stat x) list) (g:GoodN x list):keepsOk x list:=by
 refine ⟨hn,fun t ht c hc s hs=>?_⟩
 have hA:x.2.2.2.2.2.2.1.length=nC x:=g.lA
 rw [hA] at ht hs
 obtain ⟨st,fr,sr,w,_⟩:=g.wf
 have w7:=w.w7 t c ht hc
 obtain ⟨R,L,rt⟩:=Zg (x:=stat x) (W9 (x:=stat x) hn.1) hs ht hc
 have z:=(g.fl s t c R L hs ht hc rt).z1
 unfold flowOk arrIds
 rw [Gk _ _ w7,I6,K8 h.u fun y hy=>(g.gA t y hy).1,← Dv (x:=stat x) h.ok,← z,Uz]
 unfold isPre
 rw [List.take_left]
theorem Good.still {x:NetD} {list:List PkD} {B:SSD} {O:List Int} {A S:SSD} (lB:B.length=10*nC x) (lO:O.length=10*nC x) (lA:A.length=nC x) (lS:S.length=nC x) (hB:∀j,B.getD j []=[]) (hS:∀j,S.getD j []=[]) (hO:∀o∈O,o=-1)
 (gA:∀(t:Nat) y,y∈A.getD t []→Gen list y∧y.2.1=(t:Int)) (w7:∀t c:Nat,t<nC x→c<2→Str none ((A.getD t []).filter fun f=>f.2.2.1=(c:Int)) none)
 (zz:∀s t c:Nat,s<nC x→t<nC x→c<2→(A.getD t []).filter (inF list s t c)=flowFl x list s t c):Good x list B O A S:=by
 have eO:∀a p c,a<nC x→p<5→c<2→O.getD (outAt a p c) 0=-1:=fun a p c ha hp hc=>by
  have hl:outAt a p c<O.length:=by unfold outAt;omega
  rw [List.getD_eq_getElem?_getD,List.getElem?_eq_getElem hl]
  exact hO _ (List.getElem_mem hl)
 refine ⟨lB,lO,lA,lS,fun j y hy=>?_,fun j y hy=>?_,fun j y hy=>?_,gA,fun j hne=>absurd (hB j) hne,⟨fun _=>none,fun _=>none,fun _=>none,⟨fun _ _ _ _ _ _ _=>rfl,fun a p c q h1 h2 h3 h4 h5=>?_,fun a q c k h1 h2 h3 h4=>?_,fun a p c h1 h2 h3 h4=>?_,fun k c h1 h2=>?_,fun k h1=>?_,w7⟩,⟨fun _ _ e=>by simp at e,fun _ _ e=>by simp at e,fun _ _ _ _ _ _ _ _ _ _ _ e=>by simp at e,fun _ _ _ _ _ _ _ _ e=>by simp at e⟩⟩,fun s t c R L h1 h2 h3 rt=>⟨?_,fun j y hy=>?_,fun k y hy=>?_⟩⟩
 ·rw [hB] at hy;simp at hy
 ·rw [hB] at hy;simp at hy
 ·rw [hS] at hy;simp at hy
 ·rw [eO a p c h1 h2 h3] at h5;omega
 ·simp at h4
 ·rw [hB];rfl
 ·rw [hB];rfl
 ·rw [hS];rfl
 ·have ec:∀L,cat (fun n=>(B.getD (R n) []).filter (inF list s t c)) L=[]:=fun L=>by
   induction L with
   | zero=>show (B.getD (R 0) []).filter _=[];rw [hB];rfl
   | succ L ih=>show (B.getD (R (L+1)) []).filter _++cat _ L=[];rw [hB,ih];rfl
  rw [ec,hS,zz s t c h1 h2 h3]
  simp
 ·rw [hB] at hy;simp at hy
 ·rw [hS] at hy;simp at hy
theorem xv {x:NetD} {list:List PkD} (hn:netOk x) (hi:idle x) (h:Sent (stat x) list) (g:GoodN x list) :
 (∀s t c:Nat,s<nC x→t<nC x→c<2→(x.2.2.2.2.2.2.1.getD t []).filter (inF list s t c)=flowFl x list s t c)∧∀t c:Nat,t<nC x→c<2→Str none ((x.2.2.2.2.2.2.1.getD t []).filter fun f=>f.2.2.1=(c:Int)) none:=by
 have hB:=W5 hi.1
 have hS:=W5 hi.2
 have zz:∀s t c:Nat,s<nC x→t<nC x→c<2→(x.2.2.2.2.2.2.1.getD t []).filter (inF list s t c)=flowFl x list s t c:=fun s t c hs ht hc=>by
  obtain ⟨R,L,rt⟩:=Zg (x:=stat x) (W9 (x:=stat x) hn.1) hs ht hc
  have z:=(g.fl s t c R L hs ht hc rt).z1
  have ec:∀L,cat (fun n=>(x.2.2.1.getD (R n) []).filter (inF list s t c)) L=[]:=fun L=>by
   induction L with
   | zero=>show (x.2.2.1.getD (R 0) []).filter _=[];rw [hB];rfl
   | succ L ih=>show (x.2.2.1.getD (R (L+1)) []).filter _++cat _ L=[];rw [hB,ih];rfl
  rw [ec,hS] at z
  simp at z
  exact z
 refine ⟨zz,fun t c ht hc=>?_⟩
 obtain ⟨st,fr,sr,w,_⟩:=g.wf
 have w7:=w.w7 t c ht hc
 generalize hl:((x.2.2.2.2.2.2.1.getD t []).filter fun f=>f.2.2.1=(c:Int))=l at *
 cases hu:st (outAt t 4 c) with
 | none=>rw [hu] at w7;exact w7
 | some k=>
  exfalso
  rw [hu] at w7
  have hne:l≠[]:=fun e=>by rw [e] at w7;have:(none:Option Key)=some k:=w7;simp at this
  obtain ⟨m,y,e⟩:∃m y,l=m++[y]:=⟨l.dropLast,l.getLast hne,(List.dropLast_concat_getLast hne).symm⟩
  rw [e] at w7
  obtain ⟨_,_,_,ek⟩:=w7.unsnoc
  have nt:=(Y1 ek.symm).1
  have hy:y∈x.2.2.2.2.2.2.1.getD t []∧y.2.2.1=(c:Int):=by
   have:y∈l:=by rw [e];simp
   rw [← hl] at this
   simpa using List.mem_filter.1 this
  obtain ⟨⟨p,hp,p1,p2,p3⟩,p4⟩:=g.gA t y hy.1
  obtain ⟨_,⟨q1,q2⟩,_,_⟩:=h.ok p hp
  have hnn:=Yj x
  have q2':p.2.1<cnt x.1.1 x.1.2.1:=q2
  have es:((p.2.1.toNat:Nat):Int)=p.2.1:=by omega
  have hF:inF list p.2.1.toNat t c y=true:=by
   unfold inF
   rw [decide_eq_true_eq]
   exact ⟨p,hp,p1,by rw [es],by rw [p2,p4],by rw [p3,hy.2]⟩
  have z:=zz p.2.1.toNat t c (by omega) ht hc
  have ea:=K8 h.u (fun y hy=>(g.gA t y hy).1) p.2.1.toNat c
  rw [hl,e,List.filter_append,List.filter_cons_of_pos hF,z] at ea
  have sf:=xf (x:=stat x) (s:=p.2.1.toNat) (t:=t) (c:=c) h.ok
  have sf':Str none (flowFl x list p.2.1.toNat t c) none:=sf
  rw [← ea] at sf'
  obtain ⟨_,_,_,ek2⟩:=sf'.unsnoc
  rw [← ek] at ek2
  simp at ek2
theorem F6 {x:NetD} {list:List PkD} {m:MeshD} {t:ClassesD} (hn:netOk x) (hi:idle x) (hm:m.1=x.1.1∧m.2.1=x.1.2.1) (h:Sent (stat x) list) (g:GoodN x list):GoodN (fresh x m t) list:=by
 obtain ⟨zz,w7⟩:=xv hn hi h g
 have en:nC (stat (fresh x m t))=nC x:=by show (cnt m.1 m.2.1).toNat=(cnt x.1.1 x.1.2.1).toNat;rw [hm.1,hm.2]
 have lB:x.2.2.1.length=10*nC x:=g.lB
 have lO:x.2.2.2.1.length=10*nC x:=g.lO
 have lA:x.2.2.2.2.2.2.1.length=nC x:=g.lA
 have lS:x.2.2.2.2.2.1.length=nC x:=g.lS
 refine Good.still ?_ ?_ ?_ ?_ (W5 hi.1) (W5 hi.2) (fun o ho=>List.eq_of_mem_replicate ho) g.gA ?_ ?_
 ·rw [en];exact lB
 ·rw [en];show (List.replicate _ _).length=_;rw [List.length_replicate];exact lO
 ·rw [en];exact lA
 ·rw [en];exact lS
 ·intro t' c h1 h2;rw [en] at h1;exact w7 t' c h1 h2
 ·intro s t' c h1 h2 h3
  rw [en] at h1 h2
  have:=zz s t' c h1 h2 h3
  have e:flowFl (stat (fresh x m t)) list s t' c=flowFl x list s t' c:=by
   unfold flowFl
   show List.flatMap (flitsOf m.1 m.2.1) _=_
   rw [hm.1,hm.2]
  rw [e];exact this
end Go.Proofs.YtaldglgobgjeaaaGreat.V
set_option linter.all false
namespace Go.Proofs.YtaldglgobgjeaaaGreat.V
open Go Go.VM Go.Proofs
set_option maxRecDepth 10000
variable {frz:Nat} {H:Heap}
def chipCells (v:ChipV) (a:ChipD):List Value:=netCells v.1 a.1++[v.2]
def chipRuns (a:ChipD) (k:Int):Prop:=chipOk a∧runs a.1 k
instance (a:ChipD) (k:Int):Decidable (chipRuns a k):=inferInstanceAs (Decidable (_∧_))
noncomputable def chipRun (a:ChipD) (k:Int):ChipD:=if chipOk a then (runNet a.1 k,a.2) else a
end Go.Proofs.YtaldglgobgjeaaaGreat.V
set_option linter.all false
namespace Go.Proofs.YtaldglgobgjeaaaGreat.V
open Go Go.VM Go.Proofs
set_option maxRecDepth 10000
theorem Vl {x:NetD} {list:List PkD} (h:sentOk x.1.1 x.1.2.1 list):Sent (stat x) list:=by
 have at':∀p∈list,∃i,i<list.length∧list.getD i pk0=p∧p.1=(i:Int)+1∧packetOk x.1.1 x.1.2.1 p:=fun p hp=>by
  obtain ⟨i,hi,rfl⟩:=List.mem_iff_getElem.1 hp
  obtain ⟨h1,h2⟩:=h i hi
  have e:list.getD i pk0=list[i]:=by simp [List.getD_eq_getElem?_getD,hi]
  rw [e] at h1 h2
  exact ⟨i,hi,e,h2,h1⟩
 refine ⟨fun p hp q hq e=>?_,fun p hp=>?_⟩
 ·obtain ⟨i,hi,e1,e2,_⟩:=at' p hp
  obtain ⟨j,hj,f1,f2,_⟩:=at' q hq
  have:i=j:=by omega
  subst this
  exact e1.symm.trans f1
 ·obtain ⟨_,_,_,_,k⟩:=at' p hp;exact k
theorem jd {w h:Int} {list:List PkD} (k:sentOk w h list):∀p∈list,p.1≤list.length:=fun p hp=>by
 obtain ⟨i,hi,rfl⟩:=List.mem_iff_getElem.1 hp
 have h2:=(k i hi).2
 have e:list.getD i pk0=list[i]:=by simp [List.getD_eq_getElem?_getD,hi]
 rw [e] at h2;omega
theorem wa {x:NetD} {list:List PkD} {p:PkD} (hn:netOk x) (hS:Sent (stat x) list) (hnew:∀q∈list,q.1≠p.1) (hp:packetOk x.1.1 x.1.2.1 p) (g:GoodN x list):GoodN (sendNet x p) (list++[p]):=by
 have hnn:=Yj x
 have hp0:=hp
 obtain ⟨_,⟨q1,q2⟩,_,_,q3,_⟩:=hp
 have hk:p.2.1.toNat<nC x:=by omega
 have gen:∀y,Gen list y→Gen (list++[p]) y:=fun y ⟨q,hq,e⟩=>⟨q,List.mem_append_left _ hq,e⟩
 have genp:∀y,y∈flitsOf x.1.1 x.1.2.1 p→Gen (list++[p]) y:=fun y hy=>⟨p,by simp,Un hy⟩
 have inO:∀s t c y,Gen list y→inF (list++[p]) s t c y=inF list s t c y:=fun s t c y ⟨q,hq,e1,_⟩=>by
  unfold inF
  congr 1
  apply propext
  constructor
  ·rintro ⟨r,hr,r1,r2⟩
   rcases List.mem_append.1 hr with hr|hr
   ·exact ⟨r,hr,r1,r2⟩
   ·rw [List.mem_singleton.1 hr] at r1
    exact absurd (e1.trans r1.symm) (hnew q hq)
  ·rintro ⟨r,hr,r1,r2⟩
   exact ⟨r,List.mem_append_left _ hr,r1,r2⟩
 have inP:∀(s t c:Nat) y,y∈flitsOf x.1.1 x.1.2.1 p→inF (list++[p]) s t c y=decide (isFlow s t c p):=fun s t c y hy=>by
  obtain ⟨e1,_,_⟩:=Un hy
  unfold inF
  congr 1
  apply propext
  constructor
  ·rintro ⟨r,hr,r1,r2⟩
   rcases List.mem_append.1 hr with hr|hr
   ·exact absurd (r1.trans e1.symm) (hnew r hr)
   ·rw [← List.mem_singleton.1 hr];exact r2
  ·intro r;exact ⟨p,by simp,e1,r⟩
 have lS:x.2.2.2.2.2.1.length=nC x:=g.lS
 have eS:(sendNet x p).2.2.2.2.2.1=x.2.2.2.2.2.1.set p.2.1.toNat (x.2.2.2.2.2.1.getD p.2.1.toNat []++flitsOf x.1.1 x.1.2.1 p):=rfl
 have at1:(x.2.2.2.2.2.1.set p.2.1.toNat (x.2.2.2.2.2.1.getD p.2.1.toNat []++flitsOf x.1.1 x.1.2.1 p)).getD p.2.1.toNat []=x.2.2.2.2.2.1.getD p.2.1.toNat []++flitsOf x.1.1 x.1.2.1 p:=by
  rw [List.getD_eq_getElem?_getD,List.getElem?_set_self (by omega)];rfl
 have at2:∀k,k≠p.2.1.toNat→(x.2.2.2.2.2.1.set p.2.1.toNat (x.2.2.2.2.2.1.getD p.2.1.toNat []++flitsOf x.1.1 x.1.2.1 p)).getD k []=x.2.2.2.2.2.1.getD k []:=fun k hne=>by
  simp only [List.getD_eq_getElem?_getD]
  rw [List.getElem?_set_ne (fun e=>hne e.symm)]
 obtain ⟨st,fr,sr,w,ps⟩:=g.wf
 show Good (stat x) (list++[p]) x.2.2.1 x.2.2.2.1 x.2.2.2.2.2.2.1 (x.2.2.2.2.2.1.set p.2.1.toNat (x.2.2.2.2.2.1.getD p.2.1.toNat []++flitsOf x.1.1 x.1.2.1 p))
 generalize x.2.2.2.2.2.1.set p.2.1.toNat (x.2.2.2.2.2.1.getD p.2.1.toNat []++flitsOf x.1.1 x.1.2.1 p)=S' at *
 have lS':S'.length=nC x:=by
  have:=congrArg List.length eS
  unfold sendNet withSrc at this
  simp at this
  omega
 have sO:∀(k:Key),(∃q∈list,q.1=k.1∧q.2.2.1=k.2.1∧q.2.2.2.1=k.2.2)→∀s t c:Nat,sentP (list++[p]) k.1 s t c→sentP list k.1 s t c:=fun k ⟨q,hq,e1,_⟩ s t c ⟨r,hr,r1,r2⟩=>by
  rcases List.mem_append.1 hr with hr|hr
  ·exact ⟨r,hr,r1,r2⟩
  ·rw [List.mem_singleton.1 hr] at r1
   exact absurd (e1.trans r1.symm) (hnew q hq)
 have pos':Pos (stat x) (list++[p]) fr sr:=
  ⟨fun j k e=>by obtain ⟨q,hq,e1⟩:=ps.gf j k e;exact ⟨q,List.mem_append_left _ hq,e1⟩,fun j k e=>by obtain ⟨q,hq,e1⟩:=ps.gs j k e;exact ⟨q,List.mem_append_left _ hq,e1⟩,
   fun s t c R L h1 h2 h3 rt j k e hq=>ps.pf s t c R L h1 h2 h3 rt j k e (sO k (ps.gf j k e) s t c hq),fun s t c h1 h2 h3 j k e hq=>ps.ps s t c h1 h2 h3 j k e (sO k (ps.gs j k e) s t c hq)⟩
 refine ⟨g.lB,g.lO,g.lA,lS',g.cl,fun j y hy=>gen y (g.gB j y hy),fun j y hy=>?_,fun t y hy=>⟨gen y (g.gA t y hy).1,(g.gA t y hy).2⟩,g.rc,⟨st,fr,sr,⟨w.o1,w.o2,w.o3,w.w4,w.w5,fun k hk'=>?_,w.w7⟩,pos'⟩,fun s t c R L h1 h2 h3 rt=>?_⟩
 ·by_cases e:j=p.2.1.toNat
  ·subst e
   rw [at1] at hy
   rcases List.mem_append.1 hy with hy|hy
   ·exact gen y (g.gS _ y hy)
   ·exact genp y hy
  ·rw [at2 j e] at hy;exact gen y (g.gS _ y hy)
 ·by_cases e:k=p.2.1.toNat
  ·subst e
   rw [at1]
   exact (w.w6 _ hk').app (Rq hp0)
  ·rw [at2 k e];exact w.w6 k hk'
 ·obtain ⟨z1,z2,z3⟩:=g.fl s t c R L h1 h2 h3 rt
  have eA:(x.2.2.2.2.2.2.1.getD t []).filter (inF (list++[p]) s t c)=(x.2.2.2.2.2.2.1.getD t []).filter (inF list s t c):=List.filter_congr fun y hy=>inO s t c y (g.gA t y hy).1
  have eB:∀j,(x.2.2.1.getD j []).filter (inF (list++[p]) s t c)=(x.2.2.1.getD j []).filter (inF list s t c):=fun j=>List.filter_congr fun y hy=>inO s t c y (g.gB j y hy)
  have eO:∀j,(x.2.2.2.2.2.1.getD j []).filter (inF (list++[p]) s t c)=(x.2.2.2.2.2.1.getD j []).filter (inF list s t c):=fun j=>List.filter_congr fun y hy=>inO s t c y (g.gS j y hy)
  have eF:flowFl (stat x) (list++[p]) s t c=flowFl (stat x) list s t c++(if isFlow s t c p then flitsOf x.1.1 x.1.2.1 p else []):=by
   unfold flowFl
   rw [List.filter_append,List.flatMap_append]
   congr 1
   by_cases e:isFlow s t c p
   ·rw [if_pos e,List.filter_cons_of_pos (by simpa using e)];simp;rfl
   ·rw [if_neg e,List.filter_cons_of_neg (by simpa using e)];rfl
  refine ⟨?_,fun j y hy hF=>z2 j y hy (by rw [← inO s t c y (g.gB j y hy)];exact hF),fun k y hy hF=>?_⟩
  ·rw [eA,Zd L (fun n _=>eB (R n)),eF,← z1]
   have eS2:(S'.getD s []).filter (inF (list++[p]) s t c)=(x.2.2.2.2.2.1.getD s []).filter (inF list s t c)++(if isFlow s t c p then flitsOf x.1.1 x.1.2.1 p else []):=by
    by_cases e:s=p.2.1.toNat
    ·subst e
     rw [at1,List.filter_append,eO]
     congr 1
     by_cases e2:isFlow (p.2.1.toNat:Nat) t c p
     ·rw [if_pos e2,List.filter_eq_self.2]
      intro y hy
      rw [inP _ _ _ y hy];simpa using e2
     ·rw [if_neg e2,List.filter_eq_nil_iff.2]
      intro y hy
      rw [inP _ _ _ y hy];simpa using e2
    ·rw [at2 s e,eO,if_neg,List.append_nil]
     intro e2
     have:=e2.1
     omega
   rw [eS2]
   simp only [List.append_assoc]
  ·by_cases e:k=p.2.1.toNat
   ·subst e
    rw [at1] at hy
    rcases List.mem_append.1 hy with hy|hy
    ·exact z3 _ y hy (by rw [← inO s t c y (g.gS _ y hy)];exact hF)
    ·rw [inP s t c y hy] at hF
     have:=(of_decide_eq_true hF).1
     omega
   ·rw [at2 k e] at hy
    exact z3 k y hy (by rw [← inO s t c y (g.gS _ y hy)];exact hF)
theorem Bq {x:NetD} {list:List PkD} {p:PkD} (hn:netOk x) (hs:sentOk x.1.1 x.1.2.1 list) (hp:packetOk x.1.1 x.1.2.1 p) (hid:p.1=(list.length:Int)+1) (g:GoodN x list):GoodN (sendNet x p) (list++[p]):=
 wa hn (Vl hs) (fun q hq e=>by have:=jd hs q hq;omega) hp g
def GoodC (a:ChipD):Prop:=chipOk a∧GoodN a.1 a.2
theorem Ut {x:NetD} {list:List PkD} (hn:netOk x) (hl:list.length≤200) (hs:sentOk x.1.1 x.1.2.1 list) (g:GoodN x list):GoodC (x,list):=
 ⟨⟨hn,hl,hs,jj hn (Vl hs) g⟩,g⟩
theorem Nx {a:ChipD} (h:GoodC a) (p q r s:Int):GoodC (chipSend a p q r s):=by
 unfold chipSend
 split
 ·rename_i k
  obtain ⟨⟨h1,h2,h3,h4⟩,g⟩:=h
  obtain ⟨_,k2,k3⟩:=k
  have hk:=S6 h1 (nextP a p q r s)
  have e:sendP a.1 (nextP a p q r s)=sendNet a.1 (nextP a p q r s):=if_pos ⟨h1,k3⟩
  rw [e] at hk
  refine Ut hk.ok (by rw [List.length_append];show a.2.length+1≤200;omega) ?_ (Bq h1 h3 k3.1 rfl g)
  have em:=hk.m
  show sentOk (sendNet a.1 _).1.1 (sendNet a.1 _).1.2.1 _
  rw [em]
  intro i hi
  simp at hi
  by_cases e:i<a.2.length
  ·have e2:(a.2++[nextP a p q r s]).getD i pk0=a.2.getD i pk0:=by simp only [List.getD_eq_getElem?_getD];rw [List.getElem?_append_left e]
   rw [e2];exact h3 i e
  ·have e3:i=a.2.length:=by omega
   subst e3
   have e2:(a.2++[nextP a p q r s]).getD a.2.length pk0=nextP a p q r s:=by simp [List.getD_eq_getElem?_getD]
   rw [e2];exact ⟨k3.1,rfl⟩
 ·exact h
theorem E8 {a:ChipD} (h:GoodC a) {k:Nat} (hk:a.1.2.2.2.2.2.2.2+k≤1000000):GoodC (runN a.1 k,a.2):=by
 obtain ⟨⟨h1,h2,h3,h4⟩,g⟩:=h
 obtain ⟨e,g'⟩:=Zl h1.1 (Vl h3) g k
 have e1':(stat (runN a.1 k)).1=(stat a.1).1:=by rw [e]
 have e1:(runN a.1 k).1=a.1.1:=e1'
 exact Ut (Vn h1 k hk) h2 (by show sentOk (runN a.1 k).1.1 (runN a.1 k).1.2.1 a.2;rw [e1];exact h3) g'
theorem Gg {a:ChipD} (h:GoodC a) (hi:idle a.1) {m:MeshD} {t:ClassesD} (hm:m.1=a.1.1.1∧m.2.1=a.1.1.2.1) (hc:classesOk m.1 m.2.1 m.2.2 t.1 t.2):GoodC (fresh a.1 m t,a.2):=by
 obtain ⟨⟨h1,h2,h3,h4⟩,g⟩:=h
 have h1':=h1
 obtain ⟨_,⟨s1,s2,s3,s4,s5⟩,b3,b4,b5,b6,b7⟩:=h1
 have hn:netOk (fresh a.1 m t):=by
  refine ⟨hc,⟨?_,?_,?_,?_,?_⟩,?_,?_,fun o ho=>?_,fun o ho=>?_,b7⟩
  ·show ((a.1.2.2.1.length:Nat):Int)=10*cnt m.1 m.2.1
   rw [hm.1,hm.2];exact s1
  ·show ((List.replicate _ _).length:Int)=10*cnt m.1 m.2.1
   rw [List.length_replicate,hm.1,hm.2];exact s2
  ·show ((List.replicate _ _).length:Int)=5*cnt m.1 m.2.1
   rw [List.length_replicate,hm.1,hm.2];exact s3
  ·show ((a.1.2.2.2.2.2.1.length:Nat):Int)=cnt m.1 m.2.1
   rw [hm.1,hm.2];exact s4
  ·show ((a.1.2.2.2.2.2.2.1.length:Nat):Int)=cnt m.1 m.2.1
   rw [hm.1,hm.2];exact s5
  ·show ∀i,i<a.1.2.2.1.length→bufOk m.1 m.2.1 (a.1.2.2.1.getD i []) ((i:Int)%2)
   rw [hm.1,hm.2];exact b3
  ·show ∀l∈a.1.2.2.2.2.2.1,srcOk m.1 m.2.1 l
   rw [hm.1,hm.2];exact b4
  ·have:=List.eq_of_mem_replicate ho;subst this;unfold inR;omega
  ·have:=List.eq_of_mem_replicate ho;subst this;unfold inR;omega
 exact Ut hn h2 (by show sentOk m.1 m.2.1 a.2;rw [hm.1,hm.2];exact h3) (F6 h1' hi hm (Vl h3) g)
theorem we {m:MeshD} {t:ClassesD} (hc:classesOk m.1 m.2.1 m.2.2 t.1 t.2):GoodN (netNew m t) []:=by
 have e2:netNew m t=(m,t,List.replicate (10*(cnt m.1 m.2.1).toNat) [],List.replicate (10*(cnt m.1 m.2.1).toNat) (-1),List.replicate (5*(cnt m.1 m.2.1).toNat) 0,List.replicate (cnt m.1 m.2.1).toNat [],List.replicate (cnt m.1 m.2.1).toNat [],0):=by
  unfold netNew;rw [if_pos hc]
 have rep:∀n j,(List.replicate n ([]:List FlitD)).getD j []=[]:=fun n j=>by
  rw [List.getD_eq_getElem?_getD,List.getElem?_replicate]
  split<;>rfl
 rw [e2]
 unfold GoodN
 refine Good.still ?_ ?_ ?_ ?_ (rep _) (rep _) (fun o ho=>List.eq_of_mem_replicate ho) (fun t y hy=>?_) (fun t c _ _=>?_) (fun s t c _ _ _=>?_)
 ·show (List.replicate _ _).length=_;rw [List.length_replicate];rfl
 ·show (List.replicate _ _).length=_;rw [List.length_replicate];rfl
 ·show (List.replicate _ _).length=_;rw [List.length_replicate];rfl
 ·show (List.replicate _ _).length=_;rw [List.length_replicate];rfl
 ·have hy:y∈(List.replicate (cnt m.1 m.2.1).toNat ([]:List FlitD)).getD t []:=hy
  rw [rep] at hy;simp at hy
 ·show Str none (((List.replicate (cnt m.1 m.2.1).toNat ([]:List FlitD)).getD t []).filter _) none
  rw [rep];rfl
 ·show ((List.replicate (cnt m.1 m.2.1).toNat ([]:List FlitD)).getD t []).filter _=_
  rw [rep];rfl
theorem yv {w h:Int} (g:okG w h):GoodC (chipNew w h):=by
 have hc:=Oi g
 have e:chipNew w h=(netNew (w,h,[]) (splitT w h),[]):=if_pos g
 rw [e]
 obtain ⟨hn,k2,_,_⟩:=Vc (m:=(w,h,[])) (t:=splitT w h) hc
 have e2:netNew (w,h,[]) (splitT w h)=((w,h,[]),splitT w h,List.replicate (10*(cnt w h).toNat) [],List.replicate (10*(cnt w h).toNat) (-1),List.replicate (5*(cnt w h).toNat) 0,List.replicate (cnt w h).toNat [],List.replicate (cnt w h).toNat [],0):=by
  unfold netNew;rw [if_pos hc]
 have rep:∀n j,(List.replicate n ([]:List FlitD)).getD j []=[]:=fun n j=>by
  rw [List.getD_eq_getElem?_getD,List.getElem?_replicate]
  split<;>rfl
 refine Ut hn (by simp) (fun i hi=>by simp at hi) ?_
 rw [e2]
 unfold GoodN
 refine Good.still ?_ ?_ ?_ ?_ (rep _) (rep _) (fun o ho=>List.eq_of_mem_replicate ho) (fun t y hy=>?_) (fun t c _ _=>?_) (fun s t c _ _ _=>?_)
 ·show (List.replicate _ _).length=_;rw [List.length_replicate];rfl
 ·show (List.replicate _ _).length=_;rw [List.length_replicate];rfl
 ·show (List.replicate _ _).length=_;rw [List.length_replicate];rfl
 ·show (List.replicate _ _).length=_;rw [List.length_replicate];rfl
 ·have hy:y∈(List.replicate (cnt w h).toNat ([]:List FlitD)).getD t []:=hy
  rw [rep] at hy;simp at hy
 ·show Str none (((List.replicate (cnt w h).toNat ([]:List FlitD)).getD t []).filter _) none
  rw [rep];rfl
 ·show ((List.replicate (cnt w h).toNat ([]:List FlitD)).getD t []).filter _=_
  rw [rep];rfl
structure Ranked (x:NetD) (ρ:Nat→Nat):Prop where
 lt:∀j,ρ j<1000
 up:∀(s t c:Nat) R L,s<nC x→t<nC x→c<2→Route x s t c R L→∀n,n<L→ρ (R n)<ρ (R (n+1))
theorem Ef {x:NetD} {a p:Nat} {st:List GrD×List Bool} (h:(grStep x a st p).1=[]):st.1=[]∧grStep x a st p=st∧¬0≤pickN x a p st.2:=by
 unfold grStep at h ⊢
 split at h
 ·simp at h
 ·rename_i g;rw [if_neg g];exact ⟨h,rfl,g⟩
theorem Jt (x:NetD) (a:Nat):∀p,(grTo x a p).1=[]→(grTo x a p).2=List.replicate 5 false∧∀q,q<p→¬0≤pickN x a q (List.replicate 5 false)
 | 0,_=>⟨rfl,fun q h=>by omega⟩
 | p+1,h=>by
  rw [Zb] at h
  obtain ⟨h1,h2,h3⟩:=Ef h
  obtain ⟨i1,i2⟩:=Jt x a p h1
  rw [Zb,h2]
  refine ⟨i1,fun q hq=>?_⟩
  by_cases e:q=p
  ·subst e;rw [i1] at h3;exact h3
  ·exact i2 q (by omega)
theorem Da {t:Int} {y:Int} {l:List Int} (h:∀z∈y::l,0≤z):0≤firstF t (y::l):=by
 unfold firstF
 rw [List.foldl_cons,if_pos (.inl (by omega))]
 rcases Va t l y with e|e
 ·rw [e];exact h y (List.mem_cons_self ..)
 ·exact h _ (List.mem_cons_of_mem _ e)
theorem Qby {x:NetD} {a:Nat} (h:grN x a=[]) {p i:Nat} (hp:p<5) (hi:i<10):¬reqN x a i p:=fun r=>by
 have:=(Jt x a 5 h).2 p hp
 apply this
 have hm:i∈freeN x a p (List.replicate 5 false):=by
  unfold freeN reqsN
  refine List.mem_filter.2 ⟨List.mem_filter.2 ⟨List.mem_range.2 hi,by simpa using r⟩,?_⟩
  have:(List.replicate 5 false).getD (i/2) false=false:=by
   rw [List.getD_eq_getElem?_getD,List.getElem?_replicate];split<;>rfl
  rw [this];rfl
 unfold pickN
 cases hl:freeN x a p (List.replicate 5 false) with
 | nil=>rw [hl] at hm;simp at hm
 | cons b l=>
  rw [List.map_cons]
  refine Da fun z hz=>?_
  rw [← List.map_cons (f:=Int.ofNat)] at hz
  obtain ⟨n,_,rfl⟩:=List.mem_map.1 hz
  exact Int.natCast_nonneg n
theorem Qa4 {x:NetD} (h:allN x=[]) {a:Nat} (ha:a<nC x):grN x a=[]:=by
 unfold allN allTo at h
 rw [List.flatMap_eq_nil_iff] at h
 exact h a (List.mem_range.2 ha)
section
variable {x:NetD} {list:List PkD} {ρ:Nat→Nat} (hn:netOk x) (h:Sent (stat x) list) (g:GoodN x list) (rk:Ranked (stat x) ρ) (hA:allN x=[]) (hE:enterN x=[])
include h g
theorem Gy {a i:Nat} {y:FlitD} (ha:a<nC x) (hi:i<10) (hy:y∈x.2.2.1.getD (10*a+i) []) (hn:netOk x):∃(s t:Nat) (R:Nat→Nat) (L n:Nat),s<nC x∧t<nC x∧Route (stat x) s t (i%2) R L∧n≤L∧10*a+i=R n∧y.2.1=(t:Int):=by
 obtain ⟨p,hp,e1,e2,e3⟩:=g.gB _ y hy
 obtain ⟨_,⟨q1,q2⟩,⟨q3,q4⟩,_,q5,_⟩:=h.ok p hp
 have hnn:=Yj x
 have q2':p.2.1<cnt x.1.1 x.1.2.1:=q2
 have q4':p.2.2.1<cnt x.1.1 x.1.2.1:=q4
 unfold inR at q5
 have ec:=g.cl _ y hy
 have c1:p.2.2.2.1=((i%2:Nat):Int):=by rw [e3,ec];omega
 have s1:p.2.1=((p.2.1.toNat:Nat):Int):=by omega
 have t1:p.2.2.1=((p.2.2.1.toNat:Nat):Int):=by omega
 obtain ⟨R,L,rt⟩:=Zg (x:=stat x) (W9 (x:=stat x) hn.1) (s:=p.2.1.toNat) (t:=p.2.2.1.toNat) (c:=i%2) (show _<nC x by omega) (show _<nC x by omega) (by omega)
 obtain ⟨n,hn1,hn2⟩:=(g.fl _ _ _ R L (show _<nC x by omega) (show _<nC x by omega) (by omega) rt).z2 _ y hy (by unfold inF;rw [decide_eq_true_eq];exact ⟨p,hp,e1,s1,t1,c1⟩)
 exact ⟨_,_,R,L,n,by omega,by omega,rt,hn1,hn2,by rw [← e2];exact t1⟩
include hn rk
theorem Mi {a i p:Nat} {y:FlitD} (ha:a<nC x) (hi:i<10) (hy:y∈x.2.2.1.getD (10*a+i) []) (hp:pO x a (i%2) y.2.1=(p:Int)) (h4:p≠4):p<4∧hasP x a p∧ρ (10*a+i)<ρ (tgt x a p (i%2)):=by
 obtain ⟨s,t,R,L,n,h1,h2,rt,h3,h5,h6⟩:=Gy h g ha hi hy hn
 have ea:R n/10=a:=by omega
 rw [h6] at hp
 rcases Nat.lt_or_ge n L with hL|hL
 ·obtain ⟨p',p1,p2,p3,p4⟩:=rt.rs n hL
  have p2':pO x (R n/10) (i%2) t=(p':Int):=p2
  rw [ea,hp] at p2'
  have:p=p':=by omega
  subst this
  rw [ea] at p3 p4
  have:=rk.up s t (i%2) R L h1 h2 (by omega) rt n hL
  rw [p3,← h5] at this
  exact ⟨p1,p4,this⟩
 ·have:n=L:=by omega
  subst this
  have r4:pO x t (i%2) t=4:=rt.r4
  have rt':=rt.rt
  rw [ea] at rt'
  rw [rt',r4] at hp
  omega
include hA
theorem Sk {a i p:Nat} {y:FlitD} {r:List FlitD} (ha:a<nC x) (hi:i<10) (hp:p<5) (hj:x.2.2.1.getD (10*a+i) []=y::r) (hw:wantedN x a i=(p:Int)) (hpo:pO x a (i%2) y.2.1=(p:Int)) (ho:x.2.2.2.1.getD (outAt a p (i%2)) 0=if y.2.2.2.1 then -1 else ((i/2:Nat):Int)) :
 p<4∧x.2.2.1.getD (tgt x a p (i%2)) []≠[]∧ρ (10*a+i)<ρ (tgt x a p (i%2)):=by
 have eh:headOf x (10*a+i)=y:=by unfold headOf;rw [hj];rfl
 have nr:=Qby (Qa4 hA ha) hp hi
 have hm:y∈x.2.2.1.getD (10*a+i) []:=by rw [hj];exact List.mem_cons_self ..
 have nroom:¬roomN x a p (i%2):=fun k=>nr ⟨hw,k,by rw [eh];exact ho⟩
 have h4:p≠4:=fun e=>nroom (.inl e)
 obtain ⟨n1,n2,n3⟩:=Mi hn h g rk ha hi hm hpo h4
 refine ⟨n1,fun e=>nroom (.inr ⟨n2,?_⟩),n3⟩
 rw [e];simp
theorem Vz {st fr sr:Nat→Option Key} (w:Wf (stat x) x.2.2.1 x.2.2.2.1 x.2.2.2.2.2.2.1 x.2.2.2.2.2.1 st fr sr) {a i p:Nat} {y:FlitD} {r:List FlitD} {k:Key} (ha:a<nC x) (hi:i<10) (hp:p<5) (hj:x.2.2.1.getD (10*a+i) []=y::r) (hf:fr (10*a+i)=some k)
 (ho:x.2.2.2.1.getD (outAt a p (i%2)) 0=((i/2:Nat):Int)) (hs:∃u,Str (fr (10*a+i)) (y::r) u):y.2.2.2.1=false∧wantedN x a i=(p:Int)∧pO x a (i%2) y.2.1=(p:Int):=by
 obtain ⟨u,hu⟩:=hs
 obtain ⟨b,rfl⟩:=Pe hu.pop.1 hf
 have ei:10*a+2*(i/2)+i%2=10*a+i:=by omega
 have only:∀p',p'<5→x.2.2.2.1.getD (outAt a p' (i%2)) 0=((i/2:Nat):Int)→pO x a (i%2) y.2.1=(p':Int):=fun p' hp' e=>by
  obtain ⟨k,_,k2,k3⟩:=w.o2 a p' (i%2) (i/2) ha hp' (by omega) (by omega) e
  rw [ei,hf] at k2
  have:fkey y=k:=by simpa using k2
  subst this
  exact k3
 have eh:headOf x (10*a+i)=y:=by unfold headOf;rw [hj];rfl
 refine ⟨b,?_,only p hp ho⟩
 unfold wantedN
 rw [if_neg (by rw [hj];simp),eh,if_neg (by simp [b])]
 cases hf2:(List.range 5).find? (fun p=>decide (x.2.2.2.1.getD (outAt a p (i%2)) 0=((i/2:Nat):Int))) with
 | none=>
  have:=List.find?_eq_none.1 hf2 p (List.mem_range.2 hp)
  simp at this
  exact absurd ho (by simpa using this)
 | some p'=>
  have e1:=List.find?_some hf2
  have e2:=List.mem_range.1 (List.mem_of_find?_eq_some hf2)
  have e3:=only p' e2 (by simpa using e1)
  rw [only p hp ho] at e3
  exact e3.symm
end
section
variable {x:NetD} {list:List PkD} {ρ:Nat→Nat} (hn:netOk x) (h:Sent (stat x) list) (g:GoodN x list) (rk:Ranked (stat x) ρ) (hA:allN x=[]) (hE:enterN x=[])
include hn h g rk hA
theorem Mq {a p c:Nat} (ha:a<nC x) (hp:p<5) (hc:c<2) : -1≤x.2.2.2.1.getD (outAt a p c) 0∧x.2.2.2.1.getD (outAt a p c) 0≤4:=by
 have hl:outAt a p c<x.2.2.2.1.length:=by have:x.2.2.2.1.length=10*nC x:=g.lO;unfold outAt;omega
 have:=hn.2.2.2.2.1 _ (List.getElem_mem hl)
 rw [List.getD_eq_getElem?_getD,List.getElem?_eq_getElem hl]
 exact this
include hE
theorem Ix {k:Nat} (hk:k<nC x):¬entersN x k:=fun e=>by
 have:k∈enterN x:=List.mem_filter.2 ⟨List.mem_range.2 hk,by simpa using e⟩
 rw [hE] at this;simp at this
theorem chase {st fr sr:Nat→Option Key} (w:Wf (stat x) x.2.2.1 x.2.2.2.1 x.2.2.2.2.2.2.1 x.2.2.2.2.2.1 st fr sr) (ps:Pos (stat x) list fr sr) {s t c:Nat} {R:Nat→Nat} {L:Nat} (hs:s<nC x) (ht:t<nC x) (hc:c<2) (rt:Route (stat x) s t c R L) {k:Key} (hk:sentP list k.1 s t c) (kc:k.2.2=(c:Int)) :
 ∀n,n≤L→fr (R n)=some k→x.2.2.1.getD (R n) []=[]→False
 | 0,_,hf,hb=>by
  have r0:=rt.r0
  have w5:=w.w5 s c hs hc
  rw [← r0,hb,hf] at w5
  have w5:some k=inc (sr s) c:=w5
  have hsr:sr s=some k:=by
   cases hq:sr s with
   | none=>rw [hq] at w5;simp [inc] at w5
   | some q=>
    rw [hq] at w5
    simp only [inc] at w5
    split at w5
    ·exact w5.symm
    ·simp at w5
  have w6:=w.w6 s hs
  rw [hsr] at w6
  have hne:x.2.2.2.2.2.1.getD s []≠[]:=fun e=>by
   rw [e] at w6
   have:some k=(none:Option Key):=w6
   simp at this
  have hS:=X1 hne
  rw [hS] at w6
  obtain ⟨b,kk⟩:=Pe w6.pop.1 rfl
  have cls:(srcHead x s).2.2.1=(c:Int):=by
   have:fkey (srcHead x s)=k:=kk.symm
   rw [← kc,← this];rfl
  have ea:entAt x s=R 0:=by rw [r0];unfold entAt;rw [cls];omega
  exact Ix hn h g rk hA hE hs ⟨hne,by rw [ea,hb];simp⟩
 | n+1,hL,hf,hb=>by
  obtain ⟨p',p1,p2,p3,p4⟩:=rt.rs n (by omega)
  have hlt:=rt.lt n (by omega)
  have ha:R n/10<nC x:=by have:R n<10*nC x:=hlt;omega
  have w4:=w.w4 (R n/10) p' c ha p1 hc p4
  rw [← p3,hb,hf] at w4
  have w4:some k=st (outAt (R n/10) p' c):=w4
  obtain ⟨o1,o2⟩:=Mq hn h g rk hA ha (show p'<5 by omega) hc
  by_cases e1:x.2.2.2.1.getD (outAt (R n/10) p' c) 0=-1
  ·have:=w.o1 (R n/10) p' c ha (by omega) hc e1
   rw [this] at w4;simp at w4
  ·obtain ⟨q,hq⟩:∃q:Nat,x.2.2.2.1.getD (outAt (R n/10) p' c) 0=(q:Int):=⟨(x.2.2.2.1.getD (outAt (R n/10) p' c) 0).toNat,by omega⟩
   obtain ⟨k',k1,k2,k3⟩:=w.o2 (R n/10) p' c q ha (by omega) hc (by omega) hq
   rw [← w4] at k1
   have:k=k':=by simpa using k1
   subst this
   obtain ⟨m,hm,em⟩:=ps.pf s t c R L hs ht hc rt _ k k2 hk
   have:m=n:=rt.ij m n hm (by omega) (by omega)
   subst this
   rw [em] at k2
   by_cases hb2:x.2.2.1.getD (R m) []=[]
   ·exact chase w ps hs ht hc rt hk kc m (by omega) k2 hb2
   ·have hB:=X1 hb2
    have md:=rt.md m (by omega)
    have ei:10*(R m/10)+R m%10=R m:=by omega
    have ec:R m%10%2=c:=by omega
    have eq2:R m%10/2=q:=by omega
    have hs':∃u,Str (fr (10*(R m/10)+R m%10)) (headL (x.2.2.1.getD (R m) [])::(x.2.2.1.getD (R m) []).drop 1) u:=by
     rw [ei,← hB]
     rcases g.rc (R m) hb2 with ⟨a',p',c',h1,h2,h3,h4,e⟩|⟨k',c',h1,h2,e⟩
     ·have:=w.w4 a' p' c' h1 h2 h3 h4
      rw [← e] at this;exact ⟨_,this⟩
     ·have:=w.w5 k' c' h1 h2
      rw [← e] at this;exact ⟨_,this⟩
    have hj:x.2.2.1.getD (10*(R m/10)+R m%10) []=headL (x.2.2.1.getD (R m) [])::(x.2.2.1.getD (R m) []).drop 1:=by rw [ei];exact hB
    obtain ⟨b1,b2,b3⟩:=Vz hn h g rk hA w ha (show R m%10<10 by omega) (show p'<5 by omega) hj (by rw [ei];exact k2) (by rw [ec,eq2];exact hq) hs'
    obtain ⟨_,f2,_⟩:=Sk hn h g rk hA ha (show R m%10<10 by omega) (show p'<5 by omega) hj b2 b3 (by rw [ec,eq2,if_neg (by rw [b1];simp)];exact hq)
    rw [ec] at f2
    have p3':R (m+1)=tgt x (R m/10) p' c:=p3
    rw [← p3'] at f2
    exact f2 hb
theorem Ec:∀(d j:Nat),1000-ρ j≤d→x.2.2.1.getD j []≠[]→False
 | d,j,hd,hne=>by
  obtain ⟨st,fr,sr,w,ps⟩:=g.wf
  have hB:=X1 hne
  generalize headL (x.2.2.1.getD j [])=y at hB
  generalize (x.2.2.1.getD j []).drop 1=r at hB
  have hl:j<10*nC x:=by
   have:=C9 hB
   have lb:x.2.2.1.length=10*nC x:=g.lB
   omega
  obtain ⟨a,i,ha,hi,rfl⟩:∃a i,a<nC x∧i<10∧j=10*a+i:=⟨j/10,j%10,by omega,by omega,by omega⟩
  have hm:y∈x.2.2.1.getD (10*a+i) []:=by rw [hB];exact List.mem_cons_self ..
  have r1:=rk.lt (10*a+i)
  have hs:∃u,Str (fr (10*a+i)) (y::r) u:=by
   rw [← hB]
   rcases g.rc (10*a+i) hne with ⟨a',p',c',h1,h2,h3,h4,e⟩|⟨k',c',h1,h2,e⟩
   ·have:=w.w4 a' p' c' h1 h2 h3 h4
    rw [← e] at this;exact ⟨_,this⟩
   ·have:=w.w5 k' c' h1 h2
    rw [← e] at this;exact ⟨_,this⟩
  have hs':=hs
  obtain ⟨u,hu⟩:=hs
  have ok:=hu.pop.1
  have ei:10*a+2*(i/2)+i%2=10*a+i:=by omega
  have eh:headOf x (10*a+i)=y:=by unfold headOf;rw [hB];rfl
  have step:∀p:Nat,p<5→wantedN x a i=(p:Int)→pO x a (i%2) y.2.1=(p:Int)→(x.2.2.2.1.getD (outAt a p (i%2)) 0=if y.2.2.2.1 then -1 else ((i/2:Nat):Int))→False:=fun p hp hw hpo ho=>by
   obtain ⟨f1,f2,f3⟩:=Sk hn h g rk hA ha hi hp hB hw hpo ho
   have r2:=rk.lt (tgt x a p (i%2))
   cases d with
   | zero=>omega
   | succ d=>exact Ec d (tgt x a p (i%2)) (by omega) f2
  cases hh:y.2.2.2.1 with
  | false=>
   have hf:=Ad ok hh
   obtain ⟨p,hp,ho⟩:=w.o3 a (i/2) (i%2) (fkey y) ha (by omega) (by omega) (by rw [ei];exact hf)
   obtain ⟨b1,b2,b3⟩:=Vz hn h g rk hA w ha hi hp hB hf ho hs'
   exact step p hp b2 b3 (by rw [if_neg (by simp [hh])];exact ho)
  | true=>
   obtain ⟨s,t,R,L,n,h1,h2,rt,h3,h5,h6⟩:=Gy h g ha hi hm hn
   have hp:∃p:Nat,p<5∧pO x a (i%2) y.2.1=(p:Int):=by
    have tk:=W9 (x:=x) hn.1
    have hnn:=Yj x
    have:=Cj (tk (i%2) (by omega)) (a:=(a:Int)) (c:=y.2.1) ⟨by omega,by omega⟩ (by rw [h6];exact ⟨by omega,by omega⟩)
    unfold inR at this
    exact ⟨(pO x a (i%2) y.2.1).toNat,by unfold pO;omega,by unfold pO;omega⟩
   obtain ⟨p,hp,hpo⟩:=hp
   have hw:wantedN x a i=(p:Int):=by
    unfold wantedN
    rw [if_neg hne,eh,if_pos hh]
    exact hpo
   obtain ⟨o1,o2⟩:=Mq hn h g rk hA ha hp (show i%2<2 by omega)
   by_cases e1:x.2.2.2.1.getD (outAt a p (i%2)) 0=-1
   ·exact step p hp hw hpo (by rw [if_pos hh];exact e1)
   ·obtain ⟨q,hq⟩:∃q:Nat,x.2.2.2.1.getD (outAt a p (i%2)) 0=(q:Int):=⟨(x.2.2.2.1.getD (outAt a p (i%2)) 0).toNat,by omega⟩
    obtain ⟨k,k1,k2,k3⟩:=w.o2 a p (i%2) q ha hp (by omega) (by omega) hq
    -- the way of the packet that holds the channel
    obtain ⟨p0,hp0,g1,g2,g3⟩:=ps.gf _ k k2
    obtain ⟨_,⟨q1,q2⟩,⟨q3,q4⟩,_,q5,_⟩:=h.ok p0 hp0
    have hnn:=Yj x
    have q2':p0.2.1<cnt x.1.1 x.1.2.1:=q2
    have q4':p0.2.2.1<cnt x.1.1 x.1.2.1:=q4
    unfold inR at q5
    have hsn:sentP list k.1 (p0.2.1.toNat:Nat) (p0.2.2.1.toNat:Nat) (p0.2.2.2.1.toNat:Nat):=⟨p0,hp0,g1,by omega,by omega,by omega⟩
    obtain ⟨R1,L1,rt1⟩:=Zg (x:=stat x) (W9 (x:=stat x) hn.1) (s:=p0.2.1.toNat) (t:=p0.2.2.1.toNat) (c:=p0.2.2.2.1.toNat) (show _<nC x by omega) (show _<nC x by omega) (by omega)
    obtain ⟨n1,hn1,e2⟩:=ps.pf _ _ _ R1 L1 (show _<nC x by omega) (show _<nC x by omega) (by omega) rt1 _ k k2 hsn
    have md1:=rt1.md n1 hn1
    have ec:p0.2.2.2.1.toNat=i%2:=by omega
    by_cases hb:x.2.2.1.getD (10*a+2*q+i%2) []=[]
    ·exact chase hn h g rk hA hE w ps (show _<nC x by omega) (show _<nC x by omega) (by omega) rt1 hsn (by rw [← g3];omega) n1 hn1 (by rw [← e2];exact k2) (by rw [← e2];exact hb)
    ·have hB2:=X1 hb
     have ej:10*a+(2*q+i%2)=10*a+2*q+i%2:=by omega
     have hs2:∃u,Str (fr (10*a+(2*q+i%2))) (headL (x.2.2.1.getD (10*a+2*q+i%2) [])::(x.2.2.1.getD (10*a+2*q+i%2) []).drop 1) u:=by
      rw [ej,← hB2]
      rcases g.rc (10*a+2*q+i%2) hb with ⟨a',p',c',h1,h2,h3,h4,e⟩|⟨k',c',h1,h2,e⟩
      ·have:=w.w4 a' p' c' h1 h2 h3 h4
       rw [← e] at this;exact ⟨_,this⟩
      ·have:=w.w5 k' c' h1 h2
       rw [← e] at this;exact ⟨_,this⟩
     have m1:(2*q+i%2)%2=i%2:=by omega
     have m2:(2*q+i%2)/2=q:=by omega
     have hj2:x.2.2.1.getD (10*a+(2*q+i%2)) []=headL (x.2.2.1.getD (10*a+2*q+i%2) [])::(x.2.2.1.getD (10*a+2*q+i%2) []).drop 1:=by rw [ej];exact hB2
     obtain ⟨b1,b2,b3⟩:=Vz hn h g rk hA w ha (show 2*q+i%2<10 by omega) hp hj2 (by rw [ej];exact k2) (by rw [m1,m2];exact hq) hs2
     obtain ⟨f1,f2,_⟩:=Sk hn h g rk hA ha (show 2*q+i%2<10 by omega) hp hj2 b2 b3 (by rw [m1,m2,if_neg (by rw [b1];simp)];exact hq)
     rw [m1] at f2
     obtain ⟨_,_,f3⟩:=Mi hn h g rk ha hi hm hpo (by omega)
     have r2:=rk.lt (tgt x a p (i%2))
     cases d with
     | zero=>omega
     | succ d=>exact Ec d (tgt x a p (i%2)) (by omega) f2
 termination_by d=>d
theorem Es:idle x:=by
 have hb:∀j,x.2.2.1.getD j []=[]:=fun j=>by
  by_cases e:x.2.2.1.getD j []=[]
  ·exact e
  ·exact (Ec hn h g rk hA hE _ j (Nat.le_refl _) e).elim
 have hs:∀j,x.2.2.2.2.2.1.getD j []=[]:=fun j=>by
  by_cases hj:j<nC x
  ·by_cases e:x.2.2.2.2.2.1.getD j []=[]
   ·exact e
   ·exact (Ix hn h g rk hA hE hj ⟨e,by rw [hb];simp⟩).elim
  ·have lS:x.2.2.2.2.2.1.length=nC x:=g.lS
   simp [List.getD_eq_getElem?_getD,List.getElem?_eq_none (show x.2.2.2.2.2.1.length≤j by omega)]
 have zero:∀S:SSD,(∀j,S.getD j []=[])→flits S=0:=fun S hS=>by
  unfold flits ahead
  rw [List.take_length]
  have:S.map List.length=List.replicate S.length 0:=by
   apply List.ext_getElem
   ·simp
   ·intro i h1 h2
    have:=hS i
    simp at h1
    rw [Rz h1] at this
    simp [this]
  rw [this];simp
 exact ⟨zero _ hb,zero _ hs⟩
end
def hop (x:NetD) (c:Nat) (a t:Int):Nat:=(walk x.1.1 x.1.2.1 x.1.2.2 (tabC x c) a t).length
theorem Em {x:NetD} (h:tabsOk x) {t c:Nat} (ht:t<nC x) (hc:c<2) {a:Int} {L:Nat} (hL:L≤nC x) (e:itN (nuT x.1.1 x.1.2.1 (tabC x c) t) L a=t) (hs:∀n,n<L→stepOk x.1.1 x.1.2.1 x.1.2.2 (tabC x c) (itN (nuT x.1.1 x.1.2.1 (tabC x c) t) n a) t):hop x c a t=L:=by
 unfold hop walk
 rw [Im _ _ _ _ _ (Sj h ht hc) L (cnt x.1.1 x.1.2.1).toNat a [] hL e hs]
 simp
theorem J6 {x:NetD} (h:tabsOk x) {a t c p:Nat} (ha:a<nC x) (ht:t<nC x) (hc:c<2) (hne:a≠t) (hp:pO x a c t=(p:Int)):hop x c a t=hop x c (next x.1.1 x.1.2.1 a p) t+1:=by
 obtain ⟨L,h0,h1,h2⟩:=Up _ _ _ _ _ _ _ _ (((h c hc).2 a ha t ht).2 hne)
 have h0:L≤nC x:=h0
 cases L with
 | zero=>have:(a:Int)=t:=h1;omega
 | succ L=>
  have e:nuT x.1.1 x.1.2.1 (tabC x c) t a=next x.1.1 x.1.2.1 a p:=by
   unfold nuT
   have:portOf x.1.1 x.1.2.1 (tabC x c) a t=(p:Int):=hp
   rw [this]
  rw [Em h ht hc h0 h1 h2,Em h ht hc (L:=L) (by omega) (by rw [← e,← Qz];exact h1) (fun n hn=>by rw [← e,← Qz];exact h2 (n+1) (by omega))]
def wb (x:NetD) (j:Nat) (y:FlitD):Nat:=hop x (j%2) ((j/10:Nat):Int) y.2.1+1
def ws (x:NetD) (k:Nat) (y:FlitD):Nat:=hop x y.2.2.1.toNat (k:Int) y.2.1+2
def sumL (f:Nat→FlitD→Nat) (j:Nat) (l:List FlitD):Nat:=(l.map (f j)).sum
def sumS (f:Nat→FlitD→Nat) (S:SSD):Nat:=((List.range S.length).map fun j=>sumL f j (S.getD j [])).sum
theorem Cz {F G:Nat→Nat} {k:Nat} (h:∀j,j≠k→F j=G j):∀n,(k<n→((List.range n).map F).sum+G k=((List.range n).map G).sum+F k)∧(n≤k→((List.range n).map F).sum=((List.range n).map G).sum)
 | 0=>⟨fun h=>by omega,fun _=>rfl⟩
 | n+1=>by
  obtain ⟨i1,i2⟩:=Cz h n
  simp only [List.range_succ,List.map_append,List.sum_append,List.map_cons,List.map_nil,List.sum_cons,List.sum_nil,Nat.add_zero]
  constructor
  ·intro hk
   by_cases e:k=n
   ·subst e;rw [i2 (Nat.le_refl _)];omega
   ·have:=i1 (by omega);have:=h n (by omega);omega
  ·intro hk
   rw [i2 (by omega),h n (by omega)]
theorem Oj (f:Nat→FlitD→Nat) {S:SSD} {k:Nat} (g:List FlitD→List FlitD) (hk:k<S.length):sumS f (upd S k g)+sumL f k (S.getD k [])=sumS f S+sumL f k (g (S.getD k [])):=by
 have:=(Cz (F:=fun j=>sumL f j ((upd S k g).getD j [])) (G:=fun j=>sumL f j (S.getD j [])) (k:=k) (fun j hj=>by
  show sumL f j ((upd S k g).getD j [])=_
  rw [Qy _ (fun e=>hj e.symm)]) S.length).1 hk
 unfold sumS
 rw [Z8]
 rw [Wn _ hk] at this
 exact this
theorem Cl (f:Nat→FlitD→Nat) {S:SSD} {k:Nat} {y:FlitD} {r:List FlitD} (hj:S.getD k []=y::r):sumS f (upd S k (List.drop 1))+f k y=sumS f S:=by
 have:=Oj f (List.drop 1) (C9 hj)
 rw [hj] at this
 simp [sumL] at this
 omega
theorem Je (f:Nat→FlitD→Nat) {S:SSD} {k:Nat} (y:FlitD) (hk:k<S.length):sumS f (upd S k (·++[y]))=sumS f S+f k y:=by
 have:=Oj f (·++[y]) hk
 simp [sumL] at this
 omega
theorem Good.port {x:NetD} {list:List PkD} {B:SSD} {O:List Int} {A S:SSD} (g:Good x list B O A S) {a p i:Nat} {y:FlitD} {r:List FlitD} (k:Can x B O a p i y r):pO x a (i%2) y.2.1=(p:Int):=by
 obtain ⟨st,fr,sr,w,ps⟩:=g.wf
 have hj:=k.hj
 have hs:∃u,Str (fr (10*a+i)) (y::r) u:=by
  rcases g.rc (10*a+i) (by rw [hj];simp) with ⟨a',p',c',h1,h2,h3,h4,e⟩|⟨k',c',h1,h2,e⟩
  ·have:=w.w4 a' p' c' h1 h2 h3 h4
   rw [← e,hj] at this;exact ⟨_,this⟩
  ·have:=w.w5 k' c' h1 h2
   rw [← e,hj] at this;exact ⟨_,this⟩
 exact (w.move g.lB g.lO g.lA g.cl k hs).1
theorem yh {x:NetD} {list:List PkD} {B:SSD} {O:List Int} {A S:SSD} (g:Good x list B O A S) (h:Sent x list) (tk:tabsOk x) {a p i:Nat} {y:FlitD} {r:List FlitD} (k:Can x B O a p i y r):sumS (wb x) (mvB x B a p i y)+1≤sumS (wb x) B:=by
 have hp:=g.port k
 have hj:=k.hj
 have hm:y∈B.getD (10*a+i) []:=by rw [hj];exact List.mem_cons_self ..
 obtain ⟨t,c,ht,hc,et,ec⟩:=Lk h (g.gB _ y hm)
 have h1:=Cl (wb x) hj
 have ha:=k.ha
 have hi:=k.hi
 have hp5:=k.hp
 unfold mvB
 split
 ·have:1≤wb x (10*a+i) y:=by unfold wb;omega
  omega
 ·rename_i h4
  have hr:=k.room.resolve_left h4
  obtain ⟨t1,t2,t3,t4⟩:=Y9 (c:=i%2) hr (by omega) (by omega)
  rw [Je (wb x) y (by rw [Z8,g.lB];exact t1)]
  rw [et] at hp
  have hne:a≠t:=fun e=>by
   subst e
   have:=Sj tk ha (show i%2<2 by omega)
   rw [this] at hp;omega
  have e1:wb x (10*a+i) y=hop x (i%2) (a:Int) t+1:=by
   unfold wb
   rw [et,show (10*a+i)%2=i%2 by omega,show (10*a+i)/10=a by omega]
  have e2:wb x (tgt x a p (i%2)) y=hop x (i%2) (next x.1.1 x.1.2.1 a p) t+1:=by
   unfold wb
   rw [et,t2,t3]
  rw [J6 tk ha ht (show i%2<2 by omega) hne hp] at e1
  omega
theorem qt {x:NetD} {list:List PkD} {B:SSD} {O:List Int} {A S:SSD} (g:Good x list B O A S) {k c:Nat} {y:FlitD} {r:List FlitD} (hk:k<nC x) (hc:c<2) (ec:y.2.2.1=(c:Int)) (hj:S.getD k []=y::r):sumS (wb x) (upd B (10*k+8+c) (·++[y]))+sumS (ws x) (upd S k (List.drop 1))+1=sumS (wb x) B+sumS (ws x) S:=by
 have h1:=Cl (ws x) hj
 have h2:=Je (wb x) y (S:=B) (k:=10*k+8+c) (by rw [g.lB];omega)
 have e1:wb x (10*k+8+c) y=hop x c (k:Int) y.2.1+1:=by
  unfold wb
  rw [show (10*k+8+c)%2=c by omega,show (10*k+8+c)/10=k by omega]
 have e2:ws x k y=hop x c (k:Int) y.2.1+2:=by
  unfold ws
  rw [ec];rfl
 omega
theorem Pg {x:NetD} {list:List PkD} (h:Sent (stat x) list) (tk:tabsOk (stat x)):∀(l:List GrD) {B:SSD} {O:List Int} {A S:SSD},Good (stat x) list B O A S→(l.map frm).Nodup→(l.map key).Nodup→(∀g∈l,(g.1<nC x∧g.2.1<5∧g.2.2<10∧reqN x g.1 g.2.2 g.2.1)∧Fits x B O g)→
 sumS (wb (stat x)) (l.foldl (bothS x) B)+l.length≤sumS (wb (stat x)) B
 | [],B,O,A,S,g,_,_,_=>Nat.le_refl _
 | a::l,B,O,A,S,g,n1,n2,hf=>by
  obtain ⟨p1,p2⟩:=List.nodup_cons.1 n1
  obtain ⟨q1,q2⟩:=List.nodup_cons.1 n2
  obtain ⟨ha,fa⟩:=hf a (List.mem_cons_self ..)
  have g':=g.move h tk (F7 ha fa)
  have m1:=yh g h tk (F7 ha fa)
  rw [← Lj,← zj,← yj] at g'
  rw [← Lj] at m1
  simp only [List.foldl_cons,List.length_cons]
  have:=Pg h tk l g' p2 q2 fun b hb=>by
   obtain ⟨hb1,f1,f2,f3⟩:=hf b (List.mem_cons_of_mem _ hb)
   have e1:frm a≠frm b:=fun e=>p1 (e▸List.mem_map_of_mem hb)
   have e2:key a≠key b:=fun e=>q1 (e▸List.mem_map_of_mem hb)
   refine ⟨hb1,?_⟩
   have k1:(popS B a).getD (frm b) []=B.getD (frm b) []:=Qy _ e1
   have k2:(ownS x O a).getD (outAt b.1 b.2.1 (b.2.2%2)) 0=O.getD (outAt b.1 b.2.1 (b.2.2%2)) 0:=by
    have hne:outAt a.1 a.2.1 (a.2.2%2)≠outAt b.1 b.2.1 (b.2.2%2):=fun e=>by
     obtain ⟨c1,c2,_⟩:=T1 ha.2.1 hb1.2.1 (by omega) (by omega) e
     exact e2 (by unfold key;rw [c1,c2])
    unfold ownS
    simp only [List.getD_eq_getElem?_getD]
    rw [List.getElem?_set_ne hne]
   have k3:(bothS x B a).getD (frm b) []≠[]∧headL ((bothS x B a).getD (frm b) [])=headL (B.getD (frm b) []):=by
    unfold bothS pushS
    split
    ·rw [k1];exact ⟨f1,rfl⟩
    ·have:=Ri (B:=popS B a) (j:=frm b) (k:=tgt x a.1 a.2.1 (a.2.2%2)) (y:=headOf x (frm a)) (by rw [k1];exact f1)
     rw [k1] at this;exact this
   exact ⟨k3.1,k3.2.trans f2,k2.trans f3⟩
  omega
theorem P0 {x:NetD} {list:List PkD} (h:Sent (stat x) list) (tk:tabsOk (stat x)):∀(l:List Nat) {B:SSD} {O:List Int} {A S:SSD},Good (stat x) list B O A S→l.Nodup→(∀k∈l,k<nC x∧S.getD k []≠[]∧headL (S.getD k [])=srcHead x k)→
 sumS (wb (stat x)) (l.foldl (entS x) B)+sumS (ws (stat x)) (l.foldl srcS S)+l.length=sumS (wb (stat x)) B+sumS (ws (stat x)) S
 | [],B,O,A,S,g,_,_=>rfl
 | k::l,B,O,A,S,g,n,hf=>by
  obtain ⟨p1,p2⟩:=List.nodup_cons.1 n
  obtain ⟨hk,f1,f2⟩:=hf k (List.mem_cons_self ..)
  have hS:=X1 f1
  rw [f2] at hS
  obtain ⟨t,c,_,hc,_,ec⟩:=Lk h (g.gS k (srcHead x k) (by rw [hS];exact List.mem_cons_self ..))
  have g':=g.enter h tk (k:=k) (c:=c) hk hc ec hS
  have m1:=qt g (k:=k) (c:=c) hk hc ec hS
  have e1:entAt x k=10*k+8+c:=by unfold entAt;rw [ec];omega
  have e2:entS x B k=upd B (10*k+8+c) (·++[srcHead x k]):=by unfold entS;rw [e1]
  have e3:srcS S k=upd S k (List.drop 1):=rfl
  rw [← e2,← e3] at g' m1
  simp only [List.foldl_cons,List.length_cons]
  have:=P0 h tk l g' p2 fun j hj=>by
   obtain ⟨c1,c2,c3⟩:=hf j (List.mem_cons_of_mem _ hj)
   have hne:k≠j:=fun e=>p1 (e▸hj)
   refine ⟨c1,?_⟩
   have:(srcS S k).getD j []=S.getD j []:=Qy _ hne
   rw [this];exact ⟨c2,c3⟩
  omega
def phi (x:NetD):Nat:=sumS (wb (stat x)) x.2.2.1+sumS (ws (stat x)) x.2.2.2.2.2.1
theorem Gb {x:NetD} {list:List PkD} (hc:classesOk x.1.1 x.1.2.1 x.1.2.2 x.2.1.1 x.2.1.2) (h:Sent (stat x) list) (g:GoodN x list):phi (stepN x)+(allN x).length+(enterN x).length≤phi x:=by
 have tk:tabsOk (stat x):=W9 (x:=stat x) hc
 have hg:∀a∈allN x,a.1<nC x∧a.2.1<5∧a.2.2<10∧reqN x a.1 a.2.2 a.2.1:=fun a ha=>by
  obtain ⟨h1,h2⟩:=Yl ha
  have:=Yj x
  exact ⟨by omega,h2⟩
 have hf:∀a∈allN x,(a.1<nC x∧a.2.1<5∧a.2.2<10∧reqN x a.1 a.2.2 a.2.1)∧Fits x x.2.2.1 x.2.2.2.1 a:=fun a ha=>⟨hg a ha,Td (hg a ha).2.2.2,rfl,rfl⟩
 have k1:Good (stat x) list ((allN x).foldl (bothS x) x.2.2.1) ((allN x).foldl (ownS x) x.2.2.2.1) ((allN x).foldl (arrS x) x.2.2.2.2.2.2.1) x.2.2.2.2.2.1:=
  Good.grants h tk (allN x) g (Zu x) (Yx x _) hf
 have s1:=Pg h tk (allN x) g (Zu x) (Yx x _) hf
 rw [L3 x (allN x) x.2.2.1 (Zu x) fun a ha=>Td (hg a ha).2.2.2] at k1 s1
 have s2:=P0 h tk (enterN x) k1 (Vi x) fun k hk=>by
  obtain ⟨h1,h2⟩:=Xe hk
  have:=Yj x
  exact ⟨by omega,h2.1,rfl⟩
 have e:phi (stepN x)=sumS (wb (stat x)) ((enterN x).foldl (entS x) ((allN x).foldl (pushS x) ((allN x).foldl popS x.2.2.1)))+sumS (ws (stat x)) ((enterN x).foldl srcS x.2.2.2.2.2.1):=rfl
 have e2:phi x=sumS (wb (stat x)) x.2.2.1+sumS (ws (stat x)) x.2.2.2.2.2.1:=rfl
 omega
theorem Ii {x:NetD} {list:List PkD} {ρ:Nat→Nat} (hn:netOk x) (h:Sent (stat x) list) (g:GoodN x list) (rk:Ranked (stat x) ρ):∀k:Nat,x.2.2.2.2.2.2.2+k≤1000000→idle (runN x k)∨phi (runN x k)+k≤phi x
 | 0,_=>.inr (Nat.le_refl _)
 | k+1,hk=>by
  obtain ⟨e,g'⟩:=Zl hn.1 h g k
  have hn':=Vn hn k (by omega)
  rcases Ii hn h g rk k (by omega) with hi|hp
  ·left
   have:=Mx hi
   show idle (stepN (runN x k))
   rw [this];exact hi
  ·by_cases hi:idle (runN x k)
   ·left
    have:=Mx hi
    show idle (stepN (runN x k))
    rw [this];exact hi
   ·right
    have hp':=Gb hn'.1 (by rw [e];exact h) g'
    have:0<(allN (runN x k)).length+(enterN (runN x k)).length:=by
     rcases Nat.eq_zero_or_pos ((allN (runN x k)).length+(enterN (runN x k)).length) with z|z
     ·exact absurd (Es hn' (by rw [e];exact h) g' (by rw [e];exact rk) (List.length_eq_zero_iff.1 (by omega)) (List.length_eq_zero_iff.1 (by omega))) hi
     ·exact z
    show phi (stepN (runN x k))+(k+1)≤phi x
    omega
end Go.Proofs.YtaldglgobgjeaaaGreat.V
set_option linter.all false
namespace Go.Proofs.YtaldglgobgjeaaaGreat.V
open Go Go.VM Go.Proofs
set_option maxRecDepth 100000
def rnk (w j:Nat):Nat:=
 if j%10/2=4 then 0
 else if j%2=0 then (if j%10/2=3 then 1+min (j/10%w) 3 else if j%10/2=1 then 1+(3-j/10%w) else if j%10/2=0 then 10+min (j/10/w) 3 else 10+(3-j/10/w))
 else (if j%10/2=0 then 1+min (j/10/w) 3 else if j%10/2=2 then 1+(3-j/10/w) else if j%10/2=3 then 10+min (j/10%w) 3 else 10+(3-j/10%w))
def simP (w c t j:Nat):Nat:=(stdPort (w:Int) (1+(c:Int)) ((j/10:Nat):Int) t).toNat
def simJ (w h c t j:Nat):Nat:=(10*next (w:Int) h ((j/10:Nat):Int) (simP w c t j:Nat)+2*opp ((simP w c t j:Nat):Int)+c).toNat
def simB (w h c t:Nat):Nat→Nat→Bool
 | 0,j=>decide (j/10=t)
 | f+1,j=>decide (j/10=t) || (decide (rnk w j<rnk w (simJ w h c t j))&&simB w h c t f (simJ w h c t j))
def chkB:Bool:=(List.range 5).all fun w=>(List.range 5).all fun h=>(List.range 2).all fun c=>(List.range (w*h)).all fun s=>(List.range (w*h)).all fun t=>simB w h c t 6 (10*s+8+c)
theorem gz:chkB=true:=by decide +kernel
theorem Az {x:NetD} {w h s t c:Nat} {R:Nat→Nat} {L:Nat} (rt:Route x s t c R L) (hx:x.1.1=w∧x.1.2.1=h) (hp:∀a,a<nC x→pO x a c t=stdPort w (1+(c:Int)) a t):∀f n,n≤L→simB w h c t f (R n)=true→L≤n+f∧∀m,n≤m→m<L→rnk w (R m)<rnk w (R (m+1)):=by
 have last:∀n,n≤L→R n/10=t→n=L:=fun n hn e=>rt.ij n L hn (Nat.le_refl _) (by rw [e,rt.rt])
 intro f
 induction f with
 | zero=>
  intro n hn e
  have e:R n/10=t:=by simpa [simB] using e
  have:=last n hn e
  exact ⟨by omega,fun m h1 h2=>by omega⟩
 | succ f ih=>
  intro n hn e
  by_cases et:R n/10=t
  ·have:=last n hn et
   exact ⟨by omega,fun m h1 h2=>by omega⟩
  ·have hL:n<L:=by
    rcases Nat.lt_or_ge n L with k|k
    ·exact k
    ·have:n=L:=by omega
     subst this;exact absurd rt.rt et
   unfold simB at e
   rw [decide_eq_false et,Bool.false_or,Bool.and_eq_true,decide_eq_true_eq] at e
   obtain ⟨p,p1,p2,p3,_⟩:=rt.rs n hL
   have hlt:=rt.lt n hn
   rw [hp _ (by omega)] at p2
   have e1:simP w c t (R n)=p:=by unfold simP;rw [p2];rfl
   have e2:simJ w h c t (R n)=R (n+1):=by
    rw [p3];unfold simJ tgt
    rw [e1,hx.1,hx.2]
   rw [e2] at e
   obtain ⟨i1,i2⟩:=ih (n+1) (by omega) e.2
   refine ⟨by omega,fun m h1 h2=>?_⟩
   by_cases em:m=n
   ·subst em;exact e.1
   ·exact i2 m (by omega) h2
def SplitN (w h:Int) (x:NetD):Prop:=x.1=(w,h,[])∧x.2.1=splitT w h
theorem Ea {w h:Int} (g:okG w h) {x:NetD} (hx:SplitN w h x) {a c t:Nat} (ha:a<nC x) (ht:t<nC x) (hc:c<2):pO x a c t=stdPort w (1+(c:Int)) a t:=by
 have hn:=Yj x
 obtain ⟨e1,e2⟩:=hx
 have en:nC x=(cnt w h).toNat:=by unfold nC;rw [e1]
 have cn:cnt w h=((cnt w h).toNat:Int):=by have:=Qe w h;omega
 have et:splitT w h=(stdTab w 1 (cnt w h).toNat,stdTab w 2 (cnt w h).toNat):=if_pos g
 unfold pO tabC
 rw [e1,e2,et]
 have ia:isN w h (a:Int):=⟨by omega,by omega⟩
 have it:isN w h (t:Int):=⟨by omega,by omega⟩
 rcases (by omega:c=0∨c=1) with rfl|rfl
 ·simp only [if_neg (show ¬(0:Nat)=1 by omega)]
  rw [Uv cn ia it];rfl
 ·simp only [↓reduceIte]
  rw [Uv cn ia it];rfl
theorem Qbn {w h c s t:Nat} (hw:w<5) (hh:h<5) (hc:c<2) (hs:s<w*h) (ht:t<w*h):simB w h c t 6 (10*s+8+c)=true:=by
 have h0:=gz
 unfold chkB at h0
 rw [List.all_eq_true] at h0
 have h1:=h0 w (by simpa using hw)
 rw [List.all_eq_true] at h1
 have h2:=h1 h (by simpa using hh)
 rw [List.all_eq_true] at h2
 have h3:=h2 c (by simpa using hc)
 rw [List.all_eq_true] at h3
 have h4:=h3 s (by simpa using hs)
 rw [List.all_eq_true] at h4
 exact h4 t (by simpa using ht)
theorem Dl {w h:Int} (g:okG w h):∃W H:Nat,w=W∧h=H∧W<5∧H<5∧(cnt w h).toNat=W*H:=by
 obtain ⟨⟨a1,a2⟩,b1,b2⟩:=g
 obtain ⟨W,rfl⟩:=Int.eq_ofNat_of_zero_le (show 0≤w by omega)
 obtain ⟨H,rfl⟩:=Int.eq_ofNat_of_zero_le (show 0≤h by omega)
 refine ⟨W,H,rfl,rfl,by omega,by omega,?_⟩
 unfold cnt
 rw [if_pos ⟨⟨a1,a2⟩,b1,b2⟩,← Int.natCast_mul];rfl
theorem qu {w h:Int} (g:okG w h) {x:NetD} (hx:SplitN w h x) {s t c:Nat} {R:Nat→Nat} {L:Nat} (hs:s<nC x) (ht:t<nC x) (hc:c<2) (rt:Route x s t c R L):L≤6∧∀m,m<L→rnk w.toNat (R m)<rnk w.toNat (R (m+1)):=by
 obtain ⟨W,H,rfl,rfl,hW,hH,hn⟩:=Dl g
 have en:nC x=W*H:=by unfold nC;rw [hx.1];exact hn
 obtain ⟨k1,k2⟩:=Az rt (w:=W) (h:=H) ⟨by rw [hx.1],by rw [hx.1]⟩ (fun a ha=>Ea g hx ha ht hc) 6 0 (by omega) (by rw [rt.r0];exact Qbn hW hH hc (by omega) (by omega))
 exact ⟨by omega,fun m hm=>k2 m (by omega) hm⟩
theorem Mz {x:NetD} (tk:tabsOk x) {s t c:Nat} {R:Nat→Nat} {L:Nat} (hs:s<nC x) (ht:t<nC x) (hc:c<2) (rt:Route x s t c R L):hop x c s t=L:=by
 have key:∀d n,n≤L→L-n=d→hop x c ((R n/10:Nat):Int) t=d:=by
  intro d
  induction d with
  | zero=>
   intro n hn e
   have:n=L:=by omega
   subst this
   rw [rt.rt]
   exact Em tk ht hc (L:=0) (by omega) rfl (fun n h=>by omega)
  | succ d ih=>
   intro n hn e
   have hL:n<L:=by omega
   obtain ⟨p,p1,p2,p3,p4⟩:=rt.rs n hL
   have hlt:=rt.lt n hn
   have hne:R n/10≠t:=fun e2=>by
    have:=rt.ij n L hn (Nat.le_refl _) (by rw [e2,rt.rt]);omega
   obtain ⟨t1,t2,t3,t4⟩:=Y9 (c:=c) p4 p1 hc
   rw [J6 tk (by omega) ht hc hne p2,← t3,← p3,ih (n+1) (by omega) (by omega)]
 have:=key L 0 (by omega) (by omega)
 rw [rt.r0,show (10*s+8+c)/10=s by omega] at this
 exact this
theorem B3 {w h:Int} (g:okG w h) {x:NetD} (hx:SplitN w h x) (tk:tabsOk x) {s t c:Nat} (hs:s<nC x) (ht:t<nC x) (hc:c<2):hop x c s t≤6:=by
 obtain ⟨R,L,rt⟩:=Zg tk hs ht hc
 rw [Mz tk hs ht hc rt]
 exact (qu g hx hs ht hc rt).1
theorem wx (f:Nat→FlitD→Nat) (k:Nat) (l m:List FlitD):sumL f k (l++m)=sumL f k l+sumL f k m:=by simp [sumL]
theorem Ci {f:Nat→FlitD→Nat} {k b:Nat}:∀(l:List FlitD),(∀y∈l,f k y≤b)→sumL f k l≤b*l.length
 | [],_=>by simp [sumL]
 | y::l,h=>by
  have h1:=h y (List.mem_cons_self ..)
  have h2:=Ci l fun z hz=>h z (List.mem_cons_of_mem _ hz)
  have:sumL f k (y::l)=f k y+sumL f k l:=by simp [sumL]
  rw [this,List.length_cons,Nat.mul_succ];omega
theorem Ck {x:NetD} {list:List PkD} (hn:netOk x) (h:Sent (stat x) list) (g:GoodN x list):∀k:Nat,x.2.2.2.2.2.2.2+k≤1000000→phi (runN x k)≤phi x
 | 0,_=>Nat.le_refl _
 | k+1,hk=>by
  obtain ⟨e,g'⟩:=Zl hn.1 h g k
  have hn':=Vn hn k (by omega)
  have:=Gb hn'.1 (by rw [e];exact h) g'
  have:=Ck hn h g k (by omega)
  show phi (stepN (runN x k))≤_
  omega
end Go.Proofs.YtaldglgobgjeaaaGreat.V
set_option linter.all false
namespace Go.Proofs.YtaldglgobgjeaaaGreat.V
open Go Go.VM Go.Proofs
set_option maxRecDepth 10000
structure ChipI (w h:Int) (a:ChipD):Prop where
 g:okG w h
 good:GoodC a
 sp:SplitN w h a.1
 ph:phi a.1≤40*a.2.length
theorem Ps {x:NetD} (hB:∀j,x.2.2.1.getD j []=[]) (hS:∀j,x.2.2.2.2.2.1.getD j []=[]):phi x=0:=by
 have z:∀(f:Nat→FlitD→Nat) (S:SSD),(∀j,S.getD j []=[])→sumS f S=0:=fun f S hS=>by
  unfold sumS
  have:((List.range S.length).map fun j=>sumL f j (S.getD j []))=List.replicate S.length 0:=by
   apply List.ext_getElem
   ·simp
   ·intro i h1 h2
    simp only [List.getElem_map,List.getElem_range,List.getElem_replicate]
    rw [hS];rfl
  rw [this];simp
 unfold phi
 rw [z _ _ hB,z _ _ hS]
theorem Bp {w h:Int} (g:okG w h):ChipI w h (chipNew w h):=by
 have hg:=yv g
 have hc:=Oi g
 have e:chipNew w h=(netNew (w,h,[]) (splitT w h),[]):=if_pos g
 have e2:netNew (w,h,[]) (splitT w h)=((w,h,[]),splitT w h,List.replicate (10*(cnt w h).toNat) [],List.replicate (10*(cnt w h).toNat) (-1),List.replicate (5*(cnt w h).toNat) 0,List.replicate (cnt w h).toNat [],List.replicate (cnt w h).toNat [],0):=by
  unfold netNew;rw [if_pos hc]
 have rep:∀n j,(List.replicate n ([]:List FlitD)).getD j []=[]:=fun n j=>by
  rw [List.getD_eq_getElem?_getD,List.getElem?_replicate]
  split<;>rfl
 refine ⟨g,hg,?_,?_⟩
 ·rw [e,e2];exact ⟨rfl,rfl⟩
 ·rw [e,e2,Ps (rep _) (rep _)];omega
theorem yw {x:NetD} {list:List PkD} (hc:classesOk x.1.1 x.1.2.1 x.1.2.2 x.2.1.1 x.2.1.2) (h:Sent (stat x) list) (g:GoodN x list) (k:Nat):(runN x k).1=x.1∧(runN x k).2.1=x.2.1:=by
 obtain ⟨e,_⟩:=Zl hc h g k
 have e1:(stat (runN x k)).1=(stat x).1:=by rw [e]
 have e2:(stat (runN x k)).2.1=(stat x).2.1:=by rw [e]
 exact ⟨e1,e2⟩
theorem Ed {l m:List Int} (hl:l.Pairwise (· < ·)) (hm:m.Pairwise (· < ·)) (h:∀x,x∈l↔x∈m):l=m:=by
 induction l generalizing m with
 | nil=>
  cases m with
  | nil=>rfl
  | cons b m=>have:=(h b).2 (List.mem_cons_self ..);simp at this
 | cons a l ih=>
  cases m with
  | nil=>have:=(h a).1 (List.mem_cons_self ..);simp at this
  | cons b m=>
   obtain ⟨l1,l2⟩:=List.pairwise_cons.1 hl
   obtain ⟨m1,m2⟩:=List.pairwise_cons.1 hm
   have e:a=b:=by
    rcases List.mem_cons.1 ((h a).1 (List.mem_cons_self ..)) with e|e
    ·exact e
    ·rcases List.mem_cons.1 ((h b).2 (List.mem_cons_self ..)) with e'|e'
     ·exact e'.symm
     ·have:=m1 a e;have:=l1 b e';omega
   subst e
   congr 1
   refine ih l2 m2 fun x=>⟨fun hx=>?_,fun hx=>?_⟩
   ·rcases List.mem_cons.1 ((h x).1 (List.mem_cons_of_mem _ hx)) with e|e
    ·subst e;have:=l1 x hx;omega
    ·exact e
   ·rcases List.mem_cons.1 ((h x).2 (List.mem_cons_of_mem _ hx)) with e|e
    ·subst e;have:=m1 x hx;omega
    ·exact e
def insK (k:Int):List Int→List Int
 | []=>[k]
 | a::l=>if k<a then k::a::l else if k=a then a::l else a::insK k l
theorem Ol (k x:Int):∀l,x∈insK k l↔x=k∨x∈l
 | []=>by simp [insK]
 | a::l=>by
  unfold insK
  split
  ·simp
  ·split
   ·rename_i e;subst e;simp
   ·rw [List.mem_cons,Ol k x l,List.mem_cons]
    constructor
    ·rintro (h|h|h)
     ·exact .inr (.inl h)
     ·exact .inl h
     ·exact .inr (.inr h)
    ·rintro (h|h|h)
     ·exact .inr (.inl h)
     ·exact .inl h
     ·exact .inr (.inr h)
theorem Iy (k:Int):∀l:List Int,l.Pairwise (· < ·)→(insK k l).Pairwise (· < ·)
 | [],_=>by simp [insK]
 | a::l,h=>by
  obtain ⟨h1,h2⟩:=List.pairwise_cons.1 h
  unfold insK
  split
  ·rename_i g
   refine List.pairwise_cons.2 ⟨fun x hx=>?_,h⟩
   rcases List.mem_cons.1 hx with rfl|hx
   ·exact g
   ·have:=h1 x hx;omega
  ·split
   ·exact h
   ·refine List.pairwise_cons.2 ⟨fun x hx=>?_,Iy k l h2⟩
    rcases (Ol k x l).1 hx with rfl|hx
    ·omega
    ·exact h1 x hx
noncomputable def arrK (l:List Int):List Int:=l.foldl (fun s k=>insK k s) []
theorem O2:∀(l s:List Int),s.Pairwise (· < ·)→(l.foldl (fun s k=>insK k s) s).Pairwise (· < ·)∧∀x,x∈l.foldl (fun s k=>insK k s) s↔x∈s∨x∈l
 | [],s,h=>⟨h,fun x=>by simp⟩
 | k::l,s,h=>by
  obtain ⟨i1,i2⟩:=O2 l (insK k s) (Iy k s h)
  refine ⟨i1,fun x=>?_⟩
  rw [List.foldl_cons,i2,Ol,List.mem_cons]
  constructor
  ·rintro ((h|h)|h)
   ·exact .inr (.inl h)
   ·exact .inl h
   ·exact .inr (.inr h)
  ·rintro (h|h|h)
   ·exact .inl (.inr h)
   ·exact .inl (.inl h)
   ·exact .inr h
theorem Pb (l:List Int):(arrK l).Pairwise (· < ·):=(O2 l [] List.Pairwise.nil).1
theorem Tz (l:List Int) (x:Int):x∈arrK l↔x∈l:=by
 have:=(O2 l [] List.Pairwise.nil).2 x
 unfold arrK
 rw [this];simp
end Go.Proofs.YtaldglgobgjeaaaGreat.V
set_option linter.all false
namespace Go.Proofs.YtaldglgobgjeaaaGreat.V
open Go Go.VM Go.Proofs
set_option maxRecDepth 10000
variable {frz:Nat} {H:Heap} {v:Value} {xs:List Int} {e:TypeId} {f:Value}
def Fl.dep:Fl Int:=⟨2,fun k=>[.int .i64 (k/1024),.int .i64 (k%1024)],fun _=>rfl⟩
@[simp] theorem Fl.dep_n:Fl.dep.n=2:=rfl
def dv (k:Int):Value:=.agg #[.int .i64 (k/1024),.int .i64 (k%1024)]
theorem xq (k:Int):Value.agg (Fl.dep.f k).toArray=dv k:=rfl
def KB (k:Int):Prop:=0≤k∧k<1099511627776
def Bd (xs:List Int):Prop:=∀x∈xs,KB x
theorem Bd.G (h:Bd xs) (i:Nat):KB (G xs i):=by
 by_cases hi:i<xs.length
 ·rw [Wr hi];exact h _ (List.getElem_mem hi)
 ·have:V.G xs i=0:=by simp [V.G,List.getD_eq_getElem?_getD,hi]
  rw [this];exact ⟨by decide,by decide⟩
theorem Bd.swp (h:Bd xs) (i j:Nat):Bd (swp xs i j):=fun x hx=>by
 unfold V.swp at hx
 rcases List.mem_or_eq_of_mem_set hx with hx|rfl
 ·rcases List.mem_or_eq_of_mem_set hx with hx|rfl
  ·exact h x hx
  ·exact h.G j
 ·exact h.G i
def OwE (e:TypeId) (H:Heap) (v:Value) (xs:List Int):Prop:=Ow Fl.dep e H v xs∧Bd xs
theorem OwE.rd (h:OwE e H v xs):Rd Fl.dep H v xs:=h.1.rd
theorem OwE.lt (h:OwE e H v xs):∀i∈ids v,i<H.length:=h.1.lt
theorem OwE.app {L:Heap} (h:OwE e H v xs):OwE e (H++L) v xs:=⟨h.1.app,h.2⟩
theorem OwE.chg {H':Heap} {is:List Nat} (h:OwE e H v xs) (k:Chg H H' is) (k':∀i∈ids v,i∉is):OwE e H' v xs:=⟨h.1.chg k k',h.2⟩
theorem Qq (o:OwE e H v xs) {i:Nat} (h1:i<xs.length):vindexAddr Tryz.prog H 125 v (.int .i64 i)=some (elp v (i*2)):=by
 have:=o.rd.idx (P:=Tryz.prog) (ty:=125) (e:=194) (by simp) (i:=(i:Int)) (by omega) (by omega)
 simpa using this
theorem Qr (o:OwE e H v xs) {i:Nat} (h1:i<xs.length):vload Tryz.prog H 194 (elp v (i*2))=some (dv (G xs i)):=by
 have:=o.rd.load (P:=Tryz.prog) (e:=194) (by simp) h1
 rw [Wr h1,← xq]
 exact this
theorem Ww (o:OwE e H v xs) {i j:Nat} (hi:i<xs.length) (hj:j<xs.length) (hf:∀i∈ids v,frz≤i) :
 ∃H1 H2,vstore Tryz.prog frz H 194 (dv (G xs j)) (elp v (i*2))=some H1∧(∀k:Nat,k<xs.length→vindexAddr Tryz.prog H1 125 v (.int .i64 k)=some (elp v (k*2)))∧
  vstore Tryz.prog frz H1 194 (dv (G xs i)) (elp v (j*2))=some H2∧OwE e H2 v (swp xs i j)∧Chg H H2 (ids v)∧H2.length=H.length:=by
 obtain ⟨H1,s1,o1,c1,l1⟩:=o.1.store (P:=Tryz.prog) (frz:=frz) (et:=194) (ag:=true) (by simp) hi (x:=dv (G xs j)) (y:=G xs j) rfl rfl hf
 obtain ⟨H2,s2,o2,c2,l2⟩:=o1.store (P:=Tryz.prog) (frz:=frz) (et:=194) (ag:=true) (by simp) (j:=j) (by simpa using hj) (x:=dv (G xs i)) (y:=G xs i) rfl rfl hf
 have b1:Bd (xs.set i (G xs j)):=fun x hx=>by
  rcases List.mem_or_eq_of_mem_set hx with hx|rfl
  ·exact o.2 x hx
  ·exact o.2.G j
 exact ⟨H1,H2,s1,fun k hk=>Qq ⟨o1,b1⟩ (by simpa using hk),s2,⟨o2,o.2.swp i j⟩,c1.trans c2,by omega⟩
def SwdE (H:Heap) (v:Value) (xs:List Int) (e:TypeId) (a b:Nat) (K:List Int→Prop) (H':Heap):Prop:=
 ∃ys,Sw a b xs ys∧K ys∧OwE e H' v ys∧Chg H H' (ids v)∧H'.length=H.length
def cmpZ (x y:Int):Int:=if x/1024=y/1024 then x%1024-y%1024 else x/1024-y/1024
@[simp] theorem Qfs (x y:Int):cmpZ x y<0↔x<y:=by unfold cmpZ;split<;>omega
def CmpK (f:Value):Prop:=∀F K x y,KB x→KB y→vclos (vcall C F) f [dv x,dv y] K=some (.int .i64 (cmpZ x y),K)
theorem dlt (hc:CmpK f) (o:OwE e H v xs) (F:Nat) (K:Heap) (i j:Nat):vclos (vcall C F) f [dv (G xs i),dv (G xs j)] K=some (.int .i64 (cmpZ (G xs i) (G xs j)),K):=hc F K _ _ (o.2.G i) (o.2.G j)
theorem Ge (a:Int) (b:Nat) (hb:b<18446744073709551616):0≤iand .u64 a b∧iand .u64 a b≤b:=by
 unfold iand
 have h1:(BitVec.ofInt IntKind.u64.bits a&&& BitVec.ofInt IntKind.u64.bits (b:Int)).toNat≤b:=by
  rw [BitVec.toNat_and]
  refine Nat.le_trans Nat.and_le_right ?_
  rw [BitVec.toNat_ofInt]
  have:IntKind.u64.bits=64:=rfl
  rw [this];omega
 rw [w64u (by omega) (by omega)]
 omega
def BoxE (H:Heap) (r:Nat):Prop:=∃s,H[r]? = some ⟨[.int .i64 s],0,3⟩
end Go.Proofs.YtaldglgobgjeaaaGreat.V
