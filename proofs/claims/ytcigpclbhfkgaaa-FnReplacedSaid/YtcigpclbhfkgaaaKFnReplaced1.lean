/- Texts of a proof, joined. -/
import Derived.Test.YtcigpclbhfkgaaaKM0
import Derived.Test.YtcigpclbhfkgaaaKM1
import Derived.Test.YtcigpclbhfkgaaaKFnReplaced0
set_option linter.all false
namespace Go.Proofs.Ytcigpclbhfkgaaa.V
open Go Go.VM Go.Proofs
set_option maxRecDepth 10000
variable {frz:Nat} {H:Heap}
theorem Ow_live {α:Type} {D:Fl α} {e:TypeId} {v:Value} {xs:List α} (h:Ow D e H v xs):VM.live H v:=by
 rcases h with ⟨rfl,_⟩|⟨id,off,r,rfl,h2,_⟩
 ·trivial
 ·show VM.look H ⟨id,off,some r.gen⟩≠none
  simp [VM.look,h2]
theorem flat_set {hs:List Value} {k:Nat} (hk:k<hs.length) (a':Value):(hs.set k a').flatMap ids=(hs.take k).flatMap ids++(ids a'++(hs.drop (k+1)).flatMap ids):=by
 rw [List.set_eq_take_append_cons_drop,if_pos hk,List.flatMap_append,List.flatMap_cons]
theorem flat_at {hs:List Value} {k:Nat} (hk:k<hs.length):hs.flatMap ids=(hs.take k).flatMap ids++(ids hs[k]++(hs.drop (k+1)).flatMap ids):=by
 have:=flat_set hk hs[k]
 rwa [List.set_getElem_self] at this
theorem OwL_put {α:Type} {D:Fl α} {e oe:TypeId} {H H1:Heap} {v a':Value} {hs:List Value} {xss:List (List α)} {k:Nat} {ys:List α} {frz:Nat} {et:TypeId} {ag:Bool} (h:OwL D e oe H v hs xss) (nd:(idsL v hs).Nodup) (hk:k<hs.length)
 (c:Chg H H1 (ids hs[k])) (o:Ow D e H1 a' ys) (hi:∀i∈ids a',i∈ids hs[k]∨H.length≤i) (hf:∀i∈idsL v hs,frz≤i) (he:tsz Try.prog et=some (ag,1)) :
 ∃H2,vstore Try.prog frz H1 et a' (elp v k)=some H2∧OwL D e oe H2 v (hs.set k a') (xss.set k ys)∧Chg H H2 (idsL v hs)∧(idsL v (hs.set k a')).Nodup∧(∀i∈idsL v (hs.set k a'),i∈idsL v hs∨H.length≤i)∧H2.length=H1.length:=by
 have hlt:=h.lt
 have hfa:=flat_at hk
 have hfs:=flat_set hk a'
 unfold idsL at nd hf hlt ⊢
 rw [hfa] at nd hf hlt ⊢
 rw [hfs]
 obtain ⟨n1,n2,n3⟩:=List.nodup_append.1 nd
 obtain ⟨m1,m2,m3⟩:=List.nodup_append.1 n2
 obtain ⟨p1,p2,p3⟩:=List.nodup_append.1 m2
 have dv:∀i∈ids v,i∉ids hs[k]:=fun i hi hh=>n3 i hi i (List.mem_append_right _ (List.mem_append_left _ hh)) rfl
 have o1:Ow Fl.val oe H1 v hs:=h.1.chg c dv
 have q:VM.one a'=true∧a'.cells=#[a']:=⟨o.rd.one',o.rd.cells⟩
 obtain ⟨H2,s1,s2,s3,s4⟩:=o1.put1 (P:=Try.prog) (frz:=frz) rfl (et:=et) (ag:=ag) he (j:=k) (x:=a') (y:=a') hk q.2 q.1 rfl (fun i hi=>hf i (List.mem_append_left _ hi))
 have hlen:∀i,i<H.length→i<H1.length:=fun i hi=>Nat.lt_of_lt_of_le hi c.1
 have dva:∀i∈ids a',i∉ids v:=fun i hi' hh=>by
  rcases hi i hi' with g|g
  ·exact dv i hh g
  ·have:=hlt i (List.mem_append_left _ hh);omega
 refine ⟨H2,s1,⟨s2,by simpa using h.2.1,fun j b zs hb hz=>?_⟩,?_,?_,fun i hi'=>?_,s4⟩
 ·by_cases hjk:k=j
  ·subst hjk
   rw [List.getElem?_set_self hk] at hb
   have hkx:k<xss.length:=h.2.1▸hk
   rw [List.getElem?_set_self hkx] at hz
   cases hb;cases hz
   exact o.chg s3 dva
  ·rw [List.getElem?_set_ne hjk] at hb hz
   have hb':=h.2.2 j b zs hb hz
   have hfl:=flatMap_disj hs (by rw [hfa];exact n2) (fun e=>hjk e.symm) hb (List.getElem?_eq_getElem hk)
   refine (hb'.chg c hfl).chg s3 (fun i hi' hh=>?_)
   have hm:i∈hs.flatMap ids:=List.mem_flatMap.2 ⟨b,List.mem_of_getElem? hb,hi'⟩
   rw [hfa] at hm
   exact n3 i hh i hm rfl
 ·exact (c.mono (fun i hi=>List.mem_append_right _ (List.mem_append_right _ (List.mem_append_left _ hi)))).trans (s3.mono (fun i hi=>List.mem_append_left _ hi))
 ·refine List.nodup_append.2 ⟨n1,List.nodup_append.2 ⟨m1,List.nodup_append.2 ⟨ids_nodup a',p2,fun x hx y hy e=>?_⟩,fun x hx y hy e=>?_⟩,fun x hx y hy e=>?_⟩
  ·subst e
   rcases hi x hx with g|g
   ·exact p3 x g x hy rfl
   ·have:=hlt x (List.mem_append_right _ (List.mem_append_right _ (List.mem_append_right _ hy)));omega
  ·subst e
   rcases List.mem_append.1 hy with hy|hy
   ·rcases hi x hy with g|g
    ·exact m3 x hx x (List.mem_append_left _ g) rfl
    ·have:=hlt x (List.mem_append_right _ (List.mem_append_left _ hx));omega
   ·exact m3 x hx x (List.mem_append_right _ hy) rfl
  ·subst e
   rcases List.mem_append.1 hy with hy|hy
   ·exact n3 x hx x (List.mem_append_left _ hy) rfl
   ·rcases List.mem_append.1 hy with hy|hy
    ·exact dva x hy hx
    ·exact n3 x hx x (List.mem_append_right _ (List.mem_append_right _ hy)) rfl
 ·rcases List.mem_append.1 hi' with hi'|hi'
  ·exact .inl (List.mem_append_left _ hi')
  rcases List.mem_append.1 hi' with hi'|hi'
  ·exact .inl (List.mem_append_right _ (List.mem_append_left _ hi'))
  rcases List.mem_append.1 hi' with hi'|hi'
  ·rcases hi i hi' with g|g
   ·exact .inl (List.mem_append_right _ (List.mem_append_right _ (List.mem_append_left _ g)))
   ·exact .inr g
  ·exact .inl (List.mem_append_right _ (List.mem_append_right _ (List.mem_append_right _ hi')))
def flitsOf (w h:Int) (p:PkD):List FlitD:=if packetOk w h p then (List.range p.2.2.2.2.toNat).map fun i:Nat=>(p.1,p.2.2.1,p.2.2.2.1,decide ((i:Int)=0),decide ((i:Int)=p.2.2.2.2-1)) else []
theorem sFlitsOf_w (w h:Int) (p:PkD) :
 wp (vcall C frz 207 [.agg #[.int .i64 w,.int .i64 h],pkV p] H) (fun r H'=>Ow flF 134 H' r (flitsOf w h p)∧(∀i∈ids r,H.length≤i)∧Chg H H' []):=by
 rw [vcall_go (fn:=Try.f207) Try.func207 rfl (by kernel_rfl) rfl]
 have pk:=fun F H=>sPacketOk_c (frz:=F) (H:=H) w h p
 obtain ⟨q1,q2,q3,q4,q5⟩:=p
 unfold pkV at pk ⊢
 simp only at pk
 have cG:Chg H (H++[⟨[.int .i64 w,.int .i64 h],0,36⟩,⟨[.int .i64 q1,.int .i64 q2,.int .i64 q3,.int .i64 q4,.int .i64 q5],0,44⟩,⟨[],0,134⟩]) []:=Chg.app _
 have o0:Ow flF 134 (H++[⟨[.int .i64 w,.int .i64 h],0,36⟩,⟨[.int .i64 q1,.int .i64 q2,.int .i64 q3,.int .i64 q4,.int .i64 q5],0,44⟩,⟨[],0,134⟩]) (.slice (some ⟨H.length+2,0,some 0⟩) 0 0) []:=Ow.new (D:=flF) (xs:=[]) (k:=2) rfl rfl rfl rfl
 simp [VM.look]
 by_cases g:packetOk w h (q1,q2,q3,q4,q5)
 rotate_left
 ·have e:flitsOf w h (q1,q2,q3,q4,q5)=[]:=if_neg g
  rw [e]
  rw [go_loop];by_cases g2:0<q5<;>simp [g,g2,VM.look,pk]
  all_goals first|exact ⟨o0,by simp,cG⟩|exact ⟨o0,by simp,cG.2⟩|exact ⟨o0,cG⟩
 obtain ⟨n,hn⟩:∃n:Nat,q5=n:=⟨q5.toNat,by have:=g.2.2.2.2.2;unfold inR at this;simp only at this;omega⟩
 have hn5:n≤5:=by have:=g.2.2.2.2.2;unfold inR at this;simp only at this;omega
 subst hn
 have hfl:flitsOf w h (q1,q2,q3,q4,(n:Int))=(List.range n).map fun i:Nat=>(q1,q3,q4,decide ((i:Int)=0),decide ((i:Int)=(n:Int)-1)):=by
  unfold flitsOf;rw [if_pos g];simp only [Int.toNat_natCast]
 refine wp_inv (fun m t H'=>∃(i:Nat) (out:Value),m=n-i∧i≤n∧t 2=.pointer (some ⟨H.length,0,some 0⟩)∧t 3=.pointer (some ⟨H.length+1,0,some 0⟩)∧t 5=out∧t 6=.int .i64 i∧Chg H H' []∧H'[H.length]? = some ⟨[.int .i64 w,.int .i64 h],0,36⟩∧H'[H.length+1]? = some ⟨[.int .i64 q1,.int .i64 q2,.int .i64 q3,.int .i64 q4,.int .i64 (n:Int)],0,44⟩∧Ow flF 134 H' out ((List.range i).map fun i:Nat=>(q1,q3,q4,decide ((i:Int)=0),decide ((i:Int)=(n:Int)-1)))∧(∀j∈ids out,H.length+2≤j)) ?_ (n:=n)
  ⟨0,.slice (some ⟨H.length+2,0,some 0⟩) 0 0,rfl,by omega,by simp,by simp,by simp,by simp,cG,by simp,by simp,o0,by simp⟩
 rintro m t H' ⟨i,out,rfl,hi,t2,t3,t5,t6,ch,b0,b1,oo,no⟩ ih
 simp [t2,t3,t5,t6,VM.look,b0,b1]
 by_cases g1:i<n
 ·simp [t2,t3,t5,t6,g1,VM.look,b0,b1,pk,g]
  have e5:=@w6 ((n:Int)-1) (by omega)
  obtain ⟨Bh,hBh⟩:∃B,B=decide ((i:Int)=0):=⟨_,rfl⟩
  obtain ⟨Bt,hBt⟩:∃B,B=decide ((i:Int)=(n:Int)-1):=⟨_,rfl⟩
  have z1:∀[Inhabited Unit],(decide (i=0))=Bh:=by intro _;rw [hBh];simp
  have z2:∀[Inhabited Unit],(decide ((i:Int)=(n:Int)-1))=Bt:=by intro _;rw [hBt]
  obtain ⟨r',H3,hap,o3,c3,n3⟩:=oo.push (P:=Try.prog) (frz:=H.length) (ty:=123) (a:=(q1,q3,q4,Bh,Bt)) (by simp) rfl (by simp;omega) (fun j hj=>by have:=no j hj;omega)
  simp only [flF_f] at hap
  simp [-vappend_nil,-vappend_mk,t2,t3,t5,t6,VM.look,b0,b1,e5,z1,z2,hap]
  refine ih (n-(i+1)) _ _ ⟨i+1,r',rfl,by omega,by simp [t2],by simp [t3],by simp,?_,ch.trans' c3 (fun j hj=>.inr (by have:=no j hj;omega)),box_chg b0 c3 (fun hh=>by have:=no _ hh;omega),box_chg b1 c3 (fun hh=>by have:=no _ hh;omega),?_,fun j hj=>?_⟩ (by omega)
  ·simp [t6];rw [w64 (by omega) (by omega)]
  ·rw [List.range_succ,List.map_append,List.map_cons,List.map_nil,← hBh,← hBt];exact o3
  ·rcases n3 j hj with h1|h1
   ·exact no j h1
   ·have:=box_lt b1;omega
 ·have:i=n:=by omega
  subst this
  simp [t2,t3,t5,t6,VM.look,b1]
  exact ⟨by rw [hfl];exact oo,fun j hj=>by have:=no j hj;omega,ch⟩
theorem nd_mid {P A S A':List Nat} {N:Nat} (nd:(P++(A++S)).Nodup) (lt:∀i∈P++(A++S),i<N) (na:A'.Nodup) (h:∀i∈A',i∈A∨N≤i):(P++(A'++S)).Nodup∧(∀i∈P++(A'++S),i∈P++(A++S)∨N≤i):=by
 obtain ⟨n1,n2,n3⟩:=List.nodup_append.1 nd
 obtain ⟨m1,m2,m3⟩:=List.nodup_append.1 n2
 refine ⟨List.nodup_append.2 ⟨n1,List.nodup_append.2 ⟨na,m2,fun a ha b hb e=>?_⟩,fun a ha b hb e=>?_⟩,fun i hi=>?_⟩
 ·subst e
  rcases h a ha with g|g
  ·exact m3 a g a hb rfl
  ·have:=lt a (List.mem_append_right _ (List.mem_append_right _ hb));omega
 ·subst e
  rcases List.mem_append.1 hb with hb|hb
  ·rcases h a hb with g|g
   ·exact n3 a ha a (List.mem_append_left _ g) rfl
   ·have:=lt a (List.mem_append_left _ ha);omega
  ·exact n3 a ha a (List.mem_append_right _ hb) rfl
 ·rcases List.mem_append.1 hi with hi|hi
  ·exact .inl (List.mem_append_left _ hi)
  rcases List.mem_append.1 hi with hi|hi
  ·rcases h i hi with g|g
   ·exact .inl (List.mem_append_right _ (List.mem_append_left _ g))
   ·exact .inr g
  ·exact .inl (List.mem_append_right _ (List.mem_append_right _ hi))
theorem nd_not {P A S:List Nat} (nd:(P++(A++S)).Nodup):(∀i∈P,i∉A)∧(∀i∈S,i∉A):=by
 obtain ⟨n1,n2,n3⟩:=List.nodup_append.1 nd
 obtain ⟨m1,m2,m3⟩:=List.nodup_append.1 n2
 exact ⟨fun i hi hh=>n3 i hi i (List.mem_append_left _ hh) rfl,fun i hi hh=>m3 i hh i hi rfl⟩
def withBuf (x:NetD) (s:SSD):NetD:=(x.1,x.2.1,s,x.2.2.2.1,x.2.2.2.2.1,x.2.2.2.2.2.1,x.2.2.2.2.2.2.1,x.2.2.2.2.2.2.2)
def putBuf (n:NetV) (u:SSV):NetV:=(n.1,n.2.1,u,n.2.2.2.1,n.2.2.2.2.1,n.2.2.2.2.2.1,n.2.2.2.2.2.2.1,n.2.2.2.2.2.2.2)
theorem net_putBuf {K K':Heap} {n:NetV} {x:NetD} {u:SSV} {s:SSD} (on:dNet.Ow K n x) (nd:(dNet.ids n).Nodup) (c:Chg K K' (dSS.ids n.2.2.1)) (os:dSS.Ow K' u s) (na:(dSS.ids u).Nodup) (hi:∀i∈dSS.ids u,i∈dSS.ids n.2.2.1∨K.length≤i) :
 dNet.Ow K' (putBuf n u) (withBuf x s)∧(dNet.ids (putBuf n u)).Nodup∧∀i∈dNet.ids (putBuf n u),i∈dNet.ids n∨K.length≤i:=by
 have lt:=dNet.lt on
 have e:dNet.ids n=(dMesh.ids n.1++dClasses.ids n.2.1)++(dSS.ids n.2.2.1++(dIntS.ids n.2.2.2.1++(dIntS.ids n.2.2.2.2.1++(dSS.ids n.2.2.2.2.2.1++(dSS.ids n.2.2.2.2.2.2.1++[]))))):=by
  show dMesh.ids n.1++(dClasses.ids n.2.1++(dSS.ids n.2.2.1++(dIntS.ids n.2.2.2.1++(dIntS.ids n.2.2.2.2.1++(dSS.ids n.2.2.2.2.2.1++(dSS.ids n.2.2.2.2.2.2.1++[]))))))=_
  simp only [List.append_assoc]
 have e':dNet.ids (putBuf n u)=(dMesh.ids n.1++dClasses.ids n.2.1)++(dSS.ids u++(dIntS.ids n.2.2.2.1++(dIntS.ids n.2.2.2.2.1++(dSS.ids n.2.2.2.2.2.1++(dSS.ids n.2.2.2.2.2.2.1++[]))))):=by
  show dMesh.ids n.1++(dClasses.ids n.2.1++(dSS.ids u++(dIntS.ids n.2.2.2.1++(dIntS.ids n.2.2.2.2.1++(dSS.ids n.2.2.2.2.2.1++(dSS.ids n.2.2.2.2.2.2.1++[]))))))=_
  simp only [List.append_assoc]
 rw [e] at nd lt ⊢
 rw [e']
 obtain ⟨m1,m2⟩:=nd_mid nd lt na hi
 obtain ⟨d1,d2⟩:=nd_not nd
 obtain ⟨o1,o2,o3,o4,o5,o6,o7,_⟩:=on
 exact ⟨⟨Dt.chg (T:=dMesh) o1 c (fun i hi=>d1 i (List.mem_append_left _ (hi))),Dt.chg (T:=dClasses) o2 c (fun i hi=>d1 i (List.mem_append_right _ hi)),os,Dt.chg (T:=dIntS) o4 c (fun i hi=>d2 i (List.mem_append_left _ hi)),Dt.chg (T:=dIntS) o5 c (fun i hi=>d2 i (List.mem_append_right _ (List.mem_append_left _ hi))),Dt.chg (T:=dSS) o6 c (fun i hi=>d2 i (List.mem_append_right _ (List.mem_append_right _ (List.mem_append_left _ hi)))),Dt.chg (T:=dSS) o7 c (fun i hi=>d2 i (List.mem_append_right _ (List.mem_append_right _ (List.mem_append_right _ (List.mem_append_left _ hi))))),trivial⟩,m1,m2⟩
theorem net_inBuf {n:NetV}:∀i∈dSS.ids n.2.2.1,i∈dNet.ids n:=fun i hi=>by
 show i∈dMesh.ids n.1++(dClasses.ids n.2.1++(dSS.ids n.2.2.1++(dIntS.ids n.2.2.2.1++(dIntS.ids n.2.2.2.2.1++(dSS.ids n.2.2.2.2.2.1++(dSS.ids n.2.2.2.2.2.2.1++[]))))))
 simp only [List.mem_append];right;right;left;exact hi
theorem net_ndBuf {n:NetV} (nd:(dNet.ids n).Nodup):(dSS.ids n.2.2.1).Nodup:=by
 have e:dNet.ids n=(dMesh.ids n.1++dClasses.ids n.2.1)++(dSS.ids n.2.2.1++(dIntS.ids n.2.2.2.1++(dIntS.ids n.2.2.2.2.1++(dSS.ids n.2.2.2.2.2.1++(dSS.ids n.2.2.2.2.2.2.1++[]))))):=by
  show dMesh.ids n.1++(dClasses.ids n.2.1++(dSS.ids n.2.2.1++(dIntS.ids n.2.2.2.1++(dIntS.ids n.2.2.2.2.1++(dSS.ids n.2.2.2.2.2.1++(dSS.ids n.2.2.2.2.2.2.1++[]))))))=_
  simp only [List.append_assoc]
 rw [e] at nd
 exact (List.nodup_append.1 (List.nodup_append.1 nd).2.1).1
def withOwn (x:NetD) (s:List Int):NetD:=(x.1,x.2.1,x.2.2.1,s,x.2.2.2.2.1,x.2.2.2.2.2.1,x.2.2.2.2.2.2.1,x.2.2.2.2.2.2.2)
def putOwn (n:NetV) (u:Value):NetV:=(n.1,n.2.1,n.2.2.1,u,n.2.2.2.2.1,n.2.2.2.2.2.1,n.2.2.2.2.2.2.1,n.2.2.2.2.2.2.2)
theorem net_putOwn {K K':Heap} {n:NetV} {x:NetD} {u:Value} {s:List Int} (on:dNet.Ow K n x) (nd:(dNet.ids n).Nodup) (c:Chg K K' (dIntS.ids n.2.2.2.1)) (os:dIntS.Ow K' u s) (na:(dIntS.ids u).Nodup) (hi:∀i∈dIntS.ids u,i∈dIntS.ids n.2.2.2.1∨K.length≤i) :
 dNet.Ow K' (putOwn n u) (withOwn x s)∧(dNet.ids (putOwn n u)).Nodup∧∀i∈dNet.ids (putOwn n u),i∈dNet.ids n∨K.length≤i:=by
 have lt:=dNet.lt on
 have e:dNet.ids n=((dMesh.ids n.1++dClasses.ids n.2.1)++dSS.ids n.2.2.1)++(dIntS.ids n.2.2.2.1++(dIntS.ids n.2.2.2.2.1++(dSS.ids n.2.2.2.2.2.1++(dSS.ids n.2.2.2.2.2.2.1++[])))):=by
  show dMesh.ids n.1++(dClasses.ids n.2.1++(dSS.ids n.2.2.1++(dIntS.ids n.2.2.2.1++(dIntS.ids n.2.2.2.2.1++(dSS.ids n.2.2.2.2.2.1++(dSS.ids n.2.2.2.2.2.2.1++[]))))))=_
  simp only [List.append_assoc]
 have e':dNet.ids (putOwn n u)=((dMesh.ids n.1++dClasses.ids n.2.1)++dSS.ids n.2.2.1)++(dIntS.ids u++(dIntS.ids n.2.2.2.2.1++(dSS.ids n.2.2.2.2.2.1++(dSS.ids n.2.2.2.2.2.2.1++[])))):=by
  show dMesh.ids n.1++(dClasses.ids n.2.1++(dSS.ids n.2.2.1++(dIntS.ids u++(dIntS.ids n.2.2.2.2.1++(dSS.ids n.2.2.2.2.2.1++(dSS.ids n.2.2.2.2.2.2.1++[]))))))=_
  simp only [List.append_assoc]
 rw [e] at nd lt ⊢
 rw [e']
 obtain ⟨m1,m2⟩:=nd_mid nd lt na hi
 obtain ⟨d1,d2⟩:=nd_not nd
 obtain ⟨o1,o2,o3,o4,o5,o6,o7,_⟩:=on
 exact ⟨⟨Dt.chg (T:=dMesh) o1 c (fun i hi=>d1 i (List.mem_append_left _ (List.mem_append_left _ (hi)))),Dt.chg (T:=dClasses) o2 c (fun i hi=>d1 i (List.mem_append_left _ (List.mem_append_right _ hi))),Dt.chg (T:=dSS) o3 c (fun i hi=>d1 i (List.mem_append_right _ hi)),os,Dt.chg (T:=dIntS) o5 c (fun i hi=>d2 i (List.mem_append_left _ hi)),Dt.chg (T:=dSS) o6 c (fun i hi=>d2 i (List.mem_append_right _ (List.mem_append_left _ hi))),Dt.chg (T:=dSS) o7 c (fun i hi=>d2 i (List.mem_append_right _ (List.mem_append_right _ (List.mem_append_left _ hi)))),trivial⟩,m1,m2⟩
theorem net_inOwn {n:NetV}:∀i∈dIntS.ids n.2.2.2.1,i∈dNet.ids n:=fun i hi=>by
 show i∈dMesh.ids n.1++(dClasses.ids n.2.1++(dSS.ids n.2.2.1++(dIntS.ids n.2.2.2.1++(dIntS.ids n.2.2.2.2.1++(dSS.ids n.2.2.2.2.2.1++(dSS.ids n.2.2.2.2.2.2.1++[]))))))
 simp only [List.mem_append];right;right;right;left;exact hi
theorem net_ndOwn {n:NetV} (nd:(dNet.ids n).Nodup):(dIntS.ids n.2.2.2.1).Nodup:=by
 have e:dNet.ids n=((dMesh.ids n.1++dClasses.ids n.2.1)++dSS.ids n.2.2.1)++(dIntS.ids n.2.2.2.1++(dIntS.ids n.2.2.2.2.1++(dSS.ids n.2.2.2.2.2.1++(dSS.ids n.2.2.2.2.2.2.1++[])))):=by
  show dMesh.ids n.1++(dClasses.ids n.2.1++(dSS.ids n.2.2.1++(dIntS.ids n.2.2.2.1++(dIntS.ids n.2.2.2.2.1++(dSS.ids n.2.2.2.2.2.1++(dSS.ids n.2.2.2.2.2.2.1++[]))))))=_
  simp only [List.append_assoc]
 rw [e] at nd
 exact (List.nodup_append.1 (List.nodup_append.1 nd).2.1).1
def withTurn (x:NetD) (s:List Int):NetD:=(x.1,x.2.1,x.2.2.1,x.2.2.2.1,s,x.2.2.2.2.2.1,x.2.2.2.2.2.2.1,x.2.2.2.2.2.2.2)
def putTurn (n:NetV) (u:Value):NetV:=(n.1,n.2.1,n.2.2.1,n.2.2.2.1,u,n.2.2.2.2.2.1,n.2.2.2.2.2.2.1,n.2.2.2.2.2.2.2)
theorem net_putTurn {K K':Heap} {n:NetV} {x:NetD} {u:Value} {s:List Int} (on:dNet.Ow K n x) (nd:(dNet.ids n).Nodup) (c:Chg K K' (dIntS.ids n.2.2.2.2.1)) (os:dIntS.Ow K' u s) (na:(dIntS.ids u).Nodup) (hi:∀i∈dIntS.ids u,i∈dIntS.ids n.2.2.2.2.1∨K.length≤i) :
 dNet.Ow K' (putTurn n u) (withTurn x s)∧(dNet.ids (putTurn n u)).Nodup∧∀i∈dNet.ids (putTurn n u),i∈dNet.ids n∨K.length≤i:=by
 have lt:=dNet.lt on
 have e:dNet.ids n=(((dMesh.ids n.1++dClasses.ids n.2.1)++dSS.ids n.2.2.1)++dIntS.ids n.2.2.2.1)++(dIntS.ids n.2.2.2.2.1++(dSS.ids n.2.2.2.2.2.1++(dSS.ids n.2.2.2.2.2.2.1++[]))):=by
  show dMesh.ids n.1++(dClasses.ids n.2.1++(dSS.ids n.2.2.1++(dIntS.ids n.2.2.2.1++(dIntS.ids n.2.2.2.2.1++(dSS.ids n.2.2.2.2.2.1++(dSS.ids n.2.2.2.2.2.2.1++[]))))))=_
  simp only [List.append_assoc]
 have e':dNet.ids (putTurn n u)=(((dMesh.ids n.1++dClasses.ids n.2.1)++dSS.ids n.2.2.1)++dIntS.ids n.2.2.2.1)++(dIntS.ids u++(dSS.ids n.2.2.2.2.2.1++(dSS.ids n.2.2.2.2.2.2.1++[]))):=by
  show dMesh.ids n.1++(dClasses.ids n.2.1++(dSS.ids n.2.2.1++(dIntS.ids n.2.2.2.1++(dIntS.ids u++(dSS.ids n.2.2.2.2.2.1++(dSS.ids n.2.2.2.2.2.2.1++[]))))))=_
  simp only [List.append_assoc]
 rw [e] at nd lt ⊢
 rw [e']
 obtain ⟨m1,m2⟩:=nd_mid nd lt na hi
 obtain ⟨d1,d2⟩:=nd_not nd
 obtain ⟨o1,o2,o3,o4,o5,o6,o7,_⟩:=on
 exact ⟨⟨Dt.chg (T:=dMesh) o1 c (fun i hi=>d1 i (List.mem_append_left _ (List.mem_append_left _ (List.mem_append_left _ (hi))))),Dt.chg (T:=dClasses) o2 c (fun i hi=>d1 i (List.mem_append_left _ (List.mem_append_left _ (List.mem_append_right _ hi)))),Dt.chg (T:=dSS) o3 c (fun i hi=>d1 i (List.mem_append_left _ (List.mem_append_right _ hi))),Dt.chg (T:=dIntS) o4 c (fun i hi=>d1 i (List.mem_append_right _ hi)),os,Dt.chg (T:=dSS) o6 c (fun i hi=>d2 i (List.mem_append_left _ hi)),Dt.chg (T:=dSS) o7 c (fun i hi=>d2 i (List.mem_append_right _ (List.mem_append_left _ hi))),trivial⟩,m1,m2⟩
theorem net_inTurn {n:NetV}:∀i∈dIntS.ids n.2.2.2.2.1,i∈dNet.ids n:=fun i hi=>by
 show i∈dMesh.ids n.1++(dClasses.ids n.2.1++(dSS.ids n.2.2.1++(dIntS.ids n.2.2.2.1++(dIntS.ids n.2.2.2.2.1++(dSS.ids n.2.2.2.2.2.1++(dSS.ids n.2.2.2.2.2.2.1++[]))))))
 simp only [List.mem_append];right;right;right;right;left;exact hi
theorem net_ndTurn {n:NetV} (nd:(dNet.ids n).Nodup):(dIntS.ids n.2.2.2.2.1).Nodup:=by
 have e:dNet.ids n=(((dMesh.ids n.1++dClasses.ids n.2.1)++dSS.ids n.2.2.1)++dIntS.ids n.2.2.2.1)++(dIntS.ids n.2.2.2.2.1++(dSS.ids n.2.2.2.2.2.1++(dSS.ids n.2.2.2.2.2.2.1++[]))):=by
  show dMesh.ids n.1++(dClasses.ids n.2.1++(dSS.ids n.2.2.1++(dIntS.ids n.2.2.2.1++(dIntS.ids n.2.2.2.2.1++(dSS.ids n.2.2.2.2.2.1++(dSS.ids n.2.2.2.2.2.2.1++[]))))))=_
  simp only [List.append_assoc]
 rw [e] at nd
 exact (List.nodup_append.1 (List.nodup_append.1 nd).2.1).1
def withSrc (x:NetD) (s:SSD):NetD:=(x.1,x.2.1,x.2.2.1,x.2.2.2.1,x.2.2.2.2.1,s,x.2.2.2.2.2.2.1,x.2.2.2.2.2.2.2)
def putSrc (n:NetV) (u:SSV):NetV:=(n.1,n.2.1,n.2.2.1,n.2.2.2.1,n.2.2.2.2.1,u,n.2.2.2.2.2.2.1,n.2.2.2.2.2.2.2)
theorem net_putSrc {K K':Heap} {n:NetV} {x:NetD} {u:SSV} {s:SSD} (on:dNet.Ow K n x) (nd:(dNet.ids n).Nodup) (c:Chg K K' (dSS.ids n.2.2.2.2.2.1)) (os:dSS.Ow K' u s) (na:(dSS.ids u).Nodup) (hi:∀i∈dSS.ids u,i∈dSS.ids n.2.2.2.2.2.1∨K.length≤i) :
 dNet.Ow K' (putSrc n u) (withSrc x s)∧(dNet.ids (putSrc n u)).Nodup∧∀i∈dNet.ids (putSrc n u),i∈dNet.ids n∨K.length≤i:=by
 have lt:=dNet.lt on
 have e:dNet.ids n=((((dMesh.ids n.1++dClasses.ids n.2.1)++dSS.ids n.2.2.1)++dIntS.ids n.2.2.2.1)++dIntS.ids n.2.2.2.2.1)++(dSS.ids n.2.2.2.2.2.1++(dSS.ids n.2.2.2.2.2.2.1++[])):=by
  show dMesh.ids n.1++(dClasses.ids n.2.1++(dSS.ids n.2.2.1++(dIntS.ids n.2.2.2.1++(dIntS.ids n.2.2.2.2.1++(dSS.ids n.2.2.2.2.2.1++(dSS.ids n.2.2.2.2.2.2.1++[]))))))=_
  simp only [List.append_assoc]
 have e':dNet.ids (putSrc n u)=((((dMesh.ids n.1++dClasses.ids n.2.1)++dSS.ids n.2.2.1)++dIntS.ids n.2.2.2.1)++dIntS.ids n.2.2.2.2.1)++(dSS.ids u++(dSS.ids n.2.2.2.2.2.2.1++[])):=by
  show dMesh.ids n.1++(dClasses.ids n.2.1++(dSS.ids n.2.2.1++(dIntS.ids n.2.2.2.1++(dIntS.ids n.2.2.2.2.1++(dSS.ids u++(dSS.ids n.2.2.2.2.2.2.1++[]))))))=_
  simp only [List.append_assoc]
 rw [e] at nd lt ⊢
 rw [e']
 obtain ⟨m1,m2⟩:=nd_mid nd lt na hi
 obtain ⟨d1,d2⟩:=nd_not nd
 obtain ⟨o1,o2,o3,o4,o5,o6,o7,_⟩:=on
 exact ⟨⟨Dt.chg (T:=dMesh) o1 c (fun i hi=>d1 i (List.mem_append_left _ (List.mem_append_left _ (List.mem_append_left _ (List.mem_append_left _ (hi)))))),Dt.chg (T:=dClasses) o2 c (fun i hi=>d1 i (List.mem_append_left _ (List.mem_append_left _ (List.mem_append_left _ (List.mem_append_right _ hi))))),Dt.chg (T:=dSS) o3 c (fun i hi=>d1 i (List.mem_append_left _ (List.mem_append_left _ (List.mem_append_right _ hi)))),Dt.chg (T:=dIntS) o4 c (fun i hi=>d1 i (List.mem_append_left _ (List.mem_append_right _ hi))),Dt.chg (T:=dIntS) o5 c (fun i hi=>d1 i (List.mem_append_right _ hi)),os,Dt.chg (T:=dSS) o7 c (fun i hi=>d2 i (List.mem_append_left _ hi)),trivial⟩,m1,m2⟩
theorem net_inSrc {n:NetV}:∀i∈dSS.ids n.2.2.2.2.2.1,i∈dNet.ids n:=fun i hi=>by
 show i∈dMesh.ids n.1++(dClasses.ids n.2.1++(dSS.ids n.2.2.1++(dIntS.ids n.2.2.2.1++(dIntS.ids n.2.2.2.2.1++(dSS.ids n.2.2.2.2.2.1++(dSS.ids n.2.2.2.2.2.2.1++[]))))))
 simp only [List.mem_append];right;right;right;right;right;left;exact hi
theorem net_ndSrc {n:NetV} (nd:(dNet.ids n).Nodup):(dSS.ids n.2.2.2.2.2.1).Nodup:=by
 have e:dNet.ids n=((((dMesh.ids n.1++dClasses.ids n.2.1)++dSS.ids n.2.2.1)++dIntS.ids n.2.2.2.1)++dIntS.ids n.2.2.2.2.1)++(dSS.ids n.2.2.2.2.2.1++(dSS.ids n.2.2.2.2.2.2.1++[])):=by
  show dMesh.ids n.1++(dClasses.ids n.2.1++(dSS.ids n.2.2.1++(dIntS.ids n.2.2.2.1++(dIntS.ids n.2.2.2.2.1++(dSS.ids n.2.2.2.2.2.1++(dSS.ids n.2.2.2.2.2.2.1++[]))))))=_
  simp only [List.append_assoc]
 rw [e] at nd
 exact (List.nodup_append.1 (List.nodup_append.1 nd).2.1).1
def withArr (x:NetD) (s:SSD):NetD:=(x.1,x.2.1,x.2.2.1,x.2.2.2.1,x.2.2.2.2.1,x.2.2.2.2.2.1,s,x.2.2.2.2.2.2.2)
def putArr (n:NetV) (u:SSV):NetV:=(n.1,n.2.1,n.2.2.1,n.2.2.2.1,n.2.2.2.2.1,n.2.2.2.2.2.1,u,n.2.2.2.2.2.2.2)
theorem net_putArr {K K':Heap} {n:NetV} {x:NetD} {u:SSV} {s:SSD} (on:dNet.Ow K n x) (nd:(dNet.ids n).Nodup) (c:Chg K K' (dSS.ids n.2.2.2.2.2.2.1)) (os:dSS.Ow K' u s) (na:(dSS.ids u).Nodup) (hi:∀i∈dSS.ids u,i∈dSS.ids n.2.2.2.2.2.2.1∨K.length≤i) :
 dNet.Ow K' (putArr n u) (withArr x s)∧(dNet.ids (putArr n u)).Nodup∧∀i∈dNet.ids (putArr n u),i∈dNet.ids n∨K.length≤i:=by
 have lt:=dNet.lt on
 have e:dNet.ids n=(((((dMesh.ids n.1++dClasses.ids n.2.1)++dSS.ids n.2.2.1)++dIntS.ids n.2.2.2.1)++dIntS.ids n.2.2.2.2.1)++dSS.ids n.2.2.2.2.2.1)++(dSS.ids n.2.2.2.2.2.2.1++[]):=by
  show dMesh.ids n.1++(dClasses.ids n.2.1++(dSS.ids n.2.2.1++(dIntS.ids n.2.2.2.1++(dIntS.ids n.2.2.2.2.1++(dSS.ids n.2.2.2.2.2.1++(dSS.ids n.2.2.2.2.2.2.1++[]))))))=_
  simp only [List.append_assoc]
 have e':dNet.ids (putArr n u)=(((((dMesh.ids n.1++dClasses.ids n.2.1)++dSS.ids n.2.2.1)++dIntS.ids n.2.2.2.1)++dIntS.ids n.2.2.2.2.1)++dSS.ids n.2.2.2.2.2.1)++(dSS.ids u++[]):=by
  show dMesh.ids n.1++(dClasses.ids n.2.1++(dSS.ids n.2.2.1++(dIntS.ids n.2.2.2.1++(dIntS.ids n.2.2.2.2.1++(dSS.ids n.2.2.2.2.2.1++(dSS.ids u++[]))))))=_
  simp only [List.append_assoc]
 rw [e] at nd lt ⊢
 rw [e']
 obtain ⟨m1,m2⟩:=nd_mid nd lt na hi
 obtain ⟨d1,d2⟩:=nd_not nd
 obtain ⟨o1,o2,o3,o4,o5,o6,o7,_⟩:=on
 exact ⟨⟨Dt.chg (T:=dMesh) o1 c (fun i hi=>d1 i (List.mem_append_left _ (List.mem_append_left _ (List.mem_append_left _ (List.mem_append_left _ (List.mem_append_left _ (hi))))))),Dt.chg (T:=dClasses) o2 c (fun i hi=>d1 i (List.mem_append_left _ (List.mem_append_left _ (List.mem_append_left _ (List.mem_append_left _ (List.mem_append_right _ hi)))))),Dt.chg (T:=dSS) o3 c (fun i hi=>d1 i (List.mem_append_left _ (List.mem_append_left _ (List.mem_append_left _ (List.mem_append_right _ hi))))),Dt.chg (T:=dIntS) o4 c (fun i hi=>d1 i (List.mem_append_left _ (List.mem_append_left _ (List.mem_append_right _ hi)))),Dt.chg (T:=dIntS) o5 c (fun i hi=>d1 i (List.mem_append_left _ (List.mem_append_right _ hi))),Dt.chg (T:=dSS) o6 c (fun i hi=>d1 i (List.mem_append_right _ hi)),os,trivial⟩,m1,m2⟩
theorem net_inArr {n:NetV}:∀i∈dSS.ids n.2.2.2.2.2.2.1,i∈dNet.ids n:=fun i hi=>by
 show i∈dMesh.ids n.1++(dClasses.ids n.2.1++(dSS.ids n.2.2.1++(dIntS.ids n.2.2.2.1++(dIntS.ids n.2.2.2.2.1++(dSS.ids n.2.2.2.2.2.1++(dSS.ids n.2.2.2.2.2.2.1++[]))))))
 simp only [List.mem_append];right;right;right;right;right;right;left;exact hi
theorem net_ndArr {n:NetV} (nd:(dNet.ids n).Nodup):(dSS.ids n.2.2.2.2.2.2.1).Nodup:=by
 have e:dNet.ids n=(((((dMesh.ids n.1++dClasses.ids n.2.1)++dSS.ids n.2.2.1)++dIntS.ids n.2.2.2.1)++dIntS.ids n.2.2.2.2.1)++dSS.ids n.2.2.2.2.2.1)++(dSS.ids n.2.2.2.2.2.2.1++[]):=by
  show dMesh.ids n.1++(dClasses.ids n.2.1++(dSS.ids n.2.2.1++(dIntS.ids n.2.2.2.1++(dIntS.ids n.2.2.2.2.1++(dSS.ids n.2.2.2.2.2.1++(dSS.ids n.2.2.2.2.2.2.1++[]))))))=_
  simp only [List.append_assoc]
 rw [e] at nd
 exact (List.nodup_append.1 (List.nodup_append.1 nd).2.1).1
def sendNet (x:NetD) (p:PkD):NetD:=withSrc x (x.2.2.2.2.2.1.set p.2.1.toNat (x.2.2.2.2.2.1.getD p.2.1.toNat []++flitsOf x.1.1 x.1.2.1 p))
theorem ss_set {K:Heap} {u:Value} {hs:List Value} {xss:SSD} {k:Nat} {ys:List FlitD} (h:OwL flF 134 123 K u hs (xss.set k ys)) (h1:xss.length≤2097152) (h2:∀xs∈xss,xs.length≤67108864) (h3:ys.length≤67108864):dSS.Ow K (u,hs) (xss.set k ys):=
 ⟨h,by simpa using h1,fun xs hx=>by
  rcases List.mem_or_eq_of_mem_set hx with hx|rfl
  ·exact h2 xs hx
  ·exact h3⟩
theorem flitsOf_len (w h:Int) (p:PkD):(flitsOf w h p).length≤5:=by
 unfold flitsOf;split
 ·rename_i g
  have:=g.2.2.2.2.2;unfold inR at this;simp;omega
 ·simp
theorem sL16Send_d {v:NetV} {x:NetD} {p:PkD} {m:Nat} (o:dNet.Ow H v x) (hm:p.2.1=m) (hml:m<x.2.2.2.2.2.1.length) (hs:(x.2.2.2.2.2.1[m]).length≤60) :
 wp (vcall C frz 200 [dNet.val v x,pkV p] H) (dNet.Made H (sendNet x p)):=by
 have ones:=dNet_one o
 have ecopy:=fun L=>l15Copy_d (frz:=H.length) (H:=H++L) (v:=v) (x:=x) (Dt.app (T:=dNet) o)
 have fo:=fun F H=>sFlitsOf_w (frz:=F) (H:=H) x.1.1 x.1.2.1 p
 obtain ⟨q1,q2,q3,q4,q5⟩:=p
 simp only at hm
 subst hm
 unfold pkV at fo ⊢
 simp only [dNet_val] at ecopy ⊢
 rw [vcall_go (fn:=Try.f200) Try.func200 rfl (by kernel_rfl) rfl]
 simp only at fo
 simp [ones]
 refine wp_thn (ecopy _) ?_
 rintro _ K ⟨n,rfl,on,cn,mn,dn⟩
 simp at mn
 have qn:=dNet_one on
 have lK:=cn.1
 simp at lK
 simp [dNet_val,qn,VM.look]
 have hF:H.length≤K.length:=by omega
 simp [hF]
 obtain ⟨K1,hK1⟩:∃K1,K1=K++[⟨[.int .i64 x.1.1,.int .i64 x.1.2.1,n.1,n.2.1.1,n.2.1.2,n.2.2.1.1,n.2.2.2.1,n.2.2.2.2.1,n.2.2.2.2.2.1.1,n.2.2.2.2.2.2.1.1,.int .i64 x.2.2.2.2.2.2.2],0,59⟩]:=⟨_,rfl⟩
 rw [← hK1]
 have cH:Chg H K []:=(Chg.app _).trans cn
 have c1:Chg K K1 []:=by rw [hK1];exact Chg.app _
 have l1:K1.length=K.length+1:=by rw [hK1];simp
 have b2:K1[H.length]? = some ⟨[.int .i64 x.1.1,.int .i64 x.1.2.1,v.1,v.2.1.1,v.2.1.2,v.2.2.1.1,v.2.2.2.1,v.2.2.2.2.1,v.2.2.2.2.2.1.1,v.2.2.2.2.2.2.1.1,.int .i64 x.2.2.2.2.2.2.2],0,59⟩:=box_chg (box_chg (by simp) cn (by simp)) c1 (by simp)
 have b3:K1[H.length+1]? = some ⟨[.int .i64 q1,.int .i64 m,.int .i64 q3,.int .i64 q4,.int .i64 q5],0,44⟩:=box_chg (box_chg (by simp) cn (by simp)) c1 (by simp)
 have bR:K1[H.length+2]? = some ⟨[.int .i64 0,.int .i64 0,.slice none 0 0,.slice none 0 0,.slice none 0 0,.slice none 0 0,.slice none 0 0,.slice none 0 0,.slice none 0 0,.slice none 0 0,.int .i64 0],0,59⟩:=box_chg (box_chg (by simp) cn (by simp)) c1 (by simp)
 have b5:K1[K.length]? = some ⟨[.int .i64 x.1.1,.int .i64 x.1.2.1,n.1,n.2.1.1,n.2.1.2,n.2.2.1.1,n.2.2.2.1,n.2.2.2.2.1,n.2.2.2.2.2.1.1,n.2.2.2.2.2.2.1.1,.int .i64 x.2.2.2.2.2.2.2],0,59⟩:=by rw [hK1];simp
 have on1:=Dt.chg (T:=dNet) on c1 (by simp)
 clear hK1
 obtain ⟨o1,o2,o3,o4,o5,o6,o7,_⟩:=on1
 obtain ⟨a,a1,a2,a3,a4⟩:=RdL_at o6.1.rd (ty:=57) (e:=123) (by simp) (by simp) hml
 rw [go_drawF (fl:=([1,3],[17])) (h:=⟨by kernel_rfl,by kernel_rfl,by kernel_rfl,by kernel_rfl⟩)]
 have lv:=fun H=>@Ow_live H
 have liv:=Ow_live o6.1.1
 have qa:VM.one a=true∧a.cells=#[a]:=⟨a4.one',a4.cells⟩
 simp [emps,empOp,empB,VM.look,b2,b3,b5,a2,a3,qn,liv]
 refine wp_thnW (fo _ _) ?_
 rintro y K2 ⟨oy,ny,c2⟩
 have b2:=box_chg b2 c2 (by simp)
 have b3:=box_chg b3 c2 (by simp)
 have bR:=box_chg bR c2 (by simp)
 have b5:=box_chg b5 c2 (by simp)
 have o1:=Dt.chg (T:=dMesh) o1 c2 (by simp)
 have o2:=Dt.chg (T:=dClasses) o2 c2 (by simp)
 have o3:=Dt.chg (T:=dSS) o3 c2 (by simp)
 have o4:=Dt.chg (T:=dIntS) o4 c2 (by simp)
 have o5:=Dt.chg (T:=dIntS) o5 c2 (by simp)
 have o6:=Dt.chg (T:=dSS) o6 c2 (by simp)
 have o7:=Dt.chg (T:=dSS) o7 c2 (by simp)
 have liv2:=Ow_live o6.1.1
 refine ⟨by simp [VM.look,b3,b5,qn,liv2],?_⟩
 have hml':m<n.2.2.2.2.2.1.2.length:=by rw [o6.1.2.1];exact hml
 have ea:n.2.2.2.2.2.1.2[m]=a:=by rw [List.getElem?_eq_getElem hml'] at a1;exact Option.some.inj a1
 have oa:Ow flF 134 K2 a x.2.2.2.2.2.1[m]:=o6.1.2.2 m a _ a1 (by simp [hml])
 have h6:∀i∈dSS.ids n.2.2.2.2.2.1,i∈dNet.ids n:=fun i hi=>List.mem_append_right _ (List.mem_append_right _ (List.mem_append_right _ (List.mem_append_right _ (List.mem_append_right _ (List.mem_append_left _ hi)))))
 have ha6:∀i∈ids a,i∈dSS.ids n.2.2.2.2.2.1:=fun i hi=>mem_idsL a1 hi
 have nd6:(dSS.ids n.2.2.2.2.2.1).Nodup:=by
  have:=(List.nodup_append.1 ((List.nodup_append.1 ((List.nodup_append.1 ((List.nodup_append.1 ((List.nodup_append.1 ((List.nodup_append.1 dn).2.1)).2.1)).2.1)).2.1)).2.1)).1
  exact this
 have hfl:=flitsOf_len x.1.1 x.1.2.1 (q1,m,q3,q4,q5)
 obtain ⟨a',K3,hap,oa',c3,na'⟩:=oa.append (P:=Try.prog) (frz:=H.length) (ty:=123) oy.rd (by simp) (ones_flF _) (by omega) (fun i hi=>by have:=mn i (h6 i (ha6 i hi));omega)
 have c3':Chg K2 K3 (ids n.2.2.2.2.2.1.2[m]):=by rw [ea];exact c3
 obtain ⟨K4,hst,oL,c4,ndL,idL,l4⟩:=OwL_put (frz:=H.length) (et:=123) (ag:=false) o6.1 nd6 hml' c3' oa' (by rw [ea];exact na') (fun i hi=>by have:=mn i (h6 i hi);omega) (by simp)
 have lt6:∀i∈dSS.ids n.2.2.2.2.2.1,i<K.length:=fun i hi=>dNet.lt on i (h6 i hi)
 have ida:∀i∈ids a,H.length+3≤i∧i<K.length:=fun i hi=>⟨by have:=mn i (h6 i (ha6 i hi));omega,lt6 i (ha6 i hi)⟩
 have b33:=box_chg b3 c3 (fun hh=>by have:=ida _ hh;omega)
 have b35:=box_chg b5 c3 (fun hh=>by have:=ida _ hh;omega)
 have dav:∀i∈ids n.2.2.2.2.2.1.1,i∉ids a:=fun i hi hh=>(List.nodup_append.1 nd6).2.2 i hi i (List.mem_flatMap.2 ⟨a,List.mem_of_getElem? a1,hh⟩) rfl
 have ol3:=o6.1.1.chg c3 dav
 have liv3:=Ow_live ol3
 have hsl:=o6.1.2.1
 have ix3:=ol3.rd.idx (P:=Try.prog) (ty:=57) (e:=123) (by simp) (i:=(m:Int)) (by omega) (by omega)
 have i6:∀i∈idsL n.2.2.2.2.2.1.1 n.2.2.2.2.2.1.2,H.length+3≤i∧i<K.length:=fun i hi=>⟨by have:=mn i (h6 i hi);omega,lt6 i hi⟩
 have b43:=box_chg b3 c4 (fun hh=>by have:=i6 _ hh;omega)
 have b45:=box_chg b5 c4 (fun hh=>by have:=i6 _ hh;omega)
 have b4R:=box_chg bR c4 (fun hh=>by have:=i6 _ hh;omega)
 have liv4:=Ow_live oL.1
 have qa':VM.one a'=true∧a'.cells=#[a']:=⟨oa'.rd.one',oa'.rd.cells⟩
 simp only [Int.toNat_natCast,Nat.mul_one,show Fl.val.n=1 from rfl] at ix3
 have gR:=set_get (r':=⟨[.int .i64 x.1.1,.int .i64 x.1.2.1,n.1,n.2.1.1,n.2.1.2,n.2.2.1.1,n.2.2.2.1,n.2.2.2.2.1,n.2.2.2.2.2.1.1,n.2.2.2.2.2.2.1.1,.int .i64 x.2.2.2.2.2.2.2],0,59⟩) b4R
 have hF2:H.length≤H.length+2:=by omega
 simp [-vappend_nil,-vappend_mk,VM.look,hap,hst,b33,b35,ix3,liv3,b43,b45,liv4,qn,qa',b4R,gR,hF2]
 have e:sendNet x (q1,m,q3,q4,q5)=withSrc x (x.2.2.2.2.2.1.set m (x.2.2.2.2.2.1[m]++flitsOf x.1.1 x.1.2.1 (q1,m,q3,q4,q5))):=by
  unfold sendNet
  simp only [Int.toNat_natCast,List.getD_eq_getElem?_getD,List.getElem?_eq_getElem hml,Option.getD_some]
 rw [e]
 have on2:dNet.Ow K2 n x:=⟨o1,o2,o3,o4,o5,o6,o7,trivial⟩
 have l2:=c2.1
 obtain ⟨p1,p2,p3⟩:=net_putSrc (u:=(n.2.2.2.2.2.1.1,n.2.2.2.2.2.1.2.set m a')) on2 dn c4 (ss_set oL o6.2.1 o6.2.2 (by simp;omega)) ndL idL
 have eR:Chg K4 (K4.set (H.length+2) ⟨[.int .i64 x.1.1,.int .i64 x.1.2.1,n.1,n.2.1.1,n.2.1.2,n.2.2.1.1,n.2.2.2.1,n.2.2.2.2.1,n.2.2.2.2.2.1.1,n.2.2.2.2.2.2.1.1,.int .i64 x.2.2.2.2.2.2.2],0,59⟩) [H.length+2]:=chg_set _ _
 have pm:∀i∈dNet.ids (putSrc n (n.2.2.2.2.2.1.1,n.2.2.2.2.2.1.2.set m a')),H.length+3≤i:=fun i hi=>by
  rcases p3 i hi with g|g
  ·have:=mn i g;omega
  ·omega
 refine ⟨putSrc n (n.2.2.2.2.2.1.1,n.2.2.2.2.2.1.2.set m a'),rfl,Dt.chg (T:=dNet) p1 eR (fun i hi hh=>by have:=pm i hi;simp at hh;omega),?_,fun i hi=>by have:=pm i hi;omega,p2⟩
 exact (((cH.trans c1).trans c2).trans' c4 (fun i hi=>.inr (by have:=i6 i hi;omega))).trans' eR (fun i hi=>.inr (by simp at hi;omega))
def netCells (v:NetV) (x:NetD):List Value:=[.int .i64 x.1.1,.int .i64 x.1.2.1,v.1,v.2.1.1,v.2.1.2,v.2.2.1.1,v.2.2.2.1,v.2.2.2.2.1,v.2.2.2.2.2.1.1,v.2.2.2.2.2.2.1.1,.int .i64 x.2.2.2.2.2.2.2]
def sendOk (x:NetD) (p:PkD):Prop:=packetOk x.1.1 x.1.2.1 p∧((x.2.2.2.2.2.1.getD p.2.1.toNat []).length:Int)+p.2.2.2.2≤60
instance (x:NetD) (p:PkD):Decidable (sendOk x p):=inferInstanceAs (Decidable (_∧_))
theorem flitsOf_ok {w h:Int} {p:PkD} (g:packetOk w h p):((flitsOf w h p).length:Int)=p.2.2.2.2:=by
 unfold flitsOf;rw [if_pos g]
 have:=g.2.2.2.2.2;unfold inR at this;simp;omega
theorem front {K:Heap} {u:Value} {xs:List FlitD} (rd:Rd flF K u xs) (h:xs≠[]) :
 vindexAddr Try.prog K 123 u (.int .i64 0)=some (elp u 0)∧vfieldAddr Try.prog K 134 1 (elp u 0)=some (elp u 1)∧vfieldAddr Try.prog K 134 2 (elp u 0)=some (elp u 2)∧
 vfieldAddr Try.prog K 134 3 (elp u 0)=some (elp u 3)∧vload Try.prog K 3 (elp u 1)=some (.int .i64 (headL xs).2.1)∧vload Try.prog K 3 (elp u 2)=some (.int .i64 (headL xs).2.2.1)∧
 vload Try.prog K 4 (elp u 3)=some (.bool (headL xs).2.2.2.1)∧vload Try.prog K 134 (elp u 0)=some (.agg (flF.f (headL xs)).toArray):=by
 have h0:0<xs.length:=List.length_pos_iff.2 h
 have z0:=rd.idx (P:=Try.prog) (ty:=123) (e:=134) (by simp) (i:=0) (by omega) (by omega)
 have f1:=rd.field (P:=Try.prog) (s:=134) (f:=1) (o:=1) (n:=1) (ag:=false) (by simp) (j:=0) h0
 have f2:=rd.field (P:=Try.prog) (s:=134) (f:=2) (o:=2) (n:=1) (ag:=false) (by simp) (j:=0) h0
 have f3:=rd.field (P:=Try.prog) (s:=134) (f:=3) (o:=3) (n:=1) (ag:=false) (by simp) (j:=0) h0
 have c1:=rd.cell (P:=Try.prog) (e:=3) (by simp) h0 (c:=1) (by decide)
 have c2:=rd.cell (P:=Try.prog) (e:=3) (by simp) h0 (c:=2) (by decide)
 have c3:=rd.cell (P:=Try.prog) (e:=4) (by simp) h0 (c:=3) (by decide)
 have q2:=rd.load (P:=Try.prog) (e:=134) (by simp) h0
 have e:headL xs=xs[0]:=by cases xs with
  | nil=>exact absurd rfl h
  | cons a l=>rfl
 rw [e]
 simp only [Int.toNat_natCast,flF_n,Int.toNat_zero,Nat.zero_mul,Nat.zero_add,Nat.add_zero] at z0 f1 f2 f3 c1 c2 c3 q2
 simp only [flF_f] at c1 c2 c3
 simp at c1 c2 c3
 exact ⟨z0,f1,f2,f3,c1,c2,c3,q2⟩
theorem find_range {P:Nat→Bool} {n p:Nat} (hp:p<n) (h:P p=true) (hn:∀q,q<p→P q=false):(List.range n).find? P=some p:=by
 rw [List.find?_eq_some_iff_append]
 refine ⟨h,List.range p,(List.range' (p+1) (n-(p+1))),?_,fun q hq=>by simpa using hn q (List.mem_range.1 hq)⟩
 rw [List.range_eq_range',List.range_eq_range']
 have e:n=p+(1+(n-(p+1))):=by omega
 conv=>lhs;rw [e,← List.range'_append_1]
 rw [Nat.add_comm 1,List.range'_succ];simp
theorem find_range_none {P:Nat→Bool} {n:Nat} (hn:∀q,q<n→P q=false):(List.range n).find? P=none:=by
 rw [List.find?_eq_none];intro q hq;simp [hn q (List.mem_range.1 hq)]
theorem turn_val {y t:Int} (h1:inR 0 y 9) (h2:inR 0 t 9):∀[Inhabited Unit],(IntKind.i64.wrap (IntKind.i64.wrap (y-t)+10)).tmod 10=(y-t+10)%10:=by
 intro _
 unfold inR at h1 h2
 rw [w64 (x:=y-t) (by omega) (by omega),w64 (by omega) (by omega),Int.tmod_eq_emod_of_nonneg (by omega)]
def firstTo (t:Int) (l:List Int) (i:Nat):Int:=firstF t (l.take i)
theorem firstTo_succ (t:Int) {l:List Int} {i:Nat} (h:i<l.length):firstTo t l (i+1)=if firstTo t l i<0∨(l[i]-t+10)%10<(firstTo t l i-t+10)%10 then l[i] else firstTo t l i:=by
 unfold firstTo firstF
 rw [List.take_succ_eq_append_getElem h,List.foldl_append];rfl
theorem firstTo_in {t:Int} {l:List Int} {i:Nat} (h:∀y∈l,inR 0 y 9):firstTo t l i=-1∨inR 0 (firstTo t l i) 9:=by
 rcases firstF_in t (l.take i) (-1) with g|g
 ·exact .inl g
 ·exact .inr (h _ (List.mem_of_mem_take g))
theorem sFirstFrom_c (v:Value) (l:List Int) (k:Int) (hI:IsI H v l) (hl:l.length≤1073741824) (h1:∀y∈l,inR 0 y 9) (h2:inR 0 k 9) :
 vcall C frz 210 [v,.int .i64 k] H=some (.int .i64 (firstF k l),H):=by
 refine wp.exact (by simp) ?_ rfl
 rw [vcall_go (fn:=Try.f210) Try.func210 rfl (by kernel_rfl) rfl]
 simp
 refine wp_inv (fun n t H'=>∃i:Nat,n=l.length-i∧i≤l.length∧t 0=v∧t 1=.int .i64 k∧t 5=.int .i64 (firstTo k l i)∧t 6=.int .i64 i∧H'=H) ?_ (n:=l.length)
  ⟨0,rfl,by omega,by simp,by simp,by simp [firstTo,firstF],by simp,rfl⟩
 rintro n t H' ⟨i,rfl,hi,t0,t1,t5,t6,rfl⟩ ih
 simp [t0,t1,t5,t6,hI.len]
 refine wp_dec ?_ ?_<;>intro g
 ·have hi':i<l.length:=by omega
  have hs:=firstTo_succ k hi'
  have hy:=h1 _ (List.getElem_mem hi')
  have tv:=turn_val hy h2
  simp [t0,t1,t5,t6,hI.idx,hI.load,getD_get,hi',l01In_c,hy,h2]
  rcases firstTo_in (t:=k) (i:=i) h1 with g1|g1
  ·rw [g1] at hs
   simp [g1] at hs
   simp [t0,t1,t5,t6,g1,hI.idx,hI.load,getD_get,hi']
   refine ih (l.length-(i+1)) _ _ ⟨i+1,rfl,by omega,by simp [t0],by simp [t1],by simp [hs],?_,rfl⟩ (by omega)
   simp [t6];rw [w64 (by omega) (by omega)]
  ·have tb:=turn_val g1 h2
   have g2:¬firstTo k l i<0:=by unfold inR at g1;omega
   simp [t0,t1,t5,t6,g2,tv,tb,hI.idx,hI.load,getD_get,hi']
   refine wp_dec ?_ ?_<;>intro g3
   ·rw [if_pos (.inr (by omega))] at hs
    simp [t0,t1,t5,t6,hI.idx,hI.load,getD_get,hi']
    refine ih (l.length-(i+1)) _ _ ⟨i+1,rfl,by omega,by simp [t0],by simp [t1],by simp [hs],?_,rfl⟩ (by omega)
    simp [t6];rw [w64 (by omega) (by omega)]
   ·rw [if_neg (by omega)] at hs
    simp [t0,t1,t5,t6]
    refine ih (l.length-(i+1)) _ _ ⟨i+1,rfl,by omega,by simp [t0],by simp [t1],by simp [hs,t5],?_,rfl⟩ (by omega)
    simp [t6];rw [w64 (by omega) (by omega)]
 ·have:i=l.length:=by omega
  subst this
  simp [t0,t1,t5,t6,firstTo]
end Go.Proofs.Ytcigpclbhfkgaaa.V
set_option linter.all false
namespace Go.Proofs.Ytcigpclbhfkgaaa.V
open Go Go.VM Go.Proofs
def G (xs:List Int) (i:Nat):Int:=xs.getD i 0
theorem G_get {xs:List Int} {i:Nat} (h:i<xs.length):G xs i=xs[i]:=by simp [G,List.getD_eq_getElem?_getD,h]
def swp (xs:List Int) (i j:Nat):List Int:=(xs.set i (G xs j)).set j (G xs i)
@[simp] theorem swp_len (xs:List Int) (i j:Nat):(swp xs i j).length=xs.length:=by simp [swp]
theorem G_swp {xs:List Int} {i j:Nat} (hi:i<xs.length) (hj:j<xs.length) (k:Nat):G (swp xs i j) k=if k=j then G xs i else if k=i then G xs j else G xs k:=by
 unfold swp
 by_cases hk:k<xs.length
 ·rw [G_get (by simpa using hk),List.getElem_set,List.getElem_set]
  by_cases h1:k=j
  ·rw [if_pos h1.symm,if_pos h1]
  ·rw [if_neg (Ne.symm h1),if_neg h1]
   by_cases h2:k=i
   ·rw [if_pos h2.symm,if_pos h2]
   ·rw [if_neg (Ne.symm h2),if_neg h2,G_get hk]
 ·rw [if_neg (by omega),if_neg (by omega)]
  simp [G,List.getD_eq_getElem?_getD,hk]
inductive Sw (a b:Nat) (xs:List Int):List Int→Prop
 | refl:Sw a b xs xs
 | step {ys:List Int} (i j:Nat) (h:Sw a b xs ys) (hi:a≤i∧i<b) (hj:a≤j∧j<b):Sw a b xs (swp ys i j)
variable {a b c d:Nat} {xs ys zs:List Int}
theorem Sw.len (h:Sw a b xs ys):ys.length=xs.length:=by
 induction h with
 | refl=>rfl
 | step i j _ _ _ ih=>rw [swp_len,ih]
theorem Sw.trans (h:Sw a b xs ys) (h':Sw a b ys zs):Sw a b xs zs:=by
 induction h' with
 | refl=>exact h
 | step i j _ hi hj ih=>exact .step i j ih hi hj
theorem Sw.mono (h:Sw a b xs ys) (ha:c≤a) (hb:b≤d):Sw c d xs ys:=by
 induction h with
 | refl=>exact .refl
 | step i j _ hi hj ih=>exact .step i j ih (by omega) (by omega)
theorem Sw.out (h:Sw a b xs ys) (hb:b≤xs.length) {k:Nat} (hk:k<a∨b≤k):G ys k=G xs k:=by
 induction h with
 | refl=>rfl
 | step i j g hi hj ih=>rw [G_swp (by rw [g.len];omega) (by rw [g.len];omega),if_neg (by omega),if_neg (by omega),ih]
theorem Sw.all (h:Sw a b xs ys) (hb:b≤xs.length) {p:Int→Prop} (hp:∀k,a≤k→k<b→p (G xs k)):∀k,a≤k→k<b→p (G ys k):=by
 induction h with
 | refl=>exact hp
 | step i j g hi hj ih=>
  intro k h1 h2
  rw [G_swp (by rw [g.len];omega) (by rw [g.len];omega)]
  split
  ·exact ih i hi.1 hi.2
  ·split
   ·exact ih j hj.1 hj.2
   ·exact ih k h1 h2
theorem Sw.all' (h:Sw a b xs ys) (hb:b≤xs.length) {p:Int→Prop} (hc:c≤a) (hd:b≤d) (hp:∀k,c≤k→k<d→p (G xs k)):∀k,c≤k→k<d→p (G ys k):=by
 intro k h1 h2
 by_cases hk:a≤k∧k<b
 ·exact h.all hb (fun q g1 g2=>hp q (by omega) (by omega)) k hk.1 hk.2
 ·rw [h.out hb (by omega)];exact hp k h1 h2
def Srt (ys:List Int) (a b:Nat):Prop:=∀p q,a≤p→p<q→q<b→G ys p≤G ys q
theorem Srt.frame (h:Srt ys a b) (he:∀k,a≤k→k<b→G zs k=G ys k):Srt zs a b:=fun p q h1 h2 h3=>by
 rw [he p h1 (by omega),he q (by omega) h3];exact h p q h1 h2 h3
theorem Srt.join (h1:Srt ys a b) (h2:Srt ys b c) (h:∀p q,a≤p→p<b→b≤q→q<c→G ys p≤G ys q):Srt ys a c:=fun p q h3 h4 h5=>by
 by_cases hq:q<b
 ·exact h1 p q h3 h4 hq
 ·by_cases hp:p<b
  ·exact h p q h3 hp (by omega) h5
  ·exact h2 p q (by omega) h4 h5
def Ins (ys:List Int) (a i j:Nat):Prop:=∀p q,a≤p→p<q→q≤i→q≠j→G ys p≤G ys q
theorem Ins.start (h:Srt ys a b):Ins ys a b b:=fun p q h1 h2 h3 h4=>h p q h1 h2 (by omega)
theorem Ins.step {i j:Nat} (h:Ins ys a i j) (hi:i<ys.length) (ha:a<j) (hj:j≤i) (hlt:G ys j<G ys (j-1)):Ins (swp ys j (j-1)) a i (j-1):=by
 intro p q h1 h2 h3 h4
 rw [G_swp (by omega) (by omega),G_swp (by omega) (by omega)]
 rw [if_neg h4]
 by_cases hp:p=j-1
 ·rw [if_pos hp]
  by_cases hq:q=j
  ·rw [if_pos hq];omega
  ·rw [if_neg hq];have:=h (j-1) q (by omega) (by omega) h3 hq;omega
 ·rw [if_neg hp]
  by_cases hpj:p=j
  ·rw [if_pos hpj]
   rw [if_neg (by omega)]
   exact h (j-1) q (by omega) (by omega) h3 (by omega)
  ·rw [if_neg hpj]
   by_cases hq:q=j
   ·rw [if_pos hq];exact h p (j-1) h1 (by omega) (by omega) (by omega)
   ·rw [if_neg hq];exact h p q h1 h2 h3 hq
theorem Ins.done {i j:Nat} (h:Ins ys a i j) (hj:j=a∨(a<j∧G ys (j-1)≤G ys j)):Srt ys a (i+1):=by
 intro p q h1 h2 h3
 by_cases hq:q=j
 ·subst hq
  rcases hj with hj|⟨hj,hle⟩
  ·omega
  ·by_cases hp:p=q-1
   ·rw [hp];exact hle
   ·have:=h p (q-1) h1 (by omega) (by omega) (by omega);omega
 ·exact h p q h1 h2 (by omega) hq
def Hp (ys:List Int) (f lo n:Nat):Prop:=∀r c,lo≤r→(c=2*r+1∨c=2*r+2)→c<n→G ys (f+c)≤G ys (f+r)
def HpB (ys:List Int) (f lo n r:Nat):Prop:=
 (∀s c,lo≤s→s≠r→(c=2*s+1∨c=2*s+2)→c<n→G ys (f+c)≤G ys (f+s))∧
 (∀s c,lo≤s→(r=2*s+1∨r=2*s+2)→(c=2*r+1∨c=2*r+2)→c<n→G ys (f+c)≤G ys (f+s))
theorem HpB.start {f lo n:Nat} (h:Hp ys f (lo+1) n):HpB ys f lo n lo:=
 ⟨fun s c h1 h2 h3 h4=>h s c (by omega) h3 h4,fun s c h1 h2=>by omega⟩
theorem HpB.done {f lo n r:Nat} (h:HpB ys f lo n r) (hd:∀c,(c=2*r+1∨c=2*r+2)→c<n→G ys (f+c)≤G ys (f+r)):Hp ys f lo n:=fun s c h1 h2 h3=>by
 by_cases hs:s=r
 ·subst hs;exact hd c h2 h3
 ·exact h.1 s c h1 hs h2 h3
theorem HpB.step {f lo n r c:Nat} (h:HpB ys f lo n r) (hl:f+n≤ys.length) (hlo:lo≤r) (hc:c=2*r+1∨c=2*r+2) (hn:c<n) (hlt:G ys (f+r)<G ys (f+c))
 (hbig:∀q,(q=2*r+1∨q=2*r+2)→q<n→G ys (f+q)≤G ys (f+c)):HpB (swp ys (f+r) (f+c)) f lo n c:=by
 have gc:G (swp ys (f+r) (f+c)) (f+c)=G ys (f+r):=by rw [G_swp (by omega) (by omega),if_pos rfl]
 have gr:G (swp ys (f+r) (f+c)) (f+r)=G ys (f+c):=by rw [G_swp (by omega) (by omega),if_neg (by omega),if_pos rfl]
 have go:∀k,k≠c→k≠r→G (swp ys (f+r) (f+c)) (f+k)=G ys (f+k):=fun k h1 h2=>by rw [G_swp (by omega) (by omega),if_neg (by omega),if_neg (by omega)]
 refine ⟨fun s q h1 h2 h3 h4=>?_,fun s q h1 h2 h3 h4=>?_⟩
 ·by_cases hq:q=c
  ·have hs:s=r:=by omega
   subst hq hs
   rw [gc,gr];omega
  ·by_cases hs:s=r
   ·subst hs
    rw [gr,go q hq (by omega)]
    exact hbig q h3 h4
   ·by_cases hqr:q=r
    ·subst hqr
     rw [gr,go s h2 hs]
     exact h.2 s c h1 h3 hc hn
    ·rw [go q hq hqr,go s h2 hs];exact h.1 s q h1 hs h3 h4
 ·have hs:s=r:=by omega
  subst hs
  rw [gr,go q (by omega) (by omega)]
  exact h.1 c q (by omega) (by omega) h3 h4
theorem Hp.frame {f lo n:Nat} (h:Hp ys f lo n) (he:∀k,lo≤k→k<n→G zs (f+k)=G ys (f+k)):Hp zs f lo n:=fun r c h1 h2 h3=>by
 rw [he c (by omega) h3,he r h1 (by omega)];exact h r c h1 h2 h3
end Go.Proofs.Ytcigpclbhfkgaaa.V
set_option linter.all false
namespace Go.Proofs.Ytcigpclbhfkgaaa.V
open Go Go.VM Go.Proofs
set_option maxRecDepth 10000
variable {frz:Nat} {H:Heap} {v:Value} {xs:List Int} {e:TypeId}
def Pt (ys:List Int) (a b:Nat) (x:Int) (P:Int→Prop) (i j:Nat):Prop:=G ys a=x∧(∀k,a<k→k<i→P (G ys k))∧∀k,j<k→k<b→¬P (G ys k)
section
variable {ys:List Int} {a b i j:Nat} {x:Int} {P:Int→Prop}
theorem Pt.fin (h:Pt ys a b x P i j) (hij:i=j+1) (ha:a<i) (hj:j<b) (hb:b≤ys.length):G (swp ys j a) j=x∧(∀k,a≤k→k<j→P (G (swp ys j a) k))∧∀k,j<k→k<b→¬P (G (swp ys j a) k):=by
 have g:=fun k=>G_swp (xs:=ys) (i:=j) (j:=a) (by omega) (by omega) k
 refine ⟨?_,fun k h1 h2=>?_,fun k h1 h2=>?_⟩
 ·rw [g]
  split
  ·rename_i e;rw [e];exact h.1
  ·rw [if_pos rfl];exact h.1
 ·rw [g]
  split
  ·exact h.2.1 j (by omega) (by omega)
  ·rw [if_neg (by omega)];exact h.2.1 k (by omega) (by omega)
 ·rw [g,if_neg (by omega),if_neg (by omega)];exact h.2.2 k h1 h2
end
structure Pq (ys:List Int) (A B a b:Nat):Prop where
 le:A≤a∧a≤b∧b≤B
 left:Srt ys A a
 right:Srt ys b B
 lo:∀p q,A≤p→p<a→a≤q→q<B→G ys p≤G ys q
 hi:∀p q,A≤p→p<b→b≤q→q<B→G ys p≤G ys q
 low:0<A→∀k,A≤k→k<B→G ys (A-1)≤G ys k
section
variable {ys zs:List Int} {A B a b m:Nat}
theorem Pq.below (h:Pq ys A B a b) (ha:0<a):∀k,a≤k→k<B→G ys (a-1)≤G ys k:=fun k h1 h2=>by
 obtain ⟨l1,l2,l3⟩:=h.le
 by_cases hA:a=A
 ·have:=h.low (by omega) k (by omega) h2;rw [hA];exact this
 ·exact h.lo (a-1) k (by omega) (by omega) h1 h2
theorem Pq.sw (h:Pq ys A B a b) (s:Sw a b ys zs) (hB:B≤ys.length):Pq zs A B a b:=by
 obtain ⟨l1,l2,l3⟩:=h.le
 have hb:b≤ys.length:=by omega
 have out:=fun k (hk:k<a∨b≤k)=>s.out hb hk
 refine ⟨h.le,h.left.frame (fun k h1 h2=>out k (.inl h2)),h.right.frame (fun k h1 h2=>out k (.inr h1)),fun p q h1 h2 h3 h4=>?_,fun p q h1 h2 h3 h4=>?_,fun h0 k h1 h2=>?_⟩
 ·rw [out p (.inl h2)]
  exact s.all' hb (p:=fun y=>G ys p≤y) (Nat.le_refl a) l3 (fun k k1 k2=>h.lo p k h1 h2 k1 k2) q h3 h4
 ·rw [out q (.inr h3)]
  exact s.all' hb (p:=fun y=>y≤G ys q) l1 (Nat.le_refl b) (fun k k1 k2=>h.hi k q k1 k2 h3 h4) p h1 h2
 ·rw [out (A-1) (.inl (by omega))]
  exact s.all' hb (p:=fun y=>G ys (A-1)≤y) l1 l3 (fun k k1 k2=>h.low h0 k k1 k2) k h1 h2
theorem Pq.done (h:Pq ys A B a b) (s:Srt ys a b):Srt ys A B:=by
 obtain ⟨l1,l2,l3⟩:=h.le
 exact (h.left.join (s.join h.right (fun p q h1 h2 h3 h4=>h.hi p q (by omega) h2 h3 h4)) h.lo)
theorem Pq.eq {x:Int} (h:Pq ys A B a b) (hm:a<m∧m≤b) (hx:∀k,a≤k→k<b→x≤G ys k) (h1:∀k,a≤k→k<m→¬x<G ys k) (h2:∀k,m≤k→k<b→x<G ys k):Pq ys A B m b:=by
 obtain ⟨l1,l2,l3⟩:=h.le
 refine ⟨by omega,h.left.join (fun p q q1 q2 q3=>?_) (fun p q q1 q2 q3 q4=>h.lo p q q1 q2 q3 (by omega)),h.right,fun p q q1 q2 q3 q4=>?_,h.hi,h.low⟩
 ·have:=h1 p q1 (by omega);have:=hx q (by omega) (by omega);omega
 ·by_cases hp:p<a
  ·exact h.lo p q q1 hp (by omega) q4
  ·by_cases hq:q<b
   ·have:=h1 p (by omega) q2;have:=h2 q q3 hq;omega
   ·exact h.hi p q q1 (by omega) (by omega) q4
end
end Go.Proofs.Ytcigpclbhfkgaaa.V
set_option linter.all false
namespace Go.Proofs.Ytcigpclbhfkgaaa.V
open Go Go.VM Go.Proofs
set_option maxRecDepth 10000
variable {frz:Nat} {H:Heap} {v:Value} {xs ys:List Int} {e:TypeId}
end Go.Proofs.Ytcigpclbhfkgaaa.V
set_option linter.all false
namespace Go.Proofs.Ytcigpclbhfkgaaa.V
open Go Go.VM Go.Proofs
set_option maxRecDepth 10000
variable {frz:Nat} {H:Heap}
end Go.Proofs.Ytcigpclbhfkgaaa.V
set_option linter.all false
namespace Go.Proofs.Ytcigpclbhfkgaaa.V
open Go Go.VM Go.Proofs
set_option maxRecDepth 10000
variable {frz:Nat} {H:Heap} {v:Value} {xs:List Int}
end Go.Proofs.Ytcigpclbhfkgaaa.V
set_option linter.all false
namespace Go.Proofs.Ytcigpclbhfkgaaa.V
open Go Go.VM Go.Proofs
set_option maxRecDepth 10000
variable {frz:Nat} {H:Heap}
theorem l17Wanted_c {v:NetV} {x:NetD} {a i:Nat} (o':dNet.Ow H v x) (hx:runOk x) (ha:(a:Int)<cnt x.1.1 x.1.2.1) (hi:i<10) :
 vcall C frz 211 [dNet.val v x,.int .i64 a,.int .i64 i] H=some (.int .i64 (wantedN x a i),H):=by
 refine wp.exact (by simp) ?_ rfl
 have ones:=dNet_one o'
 have cr:=cnt_range x.1.1 x.1.2.1
 simp only [dNet_val]
 rw [vcall_go (fn:=Try.f211) Try.func211 rfl (by kernel_rfl) rfl]
 obtain ⟨d,hd⟩:∃d,d=10*a+i:=⟨_,rfl⟩
 obtain ⟨c,hc⟩:∃c,c=i%2:=⟨_,rfl⟩
 obtain ⟨q,hq⟩:∃q,q=i/2:=⟨_,rfl⟩
 generalize hY:wantedN x a i=Y
 unfold wantedN at hY
 rw [← hd,← hc,← hq] at hY
 have e1:=@w6 (10*(a:Int)) (by omega)
 have e2:∀[Inhabited Unit],IntKind.i64.wrap (10*(a:Int)+(i:Int))=(d:Int):=by intro _;rw [w64 (by omega) (by omega)];omega
 have e3:∀[Inhabited Unit],(i:Int).tmod 2=(c:Int):=by intro _;rw [tmod2];omega
 have e3':∀[Inhabited Unit],(i:Int)%2=(c:Int):=by intro _;omega
 have e4:∀[Inhabited Unit],IntKind.i64.wrap ((i:Int)/2)=(q:Int):=by intro _;rw [w64 (by omega) (by omega)];omega
 obtain ⟨G,hG⟩:∃G,G=H++[⟨netCells v x,0,59⟩]:=⟨_,rfl⟩
 have o:dNet.Ow G v x:=hG▸Dt.app (T:=dNet) o'
 have hr:G[H.length]? = some ⟨netCells v x,0,59⟩:=by rw [hG];simp
 have hGs:H++[⟨netCells v x,0,59⟩]=G:=hG.symm
 unfold netCells at hr hGs
 have hl:d<x.2.2.1.length:=by have:=hx.2.1.1;omega
 obtain ⟨u,a1,a2,a3,a4⟩:=RdL_at o.2.2.1.1.rd (ty:=57) (e:=123) (by simp) (by simp) hl
 have la:=a4.len (P:=Try.prog) (ty:=123) (by simp)
 have hgd:x.2.2.1.getD d []=x.2.2.1[d]:=by simp [List.getD_eq_getElem?_getD,hl]
 have hho:headOf x d=headL x.2.2.1[d]:=by unfold headOf;rw [hgd]
 have qa:VM.one u=true∧u.cells=#[u]:=⟨a4.one',a4.cells⟩
 simp [ones]
 rw [hGs]
 simp [VM.look,hr,ones,e1,e2,e3,e3',a2,a3,la]
 rw [hgd,hho] at hY
 by_cases g0:x.2.2.1[d]=[]
 ·rw [if_pos g0] at hY
  simp [g0,hY]
 rw [if_neg g0] at hY
 have g0':¬(x.2.2.1[d].length:Int)=0:=by
  have:=List.length_pos_iff.2 g0;omega
 have g0n:¬x.2.2.1[d].length=0:=by omega
 obtain ⟨z0,f1,f2,f3,c1,c2,c3,_⟩:=front a4 g0
 obtain ⟨k1,k2⟩:=hx.2.2.1 d _ (by rw [hgd];exact headL_mem g0)
 generalize headL x.2.2.1[d]=f at *
 simp [-vfieldAddr,vfa_ptr,g0',g0n,g0,z0,f3,c3]
 by_cases g1:f.2.2.2.1=true
 ·rw [if_pos g1] at hY
  simp only [g1]
  have ha':isN x.1.1 x.1.2.1 a:=⟨by omega,ha⟩
  obtain ⟨k0,k0',k3,k4⟩:=at_small ha' k2.1
  obtain ⟨N,hN⟩:∃N,N=cnt x.1.1 x.1.2.1:=⟨_,rfl⟩
  have e5:∀[Inhabited Unit],IntKind.i64.wrap ((a:Int)*N)=a*N:=by intro _;rw [hN];exact w64 (by omega) (by omega)
  have e6:∀[Inhabited Unit],IntKind.i64.wrap ((a:Int)*N+f.2.1)=a*N+f.2.1:=by intro _;rw [hN];exact w64 (by omega) (by have:=k2.1.2;omega)
  have nc:=fun F=>sNodeCount_c (frz:=F) (H:=G) x.1.1 x.1.2.1
  rw [← hN] at nc
  simp [VM.look,hr,ones,nc]
  by_cases g2:c=1
  ·rw [if_pos g2] at hY
   have hT:=Rd.isI o.2.1.2.1.rd
   have hs:=hx.1.2.1.2
   have q1:vindexAddr Try.prog G 24 v.2.1.2 (.int .i64 (a*N+f.2.1))=some (elp v.2.1.2 (a*N+f.2.1).toNat):=by rw [hN];exact hT.idx (e:=3) (by simp) k0 (by omega)
   have q2:vload Try.prog G 3 (elp v.2.1.2 (a*N+f.2.1).toNat)=some (.int .i64 Y):=by rw [← hY];unfold portOf rd;rw [hN];exact hT.load (by simp) (by omega)
   subst g2
   simp
   rw [go_draw (h:=by kernel_rfl)]
   simp [-vfieldAddr,vfa_ptr,VM.look,hr,ones,e5,e6,z0,f1,c1,q1,q2]
  ·rw [if_neg g2] at hY
   have hT:=Rd.isI o.2.1.1.1.rd
   have hs:=hx.1.1.1.2
   have q1:vindexAddr Try.prog G 24 v.2.1.1 (.int .i64 (a*N+f.2.1))=some (elp v.2.1.1 (a*N+f.2.1).toNat):=by rw [hN];exact hT.idx (e:=3) (by simp) k0 (by omega)
   have q2:vload Try.prog G 3 (elp v.2.1.1 (a*N+f.2.1).toNat)=some (.int .i64 Y):=by rw [← hY];unfold portOf rd;rw [hN];exact hT.load (by simp) (by omega)
   have g2':¬(c:Int)=1:=by omega
   simp [g2,g2']
   rw [go_draw (h:=by kernel_rfl)]
   simp [-vfieldAddr,vfa_ptr,VM.look,hr,ones,e5,e6,z0,f1,c1,q1,q2]
 ·rw [if_neg g1] at hY
  simp only [g1]
  simp
  refine wp_inv (fun n t H'=>∃p:Nat,n=5-p∧p≤5∧t 1=.int .i64 a∧t 2=.int .i64 i∧t 3=.pointer (some ⟨H.length,0,some 0⟩)∧t 8=.int .i64 c∧t 10=.int .i64 p∧H'=G∧∀r,r<p→decide (x.2.2.2.1.getD (outAt a r c) 0=(q:Int))=false) ?_ (n:=5) ⟨0,by simp,by omega,by simp,by simp,by simp,by simp [e3,e3'],by simp,rfl,by omega⟩
  rintro n t H' ⟨p,rfl,hp,t1,t2,t3,t8,t10,rfl,hk⟩ ih
  simp [t1,t2,t3,t8,t10]
  refine wp_dec ?_ ?_<;>intro g
  ·have hp':p<5:=by omega
   have e7:=@w6 (2*(p:Int)) (by omega)
   have e8:=@w6 (10*(a:Int)+2*(p:Int)) (by omega)
   have hz:outAt a p c<x.2.2.2.1.length:=by have:=hx.2.1.2.1;unfold outAt;omega
   have e9:∀[Inhabited Unit],IntKind.i64.wrap (10*(a:Int)+2*(p:Int)+(c:Int))=(outAt a p c:Nat):=by intro _;unfold outAt;rw [w64 (by omega) (by omega)];omega
   have hgo:x.2.2.2.1.getD (outAt a p c) 0=x.2.2.2.1[outAt a p c]:=by simp [List.getD_eq_getElem?_getD,hz]
   generalize hzz:outAt a p c=z at *
   have rd:=Rd.isI o.2.2.2.1.1.rd
   have q1:=rd.idx (P:=Try.prog) (ty:=24) (e:=3) (by simp) (i:=(z:Int)) (by omega) (by omega)
   have q2:=rd.load (P:=Try.prog) (e:=3) (by simp) hz
   simp only [Int.toNat_natCast] at q1 q2
   rw [hgo] at q2
   simp [VM.look,hr,ones,t1,t2,t3,t8,t10,e1,e4,e7,e8,e9,q1,q2]
   refine wp_dec ?_ ?_<;>intro g2
   ·simp [t1,t2,t3,t8,t10]
    rw [find_range hp' (by rw [hzz,hgo];exact decide_eq_true g2) hk] at hY
    exact hY
   ·simp [t1,t2,t3,t8,t10]
    refine ih (5-(p+1)) _ _ ⟨p+1,rfl,by omega,by simp [t1],by simp [t2],by simp [t3],by simp [t8],?_,rfl,fun r hr'=>?_⟩ (by omega)
    ·simp;rw [w64 (by omega) (by omega)]
    ·by_cases hrp:r<p
     ·exact hk r hrp
     ·have:r=p:=by omega
      subst this
      rw [hzz,hgo];exact decide_eq_false g2
  ·have:p=5:=by omega
   subst this
   rw [find_range_none hk] at hY
   simp [t1,t2,t3,t8,t10,hY]
theorem l17Room_c {v:NetV} {x:NetD} {a p c:Nat} (o':dNet.Ow H v x) (hx:runOk x) (ha:(a:Int)<cnt x.1.1 x.1.2.1) (hp:p<5) (hc:c<2) :
 vcall C frz 212 [dNet.val v x,.int .i64 a,.int .i64 p,.int .i64 c] H=some (.bool (decide (roomN x a p c)),H):=by
 refine wp.exact (by simp) ?_ rfl
 have ones:=dNet_one o'
 have cr:=cnt_range x.1.1 x.1.2.1
 simp only [dNet_val]
 rw [vcall_go (fn:=Try.f212) Try.func212 rfl (by kernel_rfl) rfl]
 obtain ⟨G,hG⟩:∃G,G=H++[⟨netCells v x,0,59⟩]:=⟨_,rfl⟩
 have o:dNet.Ow G v x:=hG▸Dt.app (T:=dNet) o'
 have hr:G[H.length]? = some ⟨netCells v x,0,59⟩:=by rw [hG];simp
 have hGs:H++[⟨netCells v x,0,59⟩]=G:=hG.symm
 unfold netCells at hr hGs
 simp [ones]
 rw [hGs]
 by_cases h4:p=4
 ·subst h4;simp [roomN]
 have h4':¬(p:Int)=4:=by omega
 have e1:=@w6 (4*(a:Int)) (by omega)
 have e2:∀[Inhabited Unit],IntKind.i64.wrap (4*(a:Int)+(p:Int))=4*(a:Int)+p:=by intro _;exact w64 (by omega) (by omega)
 have lv:=fun F=>l03Has_c (frz:=F) (H:=G) x.1.1 x.1.2.1 v.1 x.1.2.2 (4*(a:Int)+p) (Rd.isI o.1.1.rd) o.1.2
 by_cases hh:has x.1.1 x.1.2.1 x.1.2.2 (4*(a:Int)+p)
 rotate_left
 ·simp [VM.look,hr,ones,e1,e2,lv,hh,h4,h4',roomN]
 obtain ⟨u1,u2,u3⟩:=tgt_val (c:=c) hh (by omega) hc
 obtain ⟨s1,s2,s3⟩:=tgt_ok (c:=c) hh (by omega)
 have hl:tgt x a p c<x.2.2.1.length:=by have:=hx.2.1.1;omega
 have hgd:x.2.2.1[tgt x a p c]?.getD []=x.2.2.1[tgt x a p c]:=by simp [hl]
 have key:roomN x a p c↔(x.2.2.1[tgt x a p c].length:Int)<3:=by
  unfold roomN;rw [List.getD_eq_getElem?_getD,hgd]
  exact ⟨fun k=>by rcases k with k|k;exact absurd k h4;have:=k.2;omega,fun k=>.inr ⟨hh,by omega⟩⟩
 generalize htt:tgt x a p c=z at *
 have nn:=fun F=>sNextNode_c (frz:=F) (H:=G) x.1.1 x.1.2.1 a p
 have so:=fun F=>sOpposite_c (frz:=F) (H:=G) p
 obtain ⟨s4,s5⟩:=s1
 generalize next x.1.1 x.1.2.1 a p=N at *
 generalize opp (p:Int)=O at *
 have e3:=@w6 (10*N) (by omega)
 have e4:=@w6 (2*O) (by omega)
 have e5:=@w6 (10*N+2*O) (by omega)
 have e6:∀[Inhabited Unit],IntKind.i64.wrap (10*N+2*O+(c:Int))=(z:Int):=by intro _;rw [w64 (by omega) (by omega)];omega
 obtain ⟨u,a1,a2,a3,a4⟩:=RdL_at o.2.2.1.1.rd (ty:=57) (e:=123) (by simp) (by simp) hl
 have la:=a4.len (P:=Try.prog) (ty:=123) (by simp)
 simp [VM.look,hr,ones,e1,e2,lv,hh,h4,h4',nn]
 rw [go_draw (h:=by kernel_rfl)]
 simp [VM.look,hr,ones,e3,e4,e5,e6,so,a2,a3,la,key]
theorem l17Request_c {v:NetV} {x:NetD} {a i p:Nat} (o':dNet.Ow H v x) (hx:runOk x) (ha:(a:Int)<cnt x.1.1 x.1.2.1) (hi:i<10) (hp:p<5) :
 vcall C frz 209 [dNet.val v x,.int .i64 a,.int .i64 i,.int .i64 p] H=some (.bool (decide (reqN x a i p)),H):=by
 refine wp.exact (by simp) ?_ rfl
 have ones:=dNet_one o'
 have cr:=cnt_range x.1.1 x.1.2.1
 simp only [dNet_val]
 rw [vcall_go (fn:=Try.f209) Try.func209 rfl (by kernel_rfl) rfl]
 obtain ⟨d,hd⟩:∃d,d=10*a+i:=⟨_,rfl⟩
 obtain ⟨c,hc⟩:∃c,c=i%2:=⟨_,rfl⟩
 obtain ⟨q,hq⟩:∃q,q=i/2:=⟨_,rfl⟩
 obtain ⟨G,hG⟩:∃G,G=H++[⟨netCells v x,0,59⟩]:=⟨_,rfl⟩
 have o:dNet.Ow G v x:=hG▸Dt.app (T:=dNet) o'
 have hr:G[H.length]? = some ⟨netCells v x,0,59⟩:=by rw [hG];simp
 have hGs:H++[⟨netCells v x,0,59⟩]=G:=hG.symm
 unfold netCells at hr hGs
 have wn:=fun F=>l17Wanted_c (frz:=F) (H:=G) o hx ha hi
 have rm:=fun F=>l17Room_c (frz:=F) (H:=G) (c:=c) o hx ha hp (by omega)
 simp only [dNet_val] at wn rm
 generalize hY:decide (reqN x a i p)=Y
 have no:¬reqN x a i p→Y=false:=fun hh=>by rw [← hY];exact decide_eq_false hh
 have e1:=@w6 (10*(a:Int)) (by omega)
 have e2:∀[Inhabited Unit],IntKind.i64.wrap (10*(a:Int)+(i:Int))=(d:Int):=by intro _;rw [w64 (by omega) (by omega)];omega
 have e3:∀[Inhabited Unit],(i:Int).tmod 2=(c:Int):=by intro _;rw [tmod2];omega
 have e3':∀[Inhabited Unit],(i:Int)%2=(c:Int):=by intro _;omega
 have e4:∀[Inhabited Unit],IntKind.i64.wrap ((i:Int)/2)=(q:Int):=by intro _;rw [w64 (by omega) (by omega)];omega
 have e7:=@w6 (2*(p:Int)) (by omega)
 have e8:=@w6 (10*(a:Int)+2*(p:Int)) (by omega)
 have e9:∀[Inhabited Unit],IntKind.i64.wrap (10*(a:Int)+2*(p:Int)+(c:Int))=(outAt a p c:Nat):=by intro _;unfold outAt;rw [w64 (by omega) (by omega)];omega
 simp [ones]
 rw [hGs]
 by_cases g1:wantedN x a i=(p:Int)
 rotate_left
 ·simp [VM.look,hr,ones,wn,g1,e3,e3'];exact no (fun k=>g1 k.1)
 by_cases g2:roomN x a p c
 rotate_left
 ·simp [VM.look,hr,ones,wn,g1,e3,e3',rm,g2];exact no (fun k=>g2 (hc▸k.2.1))
 have hl:d<x.2.2.1.length:=by have:=hx.2.1.1;omega
 obtain ⟨u,a1,a2,a3,a4⟩:=RdL_at o.2.2.1.1.rd (ty:=57) (e:=123) (by simp) (by simp) hl
 have hgd:x.2.2.1.getD d []=x.2.2.1[d]:=by simp [List.getD_eq_getElem?_getD,hl]
 have hho:headOf x d=headL x.2.2.1[d]:=by unfold headOf;rw [hgd]
 have g0:x.2.2.1[d]≠[]:=fun hh=>by
  unfold wantedN at g1
  rw [← hd,hgd,if_pos hh] at g1
  omega
 obtain ⟨z0,f1,f2,f3,c1,c2,c3,_⟩:=front a4 g0
 have hz:outAt a p c<x.2.2.2.1.length:=by have:=hx.2.1.2.1;unfold outAt;omega
 have hgo:x.2.2.2.1.getD (outAt a p c) 0=x.2.2.2.1[outAt a p c]:=by simp [List.getD_eq_getElem?_getD,hz]
 have key:reqN x a i p↔x.2.2.2.1[outAt a p c]=if (headL x.2.2.1[d]).2.2.2.1 then -1 else (q:Int):=by
  unfold reqN;rw [← hd,← hc,← hq,hgo,hho]
  exact ⟨fun k=>k.2.2,fun k=>⟨g1,g2,k⟩⟩
 generalize hzz:outAt a p c=z at *
 generalize headL x.2.2.1[d]=f at *
 have rd:=Rd.isI o.2.2.2.1.1.rd
 have q1:=rd.idx (P:=Try.prog) (ty:=24) (e:=3) (by simp) (i:=(z:Int)) (by omega) (by omega)
 have q2:=rd.load (P:=Try.prog) (e:=3) (by simp) hz
 simp only [Int.toNat_natCast] at q1 q2
 rw [hgo] at q2
 have qa:VM.one u=true∧u.cells=#[u]:=⟨a4.one',a4.cells⟩
 simp [VM.look,hr,ones,wn,g1,e3,e3',rm,g2,e1,e7,e8,e9,q1,q2]
 simp [-vfieldAddr,vfa_ptr,VM.look,hr,ones,e1,e2,a2,a3,z0,f3,c3]
 by_cases g3:f.2.2.2.1=true
 ·simp only [g3,if_true] at key ⊢
  simp [e4]
  rw [← hY];simp only [key]
 ·simp only [g3,if_false] at key ⊢
  simp [e4]
  rw [← hY];simp only [key]
  try simp
def grF:Fl GrD:=⟨3,fun a=>[.int .i64 a.1,.int .i64 a.2.1,.int .i64 a.2.2],fun _=>rfl⟩
@[simp] theorem grF_n:grF.n=3:=rfl
theorem grF_f (a:GrD):grF.f a=[.int .i64 a.1,.int .i64 a.2.1,.int .i64 a.2.2]:=rfl
theorem ones_grF (xs:List GrD):ones (cellsOf grF xs)=true:=by
 induction xs with
 | nil=>rfl
 | cons a l ih=>rw [cellsOf_cons];simp [ih,grF_f]
theorem bl_ld {K:Heap} {e:TypeId} {v:Value} {u:List Bool} (o:Ow Fl.bool e K v u) {j:Nat} (hj:j<u.length):vload Try.prog K 4 (elp v j)=some (.bool (u.getD j false)):=by
 rw [o.rd.cell1 (P:=Try.prog) rfl (by simp) hj]
 simp [List.getD_eq_getElem?_getD,hj]
theorem free_in {x:NetD} {a p:Nat} {u:List Bool}:∀y∈(freeN x a p u).map Int.ofNat,inR 0 y 9:=fun y hy=>by
 obtain ⟨i,hi,rfl⟩:=List.mem_map.1 hy
 have:=(free_mem hi).1
 unfold inR;show (0:Int)≤(i:Int)∧(i:Int)≤9;omega
theorem free_len {x:NetD} {a p:Nat} {u:List Bool}:((freeN x a p u).map Int.ofNat).length≤10:=by
 rw [List.length_map]
 have h1:=List.length_filter_le (fun i=>!u.getD (i/2) false) (reqsN x a p)
 have h2:=List.length_filter_le (fun i=>decide (reqN x a i p)) (List.range 10)
 rw [List.length_range] at h2
 unfold freeN;unfold reqsN at h1 ⊢;omega
theorem pick_lt {x:NetD} {a p:Nat} {u:List Bool} (h:0≤pickN x a p u):∃k:Nat,pickN x a p u=k∧k<10:=by
 have:=(free_mem (pick_mem h)).1
 exact ⟨(pickN x a p u).toNat,by omega,this⟩
theorem allTo_len (x:NetD) (n:Nat):(allTo x n).length≤5*n:=(allTo_ok x n).2.2
noncomputable def enterTo (x:NetD) (n:Nat):List Nat:=(List.range n).filter fun k=>entersN x k
theorem enterTo_succ (x:NetD) (n:Nat):enterTo x (n+1)=if entersN x n then enterTo x n++[n] else enterTo x n:=by
 unfold enterTo;rw [List.range_succ,List.filter_append]
 by_cases h:entersN x n<;>simp [h]
theorem enterTo_len (x:NetD) (n:Nat):(enterTo x n).length≤n:=by
 have:=List.length_filter_le (fun k=>decide (entersN x k)) (List.range n)
 rw [List.length_range] at this;exact this
noncomputable def freeTo (x:NetD) (a p:Nat) (u:List Bool) (n:Nat):List Nat:=(List.range n).filter fun i=>!u.getD (i/2) false&&decide (reqN x a i p)
theorem freeTo_all (x:NetD) (a p:Nat) (u:List Bool):freeTo x a p u 10=freeN x a p u:=by
 unfold freeTo freeN reqsN;rw [List.filter_filter]
theorem freeTo_succ (x:NetD) (a p:Nat) (u:List Bool) (n:Nat):freeTo x a p u (n+1)=if u.getD (n/2) false=false∧reqN x a n p then freeTo x a p u n++[n] else freeTo x a p u n:=by
 unfold freeTo;rw [List.range_succ,List.filter_append]
 by_cases h:u.getD (n/2) false=false
 ·by_cases h2:reqN x a n p
  ·rw [if_pos ⟨h,h2⟩];simp only [List.filter_cons,h,h2];simp
  ·rw [if_neg (fun k=>h2 k.2)];simp only [List.filter_cons,h,h2];simp
 ·rw [if_neg (fun k=>h k.1)]
  have h':u.getD (n/2) false=true:=by simpa using h
  simp only [List.filter_cons,h'];simp
theorem freeTo_len (x:NetD) (a p:Nat) (u:List Bool) (n:Nat):(freeTo x a p u n).length≤n:=by
 have:=List.length_filter_le (fun i=>!u.getD (i/2) false&&decide (reqN x a i p)) (List.range n)
 rw [List.length_range] at this;exact this
theorem sl_ix {K:Heap} {e:TypeId} {v:Value} {u:List Bool} (o:Ow Fl.bool e K v u) {j:Nat} (hj:j<u.length):vindexAddr Try.prog K 196 v (.int .i64 (j:Int))=some (elp v j):=by
 have:=o.rd.idx (P:=Try.prog) (ty:=196) (e:=4) (by simp) (i:=(j:Int)) (by omega) (by omega)
 simpa using this
theorem l18Grants_w {v:NetV} {x:NetD} {a:Nat} (o:dNet.Ow H v x) (hx:runOk x) (ha:(a:Int)<cnt x.1.1 x.1.2.1) :
 wp (vcall C frz 208 [dNet.val v x,.int .i64 a] H) (fun r H'=>Ow grF 191 H' r (grN x a)∧(∀i∈ids r,H.length≤i)∧Chg H H' []):=by
 have ones:=dNet_one o
 have cr:=cnt_range x.1.1 x.1.2.1
 simp only [dNet_val]
 rw [vcall_go (fn:=Try.f208) Try.func208 rfl (by kernel_rfl) rfl]
 obtain ⟨G,hG⟩:∃G,G=H++[⟨netCells v x,0,59⟩,⟨[],0,191⟩,⟨[.bool false,.bool false,.bool false,.bool false,.bool false],0,4⟩]:=⟨_,rfl⟩
 have oB0:Ow Fl.bool 4 G (.slice (some ⟨H.length+2,0,some 0⟩) 5 0) (List.replicate 5 false):=by rw [hG];exact Ow.new (D:=Fl.bool) (xs:=List.replicate 5 false) (k:=2) rfl rfl rfl rfl
 have oG0:Ow grF 191 G (.slice (some ⟨H.length+1,0,some 0⟩) 0 0) []:=by rw [hG];exact Ow.new (D:=grF) (xs:=[]) (k:=1) rfl rfl rfl rfl
 have cG:Chg H G []:=by rw [hG];exact Chg.app _
 have hr:G[H.length]? = some ⟨netCells v x,0,59⟩:=by rw [hG];simp
 have hGs:H++[⟨netCells v x,0,59⟩,⟨[],0,191⟩,⟨[.bool false,.bool false,.bool false,.bool false,.bool false],0,4⟩]=G:=hG.symm
 have lG0:G.length=H.length+3:=by rw [hG];simp
 unfold netCells at hr hGs
 simp [ones]
 rw [hGs]
 clear hG hGs
 refine wp_inv (fun n t H'=>∃(p:Nat) (r:Value),n=5-p∧p≤5∧t 1=.int .i64 a∧t 2=.pointer (some ⟨H.length,0,some 0⟩)∧t 5=r∧t 6=.slice (some ⟨H.length+2,0,some 0⟩) 5 0∧t 7=.int .i64 p∧Chg H H' []∧H'[H.length]? = some ⟨netCells v x,0,59⟩∧
  Ow Fl.bool 4 H' (.slice (some ⟨H.length+2,0,some 0⟩) 5 0) (grTo x a p).2∧Ow grF 191 H' r (grTo x a p).1∧(∀j∈ids r,H.length+1≤j∧j≠H.length+2)) ?_ (n:=5)
  ⟨0,.slice (some ⟨H.length+1,0,some 0⟩) 0 0,rfl,by omega,by simp,by simp,by simp,by simp,by simp,cG,by unfold netCells;exact hr,oB0,oG0,by simp⟩
 rintro n t H' ⟨p,r,rfl,hp,t1,t2,t5,t6,t7,ch,b0,oB,oG,nG⟩ ih
 simp [t1,t2,t5,t6,t7]
 refine wp_dec ?_ ?_<;>intro g
 rotate_left
 ·have:p=5:=by omega
  subst this
  simp [t1,t2,t5,t6,t7]
  exact ⟨oG,fun i hi=>by have:=(nG i hi).1;omega,ch⟩
 have hp':p<5:=by omega
 obtain ⟨l5,gat,gnd,gle⟩:=grTo_ok x a p hp
 have gs:=grTo_succ x a p
 unfold grStep at gs
 have hbl:H.length+2<H'.length:=oB.lt _ (by simp)
 have lGr:=oG.lt
 generalize grTo x a p=st at *
 simp [t1,t2,t5,t6,t7]
 refine wp_inv (fun n t1' H1=>∃(i:Nat) (f:Value),n=10-i∧i≤10∧t1' 1=.int .i64 a∧t1' 2=.pointer (some ⟨H.length,0,some 0⟩)∧t1' 5=r∧t1' 6=.slice (some ⟨H.length+2,0,some 0⟩) 5 0∧t1' 7=.int .i64 p∧t1' 8=f∧t1' 9=.int .i64 i∧Chg H' H1 []∧
  Ow Fl.int 3 H1 f ((freeTo x a p st.2 i).map Int.ofNat)∧(∀j∈ids f,H'.length≤j)) ?_ (n:=10)
  ⟨0,.slice (some ⟨H'.length,0,some 0⟩) 0 0,rfl,by omega,by simp [t1],by simp [t2],by simp [t5],by simp [t6],by simp [t7],by simp,by simp,Chg.app _,Ow.new0 (D:=Fl.int) (xs:=[]) rfl rfl rfl rfl,by simp⟩
 clear t1 t2 t5 t6 t7
 rintro n t H1 ⟨i,f,rfl,hi,t1,t2,t5,t6,t7,t8,t9,c1,oF,nF⟩ ih2
 have c01:=ch.trans c1
 have b1:=box_chg b0 c1 (by simp)
 have o1:=Dt.chg (T:=dNet) o c01 (by simp)
 have oB1:=oB.chg c1 (by simp)
 unfold netCells at b1
 have l1:=c1.1
 simp [t1,t2,t5,t6,t7,t8,t9]
 refine wp_dec ?_ ?_<;>intro g1
 ·have hi':i<10:=by omega
  obtain ⟨q,hq⟩:∃q,q=i/2:=⟨_,rfl⟩
  have e4:∀[Inhabited Unit],IntKind.i64.wrap ((i:Int)/2)=(q:Int):=by intro _;rw [w64 (by omega) (by omega)];omega
  have fs:=freeTo_succ x a p st.2 i
  have fl:=freeTo_len x a p st.2 i
  rw [← hq] at fs
  have q1:=sl_ix oB1 (j:=q) (by omega)
  have q2:=bl_ld oB1 (j:=q) (by omega)
  have rq:=fun F=>l17Request_c (frz:=F) (H:=H1) (i:=i) o1 hx ha hi' hp'
  simp only [dNet_val] at rq
  generalize st.2.getD q false=B at *
  simp [t1,t2,t5,t6,t7,t8,t9,e4,q1,q2]
  cases B with
  | true=>
   rw [if_neg (by simp)] at fs
   simp [t1,t2,t5,t6,t7,t8,t9]
   refine ih2 (10-(i+1)) _ _ ⟨i+1,f,rfl,by omega,by simp [t1],by simp [t2],by simp [t5],by simp [t6],by simp [t7],by simp [t8],?_,c1,by rw [fs];exact oF,nF⟩ (by omega)
   simp [t9];rw [w64 (by omega) (by omega)]
  | false=>
   simp [t1,t2,t5,t6,t7,t8,t9,VM.look,b1,ones,rq]
   by_cases g2:reqN x a i p
   ·rw [if_pos ⟨rfl,g2⟩] at fs
    obtain ⟨f',H2,hap,o2,c2,n2⟩:=oF.push (P:=Try.prog) (frz:=H.length) (ty:=24) (a:=(i:Int)) (by simp) rfl (by simp;omega) (fun j hj=>by have:=nF j hj;omega)
    simp only [Fl.int_f] at hap
    have hF1:H.length≤H1.length:=by omega
    simp [t1,t2,t5,t6,t7,t8,t9,g2,hap,hF1]
    refine ih2 (10-(i+1)) _ _ ⟨i+1,f',rfl,by omega,by simp [t1],by simp [t2],by simp [t5],by simp [t6],by simp [t7],by simp,?_,c1.trans' c2 (fun j hj=>.inr (nF j hj)),?_,fun j hj=>?_⟩ (by omega)
    ·simp [t9];rw [w64 (by omega) (by omega)]
    ·rw [fs,List.map_append];exact o2
    ·rcases n2 j hj with h1|h1
     ·exact nF j h1
     ·omega
   ·rw [if_neg (fun k=>g2 k.2)] at fs
    simp [t1,t2,t5,t6,t7,t8,t9,g2]
    refine ih2 (10-(i+1)) _ _ ⟨i+1,f,rfl,by omega,by simp [t1],by simp [t2],by simp [t5],by simp [t6],by simp [t7],by simp [t8],?_,c1,by rw [fs];exact oF,nF⟩ (by omega)
    simp [t9];rw [w64 (by omega) (by omega)]
 have hi10:i=10:=by omega
 subst hi10
 clear ih2
 rw [freeTo_all] at oF
 obtain ⟨z,hz⟩:∃z,z=5*a+p:=⟨_,rfl⟩
 have hzl:z<x.2.2.2.2.1.length:=by have:=hx.2.1.2.2.1;omega
 have e1:=@w6 (5*(a:Int)) (by omega)
 have e2:∀[Inhabited Unit],IntKind.i64.wrap (5*(a:Int)+(p:Int))=(z:Int):=by intro _;rw [w64 (by omega) (by omega)];omega
 have rd:=Rd.isI o1.2.2.2.2.1.1.rd
 have q1:=rd.idx (P:=Try.prog) (ty:=24) (e:=3) (by simp) (i:=(z:Int)) (by omega) (by omega)
 have q2:=rd.load (P:=Try.prog) (e:=3) (by simp) hzl
 simp only [Int.toNat_natCast] at q1 q2
 have hti:inR 0 (x.2.2.2.2.1.getD z 0) 9:=by
  have:x.2.2.2.2.1.getD z 0=x.2.2.2.2.1[z]:=by simp [List.getD_eq_getElem?_getD,hzl]
  rw [this];exact hx.2.2.2.2 _ (List.getElem_mem hzl)
 have ff:=fun F=>sFirstFrom_c (frz:=F) (H:=H1) f _ _ oF.rd.isI (by have:=free_len (x:=x) (a:=a) (p:=p) (u:=st.2);omega) free_in hti
 have hpk:firstF (x.2.2.2.2.1.getD z 0) ((freeN x a p st.2).map Int.ofNat)=pickN x a p st.2:=by rw [hz];rfl
 rw [hpk] at ff
 have oG1:=oG.chg c1 (by simp)
 generalize x.2.2.2.2.1.getD z 0=T at *
 simp [t1,t2,t5,t6,t7,t8,t9,VM.look,b1,ones,e1,e2,q1,q2,ff]
 by_cases g2:0≤pickN x a p st.2
 rotate_left
 ·rw [if_neg g2] at gs
  simp [t1,t2,t5,t6,t7,g2]
  refine ih (5-(p+1)) _ _ ⟨p+1,r,rfl,by omega,by simp [t1],by simp [t2],by simp [t5],by simp [t6],?_,ch.trans c1,by unfold netCells;exact b1,by rw [gs];exact oB1,by rw [gs];exact oG1,nG⟩ (by omega)
  simp [t7];rw [w64 (by omega) (by omega)]
 rw [if_pos g2] at gs
 obtain ⟨k,hk,hk10⟩:=pick_lt g2
 rw [hk,Int.toNat_natCast] at gs
 obtain ⟨q,hq⟩:∃q,q=k/2:=⟨_,rfl⟩
 rw [← hq] at gs
 have e4:∀[Inhabited Unit],IntKind.i64.wrap ((k:Int)/2)=(q:Int):=by intro _;rw [w64 (by omega) (by omega)];omega
 have ai:=sl_ix oB1 (j:=q) (by omega)
 obtain ⟨H3,s3,oB3,c3,l3⟩:=oB1.put1 (P:=Try.prog) (frz:=H.length) rfl (et:=4) (ag:=false) (by simp) (j:=q) (x:=.bool true) (y:=true) (by omega) rfl rfl rfl (fun i hi=>by simp at hi;omega)
 have c13:=(ch.trans c1).trans' c3 (fun i hi=>.inr (by simp at hi;omega))
 have oG3:=oG1.chg c3 (fun j hj hh=>(nG j hj).2 (by simpa using hh))
 have b3:=box_chg b1 c3 (by simp)
 obtain ⟨r',H4,hap,oG4,c4,n4⟩:=oG3.push (P:=Try.prog) (frz:=H.length) (ty:=188) (a:=(a,p,k)) (by simp) rfl (by omega) (fun i hi=>by have:=(nG i hi).1;omega)
 simp only [grF_f] at hap
 have oB4:=oB3.chg c4 (fun j hj hh=>by simp at hj;exact (nG j hh).2 hj)
 have b4:=box_chg b3 c4 (fun hh=>by have:=(nG _ hh).1;omega)
 simp [-vappend_nil,-vappend_mk,t1,t2,t5,t6,t7,hk,e4,ai,s3,hap]
 refine ih (5-(p+1)) _ _ ⟨p+1,r',rfl,by omega,by simp [t1],by simp [t2],by simp,by simp [t6],?_,c13.trans' c4 (fun i hi=>.inr (by have:=(nG i hi).1;omega)),by unfold netCells;exact b4,by rw [gs];exact oB4,by rw [gs];exact oG4,fun j hj=>?_⟩ (by omega)
 ·simp [t7];rw [w64 (by omega) (by omega)]
 ·rcases n4 j hj with h1|h1
  ·exact nG j h1
  ·have:=c3.1;omega
theorem l18All_w {v:NetV} {x:NetD} (o:dNet.Ow H v x) (hx:runOk x) :
 wp (vcall C frz 201 [dNet.val v x] H) (fun r H'=>Ow grF 191 H' r (allN x)∧(∀i∈ids r,H.length≤i)∧Chg H H' []):=by
 have ones:=dNet_one o
 obtain ⟨N,hN⟩:∃N:Nat,cnt x.1.1 x.1.2.1=N:=⟨(cnt x.1.1 x.1.2.1).toNat,by have:=cnt_range x.1.1 x.1.2.1;omega⟩
 have hN2:N≤16:=by have:=cnt_range x.1.1 x.1.2.1;omega
 have hall:allN x=allTo x N:=by unfold allN;rw [hN,Int.toNat_natCast]
 simp only [dNet_val]
 rw [vcall_go (fn:=Try.f201) Try.func201 rfl (by kernel_rfl) rfl]
 obtain ⟨G,hG⟩:∃G,G=H++[⟨netCells v x,0,59⟩,⟨[],0,191⟩]:=⟨_,rfl⟩
 have oG0:Ow grF 191 G (.slice (some ⟨H.length+1,0,some 0⟩) 0 0) []:=by rw [hG];exact Ow.new (D:=grF) (xs:=[]) (k:=1) rfl rfl rfl rfl
 have cG:Chg H G []:=by rw [hG];exact Chg.app _
 have hr:G[H.length]? = some ⟨netCells v x,0,59⟩:=by rw [hG];simp
 have hGs:H++[⟨netCells v x,0,59⟩,⟨[],0,191⟩]=G:=hG.symm
 have lG0:G.length=H.length+2:=by rw [hG];simp
 unfold netCells at hr hGs
 rw [hall]
 simp [ones]
 rw [hGs]
 clear hG hGs
 refine wp_inv (fun n t H'=>∃(i:Nat) (r:Value),n=N-i∧i≤N∧t 1=.pointer (some ⟨H.length,0,some 0⟩)∧t 3=r∧t 4=.int .i64 i∧Chg H H' []∧H'[H.length]? = some ⟨netCells v x,0,59⟩∧Ow grF 191 H' r (allTo x i)∧(∀j∈ids r,H.length+1≤j)) ?_ (n:=N)
  ⟨0,.slice (some ⟨H.length+1,0,some 0⟩) 0 0,rfl,by omega,by simp,by simp,by simp,cG,by unfold netCells;exact hr,oG0,by simp⟩
 rintro n t H' ⟨i,r,rfl,hi,t1,t3,t4,ch,b0,oo,nr⟩ ih
 have o1:=Dt.chg (T:=dNet) o ch (by simp)
 have b0':=b0
 unfold netCells at b0'
 have nc:=fun F=>nodeCount_c (frz:=F) (H:=H') x.1.1 x.1.2.1
 have nc2:=fun F=>sNodeCount_c (frz:=F) (H:=H') x.1.1 x.1.2.1
 rw [hN] at nc nc2
 simp [t1,t3,t4,VM.look,b0',ones,nc,nc2]
 refine wp_dec ?_ ?_<;>intro g
 ·have hi':i<N:=by omega
  have gr:=l18Grants_w (frz:=H.length) (a:=i) o1 hx (by omega)
  simp only [dNet_val] at gr
  simp [t1,t3,t4,VM.look,b0',ones]
  refine wp_thn gr ?_
  rintro L H1 ⟨oL,nL,cL⟩
  have l1:=ch.1
  have l2:=cL.1
  have al:=allTo_len x i
  have gl:=grN_len x i
  have b1:=box_chg b0 cL (by simp)
  obtain ⟨r',H2,hap,o2,c2,n2⟩:=(oo.chg cL (by simp)).append (P:=Try.prog) (frz:=H.length) (ty:=188) oL.rd (by simp) (ones_grF _) (by omega) (fun j hj=>by have:=nr j hj;omega)
  have asu:=allTo_succ x i
  simp [-vappend_nil,-vappend_mk,t1,t3,t4,hap]
  refine ih (N-(i+1)) _ _ ⟨i+1,r',rfl,by omega,by simp [t1],by simp,?_,(ch.trans cL).trans' c2 (fun j hj=>.inr (by have:=nr j hj;omega)),box_chg b1 c2 (fun hh=>by have:=nr _ hh;omega),by rw [asu];exact o2,fun j hj=>?_⟩ (by omega)
  ·simp [t4];rw [w64 (by omega) (by omega)]
  ·rcases n2 j hj with h1|h1
   ·exact nr j h1
   ·have:=box_lt b0;omega
 ·have:i=N:=by omega
  subst this
  simp [t1,t3,t4]
  exact ⟨oo,fun j hj=>by have:=nr j hj;omega,ch⟩
theorem l19Entering_w {v:NetV} {x:NetD} (o:dNet.Ow H v x) (hx:runOk x) :
 wp (vcall C frz 203 [dNet.val v x] H) (fun r H'=>Ow Fl.int 3 H' r ((enterN x).map Int.ofNat)∧(∀i∈ids r,H.length≤i)∧Chg H H' []):=by
 have ones:=dNet_one o
 obtain ⟨N,hN⟩:∃N:Nat,cnt x.1.1 x.1.2.1=N:=⟨(cnt x.1.1 x.1.2.1).toNat,by have:=cnt_range x.1.1 x.1.2.1;omega⟩
 have hN2:N≤16:=by have:=cnt_range x.1.1 x.1.2.1;omega
 have hall:enterN x=enterTo x N:=by unfold enterN enterTo;rw [hN,Int.toNat_natCast]
 simp only [dNet_val]
 rw [vcall_go (fn:=Try.f203) Try.func203 rfl (by kernel_rfl) rfl]
 have hsl:x.2.2.2.2.2.1.length=N:=by have:=hx.2.1.2.2.2.1;omega
 have hbl:x.2.2.1.length=10*N:=by have:=hx.2.1.1;omega
 obtain ⟨G,hG⟩:∃G,G=H++[⟨netCells v x,0,59⟩,⟨[],0,3⟩]:=⟨_,rfl⟩
 have oG0:Ow Fl.int 3 G (.slice (some ⟨H.length+1,0,some 0⟩) 0 0) []:=by rw [hG];exact Ow.new (D:=Fl.int) (xs:=[]) (k:=1) rfl rfl rfl rfl
 have cG:Chg H G []:=by rw [hG];exact Chg.app _
 have hr:G[H.length]? = some ⟨netCells v x,0,59⟩:=by rw [hG];simp
 have hGs:H++[⟨netCells v x,0,59⟩,⟨[],0,3⟩]=G:=hG.symm
 unfold netCells at hr hGs
 rw [hall]
 simp [ones]
 rw [hGs]
 clear hG hGs
 refine wp_inv (fun n t H'=>∃(i:Nat) (r:Value),n=N-i∧i≤N∧t 1=.pointer (some ⟨H.length,0,some 0⟩)∧t 3=r∧t 4=.int .i64 i∧Chg H H' []∧H'[H.length]? = some ⟨netCells v x,0,59⟩∧Ow Fl.int 3 H' r ((enterTo x i).map Int.ofNat)∧(∀j∈ids r,H.length+1≤j)) ?_ (n:=N)
  ⟨0,.slice (some ⟨H.length+1,0,some 0⟩) 0 0,rfl,by omega,by simp,by simp,by simp,cG,by unfold netCells;exact hr,oG0,by simp⟩
 rintro n t H' ⟨i,r,rfl,hi,t1,t3,t4,ch,b0,oo,nr⟩ ih
 have r1:=b0
 unfold netCells at r1
 have o1:=Dt.chg (T:=dNet) o ch (by simp)
 have rd:=o1.2.2.2.2.2.1.1.rd
 have ll:=rd.1.len (P:=Try.prog) (ty:=57) (by simp)
 rw [rd.2.1,hsl] at ll
 simp [t1,t3,t4,VM.look,r1,ones,ll]
 refine wp_dec ?_ ?_<;>intro g
 rotate_left
 ·have:i=N:=by omega
  subst this
  simp [t1,t3,t4]
  exact ⟨oo,fun j hj=>by have:=nr j hj;omega,ch⟩
 have hi':i<N:=by omega
 have his:i<x.2.2.2.2.2.1.length:=by omega
 obtain ⟨u,a1,a2,a3,a4⟩:=RdL_at o1.2.2.2.2.2.1.1.rd (ty:=57) (e:=123) (by simp) (by simp) his
 have la:=a4.len (P:=Try.prog) (ty:=123) (by simp)
 have qa:VM.one u=true∧u.cells=#[u]:=⟨a4.one',a4.cells⟩
 have hgd:x.2.2.2.2.2.1.getD i []=x.2.2.2.2.2.1[i]:=by simp [List.getD_eq_getElem?_getD,his]
 have hes:=enterTo_succ x i
 have hel:=enterTo_len x i
 simp [t1,t3,t4]
 rw [go_draw (h:=by kernel_rfl)]
 by_cases g0:x.2.2.2.2.2.1[i]=[]
 ·have hne:¬entersN x i:=fun k=>k.1 (by rw [hgd];exact g0)
  rw [if_neg hne] at hes
  rw [g0] at la
  simp [t1,t3,t4,VM.look,r1,ones,a2,a3,la]
  refine ih (N-(i+1)) _ _ ⟨i+1,r,rfl,by omega,by simp [t1],by simp [t3],?_,ch,b0,by rw [hes];exact oo,nr⟩ (by omega)
  simp [t4];rw [w64 (by omega) (by omega)]
 have g0':0<x.2.2.2.2.2.1[i].length:=List.length_pos_iff.2 g0
 obtain ⟨z0,f1,f2,f3,c1,c2,c3,_⟩:=front a4 g0
 obtain ⟨en1,en2,en3⟩:=ent_ok hx (k:=i) (by rw [hgd];exact g0)
 have hsh:srcHead x i=headL x.2.2.2.2.2.1[i]:=by unfold srcHead;rw [hgd]
 have hcl:=en1.2
 rw [hsh] at en2 hcl
 generalize headL x.2.2.2.2.2.1[i]=f at *
 have key:entersN x i↔(x.2.2.1.getD (entAt x i) []).length<3:=⟨fun k=>k.2,fun k=>⟨by rw [hgd];exact g0,k⟩⟩
 have hzl:entAt x i<x.2.2.1.length:=by unfold inR at hcl;omega
 unfold inR at hcl
 generalize entAt x i=z at *
 have e1:=@w6 (10*(i:Int)) (by omega)
 have e2:=@w6 (10*(i:Int)+8) (by omega)
 have e3:∀[Inhabited Unit],IntKind.i64.wrap (10*(i:Int)+8+f.2.2.1)=(z:Int):=by intro _;rw [w64 (by omega) (by omega)];omega
 obtain ⟨u',b1,b2,b3,b4⟩:=RdL_at o1.2.2.1.1.rd (ty:=57) (e:=123) (by simp) (by simp) hzl
 have lb:=b4.len (P:=Try.prog) (ty:=123) (by simp)
 have hgz:x.2.2.1.getD z []=x.2.2.1[z]:=by simp [List.getD_eq_getElem?_getD,hzl]
 have qb:VM.one u'=true∧u'.cells=#[u']:=⟨b4.one',b4.cells⟩
 rw [hgz] at key
 simp [-vfieldAddr,vfa_ptr,t1,t3,t4,la,g0',VM.look,r1,ones,a2,a3,z0,f2,c2,e1,e2,e3,b2,b3,lb]
 refine wp_dec ?_ ?_<;>intro g1
 ·rw [if_pos (key.2 (by omega))] at hes
  obtain ⟨r',H2,hap,o2,c2',n2⟩:=oo.push (P:=Try.prog) (frz:=H.length) (ty:=24) (a:=(i:Int)) (by simp) rfl (by simp;omega) (fun j hj=>by have:=nr j hj;omega)
  simp only [Fl.int_f] at hap
  have l0:=ch.1
  simp [t1,t3,t4,hap]
  refine ih (N-(i+1)) _ _ ⟨i+1,r',rfl,by omega,by simp [t1],by simp,?_,ch.trans' c2' (fun j hj=>.inr (by have:=nr j hj;omega)),box_chg b0 c2' (fun hh=>by have:=nr _ hh;omega),?_,fun j hj=>?_⟩ (by omega)
  ·simp [t4];rw [w64 (by omega) (by omega)]
  ·rw [hes,List.map_append];exact o2
  ·rcases n2 j hj with h1|h1
   ·exact nr j h1
   ·have:=box_lt b0;omega
 ·rw [if_neg (fun k=>by have:=key.1 k;omega)] at hes
  simp [t1,t3,t4]
  refine ih (N-(i+1)) _ _ ⟨i+1,r,rfl,by omega,by simp [t1],by simp [t3],?_,ch,b0,by rw [hes];exact oo,nr⟩ (by omega)
  simp [t4];rw [w64 (by omega) (by omega)]
theorem upd_at {s:SSD} {j:Nat} (h:j<s.length) (f:List FlitD→List FlitD):upd s j f=s.set j (f s[j]):=by
 unfold upd;rw [List.getD_eq_getElem?_getD,List.getElem?_eq_getElem h];rfl
structure Put (K K3:Heap) (u u':SSV) (s':SSD):Prop where
 hd:u'.1=u.1
 ow:dSS.Ow K3 u' s'
 nd:(dSS.ids u').Nodup
 ids:∀i∈dSS.ids u',i∈dSS.ids u∨K.length≤i
 chg:Chg K K3 (dSS.ids u)
theorem ss_hd {K:Heap} {u:SSV} {s:SSD} (o:dSS.Ow K u s) {j:Nat} (hj:j<s.length) :
 ∃a,u.2[j]? = some a∧vindexAddr Try.prog K 57 u.1 (.int .i64 (j:Int))=some (elp u.1 j)∧vload Try.prog K 123 (elp u.1 j)=some a∧Ow flF 134 K a s[j]∧VM.one a=true∧a.cells=#[a]∧VM.live K u.1:=by
 obtain ⟨a,a1,a2,a3,a4⟩:=RdL_at o.1.rd (ty:=57) (e:=123) (by simp) (by simp) hj
 have oa:=o.1.2.2 j a s[j] a1 (by simp [hj])
 exact ⟨a,a1,a2,a3,oa,a4.one',a4.cells,Ow_live o.1.1⟩
theorem ss_push {K:Heap} {u:SSV} {s:SSD} {j:Nat} {a:Value} (o:dSS.Ow K u s) (nd:(dSS.ids u).Nodup) (hj:j<s.length) (hb:s[j].length+1≤67108864) (hf:∀i∈dSS.ids u,frz≤i) (ha:u.2[j]? = some a) (y:FlitD) :
 ∃a' K2 K3,vappend Try.prog frz (K++[⟨flF.f y,0,134⟩]) 123 123 a (.slice (some ⟨K.length,0,some 0⟩) 1 0)=some (a',K2)∧vindexAddr Try.prog K2 57 u.1 (.int .i64 (j:Int))=some (elp u.1 j)∧
  vstore Try.prog frz K2 123 a' (elp u.1 j)=some K3∧VM.live K2 u.1∧VM.live K3 u.1∧VM.one a'=true∧a'.cells=#[a']∧Chg K K2 (ids a)∧Put K K3 u (u.1,u.2.set j a') (upd s j (·++[y])):=by
 have hj':j<u.2.length:=by rw [o.1.2.1];exact hj
 have ea:u.2[j]=a:=by rw [List.getElem?_eq_getElem hj'] at ha;exact Option.some.inj ha
 have oa:Ow flF 134 K a s[j]:=o.1.2.2 j a _ ha (by simp [hj])
 have hia:∀i∈ids a,i∈dSS.ids u:=fun i hi=>mem_idsL ha hi
 obtain ⟨a',K2,hap,oa',c2,na'⟩:=oa.push (P:=Try.prog) (frz:=frz) (ty:=123) (a:=y) (by simp) rfl (by omega) (fun i hi=>hf i (hia i hi))
 have c2':Chg K K2 (ids u.2[j]):=by rw [ea];exact c2
 obtain ⟨K3,hst,oL,c3,ndL,idL,l3⟩:=OwL_put (frz:=frz) (et:=123) (ag:=false) o.1 nd hj' c2' oa' (by rw [ea];exact na') (fun i hi=>hf i hi) (by simp)
 have dav:∀i∈ids u.1,i∉ids a:=fun i hi hh=>(List.nodup_append.1 nd).2.2 i hi i (List.mem_flatMap.2 ⟨a,List.mem_of_getElem? ha,hh⟩) rfl
 have ol2:=o.1.1.chg c2 dav
 have hsl:=o.1.2.1
 have ix2:=ol2.rd.idx (P:=Try.prog) (ty:=57) (e:=123) (by simp) (i:=(j:Int)) (by omega) (by omega)
 simp only [Int.toNat_natCast,Nat.mul_one,show Fl.val.n=1 from rfl] at ix2
 have hup:=upd_at hj (·++[y])
 refine ⟨a',K2,K3,hap,ix2,hst,Ow_live ol2,Ow_live oL.1,oa'.rd.one',oa'.rd.cells,c2,rfl,?_,ndL,idL,c3⟩
 rw [hup]
 exact ss_set oL o.2.1 o.2.2 (by simp;omega)
theorem ss_popE {K:Heap} {u:SSV} {s:SSD} {j:Nat} {a:Value} (o:dSS.Ow K u s) (nd:(dSS.ids u).Nodup) (hj:j<s.length) (hne:s[j]≠[]) (hf:∀i∈dSS.ids u,frz≤i) (ha:u.2[j]? = some a) :
 ∃z a' K2 K3,vslice Try.prog K 123 (some (.int .i64 1)) none a=some z∧
  vappend Try.prog frz K 123 123 (.slice none 0 0) z=some (a',K2)∧vindexAddr Try.prog K2 57 u.1 (.int .i64 (j:Int))=some (elp u.1 j)∧
  vstore Try.prog frz K2 123 a' (elp u.1 j)=some K3∧VM.live K2 u.1∧VM.live K3 u.1∧VM.one a'=true∧a'.cells=#[a']∧Chg K K2 []∧Put K K3 u (u.1,u.2.set j a') (upd s j (List.drop 1)):=by
 have hj':j<u.2.length:=by rw [o.1.2.1];exact hj
 obtain ⟨a1,h1,h2,h3,oa,h4,h5,h6⟩:=ss_hd o hj
 have e1:a1=a:=by rw [ha] at h1;exact (Option.some.inj h1).symm
 subst e1
 have hsl:=o.1.2.1
 have hpos:=List.length_pos_iff.2 hne
 obtain ⟨z,hz,oz,nz⟩:=oa.slice (P:=Try.prog) (ty:=123) (lo:=some (.int .i64 1)) (hi:=none) (l:=1) (u:=s[j].length) (by simp) rfl rfl (by omega) (Nat.le_refl _)
 have et:(s[j].drop 1).take (s[j].length-1)=s[j].drop 1:=List.take_of_length_le (by simp)
 rw [et] at oz
 have hlb:=o.2.2 _ (List.getElem_mem hj)
 have on:Ow flF 134 K (.slice none 0 0) []:=.inl ⟨rfl,rfl⟩
 obtain ⟨a',K2,hap,oa',c12,na'⟩:=on.append (P:=Try.prog) (frz:=frz) (ty:=123) oz.rd (by simp) (ones_flF _) (by simp;omega) (by simp)
 rw [List.nil_append] at oa'
 obtain ⟨K3,hst,oL,c3,ndL,idL,l3⟩:=OwL_put (frz:=frz) (et:=123) (ag:=false) o.1 nd hj' (c12.mono (fun i h=>by simp at h)) oa' (fun i hi=>by
  rcases na' i hi with g|g
  ·simp at g
  ·exact .inr g) (fun i hi=>hf i hi) (by simp)
 have c12':Chg K K2 []:=c12.mono (fun i h=>by simp at h)
 have ol2:=o.1.1.chg c12' (by simp)
 have ix2:=ol2.rd.idx (P:=Try.prog) (ty:=57) (e:=123) (by simp) (i:=(j:Int)) (by omega) (by omega)
 simp only [Int.toNat_natCast,Nat.mul_one,show Fl.val.n=1 from rfl] at ix2
 have hup:=upd_at hj (List.drop 1)
 refine ⟨z,a',K2,K3,hz,hap,ix2,hst,Ow_live ol2,Ow_live oL.1,oa'.rd.one',oa'.rd.cells,c12',rfl,?_,ndL,idL,c3⟩
 rw [hup]
 exact ss_set oL o.2.1 o.2.2 (by simp;omega)
def vw (v:NetV) (h5 h8 h9:List Value):NetV:=(v.1,v.2.1,(v.2.2.1.1,h5),v.2.2.2.1,v.2.2.2.2.1,(v.2.2.2.2.2.1.1,h8),(v.2.2.2.2.2.2.1.1,h9),v.2.2.2.2.2.2.2)
structure NS (H K:Heap) (W:List Nat) (v:NetV) (y:NetD) (h5 h8 h9:List Value):Prop where
 ow:dNet.Ow K (vw v h5 h8 h9) y
 nd:(dNet.ids (vw v h5 h8 h9)).Nodup
 ids:∀i∈dNet.ids (vw v h5 h8 h9),i∈dNet.ids v∨H.length≤i
 chg:Chg H K (W++dNet.ids v)
theorem NS.start {v:NetV} {y:NetD} (W:List Nat) (o:dNet.Ow H v y) (nd:(dNet.ids v).Nodup):NS H H W v y v.2.2.1.2 v.2.2.2.2.2.1.2 v.2.2.2.2.2.2.1.2:=
 ⟨o,nd,fun i hi=>.inl hi,Chg.refl _⟩
theorem NS.other {K K':Heap} {W:List Nat} {v:NetV} {y:NetD} {h5 h8 h9:List Value} {I:List Nat} (n:NS H K W v y h5 h8 h9) (c:Chg K K' I) (hd:∀i∈dNet.ids (vw v h5 h8 h9),i∉I) (hI:∀i∈I,i∈W∨H.length≤i):NS H K' W v y h5 h8 h9:=
 ⟨Dt.chg (T:=dNet) n.ow c hd,n.nd,n.ids,n.chg.trans' c (fun i hi=>(hI i hi).imp (fun h=>List.mem_append_left _ h) id)⟩
theorem NS.step {K K':Heap} {W:List Nat} {v:NetV} {y y':NetD} {h5 h8 h9 h5' h8' h9':List Value} {I:List Nat} (n:NS H K W v y h5 h8 h9) (c:Chg K K' I) (hI:∀i∈I,i∈dNet.ids (vw v h5 h8 h9))
 (o:dNet.Ow K' (vw v h5' h8' h9') y') (nd:(dNet.ids (vw v h5' h8' h9')).Nodup) (hi:∀i∈dNet.ids (vw v h5' h8' h9'),i∈dNet.ids (vw v h5 h8 h9)∨K.length≤i):NS H K' W v y' h5' h8' h9':=
 ⟨o,nd,fun i h=>by
  rcases hi i h with g|g
  ·exact n.ids i g
  ·have:=n.chg.1;right;omega,n.chg.trans' c (fun i h=>(n.ids i (hI i h)).imp (fun h=>List.mem_append_right _ h) id)⟩
theorem NS.buf {K K':Heap} {W:List Nat} {v:NetV} {y:NetD} {h5 h8 h9 h5':List Value} {s':SSD} (n:NS H K W v y h5 h8 h9) (p:Put K K' (v.2.2.1.1,h5) (v.2.2.1.1,h5') s') :
 NS H K' W v (withBuf y s') h5' h8 h9∧(∀i∈dNet.ids (vw v h5' h8 h9),i∈dNet.ids (vw v h5 h8 h9)∨K.length≤i)∧Chg K K' (dNet.ids (vw v h5 h8 h9)):=by
 obtain ⟨a,b,c⟩:=net_putBuf (n:=vw v h5 h8 h9) (u:=(v.2.2.1.1,h5')) n.ow n.nd p.chg p.ow p.nd p.ids
 exact ⟨n.step p.chg (fun i hi=>net_inBuf (n:=vw v h5 h8 h9) i hi) a b c,c,p.chg.mono (fun i hi=>net_inBuf (n:=vw v h5 h8 h9) i hi)⟩
theorem NS.src {K K':Heap} {W:List Nat} {v:NetV} {y:NetD} {h5 h8 h9 h8':List Value} {s':SSD} (n:NS H K W v y h5 h8 h9) (p:Put K K' (v.2.2.2.2.2.1.1,h8) (v.2.2.2.2.2.1.1,h8') s') :
 NS H K' W v (withSrc y s') h5 h8' h9∧(∀i∈dNet.ids (vw v h5 h8' h9),i∈dNet.ids (vw v h5 h8 h9)∨K.length≤i)∧Chg K K' (dNet.ids (vw v h5 h8 h9)):=by
 obtain ⟨a,b,c⟩:=net_putSrc (n:=vw v h5 h8 h9) (u:=(v.2.2.2.2.2.1.1,h8')) n.ow n.nd p.chg p.ow p.nd p.ids
 exact ⟨n.step p.chg (fun i hi=>net_inSrc (n:=vw v h5 h8 h9) i hi) a b c,c,p.chg.mono (fun i hi=>net_inSrc (n:=vw v h5 h8 h9) i hi)⟩
theorem NS.arr {K K':Heap} {W:List Nat} {v:NetV} {y:NetD} {h5 h8 h9 h9':List Value} {s':SSD} (n:NS H K W v y h5 h8 h9) (p:Put K K' (v.2.2.2.2.2.2.1.1,h9) (v.2.2.2.2.2.2.1.1,h9') s') :
 NS H K' W v (withArr y s') h5 h8 h9'∧(∀i∈dNet.ids (vw v h5 h8 h9'),i∈dNet.ids (vw v h5 h8 h9)∨K.length≤i)∧Chg K K' (dNet.ids (vw v h5 h8 h9)):=by
 obtain ⟨a,b,c⟩:=net_putArr (n:=vw v h5 h8 h9) (u:=(v.2.2.2.2.2.2.1.1,h9')) n.ow n.nd p.chg p.ow p.nd p.ids
 exact ⟨n.step p.chg (fun i hi=>net_inArr (n:=vw v h5 h8 h9) i hi) a b c,c,p.chg.mono (fun i hi=>net_inArr (n:=vw v h5 h8 h9) i hi)⟩
theorem NS.own {K:Heap} {W:List Nat} {v:NetV} {y:NetD} {h5 h8 h9:List Value} (n:NS H K W v y h5 h8 h9) (hf:∀i∈dNet.ids (vw v h5 h8 h9),frz≤i) {j:Nat} (hj:j<y.2.2.2.1.length) (z:Int) :
 ∃K',vstore Try.prog frz K 3 (.int .i64 z) (elp v.2.2.2.1 j)=some K'∧NS H K' W v (withOwn y (y.2.2.2.1.set j z)) h5 h8 h9∧Chg K K' (dNet.ids (vw v h5 h8 h9)):=by
 obtain ⟨K',s,o,c,l⟩:=n.ow.2.2.2.1.1.put1 (P:=Try.prog) (frz:=frz) rfl (et:=3) (ag:=false) (by simp) hj (x:=.int .i64 z) (y:=z) rfl rfl rfl (fun i hi=>hf i (net_inOwn (n:=vw v h5 h8 h9) i hi))
 obtain ⟨a,b,c'⟩:=net_putOwn (n:=vw v h5 h8 h9) (u:=v.2.2.2.1) (s:=y.2.2.2.1.set j z) n.ow n.nd c ⟨o,by have:=n.ow.2.2.2.1.2;simpa using this⟩ (net_ndOwn (n:=vw v h5 h8 h9) n.nd) (fun i hi=>.inl hi)
 exact ⟨K',s,n.step c (fun i hi=>net_inOwn (n:=vw v h5 h8 h9) i hi) a b c',c.mono (fun i hi=>net_inOwn (n:=vw v h5 h8 h9) i hi)⟩
theorem NS.turn {K:Heap} {W:List Nat} {v:NetV} {y:NetD} {h5 h8 h9:List Value} (n:NS H K W v y h5 h8 h9) (hf:∀i∈dNet.ids (vw v h5 h8 h9),frz≤i) {j:Nat} (hj:j<y.2.2.2.2.1.length) (z:Int) :
 ∃K',vstore Try.prog frz K 3 (.int .i64 z) (elp v.2.2.2.2.1 j)=some K'∧NS H K' W v (withTurn y (y.2.2.2.2.1.set j z)) h5 h8 h9∧Chg K K' (dNet.ids (vw v h5 h8 h9)):=by
 obtain ⟨K',s,o,c,l⟩:=n.ow.2.2.2.2.1.1.put1 (P:=Try.prog) (frz:=frz) rfl (et:=3) (ag:=false) (by simp) hj (x:=.int .i64 z) (y:=z) rfl rfl rfl (fun i hi=>hf i (net_inTurn (n:=vw v h5 h8 h9) i hi))
 obtain ⟨a,b,c'⟩:=net_putTurn (n:=vw v h5 h8 h9) (u:=v.2.2.2.2.1) (s:=y.2.2.2.2.1.set j z) n.ow n.nd c ⟨o,by have:=n.ow.2.2.2.2.1.2;simpa using this⟩ (net_ndTurn (n:=vw v h5 h8 h9) n.nd) (fun i hi=>.inl hi)
 exact ⟨K',s,n.step c (fun i hi=>net_inTurn (n:=vw v h5 h8 h9) i hi) a b c',c.mono (fun i hi=>net_inTurn (n:=vw v h5 h8 h9) i hi)⟩
noncomputable def nEnt (x y:NetD) (i:Nat):NetD:=
 (y.1,y.2.1,((enterN x).take i).foldl (entS x) y.2.2.1,y.2.2.2.1,y.2.2.2.2.1,((enterN x).take i).foldl srcS y.2.2.2.2.2.1,y.2.2.2.2.2.2.1,y.2.2.2.2.2.2.2)
theorem gr_idx {K:Heap} {e:TypeId} {v:Value} {l:List GrD} (o:Ow grF e K v l) {i:Nat} (hi:i<l.length) :
 vindexAddr Try.prog K 188 v (.int .i64 (i:Int))=some (elp v (i*3))∧vload Try.prog K 191 (elp v (i*3))=some (.agg (grF.f l[i]).toArray):=by
 have q1:=o.rd.idx (P:=Try.prog) (ty:=188) (e:=191) (by simp) (i:=(i:Int)) (by omega) (by omega)
 have q2:=o.rd.load (P:=Try.prog) (e:=191) (by simp) hi
 simp only [Int.toNat_natCast,grF_n] at q1 q2
 exact ⟨q1,q2⟩
theorem live_nil {K:Heap} {w:Value} (h:VM.live K w) (hw:∃a n c,w=.slice (some a) n c) (j:Nat):VM.vnil K (elp w j)=some (elp w j):=by
 obtain ⟨a,n,c,rfl⟩:=hw
 simp only [VM.live,live1] at h
 show (match VM.look K a with|some _=>some (Value.pointer (some ⟨a.block,a.off+j,a.spot⟩))|none=>none)=_
 cases hh:VM.look K a with
 | none=>exact absurd hh h
 | some r=>rfl
theorem in_at {K:Heap} {v:Value} {l:List Int} (h:IsI K v l) {i:Nat} (hi:i<l.length) :
 vindexAddr Try.prog K 24 v (.int .i64 (i:Int))=some (elp v i)∧vload Try.prog K 3 (elp v i)=some (.int .i64 l[i]):=by
 have q1:=h.idx (P:=Try.prog) (ty:=24) (e:=3) (by simp) (i:=(i:Int)) (by omega) (by omega)
 have q2:=h.load (P:=Try.prog) (e:=3) (by simp) hi
 simp only [Int.toNat_natCast] at q1
 rw [getD_get _ _ hi] at q2
 exact ⟨q1,q2⟩
theorem nEnt_succ {x y:NetD} {i:Nat} (h:i<(enterN x).length):nEnt x y (i+1)=withSrc (withBuf (nEnt x y i) (entS x (nEnt x y i).2.2.1 (enterN x)[i])) (srcS (nEnt x y i).2.2.2.2.2.1 (enterN x)[i]):=by
 unfold nEnt;simp only [foldl_take_succ _ _ h];rfl
noncomputable def nBoth (x:NetD) (i:Nat):NetD:=
 (x.1,x.2.1,((allN x).take i).foldl (bothS x) x.2.2.1,((allN x).take i).foldl (ownS x) x.2.2.2.1,((allN x).take i).foldl turnS x.2.2.2.2.1,x.2.2.2.2.2.1,((allN x).take i).foldl (arrS x) x.2.2.2.2.2.2.1,x.2.2.2.2.2.2.2)
theorem nBoth_succ {x:NetD} {i:Nat} (h:i<(allN x).length):nBoth x (i+1)=withTurn (withOwn (withArr (withBuf (nBoth x i) (pushS x (upd (nBoth x i).2.2.1 (frm (allN x)[i]) (List.drop 1)) (allN x)[i])) (arrS x (nBoth x i).2.2.2.2.2.2.1 (allN x)[i])) (ownS x (nBoth x i).2.2.2.1 (allN x)[i])) (turnS (nBoth x i).2.2.2.2.1 (allN x)[i]):=by
 unfold nBoth;simp only [foldl_take_succ _ _ h];rfl
theorem bothS_len (x:NetD) (s:SSD) (g:GrD):(bothS x s g).length=s.length:=by unfold bothS;simp
theorem nBoth_ne {x:NetD} {i:Nat} (h:i<(allN x).length):(nBoth x i).2.2.1.getD (frm (allN x)[i]) []≠[]:=
 both_at x _ _ _ (not_take (allN_nd x) h) (req_ne (allN_at (List.getElem_mem h)).2.2.2)
theorem step_eq2 (x:NetD):stepN x=older (nEnt x (nBoth x (allN x).length) (enterN x).length) 1:=by
 have e:=both_eq x (allN x) x.2.2.1 (allN_nd x) (fun g hg=>req_ne (allN_at hg).2.2.2)
 unfold nEnt nBoth older
 simp only [List.take_length]
 rw [e]
 rfl
theorem l19Step_d {v:NetV} {x:NetD} (o:dNet.Ow H v x) (hx:runOk x) (hb5:allL 67000000 x.2.2.1) (hb9:allL 67000000 x.2.2.2.2.2.2.1) (ht:inR 0 x.2.2.2.2.2.2.2 1000000) :
 wp (vcall C frz 186 [dNet.val v x] H) (dNet.Made H (stepN x)):=by
 have ones:=dNet_one o
 have cr:=cnt_range x.1.1 x.1.2.1
 have hlt:=dNet.lt o
 have ecopy:=fun L=>l15Copy_d (frz:=H.length) (H:=H++L) (v:=v) (x:=x) (Dt.app (T:=dNet) o)
 simp only [dNet_val] at ecopy ⊢
 rw [vcall_go (fn:=Try.f186) Try.func186 rfl (by kernel_rfl) rfl]
 simp [ones]
 refine wp_thn (ecopy _) ?_
 rintro _ K ⟨n,rfl,on,cn,mn,dn⟩
 simp at mn
 have qn:=dNet_one on
 have lK:=cn.1
 simp at lK
 have hF:H.length≤K.length:=by omega
 simp [dNet_val,qn,VM.look,hF]
 obtain ⟨K1,hK1⟩:∃K1,K1=K++[⟨netCells n x,0,59⟩]:=⟨_,rfl⟩
 have c1:Chg K K1 []:=by rw [hK1];exact Chg.app _
 have l1:K1.length=K.length+1:=by rw [hK1];simp
 have cK:Chg H K []:=(Chg.app _).trans cn
 have cK1:=cK.trans c1
 have b1:K1[H.length]? = some ⟨netCells v x,0,59⟩:=box_chg (box_chg (by simp [netCells]) cn (by simp)) c1 (by simp)
 have bR:K1[H.length+1]? = some ⟨[.int .i64 0,.int .i64 0,.slice none 0 0,.slice none 0 0,.slice none 0 0,.slice none 0 0,.slice none 0 0,.slice none 0 0,.slice none 0 0,.slice none 0 0,.int .i64 0],0,59⟩:=box_chg (box_chg (by simp) cn (by simp)) c1 (by simp)
 have b3:K1[K.length]? = some ⟨netCells n x,0,59⟩:=by rw [hK1];simp
 have hKs:K++[⟨netCells n x,0,59⟩]=K1:=hK1.symm
 have o1:=Dt.chg (T:=dNet) o cK1 (by simp)
 have on1:=Dt.chg (T:=dNet) on c1 (by simp)
 have ltn:∀i∈dNet.ids n,i<K.length:=fun i hi=>dNet.lt on i hi
 have b1':=b1
 unfold netCells at hKs b1'
 rw [hKs]
 clear hK1 hKs
 have eal:=l18All_w (frz:=H.length) o1 hx
 simp only [dNet_val] at eal
 simp [VM.look,b1',ones]
 refine wp_thn eal ?_
 rintro gl K2 ⟨oG,nG,cG⟩
 have l2:=cG.1
 have b1:=box_chg b1 cG (by simp)
 have bR:=box_chg bR cG (by simp)
 have b3:=box_chg b3 cG (by simp)
 have o2:=Dt.chg (T:=dNet) o1 cG (by simp)
 have on2:=Dt.chg (T:=dNet) on1 cG (by simp)
 have cK2:=cK1.trans cG
 have hidn:K.length∉dNet.ids n:=fun hh=>by have:=ltn _ hh;omega
 have ns0:NS K2 K2 [] n x _ _ _:=NS.start [] on2 dn
 have hL:=allN_len x
 have hat:=fun g (hg:g∈allN x)=>allN_at hg
 have ltG:=oG.lt
 have hmn:∀k∈dNet.ids n,H.length+2≤k:=mn
 have rowO:∀J:Heap,Chg K2 J ([]++dNet.ids n)→J[H.length]? = some ⟨netCells v x,0,59⟩:=fun J c=>box_chg b1 c (fun hh=>by have:=hmn _ (by simpa using hh);omega)
 have rowR:=fun (J:Heap) (c:Chg K2 J ([]++dNet.ids n))=>box_chg bR c (fun hh=>by have:=hmn _ (by simpa using hh);omega)
 have rowN:∀J:Heap,Chg K2 J ([]++dNet.ids n)→J[K.length]? = some ⟨netCells n x,0,59⟩:=fun J c=>box_chg b3 c (by simpa using hidn)
 have cHJ:∀J:Heap,Chg K2 J ([]++dNet.ids n)→Chg H J []:=fun J c=>cK2.trans' c (fun k hk=>.inr (by have:=hmn k (by simpa using hk);omega))
 have glJ:∀J:Heap,Chg K2 J ([]++dNet.ids n)→Ow grF 191 J gl (allN x):=fun J c=>oG.chg c (fun k hk hh=>by have:=nG k hk;have:=ltn k (by simpa using hh);omega)
 have hNx:(x.2.2.1.length:Int)=10*cnt x.1.1 x.1.2.1:=hx.2.1.1
 simp
 -- the grants
 refine wp_inv (fun m t J=>∃(i:Nat) (g5 g9:List Value),m=(allN x).length-i∧i≤(allN x).length∧t 1=.pointer (some ⟨H.length,0,some 0⟩)∧t 2=.pointer (some ⟨H.length+1,0,some 0⟩)∧t 3=.pointer (some ⟨K.length,0,some 0⟩)∧t 4=gl∧t 5=.int .i64 i∧
  NS K2 J [] n (nBoth x i) g5 n.2.2.2.2.2.1.2 g9) ?_ (n:=(allN x).length)
  ⟨0,n.2.2.1.2,n.2.2.2.2.2.2.1.2,rfl,by omega,by simp,by simp,by simp,by simp,by simp,ns0⟩
 rintro m t J ⟨i,g5,g9,rfl,hi,t1,t2,t3,t4,t5,ns⟩ ih
 have hgl:=(glJ J ns.chg).rd.len (P:=Try.prog) (ty:=188) (by simp)
 simp [t1,t2,t3,t4,t5,hgl]
 refine wp_dec ?_ ?_<;>intro g
 ·have hi':i<(allN x).length:=by omega
  obtain ⟨q1,q2⟩:=gr_idx (glJ J ns.chg) hi'
  obtain ⟨m1,m2,m3,m4⟩:=hat _ (List.getElem_mem hi')
  have hps:=nBoth_succ hi'
  have hne0:=nBoth_ne hi'
  obtain ⟨J1,hJ1⟩:∃J1,J1=J++[⟨grF.f (allN x)[i],0,191⟩]:=⟨_,rfl⟩
  have cJ:Chg J J1 []:=by rw [hJ1];exact Chg.app _
  have lJ:J1.length=J.length+1:=by rw [hJ1];simp
  have bx1:J1[J.length]? = some ⟨grF.f (allN x)[i],0,191⟩:=by rw [hJ1];simp
  have hJs:J++[⟨grF.f (allN x)[i],0,191⟩]=J1:=hJ1.symm
  generalize (allN x)[i]=gg at *
  simp only [grF_f] at bx1 hJs
  have nsA:=ns.other cJ (by simp) (by simp)
  obtain ⟨c,hc⟩:∃c,c=gg.2.2%2:=⟨_,rfl⟩
  obtain ⟨q,hq⟩:∃q,q=gg.2.2/2:=⟨_,rfl⟩
  obtain ⟨j,hj⟩:∃j,j=frm gg:=⟨_,rfl⟩
  obtain ⟨f,hfe⟩:∃f,f=headOf x (frm gg):=⟨_,rfl⟩
  have hjx:j<x.2.2.1.length:=by unfold frm at hj;omega
  have l5':(nBoth x i).2.2.1.length=x.2.2.1.length:=fold_len (bothS_len x) _ _
  have l9':(nBoth x i).2.2.2.2.2.2.1.length=x.2.2.2.2.2.2.1.length:=fold_len (arrS_len x) _ _
  have hjl:j<(nBoth x i).2.2.1.length:=by omega
  rw [← hj] at hps hne0 hfe
  have hgd:(nBoth x i).2.2.1.getD j []=(nBoth x i).2.2.1[j]:=by simp [List.getD_eq_getElem?_getD,hjl]
  have hne:(nBoth x i).2.2.1[j]≠[]:=by rw [← hgd];exact hne0
  have hgx:x.2.2.1.getD j []=x.2.2.1[j]:=by simp [List.getD_eq_getElem?_getD,hjx]
  have hnx:x.2.2.1[j]≠[]:=by rw [← hgx,hj];exact req_ne m4
  have hhd:headL x.2.2.1[j]=f:=by rw [← hgx,hfe];rfl
  have e1:=@w6 (10*(gg.1:Int)) (by omega)
  have e2:∀[Inhabited Unit],IntKind.i64.wrap (10*(gg.1:Int)+(gg.2.2:Int))=(j:Int):=by intro _;unfold frm at hj;rw [w64 (by omega) (by omega)];omega
  have e3:∀[Inhabited Unit],(gg.2.2:Int).tmod 2=(c:Int):=by intro _;rw [tmod2];omega
  have e3':∀[Inhabited Unit],(gg.2.2:Int)%2=(c:Int):=by intro _;omega
  have e4:∀[Inhabited Unit],IntKind.i64.wrap ((gg.2.2:Int)/2)=(q:Int):=by intro _;rw [w64 (by omega) (by omega)];omega
  have rO1:=rowO J1 nsA.chg
  unfold netCells at rO1
  obtain ⟨a0,z1,z2,z3,z4,z5,z6,z7⟩:=ss_hd (u:=v.2.2.1) (Dt.chg (T:=dNet) o (cHJ J1 nsA.chg) (by simp)).2.2.1 hjx
  obtain ⟨z0,_,_,_,_,_,_,zw⟩:=front z4.rd hnx
  rw [hhd] at zw
  obtain ⟨J2,hJ2⟩:∃J2,J2=J1++[⟨flF.f f,0,134⟩]:=⟨_,rfl⟩
  have cJ2:Chg J1 J2 []:=by rw [hJ2];exact Chg.app _
  have lJ2:J2.length=J1.length+1:=by rw [hJ2];simp
  have bx2:J2[J1.length]? = some ⟨flF.f f,0,134⟩:=by rw [hJ2];simp
  have hJ2s:J1++[⟨flF.f f,0,134⟩]=J2:=hJ2.symm
  simp only [flF_f] at bx2 hJ2s zw
  have bx12:=box_chg bx1 cJ2 (by simp)
  have nsB:=nsA.other cJ2 (by simp) (by simp)
  have hlw:∀k∈dNet.ids (vw n g5 n.2.2.2.2.2.1.2 g9),k<J.length:=fun k hk=>dNet.lt ns.ow k hk
  have hfg:∀k∈dNet.ids (vw n g5 n.2.2.2.2.2.1.2 g9),H.length≤k:=fun k hk=>by
   rcases ns.ids k hk with h|h
   ·have:=hmn k h;omega
   ·omega
  have hFJ:H.length≤J.length:=by have:=ns.chg.1;omega
  have hFJ1:H.length≤J1.length:=by omega
  have b5i:=allL_mono (fold_allL (both_allL x) ((allN x).take i) x.2.2.1 67000000 hb5) (show _≤67000080 by simp;omega)
  have b9i:=allL_mono (fold_allL (arr_allL x) ((allN x).take i) x.2.2.2.2.2.2.1 67000000 hb9) (show _≤67000080 by simp;omega)
  -- out of the input
  obtain ⟨ab,r1,r2,r3,r4,r5,r6,r7⟩:=ss_hd (u:=(n.2.2.1.1,g5)) nsB.ow.2.2.1 hjl
  simp only at r2 r3 r7
  obtain ⟨z,a',M2,M3,p3,p4,p5,p6,lv2,lv3,qb1,qb2,c2,pt⟩:=ss_popE (frz:=H.length) (u:=(n.2.2.1.1,g5)) nsB.ow.2.2.1 (net_ndBuf (n:=vw n g5 n.2.2.2.2.2.1.2 g9) nsB.nd) hjl hne (fun k hk=>hfg k (net_inBuf (n:=vw n g5 n.2.2.2.2.2.1.2 g9) k hk)) r1
  simp only at p5 p6 lv2 lv3
  obtain ⟨nsC,nC,cC⟩:=nsB.buf pt
  have bx13:=box_chg bx12 cC (fun hh=>by have:=hlw _ hh;omega)
  have bx23:=box_chg bx2 cC (fun hh=>by have:=hlw _ hh;omega)
  have rN2:=rowN J2 nsB.chg
  unfold netCells at rN2
  have lM3:=cC.1
  simp [t1,t2,t3,t4,t5,q1,q2,grF_f,hFJ]
  rw [hJs]
  clear hJ1 hJs
  simp [t1,t2,t3,t4,t5,VM.look,bx1,rO1,ones,e1,e2,e3,e3',z2,z3,z5,z6,z0,zw,hFJ1]
  rw [hJ2s]
  clear hJ2 hJ2s
  rw [go_drawE (h:=⟨by kernel_rfl,by kernel_rfl⟩)]
  simp [emps,empOp,empB,-vappend_nil,-vappend_mk,t1,t2,t3,t4,t5,VM.look,rN2,qn,r2,r3,r5,r6,p3,p4,p5,p6,qb1,qb2,bx13,e4]
  have rN3:=rowN M3 nsC.chg
  have rO3:=rowO M3 nsC.chg
  have hlw2:∀k∈dNet.ids (vw n (g5.set j a') n.2.2.2.2.2.1.2 g9),k<J.length∨J2.length≤k:=fun k hk=>(nC k hk).imp (hlw k) _root_.id
  have hfg2:∀k∈dNet.ids (vw n (g5.set j a') n.2.2.2.2.2.1.2 g9),H.length≤k:=fun k hk=>by
   rcases nC k hk with h|h
   ·exact hfg k h
   ·omega
  have hidg:K.length∉dNet.ids (vw n (g5.set j a') n.2.2.2.2.2.1.2 g9):=fun hh=>by
   rcases nsC.ids _ hh with h|h
   ·exact hidn h
   ·omega
  have rNL:=fun L=>get_app' rN3 L
  have bxL:=fun L=>get_app' bx13 L
  have hFM3:H.length≤M3.length:=by omega
  unfold netCells at rO3
  -- into the output
  refine wp_joinb (F:=?FB1) (k1:=?kB1) (k2:=?kB2) (Q:=?QB1) (fun cc t J4=>∃(g5' g9':List Value),cc=.bool f.2.2.2.2∧t 1=.pointer (some ⟨H.length,0,some 0⟩)∧t 2=.pointer (some ⟨H.length+1,0,some 0⟩)∧t 3=.pointer (some ⟨K.length,0,some 0⟩)∧t 4=gl∧t 5=.int .i64 i∧
   t 6=.pointer (some ⟨J.length,0,some 0⟩)∧t 8=.int .i64 c∧t 11=.int .i64 q∧J4[J.length]? = some ⟨[.int .i64 (gg.1:Int),.int .i64 (gg.2.1:Int),.int .i64 (gg.2.2:Int)],0,191⟩∧
   NS K2 J4 [] n (withArr (withBuf (nBoth x i) (pushS x (upd (nBoth x i).2.2.1 j (List.drop 1)) gg)) (arrS x (nBoth x i).2.2.2.2.2.2.1 gg)) g5' n.2.2.2.2.2.1.2 g9'∧∀k∈dNet.ids (vw n g5' n.2.2.2.2.2.1.2 g9'),k≠J.length) ?mainB ?restB
  case mainB=>
   intro rest
   by_cases h4:gg.2.1=4
   ·have h4c:(gg.2.1:Int)=4:=by omega
    have h9l:gg.1<(nBoth x i).2.2.2.2.2.2.1.length:=by rw [l9'];have:=hx.2.1.2.2.2.2;omega
    obtain ⟨a9,d1,d2,d3,d4,d5,d6,d7⟩:=ss_hd (u:=(n.2.2.2.2.2.2.1.1,g9)) nsC.ow.2.2.2.2.2.2.1 h9l
    simp only at d2 d3 d7
    obtain ⟨b',Q2,Q3,hap,s5,s6,mv2,mv3,qc1,qc2,cc2,pt2⟩:=ss_push (frz:=H.length) (u:=(n.2.2.2.2.2.2.1.1,g9)) nsC.ow.2.2.2.2.2.2.1 (net_ndArr (n:=vw n (g5.set j a') n.2.2.2.2.2.1.2 g9) nsC.nd) h9l (Nat.le_trans (Nat.succ_le_succ (b9i _ (List.getElem_mem h9l))) (by decide)) (fun k hk=>hfg2 k (net_inArr (n:=vw n (g5.set j a') n.2.2.2.2.2.1.2 g9) k hk)) d1 f
    simp only at s5 s6 mv2 mv3
    obtain ⟨nsD,nD,cD⟩:=nsC.arr pt2
    have hia:∀k∈ids a9,k∈dNet.ids (vw n (g5.set j a') n.2.2.2.2.2.1.2 g9):=fun k hk=>net_inArr (n:=vw n (g5.set j a') n.2.2.2.2.2.1.2 g9) k (mem_idsL d1 hk)
    have rNQ2:=box_chg rN3 cc2 (fun hh=>hidg (hia _ hh))
    have rNQ3:=rowN Q3 nsD.chg
    have bxQ2:=box_chg bx13 cc2 (fun hh=>by have:=hlw2 _ (hia _ hh);omega)
    have bxQ3:=box_chg bx13 cD (fun hh=>by have:=hlw2 _ hh;omega)
    have lvL:∀L:Heap,VM.live (M3++L) n.2.2.2.2.2.2.1.1:=fun L=>Ow_live (v:=n.2.2.2.2.2.2.1.1) (Ow.app (L:=L) nsC.ow.2.2.2.2.2.2.1.1.1)
    have bxfQ:=box_chg bx23 cD (fun hh=>by have:=hlw2 _ hh;omega)
    unfold netCells at rN3 rNL rNQ2 rNQ3
    simp only [flF_f] at hap
    simp [h4]
    rw [go_drawF (fl:=([1,3],[14])) (h:=⟨by kernel_rfl,by kernel_rfl,by kernel_rfl,by kernel_rfl⟩)]
    simp [emps,empOp,empB,-vappend_nil,-vappend_mk,t1,t2,t3,t4,t5,VM.look,rN3,qn,bx13,bx23,d2,d3,d5,d6,d7,hap,s5,s6,qc1,qc2,mv2,mv3,rNL,bxL,rNQ2,rNQ3,bxQ2,bxQ3,lvL,hFM3,e4,bxfQ]
    refine rest _ _ _ ?_
    have ea:withArr (withBuf (nBoth x i) (pushS x (upd (nBoth x i).2.2.1 j (List.drop 1)) gg)) (arrS x (nBoth x i).2.2.2.2.2.2.1 gg)=withArr (withBuf (nBoth x i) (upd (nBoth x i).2.2.1 j (List.drop 1))) (upd (nBoth x i).2.2.2.2.2.2.1 gg.1 (·++[f])):=by
     unfold pushS arrS;rw [if_pos h4,if_pos h4,hfe,hj]
    rw [ea]
    exact ⟨g5.set j a',g9.set gg.1 b',rfl,by simp [t1],by simp [t2],by simp [t3],by simp [t4],by simp [t5],by simp,by simp,by simp,bxQ3,nsD,fun k hk=>by rcases nD k hk with h|h;(have:=hlw2 k h;omega);omega⟩
   ·obtain ⟨hh,hroom⟩:=m4.2.1.resolve_left h4
    rw [← hc] at hroom
    have h4c:¬(gg.2.1:Int)=4:=by omega
    obtain ⟨s1,s2,s3⟩:=tgt_val (c:=c) hh (by omega) (by omega)
    obtain ⟨o1,o2,o3⟩:=tgt_ok (c:=c) hh (by omega)
    obtain ⟨zt,hz⟩:∃zt,zt=tgt x gg.1 gg.2.1 c:=⟨_,rfl⟩
    rw [← hz] at s1 s2 s3
    have hzl:zt<(upd (nBoth x i).2.2.1 j (List.drop 1)).length:=by rw [upd_len,l5'];omega
    have nn:=fun F=>sNextNode_c (frz:=F) (H:=M3) x.1.1 x.1.2.1 gg.1 gg.2.1
    have so:=fun F=>sOpposite_c (frz:=F) (H:=M3) gg.2.1
    obtain ⟨o4,o5⟩:=o1
    generalize next x.1.1 x.1.2.1 gg.1 gg.2.1=N at *
    generalize opp (gg.2.1:Int)=O at *
    have k3:=@w6 (10*N) (by omega)
    have k4:=@w6 (2*O) (by omega)
    have k5:=@w6 (10*N+2*O) (by omega)
    have k6:∀[Inhabited Unit],IntKind.i64.wrap (10*N+2*O+(c:Int))=(zt:Int):=by intro _;rw [w64 (by omega) (by omega)];omega
    have b5u:allL 67000080 (upd (nBoth x i).2.2.1 j (List.drop 1)):=allL_drop b5i
    obtain ⟨a9,d1,d2,d3,d4,d5,d6,d7⟩:=ss_hd (u:=(n.2.2.1.1,g5.set j a')) nsC.ow.2.2.1 hzl
    simp only at d2 d3 d7
    obtain ⟨b',Q2,Q3,hap,s5,s6,mv2,mv3,qc1,qc2,cc2,pt2⟩:=ss_push (frz:=H.length) (u:=(n.2.2.1.1,g5.set j a')) nsC.ow.2.2.1 (net_ndBuf (n:=vw n (g5.set j a') n.2.2.2.2.2.1.2 g9) nsC.nd) hzl (Nat.le_trans (Nat.succ_le_succ (b5u _ (List.getElem_mem hzl))) (by decide)) (fun k hk=>hfg2 k (net_inBuf (n:=vw n (g5.set j a') n.2.2.2.2.2.1.2 g9) k hk)) d1 f
    simp only at s5 s6 mv2 mv3
    obtain ⟨nsD,nD,cD⟩:=nsC.buf pt2
    have hia:∀k∈ids a9,k∈dNet.ids (vw n (g5.set j a') n.2.2.2.2.2.1.2 g9):=fun k hk=>net_inBuf (n:=vw n (g5.set j a') n.2.2.2.2.2.1.2 g9) k (mem_idsL d1 hk)
    have rNQ2:=box_chg rN3 cc2 (fun hh=>hidg (hia _ hh))
    have rNQ3:=rowN Q3 nsD.chg
    have bxQ2:=box_chg bx13 cc2 (fun hh=>by have:=hlw2 _ (hia _ hh);omega)
    have bxQ3:=box_chg bx13 cD (fun hh=>by have:=hlw2 _ hh;omega)
    have lvL:∀L:Heap,VM.live (M3++L) n.2.2.1.1:=fun L=>Ow_live (v:=n.2.2.1.1) (Ow.app (L:=L) nsC.ow.2.2.1.1.1)
    have bxfQ:=box_chg bx23 cD (fun hh=>by have:=hlw2 _ hh;omega)
    unfold netCells at rN3 rNL rNQ2 rNQ3
    simp only [flF_f] at hap
    simp [h4c]
    rw [go_draw (h:=by kernel_rfl)]
    simp [t1,t2,t3,t4,t5,VM.look,rO3,ones,bx13,nn,so,k3,k4,k5,k6]
    rw [go_drawF (fl:=([1],[12])) (h:=⟨by kernel_rfl,by kernel_rfl,by kernel_rfl,by kernel_rfl⟩)]
    simp [emps,empOp,empB,-vappend_nil,-vappend_mk,t1,t2,t3,t4,t5,VM.look,rN3,qn,bx13,bx23,d2,d3,d5,d6,d7,hap,s5,s6,qc1,qc2,mv2,mv3,rNL,bxL,rNQ2,rNQ3,bxQ2,bxQ3,lvL,hFM3,e4,bxfQ]
    refine rest _ _ _ ?_
    have ea:withArr (withBuf (nBoth x i) (pushS x (upd (nBoth x i).2.2.1 j (List.drop 1)) gg)) (arrS x (nBoth x i).2.2.2.2.2.2.1 gg)=withBuf (nBoth x i) (upd (upd (nBoth x i).2.2.1 j (List.drop 1)) zt (·++[f])):=by
     unfold pushS arrS;rw [if_neg h4,if_neg h4,hfe,hj,hz,hc];rfl
    rw [ea]
    exact ⟨(g5.set j a').set zt b',g9,rfl,by simp [t1],by simp [t2],by simp [t3],by simp [t4],by simp [t5],by simp,by simp,by simp,bxQ3,nsD,fun k hk=>by rcases nD k hk with h|h;(have:=hlw2 k h;omega);omega⟩
  case restB=>
   rintro cc t J4 ⟨g5',g9',rfl,t1,t2,t3,t4,t5,t6,t8,t11,bx4,ns4,hnJ⟩
   obtain ⟨s2,hs2⟩:∃s2,s2=withArr (withBuf (nBoth x i) (pushS x (upd (nBoth x i).2.2.1 j (List.drop 1)) gg)) (arrS x (nBoth x i).2.2.2.2.2.2.1 gg):=⟨_,rfl⟩
   rw [← hs2] at hps ns4
   have own2:s2.2.2.2.1=(nBoth x i).2.2.2.1:=by rw [hs2];rfl
   have turn2:s2.2.2.2.2.1=(nBoth x i).2.2.2.2.1:=by rw [hs2];rfl
   have lown:s2.2.2.2.1.length=x.2.2.2.1.length:=by rw [own2];exact fold_len (ownS_len x) _ _
   have lturn:s2.2.2.2.2.1.length=x.2.2.2.2.1.length:=by rw [turn2];exact fold_len turnS_len _ _
   clear hs2
   obtain ⟨zo,hz⟩:∃zo,zo=outAt gg.1 gg.2.1 c:=⟨_,rfl⟩
   have hzl:zo<s2.2.2.2.1.length:=by rw [lown,hz];have:=hx.2.1.2.1;unfold outAt;omega
   have hfg4:∀k∈dNet.ids (vw n g5' n.2.2.2.2.2.1.2 g9'),H.length≤k:=fun k hk=>by
    rcases ns4.ids k hk with h|h
    ·have:=hmn k h;omega
    ·omega
   obtain ⟨V,hV⟩:∃V:Int,V=if f.2.2.2.2 then -1 else (q:Int):=⟨_,rfl⟩
   obtain ⟨J5,st5,ns5,c5⟩:=ns4.own (frz:=H.length) hfg4 hzl V
   have hnot:J.length∉dNet.ids (vw n g5' n.2.2.2.2.2.1.2 g9'):=fun hh=>hnJ _ hh rfl
   have bx5:=box_chg bx4 c5 hnot
   obtain ⟨zt,hzt⟩:∃zt,zt=5*gg.1+gg.2.1:=⟨_,rfl⟩
   obtain ⟨d,hd⟩:∃d,d=(gg.2.2+1)%10:=⟨_,rfl⟩
   have hztl:zt<s2.2.2.2.2.1.length:=by rw [lturn,hzt];have:=hx.2.1.2.2.1;omega
   obtain ⟨o5,_⟩:=in_at (Rd.isI ns4.ow.2.2.2.1.1.rd) hzl
   have o5':vindexAddr Try.prog J4 24 n.2.2.2.1 (.int .i64 (zo:Int))=some (elp n.2.2.2.1 zo):=o5
   obtain ⟨o4,_⟩:=in_at (Rd.isI ns5.ow.2.2.2.2.1.1.rd) (l:=s2.2.2.2.2.1) hztl
   have o4':vindexAddr Try.prog J5 24 n.2.2.2.2.1 (.int .i64 (zt:Int))=some (elp n.2.2.2.2.1 zt):=o4
   obtain ⟨J6,st6,ns6,c6⟩:=ns5.turn (frz:=H.length) hfg4 (j:=zt) hztl (d:Int)
   have k1:=@w6 (5*(gg.1:Int)) (by omega)
   have k2:∀[Inhabited Unit],IntKind.i64.wrap (5*(gg.1:Int)+(gg.2.1:Int))=(zt:Int):=by intro _;rw [w64 (by omega) (by omega)];omega
   have k3:=@w6 ((gg.2.2:Int)+1) (by omega)
   have k4:∀[Inhabited Unit],((gg.2.2:Int)+1).tmod 10=(d:Int):=by intro _;rw [Int.tmod_eq_emod_of_nonneg (by omega)];omega
   have k4':∀[Inhabited Unit],((gg.2.2:Int)+1)%10=(d:Int):=by intro _;omega
   have k7:=@w6 (2*(gg.2.1:Int)) (by omega)
   have k8:=@w6 (10*(gg.1:Int)+2*(gg.2.1:Int)) (by omega)
   have k9:∀[Inhabited Unit],IntKind.i64.wrap (10*(gg.1:Int)+2*(gg.2.1:Int)+(c:Int))=(zo:Int):=by intro _;rw [hz];unfold outAt;rw [w64 (by omega) (by omega)];omega
   have hos:ownS x s2.2.2.2.1 gg=s2.2.2.2.1.set zo V:=by unfold ownS;rw [hV,hz,hc,hq,hfe,hj]
   have hts:turnS s2.2.2.2.2.1 gg=s2.2.2.2.2.1.set zt (d:Int):=by unfold turnS;rw [hzt,hd]
   rw [← own2,← turn2,hts,hos] at hps
   have rN4:=rowN J4 ns4.chg
   have rN5:=rowN J5 ns5.chg
   unfold netCells at rN4 rN5
   cases ht:f.2.2.2.2 with
   | false=>
    rw [ht,if_neg (by simp)] at hV
    subst hV
    simp [t1,t2,t3,t4,t5,t6,t8,t11,VM.look,rN4,rN5,qn,bx4,bx5,e1,k1,k2,k3,k4,k4',k7,k8,k9,o5',o4',st5,st6]
    refine ih ((allN x).length-(i+1)) _ _ ⟨i+1,g5',g9',rfl,by omega,by simp [t1],by simp [t2],by simp [t3],by simp [t4],?_,by rw [hps];exact ns6⟩ (by omega)
    simp [t5];rw [w64 (by omega) (by omega)]
   | true=>
    rw [ht,if_pos rfl] at hV
    subst hV
    simp [t1,t2,t3,t4,t5,t6,t8,t11,VM.look,rN4,rN5,qn,bx4,bx5,e1,k1,k2,k3,k4,k4',k7,k8,k9,o5',o4',st5,st6]
    refine ih ((allN x).length-(i+1)) _ _ ⟨i+1,g5',g9',rfl,by omega,by simp [t1],by simp [t2],by simp [t3],by simp [t4],?_,by rw [hps];exact ns6⟩ (by omega)
    simp [t5];rw [w64 (by omega) (by omega)]
 ·have hil:i=(allN x).length:=by omega
  subst hil
  clear ih
  have rO:=rowO J ns.chg
  have oJ:=Dt.chg (T:=dNet) o (cHJ J ns.chg) (by simp)
  have ent:=l19Entering_w (frz:=H.length) oJ hx
  simp only [dNet_val] at ent
  have rO':=rO
  unfold netCells at rO'
  simp [t1,t2,t3,t4,t5,VM.look,rO',ones]
  refine wp_thn ent ?_
  rintro el J1 ⟨oE,nE,cE⟩
  have ltE:=oE.lt
  have lE:=cE.1
  have lJ:=ns.chg.1
  -- between the loops: the network w,y3
  obtain ⟨y3,hy3⟩:∃y3,y3=nBoth x (allN x).length:=⟨_,rfl⟩
  rw [← hy3] at ns
  have ye3:y3.1=x.1∧y3.2.1=x.2.1∧y3.2.2.2.2.2.1=x.2.2.2.2.2.1∧y3.2.2.2.2.2.2.2=x.2.2.2.2.2.2.2:=by rw [hy3];exact ⟨rfl,rfl,rfl,rfl⟩
  have l53:y3.2.2.1.length=x.2.2.1.length:=by rw [hy3];exact fold_len (bothS_len x) _ _
  have b53:allL 67000080 y3.2.2.1:=by
   rw [hy3]
   refine allL_mono (fold_allL (both_allL x) ((allN x).take (allN x).length) x.2.2.1 67000000 hb5) ?_
   simp;omega
  have hlw:∀k∈dNet.ids (vw n g5 n.2.2.2.2.2.1.2 g9),k<J.length:=fun k hk=>dNet.lt ns.ow k hk
  have hfw:∀k∈dNet.ids (vw n g5 n.2.2.2.2.2.1.2 g9),k∈dNet.ids n∨K2.length≤k:=ns.ids
  have rN1:J1[K.length]? = some ⟨netCells (vw n g5 n.2.2.2.2.2.1.2 g9) x,0,59⟩:=box_chg (rowN J ns.chg) cE (by simp)
  have rO1:=box_chg rO cE (by simp)
  have rR1:=box_chg (rowR J ns.chg) cE (by simp)
  have ns1:NS J1 J1 [] (vw n g5 n.2.2.2.2.2.1.2 g9) y3 _ _ _:=NS.start [] (Dt.chg (T:=dNet) ns.ow cE (by simp)) ns.nd
  have cHJ1:Chg H J1 []:=(cHJ J ns.chg).trans cE
  clear rO' rO oJ ent
  generalize hw:vw n g5 n.2.2.2.2.2.1.2 g9=w at *
  have hidw:K.length∉dNet.ids w:=fun hh=>by
   rcases hfw _ hh with h|h
   ·exact hidn h
   ·omega
  have hmw:∀k∈dNet.ids w,H.length+2≤k:=fun k hk=>by
   rcases hfw k hk with h|h
   ·exact hmn k h
   ·omega
  have onew:=dNet_one (v:=w) ns1.ow
  have hE:=enterN_len x
  have hEat:=fun k (hk:k∈enterN x)=>enterN_at hk
  have hEnd:=enterN_nd x
  clear rowO rowR rowN cHJ glJ ns
  have rowO:∀J:Heap,Chg J1 J ([]++dNet.ids w)→J[H.length]? = some ⟨netCells v x,0,59⟩:=fun J c=>box_chg rO1 c (fun hh=>by have:=hmw _ (by simpa using hh);omega)
  have rowR:=fun (J:Heap) (c:Chg J1 J ([]++dNet.ids w))=>box_chg rR1 c (fun hh=>by have:=hmw _ (by simpa using hh);omega)
  have rowN:∀J:Heap,Chg J1 J ([]++dNet.ids w)→J[K.length]? = some ⟨netCells w x,0,59⟩:=fun J c=>box_chg rN1 c (by simpa using hidw)
  have cHJ:∀J:Heap,Chg J1 J ([]++dNet.ids w)→Chg H J []:=fun J c=>cHJ1.trans' c (fun k hk=>.inr (by have:=hmw k (by simpa using hk);omega))
  have elJ:∀J':Heap,Chg J1 J' ([]++dNet.ids w)→Ow Fl.int 3 J' el ((enterN x).map Int.ofNat):=fun J' c=>oE.chg c (fun k hk hh=>by have:=nE k hk;have:=hlw k (by simpa using hh);omega)
  simp [t1,t2,t3,t4,t5]
  -- what enters
  refine wp_inv (fun m t J=>∃(i:Nat) (g5 g8:List Value),m=(enterN x).length-i∧i≤(enterN x).length∧t 1=.pointer (some ⟨H.length,0,some 0⟩)∧t 2=.pointer (some ⟨H.length+1,0,some 0⟩)∧t 3=.pointer (some ⟨K.length,0,some 0⟩)∧t 12=el∧t 13=.int .i64 i∧
   NS J1 J [] w (nEnt x y3 i) g5 g8 w.2.2.2.2.2.2.1.2) ?_ (n:=(enterN x).length)
   ⟨0,w.2.2.1.2,w.2.2.2.2.2.1.2,rfl,by omega,by simp [t1],by simp [t2],by simp [t3],by simp,by simp,ns1⟩
  clear t1 t2 t3 t4 t5
  rintro m t J ⟨i,g5,g8,rfl,hi,t1,t2,t3,t12,t13,ns⟩ ih
  have hel:=(elJ J ns.chg).rd.len (P:=Try.prog) (ty:=24) (by simp)
  rw [List.length_map] at hel
  simp [t1,t2,t3,t12,t13,hel]
  refine wp_dec ?_ ?_<;>intro g
  ·have hi':i<(enterN x).length:=by omega
   obtain ⟨u1,u2⟩:=in_at (elJ J ns.chg).rd.isI (i:=i) (by simpa using hi')
   have eel:((enterN x).map Int.ofNat)[i]'(by simpa using hi')=((enterN x)[i]:Int):=by simp
   rw [eel] at u2
   obtain ⟨m1,m2⟩:=hEat _ (List.getElem_mem hi')
   have hps:=nEnt_succ (y:=y3) hi'
   have hsat:(nEnt x y3 i).2.2.2.2.2.1.getD (enterN x)[i] []=x.2.2.2.2.2.1.getD (enterN x)[i] []:=by
    rw [← ye3.2.2.1]
    have hnt:=not_take (f:=fun k:Nat=>k) (by simpa using hEnd) hi'
    exact srcs_at _ _ _ (by simpa using hnt)
   generalize (enterN x)[i]=k at *
   have hkx:k<x.2.2.2.2.2.1.length:=by have:=hx.2.1.2.2.2.1;omega
   have hks:k<(nEnt x y3 i).2.2.2.2.2.1.length:=by
    have:(nEnt x y3 i).2.2.2.2.2.1.length=y3.2.2.2.2.2.1.length:=fold_len srcS_len _ _
    rw [this,ye3.2.2.1];exact hkx
   have hgd:(nEnt x y3 i).2.2.2.2.2.1.getD k []=(nEnt x y3 i).2.2.2.2.2.1[k]:=by simp [List.getD_eq_getElem?_getD,hks]
   have hne:(nEnt x y3 i).2.2.2.2.2.1[k]≠[]:=by rw [← hgd,hsat];exact m2.1
   have hgx:x.2.2.2.2.2.1.getD k []=x.2.2.2.2.2.1[k]:=by simp [List.getD_eq_getElem?_getD,hkx]
   have hnx:x.2.2.2.2.2.1[k]≠[]:=by rw [← hgx];exact m2.1
   obtain ⟨en1,en2,en3⟩:=ent_ok hx m2.1
   have hcl:=en1.2
   obtain ⟨f,hfe⟩:∃f,f=srcHead x k:=⟨_,rfl⟩
   have hhd:headL x.2.2.2.2.2.1[k]=f:=by rw [← hgx,hfe];rfl
   obtain ⟨z,hz⟩:∃z,z=entAt x k:=⟨_,rfl⟩
   rw [← hfe,← hz] at en2
   rw [← hfe] at hcl
   unfold inR at hcl
   have hzl:z<(nEnt x y3 i).2.2.1.length:=by
    have:(nEnt x y3 i).2.2.1.length=y3.2.2.1.length:=fold_len (entS_len x) _ _
    rw [this,l53];have:=hx.2.1.1;omega
   have b5i:allL 67000096 (nEnt x y3 i).2.2.1:=allL_mono (fold_allL (ent_allL x) ((enterN x).take i) y3.2.2.1 67000080 b53) (show _≤67000096 by simp;omega)
   obtain ⟨J2,hJ2⟩:∃J2,J2=J++[⟨flF.f f,0,134⟩]:=⟨_,rfl⟩
   have cJ:Chg J J2 []:=by rw [hJ2];exact Chg.app _
   have lJ2:J2.length=J.length+1:=by rw [hJ2];simp
   have bx:J2[J.length]? = some ⟨flF.f f,0,134⟩:=by rw [hJ2];simp
   have hJs:J++[⟨flF.f f,0,134⟩]=J2:=hJ2.symm
   simp only [flF_f] at bx hJs
   have nsA:=ns.other cJ (by simp) (by simp)
   have hlJ:∀l∈dNet.ids (vw w g5 g8 w.2.2.2.2.2.2.1.2),l<J.length:=fun l hl=>dNet.lt ns.ow l hl
   have hFJ:H.length≤J.length:=by have:=ns.chg.1;omega
   have hFJ2:H.length≤J2.length:=by omega
   have hfg:∀l∈dNet.ids (vw w g5 g8 w.2.2.2.2.2.2.1.2),H.length≤l:=fun l hl=>by
    rcases ns.ids l hl with h|h
    ·have:=hmw l h;omega
    ·omega
   obtain ⟨a0,z1,z2,z3,z4,z5,z6,z7⟩:=ss_hd (u:=v.2.2.2.2.2.1) (Dt.chg (T:=dNet) o (cHJ J ns.chg) (by simp)).2.2.2.2.2.1 hkx
   obtain ⟨z0,_,_,_,_,_,_,zw⟩:=front z4.rd hnx
   rw [hhd] at zw
   simp only [flF_f] at zw
   obtain ⟨az,d1,d2,d3,d4,d5,d6,d7⟩:=ss_hd (u:=(w.2.2.1.1,g5)) nsA.ow.2.2.1 hzl
   simp only at d2 d3 d7
   obtain ⟨a',M2,M3,hap,p5,p6,lv2,lv3,qb1,qb2,c2,pt⟩:=ss_push (frz:=H.length) (u:=(w.2.2.1.1,g5)) nsA.ow.2.2.1 (net_ndBuf (n:=vw w g5 g8 w.2.2.2.2.2.2.1.2) nsA.nd) hzl (Nat.le_trans (Nat.succ_le_succ (b5i _ (List.getElem_mem hzl))) (by decide)) (fun l hl=>hfg l (net_inBuf (n:=vw w g5 g8 w.2.2.2.2.2.2.1.2) l hl)) d1 f
   simp only at p5 p6 lv2 lv3
   obtain ⟨nsB,nB,cB⟩:=nsA.buf pt
   simp only [flF_f] at hap
   have hfg2:∀l∈dNet.ids (vw w (g5.set z a') g8 w.2.2.2.2.2.2.1.2),H.length≤l:=fun l hl=>by
    rcases nB l hl with h|h
    ·exact hfg l h
    ·omega
   obtain ⟨a8,s1,s2,s3,s4,s5,s6,s7⟩:=ss_hd (u:=(w.2.2.2.2.2.1.1,g8)) nsB.ow.2.2.2.2.2.1 hks
   simp only at s2 s3 s7
   obtain ⟨zz,b',N2,N3,t3',t4',t5',t6',mv2,mv3,qc1,qc2,cc2,pt2⟩:=ss_popE (frz:=H.length) (u:=(w.2.2.2.2.2.1.1,g8)) nsB.ow.2.2.2.2.2.1 (net_ndSrc (n:=vw w (g5.set z a') g8 w.2.2.2.2.2.2.1.2) nsB.nd) hks hne (fun l hl=>hfg2 l (net_inSrc (n:=vw w (g5.set z a') g8 w.2.2.2.2.2.2.1.2) l hl)) s1
   simp only at t5' t6' mv2 mv3
   obtain ⟨nsC,nC,cC⟩:=nsB.src pt2
   have hidg:K.length∉dNet.ids (vw w g5 g8 w.2.2.2.2.2.2.1.2):=fun hh=>by
    rcases ns.ids _ hh with h|h
    ·exact hidw h
    ·omega
   have hia:∀l∈ids az,l∈dNet.ids (vw w g5 g8 w.2.2.2.2.2.2.1.2):=fun l hl=>net_inBuf (n:=vw w g5 g8 w.2.2.2.2.2.2.1.2) l (mem_idsL d1 hl)
   have rO1:=rowO J ns.chg
   have rN2:=rowN J2 nsA.chg
   have rNL:=fun L=>get_app' rN2 L
   have rNM2:=box_chg rN2 c2 (fun hh=>hidg (hia _ hh))
   have rNM3:=rowN M3 nsB.chg
   have bxL:=fun L=>get_app' bx L
   have lvL:∀L:Heap,VM.live (J2++L) w.2.2.1.1:=fun L=>Ow_live (v:=w.2.2.1.1) (Ow.app (L:=L) nsA.ow.2.2.1.1.1)
   unfold netCells at rO1 rN2 rNL rNM2 rNM3
   have k1:=@w6 (10*(k:Int)) (by omega)
   have k2:=@w6 (10*(k:Int)+8) (by omega)
   have k3:∀[Inhabited Unit],IntKind.i64.wrap (10*(k:Int)+8+f.2.2.1)=(z:Int):=by intro _;rw [w64 (by omega) (by omega)];omega
   simp [t1,t2,t3,t12,t13,u1,u2,VM.look,rO1,ones,z2,z3,z5,z6,z0,zw,hFJ]
   rw [hJs]
   clear hJ2 hJs
   simp [t1,t2,t3,t12,t13,VM.look,bx,k1,k2,k3]
   rw [go_drawF (fl:=([1],[12])) (h:=⟨by kernel_rfl,by kernel_rfl,by kernel_rfl,by kernel_rfl⟩)]
   simp [emps,empOp,empB,-vappend_nil,-vappend_mk,t1,t2,t3,t12,t13,VM.look,rN2,onew,d2,d3,d5,d6,d7,bx,hap,p5,p6,lv2,lv3,qb1,qb2,rNL,rNM2,rNM3,bxL,lvL,hFJ2]
   rw [go_drawE (h:=⟨by kernel_rfl,by kernel_rfl⟩)]
   simp [emps,empOp,empB,-vappend_nil,-vappend_mk,t1,t2,t3,t12,t13,VM.look,rNM3,onew,s2,s3,s5,s6,t3',t4',t5',t6',qc1,qc2]
   refine ih ((enterN x).length-(i+1)) _ _ ⟨i+1,g5.set z a',g8.set k b',rfl,by omega,by simp [t1],by simp [t2],by simp [t3],by simp [t12],?_,?_⟩ (by omega)
   ·simp [t13];rw [w64 (by omega) (by omega)]
   ·rw [hps]
    have e1:entS x (nEnt x y3 i).2.2.1 k=upd (nEnt x y3 i).2.2.1 z (·++[f]):=by unfold entS;rw [← hz,← hfe]
    rw [e1]
    exact nsC
  ·have hil:i=(enterN x).length:=by omega
   subst hil
   clear ih
   have hse:stepN x=older (nEnt x y3 (enterN x).length) 1:=by rw [step_eq2,← hy3]
   have et:∀[Inhabited Unit],IntKind.i64.wrap (x.2.2.2.2.2.2.2+1)=x.2.2.2.2.2.2.2+1:=by intro _;unfold inR at ht;exact w64 (by omega) (by omega)
   have rO2:=rowO J ns.chg
   have rN2:=rowN J ns.chg
   have rR2:=rowR J ns.chg
   unfold netCells at rO2 rN2
   have gN:=set_get (r':=⟨[.int .i64 x.1.1,.int .i64 x.1.2.1,w.1,w.2.1.1,w.2.1.2,w.2.2.1.1,w.2.2.2.1,w.2.2.2.2.1,w.2.2.2.2.2.1.1,w.2.2.2.2.2.2.1.1,.int .i64 (x.2.2.2.2.2.2.2+1)],0,59⟩) rN2
   have cN:Chg J (J.set K.length ⟨[.int .i64 x.1.1,.int .i64 x.1.2.1,w.1,w.2.1.1,w.2.1.2,w.2.2.1.1,w.2.2.2.1,w.2.2.2.2.1,w.2.2.2.2.2.1.1,w.2.2.2.2.2.2.1.1,.int .i64 (x.2.2.2.2.2.2.2+1)],0,59⟩) [K.length]:=chg_set _ _
   have rR3:=box_chg rR2 cN (by simp;omega)
   have gR:=set_get (r':=⟨[.int .i64 x.1.1,.int .i64 x.1.2.1,w.1,w.2.1.1,w.2.1.2,w.2.2.1.1,w.2.2.2.1,w.2.2.2.2.1,w.2.2.2.2.2.1.1,w.2.2.2.2.2.2.1.1,.int .i64 (x.2.2.2.2.2.2.2+1)],0,59⟩) rR3
   have cR:Chg (J.set K.length ⟨[.int .i64 x.1.1,.int .i64 x.1.2.1,w.1,w.2.1.1,w.2.1.2,w.2.2.1.1,w.2.2.2.1,w.2.2.2.2.1,w.2.2.2.2.2.1.1,w.2.2.2.2.2.2.1.1,.int .i64 (x.2.2.2.2.2.2.2+1)],0,59⟩) ((J.set K.length ⟨[.int .i64 x.1.1,.int .i64 x.1.2.1,w.1,w.2.1.1,w.2.1.2,w.2.2.1.1,w.2.2.2.1,w.2.2.2.2.1,w.2.2.2.2.2.1.1,w.2.2.2.2.2.2.1.1,.int .i64 (x.2.2.2.2.2.2.2+1)],0,59⟩).set (H.length+1) ⟨[.int .i64 x.1.1,.int .i64 x.1.2.1,w.1,w.2.1.1,w.2.1.2,w.2.2.1.1,w.2.2.2.1,w.2.2.2.2.1,w.2.2.2.2.2.1.1,w.2.2.2.2.2.2.1.1,.int .i64 (x.2.2.2.2.2.2.2+1)],0,59⟩) [H.length+1]:=chg_set _ _
   have hF1:H.length≤H.length+1:=by omega
   have hidg:K.length∉dNet.ids (vw w g5 g8 w.2.2.2.2.2.2.1.2):=fun hh=>by
    rcases ns.ids _ hh with h|h
    ·exact hidw h
    ·omega
   have hmg:∀k∈dNet.ids (vw w g5 g8 w.2.2.2.2.2.2.1.2),H.length+2≤k:=fun k hk=>by
    rcases ns.ids k hk with h|h
    ·exact hmw k h
    ·omega
   simp [t1,t2,t3,t12,t13,VM.look,rO2,rN2,ones,onew,et,hF,gN,rR3,gR,hF1]
   refine ⟨vw w g5 g8 w.2.2.2.2.2.2.1.2,rfl,?_,?_,fun k hk=>by have:=hmg k hk;omega,ns.nd⟩
   ·rw [hse]
    exact Dt.chg (T:=dNet) (Dt.chg (T:=dNet) ns.ow cN (fun k hk hh=>by simp at hh;exact hidg (hh▸hk))) cR (fun k hk hh=>by have:=hmg k hk;simp at hh;omega)
   ·exact ((cHJ J ns.chg).trans' cN (fun k hk=>.inr (by simp at hk;omega))).trans' cR (fun k hk=>.inr (by simp at hk;omega))
def runs (x:NetD) (k:Int):Prop:=netOk x∧inR 0 k 400∧x.2.2.2.2.2.2.2+k≤1000000
instance (x:NetD) (k:Int):Decidable (runs x k):=inferInstanceAs (Decidable (_∧_))
theorem netOk_buf {x:NetD} (h:netOk x):allL 66000000 x.2.2.1:=fun l hl=>by
 obtain ⟨i,hi,rfl⟩:=List.getElem_of_mem hl
 have:=(h.2.2.1 i hi).1
 rw [getD_at hi] at this
 omega
theorem run_at {x:NetD} (h:runOk x) (h5:allL 66000000 x.2.2.1) (h9:allL 66000000 x.2.2.2.2.2.2.1) {i:Nat} (hi:i≤400):runOk (runN x i)∧allL 67000000 (runN x i).2.2.1∧allL 67000000 (runN x i).2.2.2.2.2.2.1∧(runN x i).2.2.2.2.2.2.2=x.2.2.2.2.2.2.2+i:=by
 obtain ⟨a,b⟩:=run_allL h5 h9 i
 exact ⟨run_ok h i,allL_mono a (by omega),allL_mono b (by omega),run_time x i⟩
def RunPost (H:Heap) (v:NetV) (y:NetD) (r:Value) (H':Heap):Prop:=
 ∃w:NetV,r=dNet.val w y∧dNet.Ow H' w y∧(dNet.ids w).Nodup∧(∀i∈dNet.ids w,i∈dNet.ids v∨H.length≤i)∧Chg H H' []
theorem l20Run_d {v:NetV} {x:NetD} {m:Nat} (o:dNet.Ow H v x) (nd:(dNet.ids v).Nodup) (hm4:m≤400) (hx:runOk x) (h5:allL 66000000 x.2.2.1) (h9:allL 66000000 x.2.2.2.2.2.2.1) (ht:0≤x.2.2.2.2.2.2.2) (ht2:x.2.2.2.2.2.2.2+m≤1000000) :
 wp (vcall C frz 155 [dNet.val v x,.int .i64 m] H) (RunPost H v (runN x m)):=by
 have ones:=dNet_one o
 have hlt:=dNet.lt o
 have ra:=fun i (hi:i≤m)=>run_at (i:=i) hx h5 h9 (by omega)
 simp only [dNet_val]
 rw [vcall_go (fn:=Try.f155) Try.func155 rfl (by kernel_rfl) rfl]
 obtain ⟨G,hG⟩:∃G,G=H++[⟨netCells v x,0,59⟩,⟨[.int .i64 0,.int .i64 0,.slice none 0 0,.slice none 0 0,.slice none 0 0,.slice none 0 0,.slice none 0 0,.slice none 0 0,.slice none 0 0,.slice none 0 0,.int .i64 0],0,59⟩]:=⟨_,rfl⟩
 have cG:Chg H G []:=by rw [hG];exact Chg.app _
 have b1:G[H.length]? = some ⟨netCells v x,0,59⟩:=by rw [hG];simp
 have bR:G[H.length+1]? = some ⟨[.int .i64 0,.int .i64 0,.slice none 0 0,.slice none 0 0,.slice none 0 0,.slice none 0 0,.slice none 0 0,.slice none 0 0,.slice none 0 0,.slice none 0 0,.int .i64 0],0,59⟩:=by rw [hG];simp
 have hGs:=hG.symm
 unfold netCells at hGs
 simp [ones]
 rw [hGs]
 clear hG hGs
 have hF0:H.length≤H.length:=Nat.le_refl _
 have hF1:H.length≤H.length+1:=by omega
 refine wp_inv (fun q t J=>∃(i:Nat) (w:NetV),q=m-i∧i≤m∧t 1=.int .i64 m∧t 2=.pointer (some ⟨H.length,0,some 0⟩)∧t 4=.pointer (some ⟨H.length+1,0,some 0⟩)∧t 5=.int .i64 i∧J[H.length]? = some ⟨netCells w (runN x i),0,59⟩∧dNet.Ow J w (runN x i)∧(dNet.ids w).Nodup∧(∀i∈dNet.ids w,i∈dNet.ids v∨H.length+2≤i)∧
  J[H.length+1]? = some ⟨[.int .i64 0,.int .i64 0,.slice none 0 0,.slice none 0 0,.slice none 0 0,.slice none 0 0,.slice none 0 0,.slice none 0 0,.slice none 0 0,.slice none 0 0,.int .i64 0],0,59⟩∧Chg H J []) ?_ (n:=m)
  ⟨0,v,rfl,by omega,by simp,by simp,by simp,by simp,b1,Dt.chg (T:=dNet) o cG (by simp),nd,fun i hi=>.inl hi,bR,cG⟩
 rintro q t J ⟨i,w,rfl,hi,t1,t2,t4,t5,bJ,oJ,dJ,mJ,bRJ,cJ⟩ ih
 have oneJ:=dNet_one oJ
 have hdis:∀k∈dNet.ids w,k≠H.length∧k≠H.length+1:=fun k hk=>by
  rcases mJ k hk with h|h
  ·have:=hlt k h;exact ⟨by omega,by omega⟩
  ·exact ⟨by omega,by omega⟩
 -- what is handed back
 have fin:∀(y:NetD) (J:Heap),Chg H J []→dNet.Ow J w y→RunPost H v y (dNet.val w y) (J.set (H.length+1) ⟨netCells w y,0,59⟩):=fun y J cJ oJ=>
  ⟨w,rfl,Dt.chg (T:=dNet) oJ (chg_set _ _) (fun k hk hh=>by have:=(hdis k hk).2;simp at hh;omega),dJ,fun k hk=>(mJ k hk).imp _root_.id (fun h=>by omega),cJ.trans' (chg_set _ _) (fun k hk=>.inr (by simp at hk;omega))⟩
 simp [t1,t2,t4,t5]
 refine wp_dec ?_ ?_<;>intro g
 ·have hi':i<m:=by omega
  obtain ⟨r1,r2,r3,r4⟩:=ra i (by omega)
  have lJ:=box_lt bJ
  have idl:=fun F=>l20Idle_d (frz:=F) oJ
  simp only [dNet_val] at idl
  have bJ':=bJ
  unfold netCells at bJ'
  simp [t1,t2,t4,t5,VM.look,bJ',oneJ,idl]
  by_cases g1:idle (runN x i)
  ·have hrun:runN x m=older (runN x i) ((m-i:Nat):Int):=by
    have h1:=run_add x i (m-i)
    rw [show i+(m-i)=m by omega] at h1
    rw [h1,idle_run g1]
   have e1:=@w6 ((runN x i).2.2.2.2.2.2.2+(m:Int)) (by omega)
   have e2:∀[Inhabited Unit],IntKind.i64.wrap ((runN x i).2.2.2.2.2.2.2+(m:Int)-(i:Int))=(runN x i).2.2.2.2.2.2.2+((m-i:Nat):Int):=by intro _;rw [w64 (by omega) (by omega)];omega
   obtain ⟨T,hT⟩:∃T,T=(runN x i).2.2.2.2.2.2.2+((m-i:Nat):Int):=⟨_,rfl⟩
   rw [← hT] at e2
   have hod:older (runN x i) ((m-i:Nat):Int)=((runN x i).1,(runN x i).2.1,(runN x i).2.2.1,(runN x i).2.2.2.1,(runN x i).2.2.2.2.1,(runN x i).2.2.2.2.2.1,(runN x i).2.2.2.2.2.2.1,T):=by unfold older;rw [hT]
   rw [hrun,hod]
   generalize runN x i=z at *
   have gN:=set_get (r':=⟨netCells w (z.1,z.2.1,z.2.2.1,z.2.2.2.1,z.2.2.2.2.1,z.2.2.2.2.2.1,z.2.2.2.2.2.2.1,T),0,59⟩) bJ
   have cN:Chg J (J.set H.length ⟨netCells w (z.1,z.2.1,z.2.2.1,z.2.2.2.1,z.2.2.2.2.1,z.2.2.2.2.2.1,z.2.2.2.2.2.2.1,T),0,59⟩) [H.length]:=chg_set _ _
   have bR3:=box_chg bRJ cN (by simp)
   have gR:=set_get (r':=⟨netCells w (z.1,z.2.1,z.2.2.1,z.2.2.2.1,z.2.2.2.2.1,z.2.2.2.2.2.1,z.2.2.2.2.2.2.1,T),0,59⟩) bR3
   have hM:=fin (z.1,z.2.1,z.2.2.1,z.2.2.2.1,z.2.2.2.2.1,z.2.2.2.2.2.1,z.2.2.2.2.2.2.1,T) _ (cJ.trans' cN (fun k hk=>.inr (by simp at hk;omega))) (Dt.chg (T:=dNet) oJ cN (fun k hk hh=>by have:=(hdis k hk).1;simp at hh;omega))
   unfold netCells at gN bR3 gR hM
   simp only at gN bR3 gR hM
   simp [t1,t2,t4,t5,VM.look,bJ',oneJ,g1,e1,e2,gN,bR3,gR,hF1]
   simpa [dNet_val] using hM
  have st:=l19Step_d (frz:=H.length) oJ r1 r2 r3 (by rw [r4];unfold inR;omega)
  simp only [dNet_val] at st
  simp [t1,t2,t4,t5,VM.look,bJ',oneJ,g1]
  refine wp_thn st ?_
  rintro _ J2 ⟨w2,rfl,s2,s5,s4,s3⟩
  have one2:=dNet_one s2
  have bJ2:=box_chg bJ s5 (by simp)
  have bRJ2:=box_chg bRJ s5 (by simp)
  have hg:runN x (i+1)=stepN (runN x i):=rfl
  have gN:=set_get (r':=⟨netCells w2 (stepN (runN x i)),0,59⟩) bJ2
  have cN:Chg J2 (J2.set H.length ⟨netCells w2 (stepN (runN x i)),0,59⟩) [H.length]:=chg_set _ _
  have hF2:H.length≤H.length:=Nat.le_refl _
  have l2:=s5.1
  have l3:=box_lt bRJ
  have bJ2':=bJ2
  unfold netCells at bJ2'
  simp [dNet_val,t1,t2,t4,t5,VM.look,bJ2',one2]
  refine ih (m-(i+1)) _ _ ⟨i+1,w2,rfl,by omega,by simp [t1],by simp [t2],by simp [t4],?_,gN,Dt.chg (T:=dNet) s2 cN (fun k hk hh=>by have:=s4 k hk;simp at hh;omega),s3,fun k hk=>.inr (by have:=s4 k hk;omega),box_chg bRJ2 cN (by simp),(cJ.trans s5).trans' cN (fun k hk=>.inr (by simp at hk;omega))⟩ (by omega)
  simp [t5];rw [w64 (by omega) (by omega)]
 ·have:i=m:=by omega
  subst this
  have gR:=set_get (r':=⟨netCells w (runN x i),0,59⟩) bRJ
  have hM:=fin (runN x i) J cJ oJ
  unfold netCells at bJ gR hM
  simp [t1,t2,t4,t5,VM.look,bJ,bRJ,gR,oneJ,hF1]
  simpa [dNet_val] using hM
end Go.Proofs.Ytcigpclbhfkgaaa.V
set_option linter.all false
namespace Go.Proofs.Ytcigpclbhfkgaaa.V
open Go Go.VM Go.Proofs
set_option maxRecDepth 10000
def key (g:GrD):Nat×Nat:=(g.1,g.2.1)
theorem grTo_keys (x:NetD) (a:Nat):∀p,p≤5→((grTo x a p).1.map key).Nodup
 | 0,_=>by simp [grTo]
 | p+1,hp=>by
  have ih:=grTo_keys x a p (by omega)
  obtain ⟨_,h2,_,_⟩:=grTo_ok x a p (by omega)
  rw [grTo_succ]
  unfold grStep
  generalize grTo x a p=st at *
  split
  ·rw [List.map_append]
   refine List.nodup_append.2 ⟨ih,by simp,fun y hy z hz e=>?_⟩
   obtain ⟨g,hg,rfl⟩:=List.mem_map.1 hy
   simp at hz
   have:=(h2 g hg).2.1
   rw [hz] at e
   unfold key at e
   simp only [Prod.mk.injEq] at e
   omega
  ·exact ih
theorem allTo_keys (x:NetD):∀n,((allTo x n).map key).Nodup
 | 0=>by simp [allTo]
 | n+1=>by
  rw [allTo_succ,List.map_append]
  refine List.nodup_append.2 ⟨allTo_keys x n,grTo_keys x n 5 (by omega),fun y hy z hz e=>?_⟩
  obtain ⟨g,hg,rfl⟩:=List.mem_map.1 hy
  obtain ⟨g',hg',rfl⟩:=List.mem_map.1 hz
  have h1:=((allTo_ok x n).1 g hg).1
  have h2:=((grTo_ok x n 5 (by omega)).at' g' hg').1
  unfold key at e
  simp only [Prod.mk.injEq] at e
  omega
theorem tgt_inj {x:NetD} {a p c a' p' c':Nat} (h:has x.1.1 x.1.2.1 x.1.2.2 (4*(a:Int)+p)) (h':has x.1.1 x.1.2.1 x.1.2.2 (4*(a':Int)+p')) (hp:p<4) (hp':p'<4) (hc:c<2) (hc':c'<2)
 (ha:(a:Int)<cnt x.1.1 x.1.2.1) (ha':(a':Int)<cnt x.1.1 x.1.2.1) (e:tgt x a p c=tgt x a' p' c'):a=a'∧p=p':=by
 obtain ⟨u1,_,_⟩:=tgt_val (c:=c) h hp hc
 obtain ⟨v1,_,_⟩:=tgt_val (c:=c') h' hp' hc'
 obtain ⟨⟨n1,n2⟩,o1,o2⟩:=tgt_ok (c:=c) h hp
 obtain ⟨⟨m1,m2⟩,q1,q2⟩:=tgt_ok (c:=c') h' hp'
 obtain ⟨g1,_,_,_,g5⟩:=geo (w:=x.1.1) (h:=x.1.2.1) (a:=a) hp ⟨by omega,ha⟩ n1
 obtain ⟨k1,_,_,_,k5⟩:=geo (w:=x.1.1) (h:=x.1.2.1) (a:=a') hp' ⟨by omega,ha'⟩ m1
 have e1:next x.1.1 x.1.2.1 a p=next x.1.1 x.1.2.1 a' p':=by omega
 have e2:opp (p:Int)=opp (p':Int):=by omega
 rw [e1,e2] at g1
 rw [e2] at g5
 constructor<;>omega
theorem allN_tgt (x:NetD):(allN x).Pairwise fun g g'=>g.2.1≠4→g'.2.1≠4→tgt x g.1 g.2.1 (g.2.2%2)≠tgt x g'.1 g'.2.1 (g'.2.2%2):=by
 have hk:(allN x).Pairwise fun g g'=>key g≠key g':=by
  have:=allTo_keys x (cnt x.1.1 x.1.2.1).toNat
  exact List.pairwise_map.1 this
 refine hk.imp_of_mem fun {g g'} hg hg' hne h4 h4' e=>hne ?_
 obtain ⟨a1,a2,a3,a4⟩:=allN_at hg
 obtain ⟨b1,b2,b3,b4⟩:=allN_at hg'
 obtain ⟨hh,_⟩:=a4.2.1.resolve_left h4
 obtain ⟨hh',_⟩:=b4.2.1.resolve_left h4'
 obtain ⟨e1,e2⟩:=tgt_inj hh hh' (by omega) (by omega) (by omega) (by omega) a1 b1 e
 unfold key;rw [e1,e2]
def gets (x:NetD) (M:List GrD) (j:Nat):Prop:=∃g∈M,g.2.1≠4∧tgt x g.1 g.2.1 (g.2.2%2)=j
theorem push_at (x:NetD) (s:SSD) (g:GrD) (j:Nat):((pushS x s g).getD j []).length≤(s.getD j []).length+1∧(¬(g.2.1≠4∧tgt x g.1 g.2.1 (g.2.2%2)=j)→(pushS x s g).getD j []=s.getD j []):=by
 unfold pushS
 split
 ·exact ⟨by omega,fun _=>rfl⟩
 ·rename_i h4
  by_cases e:tgt x g.1 g.2.1 (g.2.2%2)=j
  ·refine ⟨?_,fun k=>absurd ⟨h4,e⟩ k⟩
   rw [← e]
   by_cases hl:tgt x g.1 g.2.1 (g.2.2%2)<s.length
   ·rw [upd_eq _ hl];simp
   ·simp [upd,List.set_eq_of_length_le (Nat.le_of_not_lt hl)]
  ·rw [upd_ne _ e];exact ⟨by omega,fun _=>rfl⟩
theorem pushes_len (x:NetD):∀(M:List GrD) (s:SSD) (j:Nat),(M.Pairwise fun g g'=>g.2.1≠4→g'.2.1≠4→tgt x g.1 g.2.1 (g.2.2%2)≠tgt x g'.1 g'.2.1 (g'.2.2%2))→
 ((M.foldl (pushS x) s).getD j []).length≤(s.getD j []).length+1∧(¬gets x M j→(M.foldl (pushS x) s).getD j []=s.getD j [])
 | [],s,j,_=>⟨by simp,fun _=>rfl⟩
 | g::M,s,j,h=>by
  obtain ⟨h1,h2⟩:=List.pairwise_cons.1 h
  obtain ⟨i1,i2⟩:=pushes_len x M (pushS x s g) j h2
  obtain ⟨p1,p2⟩:=push_at x s g j
  rw [List.foldl_cons]
  by_cases hg:g.2.1≠4∧tgt x g.1 g.2.1 (g.2.2%2)=j
  ·have hn:¬gets x M j:=fun ⟨g',hg',k1,k2⟩=>h1 g' hg' hg.1 k1 (hg.2.trans k2.symm)
   rw [i2 hn]
   exact ⟨p1,fun k=>absurd ⟨g,List.mem_cons_self ..,hg⟩ k⟩
  ·rw [p2 hg] at i1 i2
   exact ⟨i1,fun k=>i2 fun ⟨g',hg',kk⟩=>k ⟨g',List.mem_cons_of_mem _ hg',kk⟩⟩
theorem pops_le (x:NetD):∀(M:List GrD) (s:SSD) (j:Nat),((M.foldl popS s).getD j []).length≤(s.getD j []).length
 | [],s,j=>Nat.le_refl _
 | g::M,s,j=>by
  refine Nat.le_trans (pops_le x M (popS s g) j) ?_
  unfold popS
  by_cases e:frm g=j
  ·rw [← e]
   by_cases hl:frm g<s.length
   ·rw [upd_eq _ hl,List.length_drop];omega
   ·simp [upd,List.set_eq_of_length_le (Nat.le_of_not_lt hl)]
  ·rw [upd_ne _ e];exact Nat.le_refl _
theorem ents_len (x:NetD):∀(E:List Nat) (s:SSD) (j:Nat),(E.Pairwise fun k k'=>entAt x k≠entAt x k')→
 ((E.foldl (entS x) s).getD j []).length≤(s.getD j []).length+1∧((¬∃k∈E,entAt x k=j)→(E.foldl (entS x) s).getD j []=s.getD j [])
 | [],s,j,_=>⟨by simp,fun _=>rfl⟩
 | k::E,s,j,h=>by
  obtain ⟨h1,h2⟩:=List.pairwise_cons.1 h
  obtain ⟨i1,i2⟩:=ents_len x E (entS x s k) j h2
  rw [List.foldl_cons]
  by_cases hk:entAt x k=j
  ·have hn:¬∃k'∈E,entAt x k'=j:=fun ⟨k',hk',e⟩=>h1 k' hk' (hk.trans e.symm)
   rw [i2 hn]
   refine ⟨?_,fun h=>absurd ⟨k,List.mem_cons_self ..,hk⟩ h⟩
   unfold entS
   rw [← hk]
   by_cases hl:entAt x k<s.length
   ·rw [upd_eq _ hl];simp
   ·simp [upd,List.set_eq_of_length_le (Nat.le_of_not_lt hl)]
  ·have e:(entS x s k).getD j []=s.getD j []:=by unfold entS;exact upd_ne _ hk
   rw [e] at i1 i2
   exact ⟨i1,fun h=>i2 fun ⟨k',hk',kk⟩=>h ⟨k',List.mem_cons_of_mem _ hk',kk⟩⟩
theorem enterN_ent {x:NetD} (h:runOk x):(enterN x).Pairwise fun k k'=>entAt x k≠entAt x k':=by
 have:=enterN_nd x
 refine List.Pairwise.imp_of_mem (fun {k k'} hk hk' hne e=>hne ?_) this
 obtain ⟨_,a1,_⟩:=enterN_at hk
 obtain ⟨_,b1,_⟩:=enterN_at hk'
 obtain ⟨⟨_,c1⟩,e1,_⟩:=ent_ok h a1
 obtain ⟨⟨_,c2⟩,e2,_⟩:=ent_ok h b1
 unfold inR at c1 c2
 omega
theorem step_room {x:NetD} (h:runOk x) (hb:∀j,(x.2.2.1.getD j []).length≤3) (j:Nat):((stepN x).2.2.1.getD j []).length≤3:=by
 show (((enterN x).foldl (entS x) ((allN x).foldl (pushS x) ((allN x).foldl popS x.2.2.1))).getD j []).length≤3
 obtain ⟨e1,e2⟩:=ents_len x (enterN x) ((allN x).foldl (pushS x) ((allN x).foldl popS x.2.2.1)) j (enterN_ent h)
 obtain ⟨p1,p2⟩:=pushes_len x (allN x) ((allN x).foldl popS x.2.2.1) j (allN_tgt x)
 have q:=pops_le x (allN x) x.2.2.1 j
 have b:=hb j
 by_cases hg:gets x (allN x) j
 ·obtain ⟨g,hg,h4,ht⟩:=hg
  obtain ⟨a1,a2,a3,a4⟩:=allN_at hg
  obtain ⟨hh,hr⟩:=a4.2.1.resolve_left h4
  rw [ht] at hr
  obtain ⟨t1,t2,t3⟩:=tgt_val (c:=g.2.2%2) hh (by omega) (by omega)
  obtain ⟨⟨n1,n2⟩,o1,o2⟩:=tgt_ok (c:=g.2.2%2) hh (by omega)
  rw [ht] at t1
  have hne:¬∃k∈enterN x,entAt x k=j:=fun ⟨k,hk,e⟩=>by
   obtain ⟨_,b1,_⟩:=enterN_at hk
   obtain ⟨⟨_,c1⟩,e3,_⟩:=ent_ok h b1
   unfold inR at c1
   omega
  rw [e2 hne];omega
 ·rw [p2 hg] at e1 e2
  by_cases hk:∃k∈enterN x,entAt x k=j
  ·obtain ⟨k,hk,e⟩:=hk
   have:=(enterN_at hk).2.2
   rw [e] at this
   omega
  ·rw [e2 hk];omega
theorem step_netOk {x:NetD} (h:netOk x) (ht:x.2.2.2.2.2.2.2<1000000):netOk (stepN x):=by
 have hr:=netOk_runOk h
 obtain ⟨r1,r2,r3,r4,r5⟩:=step_runOk hr
 obtain ⟨h1,h2,h3,h4,h5,h6,h7⟩:=h
 have hb:∀j,(x.2.2.1.getD j []).length≤3:=fun j=>by
  by_cases hl:j<x.2.2.1.length
  ·exact (h3 j hl).1
  ·simp [List.getD_eq_getElem?_getD,List.getElem?_eq_none (Nat.le_of_not_lt hl)]
 refine ⟨r1,r2,fun i hi=>⟨step_room hr hb i,fun f hf=>(r3 i f hf).1,fun f hf=>(r3 i f hf).2⟩,fun l hl=>⟨?_,fun f hf=>?_⟩,fun o ho=>?_,r5,?_⟩
 ·exact srcs_allL (L:=60) (enterN x) x.2.2.2.2.2.1 (fun l hl=>(h4 l hl).1) l hl
 ·obtain ⟨i,hi,rfl⟩:=List.getElem_of_mem hl
  exact r4 i f (by rw [List.getD_eq_getElem?_getD,List.getElem?_eq_getElem hi];exact hf)
 ·refine fold_inv (fun s:List Int=>∀o∈s,inR (-1) o 4) (allN x) x.2.2.2.1 h5 (fun s g hg hs o ho=>?_) o ho
  rcases List.mem_or_eq_of_mem_set ho with ho|rfl
  ·exact hs o ho
  ·have:=(allN_at hg).2.2.1
   unfold inR;split<;>omega
 ·unfold inR at h7 ⊢
  show 0≤x.2.2.2.2.2.2.2+1∧x.2.2.2.2.2.2.2+1≤1000000
  omega
theorem run_netOk {x:NetD} (h:netOk x):∀k:Nat,x.2.2.2.2.2.2.2+k≤1000000→netOk (runN x k)
 | 0,_=>h
 | k+1,hk=>step_netOk (run_netOk h k (by omega)) (by rw [run_time];omega)
def still (x:NetD):Prop:=allN x=[]∧enterN x=[]
end Go.Proofs.Ytcigpclbhfkgaaa.V
set_option linter.all false
namespace Go.Proofs.Ytcigpclbhfkgaaa.V
open Go Go.VM Go.Proofs
set_option maxRecDepth 10000
variable {frz:Nat} {H:Heap}
def sendP (x:NetD) (p:PkD):NetD:=if netOk x∧sendOk x p then sendNet x p else x
theorem sSendPacket_d {v:NetV} {x:NetD} {p:PkD} (o:dNet.Ow H v x) :
 wp (vcall C frz 183 [dNet.val v x,pkV p] H) (Made2 dNet H (sendP x p) (decide (netOk x∧sendOk x p))):=by
 have ones:=dNet_one o
 have nk:=fun F K (c:Chg H K [])=>sNetOk_d (frz:=F) (H:=K) (v:=v) (x:=x) (Dt.chg (T:=dNet) o c (by simp))
 have pk:=fun F K=>sPacketOk_c (frz:=F) (H:=K) x.1.1 x.1.2.1 p
 have ecopy:=fun K (c:Chg H K [])=>l15Copy_d (frz:=H.length) (H:=K) (v:=v) (x:=x) (Dt.chg (T:=dNet) o c (by simp))
 have esend:=fun K (c:Chg H K []) m hm hml hs=>sL16Send_d (frz:=H.length) (H:=K) (v:=v) (x:=x) (p:=p) (m:=m) (Dt.chg (T:=dNet) o c (by simp)) hm hml hs
 obtain ⟨q1,q2,q3,q4,q5⟩:=p
 unfold pkV at pk esend ⊢
 simp only at pk esend
 simp only [dNet_val] at nk ecopy esend ⊢
 rw [vcall_go (fn:=Try.f183) Try.func183 rfl (by kernel_rfl) rfl]
 obtain ⟨G,hG⟩:∃G,G=H++[⟨[.int .i64 x.1.1,.int .i64 x.1.2.1,v.1,v.2.1.1,v.2.1.2,v.2.2.1.1,v.2.2.2.1,v.2.2.2.2.1,v.2.2.2.2.2.1.1,v.2.2.2.2.2.2.1.1,.int .i64 x.2.2.2.2.2.2.2],0,59⟩,⟨[.int .i64 q1,.int .i64 q2,.int .i64 q3,.int .i64 q4,.int .i64 q5],0,44⟩,⟨[.int .i64 0,.int .i64 0,.slice none 0 0,.slice none 0 0,.slice none 0 0,.slice none 0 0,.slice none 0 0,.slice none 0 0,.slice none 0 0,.slice none 0 0,.int .i64 0],0,59⟩]:=⟨_,rfl⟩
 have cG:Chg H G []:=by rw [hG];exact Chg.app _
 have b0:G[H.length]? = some ⟨[.int .i64 x.1.1,.int .i64 x.1.2.1,v.1,v.2.1.1,v.2.1.2,v.2.2.1.1,v.2.2.2.1,v.2.2.2.2.1,v.2.2.2.2.2.1.1,v.2.2.2.2.2.2.1.1,.int .i64 x.2.2.2.2.2.2.2],0,59⟩:=by rw [hG];simp
 have b1:G[H.length+1]? = some ⟨[.int .i64 q1,.int .i64 q2,.int .i64 q3,.int .i64 q4,.int .i64 q5],0,44⟩:=by rw [hG];simp
 have bR:G[H.length+2]? = some ⟨[.int .i64 0,.int .i64 0,.slice none 0 0,.slice none 0 0,.slice none 0 0,.slice none 0 0,.slice none 0 0,.slice none 0 0,.slice none 0 0,.slice none 0 0,.int .i64 0],0,59⟩:=by rw [hG];simp
 have lG:G.length=H.length+3:=by rw [hG];simp
 simp [ones]
 rw [← hG]
 clear hG
 rw [go_draw (h:=by kernel_rfl)]
 have hF:H.length≤H.length+2:=by omega
 have key:∀(y:NetD) (n:NetV) (K:Heap) (ok:Bool),dNet.Ow K n y→Chg G K []→(∀i∈dNet.ids n,G.length≤i)→(dNet.ids n).Nodup→sendP x (q1,q2,q3,q4,q5)=y→decide (netOk x∧sendOk x (q1,q2,q3,q4,q5))=ok→
  K[H.length+2]? = some ⟨[.int .i64 0,.int .i64 0,.slice none 0 0,.slice none 0 0,.slice none 0 0,.slice none 0 0,.slice none 0 0,.slice none 0 0,.slice none 0 0,.slice none 0 0,.int .i64 0],0,59⟩∧Made2 dNet H (sendP x (q1,q2,q3,q4,q5)) (decide (netOk x∧sendOk x (q1,q2,q3,q4,q5))) (.tuple #[dNet.val n y,.bool ok]) (K.set (H.length+2) ⟨[.int .i64 y.1.1,.int .i64 y.1.2.1,n.1,n.2.1.1,n.2.1.2,n.2.2.1.1,n.2.2.2.1,n.2.2.2.2.1,n.2.2.2.2.2.1.1,n.2.2.2.2.2.2.1.1,.int .i64 y.2.2.2.2.2.2.2],0,59⟩):=by
  intro y n K ok on ck mn dn e1 e2
  have bK:=box_chg bR ck (by simp)
  refine ⟨bK,dNet.val n y,by rw [e2],n,by rw [e1],?_,?_,fun i hi=>by have:=mn i hi;omega,dn⟩
  ·rw [e1];exact Dt.chg (T:=dNet) on (chg_set _ _) (fun i hi hh=>by have:=mn i hi;simp at hh;omega)
  ·exact (cG.trans ck).trans' (chg_set _ _) (fun i hi=>.inr (by simp at hi;omega))
 have fail:¬(netOk x∧sendOk x (q1,q2,q3,q4,q5))→∀r K,dNet.Made G x r K→∃n,r=netVal n x∧dNet.Ow K n x∧K[H.length+2]? = some ⟨[.int .i64 0,.int .i64 0,.slice none 0 0,.slice none 0 0,.slice none 0 0,.slice none 0 0,.slice none 0 0,.slice none 0 0,.slice none 0 0,.slice none 0 0,.int .i64 0],0,59⟩∧Made2 dNet H (sendP x (q1,q2,q3,q4,q5)) (decide (netOk x∧sendOk x (q1,q2,q3,q4,q5))) (.tuple #[dNet.val n x,.bool false]) (K.set (H.length+2) ⟨[.int .i64 x.1.1,.int .i64 x.1.2.1,n.1,n.2.1.1,n.2.1.2,n.2.2.1.1,n.2.2.2.1,n.2.2.2.2.1,n.2.2.2.2.2.1.1,n.2.2.2.2.2.2.1.1,.int .i64 x.2.2.2.2.2.2.2],0,59⟩):=by
  intro hb r K hm
  obtain ⟨n,rfl,on,cn,mn,dn⟩:=hm
  obtain ⟨k1,k2⟩:=key x n K false on cn mn dn (if_neg hb) (decide_eq_false hb)
  exact ⟨n,rfl,on,k1,k2⟩
 have ff:¬(netOk x∧sendOk x (q1,q2,q3,q4,q5))→wp (vcall C H.length 78 [netVal v x] G) (fun r K=>∃n,r=netVal n x∧dNet.Ow K n x∧K[H.length+2]? = some ⟨[.int .i64 0,.int .i64 0,.slice none 0 0,.slice none 0 0,.slice none 0 0,.slice none 0 0,.slice none 0 0,.slice none 0 0,.slice none 0 0,.slice none 0 0,.int .i64 0],0,59⟩∧Made2 dNet H (sendP x (q1,q2,q3,q4,q5)) (decide (netOk x∧sendOk x (q1,q2,q3,q4,q5))) (.tuple #[dNet.val n x,.bool false]) (K.set (H.length+2) ⟨[.int .i64 x.1.1,.int .i64 x.1.2.1,n.1,n.2.1.1,n.2.1.2,n.2.2.1.1,n.2.2.2.1,n.2.2.2.2.1,n.2.2.2.2.2.1.1,n.2.2.2.2.2.2.1.1,.int .i64 x.2.2.2.2.2.2.2],0,59⟩)):=fun hb=>(ecopy G cG).mono (fun r K hm=>fail hb r K hm)
 unfold netVal at ff
 have nk':=fun F=>nk F G cG
 have pk':=fun F=>pk F G
 by_cases g0:netOk x
 rotate_left
 ·have hb:¬(netOk x∧sendOk x (q1,q2,q3,q4,q5)):=fun k=>g0 k.1
  simp [VM.look,b0,b1,ones,nk',g0]
  refine wp_thn (ff hb) ?_
  rintro r K ⟨n,rfl,on,bK,hM⟩
  have qn:=dNet_one on
  have gR:=set_get (r':=⟨[.int .i64 x.1.1,.int .i64 x.1.2.1,n.1,n.2.1.1,n.2.1.2,n.2.2.1.1,n.2.2.2.1,n.2.2.2.2.1,n.2.2.2.2.2.1.1,n.2.2.2.2.2.2.1.1,.int .i64 x.2.2.2.2.2.2.2],0,59⟩) bK
  simp [netVal,dNet_val,VM.look,bK,qn,gR,hF]
  simpa [g0,dNet_val] using hM
 by_cases g1:packetOk x.1.1 x.1.2.1 (q1,q2,q3,q4,q5)
 rotate_left
 ·have hb:¬(netOk x∧sendOk x (q1,q2,q3,q4,q5)):=fun k=>g1 k.2.1
  have hb2:¬sendOk x (q1,q2,q3,q4,q5):=fun k=>g1 k.1
  simp [VM.look,b0,b1,ones,nk',pk',g0,g1]
  refine wp_thn (ff hb) ?_
  rintro r K ⟨n,rfl,on,bK,hM⟩
  have qn:=dNet_one on
  have gR:=set_get (r':=⟨[.int .i64 x.1.1,.int .i64 x.1.2.1,n.1,n.2.1.1,n.2.1.2,n.2.2.1.1,n.2.2.2.1,n.2.2.2.2.1,n.2.2.2.2.2.1.1,n.2.2.2.2.2.2.1.1,.int .i64 x.2.2.2.2.2.2.2],0,59⟩) bK
  simp [netVal,dNet_val,VM.look,bK,qn,gR,hF]
  simpa [g0,hb2,dNet_val] using hM
 have hto:=g1.2.1
 unfold isN at hto
 simp only at hto
 have hN:=g0.2.1.2.2.2.1
 obtain ⟨m,rfl⟩:∃m:Nat,q2=m:=⟨q2.toNat,by omega⟩
 have hml:m<x.2.2.2.2.2.1.length:=by omega
 have hgd:x.2.2.2.2.2.1.getD m []=x.2.2.2.2.2.1[m]:=by simp [List.getD_eq_getElem?_getD,List.getElem?_eq_getElem hml]
 have hsm:=(g0.2.2.2.1 _ (List.getElem_mem hml)).1
 have hln:=g1.2.2.2.2.2
 unfold inR at hln
 simp only at hln
 obtain ⟨o1,o2,o3,o4,o5,o6,o7,_⟩:=Dt.chg (T:=dNet) o cG (by simp)
 obtain ⟨a,a1,a2,a3,a4⟩:=RdL_at o6.1.rd (ty:=57) (e:=123) (by simp) (by simp) hml
 have la:=a4.len (P:=Try.prog) (ty:=123) (by simp)
 have e1:=@w6 ((x.2.2.2.2.2.1[m].length:Int)+q5) (by omega)
 simp [VM.look,b0,b1,ones,nk',pk',g0,g1,a2,a3,la,e1]
 refine wp_dec ?_ ?_<;>intro g2
 ·have hb2:¬sendOk x (q1,(m:Int),q3,q4,q5):=fun k=>by have:=k.2;simp only [Int.toNat_natCast,hgd] at this;omega
  have hb:¬(netOk x∧sendOk x (q1,(m:Int),q3,q4,q5)):=fun k=>hb2 k.2
  simp [VM.look,b0,ones]
  refine wp_thn (ff hb) ?_
  rintro r K ⟨n,rfl,on,bK,hM⟩
  have qn:=dNet_one on
  have gR:=set_get (r':=⟨[.int .i64 x.1.1,.int .i64 x.1.2.1,n.1,n.2.1.1,n.2.1.2,n.2.2.1.1,n.2.2.2.1,n.2.2.2.2.1,n.2.2.2.2.2.1.1,n.2.2.2.2.2.2.1.1,.int .i64 x.2.2.2.2.2.2.2],0,59⟩) bK
  simp [netVal,dNet_val,VM.look,bK,qn,gR,hF]
  simpa [g0,hb2,dNet_val] using hM
 have hso:sendOk x (q1,(m:Int),q3,q4,q5):=⟨g1,by simp only [Int.toNat_natCast,hgd];omega⟩
 simp [VM.look,b0,b1,ones]
 refine wp_thn (esend G cG m rfl hml hsm) ?_
 rintro _ K ⟨n,rfl,on,cn,mn,dn⟩
 obtain ⟨bK,hM⟩:=key _ n K true on cn mn dn (if_pos ⟨g0,hso⟩) (decide_eq_true ⟨g0,hso⟩)
 generalize sendNet x (q1,(m:Int),q3,q4,q5)=y at *
 have qn:=dNet_one on
 have gR:=set_get (r':=⟨[.int .i64 y.1.1,.int .i64 y.1.2.1,n.1,n.2.1.1,n.2.1.2,n.2.2.1.1,n.2.2.2.1,n.2.2.2.2.1,n.2.2.2.2.2.1.1,n.2.2.2.2.2.2.1.1,.int .i64 y.2.2.2.2.2.2.2],0,59⟩) bK
 simp [netVal,dNet_val,VM.look,bK,qn,gR,hF]
 simpa [g0,hso,dNet_val] using hM
theorem cseq_flF (x y:FlitD):cseq [0,0,0,1,1] (flF.f x) (flF.f y)=some (decide (x=y)):=by
 obtain ⟨p,t,c,h,l⟩:=x
 obtain ⟨p',t',c',h',l'⟩:=y
 simp only [flF_f,cseq,ceq,if_true]
 congr 1
 rw [Bool.eq_iff_iff];simp [and_assoc]
theorem equalI_c (a b:Value) (xs ys:List Int) (ha:Rd Fl.int H a xs) (hb:Rd Fl.int H b ys) (hl:xs.length≤1073741824) :
 vcall C frz 104 [a,b] H=some (.bool (decide (xs=ys)),H):=by
 refine wp.exact (by simp) ?_ rfl
 rw [vcall_go (fn:=Try.f104) Try.func104 rfl (by kernel_rfl) rfl]
 generalize hY:decide (xs=ys)=Y
 have la:=ha.len (P:=Try.prog) (ty:=24) (by simp)
 have lb:=hb.len (P:=Try.prog) (ty:=24) (by simp)
 have no:¬xs=ys→Y=false:=fun hh=>by rw [← hY];exact decide_eq_false hh
 simp [la,lb]
 refine wp_dec ?_ ?_<;>intro h0
 ·have h0':xs.length=ys.length:=by omega
  simp [la]
  refine wp_inv (fun n t H'=>∃i:Nat,n=xs.length-i∧i≤xs.length∧t 0=a∧t 1=b∧t 12=.int .i64 xs.length∧t 13=.int .i64 i∧H'=H∧xs.take i=ys.take i) ?_ (n:=xs.length) ⟨0,rfl,by omega,by simp,by simp,by simp,by simp,rfl,by simp⟩
  rintro n t H' ⟨i,rfl,hi,t0,t1,t12,t13,rfl,h4⟩ ih
  simp [t0,t1,t12,t13,la]
  refine wp_dec ?_ ?_<;>intro h
  ·have hx:i<xs.length:=by omega
   have hy:i<ys.length:=by omega
   have q1:=ha.idx (P:=Try.prog) (ty:=24) (e:=3) (by simp) (i:=(i:Int)) (by omega) (by omega)
   have q2:=ha.cell1 (P:=Try.prog) (e:=3) rfl (by simp) hx
   have q3:=hb.idx (P:=Try.prog) (ty:=24) (e:=3) (by simp) (i:=(i:Int)) (by omega) (by omega)
   have q4:=hb.cell1 (P:=Try.prog) (e:=3) rfl (by simp) hy
   simp only [Int.toNat_natCast,Fl.int_n,Nat.mul_one] at q1 q2 q3 q4
   simp at q2 q4
   simp [t0,t1,t12,t13]
   rw [go_draw (h:=by kernel_rfl)]
   simp [t0,t1,t12,t13,q1,q2,q3,q4]
   refine wp_dec ?_ ?_<;>intro h5
   ·simp [t0,t1,t12,t13]
    refine ih (xs.length-(i+1)) _ _ ⟨i+1,rfl,by omega,by simp [t0],by simp [t1],by simp [t12],?_,rfl,?_⟩ (by omega)
    ·simp;rw [w64 (by omega) (by omega)]
    ·rw [List.take_succ_eq_append_getElem hx,List.take_succ_eq_append_getElem hy,h4,h5]
   ·simp [t0,t1,t12,t13]
    exact no (fun hh=>h5 (by subst hh;rfl))
  ·have:i=xs.length:=by omega
   subst this
   rw [List.take_length,List.take_of_length_le (by omega)] at h4
   simp [t0,t1,t12,t13]
   rw [← hY];exact decide_eq_true h4
 ·simp
  exact no (fun hh=>h0 (by rw [hh]))
theorem equalF_c (a b:Value) (xs ys:List FlitD) (ha:Rd flF H a xs) (hb:Rd flF H b ys) (hl:xs.length≤1073741824) :
 vcall C frz 188 [a,b] H=some (.bool (decide (xs=ys)),H):=by
 refine wp.exact (by simp) ?_ rfl
 rw [vcall_go (fn:=Try.f188) Try.func188 rfl (by kernel_rfl) rfl]
 generalize hY:decide (xs=ys)=Y
 have la:=ha.len (P:=Try.prog) (ty:=123) (by simp)
 have lb:=hb.len (P:=Try.prog) (ty:=123) (by simp)
 have no:¬xs=ys→Y=false:=fun hh=>by rw [← hY];exact decide_eq_false hh
 simp [la,lb]
 refine wp_dec ?_ ?_<;>intro h0
 ·have h0':xs.length=ys.length:=by omega
  simp [la]
  refine wp_inv (fun n t H'=>∃i:Nat,n=xs.length-i∧i≤xs.length∧t 0=a∧t 1=b∧t 12=.int .i64 xs.length∧t 13=.int .i64 i∧H'=H∧xs.take i=ys.take i) ?_ (n:=xs.length) ⟨0,rfl,by omega,by simp,by simp,by simp,by simp,rfl,by simp⟩
  rintro n t H' ⟨i,rfl,hi,t0,t1,t12,t13,rfl,h4⟩ ih
  simp [t0,t1,t12,t13,la]
  refine wp_dec ?_ ?_<;>intro h
  ·have hx:i<xs.length:=by omega
   have hy:i<ys.length:=by omega
   have q1:=ha.idx (P:=Try.prog) (ty:=123) (e:=134) (by simp) (i:=(i:Int)) (by omega) (by omega)
   have q2:=ha.load (P:=Try.prog) (e:=134) (by simp) hx
   have q3:=hb.idx (P:=Try.prog) (ty:=123) (e:=134) (by simp) (i:=(i:Int)) (by omega) (by omega)
   have q4:=hb.load (P:=Try.prog) (e:=134) (by simp) hy
   simp only [Int.toNat_natCast,flF_n] at q1 q2 q3 q4
   simp [t0,t1,t12,t13]
   rw [go_draw (h:=by kernel_rfl)]
   simp [t0,t1,t12,t13,q1,q2,q3,q4,cseq_flF,-cseq]
   refine wp_dec ?_ ?_<;>intro h5
   ·simp [t0,t1,t12,t13]
    refine ih (xs.length-(i+1)) _ _ ⟨i+1,rfl,by omega,by simp [t0],by simp [t1],by simp [t12],?_,rfl,?_⟩ (by omega)
    ·simp;rw [w64 (by omega) (by omega)]
    ·rw [List.take_succ_eq_append_getElem hx,List.take_succ_eq_append_getElem hy,h4,h5]
   ·simp [t0,t1,t12,t13]
    exact no (fun hh=>h5 (by subst hh;rfl))
  ·have:i=xs.length:=by omega
   subst this
   rw [List.take_length,List.take_of_length_le (by omega)] at h4
   simp [t0,t1,t12,t13]
   rw [← hY];exact decide_eq_true h4
 ·simp
  exact no (fun hh=>h0 (by rw [hh]))
def actOk (k p q r s:Int):Prop:=
 if k=1 then inR 0 p 15∧inR 0 q 15∧inR 0 r 1∧inR 1 s 5 else if k=2 then inR 1 p 100∧q=0∧r=0∧s=0 else if k=3 then p=0∧q=0∧r=0∧s=0
 else if k=4 then inR 0 p 63∧q=0∧r=0∧s=0 else k=5∧inR 1 p 4∧inR 1 q 4∧r=0∧s=0
instance (k p q r s:Int):Decidable (actOk k p q r s):=by unfold actOk;infer_instance
theorem l16Bit_c (b:Bool):vcall C frz 184 [.bool b] H=some (.int .i64 (if b then 1 else 0),H):=by
 rw [vcall_go (fn:=Try.f184) Try.func184 rfl (by kernel_rfl) rfl]
 cases b<;>simp
end Go.Proofs.Ytcigpclbhfkgaaa.V
set_option linter.all false
namespace Go.Proofs.Ytcigpclbhfkgaaa.V
open Go Go.VM Go.Proofs
set_option maxRecDepth 10000
variable {frz:Nat} {H:Heap} {r:Nat} {vb:Value} {code:List Int}
theorem Cur.set {J:Heap} {id:Nat} {x:Row} (c:Cur J r vb code) (h1:r≠id) (h2:∀i∈ids vb,i≠id):Cur (J.set id x) r vb code:=
 c.chg (chg_set _ _) (by simpa using h1) (fun i hi=>by simpa using h2 i hi)
theorem l14Grid_w (c:Cur H r vb code) (hf:frz≤r):wp (vcall C frz 151 [.pointer (some ⟨r,0,some 0⟩)] H) (fun u H'=>(∃w h,u=.agg #[.int .i64 w,.int .i64 h]∧okG w h∧2≤cnt w h)∧Chg H H' [r]∧Cur H' r vb code):=by
 have lt:=c.lt
 have vlt:=c.vlt
 rw [vcall_go (fn:=Try.f151) Try.func151 rfl (by kernel_rfl) rfl]
 simp
 refine wp_thn (l02Grid_w (c.app _) hf) ?_
 rintro _ K ⟨⟨w,h,rfl,hg⟩,c1,d1⟩
 have cH:Chg H K [r]:=(Chg.app [r]).trans c1
 have l0:=cH.1
 have b0:K[H.length]? = some ⟨[.int .i64 0,.int .i64 0],0,36⟩:=box_chg (by simp) c1 (by simp;omega)
 have lK:=box_lt b0
 have hF:frz≤H.length:=by omega
 have hFK:frz≤K.length:=by omega
 have nc:=fun F H=>sNodeCount_c (frz:=F) (H:=H) w h
 simp [hFK,VM.look,nc]
 refine wp_dec ?_ ?_<;>intro g
 ·have b1:=get_app' b0 [⟨[.int .i64 2,.int .i64 h],0,36⟩]
  have g3:=set_get (r':=⟨[.int .i64 2,.int .i64 h],0,36⟩) b1
  have ltr:=d1.lt
  have h2:okG 2 h∧2≤cnt 2 h:=by
   have e:okG 2 h:=⟨by omega,hg.2⟩
   refine ⟨e,?_⟩
   unfold cnt;rw [if_pos e];have:=hg.2;omega
  simp [VM.look,b1,g3,hFK,hF]
  exact ⟨⟨2,h,⟨rfl,rfl⟩,h2⟩,(cH.trans (Chg.app _)).trans' (chg_set _ _) (fun i hi=>.inr (by simp at hi;omega)),(d1.app _).set (by omega) (fun i hi=>by have:=vlt i hi;omega)⟩
 ·have b1:=get_app' b0 [⟨[.int .i64 w,.int .i64 h],0,36⟩]
  have g3:=set_get (r':=⟨[.int .i64 w,.int .i64 h],0,36⟩) b1
  have ltr:=d1.lt
  simp [VM.look,b1,g3,hF]
  exact ⟨⟨w,h,⟨rfl,rfl⟩,hg,by omega⟩,(cH.trans (Chg.app _)).trans' (chg_set _ _) (fun i hi=>.inr (by simp at hi;omega)),(d1.app _).set (by omega) (fun i hi=>by have:=vlt i hi;omega)⟩
theorem l14Packet_w {w h:Int} {id:Nat} (hid:id<1000) (hg:okG w h) (h2:2≤cnt w h) (c:Cur H r vb code) (hf:frz≤r):wp (vcall C frz 185 [.pointer (some ⟨r,0,some 0⟩),.agg #[.int .i64 w,.int .i64 h],.int .i64 id] H) (fun u H'=>(∃p:PkD,u=pkV p)∧Chg H H' [r]∧Cur H' r vb code):=by
 have lt:=c.lt
 have vlt:=c.vlt
 have cr:=cnt_range w h
 obtain ⟨N,hN⟩:∃N:Nat,cnt w h=N:=⟨(cnt w h).toNat,by omega⟩
 have nc:=fun F H=>sNodeCount_c (frz:=F) (H:=H) w h
 rw [hN] at nc h2
 rw [vcall_go (fn:=Try.f185) Try.func185 rfl (by kernel_rfl) rfl]
 have e1:∀[Inhabited Unit],IntKind.i64.wrap ((N:Int)-1)=((N-1:Nat):Int):=by intro _;rw [w64 (by omega) (by omega)];omega
 simp [VM.look,nc]
 refine wp_thn (l01Below_w (c.app _) hf N (by omega) (by omega)) ?_
 rintro _ K1 ⟨⟨a,rfl,ha⟩,c1,d1⟩
 have e2:=@w6 ((a:Int)+1) (by omega)
 simp [e1,e2]
 refine wp_thn (l01Below_w d1 hf (N-1) (by omega) (by omega)) ?_
 rintro _ K2 ⟨⟨b,rfl,hb⟩,c2,d2⟩
 have e3:∀[Inhabited Unit],IntKind.i64.wrap ((a:Int)+1+(b:Int))=(a:Int)+1+b:=by intro _;exact w64 (by omega) (by omega)
 have e4:¬(N:Int)=0:=by omega
 have e4':¬N=0:=by omega
 simp [e3,e4,e4']
 have bl:=l01Below_w (frz:=frz) d2 hf 2 (by decide) (by decide)
 refine wp_thn (by simpa using bl) ?_
 rintro _ K3 ⟨⟨x,rfl,hx⟩,c3,d3⟩
 simp
 have bl:=l01Below_w (frz:=frz) d3 hf 5 (by decide) (by decide)
 refine wp_thn (by simpa using bl) ?_
 rintro _ K4 ⟨⟨y,rfl,hy⟩,c4,d4⟩
 have cH:Chg H K4 [r]:=((((Chg.app [r]).trans c1).trans c2).trans c3).trans c4
 have b0:K4[H.length+1]? = some ⟨[.int .i64 0,.int .i64 0,.int .i64 0,.int .i64 0,.int .i64 0],0,44⟩:=box_chg (box_chg (box_chg (box_chg (by simp) c1 (by simp;omega)) c2 (by simp;omega)) c3 (by simp;omega)) c4 (by simp;omega)
 have hF:frz≤H.length+1:=by omega
 have hm:((a:Int)+1+(b:Int)).tmod (N:Int)=(((a+1+b)%N:Nat):Int):=by rw [show (a:Int)+1+(b:Int)=((a+1+b:Nat):Int) by omega];exact tmod_lt' (by omega)
 have hlt:(a+1+b)%N<N:=Nat.mod_lt _ (by omega)
 have e5:∀[Inhabited Unit],IntKind.i64.wrap (((a+1+b)%N:Nat):Int)=(((a+1+b)%N:Nat):Int):=by intro _;exact w64 (by omega) (by omega)
 have e6:=@w6 (1+(y:Int)) (by omega)
 have gP:=set_get (r':=⟨[.int .i64 id,.int .i64 a,.int .i64 (((a:Int)+1+(b:Int)).tmod (N:Int)),.int .i64 x,.int .i64 (1+(y:Int))],0,44⟩) b0
 have ltr:=d4.lt
 simp [VM.look,b0,e6,hF,gP]
 exact ⟨⟨_,_,_,_,_,rfl⟩,cH.trans' (chg_set _ _) (fun i hi=>.inr (by simp at hi;omega)),d4.set (by omega) (fun i hi=>by have:=vlt i hi;omega)⟩
theorem l16Packets_w {w h:Int} (hg:okG w h) (h2:2≤cnt w h) (c:Cur H r vb code) (hf:frz≤r):wp (vcall C frz 154 [.pointer (some ⟨r,0,some 0⟩),.agg #[.int .i64 w,.int .i64 h]] H) (fun u H'=>∃xs:List PkD,Ow pkF 44 H' u xs∧xs.length≤7∧(∀i∈ids u,H.length≤i)∧Chg H H' [r]∧Cur H' r vb code):=by
 have lt:=c.lt
 have vlt:=c.vlt
 rw [vcall_go (fn:=Try.f154) Try.func154 rfl (by kernel_rfl) rfl]
 simp
 refine wp_inv (fun n t H'=>∃(i:Nat) (u:Value) (xs:List PkD),n=7-i∧i≤7∧t 0=.pointer (some ⟨r,0,some 0⟩)∧t 3=.pointer (some ⟨H.length,0,some 0⟩)∧t 5=u∧t 6=.int .i64 i∧Cur H' r vb code∧H'[H.length]? = some ⟨[.int .i64 w,.int .i64 h],0,36⟩∧Ow pkF 44 H' u xs∧xs.length=i∧(∀j∈ids u,H.length+1≤j)∧Chg H H' [r]) ?_ (n:=7)
  ⟨0,.slice (some ⟨H.length+1,0,some 0⟩) 0 0,[],rfl,by omega,by simp,by simp,by simp,by simp,c.app _,by simp,Ow.new (D:=pkF) (xs:=[]) (k:=1) rfl rfl rfl rfl,rfl,by simp,Chg.app _⟩
 rintro n t H' ⟨i,u,xs,rfl,hi,t0,t3,t5,t6,cc,b3,o,hx,nu,ch⟩ ih
 have l1:=ch.1
 have bl:=l01Below_w (frz:=frz) cc hf 7 (by decide) (by decide)
 simp [t0,t3,t5,t6]
 refine wp_thn (by simpa using bl) ?_
 rintro _ H2 ⟨⟨x,rfl,hx2⟩,c2,d2⟩
 have o2:=o.chg c2 (fun j hj hh=>by have:=nu j hj;simp at hh;omega)
 have b32:=box_chg b3 c2 (by simp;omega)
 have l2:=c2.1
 simp [t0,t3,t5,t6]
 refine wp_dec ?_ ?_<;>intro g
 ·have e1:∀[Inhabited Unit],IntKind.i64.wrap ((i:Int)+1)=((i+1:Nat):Int):=by intro _;rw [w64 (by omega) (by omega)];omega
  simp [t0,t3,t5,t6,VM.look,b32]
  have pk:=l14Packet_w (frz:=frz) (id:=i+1) (by omega) hg h2 d2 hf
  rw [e1]
  refine wp_thn pk ?_
  rintro _ H3 ⟨⟨p,rfl⟩,c3,d3⟩
  have o3:=o2.chg c3 (fun j hj hh=>by have:=nu j hj;simp at hh;omega)
  have b33:=box_chg b32 c3 (by simp;omega)
  have l3:=c3.1
  obtain ⟨u',H4,hap,o4,c4,n4⟩:=o3.push (P:=Try.prog) (frz:=frz) (ty:=60) (a:=p) (by simp) rfl (by omega) (fun j hj=>by have:=nu j hj;omega)
  have hlt:=box_lt b33
  simp [-vappend_nil,-vappend_mk,t0,t3,t5,t6,pkV,pkF_f]
  simp only [pkF_f] at hap
  simp [-vappend_nil,-vappend_mk,t0,t3,t5,t6,hap]
  refine ih (7-(i+1)) _ _ ⟨i+1,u',xs++[p],rfl,by omega,by simp [t0],by simp [t3],by simp,?_,d3.chg c4 (fun hh=>by have:=nu _ hh;omega) (fun j hj hh=>by have:=nu j hh;have:=vlt j hj;omega),box_chg b33 c4 (fun hh=>by have:=nu _ hh;omega),o4,by simp [hx],fun j hj=>?_,((ch.trans c2).trans c3).trans' c4 (fun j hj=>.inr (by have:=nu j hj;omega))⟩ (by omega)
  ·simp [t6];exact e1
  ·rcases n4 j hj with h1|h1
   ·exact nu j h1
   ·omega
 ·simp [t0,t3,t5,t6]
  exact ⟨xs,o2,by omega,fun j hj=>by have:=nu j hj;omega,ch.trans c2,d2⟩
structure Kept (x y:NetD):Prop where
 ok:netOk y
 m:y.1=x.1
 t:y.2.1=x.2.1
 a:y.2.2.2.2.2.2.1=x.2.2.2.2.2.2.1
 tm:y.2.2.2.2.2.2.2=x.2.2.2.2.2.2.2
theorem Kept.trans {x y z:NetD} (h:Kept x y) (k:Kept y z):Kept x z:=⟨k.ok,k.m.trans h.m,k.t.trans h.t,k.a.trans h.a,k.tm.trans h.tm⟩
theorem send_kept {x:NetD} (h:netOk x) (p:PkD):Kept x (sendP x p):=by
 unfold sendP
 split
 ·rename_i g
  obtain ⟨_,g1,g2⟩:=g
  obtain ⟨h1,⟨s1,s2,s3,s4,s5⟩,h3,h4,h5,h6,h7⟩:=h
  refine ⟨⟨h1,⟨s1,s2,s3,?_,s5⟩,h3,fun l hl=>?_,h5,h6,h7⟩,rfl,rfl,rfl,rfl⟩
  ·show ((x.2.2.2.2.2.1.set _ _).length:Int)=_
   rw [List.length_set];exact s4
  ·rcases List.mem_or_eq_of_mem_set hl with hl|rfl
   ·exact h4 l hl
   ·have hf:=flitsOf_ok g1
    refine ⟨by rw [List.length_append];omega,fun f hf'=>?_⟩
    rcases List.mem_append.1 hf' with hf'|hf'
    ·by_cases hl:p.2.1.toNat<x.2.2.2.2.2.1.length
     ·exact (h4 _ (getD_mem hl)).2 f hf'
     ·simp [List.getD_eq_getElem?_getD,List.getElem?_eq_none (Nat.le_of_not_lt hl)] at hf'
    ·unfold flitsOf at hf'
     rw [if_pos g1] at hf'
     obtain ⟨i,_,rfl⟩:=List.mem_map.1 hf'
     exact ⟨g1.2.2.1,g1.2.2.2.2.1⟩
 ·exact ⟨h,rfl,rfl,rfl,rfl⟩
theorem sends_kept {x:NetD} (h:netOk x):∀(ps:List PkD) ,Kept x (ps.foldl sendP x):=by
 intro ps
 induction ps generalizing x with
 | nil=>exact ⟨h,rfl,rfl,rfl,rfl⟩
 | cons p l ih=>exact (send_kept h p).trans (ih (send_kept h p).ok)
theorem netNew_ok {m:MeshD} {t:ClassesD} (h:classesOk m.1 m.2.1 m.2.2 t.1 t.2):netOk (netNew m t)∧(netNew m t).1=m∧allL 66000000 (netNew m t).2.2.2.2.2.2.1∧(netNew m t).2.2.2.2.2.2.2=0:=by
 have cr:=cnt_range m.1 m.2.1
 unfold netNew
 rw [if_pos h]
 refine ⟨⟨h,⟨?_,?_,?_,?_,?_⟩,fun i hi=>?_,fun l hl=>?_,fun o ho=>?_,fun o ho=>?_,?_⟩,rfl,fun l hl=>?_,rfl⟩
 ·simp only [List.length_replicate];omega
 ·simp only [List.length_replicate];omega
 ·simp only [List.length_replicate];omega
 ·simp only [List.length_replicate];omega
 ·simp only [List.length_replicate];omega
 ·have e:(List.replicate (10*(cnt m.1 m.2.1).toNat) ([]:List FlitD)).getD i []=[]:=by
   rw [getD_at hi,List.getElem_replicate]
  show bufOk _ _ ((List.replicate (10*(cnt m.1 m.2.1).toNat) ([]:List FlitD)).getD i []) _
  rw [e]
  exact ⟨by simp,by simp,fun f hf=>by simp at hf⟩
 ·have:=List.eq_of_mem_replicate hl;subst this;exact ⟨by simp,fun f hf=>by simp at hf⟩
 ·have:=List.eq_of_mem_replicate ho;subst this;unfold inR;omega
 ·have:=List.eq_of_mem_replicate ho;subst this;unfold inR;omega
 ·exact ⟨show (0:Int)≤0 by omega,show (0:Int)≤1000000 by omega⟩
 ·have:=List.eq_of_mem_replicate hl;subst this;simp
def zNet0:List Value:=[.int .i64 0,.int .i64 0,.slice none 0 0,.slice none 0 0,.slice none 0 0,.slice none 0 0,.slice none 0 0,.slice none 0 0,.slice none 0 0,.slice none 0 0,.int .i64 0]
theorem sendAll_w {v:NetV} {x:NetD} {lv:Value} {xs:List PkD} (hx:netOk x) (o:dNet.Ow H v x) (hl:Rd pkF H lv xs) (hn:xs.length≤40) :
 wp (vcall C frz 153 [dNet.val v x,lv] H) (fun u H'=>∃n k,u=.tuple #[n,.int .i64 k]∧dNet.Made H (xs.foldl sendP x) n H'):=by
 have ones:=dNet_one o
 have ecopy:=fun L=>l15Copy_d (frz:=H.length) (H:=H++L) (v:=v) (x:=x) (Dt.app (T:=dNet) o)
 have nk:=fun F K (c:Chg H K [])=>sNetOk_d (frz:=F) (H:=K) (v:=v) (x:=x) (Dt.chg (T:=dNet) o c (by simp))
 simp only [dNet_val] at ecopy nk ⊢
 rw [vcall_go (fn:=Try.f153) Try.func153 rfl (by kernel_rfl) rfl]
 simp [ones]
 refine wp_thn (ecopy _) ?_
 rintro _ K ⟨n,rfl,on,cn,mn,dn⟩
 simp at mn
 have qn:=dNet_one on
 have lK:=cn.1
 simp at lK
 have hF:H.length≤K.length:=by omega
 have ltn:∀i∈dNet.ids n,i<K.length:=fun i hi=>dNet.lt on i hi
 simp [dNet_val,qn,VM.look,hF]
 obtain ⟨K1,hK1⟩:∃K1,K1=K++[⟨netCells n x,0,59⟩]:=⟨_,rfl⟩
 have c1:Chg K K1 []:=by rw [hK1];exact Chg.app _
 have cK:Chg H K []:=(Chg.app _).trans cn
 have cK1:=cK.trans c1
 have l1:K1.length=K.length+1:=by rw [hK1];simp
 have b1:K1[H.length]? = some ⟨netCells v x,0,59⟩:=box_chg (box_chg (by simp [netCells]) cn (by simp)) c1 (by simp)
 have bR:K1[H.length+1]? = some ⟨zNet0,0,59⟩:=box_chg (box_chg (by simp [zNet0]) cn (by simp)) c1 (by simp)
 have b3:K1[K.length]? = some ⟨netCells n x,0,59⟩:=by rw [hK1];simp
 have on1:=Dt.chg (T:=dNet) on c1 (by simp)
 have hKs:K++[⟨netCells n x,0,59⟩]=K1:=hK1.symm
 have b1':=b1
 unfold netCells at hKs b1'
 rw [hKs]
 clear hK1 hKs
 have nk':=fun F=>nk F K1 cK1
 have hF1:H.length≤H.length+1:=by omega
 have lv1:=(hl.chg cK1 (by simp)).len (P:=Try.prog) (ty:=60) (by simp)
 have hn':¬40<(xs.length:Int):=by omega
 have hn2:¬40<xs.length:=by omega
 simp [VM.look,b1',ones,nk',hx,lv1,hn',hn2]
 refine wp_inv (fun q t J=>∃(i:Nat) (w:NetV) (k:Nat),q=xs.length-i∧i≤xs.length∧t 1=lv∧t 4=.pointer (some ⟨H.length+1,0,some 0⟩)∧t 6=.pointer (some ⟨K.length,0,some 0⟩)∧t 7=.int .i64 k∧k≤i∧t 8=.int .i64 i∧J[K.length]? = some ⟨netCells w ((xs.take i).foldl sendP x),0,59⟩∧
  dNet.Ow J w ((xs.take i).foldl sendP x)∧(dNet.ids w).Nodup∧(∀i∈dNet.ids w,H.length+2≤i∧i≠K.length)∧J[H.length+1]? = some ⟨zNet0,0,59⟩∧Chg H J []) ?_ (n:=xs.length)
  ⟨0,n,0,rfl,by omega,by simp,by simp,by simp,by simp,by omega,by simp,b3,on1,dn,fun i hi=>⟨by have:=mn i hi;omega,by have:=ltn i hi;omega⟩,bR,cK1⟩
 rintro q t J ⟨i,w,k,rfl,hi,t1,t4,t6,t7,hk,t8,bJ,oJ,dJ,mJ,bRJ,cJ⟩ ih
 have lv2:=(hl.chg cJ (by simp)).len (P:=Try.prog) (ty:=60) (by simp)
 have oneJ:=dNet_one oJ
 simp [t1,t4,t6,t7,t8,lv2]
 refine wp_dec ?_ ?_<;>intro g
 ·have hi':i<xs.length:=by omega
  have lJ:=box_lt bJ
  have q1:=(hl.chg cJ (by simp)).idx (P:=Try.prog) (ty:=60) (e:=44) (by simp) (i:=(i:Int)) (by omega) (by omega)
  have q2:=(hl.chg cJ (by simp)).load (P:=Try.prog) (e:=44) (by simp) hi'
  simp only [Int.toNat_natCast,pkF_n] at q1 q2
  have hts:=foldl_take_succ sendP x hi'
  have sp:=sSendPacket_d (frz:=H.length) (p:=xs[i]) oJ
  simp only [dNet_val] at sp
  unfold pkV at sp
  have bJ':=bJ
  unfold netCells at bJ'
  simp only [pkF_f] at q2
  simp [t1,t4,t6,t7,t8]
  rw [go_draw (h:=by kernel_rfl)]
  simp [t1,t4,t6,t7,t8,VM.look,bJ',oneJ,q1,q2]
  refine wp_thn sp ?_
  rintro _ J2 ⟨_,rfl,w2,rfl,s2,s5,s4,s3⟩
  rw [← hts] at s2
  obtain ⟨y,hy⟩:∃y,y=(xs.take (i+1)).foldl sendP x:=⟨_,rfl⟩
  have hy':sendP ((xs.take i).foldl sendP x) xs[i]=y:=by rw [hy,hts]
  rw [← hy] at s2
  have one2:=dNet_one s2
  have l2:=s5.1
  have hFJ:H.length≤J2.length:=by have:=cJ.1;omega
  obtain ⟨J3,hJ3⟩:∃J3,J3=J2++[⟨netCells w2 y,0,59⟩]:=⟨_,rfl⟩
  have c3:Chg J2 J3 []:=by rw [hJ3];exact Chg.app _
  have bN:J3[J2.length]? = some ⟨netCells w2 y,0,59⟩:=by rw [hJ3];simp
  have bJ3:=box_chg (box_chg bJ s5 (by simp)) c3 (by simp)
  have bRJ3:=box_chg (box_chg bRJ s5 (by simp)) c3 (by simp)
  have s6:=Dt.chg (T:=dNet) s2 c3 (by simp)
  have gN:=set_get (r':=⟨netCells w2 y,0,59⟩) bJ3
  have cN:Chg J3 (J3.set K.length ⟨netCells w2 y,0,59⟩) [K.length]:=chg_set _ _
  have hJs:=hJ3.symm
  have bN':=bN
  have bJ3':=bJ3
  unfold netCells at bN' bJ3' hJs
  have bit:=fun F H=>l16Bit_c (frz:=F) (H:=H)
  simp [dNet_val,hy',one2,hFJ]
  rw [hJs]
  clear hJ3 hJs
  have ek:∀b:Bool,∃k':Nat,k'≤i+1∧∀[Inhabited Unit],IntKind.i64.wrap ((k:Int)+(if b=true then 1 else 0))=(k':Int):=fun b=>by
   cases b
   ·exact ⟨k,by omega,by intro _;simp;exact w64 (by omega) (by omega)⟩
   ·exact ⟨k+1,by omega,by intro _;simp;rw [w64 (by omega) (by omega)]⟩
  obtain ⟨B,hB⟩:∃B,B=decide (netOk ((xs.take i).foldl sendP x)∧sendOk ((xs.take i).foldl sendP x) xs[i]):=⟨_,rfl⟩
  obtain ⟨k',hk',ek'⟩:=ek B
  simp [t1,t4,t6,t7,t8,VM.look,bN',bJ3',one2,hF,bit,← Bool.decide_and,← hB,ek']
  refine ih (xs.length-(i+1)) _ _ ⟨i+1,w2,k',rfl,by omega,by simp [t1],by simp [t4],by simp [t6],by simp,hk',?_,by rw [← hy];exact gN,by rw [← hy];exact Dt.chg (T:=dNet) s6 cN (fun j hj hh=>by have:=s4 j hj;simp at hh;omega),s3,fun j hj=>⟨by have:=s4 j hj;have:=cJ.1;have:=box_lt bRJ;omega,by have:=s4 j hj;omega⟩,box_chg bRJ3 cN (by simp;omega),((cJ.trans s5).trans c3).trans' cN (fun j hj=>.inr (by simp at hj;omega))⟩ (by omega)
  simp [t8];rw [w64 (by omega) (by omega)]
 ·have:i=xs.length:=by omega
  subst this
  rw [List.take_length] at bJ oJ
  have gR:=set_get (r':=⟨netCells w (xs.foldl sendP x),0,59⟩) bRJ
  unfold zNet0 at bRJ
  unfold netCells at bJ gR
  simp [t1,t4,t6,t7,t8,VM.look,bJ,bRJ,gR,oneJ,hF1]
  exact ⟨w,rfl,Dt.chg (T:=dNet) oJ (chg_set _ _) (fun j hj hh=>by have:=(mJ j hj).1;simp at hh;omega),cJ.trans' (chg_set _ _) (fun j hj=>.inr (by simp at hj;omega)),fun j hj=>by have:=(mJ j hj).1;omega,dJ⟩
def NetD' (H:Heap) (is:List Nat) (u:Value) (H':Heap):Prop:=∃(v:NetV) (x:NetD),u=dNet.val v x∧dNet.Ow H' v x∧(dNet.ids v).Nodup∧(∀i∈dNet.ids v,H.length≤i)∧Chg H H' is∧netOk x∧okG x.1.1 x.1.2.1∧x.1.2.2=[]
theorem Cur.chg0 {J K:Heap} (c:Cur J r vb code) (h:Chg J K []):Cur K r vb code:=c.chg h (by simp) (by simp)
theorem Ow_live1 {α:Type} {D:Fl α} {e:TypeId} {v:Value} {xs:List α} (h:Ow D e H v xs):live1 H v:=by
 rcases h with ⟨rfl,_⟩|⟨id,off,r,rfl,h2,_⟩
 ·trivial
 ·show VM.look H ⟨id,off,some r.gen⟩≠none
  simp [VM.look,h2]
theorem net_live {v:NetV} {x:NetD} (o:dNet.Ow H v x):VM.live H (.agg #[.int .i64 x.1.1,.int .i64 x.1.2.1,v.1,v.2.1.1,v.2.1.2,v.2.2.1.1,v.2.2.2.1,v.2.2.2.2.1,v.2.2.2.2.2.1.1,v.2.2.2.2.2.2.1.1,.int .i64 x.2.2.2.2.2.2.2]):=fun c hc=>by
 obtain ⟨o1,o2,o3,o4,o5,o6,o7,_⟩:=o
 have a1:=Ow_live1 o1.1
 have a2:=Ow_live1 o2.1.1
 have a3:=Ow_live1 o2.2.1
 have a4:=Ow_live1 o3.1.1
 have a5:=Ow_live1 o4.1
 have a6:=Ow_live1 o5.1
 have a7:=Ow_live1 o6.1.1
 have a8:=Ow_live1 o7.1.1
 simp only [List.mem_cons,List.not_mem_nil,or_false] at hc
 rcases hc with rfl|rfl|rfl|rfl|rfl|rfl|rfl|rfl|rfl|rfl|rfl<;>first|trivial|assumption
theorem l20Net_w (c:Cur H r vb code) (hf:frz≤r):wp (vcall C frz 97 [.pointer (some ⟨r,0,some 0⟩)] H) (fun u H'=>NetD' H [r] u H'):=by
 have lt:=c.lt
 have vlt:=c.vlt
 rw [vcall_go (fn:=Try.f97) Try.func97 rfl (by kernel_rfl) rfl]
 simp
 refine wp_thn (l14Grid_w (c.app _) hf) ?_
 rintro _ K ⟨⟨w,h,rfl,hg,h2⟩,c1,d1⟩
 have cK:Chg H K [r]:=(Chg.app [r]).trans c1
 have lK:=c1.1
 simp at lK
 have bR:K[H.length]? = some ⟨zNet0,0,59⟩:=box_chg (by simp [zNet0]) c1 (by simp;omega)
 have hFK:frz≤K.length:=by omega
 obtain ⟨K1,hK1⟩:∃K1,K1=K++[⟨[.int .i64 w,.int .i64 h],0,36⟩]:=⟨_,rfl⟩
 have cK1:Chg K K1 []:=by rw [hK1];exact Chg.app _
 have l1:K1.length=K.length+1:=by rw [hK1];simp
 have bG:K1[K.length]? = some ⟨[.int .i64 w,.int .i64 h],0,36⟩:=by rw [hK1];simp
 have bR:=box_chg bR cK1 (by simp)
 have d1:=d1.chg0 cK1
 have hKs:=hK1.symm
 simp [hFK]
 rw [hKs]
 clear hK1 hKs
 obtain ⟨N,hN⟩:∃N:Nat,cnt w h=N:=⟨(cnt w h).toNat,by have:=cnt_range w h;omega⟩
 have lvG:∀J:Heap,VM.live J (.agg #[.int .i64 w,.int .i64 h]):=fun J c hc=>by simp at hc;rcases hc with rfl|rfl<;>trivial
 rw [go_drawP (fl:=([0,2,4],[12])) (pl:=[0,1,5,6,11,2,3,4,7,8,9,10,12]) (h:=⟨by kernel_rfl,by kernel_rfl,by kernel_rfl,by kernel_rfl,by kernel_rfl,by kernel_rfl⟩)]
 have bGL:=fun L=>get_app' bG L
 simp [permA,renO,emps,empOp,empB,VM.look,bG,bGL,lvG]
 obtain ⟨K0,hK0⟩:∃K0,K0=K1++[⟨[.slice none 0 0,.slice none 0 0],0,42⟩]:=⟨_,rfl⟩
 have c0:Chg K1 K0 []:=by rw [hK0];exact Chg.app _
 have l0:K0.length=K1.length+1:=by rw [hK0];simp
 have bC:K0[K1.length]? = some ⟨[.slice none 0 0,.slice none 0 0],0,42⟩:=by rw [hK0];simp
 have bG:=box_chg bG c0 (by simp)
 have bR:=box_chg bR c0 (by simp)
 have d1:=d1.chg0 c0
 have hKs:=hK0.symm
 try rw [hKs]
 clear hK0 hKs
 have bl:=l01Below_w (frz:=frz) d1 hf 4 (by decide) (by decide)
 refine wp_thnW (by simpa using bl) ?_
 rintro _ K2 ⟨⟨x,rfl,hx⟩,c2,d2⟩
 have e1:=@w6 (1+(x:Int)) (by omega)
 have bG:=box_chg bG c2 (by simp;omega)
 have bR:=box_chg bR c2 (by simp;omega)
 have bC:=box_chg bC c2 (by simp;omega)
 refine ⟨by simp [VM.look,bG,bC,lvG],?_⟩
 simp [e1]
 refine wp_thnW (l05Make_w w h (1+x) N (by omega) hg hN) ?_
 rintro _ K3 ⟨v1,rfl,o1,c3,m1,n1⟩
 have d3:=d2.chg0 c3
 have q1:=dTable_one o1
 have bG:=box_chg bG c3 (by simp)
 have bR:=box_chg bR c3 (by simp)
 have bC:=box_chg bC c3 (by simp)
 refine ⟨by simp [VM.look,bG,bC,lvG],?_⟩
 have l2:=c2.1
 have l3:=c3.1
 simp [dTable_val,VM.look,bG,lvG]
 have bl:=l01Below_w (frz:=frz) d3 hf 4 (by decide) (by decide)
 refine wp_thnW (by simpa using bl) ?_
 rintro _ K4 ⟨⟨y,rfl,hy⟩,c4,d4⟩
 have e2:=@w6 (1+(y:Int)) (by omega)
 have bG:=box_chg bG c4 (by simp;omega)
 have bR:=box_chg bR c4 (by simp;omega)
 have bC:=box_chg bC c4 (by simp;omega)
 refine ⟨by simp [VM.look,bG,bC,lvG],?_⟩
 have o1:=Dt.chg (T:=dTable) o1 c4 (fun i hi hh=>by have:=m1 i hi;simp at hh;omega)
 simp [e2]
 refine wp_thnW (l05Make_w w h (1+y) N (by omega) hg hN) ?_
 rintro _ K5 ⟨v2,rfl,o2,c5,m2,n2⟩
 have d5:=d4.chg0 c5
 have q2:=dTable_one o2
 have bG:=box_chg bG c5 (by simp)
 have bR:=box_chg bR c5 (by simp)
 have bC:=box_chg bC c5 (by simp)
 refine ⟨by simp [VM.look,bG,bC,lvG],?_⟩
 have o1:=Dt.chg (T:=dTable) o1 c5 (by simp)
 have l4:=c4.1
 have l5:=c5.1
 have hFK1:frz≤K1.length:=by omega
 have bG5:=bG
 have bC5:=bC
 have gC5:=set_get (r':=⟨[v1,v2],0,42⟩) bC
 obtain ⟨K6,hK6⟩:∃K6,K6=K5.set K1.length ⟨[v1,v2],0,42⟩:=⟨_,rfl⟩
 have c56:Chg K5 K6 [K1.length]:=by rw [hK6];exact chg_set _ _
 have l6:K6.length=K5.length:=by rw [hK6];simp
 have bC:K6[K1.length]? = some ⟨[v1,v2],0,42⟩:=by rw [hK6];exact gC5
 have bG:=box_chg bG c56 (by simp;omega)
 have bR:=box_chg bR c56 (by simp;omega)
 have d6:=d5.chg c56 (by simp;omega) (fun i hi hh=>by have:=vlt i hi;simp at hh;omega)
 have oc:dClasses.Ow K6 (v1,v2) (stdTab w (1+x) N,stdTab w (1+y) N):=⟨Dt.chg (T:=dTable) o1 c56 (fun i hi hh=>by have:=m1 i hi;simp at hh;omega),Dt.chg (T:=dTable) o2 c56 (fun i hi hh=>by have:=m2 i hi;simp at hh;omega)⟩
 have cK6:Chg H K6 [r]:=(((((((cK.trans (cK1.mono (fun _ h=>by cases h))).trans (c0.mono (fun _ h=>by cases h))).trans c2).trans (c3.mono (fun _ h=>by cases h))).trans c4).trans (c5.mono (fun _ h=>by cases h)))).trans' c56 (fun i hi=>.inr (by simp at hi;omega))
 have hKs:=hK6.symm
 simp [dTable_val,q1,q2,hFK1,VM.look,bG5,bC5,lvG]
 rw [hKs]
 clear hK6 hKs
 have om:dMesh.Ow K6 (.slice none 0 0) (w,h,[]):=⟨.inl ⟨rfl,rfl⟩,by simp⟩
 have hcl:classesOk w h [] (stdTab w (1+x) N) (stdTab w (1+y) N):=⟨std_ok (by omega) hg hN,std_ok (by omega) hg hN⟩
 have nn:=sNetNew_w (frz:=frz) om oc
 simp only [dMesh_val,dClasses_val] at nn
 try simp [VM.look,bG,bGL,bC,q1,q2,lvG]
 refine wp_thn nn ?_
 rintro _ K7 ⟨_,rfl,nv,rfl,on,c7,m7,d7⟩
 obtain ⟨k1,k2,k3,k4⟩:=netNew_ok (m:=(w,h,[])) (t:=(stdTab w (1+x) N,stdTab w (1+y) N)) hcl
 obtain ⟨z,hz⟩:∃z,z=netNew (w,h,[]) (stdTab w (1+x) N,stdTab w (1+y) N):=⟨_,rfl⟩
 rw [← hz] at on k1 k2 k3 k4
 have onen:=dNet_one on
 have l7:=c7.1
 have hFK7:frz≤K7.length:=by omega
 obtain ⟨K8,hK8⟩:∃K8,K8=K7++[⟨netCells nv z,0,59⟩]:=⟨_,rfl⟩
 have c78:Chg K7 K8 []:=by rw [hK8];exact Chg.app _
 have l8:K8.length=K7.length+1:=by rw [hK8];simp
 have bN:K8[K7.length]? = some ⟨netCells nv z,0,59⟩:=by rw [hK8];simp
 have bG:=box_chg (box_chg bG c7 (by simp)) c78 (by simp)
 have bR:=box_chg (box_chg bR c7 (by simp)) c78 (by simp)
 have d8:=(d6.chg0 c7).chg0 c78
 have on8:=Dt.chg (T:=dNet) on c78 (by simp)
 have hKs:=hK8.symm
 have bN':=bN
 unfold netCells at bN' hKs
 simp [dNet_val,← hz,onen,hFK7]
 rw [hKs]
 clear hK8 hKs
 have lvN:=net_live on8
 rw [go_drawF (fl:=([0],[4,8])) (h:=⟨by kernel_rfl,by kernel_rfl,by kernel_rfl,by kernel_rfl⟩)]
 simp [emps,empOp,empB,VM.look,bN',bG,onen,lvN,lvG]
 refine wp_thnW (l16Packets_w hg h2 d8 hf) ?_
 rintro lp K9 ⟨ps,op,hps,mp,c9,d9⟩
 have l9:=c9.1
 have bN9:=box_chg bN c9 (by simp;omega)
 have bR:=box_chg bR c9 (by simp;omega)
 have ltn:∀i∈dNet.ids nv,i<K7.length:=fun i hi=>dNet.lt on i hi
 have on9:=Dt.chg (T:=dNet) on8 c9 (fun i hi hh=>by have:=m7 i hi;simp at hh;omega)
 have sa:=sendAll_w (frz:=frz) k1 on9 op.rd (by omega)
 simp only [dNet_val] at sa
 have bN9':=bN9
 unfold netCells at bN9'
 have bG9:=box_chg bG c9 (by simp;omega)
 refine ⟨by simp [VM.look,bN9',bG9,onen,net_live on9,lvG],?_⟩
 simp
 refine wp_thnW sa ?_
 rintro _ K10 ⟨_,kk,rfl,nw,rfl,ow,c10,m10,n10⟩
 have kp:=sends_kept k1 ps
 obtain ⟨y2,hy2⟩:∃y2,y2=ps.foldl sendP z:=⟨_,rfl⟩
 rw [← hy2] at ow kp
 have onew:=dNet_one ow
 have l10:=c10.1
 have bN10:=box_chg bN9 c10 (by simp)
 have bR:=box_chg bR c10 (by simp)
 have d10:=d9.chg0 c10
 have on10:=Dt.chg (T:=dNet) on9 c10 (by simp)
 have bG10:=box_chg bG9 c10 (by simp)
 have bN10w:=bN10
 unfold netCells at bN10w
 refine ⟨by simp [VM.look,bN10w,bG10,onen,net_live on10,lvG],?_⟩
 have gN:=set_get (r':=⟨netCells nw y2,0,59⟩) bN10
 have cN:Chg K10 (K10.set K7.length ⟨netCells nw y2,0,59⟩) [K7.length]:=chg_set _ _
 have bR:=box_chg bR cN (by simp;omega)
 have ow:=Dt.chg (T:=dNet) ow cN (fun i hi hh=>by have:=m10 i hi;simp at hh;omega)
 have d10:=d10.chg cN (by simp;omega) (fun i hi hh=>by have:=vlt i hi;simp at hh;omega)
 have hF7:frz≤K7.length:=hFK7
 have cJ:Chg H (K10.set K7.length ⟨netCells nw y2,0,59⟩) [r]:=((((cK6.trans (c7.mono (fun _ h=>by cases h))).trans (c78.mono (fun _ h=>by cases h))).trans c9).trans (c10.mono (fun _ h=>by cases h))).trans' cN (fun i hi=>.inr (by simp at hi;omega))
 obtain ⟨J,hJ⟩:∃J,J=K10.set K7.length ⟨netCells nw y2,0,59⟩:=⟨_,rfl⟩
 have lJ:J.length=K10.length:=by rw [hJ];simp
 rw [← hJ] at gN bR ow d10 cJ
 have hJs:=hJ.symm
 have bN10':=bN10
 have gN':=gN
 unfold netCells at bN10' gN' hJs
 simp [dNet_val,← hy2,VM.look,bN10',onew,hF7]
 rw [hJs]
 clear hJ hJs cN
 have lvW:=net_live ow
 rw [go_drawF (fl:=([0],[3,4])) (h:=⟨by kernel_rfl,by kernel_rfl,by kernel_rfl,by kernel_rfl⟩)]
 simp [emps,empOp,empB,VM.look,gN',onew,lvW]
 have bl:=l01Below_w (frz:=frz) d10 hf 12 (by decide) (by decide)
 refine wp_thnW (by simpa using bl) ?_
 rintro _ J2 ⟨⟨s,rfl,hs⟩,cs,ds⟩
 have l11:=cs.1
 have ow2:=Dt.chg (T:=dNet) ow cs (fun i hi hh=>by have:=m10 i hi;simp at hh;omega)
 have rr:=l20Run_d (frz:=frz) ow2 n10 (m:=s) (by omega) (netOk_runOk kp.ok) (netOk_buf kp.ok) (by rw [kp.a];exact k3) (by rw [kp.tm,k4];omega) (by rw [kp.tm,k4];omega)
 simp only [dNet_val] at rr
 have gN2:=box_chg gN' cs (by simp;omega)
 refine ⟨by simp [VM.look,gN2,onew,net_live ow2],?_⟩
 simp
 refine wp_thnW rr ?_
 rintro _ J3 ⟨fw,rfl,of,nf,mf,cf⟩
 have onef:=dNet_one of
 have bR:=box_chg (box_chg bR cs (by simp;omega)) cf (by simp)
 have gN3:=box_chg gN2 cf (by simp)
 refine ⟨by simp [VM.look,gN3,onew,net_live (Dt.chg (T:=dNet) ow2 cf (by simp))],?_⟩
 obtain ⟨g,hgg⟩:∃g,g=runN y2 s:=⟨_,rfl⟩
 have hok:netOk g:=by rw [hgg];exact run_netOk kp.ok s (by rw [kp.tm,k4];omega)
 have hm:g.1=(w,h,[]):=by
  have:∀k,(runN y2 k).1=y2.1:=fun k=>by
   induction k with
   | zero=>rfl
   | succ k ih=>exact ih
  rw [hgg,this,kp.m,k2]
 rw [← hgg] at of
 have gR:=set_get (r':=⟨netCells fw g,0,59⟩) bR
 have hF0:frz≤H.length:=by omega
 have mf':∀i∈dNet.ids fw,H.length+1≤i:=fun i hi=>by
  rcases mf i hi with h|h
  ·have:=m10 i h;omega
  ·omega
 have hM:NetD' H [r] (dNet.val fw g) (J3.set H.length ⟨netCells fw g,0,59⟩):=⟨fw,g,rfl,Dt.chg (T:=dNet) of (chg_set _ _) (fun i hi hh=>by have:=mf' i hi;simp at hh;omega),nf,fun i hi=>by have:=mf' i hi;omega,((cJ.trans cs).trans (cf.mono (fun _ h=>by cases h))).trans' (chg_set _ _) (fun i hi=>.inr (by simp at hi;omega)),hok,by rw [hm];exact hg,by rw [hm]⟩
 unfold zNet0 at bR
 unfold netCells at gR hM
 simp only [dNet_val] at hM
 simp [dNet_val,← hgg,VM.look,bR,gR,onef,hF0]
 exact hM
end Go.Proofs.Ytcigpclbhfkgaaa.V
set_option linter.all false
namespace Go.Proofs.Ytcigpclbhfkgaaa.V
open Go Go.VM Go.Proofs
set_option maxRecDepth 10000
variable {frz:Nat} {H:Heap}
def fresh (x:NetD) (m:MeshD) (t:ClassesD):NetD:=(m,t,x.2.2.1,List.replicate x.2.2.2.1.length (-1),List.replicate x.2.2.2.2.1.length 0,x.2.2.2.2.2.1,x.2.2.2.2.2.2.1,x.2.2.2.2.2.2.2)
theorem rep_set {xs:List Int} {z:Int} {i:Nat} (h:i<xs.length):(List.replicate i z++xs.drop i).set i z=List.replicate (i+1) z++xs.drop (i+1):=by
 rw [List.set_append_right _ _ (by simp),List.length_replicate,Nat.sub_self,List.drop_eq_getElem_cons h,List.set_cons_zero,List.replicate_succ']
 simp
theorem replaced_d {v:NetV} {x:NetD} {vm:Value} {w' h':Int} {b':List Int} {vc:Value×Value} {c':ClassesD} (o:dNet.Ow H v x) (om:dMesh.Ow H vm (w',h',b')) (oc:dClasses.Ow H vc c') :
 wp (vcall C frz 82 [dNet.val v x,.agg #[.int .i64 w',.int .i64 h',vm],.agg #[vc.1,vc.2]] H) (dNet.Made H (fresh x (w',h',b') c')):=by
 have ones:=dNet_one o
 have onem:=dMesh_one om
 have onec:=dClasses_one oc
 have ecopy:=fun L=>copyNet_d (frz:=H.length) (H:=H++L) (v:=v) (x:=x) (Dt.app (T:=dNet) o)
 obtain ⟨u2,⟨u3,u4⟩,⟨u5,h5⟩,u6,u7,⟨u8,h8⟩,⟨u9,h9⟩,_⟩:=v
 obtain ⟨⟨w,h,b⟩,⟨A,B⟩,buf,own,turn,src,arr,tm⟩:=x
 simp only at ones
 simp only [dNet_val] at ecopy ⊢
 rw [vcall_go (fn:=Try.f82) Try.func82 rfl (by kernel_rfl) rfl]
 simp [ones,onem,onec]
 refine wp_thn (ecopy _) ?_
 rintro _ K1 ⟨n,rfl,o1,c1,m1,d1⟩
 clear ecopy
 have bM:K1[H.length+1]? = some ⟨[.int .i64 w',.int .i64 h',vm],0,38⟩:=box_chg (by simp) c1 (by simp)
 have bC:K1[H.length+2]? = some ⟨[vc.1,vc.2],0,42⟩:=box_chg (by simp) c1 (by simp)
 have bR:K1[H.length+3]? = some ⟨[.int .i64 0,.int .i64 0,.slice none 0 0,.slice none 0 0,.slice none 0 0,.slice none 0 0,.slice none 0 0,.slice none 0 0,.slice none 0 0,.slice none 0 0,.int .i64 0],0,59⟩:=box_chg (by simp) c1 (by simp)
 have cH:Chg H K1 []:=(Chg.app []).trans c1
 have lc1:=c1.1
 simp at lc1 m1
 have q:=dNet_one o1
 have lt1:=dNet.lt o1
 obtain ⟨n1,n2,n3,n4,n5,n6,n7,nz⟩:=n
 obtain ⟨y1,y2,y3,y4,y5,y6,y7,_⟩:=o1
 simp only at y1 y2 y3 y4 y5 y6 y7 q
 have eid:dNet.ids (n1,n2,n3,n4,n5,n6,n7,nz)=dMesh.ids n1++(dClasses.ids n2++(dSS.ids n3++(dIntS.ids n4++(dIntS.ids n5++(dSS.ids n6++(dSS.ids n7++[])))))):=rfl
 rw [eid] at m1 d1 lt1
 obtain ⟨d11,d12,_⟩:=List.nodup_append.1 d1
 obtain ⟨d21,d22,_⟩:=List.nodup_append.1 d12
 have mr:∀i∈dSS.ids n3++(dIntS.ids n4++(dIntS.ids n5++(dSS.ids n6++(dSS.ids n7++[])))),H.length+4≤i∧i<K1.length:=fun i hi=>⟨m1 i (List.mem_append.2 (.inr (List.mem_append.2 (.inr hi)))),lt1 i (List.mem_append.2 (.inr (List.mem_append.2 (.inr hi))))⟩
 have ml:∀i∈dMesh.ids n1,H.length+4≤i∧i<K1.length:=fun i hi=>⟨m1 i (List.mem_append.2 (.inl hi)),lt1 i (List.mem_append.2 (.inl hi))⟩
 have mk:∀i∈dClasses.ids n2,H.length+4≤i∧i<K1.length:=fun i hi=>⟨m1 i (List.mem_append.2 (.inr (List.mem_append.2 (.inl hi)))),lt1 i (List.mem_append.2 (.inr (List.mem_append.2 (.inl hi))))⟩
 clear m1 d1 lt1 eid d11 d12 d21
 obtain ⟨d31,d32,d33⟩:=List.nodup_append.1 d22
 obtain ⟨d41,d42,d43⟩:=List.nodup_append.1 d32
 obtain ⟨d51,d52,d53⟩:=List.nodup_append.1 d42
 have in3:∀i∈dSS.ids n3,H.length+4≤i∧i<K1.length:=fun i hi=>mr i (List.mem_append.2 (.inl hi))
 have in4:∀i∈dIntS.ids n4,H.length+4≤i∧i<K1.length:=fun i hi=>mr i (List.mem_append.2 (.inr (List.mem_append.2 (.inl hi))))
 have in5:∀i∈dIntS.ids n5,H.length+4≤i∧i<K1.length:=fun i hi=>mr i (List.mem_append.2 (.inr (List.mem_append.2 (.inr (List.mem_append.2 (.inl hi))))))
 have in6:∀i∈dSS.ids n6,H.length+4≤i∧i<K1.length:=fun i hi=>mr i (List.mem_append.2 (.inr (List.mem_append.2 (.inr (List.mem_append.2 (.inr (List.mem_append.2 (.inl hi))))))))
 have in7:∀i∈dSS.ids n7,H.length+4≤i∧i<K1.length:=fun i hi=>mr i (List.mem_append.2 (.inr (List.mem_append.2 (.inr (List.mem_append.2 (.inr (List.mem_append.2 (.inr (List.mem_append.2 (.inl hi))))))))))
 have x43:∀i∈dIntS.ids n4,i∉dSS.ids n3:=fun i hi hh=>d33 i hh i (List.mem_append.2 (.inl hi)) rfl
 have x53:∀i∈dIntS.ids n5,i∉dSS.ids n3:=fun i hi hh=>d33 i hh i (List.mem_append.2 (.inr (List.mem_append.2 (.inl hi)))) rfl
 have x54:∀i∈dIntS.ids n5,i∉dIntS.ids n4:=fun i hi hh=>d43 i hh i (List.mem_append.2 (.inl hi)) rfl
 have x64:∀i∈dSS.ids n6,i∉dIntS.ids n4:=fun i hi hh=>d43 i hh i (List.mem_append.2 (.inr (List.mem_append.2 (.inl hi)))) rfl
 have x74:∀i∈dSS.ids n7,i∉dIntS.ids n4:=fun i hi hh=>d43 i hh i (List.mem_append.2 (.inr (List.mem_append.2 (.inr (List.mem_append.2 (.inl hi)))))) rfl
 have x65:∀i∈dSS.ids n6,i∉dIntS.ids n5:=fun i hi hh=>d53 i hh i (List.mem_append.2 (.inl hi)) rfl
 have x75:∀i∈dSS.ids n7,i∉dIntS.ids n5:=fun i hi hh=>d53 i hh i (List.mem_append.2 (.inr (List.mem_append.2 (.inl hi)))) rfl
 have hF1:H.length≤K1.length:=by omega
 simp [dNet_val,VM.look,bM,bC,q,onem,onec,hF1]
 rw [go_draw (h:=by kernel_rfl)]
 simp [VM.look,bM,bC,q,onem,onec,hF1]
 obtain ⟨G1,hG1⟩:∃G,G=K1++[⟨[.int .i64 w,.int .i64 h,n1,n2.1,n2.2,n3.1,n4,n5,n6.1,n7.1,.int .i64 tm],0,59⟩]:=⟨_,rfl⟩
 have bO:G1[K1.length]? = some ⟨[.int .i64 w,.int .i64 h,n1,n2.1,n2.2,n3.1,n4,n5,n6.1,n7.1,.int .i64 tm],0,59⟩:=by rw [hG1];simp
 have aG:Chg K1 G1 []:=by rw [hG1];exact Chg.app []
 have gl:K1.length+1≤G1.length:=by rw [hG1];simp
 try rw [← hG1]
 clear hG1
 have bM:=box_chg bM aG (by simp)
 have bC:=box_chg bC aG (by simp)
 have bR:=box_chg bR aG (by simp)
 have cH:=cH.trans aG
 have y3:=Dt.chg0 (T:=dSS) y3 aG
 have y4:=Dt.chg0 (T:=dIntS) y4 aG
 have y5:=Dt.chg0 (T:=dIntS) y5 aG
 have y6:=Dt.chg0 (T:=dSS) y6 aG
 have y7:=Dt.chg0 (T:=dSS) y7 aG
 try simp [VM.look,bM,onem]
 refine wp_thn (copyMesh_w w' h' vm b' (Rd.isI (om.1.rd.chg cH (by simp))) om.2) ?_
 rintro _ G2 ⟨m1,rfl,om1,c2,mm1,dm1⟩
 have qm:=dMesh_one om1
 have lm:=dMesh.lt om1
 have bM:=box_chg bM c2 (by simp)
 have bC:=box_chg bC c2 (by simp)
 have bR:=box_chg bR c2 (by simp)
 have bO:=box_chg bO c2 (by simp)
 have cH:=cH.trans c2
 have gl2:=c2.1
 have y3:=Dt.chg0 (T:=dSS) y3 c2
 have y4:=Dt.chg0 (T:=dIntS) y4 c2
 have y5:=Dt.chg0 (T:=dIntS) y5 c2
 have y6:=Dt.chg0 (T:=dSS) y6 c2
 have y7:=Dt.chg0 (T:=dSS) y7 c2
 simp [dMesh_val,VM.look,bC,onec]
 refine wp_thn (copyClasses_w vc.1 vc.2 c'.1 c'.2 (Rd.isI (oc.1.1.rd.chg cH (by simp))) (Rd.isI (oc.2.1.rd.chg cH (by simp))) oc.1.2 oc.2.2) ?_
 rintro _ G3 ⟨m2,rfl,om2,c3,mm2,dm2⟩
 have qc:=dClasses_one om2
 have lc:=dClasses.lt om2
 have bR:=box_chg bR c3 (by simp)
 have bO:=box_chg bO c3 (by simp)
 have cH:=cH.trans c3
 have gl3:=c3.1
 have om1:=Dt.chg0 (T:=dMesh) om1 c3
 have y3:=Dt.chg0 (T:=dSS) y3 c3
 have y4:=Dt.chg0 (T:=dIntS) y4 c3
 have y5:=Dt.chg0 (T:=dIntS) y5 c3
 have y6:=Dt.chg0 (T:=dSS) y6 c3
 have y7:=Dt.chg0 (T:=dSS) y7 c3
 have bO1:=set_get (r':=⟨[.int .i64 w',.int .i64 h',m1,n2.1,n2.2,n3.1,n4,n5,n6.1,n7.1,.int .i64 tm],0,59⟩) bO
 have bO2:=set_get (r':=⟨[.int .i64 w',.int .i64 h',m1,m2.1,m2.2,n3.1,n4,n5,n6.1,n7.1,.int .i64 tm],0,59⟩) bO
 have eO:Chg G3 (G3.set K1.length ⟨[.int .i64 w',.int .i64 h',m1,m2.1,m2.2,n3.1,n4,n5,n6.1,n7.1,.int .i64 tm],0,59⟩) [K1.length]:=chg_set _ _
 have bR:=box_chg bR eO (by simp;omega)
 have cH:=cH.trans' eO (fun i hi=>.inr (by simp at hi;omega))
 have om1:=Dt.chg (T:=dMesh) om1 eO (fun i hi hh=>by have:=mm1 i hi;simp at hh;omega)
 have om2:=Dt.chg (T:=dClasses) om2 eO (fun i hi hh=>by have:=mm2 i hi;simp at hh;omega)
 have y3:=Dt.chg (T:=dSS) y3 eO (fun i hi hh=>by have:=in3 i hi;simp at hh;omega)
 have y4:=Dt.chg (T:=dIntS) y4 eO (fun i hi hh=>by have:=in4 i hi;simp at hh;omega)
 have y5:=Dt.chg (T:=dIntS) y5 eO (fun i hi hh=>by have:=in5 i hi;simp at hh;omega)
 have y6:=Dt.chg (T:=dSS) y6 eO (fun i hi hh=>by have:=in6 i hi;simp at hh;omega)
 have y7:=Dt.chg (T:=dSS) y7 eO (fun i hi hh=>by have:=in7 i hi;simp at hh;omega)
 have gl4:(G3.set K1.length ⟨[.int .i64 w',.int .i64 h',m1,m2.1,m2.2,n3.1,n4,n5,n6.1,n7.1,.int .i64 tm],0,59⟩).length=G3.length:=by simp
 simp [dMesh_val,dClasses_val,VM.look,bO,bO1,q,qm,qc,hF1]
 generalize G3.set K1.length ⟨[.int .i64 w',.int .i64 h',m1,m2.1,m2.2,n3.1,n4,n5,n6.1,n7.1,.int .i64 tm],0,59⟩=G4 at *
 have bO:=bO2
 clear bO2 bM bC aG c2 c3 eO y1 y2
 have hb4:=y4.2
 have hb5:=y5.2
 have l4:=y4.1.rd.len (P:=Try.prog) (ty:=24) (by simp)
 try simp [VM.look,bO,q,qm,qc,l4]
 refine wp_inv (fun m t H'=>∃i:Nat,m=own.length-i∧i≤own.length∧t 6=.pointer (some ⟨H.length+3,0,some 0⟩)∧t 7=.pointer (some ⟨K1.length,0,some 0⟩)∧t 20=.int .i64 own.length∧t 21=.int .i64 i∧Chg G4 H' (dIntS.ids n4)∧Ow Fl.int 3 H' n4 (List.replicate i (-1)++own.drop i)) ?_ (n:=own.length)
  ⟨0,rfl,by omega,by simp,by simp,by simp,by simp,Chg.refl _,by simpa using y4.1⟩
 rintro m t H' ⟨i,rfl,hi,t6,t7,t20,t21,c4,o4⟩ ih
 have bO':=box_chg bO c4 (fun hh=>by have:=in4 _ hh;omega)
 have hll:(List.replicate i (-1:Int)++own.drop i).length=own.length:=by simp;omega
 have l4':=o4.rd.len (P:=Try.prog) (ty:=24) (by simp)
 rw [hll] at l4'
 simp [t6,t7,t20,t21,VM.look,bO',q,l4']
 refine wp_dec ?_ ?_<;>intro g
 ·have hi':i<own.length:=by omega
  have q1:=o4.rd.isI.idx (P:=Try.prog) (ty:=24) (e:=3) (by simp) (i:=(i:Int)) (by omega) (by omega)
  simp only [Int.toNat_natCast] at q1
  obtain ⟨H5,s5,o5,c5,l5⟩:=o4.put1 (P:=Try.prog) (frz:=H.length) rfl (et:=3) (ag:=false) (x:=.int .i64 (-1)) (by simp) (j:=i) (y:=-1) (by omega) rfl rfl rfl (fun j hj=>by have:=in4 j hj;omega)
  rw [rep_set hi'] at o5
  simp [t6,t7,t20,t21,VM.look,bO',q,q1,s5]
  refine ih (own.length-(i+1)) _ _ ⟨i+1,rfl,by omega,by simp [t6],by simp [t7],by simp [t20],?_,c4.trans c5,o5⟩ (by omega)
  simp;rw [w64 (by omega) (by omega)]
 have:i=own.length:=by omega
 subst this
 clear ih
 have bR:=box_chg bR c4 (fun hh=>by have:=in4 _ hh;omega)
 have bO:=bO'
 have cH:=cH.trans' c4 (fun j hj=>.inr (by have:=in4 j hj;omega))
 have gl5:=c4.1
 have om1:=Dt.chg (T:=dMesh) om1 c4 (fun j hj hh=>by have:=mm1 j hj;have:=in4 j hh;omega)
 have om2:=Dt.chg (T:=dClasses) om2 c4 (fun j hj hh=>by have:=mm2 j hj;have:=in4 j hh;omega)
 have y3:=Dt.chg (T:=dSS) y3 c4 (fun j hj hh=>x43 j hh hj)
 have y5:=Dt.chg (T:=dIntS) y5 c4 x54
 have y6:=Dt.chg (T:=dSS) y6 c4 x64
 have y7:=Dt.chg (T:=dSS) y7 c4 x74
 have o4:Ow Fl.int 3 H' n4 (List.replicate own.length (-1)):=by simpa using o4
 have b4:=y4.2
 have b5:=y5.2
 clear y4 c4 bO' g l4' hll hi
 have l5:=y5.1.rd.len (P:=Try.prog) (ty:=24) (by simp)
 simp [t6,t7,t20,t21,VM.look,bO,q,l5]
 refine wp_inv (fun m t H2=>∃i:Nat,m=turn.length-i∧i≤turn.length∧t 6=.pointer (some ⟨H.length+3,0,some 0⟩)∧t 7=.pointer (some ⟨K1.length,0,some 0⟩)∧t 31=.int .i64 turn.length∧t 32=.int .i64 i∧Chg H' H2 (dIntS.ids n5)∧Ow Fl.int 3 H2 n5 (List.replicate i 0++turn.drop i)) ?_ (n:=turn.length)
  ⟨0,rfl,by omega,by simp [t6],by simp [t7],by simp,by simp,Chg.refl _,by simpa using y5.1⟩
 clear t6 t7 t20 t21
 rintro m t H2 ⟨i,rfl,hi,t6,t7,t31,t32,c5,o5⟩ ih
 have bO':=box_chg bO c5 (fun hh=>by have:=in5 _ hh;omega)
 have hll:(List.replicate i (0:Int)++turn.drop i).length=turn.length:=by simp;omega
 simp [t6,t7,t31,t32]
 refine wp_dec ?_ ?_<;>intro g
 ·have hi':i<turn.length:=by omega
  have q1:=o5.rd.isI.idx (P:=Try.prog) (ty:=24) (e:=3) (by simp) (i:=(i:Int)) (by omega) (by omega)
  simp only [Int.toNat_natCast] at q1
  obtain ⟨H5,s5,o5',c5',l5'⟩:=o5.put1 (P:=Try.prog) (frz:=H.length) rfl (et:=3) (ag:=false) (x:=.int .i64 0) (by simp) (j:=i) (y:=0) (by omega) rfl rfl rfl (fun j hj=>by have:=in5 j hj;omega)
  rw [rep_set hi'] at o5'
  simp [t6,t7,t31,t32,VM.look,bO',q,q1,s5]
  refine ih (turn.length-(i+1)) _ _ ⟨i+1,rfl,by omega,by simp [t6],by simp [t7],by simp [t31],?_,c5.trans c5',o5'⟩ (by omega)
  simp;rw [w64 (by omega) (by omega)]
 have:i=turn.length:=by omega
 subst this
 clear ih
 have bR:=box_chg bR c5 (fun hh=>by have:=in5 _ hh;omega)
 have bO:=bO'
 have cH:=cH.trans' c5 (fun j hj=>.inr (by have:=in5 j hj;omega))
 have om1:=Dt.chg (T:=dMesh) om1 c5 (fun j hj hh=>by have:=mm1 j hj;have:=in5 j hh;omega)
 have om2:=Dt.chg (T:=dClasses) om2 c5 (fun j hj hh=>by have:=mm2 j hj;have:=in5 j hh;omega)
 have y3:=Dt.chg (T:=dSS) y3 c5 (fun j hj hh=>x53 j hh hj)
 have o4:=o4.chg c5 (fun j hj hh=>x54 j hh hj)
 have y6:=Dt.chg (T:=dSS) y6 c5 x65
 have y7:=Dt.chg (T:=dSS) y7 c5 x75
 have o5:Ow Fl.int 3 H2 n5 (List.replicate turn.length 0):=by simpa using o5
 have gR:=set_get (r':=⟨[.int .i64 w',.int .i64 h',m1,m2.1,m2.2,n3.1,n4,n5,n6.1,n7.1,.int .i64 tm],0,59⟩) bR
 have hF3:H.length≤H.length+3:=by omega
 have eR:Chg H2 (H2.set (H.length+3) ⟨[.int .i64 w',.int .i64 h',m1,m2.1,m2.2,n3.1,n4,n5,n6.1,n7.1,.int .i64 tm],0,59⟩) [H.length+3]:=chg_set _ _
 simp [t6,t7,t31,t32,VM.look,bO,bR,q,qm,qc,gR,hF3]
 refine ⟨(m1,m2,n3,n4,n5,n6,n7,()),rfl,⟨Dt.chg (T:=dMesh) om1 eR (fun j hj hh=>by have:=mm1 j hj;simp at hh;omega),Dt.chg (T:=dClasses) om2 eR (fun j hj hh=>by have:=mm2 j hj;simp at hh;omega),Dt.chg (T:=dSS) y3 eR (fun j hj hh=>by have:=in3 j hj;simp at hh;omega),
  ⟨o4.chg eR (fun j hj hh=>by have:=in4 j hj;simp at hh;omega),by show (List.replicate own.length (-1)).length≤_;simpa using b4⟩,⟨o5.chg eR (fun j hj hh=>by have:=in5 j hj;simp at hh;omega),by show (List.replicate turn.length 0).length≤_;simpa using b5⟩,Dt.chg (T:=dSS) y6 eR (fun j hj hh=>by have:=in6 j hj;simp at hh;omega),Dt.chg (T:=dSS) y7 eR (fun j hj hh=>by have:=in7 j hj;simp at hh;omega),trivial⟩,
  cH.trans' eR (fun j hj=>.inr (by simp at hj;omega)),fun j hj=>?_,?_⟩
 ·rcases List.mem_append.1 hj with hj|hj
  ·have:=mm1 j hj;omega
  rcases List.mem_append.1 hj with hj|hj
  ·have:=mm2 j hj;omega
  ·have:=mr j hj;omega
 ·refine List.nodup_append.2 ⟨dm1,List.nodup_append.2 ⟨dm2,d22,fun a ha b hb e=>by have:=mm2 a ha;have:=mr b hb;omega⟩,fun a ha b hb e=>?_⟩
  rcases List.mem_append.1 hb with hb|hb
  ·have:=lm a ha;have:=mm2 b hb;omega
  ·have:=mm1 a ha;have:=mr b hb;omega
def replOk (x:NetD) (t:ClassesD):Prop:=idleOk x∧classesOk x.1.1 x.1.2.1 x.1.2.2 t.1 t.2
instance (x:NetD) (t:ClassesD):Decidable (replOk x t):=inferInstanceAs (Decidable (_∧_))
def repl (x:NetD) (t:ClassesD):NetD:=if replOk x t then fresh x x.1 t else x
theorem replace_d {v:NetV} {x:NetD} {vc:Value×Value} {t:ClassesD} (o:dNet.Ow H v x) (oc:dClasses.Ow H vc t) :
 wp (vcall C frz 36 [dNet.val v x,dClasses.val vc t] H) (Made2 dNet H (repl x t) (decide (replOk x t))):=by
 have ones:=dNet_one o
 have onec:=dClasses_one oc
 have ii:=fun F L=>isIdle_d (frz:=F) (H:=H++L) (v:=v) (x:=x) (Dt.app (T:=dNet) o)
 have ck:=fun F L=>classesOk_c (frz:=F) (H:=H++L) x.1.1 x.1.2.1 v.1 vc.1 vc.2 x.1.2.2 t.1 t.2 (Rd.isI o.1.1.rd.app) (Rd.isI oc.1.1.rd.app) (Rd.isI oc.2.1.rd.app) o.1.2
 have ecopy:=fun L=>copyNet_d (frz:=H.length) (H:=H++L) (v:=v) (x:=x) (Dt.app (T:=dNet) o)
 have efresh:=fun L=>replaced_d (frz:=H.length) (H:=H++L) (v:=v) (x:=x) (vm:=v.1) (w':=x.1.1) (h':=x.1.2.1) (b':=x.1.2.2) (vc:=vc) (c':=t) (Dt.app (T:=dNet) o) (Dt.app (T:=dMesh) o.1) (Dt.app (T:=dClasses) oc)
 simp only [dNet_val,dClasses_val] at ii ecopy efresh ⊢
 rw [vcall_go (fn:=Try.f36) Try.func36 rfl (by kernel_rfl) rfl]
 have hF:H.length≤H.length+2:=by omega
 have key:∀(y:NetD) (n:NetV) (K:Heap) (ok:Bool),dNet.Ow K n y→Chg (H++[⟨[.int .i64 x.1.1,.int .i64 x.1.2.1,v.1,v.2.1.1,v.2.1.2,v.2.2.1.1,v.2.2.2.1,v.2.2.2.2.1,v.2.2.2.2.2.1.1,v.2.2.2.2.2.2.1.1,.int .i64 x.2.2.2.2.2.2.2],0,59⟩,⟨[vc.1,vc.2],0,42⟩,⟨[.int .i64 0,.int .i64 0,.slice none 0 0,.slice none 0 0,.slice none 0 0,.slice none 0 0,.slice none 0 0,.slice none 0 0,.slice none 0 0,.slice none 0 0,.int .i64 0],0,59⟩]) K []→(∀i∈dNet.ids n,H.length+3≤i)→(dNet.ids n).Nodup→repl x t=y→decide (replOk x t)=ok→
  K[H.length+2]? = some ⟨[.int .i64 0,.int .i64 0,.slice none 0 0,.slice none 0 0,.slice none 0 0,.slice none 0 0,.slice none 0 0,.slice none 0 0,.slice none 0 0,.slice none 0 0,.int .i64 0],0,59⟩∧Made2 dNet H (repl x t) (decide (replOk x t)) (.tuple #[dNet.val n y,.bool ok]) (K.set (H.length+2) ⟨[.int .i64 y.1.1,.int .i64 y.1.2.1,n.1,n.2.1.1,n.2.1.2,n.2.2.1.1,n.2.2.2.1,n.2.2.2.2.1,n.2.2.2.2.2.1.1,n.2.2.2.2.2.2.1.1,.int .i64 y.2.2.2.2.2.2.2],0,59⟩):=by
  intro y n K ok on ck mn dn e1 e2
  have bR:K[H.length+2]? = some ⟨[.int .i64 0,.int .i64 0,.slice none 0 0,.slice none 0 0,.slice none 0 0,.slice none 0 0,.slice none 0 0,.slice none 0 0,.slice none 0 0,.slice none 0 0,.int .i64 0],0,59⟩:=box_chg (by simp) ck (by simp)
  refine ⟨bR,dNet.val n y,by rw [e2],n,by rw [e1],?_,?_,fun i hi=>by have:=mn i hi;omega,dn⟩
  ·rw [e1];exact Dt.chg (T:=dNet) on (chg_set _ _) (fun i hi hh=>by have:=mn i hi;simp at hh;omega)
  ·exact ((Chg.app []).trans ck).trans' (chg_set _ _) (fun i hi=>.inr (by simp at hi;omega))
 have fail:¬replOk x t→repl x t=x∧decide (replOk x t)=false:=fun hh=>⟨if_neg hh,decide_eq_false hh⟩
 simp [ones,onec,ii]
 by_cases g1:idleOk x
 rotate_left
 ·simp [g1,ones,onec]
  refine wp_thn (ecopy _) ?_
  rintro _ K ⟨n,rfl,on,cn,mn,dn⟩
  obtain ⟨f1,f2⟩:=fail (fun k=>g1 k.1)
  simp at mn
  obtain ⟨bR,hm⟩:=key x n K false on cn mn dn f1 f2
  have qn:=dNet_one on
  have gR:=set_get (r':=⟨[.int .i64 x.1.1,.int .i64 x.1.2.1,n.1,n.2.1.1,n.2.1.2,n.2.2.1.1,n.2.2.2.1,n.2.2.2.2.1,n.2.2.2.2.2.1.1,n.2.2.2.2.2.2.1.1,.int .i64 x.2.2.2.2.2.2.2],0,59⟩) bR
  simp [dNet_val,VM.look,bR,qn,gR,hF]
  exact hm
 simp [g1,ones,onec,ck]
 by_cases g2:classesOk x.1.1 x.1.2.1 x.1.2.2 t.1 t.2
 rotate_left
 ·simp [g2,ones,onec]
  refine wp_thn (ecopy _) ?_
  rintro _ K ⟨n,rfl,on,cn,mn,dn⟩
  obtain ⟨f1,f2⟩:=fail (fun k=>g2 k.2)
  simp at mn
  obtain ⟨bR,hm⟩:=key x n K false on cn mn dn f1 f2
  have qn:=dNet_one on
  have gR:=set_get (r':=⟨[.int .i64 x.1.1,.int .i64 x.1.2.1,n.1,n.2.1.1,n.2.1.2,n.2.2.1.1,n.2.2.2.1,n.2.2.2.2.1,n.2.2.2.2.2.1.1,n.2.2.2.2.2.2.1.1,.int .i64 x.2.2.2.2.2.2.2],0,59⟩) bR
  simp [dNet_val,VM.look,bR,qn,gR,hF]
  exact hm
 simp [g2,ones,onec]
 refine wp_thn (efresh _) ?_
 rintro _ K ⟨n,rfl,on,cn,mn,dn⟩
 simp at mn
 have e1:repl x t=fresh x (x.1.1,x.1.2.1,x.1.2.2) t:=if_pos ⟨g1,g2⟩
 obtain ⟨bR,hm⟩:=key _ n K true on cn mn dn e1 (decide_eq_true ⟨g1,g2⟩)
 have qn:=dNet_one on
 have gR:=set_get (r':=⟨[.int .i64 (fresh x (x.1.1,x.1.2.1,x.1.2.2) t).1.1,.int .i64 (fresh x (x.1.1,x.1.2.1,x.1.2.2) t).1.2.1,n.1,n.2.1.1,n.2.1.2,n.2.2.1.1,n.2.2.2.1,n.2.2.2.2.1,n.2.2.2.2.2.1.1,n.2.2.2.2.2.2.1.1,.int .i64 (fresh x (x.1.1,x.1.2.1,x.1.2.2) t).2.2.2.2.2.2.2],0,59⟩) bR
 simp [dNet_val,VM.look,bR,qn,gR,hF]
 exact hm
def freeOk (x:NetD):Prop:=netOk x∧∀o∈x.2.2.2.1,inR (-1) o (-1)
instance (x:NetD):Decidable (freeOk x):=inferInstanceAs (Decidable (_∧_))
theorem allFree_d {v:NetV} {x:NetD} (o:dNet.Ow H v x):vcall C frz 28 [dNet.val v x] H=some (.bool (decide (freeOk x)),H):=by
 have ones:=dNet_one o
 have nk:=fun F L=>netOk_d (frz:=F) (H:=H++L) (v:=v) (x:=x) (Dt.app (T:=dNet) o)
 obtain ⟨_,_,_,o6,_⟩:=o
 have ai:=fun F L=>areInside_c (frz:=F) (H:=H++L) v.2.2.2.1 x.2.2.2.1 (-1) (-1) (Rd.isI o6.1.rd.app) (by have:=o6.2;omega)
 simp only [dNet_val] at nk ⊢
 refine wp.exact (by simp) ?_ rfl
 rw [vcall_go (fn:=Try.f28) Try.func28 rfl (by kernel_rfl) rfl]
 have hY:decide (freeOk x)=(decide (netOk x)&&decide (∀o∈x.2.2.2.1,inR (-1) o (-1))):=by
  rw [Bool.eq_iff_iff];simp only [decide_eq_true_eq,Bool.and_eq_true];exact Iff.rfl
 generalize decide (freeOk x)=Y at *
 generalize decide (netOk x)=P1 at *
 generalize decide (∀o∈x.2.2.2.1,inR (-1) o (-1))=P2 at *
 simp [ones,nk]
 cases P1<;>cases P2<;>simp [ones,ai,hY]
end Go.Proofs.Ytcigpclbhfkgaaa.V
set_option linter.all false
namespace Go.Proofs.Ytcigpclbhfkgaaa.V
open Go Go.VM Go.Proofs
set_option maxRecDepth 10000
variable {frz:Nat} {H:Heap} {r:Nat} {vb:Value} {code:List Int}
theorem drawNet_w (vb:Value) (code:List Int) (hb:Rd Fl.u8 H vb code) (hl:code.length≤1073741824):wp (vcall C frz 45 [vb] H) (fun u H'=>NetD' H [] u H'):=by
 rw [vcall_go (fn:=Try.f45) Try.func45 rfl (by kernel_rfl) rfl]
 simp
 refine wp_thn (l01New_w vb code hb.app hl) ?_
 rintro _ H1 ⟨r,rfl,hr,c1,ch1⟩
 have cH:Chg H H1 []:=(Chg.app []).trans ch1
 have b1:H1[H.length]? = some ⟨zNet0,0,59⟩:=box_chg (by simp [zNet0]) ch1 (by simp)
 simp at hr
 simp
 refine wp_thn (l20Net_w c1 (by omega)) ?_
 rintro _ H2 ⟨v,x,rfl,o,nd,nv,c2,h1,h2,h3⟩
 have b2:=box_chg b1 c2 (by simp;omega)
 have g2:=set_get (r':=⟨netCells v x,0,59⟩) b2
 have one:=dNet_one o
 have l1:=cH.1
 have k1:=box_lt b1
 have hM:NetD' H [] (dNet.val v x) (H2.set H.length ⟨netCells v x,0,59⟩):=⟨v,x,rfl,Dt.chg (T:=dNet) o (chg_set _ _) (fun i hi hh=>by have:=nv i hi;simp at hh;omega),nd,fun i hi=>by have:=nv i hi;omega,(cH.trans' c2 (fun i hi=>.inr (by simp at hi;omega))).trans' (chg_set _ _) (fun i hi=>.inr (by simp at hi;omega)),h1,h2,h3⟩
 unfold zNet0 at b2
 unfold netCells at g2 hM
 simp only [dNet_val] at hM
 simp [dNet_val,VM.look,b2,g2,one]
 exact hM
def ClsD (H:Heap) (is:List Nat) (u:Value) (H':Heap):Prop:=∃(w h:Int) (vc:Value×Value) (t:ClassesD),u=.tuple #[.agg #[.int .i64 w,.int .i64 h,.slice none 0 0],.agg #[vc.1,vc.2]]∧classesOk w h [] t.1 t.2∧dClasses.Ow H' vc t∧(∀i∈dClasses.ids vc,H.length≤i)∧Chg H H' is
theorem l12Case_w (c:Cur H r vb code) (hf:frz≤r):wp (vcall C frz 99 [.pointer (some ⟨r,0,some 0⟩)] H) (fun u H'=>ClsD H [r] u H'):=by
 have lt:=c.lt
 have vlt:=c.vlt
 rw [vcall_go (fn:=Try.f99) Try.func99 rfl (by kernel_rfl) rfl]
 simp
 refine wp_thn (l02Grid_w (c.app _) hf) ?_
 rintro _ K ⟨⟨w,h,rfl,hg⟩,c1,d1⟩
 have cK:Chg H K [r]:=(Chg.app [r]).trans c1
 have lK:=c1.1
 simp at lK
 have bM:K[H.length]? = some ⟨[.int .i64 0,.int .i64 0,.slice none 0 0],0,38⟩:=box_chg (by simp) c1 (by simp;omega)
 have bC:K[H.length+1]? = some ⟨[.slice none 0 0,.slice none 0 0],0,42⟩:=box_chg (by simp) c1 (by simp;omega)
 have hFK:frz≤K.length:=by omega
 obtain ⟨K1,hK1⟩:∃K1,K1=K++[⟨[.int .i64 w,.int .i64 h,.slice none 0 0],0,38⟩]:=⟨_,rfl⟩
 have cK1:Chg K K1 []:=by rw [hK1];exact Chg.app _
 have l1:K1.length=K.length+1:=by rw [hK1];simp
 have bG:K1[K.length]? = some ⟨[.int .i64 w,.int .i64 h,.slice none 0 0],0,38⟩:=by rw [hK1];simp
 have bM:=box_chg bM cK1 (by simp)
 have bC:=box_chg bC cK1 (by simp)
 have d1:=d1.chg0 cK1
 have hKs:=hK1.symm
 simp [hFK]
 rw [hKs]
 clear hK1 hKs
 obtain ⟨N,hN⟩:∃N:Nat,cnt w h=N:=⟨(cnt w h).toNat,by have:=cnt_range w h;omega⟩
 have lvG:∀J:Heap,VM.live J (.agg #[.int .i64 w,.int .i64 h]):=fun J c hc=>by simp at hc;rcases hc with rfl|rfl<;>trivial
 have lvM:∀J:Heap,VM.live J (.agg #[.int .i64 w,.int .i64 h,.slice none 0 0]):=fun J c hc=>by simp at hc;rcases hc with rfl|rfl|rfl<;>trivial
 rw [go_drawP (fl:=([0,2,5],[14,15])) (pl:=[0,1,2,3,7,8,9,4,5,6,10,11,12,13,14,15]) (h:=⟨by kernel_rfl,by kernel_rfl,by kernel_rfl,by kernel_rfl,by kernel_rfl,by kernel_rfl⟩)]
 simp [permA,renO,emps,empOp,empB,VM.look,bG,lvG,lvM]
 have bl:=l01Below_w (frz:=frz) d1 hf 4 (by decide) (by decide)
 refine wp_thnW (by simpa using bl) ?_
 rintro _ K2 ⟨⟨x,rfl,hx⟩,c2,d2⟩
 have e1:=@w6 (1+(x:Int)) (by omega)
 have bG:=box_chg bG c2 (by simp;omega)
 have bM:=box_chg bM c2 (by simp;omega)
 have bC:=box_chg bC c2 (by simp;omega)
 refine ⟨by simp [VM.look,bG,lvG,lvM],?_⟩
 simp [e1]
 refine wp_thnW (l05Make_w w h (1+x) N (by omega) hg hN) ?_
 rintro _ K3 ⟨v1,rfl,o1,c3,m1,n1⟩
 have d3:=d2.chg0 c3
 have q1:=dTable_one o1
 have bG:=box_chg bG c3 (by simp)
 have bM:=box_chg bM c3 (by simp)
 have bC:=box_chg bC c3 (by simp)
 have l2:=c2.1
 have l3:=c3.1
 refine ⟨by simp [VM.look,bG,lvG,lvM],?_⟩
 simp [dTable_val,VM.look,bG,lvG,lvM]
 have bl:=l01Below_w (frz:=frz) d3 hf 4 (by decide) (by decide)
 refine wp_thnW (by simpa using bl) ?_
 rintro _ K4 ⟨⟨y,rfl,hy⟩,c4,d4⟩
 have e2:=@w6 (1+(y:Int)) (by omega)
 have bG:=box_chg bG c4 (by simp;omega)
 have bM:=box_chg bM c4 (by simp;omega)
 have bC:=box_chg bC c4 (by simp;omega)
 refine ⟨by simp [VM.look,bG,lvG,lvM],?_⟩
 have o1:=Dt.chg (T:=dTable) o1 c4 (fun i hi hh=>by have:=m1 i hi;simp at hh;omega)
 simp [e2]
 refine wp_thnW (l05Make_w w h (1+y) N (by omega) hg hN) ?_
 rintro _ K5 ⟨v2,rfl,o2,c5,m2,n2⟩
 have q2:=dTable_one o2
 have bG:=box_chg bG c5 (by simp)
 have bM:=box_chg bM c5 (by simp)
 have bC:=box_chg bC c5 (by simp)
 refine ⟨by simp [VM.look,bG,lvG,lvM],?_⟩
 have o1:=Dt.chg (T:=dTable) o1 c5 (by simp)
 have l4:=c4.1
 have l5:=c5.1
 have gM:=set_get (r':=⟨[.int .i64 w,.int .i64 h,.slice none 0 0],0,38⟩) bM
 have cM:Chg K5 (K5.set H.length ⟨[.int .i64 w,.int .i64 h,.slice none 0 0],0,38⟩) [H.length]:=chg_set _ _
 have bC2:=box_chg bC cM (by simp)
 have gC:=set_get (r':=⟨[v1,v2],0,42⟩) bC2
 have cC:Chg (K5.set H.length ⟨[.int .i64 w,.int .i64 h,.slice none 0 0],0,38⟩) ((K5.set H.length ⟨[.int .i64 w,.int .i64 h,.slice none 0 0],0,38⟩).set (H.length+1) ⟨[v1,v2],0,42⟩) [H.length+1]:=chg_set _ _
 have gM2:=box_chg gM cC (by simp)
 have hF0:frz≤H.length:=by omega
 have hF1:frz≤H.length+1:=by omega
 have m1':∀i∈dTable.ids v1,H.length+2≤i:=fun i hi=>by have:=m1 i hi;omega
 have m2':∀i∈dTable.ids v2,H.length+2≤i:=fun i hi=>by have:=m2 i hi;omega
 have hcl:classesOk w h [] (stdTab w (1+x) N) (stdTab w (1+y) N):=⟨std_ok (by omega) hg hN,std_ok (by omega) hg hN⟩
 have oc:dClasses.Ow ((K5.set H.length ⟨[.int .i64 w,.int .i64 h,.slice none 0 0],0,38⟩).set (H.length+1) ⟨[v1,v2],0,42⟩) (v1,v2) (stdTab w (1+x) N,stdTab w (1+y) N):=
  ⟨Dt.chg (T:=dTable) (Dt.chg (T:=dTable) o1 cM (fun i hi hh=>by have:=m1' i hi;simp at hh;omega)) cC (fun i hi hh=>by have:=m1' i hi;simp at hh;omega),Dt.chg (T:=dTable) (Dt.chg (T:=dTable) o2 cM (fun i hi hh=>by have:=m2' i hi;simp at hh;omega)) cC (fun i hi hh=>by have:=m2' i hi;simp at hh;omega)⟩
 have cJ:Chg H ((K5.set H.length ⟨[.int .i64 w,.int .i64 h,.slice none 0 0],0,38⟩).set (H.length+1) ⟨[v1,v2],0,42⟩) [r]:=((((((cK.trans (cK1.mono (fun _ h=>by cases h))).trans c2).trans (c3.mono (fun _ h=>by cases h))).trans c4).trans (c5.mono (fun _ h=>by cases h))).trans' cM (fun i hi=>.inr (by simp at hi;omega))).trans' cC (fun i hi=>.inr (by simp at hi;omega))
 simp [dTable_val,q1,q2,VM.look,bM,bC2,gM,gC,gM2,hF0,hF1]
 exact ⟨w,h,(v1,v2),_,rfl,hcl,oc,fun i hi=>by
  rcases List.mem_append.1 hi with g|g
  ·have:=m1' i g;omega
  ·have:=m2' i g;omega,cJ⟩
theorem drawClasses_w (vb:Value) (code:List Int) (hb:Rd Fl.u8 H vb code) (hl:code.length≤1073741824):wp (vcall C frz 46 [vb] H) (fun u H'=>ClsD H [] u H'):=by
 rw [vcall_go (fn:=Try.f46) Try.func46 rfl (by kernel_rfl) rfl]
 simp
 refine wp_thn (l01New_w vb code hb.app hl) ?_
 rintro _ H1 ⟨r,rfl,hr,c1,ch1⟩
 have cH:Chg H H1 []:=(Chg.app []).trans ch1
 have bM:H1[H.length]? = some ⟨[.int .i64 0,.int .i64 0,.slice none 0 0],0,38⟩:=box_chg (by simp) ch1 (by simp)
 have bC:H1[H.length+1]? = some ⟨[.slice none 0 0,.slice none 0 0],0,42⟩:=box_chg (by simp) ch1 (by simp)
 have kb:=box_lt bC
 simp at hr
 simp
 refine wp_thn (l12Case_w c1 (by omega)) ?_
 rintro _ K ⟨w,h,vc,t,rfl,hcl,oc,mc,c2⟩
 have onec:=dClasses_one oc
 have bM:=box_chg bM c2 (by simp;omega)
 have bC:=box_chg bC c2 (by simp;omega)
 have gM:=set_get (r':=⟨[.int .i64 w,.int .i64 h,.slice none 0 0],0,38⟩) bM
 have cM:Chg K (K.set H.length ⟨[.int .i64 w,.int .i64 h,.slice none 0 0],0,38⟩) [H.length]:=chg_set _ _
 have bC2:=box_chg bC cM (by simp)
 have gC:=set_get (r':=⟨[vc.1,vc.2],0,42⟩) bC2
 have cC:Chg (K.set H.length ⟨[.int .i64 w,.int .i64 h,.slice none 0 0],0,38⟩) ((K.set H.length ⟨[.int .i64 w,.int .i64 h,.slice none 0 0],0,38⟩).set (H.length+1) ⟨[vc.1,vc.2],0,42⟩) [H.length+1]:=chg_set _ _
 have gM2:=box_chg gM cC (by simp)
 simp [VM.look,bM,bC2,gM,gC,gM2,onec]
 exact ⟨w,h,vc,t,rfl,hcl,Dt.chg (T:=dClasses) (Dt.chg (T:=dClasses) oc cM (fun i hi hh=>by have:=mc i hi;simp at hh;omega)) cC (fun i hi hh=>by have:=mc i hi;simp at hh;omega),fun i hi=>by have:=mc i hi;omega,((cH.trans' c2 (fun i hi=>.inr (by simp at hi;omega))).trans' cM (fun i hi=>.inr (by simp at hi;omega))).trans' cC (fun i hi=>.inr (by simp at hi;omega))⟩
theorem arrivedFlits_d {v:NetV} {x:NetD} (h:netOk x) (o:dNet.Ow H v x):vcall C frz 50 [dNet.val v x] H=some (.int .i64 (flits x.2.2.2.2.2.2.1),H):=by
 refine wp.exact (by simp) ?_ rfl
 have ones:=dNet_one o
 have nk:=fun F L=>netOk_d (frz:=F) (H:=H++L) (v:=v) (x:=x) (Dt.app (T:=dNet) o)
 have f1:=fun F L=>flitsIn_d (frz:=F) (H:=H++L) (Dt.app (T:=dSS) o.2.2.2.2.2.2.1)
 simp only [dNet_val] at nk ⊢
 rw [vcall_go (fn:=Try.f50) Try.func50 rfl (by kernel_rfl) rfl]
 simp [ones,VM.look,nk,h,f1]
theorem fresh_ok {x:NetD} {t:ClassesD} (h:idleOk x) (hc:classesOk x.1.1 x.1.2.1 x.1.2.2 t.1 t.2):netOk (fresh x x.1 t)∧idleOk (fresh x x.1 t)∧freeOk (fresh x x.1 t):=by
 obtain ⟨⟨h1,⟨s1,s2,s3,s4,s5⟩,h3,h4,h5,h6,h7⟩,hi⟩:=h
 have k:netOk (fresh x x.1 t):=by
  refine ⟨hc,⟨s1,?_,?_,s4,s5⟩,h3,h4,fun o ho=>?_,fun o ho=>?_,h7⟩
  ·show ((List.replicate _ _).length:Int)=_
   rw [List.length_replicate];exact s2
  ·show ((List.replicate _ _).length:Int)=_
   rw [List.length_replicate];exact s3
  ·have:=List.eq_of_mem_replicate ho;subst this;unfold inR;omega
  ·have:=List.eq_of_mem_replicate ho;subst this;unfold inR;omega
 exact ⟨k,⟨k,hi⟩,k,fun o ho=>by have:=List.eq_of_mem_replicate ho;subst this;unfold inR;omega⟩
end Go.Proofs.Ytcigpclbhfkgaaa.V
set_option linter.all false
namespace Go.Proofs.Ytcigpclbhfkgaaa.V
open Go Go.VM Go.Proofs
set_option maxRecDepth 10000
variable {frz:Nat} {H:Heap}
theorem sameFlits_c (a b:Value) (xs ys:List FlitD) (ha:Rd flF H a xs) (hb:Rd flF H b ys) (hl:xs.length≤1073741824) :
 vcall C frz 158 [a,b] H=some (.bool (decide (xs=ys)),H):=by
 rw [vcall_go (fn:=Try.f158) Try.func158 rfl (by kernel_rfl) rfl]
 simp [equalF_c a b xs ys ha hb hl]
theorem equalFunc_c (a b:Value) (hs gs:List Value) (xs ys:SSD) (ha:RdL flF H a hs xs) (hb:RdL flF H b gs ys) (hl:xs.length≤1073741824) (hl2:∀l∈xs,l.length≤1073741824) :
 vcall C frz 157 [a,b,.func (.func 158) #[] #[]] H=some (.bool (decide (xs=ys)),H):=by
 refine wp.exact (by simp) ?_ rfl
 rw [vcall_go (fn:=Try.f157) Try.func157 rfl (by kernel_rfl) rfl]
 generalize hY:decide (xs=ys)=Y
 have la:=ha.1.len (P:=Try.prog) (ty:=57) (by simp)
 have lb:=hb.1.len (P:=Try.prog) (ty:=57) (by simp)
 have ea:=ha.2.1
 have eb:=hb.2.1
 have no:¬xs=ys→Y=false:=fun hh=>by rw [← hY];exact decide_eq_false hh
 simp [la,lb,ea,eb]
 refine wp_dec ?_ ?_<;>intro h0
 ·have h0':xs.length=ys.length:=by omega
  simp [la,ea]
  refine wp_inv (fun n t H'=>∃i:Nat,n=xs.length-i∧i≤xs.length∧t 1=b∧t 2=.func (.func 158) #[] #[]∧t 15=a∧t 16=.int .i64 xs.length∧t 17=.int .i64 i∧H'=H∧xs.take i=ys.take i) ?_ (n:=xs.length) ⟨0,rfl,by omega,by simp,by simp,by simp,by simp,by simp,rfl,by simp⟩
  rintro n t H' ⟨i,rfl,hi,t1,t2,t15,t16,t17,rfl,h4⟩ ih
  simp [t1,t2,t15,t16,t17]
  refine wp_dec ?_ ?_<;>intro h
  ·have hx:i<xs.length:=by omega
   have hy:i<ys.length:=by omega
   obtain ⟨p,_,a2,a3,a4⟩:=RdL_at ha (ty:=57) (e:=123) (by simp) (by simp) hx
   obtain ⟨q,_,b2,b3,b4⟩:=RdL_at hb (ty:=57) (e:=123) (by simp) (by simp) hy
   have eq:=fun F=>sameFlits_c (frz:=F) p q xs[i] ys[i] a4 b4 (hl2 _ (List.getElem_mem hx))
   simp [t1,t2,t15,t16,t17,a2,a3,b2,b3,eq]
   refine wp_dec ?_ ?_<;>intro h5
   ·simp [t1,t2,t15,t16,t17]
    refine ih (xs.length-(i+1)) _ _ ⟨i+1,rfl,by omega,by simp [t1],by simp [t2],by simp [t15],by simp [t16],?_,rfl,?_⟩ (by omega)
    ·simp;rw [w64 (by omega) (by omega)]
    ·rw [List.take_succ_eq_append_getElem hx,List.take_succ_eq_append_getElem hy,h4,h5]
   ·simp [t1,t2,t15,t16,t17]
    exact no (fun hh=>h5 (by subst hh;rfl))
  ·have:i=xs.length:=by omega
   subst this
   rw [List.take_length,List.take_of_length_le (by omega)] at h4
   simp [t1,t2,t15,t16,t17]
   rw [← hY];exact decide_eq_true h4
 ·simp
  exact no (fun hh=>h0 (by rw [hh]))
theorem sameLists_c (a b:Value) (hs gs:List Value) (xs ys:SSD) (ha:RdL flF H a hs xs) (hb:RdL flF H b gs ys) (hl:xs.length≤1073741824) (hl2:∀l∈xs,l.length≤1073741824) :
 vcall C frz 103 [a,b] H=some (.bool (decide (xs=ys)),H):=by
 rw [vcall_go (fn:=Try.f103) Try.func103 rfl (by kernel_rfl) rfl]
 simp [equalFunc_c a b hs gs xs ys ha hb hl hl2]
theorem sameLists_d {a b:SSV} {x y:SSD} (ha:dSS.Ow H a x) (hb:dSS.Ow H b y):vcall C frz 103 [a.1,b.1] H=some (.bool (decide (x=y)),H):=
 sameLists_c a.1 b.1 a.2 b.2 x y ha.1.rd hb.1.rd (by have:=ha.2.1;omega) (fun l hl=>by have:=ha.2.2 l hl;omega)
theorem equalI_d {a b:Value} {x y:List Int} (ha:dIntS.Ow H a x) (hb:dIntS.Ow H b y):vcall C frz 104 [a,b] H=some (.bool (decide (x=y)),H):=
 equalI_c a b x y ha.1.rd hb.1.rd ha.2
theorem sameMesh_d {a b:Value} {w h w' h':Int} {x y:List Int} (ha:dMesh.Ow H a (w,h,x)) (hb:dMesh.Ow H b (w',h',y)) :
 vcall C frz 101 [.agg #[.int .i64 w,.int .i64 h,a],.agg #[.int .i64 w',.int .i64 h',b]] H=some (.bool ((w == w'&&h == h')&&decide (x=y)),H):=by
 rw [vcall_go (fn:=Try.f101) Try.func101 rfl (by kernel_rfl) rfl]
 have oa:=dMesh_one ha
 have ob:=dMesh_one hb
 have e:=fun F L=>equalI_d (frz:=F) (H:=H++L) (Dt.app (T:=dIntS) ha) (Dt.app (T:=dIntS) hb)
 simp only at e oa ob
 generalize decide (x=y)=Q at *
 simp [oa,ob]
 cases hP:(w == w')<;>cases hP2:(h == h')<;>simp [oa,ob,e]
theorem sameClasses_d {a b:Value×Value} {x y:ClassesD} (ha:dClasses.Ow H a x) (hb:dClasses.Ow H b y) :
 vcall C frz 102 [.agg #[a.1,a.2],.agg #[b.1,b.2]] H=some (.bool (decide (x.1=y.1)&&decide (x.2=y.2)),H):=by
 rw [vcall_go (fn:=Try.f102) Try.func102 rfl (by kernel_rfl) rfl]
 have oa:=dClasses_one ha
 have ob:=dClasses_one hb
 have e1:=fun F L=>equalI_d (frz:=F) (H:=H++L) (Dt.app (T:=dIntS) ha.1) (Dt.app (T:=dIntS) hb.1)
 have e2:=fun F L=>equalI_d (frz:=F) (H:=H++L) (Dt.app (T:=dIntS) ha.2) (Dt.app (T:=dIntS) hb.2)
 generalize decide (x.1=y.1)=Q1 at *
 generalize decide (x.2=y.2)=Q2 at *
 simp [oa,ob,e1]
 cases Q1<;>simp [oa,ob,e2]
theorem sameNet_d {a b:NetV} {x y:NetD} (ha:dNet.Ow H a x) (hb:dNet.Ow H b y):vcall C frz 48 [dNet.val a x,dNet.val b y] H=some (.bool (decide (x=y)),H):=by
 have oa:=dNet_one ha
 have ob:=dNet_one hb
 obtain ⟨a1,⟨a2,a3⟩,⟨a4,ha4⟩,a5,a6,⟨a7,ha7⟩,⟨a8,ha8⟩,_⟩:=a
 obtain ⟨b1,⟨b2,b3⟩,⟨b4,hb4⟩,b5,b6,⟨b7,hb7⟩,⟨b8,hb8⟩,_⟩:=b
 obtain ⟨⟨w,h,x1⟩,⟨x2,x3⟩,x4,x5,x6,x7,x8,tm⟩:=x
 obtain ⟨⟨w',h',y1⟩,⟨y2,y3⟩,y4,y5,y6,y7,y8,tm'⟩:=y
 obtain ⟨h1,h2,h3,h4,h5,h6,h7,_⟩:=ha
 obtain ⟨k1,k2,k3,k4,k5,k6,k7,_⟩:=hb
 simp only at h1 h2 h3 h4 h5 h6 h7 k1 k2 k3 k4 k5 k6 k7 oa ob
 have e1:=fun F L=>sameMesh_d (frz:=F) (H:=H++L) (Dt.app h1) (Dt.app k1)
 have e2:=fun F L=>sameClasses_d (frz:=F) (H:=H++L) (Dt.app h2) (Dt.app k2)
 have e3:=fun F L=>sameLists_d (frz:=F) (H:=H++L) (Dt.app h3) (Dt.app k3)
 have e4:=fun F L=>equalI_d (frz:=F) (H:=H++L) (Dt.app h4) (Dt.app k4)
 have e5:=fun F L=>equalI_d (frz:=F) (H:=H++L) (Dt.app h5) (Dt.app k5)
 have e6:=fun F L=>sameLists_d (frz:=F) (H:=H++L) (Dt.app h6) (Dt.app k6)
 have e7:=fun F L=>sameLists_d (frz:=F) (H:=H++L) (Dt.app h7) (Dt.app k7)
 simp only at e2 e3 e6 e7
 rw [dNet_val,dNet_val]
 refine wp.exact (by simp) ?_ rfl
 rw [vcall_go (fn:=Try.f48) Try.func48 rfl (by kernel_rfl) rfl]
 have hY:decide ((((w,h,x1),(x2,x3),x4,x5,x6,x7,x8,tm):NetD)=((w',h',y1),(y2,y3),y4,y5,y6,y7,y8,tm')) =
  (((w == w'&&h == h')&&decide (x1=y1))&&((decide (x2=y2)&&decide (x3=y3))&&(decide (x4=y4)&&(decide (x5=y5)&&(decide (x6=y6)&&(decide (x7=y7)&&(decide (x8=y8)&&decide (tm=tm')))))))):=by
  rw [Bool.eq_iff_iff];simp only [decide_eq_true_eq,Bool.and_eq_true,Prod.mk.injEq,beq_iff_eq,and_assoc]
 generalize decide ((((w,h,x1),(x2,x3),x4,x5,x6,x7,x8,tm):NetD)=((w',h',y1),(y2,y3),y4,y5,y6,y7,y8,tm'))=Y at *
 generalize ((w == w'&&h == h')&&decide (x1=y1))=P1 at *
 generalize (decide (x2=y2)&&decide (x3=y3))=P2 at *
 generalize decide (x4=y4)=P3 at *
 generalize decide (x5=y5)=P4 at *
 generalize decide (x6=y6)=P5 at *
 generalize decide (x7=y7)=P6 at *
 generalize decide (x8=y8)=P7 at *
 simp [oa,ob,e1]
 cases P1
 ·simp [hY]
 simp [oa,ob,e2]
 cases P2
 ·simp [hY]
 simp [oa,ob,e3]
 cases P3
 ·simp [hY]
 simp [oa,ob,e4]
 cases P4
 ·simp [hY]
 simp [oa,ob,e5]
 cases P5
 ·simp [hY]
 simp [oa,ob,e6]
 cases P6
 ·simp [hY]
 simp [oa,ob,e7]
 cases P7
 ·simp [hY]
 simp [oa,ob,hY]
theorem law_FnReplaced_w {a0:List Int} {u0:Value} (s0:IsS (Kn.int .u8) H u0 a0)
 (w0:a0.length≤maxLen∧∀x1∈a0,(Lit.int .u8 x1).wf=true) :
 wp (vcall C frz 10 [u0] H) (fun r _=>r=.bool true):=by
 have r0:=IsS_bytes s0
 rw [vcall_go (fn:=Try.f10) Try.func10 rfl (by kernel_rfl) rfl]
 simp [big_c _ _ r0]
 refine wp_dec ?_ ?_<;>intro g0
 ·simp
 simp
 refine wp_thn (drawNet_w u0 a0 r0 (by omega)) ?_
 rintro _ H1 ⟨v,x,rfl,o,nd,nv,c1,hok,hg,hb⟩
 have one:=dNet_one o
 have hF1:=c1.1
 obtain ⟨H2,hH2⟩:∃H2,H2=H1++[⟨netCells v x,0,59⟩]:=⟨_,rfl⟩
 have c12:Chg H1 H2 []:=by rw [hH2];exact Chg.app _
 have l2:H2.length=H1.length+1:=by rw [hH2];simp
 have bN:H2[H1.length]? = some ⟨netCells v x,0,59⟩:=by rw [hH2];simp
 have o2:=Dt.chg (T:=dNet) o c12 (by simp)
 have hHs:=hH2.symm
 unfold netCells at hHs
 simp [dNet_val,one,hF1]
 rw [hHs]
 clear hH2 hHs
 refine wp_thn (drawClasses_w u0 a0 (r0.chg (c1.trans c12) (by simp)) (by omega)) ?_
 rintro _ H3 ⟨w,h,vc,t,rfl,hcl,oc,mc,c3⟩
 have onec:=dClasses_one oc
 have hF3:H.length≤H3.length:=by have:=c3.1;omega
 have bN:=box_chg bN c3 (by simp)
 have o3:=Dt.chg (T:=dNet) o2 c3 (by simp)
 obtain ⟨H4,hH4⟩:∃H4,H4=H3++[⟨[.int .i64 w,.int .i64 h,.slice none 0 0],0,38⟩,⟨[vc.1,vc.2],0,42⟩]:=⟨_,rfl⟩
 have c34:Chg H3 H4 []:=by rw [hH4];exact Chg.app _
 have l4:H4.length=H3.length+2:=by rw [hH4];simp
 have bM:H4[H3.length]? = some ⟨[.int .i64 w,.int .i64 h,.slice none 0 0],0,38⟩:=by rw [hH4];simp
 have bC:H4[H3.length+1]? = some ⟨[vc.1,vc.2],0,42⟩:=by rw [hH4];simp
 have bN:=box_chg bN c34 (by simp)
 have o4:=Dt.chg (T:=dNet) o3 c34 (by simp)
 have oc4:=Dt.chg (T:=dClasses) oc c34 (by simp)
 have hHs:=hH4.symm
 have bN':=bN
 unfold netCells at bN'
 have hF4:H.length≤H3.length+1:=by omega
 simp [onec,hF3,hF4]
 rw [hHs]
 clear hH4 hHs
 simp [VM.look,bM,bN']
 have hF5:H.length≤H3.length+1:=by omega
 have l3:=c3.1
 refine wp_bool ?_ ?_<;>intro gD
 ·have onq:=dClasses_one o4.2.1
  have bC6:=set_get (r':=⟨[v.2.1.1,v.2.1.2],0,42⟩) bC
  have c5:Chg H4 (H4.set (H3.length+1) ⟨[v.2.1.1,v.2.1.2],0,42⟩) [H3.length+1]:=chg_set _ _
  have bN6:=box_chg bN c5 (by have:=box_lt bN;simp;omega)
  have oN:=Dt.chg (T:=dNet) o4 c5 (fun i hi hh=>by have:=dNet.lt o i hi;simp at hh;omega)
  obtain ⟨p,hp⟩:∃p,p=v.2.1:=⟨_,rfl⟩
  obtain ⟨tt,htt⟩:∃tt,tt=x.2.1:=⟨_,rfl⟩
  have oC:dClasses.Ow (H4.set (H3.length+1) ⟨[v.2.1.1,v.2.1.2],0,42⟩) p tt:=by rw [hp,htt];exact oN.2.1
  have hc:classesOk x.1.1 x.1.2.1 x.1.2.2 tt.1 tt.2:=by rw [htt];exact hok.1
  have hF6:H.length≤(H4.set (H3.length+1) ⟨[v.2.1.1,v.2.1.2],0,42⟩).length:=by simp;omega
  obtain ⟨J,hJ⟩:∃J,J=H4.set (H3.length+1) ⟨[v.2.1.1,v.2.1.2],0,42⟩:=⟨_,rfl⟩
  rw [← hJ] at bC6 bN6 oN oC hF6
  rw [← hp] at bC6
  have hJs:=hJ.symm
  simp [VM.look,bN',bC,onq,hF5]
  rw [hJs]
  clear hJ hJs c5
  have onp:=dClasses_one oC
  have rp:=replace_d (frz:=H.length) oN oC
  simp only [dNet_val,dClasses_val] at rp
  have bN7:=bN6
  unfold netCells at bN7
  simp [VM.look,bN7,bC6]
  refine wp_thn rp ?_
  rintro _ K ⟨_,rfl,nw,rfl,on,cK,mK,dK⟩
  have onen:=dNet_one on
  have hFK:H.length≤K.length:=by have:=cK.1;omega
  have bN8:=box_chg bN6 cK (by simp)
  have oN8:=Dt.chg (T:=dNet) oN cK (by simp)
  obtain ⟨z,hz⟩:∃z,z=repl x tt:=⟨_,rfl⟩
  rw [← hz] at on
  obtain ⟨K1,hK1⟩:∃K1,K1=K++[⟨netCells nw z,0,59⟩]:=⟨_,rfl⟩
  have cK1:Chg K K1 []:=by rw [hK1];exact Chg.app _
  have bZ:K1[K.length]? = some ⟨netCells nw z,0,59⟩:=by rw [hK1];simp
  have bN9:=box_chg bN8 cK1 (by simp)
  have oN9:=Dt.chg (T:=dNet) oN8 cK1 (by simp)
  have oZ:=Dt.chg (T:=dNet) on cK1 (by simp)
  have hKs:=hK1.symm
  unfold netCells at hKs bZ bN9
  simp [dNet_val,← hz,onen,hFK]
  rw [hKs]
  clear hK1 hKs
  have iN:=fun F=>isIdle_d (frz:=F) oN9
  have iZ:=fun F=>isIdle_d (frz:=F) oZ
  have kZ:=fun F=>netOk_d (frz:=F) oZ
  have fZ:=fun F=>allFree_d (frz:=F) oZ
  have sZ:=fun F=>sameNet_d (frz:=F) oZ oN9
  simp only [dNet_val] at iN iZ kZ fZ sZ
  simp [VM.look,bN9,bZ,iN]
  by_cases hi:idleOk x
  ·have rk:replOk x tt:=⟨hi,hc⟩
   have ez:z=fresh x x.1 tt:=by rw [hz];exact if_pos rk
   obtain ⟨f1,f2,f3⟩:=fresh_ok hi hc
   rw [← ez] at f1 f2 f3
   have aN:=fun F=>arrivedFlits_d (frz:=F) hi.1 oN9
   have aZ:=fun F=>arrivedFlits_d (frz:=F) f1 oZ
   have ea:flits z.2.2.2.2.2.2.1=flits x.2.2.2.2.2.2.1:=by rw [ez];rfl
   simp only [dNet_val,ea] at aN aZ
   simp [hi,rk]
   rw [go_draw (h:=by kernel_rfl)]
   simp [VM.look,bN9,bZ,rk,kZ,iZ,fZ,aN,aZ,f1,f2,f3]
  ·have rk:¬replOk x tt:=fun h=>hi h.1
   have ez:z=x:=by rw [hz];exact if_neg rk
   simp only [ez] at sZ bZ
   simp [hi,rk,VM.look,bN9,bZ,sZ,ez]
 ·simp at gD
  obtain ⟨gw,gh⟩:=gD
  have bC6:=bC
  have bN6:=bN
  have oN:=o4
  obtain ⟨p,hp⟩:∃p,p=vc:=⟨_,rfl⟩
  obtain ⟨tt,htt⟩:∃tt,tt=t:=⟨_,rfl⟩
  have oC:dClasses.Ow H4 p tt:=by rw [hp,htt];exact oc4
  have hc:classesOk x.1.1 x.1.2.1 x.1.2.2 tt.1 tt.2:=by rw [htt,hb,← gw,← gh];exact hcl
  have hF6:H.length≤H4.length:=by omega
  rw [← hp] at bC6
  simp
  have onp:=dClasses_one oC
  have rp:=replace_d (frz:=H.length) oN oC
  simp only [dNet_val,dClasses_val] at rp
  have bN7:=bN6
  unfold netCells at bN7
  simp [VM.look,bN7,bC6]
  refine wp_thn rp ?_
  rintro _ K ⟨_,rfl,nw,rfl,on,cK,mK,dK⟩
  have onen:=dNet_one on
  have hFK:H.length≤K.length:=by have:=cK.1;omega
  have bN8:=box_chg bN6 cK (by simp)
  have oN8:=Dt.chg (T:=dNet) oN cK (by simp)
  obtain ⟨z,hz⟩:∃z,z=repl x tt:=⟨_,rfl⟩
  rw [← hz] at on
  obtain ⟨K1,hK1⟩:∃K1,K1=K++[⟨netCells nw z,0,59⟩]:=⟨_,rfl⟩
  have cK1:Chg K K1 []:=by rw [hK1];exact Chg.app _
  have bZ:K1[K.length]? = some ⟨netCells nw z,0,59⟩:=by rw [hK1];simp
  have bN9:=box_chg bN8 cK1 (by simp)
  have oN9:=Dt.chg (T:=dNet) oN8 cK1 (by simp)
  have oZ:=Dt.chg (T:=dNet) on cK1 (by simp)
  have hKs:=hK1.symm
  unfold netCells at hKs bZ bN9
  simp [dNet_val,← hz,onen,hFK]
  rw [hKs]
  clear hK1 hKs
  have iN:=fun F=>isIdle_d (frz:=F) oN9
  have iZ:=fun F=>isIdle_d (frz:=F) oZ
  have kZ:=fun F=>netOk_d (frz:=F) oZ
  have fZ:=fun F=>allFree_d (frz:=F) oZ
  have sZ:=fun F=>sameNet_d (frz:=F) oZ oN9
  simp only [dNet_val] at iN iZ kZ fZ sZ
  simp [VM.look,bN9,bZ,iN]
  by_cases hi:idleOk x
  ·have rk:replOk x tt:=⟨hi,hc⟩
   have ez:z=fresh x x.1 tt:=by rw [hz];exact if_pos rk
   obtain ⟨f1,f2,f3⟩:=fresh_ok hi hc
   rw [← ez] at f1 f2 f3
   have aN:=fun F=>arrivedFlits_d (frz:=F) hi.1 oN9
   have aZ:=fun F=>arrivedFlits_d (frz:=F) f1 oZ
   have ea:flits z.2.2.2.2.2.2.1=flits x.2.2.2.2.2.2.1:=by rw [ez];rfl
   simp only [dNet_val,ea] at aN aZ
   simp [hi,rk]
   rw [go_draw (h:=by kernel_rfl)]
   simp [VM.look,bN9,bZ,rk,kZ,iZ,fZ,aN,aZ,f1,f2,f3]
  ·have rk:¬replOk x tt:=fun h=>hi h.1
   have ez:z=x:=by rw [hz];exact if_neg rk
   simp only [ez] at sZ bZ
   simp [hi,rk,VM.look,bN9,bZ,sZ,ez]
theorem law_FnReplaced {a0:List Int} {u0:Value} (s0:IsS (Kn.int .u8) H u0 a0)
 (w0:a0.length≤maxLen∧∀x1∈a0,(Lit.int .u8 x1).wf=true) :
 vcall C frz 10 [u0] H=some (.bool true,H):=(law_FnReplaced_w s0 w0).exact (by simp) rfl
end Go.Proofs.Ytcigpclbhfkgaaa.V
