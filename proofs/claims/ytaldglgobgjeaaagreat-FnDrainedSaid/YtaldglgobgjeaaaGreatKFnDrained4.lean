/- Texts of a proof, joined. -/
import Derived.Test.YtaldglgobgjeaaaGreatKM0
import Derived.Test.YtaldglgobgjeaaaGreatKM1
import Derived.Test.YtaldglgobgjeaaaGreatKFnDrained0
import Derived.Test.YtaldglgobgjeaaaGreatKFnDrained1
import Derived.Test.YtaldglgobgjeaaaGreatKFnDrained2
import Derived.Test.YtaldglgobgjeaaaGreatKFnDrained3
set_option linter.all false
namespace Go.Proofs.YtaldglgobgjeaaaGreat.V
open Go Go.VM Go.Proofs
set_option maxRecDepth 10000
variable {frz:Nat} {H:Heap} {v:Value} {xs ys:List Int} {e:TypeId}
theorem Bd.take (h:Bd xs) (k:Nat):Bd (xs.take k):=fun x hx=>h x (List.mem_of_mem_take hx)
theorem Bd.drop (h:Bd xs) (k:Nat):Bd (xs.drop k):=fun x hx=>h x (List.mem_of_mem_drop hx)
theorem Bd.set (h:Bd xs) (k:Nat) {x:Int} (hx:KB x):Bd (xs.set k x):=fun y hy=>by
 rcases List.mem_or_eq_of_mem_set hy with hy|rfl
 ·exact h y hy
 ·exact hx
theorem Bd.app (h:Bd xs) (h':Bd ys):Bd (xs++ys):=fun y hy=>by
 rcases List.mem_append.1 hy with hy|hy
 ·exact h y hy
 ·exact h' y hy
theorem KB0:KB 0:=⟨by decide,by decide⟩
@[simp] theorem Qig (x y:Int):vbin Tryz.prog .eql 194 (dv x) (dv y)=some (.bool (decide (x=y))):=by
 unfold dv
 simp [cseq]
 rw [Bool.eq_iff_iff]
 simp
 omega
@[simp] theorem Qik (x y:Int):vbin Tryz.prog .neq 194 (dv x) (dv y)=some (.bool (!decide (x=y))):=by
 unfold dv
 simp [cseq]
 rw [Bool.eq_iff_iff]
 simp
 omega
theorem Bc (o:OwE 194 H v xs) (h0:0<xs.length) {l:Nat} (hl:l≤xs.length):∃z,∀(H':Heap) (ys:List Int),OwE 194 H' v ys→ys.length=xs.length→
 vslice Tryz.prog H' 125 (some (.int .i64 (l:Nat))) none v=some z∧OwE 194 H' z (ys.drop l)∧ids z=ids v:=by
 rcases o with ⟨⟨_,rfl⟩|⟨id,off,r,rfl,k2,k3,k4,k5,k6⟩,_⟩
 ·simp at h0
 ·refine ⟨.slice (some ⟨id,off+l*2,some r.gen⟩) (xs.length-l) 0,fun H' ys o' hlen=>?_⟩
  obtain ⟨o',bd⟩:=o'
  obtain ⟨z',h1,h2,h3⟩:=o'.slice (P:=Tryz.prog) (ty:=125) (lo:=some (.int .i64 (l:Int))) (hi:=none) (l:=l) (u:=ys.length) (by simp) rfl rfl (by omega) (Nat.le_refl _)
  have e:(ys.drop l).take (ys.length-l)=ys.drop l:=List.take_of_length_le (by simp)
  rw [e] at h2
  have hz:z'=.slice (some ⟨id,off+l*2,some r.gen⟩) (xs.length-l) 0:=by
   rcases o' with ⟨hv,_⟩|⟨id',off',r',hv,q2,q3,q4,q5,q6⟩
   ·cases hv
   ·injection hv with hv1 hv2
    injection hv1 with hv1
    injection hv1 with i1 i2 i3
    injection i3 with i3
    subst i1 i2
    have hle:(l:Int)≤(xs.length:Int):=by omega
    simp [vslice,VM.look,q2,i3,vbound,q5,hle] at h1
    simp [← h1,i3]
  rw [← hz]
  exact ⟨h1,⟨h2,bd.drop l⟩,h3⟩
theorem dep0 (n:Nat):(List.replicate n [Value.int .i64 0,Value.int .i64 0]).flatten=cellsOf Fl.dep (List.replicate n 0):=by
 induction n with
 | zero=>rfl
 | succ n ih=>rw [List.replicate_succ,List.replicate_succ,Wa,List.flatten_cons,ih];rfl
theorem zx (o:OwE 194 H v ys) (h0:0<ys.length) {l:Nat} (hl:l≤ys.length) {z:Value} (hz:vslice Tryz.prog H 125 (some (.int .i64 (l:Nat))) none v=some z) (hf:∀i∈ids v,frz≤i) :
 ∃H' zs,vclear Tryz.prog frz H 125 z=some (undef,H')∧zs.length=ys.length∧zs.take l=ys.take l∧OwE 194 H' v zs∧Chg H H' (ids v):=by
 rcases o with ⟨⟨_,rfl⟩|⟨id,off,r,rfl,k2,k3,k4,k5,k6⟩,bd⟩
 ·simp at h0
 ·have hle:(l:Int)≤(ys.length:Int):=by omega
  simp [vslice,VM.look,k2,vbound,k5,hle] at hz
  subst hz
  have hfr:frz≤id:=hf id (by simp)
  have hn:Fl.dep.n=2:=rfl
  rw [hn] at k3 k4
  have hroom:off+l*2+(ys.length-l)*2≤r.cells.length:=by omega
  have one0:ones [Value.int .i64 0,Value.int .i64 0]=true:=rfl
  have onz:∀n,ones (cellsOf Fl.dep (List.replicate n (0:Int)))=true:=fun n=>by
   induction n with
   | zero=>rfl
   | succ n ih=>rw [List.replicate_succ,Wa,Gs,ih];rfl
  refine ⟨H.set id { r with cells:=VM.splice r.cells (off+l*2) (cellsOf Fl.dep (List.replicate (ys.length-l) 0)) },ys.take l++List.replicate (ys.length-l) 0,?_,by simp;omega,by rw [List.take_append_of_le_length (by simp;omega),List.take_take,Nat.min_self],?_,Qg _ _⟩
  ·rw [← dep0]
   simp [vclear,VM.look,k2,hfr,hroom,one0]
  ·have hcl:(cellsOf Fl.dep (List.replicate (ys.length-l) (0:Int))).length=(ys.length-l)*2:=by simp
   have hlt:id<H.length:=Qs k2
   have hzl:(ys.take l++List.replicate (ys.length-l) (0:Int)).length=ys.length:=by simp;omega
   refine ⟨.inr ⟨id,off,{ r with cells:=VM.splice r.cells (off+l*2) (cellsOf Fl.dep (List.replicate (ys.length-l) 0)) },by rw [hzl],by simp [hlt],?_,?_,k5,Za k6 (onz _)⟩,(bd.take l).app fun x hx=>by rw [(List.mem_replicate.1 hx).2];exact KB0⟩
   ·rw [hzl,hn,Ye k3 k4 (by rw [hcl];omega),Zd,← Ua]
    unfold VM.splice
    rw [hcl,hn]
    have e1:(cellsOf Fl.dep ys).drop (l*2+(ys.length-l)*2)=[]:=by rw [List.drop_eq_nil_iff];simp;omega
    rw [e1,List.append_nil]
   ·rw [hzl,hn,Y9 (by rw [hcl];omega)];exact k4
theorem xd (v:Value) (xs:List Int) (h:OwE 194 H v xs) (hl:xs.length≤1073741824) (hf:∀i∈ids v,frz≤i) :
 wp (vcall C frz 187 [v] H) (fun u H'=>OwE 194 H' u (compact xs)∧(∀i∈ids u,i∈ids v)∧Chg H H' (ids v)):=by
 rw [Qb (fn:=Tryz.f187) Tryz.func187 rfl (by kernel_rfl) rfl]
 simp [h.rd.len]
 have dk1:dk xs 1=[G xs 0]:=by simp [dk]
 refine Qc ?_ ?_<;>intro g0
 ·simp
  have:compact xs=xs:=by
   match xs,g0 with
   | [],_=>rfl
   | [a],_=>simp [compact,dk,G]
   | a::b::l,g=>simp at g;omega
  rw [this]
  exact ⟨h,Chg.refl _⟩
 ·simp
  have hl1:=h.rd.len (P:=Tryz.prog) (ty:=125) (by simp)
  refine Qh (fun n t H'=>∃i:Nat,n=xs.length-i∧1≤i∧i≤xs.length∧t 0=v∧t 3=.int .i64 i∧H'=H∧dk xs i=xs.take i) ?_ (n:=xs.length-1)
   ⟨1,rfl,by omega,by omega,by simp,by simp,rfl,by rw [dk1,J0 (by omega)];rfl⟩
  rintro n t H' ⟨i,rfl,hi1,hi,t0,t3,hH,hd⟩ ih
  rw [hH]
  simp [t0,t3,hl1]
  refine Qc ?_ ?_<;>intro g1
  ·have e1:∀[Inhabited Unit],IntKind.i64.wrap ((i:Int)-1)=((i-1:Nat):Int):=by intro _;rw [w64 (by omega) (by omega)];omega
   have p2:i-1<xs.length:=by omega
   simp [t0,t3]
   rw [Qe (h:=by kernel_rfl)]
   simp [t0,t3,e1,Qt h g1,Qt h p2,Qu h g1,Qu h p2]
   refine Qc ?_ ?_<;>intro g2
   ·obtain ⟨z,hz⟩:=Bc h (by omega) (l:=i) (by omega)
    obtain ⟨z1,_,z3⟩:=hz H xs h rfl
    simp [t0,t3,z1]
    have dki:dk xs (i+1)=xs.take i:=by
     have:0<i∧G xs (i-1)=G xs i:=⟨by omega,g2.symm⟩
     unfold dk;rw [if_pos this,hd]
    refine Qh (fun n t H'=>∃(k j:Nat) (ys:List Int),n=xs.length-(i+j)∧1≤j∧i+j≤xs.length∧k<i+j∧t 0=v∧t 3=.int .i64 k∧t 4=z∧t 5=.int .i64 j∧ys.length=xs.length∧ys.take k=dk xs (i+j)∧(∀m,i+j≤m+1→G ys m=G xs m)∧
     OwE 194 H' v ys∧Chg H H' (ids v)) ?_ (n:=xs.length-(i+1))
     ⟨i,1,xs,rfl,by omega,by omega,by omega,by simp [t0],by simp [t3],by simp,by simp,rfl,dki.symm,fun m hm=>rfl,h,Chg.refl _⟩
    clear ih hH t0 t3
    rintro n t H' ⟨k,j,ys,rfl,hj1,hj,hk,t0,t3,t4,t5,hlen,htk,hG,o,ch⟩ ih
    obtain ⟨z1',oz,_⟩:=hz H' ys o hlen
    have lz:=oz.rd.len (P:=Tryz.prog) (ty:=125) (by simp)
    have hzl:(ys.drop i).length=xs.length-i:=by simp [hlen]
    simp [t0,t3,t4,t5,lz,hlen]
    refine Qc ?_ ?_<;>intro g3
    ·have p1:j<(ys.drop i).length:=by omega
     have p2':j-1<(ys.drop i).length:=by omega
     have e2:∀[Inhabited Unit],IntKind.i64.wrap ((j:Int)-1)=((j-1:Nat):Int):=by intro _;rw [w64 (by omega) (by omega)];omega
     have e3:∀[Inhabited Unit],IntKind.i64.wrap ((j:Int)+1)=((j+1:Nat):Int):=by intro _;rw [w64 (by omega) (by omega)];omega
     have e4:∀[Inhabited Unit],IntKind.i64.wrap ((k:Int)+1)=((k+1:Nat):Int):=by intro _;rw [w64 (by omega) (by omega)];omega
     have dG:∀m,G (ys.drop i) m=G ys (i+m):=fun m=>by simp [G,List.getD_eq_getElem?_getD]
     have G1:G (ys.drop i) j=G xs (i+j):=by rw [dG,hG _ (by omega)]
     have G2:G (ys.drop i) (j-1)=G xs (i+j-1):=by rw [dG,hG _ (by omega),show i+(j-1)=i+j-1 by omega]
     simp [t0,t3,t4,t5]
     rw [Qe (h:=by kernel_rfl)]
     simp [t0,t3,t4,t5,e2,Qt oz p1,Qt oz p2',Qu oz p1,Qu oz p2',G1,G2]
     have hkl:k<ys.length:=by omega
     refine Qc ?_ ?_<;>intro g4
     ·have hd2:dk xs (i+j+1)=dk xs (i+j):=by
       have:0<i+j∧G xs (i+j-1)=G xs (i+j):=⟨by omega,g4.symm⟩
       rw [dk,if_pos this]
      simp [t0,t3,t4,t5]
      refine ih (xs.length-(i+(j+1))) _ _ ⟨k,j+1,ys,rfl,by omega,by omega,by omega,by simp [t0],by simp [t3],by simp [t4],by simp [e3],hlen,by rw [← Nat.add_assoc,hd2];exact htk,fun m hm=>hG m (by omega),o,ch⟩ (by omega)
     ·obtain ⟨H2,s2,o2',c2,l2⟩:=o.1.store (P:=Tryz.prog) (frz:=frz) (et:=194) (ag:=true) (by simp) hkl (x:=dv (G xs (i+j))) (y:=G xs (i+j)) rfl rfl hf
      have o2:OwE 194 H2 v (ys.set k (G xs (i+j))):=⟨o2',o.2.set k (h.2.G _)⟩
      simp only [Fl.dep_n] at s2
      have hd2:dk xs (i+j+1)=dk xs (i+j)++[G xs (i+j)]:=by
       have:¬(0<i+j∧G xs (i+j-1)=G xs (i+j)):=fun hh=>g4 hh.2.symm
       rw [dk,if_neg this]
      simp [t0,t3,t4,t5,Qt oz p1,Qu oz p1,G1,Qt o hkl,s2]
      refine ih (xs.length-(i+(j+1))) _ _ ⟨k+1,j+1,ys.set k (G xs (i+j)),rfl,by omega,by omega,by omega,by simp [t0],by simp [e4],by simp [t4],by simp [e3],by simp [hlen],?_,fun m hm=>?_,o2,ch.trans c2⟩ (by omega)
      ·rw [← Nat.add_assoc,hd2,← htk,List.take_succ_eq_append_getElem (by simpa using hkl),List.getElem_set_self]
       simp [List.take_set_of_le]
      ·have hmk:m≠k:=by omega
       have:G (ys.set k (G xs (i+j))) m=G ys m:=by simp [G,List.getD_eq_getElem?_getD,List.getElem?_set_ne (Ne.symm hmk)]
       rw [this];exact hG m (by omega)
    ·have hij:i+j=xs.length:=by omega
     have hkl:k≤ys.length:=by omega
     obtain ⟨y,hy⟩:=Bc o (by omega) (l:=k) hkl
     obtain ⟨y1,_,_⟩:=hy H' ys o rfl
     obtain ⟨H2,zs,cl,zl,zt,oz2,c2⟩:=zx o (by omega) hkl y1 hf
     obtain ⟨q,q1,q2',q3⟩:=oz2.1.slice (P:=Tryz.prog) (ty:=125) (lo:=none) (hi:=some (.int .i64 (k:Int))) (l:=0) (u:=k) (by simp) rfl rfl (Nat.zero_le _) (by omega)
     simp [t0,t3,t4,t5,y1,cl,q1]
     have q2:OwE 194 H2 q ((zs.drop 0).take (k-0)):=⟨q2',oz2.2.take k⟩
     simp only [List.drop_zero,Nat.sub_zero,zt,htk,hij] at q2
     exact ⟨q2,by rw [q3];exact fun i hi=>hi,ch.trans c2⟩
   ·simp [t0,t3]
    refine ih (xs.length-(i+1)) _ _ ⟨i+1,rfl,by omega,by omega,by simp [t0],?_,rfl,?_⟩ (by omega)
    ·simp;rw [w64 (by omega) (by omega)]
    ·have:¬(0<i∧G xs (i-1)=G xs i):=fun hh=>g2 hh.2.symm
     unfold dk;rw [if_neg this,J0 g1,hd]
  ·have him:i=xs.length:=by omega
   simp [t0]
   rw [him,List.take_length] at hd
   exact ⟨by rw [compact,hd];exact h,Chg.refl _⟩
@[simp] theorem Qd9 (g:Fn) (a b:Array Value):(Value.func g a b).cells=#[Value.func g a b]:=rfl
@[simp] theorem Qg3 (g:Fn) (a b:Array Value):VM.one (Value.func g a b)=true:=rfl
def keyD (a b:Int):Int:=1024*a+b
theorem Qdz {a b:Int} (h:0≤b∧b<1024):dv (keyD a b)=.agg #[.int .i64 a,.int .i64 b]:=by
 have e1:keyD a b/1024=a:=by unfold keyD;omega
 have e2:keyD a b%1024=b:=by unfold keyD;omega
 rw [dv,e1,e2]
theorem L3 (x y:Int) (hx:KB x) (hy:KB y):vcall C frz 180 [dv x,dv y] H=some (.int .i64 (cmpZ x y),H):=by
 rw [Qb (fn:=Tryz.f180) Tryz.func180 rfl (by kernel_rfl) rfl]
 have h1:=hx.1;have h2:=hx.2;have h3:=hy.1;have h4:=hy.2
 have e1:=@w6 (x/1024-y/1024) (by omega)
 have e2:=@w6 (x%1024-y%1024) (by omega)
 simp [dv]
 refine Qq _ ?_ ?_<;>intro g<;>simp [g,e1,e2,cmpZ]
theorem Nw (v:Value) (xs:List Int) (h:OwE 194 H v xs) (hl:xs.length≤1073741824) (hf:∀i∈ids v,frz≤i) (hF:frz≤H.length) :
 wp (vcall C frz 158 [v] H) (fun u H'=>OwE 194 H' u (arrK xs)∧(∀i∈ids u,i∈ids v)∧Chg H H' (ids v)):=by
 rw [Qb (fn:=Tryz.f158) Tryz.func158 rfl (by kernel_rfl) rfl]
 simp
 refine Qd (Qb6 (cf:=.func (.func 180) #[] #[]) (fun F K x y hx hy=>by simp [L3 x y hx hy]) v xs _ h hl hf hF) ?_
 rintro _ H1 ⟨ys,y1,y2,o1,c1⟩
 simp
 refine Qd (xd v ys o1 (by rw [y2.length_eq];exact hl) hf) ?_
 rintro u H2 ⟨o2,n2,c2⟩
 simp
 obtain ⟨q1,q2⟩:=Oh y1
 have:compact ys=arrK xs:=D4 q1 (O1 _) fun x=>by rw [q2,Sz,y2.mem_iff]
 rw [this] at o2
 exact ⟨o2,n2,c1.trans c2⟩
def CB (a b:Int):Prop:=(0≤a∧a<1024)∧0≤b∧b<1024
theorem CB.kb {a b:Int} (h:CB a b):KB (keyD a b):=by obtain ⟨⟨h1,h2⟩,h3,h4⟩:=h;unfold KB keyD;omega
theorem Bg (o:OwE 194 H v xs) {a b:Int} (hb:CB a b) (hl:xs.length+1≤1073741824) (hf:∀i∈ids v,frz≤i) :
 ∃v' H',vappend Tryz.prog frz (H++[⟨[.int .i64 a,.int .i64 b],0,194⟩]) 125 125 v (.slice (some ⟨H.length,0,some 0⟩) 1 0)=some (v',H')∧OwE 194 H' v' (xs++[keyD a b])∧Chg H H' (ids v)∧∀i∈ids v',i∈ids v∨H.length≤i:=by
 obtain ⟨v',H',h1,h2,h3,h4⟩:=o.1.push (P:=Tryz.prog) (frz:=frz) (ty:=125) (a:=keyD a b) (by simp) rfl hl hf
 have e:Fl.dep.f (keyD a b)=[.int .i64 a,.int .i64 b]:=by
  have:=Qdz (a:=a) hb.2
  rw [← jl] at this
  injection this with this
  exact List.toArray_inj this
 rw [e] at h1
 exact ⟨v',H',h1,⟨h2,o.2.app fun x hx=>by rw [List.mem_singleton.1 hx];exact hb.kb⟩,h3,h4⟩
def BoxD (H:Heap) (r:Nat) (x:Value) (xs:List Int):Prop:=H[r]? = some ⟨[x],0,125⟩∧OwE 194 H x xs∧r∉ids x
theorem Je (r:Nat) (x:Value) (xs:List Int) (a b:Int) (h:BoxD H r x xs) (hb:CB a b) (hl:xs.length+1≤1073741824) (hf:∀i∈ids x,frz≤i) (hr:frz≤r) :
 wp (vcall C frz 161 [.int .i64 a,.int .i64 b,.pointer (some ⟨r,0,some 0⟩)] H) (fun _ H'=>∃x',BoxD H' r x' (xs++[keyD a b])∧(∀i∈ids x',i∈ids x∨H.length≤i)∧Chg H H' (r::ids x)):=by
 obtain ⟨g,o,nr⟩:=h
 rw [Qb (fn:=Tryz.f161) Tryz.func161 rfl (by kernel_rfl) rfl]
 obtain ⟨x',H2,hap,o2,c2,n2⟩:=Bg o hb hl hf
 have hlt:=Qs g
 have g2:H2[r]? = some ⟨[x],0,125⟩:=Qa g c2 nr
 have on:=And.intro o.rd.one' o.rd.cells
 have on2:=And.intro o2.rd.one' o2.rd.cells
 simp [VM.look,g,on,hap]
 simp [VM.look,g2,on2,hr]
 have nr2:r∉ids x':=fun hh=>by
  rcases n2 r hh with q|q
  ·exact nr q
  ·omega
 refine ⟨x',⟨Qi g2,o2.chg (Qg _ _) (fun i hi hh=>by simp at hh;subst hh;exact nr2 hi),nr2⟩,n2,(c2.mono (by simp +contextual)).trans ((Qg _ _).mono (by simp))⟩
theorem T7 (n a m:Nat):(rowPairs n a m).length≤m:=by
 unfold rowPairs
 rw [List.length_map]
 exact Nat.le_trans (List.length_filter_le ..) (by simp)
theorem Yy (n:Nat):∀m,(allPairs n m).length≤m*n
 | 0=>by simp [allPairs]
 | m+1=>by
  rw [Zj,List.length_append,Nat.succ_mul]
  have:=Yy n m
  have:=T7 n m n
  omega
theorem qe (n i j:Nat) (hi:i<n) (hj:j≤n) (hn:n≤16):(allPairs n i++rowPairs n i j).length≤256:=by
 rw [List.length_append]
 have h1:=Yy n i
 have h2:=T7 n i j
 have h3:i*n≤15*16:=Nat.mul_le_mul (by omega) hn
 omega
theorem kj (w h:Int) (f:Value) {Q:Value→Heap→Prop} (Inv:List (Nat×Nat)→Heap→Prop)
 (h0:Inv [] (H++[⟨[.int .i64 w,.int .i64 h],0,25⟩]))
 (hs:∀(done:List (Nat×Nat)) (a c:Nat) (H':Heap),a<(cnt w h).toNat→c<(cnt w h).toNat→a≠c→done.length≤256→Inv done H'→wp (vclos (vcall C frz) f [.int .i64 a,.int .i64 c] H') fun r H''=>(r=.bool true∧Inv (done++[(a,c)]) H'')∨(r=.bool false∧Q (.bool false) H''))
 (he:∀H',Inv (allPairs (cnt w h).toNat (cnt w h).toNat) H'→Q (.bool true) H') :
 wp (vcall C frz 95 [.agg #[.int .i64 w,.int .i64 h],f] H) Q:=by
 rw [Qb (fn:=Tryz.f95) Tryz.func95 rfl (by kernel_rfl) rfl]
 have hc:=Qf w h
 simp [Wb]
 refine Qh (fun n t H'=>∃(i:Nat),n=(cnt w h).toNat-i∧i≤(cnt w h).toNat∧t 1=f∧t 5=.int .i64 (cnt w h)∧t 10=.int .i64 (cnt w h)∧t 11=.int .i64 i∧
  Inv (allPairs (cnt w h).toNat i) H') ?_ (n:=(cnt w h).toNat) ⟨0,by simp [allPairs,h0]⟩
 rintro n t H' ⟨i,rfl,hi,h1,h5,h10,h11,hk⟩ ih
 simp [h1,h5,h10,h11]
 refine Qc ?_ ?_<;>intro hlt
 ·simp [h1,h5,h10,h11,hlt]
  refine Qh (fun n t H'=>∃(j:Nat),n=(cnt w h).toNat-j∧j≤(cnt w h).toNat∧t 1=f∧t 5=.int .i64 (cnt w h)∧t 10=.int .i64 (cnt w h)∧t 11=.int .i64 i∧t 6=.int .i64 i∧t 14=.int .i64 (cnt w h)∧t 15=.int .i64 j∧
   Inv (allPairs (cnt w h).toNat i++rowPairs (cnt w h).toNat i j) H') ?_ (n:=(cnt w h).toNat) ⟨0,by simp [h1,h5,h10,h11,rowPairs,hk]⟩
  clear h1 h5 h10 h11 hk
  rintro n t H' ⟨j,rfl,hj,h1,h5,h10,h11,h6,h14,h15,hk⟩ ih2
  simp [h1,h5,h10,h11,h6,h14,h15]
  refine Qc ?_ ?_<;>intro hlj
  ·have ni:i<(cnt w h).toNat:=by omega
   have nj:j<(cnt w h).toNat:=by omega
   have yes:=fun (t':Env) (H':Heap) (x1:t' 1=f) (x5:t' 5=.int .i64 (cnt w h)) (x10:t' 10=.int .i64 (cnt w h)) (x11:t' 11=.int .i64 i) (x6:t' 6=.int .i64 i) (x14:t' 14=.int .i64 (cnt w h)) (x15:t' 15=.int .i64 (j+1:Nat)) (hg:Inv (allPairs (cnt w h).toNat i++rowPairs (cnt w h).toNat i (j+1)) H')=>
    ih2 ((cnt w h).toNat-(j+1)) t' H' ⟨j+1,rfl,by omega,x1,x5,x10,x11,x6,x14,x15,hg⟩ (by omega)
   simp [h1,h5,h10,h11,h6,h14,h15,hlj]
   refine Qz ?_ ?_<;>intro hij
   ·simp [h1,h5,h10,h11,h6,h14,h15,hlj,hij]
    refine yes _ _ (by simp [h1]) (by simp [h5]) (by simp [h10]) (by simp [h11]) (by simp [h6]) (by simp [h14]) ?_ (by rw [Rz _ _ _ (by omega)];exact hk)
    simp;rw [w64 (by omega) (by omega)]
   ·simp [h1,h5,h10,h11,h6,h14,h15,hlj,hij]
    refine Qd (hs _ i j H' ni nj (by omega) (qe _ _ _ (by omega) hj (by have:=Qf w h;omega)) hk) ?_
    rintro r H'' (⟨rfl,hq⟩|⟨rfl,hq⟩)
    ·simp [h1,h5,h10,h11,h6,h14,h15,hlj,hij]
     refine yes _ _ (by simp [h1]) (by simp [h5]) (by simp [h10]) (by simp [h11]) (by simp [h6]) (by simp [h14]) ?_ (by rw [Pg _ _ _ (by omega),← List.append_assoc];exact hq)
     simp;rw [w64 (by omega) (by omega)]
    ·simp [h1,h5,h10,h11,h6,h14,h15,hlj,hij]
     exact hq
  ·have:j=(cnt w h).toNat:=by omega
   subst this
   simp [h1,h5,h10,h11,h6,h14,h15,hlj]
   refine ih ((cnt w h).toNat-(i+1)) _ _ ⟨i+1,rfl,by omega,by simp [h1],by simp [h5],by simp [h10],?_,by rw [Zj];exact hk⟩ (by omega)
   ·simp;rw [w64 (by omega) (by omega)]
 ·simp [h1,h5,h10,h11,hlt]
  have:i=(cnt w h).toNat:=by omega
  subst this
  exact he _ hk
def adjN (l:List Int) (i:Nat):List Int:=(List.range i).map fun k=>keyD (G l k) (G l (k+1))
def adjK (l:List Int):List Int:=adjN l (l.length-1)
theorem qh (l:List Int) (i:Nat):adjN l (i+1)=adjN l i++[keyD (G l i) (G l (i+1))]:=by simp [adjN,List.range_succ]
theorem Gk (l:List Int) (i:Nat):(adjN l i).length=i:=by simp [adjN]
def DI (K:Heap) (r:Nat) (D:List Nat) (xs:List Int) (H':Heap):Prop:=∃x,BoxD H' r x xs∧(∀i∈ids x,i∈D∨K.length≤i)∧Chg K H' (r::D)
theorem DI.trans {K K1 H':Heap} {r:Nat} {D:List Nat} {x0:Value} {xs:List Int} (c:Chg K K1 (r::D)) (n:∀i∈ids x0,i∈D∨K.length≤i) (h:DI K1 r (ids x0) xs H'):DI K r D xs H':=by
 obtain ⟨x,bx,nx,ch⟩:=h
 have:=c.1
 refine ⟨x,bx,fun i hi=>?_,c.trans' ch fun i hi=>?_⟩
 ·rcases nx i hi with q|q
  ·exact n i q
  ·right;omega
 ·rcases List.mem_cons.1 hi with rfl|hi
  ·exact .inl (List.mem_cons_self ..)
  ·rcases n i hi with q|q
   ·exact .inl (List.mem_cons_of_mem _ q)
   ·exact .inr q
theorem zf (H:Heap) (xs:List Int):∃z L,V.ret H xs=(z,H++L)∧IsI (H++L) z xs∧∀i∈ids z,H.length≤i∧i<(H++L).length:=by
 unfold V.ret
 split
 ·rename_i h;subst h
  exact ⟨_,[],by rw [List.append_nil],.inl ⟨rfl,rfl⟩,fun i hi=>by simp at hi⟩
 ·exact ⟨_,_,rfl,IsI.at0 rfl,fun i hi=>by simp at hi;subst hi;simp⟩
theorem Fk (w h:Int) (v u:Value) (b T:List Int) (K:Heap) (r r1 r2 r3:Nat) (D:List Nat) (a c:Nat) (xs:List Int) (hI:IsI K v b) (hT:IsI K u T) (hl:b.length≤1073741824) (hz:tsized w h b T)
 (ha:a<(cnt w h).toNat) (hc:c<(cnt w h).toNat) (hne:a≠c) (hw:∀x∈walk w h b T a c,0≤x∧x<1024) (hx:xs.length≤1048576)
 (g1:K[r1]? = some ⟨[.int .i64 w,.int .i64 h,v],0,28⟩) (g2:K[r2]? = some ⟨[u],0,30⟩) (g3:K[r3]? = some ⟨[.func (.func 161) #[] #[.pointer (some ⟨r,0,some 0⟩)]],0,200⟩)
 (n1:r1∉r::D) (n2:r2∉r::D) (n3:r3∉r::D) (nv:∀i∈ids v,i∉r::D) (nu:∀i∈ids u,i∉r::D) (hr:frz≤r) (hD:∀i∈D,frz≤i) (hK:frz≤K.length) (hd:DI K r D xs H) :
 wp (vcall C frz 189 [.int .i64 a,.int .i64 c,.pointer (some ⟨r1,0,some 0⟩),.pointer (some ⟨r2,0,some 0⟩),.pointer (some ⟨r3,0,some 0⟩)] H) (fun u H'=>u=.bool true∧DI K r D (xs++adjK (walk w h b T a c)) H'):=by
 obtain ⟨x,⟨bx,o,nr⟩,nx,ch⟩:=hd
 have b1:=Qa g1 ch n1
 have b2:=Qa g2 ch n2
 have b3:=Qa g3 ch n3
 rw [Qb (fn:=Tryz.f189) Tryz.func189 rfl (by kernel_rfl) rfl]
 have hIH:=(hI.rd.chg ch nv).isI
 have hTH:=(hT.rd.chg ch nu).isI
 obtain ⟨z,L,e0,hz1,hz2⟩:=zf H (walk w h b T a c)
 have wc:=fun F=>kz (frz:=F) w h v u b T a c hIH hTH hl hz (Wc ha) (Wc hc) (by omega)
 have wl:(walk w h b T a c).length≤256:=by
  have:=Rk w h b T c (cnt w h).toNat a []
  have:=Qf w h
  unfold walk;simp at *;omega
 have onv:=And.intro hI.one' hI.cells
 have onu:=And.intro hT.one' hT.cells
 generalize hws:walk w h b T a c=ws at *
 simp [VM.look,b1,b2,wc,e0,onv,onu]
 have hrH:=Qs bx
 have oL:=o.lt
 refine Qh (fun n t H'=>∃i:Nat,n=ws.length-i∧1≤i∧i≤max 1 ws.length∧t 4=.pointer (some ⟨r3,0,some 0⟩)∧t 8=z∧t 9=.int .i64 i∧DI (H++L) r (ids x) (xs++adjN ws (i-1)) H') ?_ (n:=ws.length-1)
  ⟨1,rfl,by omega,by omega,by simp,by simp,by simp,x,⟨Ql bx _,by simpa [adjN] using o.app,nr⟩,fun i hi=>.inl hi,Chg.refl _⟩
 rintro n t H' ⟨i,rfl,hi1,hi2,t4,t8,t9,di⟩ ih
 obtain ⟨x1,⟨bx1,o1,nr1⟩,nx1,ch1⟩:=di
 have zH:IsI H' z ws:=(hz1.rd.chg ch1 fun j hj hh=>by
  have:=(hz2 j hj).1
  rcases List.mem_cons.1 hh with rfl|hh
  ·omega
  ·have:=oL j hh;omega).isI
 have b3':H'[r3]? = some ⟨[.func (.func 161) #[] #[.pointer (some ⟨r,0,some 0⟩)]],0,200⟩:=Qa (Ql b3 L) ch1 (fun hh=>by
  rcases List.mem_cons.1 hh with q|hh
  ·exact n3 (q▸List.mem_cons_self ..)
  ·rcases nx r3 hh with q|q
   ·exact n3 (List.mem_cons_of_mem _ q)
   ·have:=Qs g3;omega)
 simp [t4,t8,t9,zH.len]
 refine Qc ?_ ?_<;>intro hlt
 ·have e1:∀[Inhabited Unit],IntKind.i64.wrap ((i:Int)-1)=((i-1:Nat):Int):=by intro _;rw [w64 (by omega) (by omega)];omega
  have p1:∀(k:Nat),k<ws.length→vindexAddr Tryz.prog H' 26 z (.int .i64 k)=some (elp z k)∧vload Tryz.prog H' 3 (elp z k)=some (.int .i64 (G ws k)):=fun k hk=>by
   refine ⟨?_,zH.load (by simp) hk⟩
   have:=zH.idx (P:=Tryz.prog) (ty:=26) (e:=3) (by simp) (i:=(k:Int)) (by omega) (by omega)
   simpa using this
  have q1:=p1 i (by omega)
  have q2:=p1 (i-1) (by omega)
  have cb:CB (G ws (i-1)) (G ws i):=by
   rw [Wz (by omega:i-1<ws.length),Wz (by omega:i<ws.length)]
   exact ⟨hw _ (List.getElem_mem _),hw _ (List.getElem_mem _)⟩
  have hn:(adjN ws (i-1)).length=i-1:=Gk _ _
  simp [t4,t8,t9]
  rw [Qe (h:=by kernel_rfl)]
  simp [VM.look,t4,t8,t9,b3',e1,q1,q2]
  refine Qd (Je r x1 _ (G ws (i-1)) (G ws i) ⟨bx1,o1,nr1⟩ cb (by simp [hn];omega) (fun j hj=>?_) hr) ?_
  ·rcases nx1 j hj with q|q
   ·rcases nx j q with q|q
    ·exact hD j q
    ·omega
   ·have:=ch.1;simp at q;omega
  rintro _ H2 ⟨x2,bx2,nx2,c2⟩
  simp [t4,t8,t9]
  refine ih (ws.length-(i+1)) _ _ ⟨i+1,rfl,by omega,by omega,by simp [t4],by simp [t8],?_,?_⟩ (by omega)
  ·simp;rw [w64 (by omega) (by omega)]
  ·have e3:adjN ws (i+1-1)=adjN ws (i-1)++[keyD (G ws (i-1)) (G ws i)]:=by
    have:=qh ws (i-1)
    rw [show i-1+1=i by omega] at this
    exact this
   rw [e3,← List.append_assoc]
   exact DI.trans ch1 nx1 ⟨x2,bx2,nx2,c2⟩
 ·simp
  have e3:adjN ws (i-1)=adjK ws:=by
   unfold adjK
   by_cases h0:ws.length=0
   ·rw [show i-1=ws.length-1 by omega]
   ·rw [show i-1=ws.length-1 by omega]
  rw [← e3]
  refine DI.trans (x0:=x) (K1:=H++L) (ch.trans' (Chg.app (r::D)) fun j hj=>.inl hj) nx ⟨x1,⟨bx1,o1,nr1⟩,nx1,ch1⟩
def walkAdj (w h:Int) (b T:List Int) (l:List (Nat×Nat)):List Int:=l.flatMap fun p=>adjK (walk w h b T p.1 p.2)
theorem Kg (w h:Int) (b T:List Int) (l:List (Nat×Nat)) (p:Nat×Nat):walkAdj w h b T (l++[p])=walkAdj w h b T l++adjK (walk w h b T p.1 p.2):=by simp [walkAdj]
theorem qf (w h:Int) (b T:List Int) (a c:Int):(walk w h b T a c).length≤256:=by
 have:=Rk w h b T c (cnt w h).toNat a []
 have:=Qf w h
 unfold walk;simp at *;omega
theorem Vb (w h:Int) (b T:List Int) (l:List (Nat×Nat)):(walkAdj w h b T l).length≤256*l.length:=by
 induction l with
 | nil=>simp [walkAdj]
 | cons p l ih=>
  have e:walkAdj w h b T (p::l)=adjK (walk w h b T p.1 p.2)++walkAdj w h b T l:=rfl
  rw [e,List.length_append,List.length_cons]
  have h1:=qf w h b T p.1 p.2
  have h2:(adjK (walk w h b T p.1 p.2)).length=(walk w h b T p.1 p.2).length-1:=Gk _ _
  omega
theorem Dj (w h:Int) (v u:Value) (b T:List Int) (r:Nat) (x0:Value) (hI:IsI H v b) (hT:IsI H u T) (hl:b.length≤1073741824) (hz:tsized w h b T)
 (hw:∀a c:Nat,a<(cnt w h).toNat→c<(cnt w h).toNat→∀x∈walk w h b T a c,0≤x∧x<1024)
 (bx:BoxD H r x0 []) (nv:∀i∈ids v,i∉r::ids x0) (nu:∀i∈ids u,i∉r::ids x0) (hr:frz≤r) (hf:∀i∈ids x0,frz≤i) (hF:frz≤H.length) :
 wp (vcall C frz 160 [.agg #[.int .i64 w,.int .i64 h,v],.agg #[u],.func (.func 161) #[] #[.pointer (some ⟨r,0,some 0⟩)]] H) (fun _ H'=>DI H r (ids x0) (walkAdj w h b T (allPairs (cnt w h).toNat (cnt w h).toNat)) H'):=by
 rw [Qb (fn:=Tryz.f160) Tryz.func160 rfl (by kernel_rfl) rfl]
 have onv:=And.intro hI.one' hI.cells
 have onu:=And.intro hT.one' hT.cells
 simp [onv,onu,VM.look]
 obtain ⟨M,hM⟩:∃M:Heap,M=[⟨[.int .i64 w,.int .i64 h,v],0,28⟩,⟨[u],0,30⟩,⟨[.func (.func 161) #[] #[.pointer (some ⟨r,0,some 0⟩)]],0,200⟩]:=⟨_,rfl⟩
 rw [← hM]
 obtain ⟨bx1,bx2,bx3⟩:=bx
 have hrl:=Qs bx1
 have hxl:=bx2.lt
 have hMl:M.length=3:=by rw [hM];rfl
 refine Qd (kj w h _ (Q:=fun r' H'=>r'=.bool true∧DI H r (ids x0) (walkAdj w h b T (allPairs (cnt w h).toNat (cnt w h).toNat)) H')
  (fun done H'=>DI (H++M) r (ids x0) (walkAdj w h b T done) H') ?_ ?_ ?_) ?_
 ·exact ⟨x0,⟨Ql (Ql bx1 _) _,by simpa [walkAdj] using bx2.app.app,bx3⟩,fun i hi=>.inl hi,Chg.app _⟩
 ·rintro done a c H' ha hc hne hd di
  have hlen:=Vb w h b T done
  simp
  refine (Fk w h v u b T (H++M) r H.length (H.length+1) (H.length+2) (ids x0) a c _ (hI.app _) (hT.app _) hl hz ha hc hne (hw a c ha hc) (by omega) (by simp [hM]) (by simp [hM]) (by simp [hM]) ?_ ?_ ?_ nv nu hr hf (by simp;omega) di).mono ?_
  ·simp;exact ⟨by omega,fun hh=>by have:=hxl _ hh;omega⟩
  ·simp;exact ⟨by omega,fun hh=>by have:=hxl _ hh;omega⟩
  ·simp;exact ⟨by omega,fun hh=>by have:=hxl _ hh;omega⟩
  ·rintro _ H2 ⟨rfl,di2⟩
   rw [Kg]
   exact ⟨rfl,di2⟩
 ·intro H' di
  exact ⟨rfl,DI.trans (Chg.app _) (fun i hi=>.inl hi) di⟩
 ·rintro _ H' ⟨rfl,di⟩
  simp
  exact di
theorem Ex {w h:Int} {b T:List Int} {to:Int}:∀(f:Nat) (a:Int) (out:List Int),isN w h a→(∀x∈out,0≤x∧x<64)→∀x∈walkN w h b T to f a out,0≤x∧x<64:=by
 intro f
 induction f with
 | zero=>
  intro a out ha ho x hx
  simp only [walkN] at hx
  repeat' split at hx
  ·exact ho x hx
  ·simp at hx
  ·simp at hx
 | succ f ih=>
  intro a out ha ho x hx
  simp only [walkN] at hx
  repeat' split at hx
  ·exact ho x hx
  ·simp at hx
  ·rename_i hs
   refine ih _ _ (Xl hs.1 hs.2).2.2 (fun y hy=>?_) x hx
   rcases List.mem_append.1 hy with hy|hy
   ·exact ho y hy
   ·rw [List.mem_singleton.1 hy]
    have:=hs.1;have:=(Yn ha).2
    unfold inR at *
    omega
  ·simp at hx
theorem Zp {w h:Int} {b T:List Int} {a to:Int} (ha:isN w h a):∀x∈walk w h b T a to,0≤x∧x<64:=Ex _ _ _ ha (by simp)
def MadeE (H:Heap) (xs:List Int) (r:Value) (H':Heap):Prop:=OwE 194 H' r xs∧Chg H H' []∧∀i∈ids r,H.length≤i
noncomputable def depsOf (w h:Int) (b T:List Int):List Int:=if tableOk w h b T then arrK (walkAdj w h b T (allPairs (cnt w h).toNat (cnt w h).toNat)) else []
theorem Pi (w h:Int) (v u:Value) (b T:List Int) (hI:IsI H v b) (hT:IsI H u T) (hl:b.length≤1073741824) (hF:frz≤H.length) :
 wp (vcall C frz 115 [.agg #[.int .i64 w,.int .i64 h,v],.agg #[u]] H) (MadeE H (depsOf w h b T)):=by
 rw [Qb (fn:=Tryz.f115) Tryz.func115 rfl (by kernel_rfl) rfl]
 have onv:=And.intro hI.one' hI.cells
 have onu:=And.intro hT.one' hT.cells
 have nv:=hI.rd.lt
 have nu:=hT.rd.lt
 have tk:=fun F=>Rr (frz:=F) w h v u b T (hI.app [⟨[.int .i64 w,.int .i64 h,v],0,28⟩,⟨[u],0,30⟩,⟨[],0,194⟩,⟨[.slice (some ⟨H.length+2,0,some 0⟩) 0 0],0,125⟩]) (hT.app _) hl
 simp [onv,onu,VM.look,tk]
 obtain ⟨M,hM⟩:∃M:Heap,M=[⟨[.int .i64 w,.int .i64 h,v],0,28⟩,⟨[u],0,30⟩,⟨[],0,194⟩,⟨[.slice (some ⟨H.length+2,0,some 0⟩) 0 0],0,125⟩]:=⟨_,rfl⟩
 have o0:OwE 194 (H++M) (.slice (some ⟨H.length+2,0,some 0⟩) 0 0) []:=⟨by rw [hM];exact Ow.new (D:=Fl.dep) (xs:=[]) (k:=2) rfl rfl rfl rfl,fun x hx=>by simp at hx⟩
 have g0:(H++M)[H.length+3]? = some ⟨[.slice (some ⟨H.length+2,0,some 0⟩) 0 0],0,125⟩:=by rw [hM];simp
 have b0:(H++M)[H.length]? = some ⟨[.int .i64 w,.int .i64 h,v],0,28⟩:=by rw [hM];simp
 have b1:(H++M)[H.length+1]? = some ⟨[u],0,30⟩:=by rw [hM];simp
 rw [← hM]
 have hMl:M.length=4:=by rw [hM];rfl
 clear hM tk
 refine Qc ?_ ?_<;>intro g
 ·simp [VM.look,g0,b0,b1]
  refine Qd (Dj w h v u b T (H.length+3) (.slice (some ⟨H.length+2,0,some 0⟩) 0 0) (hI.app _) (hT.app _) hl g.1 (fun a c ha hc x hx=>by have:=Zp (b:=b) (T:=T) (Wc ha) (to:=c) x hx;omega) ⟨g0,o0,by simp⟩ ?_ ?_ (by omega) (by simp) (by simp)) ?_
  ·intro i hi hh;have:=nv i hi;simp at hh;omega
  ·intro i hi hh;have:=nu i hi;simp at hh;omega
  rintro _ H1 ⟨x,⟨bx1,bx2,bx3⟩,nx,ch⟩
  have hlen:=Vb w h b T (allPairs (cnt w h).toNat (cnt w h).toNat)
  have hpl:=Yy (cnt w h).toNat (cnt w h).toNat
  have hcn:(cnt w h).toNat*(cnt w h).toNat≤16*16:=Nat.mul_le_mul (by have:=Qf w h;omega) (by have:=Qf w h;omega)
  have nxx:∀i∈ids x,H.length≤i:=fun i hi=>by
   rcases nx i hi with q|q
   ·simp at q;omega
   ·simp at q;omega
  have c1:=ch.1
  simp at c1
  simp [VM.look,bx1]
  refine Qd (Nw x _ bx2 (by omega) nxx (by omega)) ?_
  rintro u2 H2 ⟨o2,n2,c2⟩
  simp
  have:depsOf w h b T=arrK (walkAdj w h b T (allPairs (cnt w h).toNat (cnt w h).toNat)):=by rw [depsOf,if_pos g]
  rw [← this] at o2
  refine ⟨o2,?_,fun i hi=>nxx i (n2 i hi)⟩
  refine (((Chg.app (H:=H) (L:=M) []).trans' ch (fun i hi=>.inr ?_)).trans' c2 fun i hi=>.inr (nxx i hi))
  simp at hi;omega
 ·simp [VM.look,g0]
  rw [depsOf,if_neg g]
  exact ⟨o0,Chg.app _,by simp⟩
@[simp] theorem Qg0 (x:Int):(dv x).cells=#[.int .i64 (x/1024),.int .i64 (x%1024)]:=rfl
theorem Sf (x:Int):Value.agg #[.int .i64 (x/1024),.int .i64 (x%1024)]=dv x:=rfl
@[simp] theorem Qhz (x y:Int):0≤cmpZ x y↔y≤x:=by unfold cmpZ;split<;>omega
def dAt (xs:List Int) (j:Nat):Prop:=(G xs j/1024≤127∧G xs j%1024≤127)∧(0<j→G xs (j-1)<G xs j)
instance (xs:List Int) (j:Nat):Decidable (dAt xs j):=inferInstanceAs (Decidable (_∧_))
def dOk (xs:List Int):Prop:=∀j,j<xs.length→dAt xs j
instance (xs:List Int):Decidable (dOk xs):=inferInstanceAs (Decidable (∀j,_→_))
theorem E6 (h:xs.Pairwise (· < ·)) (hs:∀x∈xs,x/1024≤127∧x%1024≤127):dOk xs:=fun j hj=>by
 refine ⟨?_,fun h0=>?_⟩
 ·rw [Wz hj];exact hs _ (List.getElem_mem hj)
 ·rw [Wz hj,Wz (by omega:j-1<xs.length)]
  exact List.pairwise_iff_getElem.1 h _ _ _ _ (by omega)
theorem Bq (o:OwE e H v xs) {i:Nat} (h1:i<xs.length):∀L,vindexAddr Tryz.prog (H++L) 125 v (.int .i64 i)=some (elp v (i*2))∧vload Tryz.prog (H++L) 194 (elp v (i*2))=some (dv (G xs i)):=fun L=>⟨Qt o.app h1,Qu o.app h1⟩
theorem Ig (v:Value) (xs:List Int) (h:OwE e H v xs) (hl:xs.length≤1073741824):wp (vcall C frz 153 [v] H) (fun r _=>r=.bool (decide (dOk xs))):=by
 rw [Qb (fn:=Tryz.f153) Tryz.func153 rfl (by kernel_rfl) rfl]
 simp [h.rd.len]
 refine Qh (fun n t H'=>∃i:Nat,n=xs.length-i∧i≤xs.length∧t 0=v∧t 5=v∧t 6=.int .i64 xs.length∧t 7=.int .i64 i∧(∃L,H'=H++L)∧∀j,j<i→dAt xs j) ?_ (n:=xs.length)
  ⟨0,by simp,by omega,by simp,by simp,by simp,by simp,⟨[],by simp⟩,fun j hj=>by omega⟩
 rintro n t H' ⟨i,rfl,hi,t0,t5,t6,t7,⟨L,rfl⟩,hd⟩ ih
 simp [t0,t5,t6,t7]
 refine Qc ?_ ?_<;>intro hlt
 ·have b:=h.2.G i
  have b1:=b.1;have b2:=b.2
  have p1:=Bq h hlt
  simp [t0,t5,t6,t7,p1]
  rw [Qe (h:=by kernel_rfl)]
  have e1:0<i→∀[Inhabited Unit],IntKind.i64.wrap ((i:Int)-1)=((i-1:Nat):Int):=by intro _ _;rw [w64 (by omega) (by omega)];omega
  have p2:0<i→∀L,vindexAddr Tryz.prog (H++L) 125 v (.int .i64 (i-1:Nat))=some (elp v ((i-1)*2))∧vload Tryz.prog (H++L) 194 (elp v ((i-1)*2))=some (dv (G xs (i-1))):=fun h0 L=>Bq h (by omega) L
  have cc:=fun F K (j k:Nat)=>L3 (frz:=F) (H:=K) (G xs j) (G xs k) (h.2.G j) (h.2.G k)
  have yes:=fun (t':Env) (L':Heap) (x0:t' 0=v) (x5:t' 5=v) (x6:t' 6=.int .i64 xs.length) (x7:t' 7=.int .i64 (i+1:Nat)) (hq:dAt xs i)=>
   ih (xs.length-(i+1)) t' (H++L') ⟨i+1,rfl,by omega,x0,x5,x6,x7,⟨L',rfl⟩,fun j hj=>by
    by_cases hji:j<i
    ·exact hd j hji
    ·rw [show j=i by omega];exact hq⟩ (by omega)
  have w1:IntKind.i64.wrap ((i:Int)+1)=((i+1:Nat):Int):=by rw [w64 (by omega) (by omega)];omega
  simp [t0,t5,t6,t7,p1,VM.look,Qj,Sf]
  refine Qz ?_ ?_<;>intro g1<;>simp [t0,t5,t6,t7,p1,VM.look,Qj,Sf,g1]
  ·refine Qz ?_ ?_<;>intro g2<;>simp [t0,t5,t6,t7,p1,VM.look,Qj,Sf,g1,g2]
   ·have g12:G xs i/1024≤127∧G xs i%1024≤127:=⟨g1.2,g2.2⟩
    refine Qz ?_ ?_<;>intro g3<;>simp [t0,t5,t6,t7,p1,VM.look,Qj,Sf,g1,g2,g3]
    ·have g3':0<i:=by omega
     have e1:=fun [Inhabited Unit]=>e1 g3'
     have p2:=p2 g3'
     simp [t0,t5,t6,t7,p1,VM.look,Qj,Sf,g1,g2,g3,e1,p2,cc]
     refine Qc ?_ ?_<;>intro g4<;>simp [t0,t5,t6,t7]
     ·intro hh;have:=(hh i hlt).2 g3';omega
     ·refine yes _ _ ?_ ?_ ?_ ?_ ⟨g12,fun _=>by omega⟩<;>simp [t0,t5,t6,w1]
    ·refine yes _ _ ?_ ?_ ?_ ?_ ⟨g12,fun _=>by omega⟩<;>simp [t0,t5,t6,w1]
   ·intro hh;have:=(hh i hlt).1;exact g2 ⟨by omega,this.2⟩
  ·intro hh;have:=(hh i hlt).1;exact g1 ⟨by omega,this.1⟩
 ·simp
  have:i=xs.length:=by omega
  subst this
  exact hd
theorem Yl (v:Value) (xs:List Int) (h:OwE e H v xs) (hl:xs.length≤1073741824):vcall C frz 153 [v] H=some (.bool (decide (dOk xs)),H):=(Ig v xs h hl).exact (by simp) rfl
theorem In (xs:List Int):ones (cellsOf Fl.dep xs)=true:=by
 induction xs with
 | nil=>rfl
 | cons a l ih=>rw [Wa,Gs,ih];rfl
def shiftK (b:Int) (xs:List Int):List Int:=xs.map (·+1025*b)
noncomputable def shiftOf (b:Int) (xs:List Int):List Int:=if dOk xs then (if dOk (shiftK b xs) then shiftK b xs else []) else []
theorem Pc (y:Int) (xs:List Int):(shiftOf y xs).length≤xs.length:=by
 unfold shiftOf shiftK;repeat' split
 all_goals simp
theorem mo {b:Int} (hb:0≤b∧b≤64) (hd:dOk xs) {i:Nat} (hi:i<xs.length) (h0:KB (G xs i)):CB (G xs i/1024+b) (G xs i%1024+b)∧keyD (G xs i/1024+b) (G xs i%1024+b)=G xs i+1025*b:=by
 have:=(hd i hi).1
 have:=h0.1
 unfold CB keyD
 omega
theorem Dy (b:Int) {i:Nat} (hi:i<xs.length):shiftK b (xs.take (i+1))=shiftK b (xs.take i)++[G xs i+1025*b]:=by
 rw [J0 hi];simp [shiftK]
theorem Qa0 (v:Value) (xs:List Int) (b:Int) (h:OwE e H v xs) (hb:0≤b∧b≤64) (hl:xs.length≤1048576) (hF:frz≤H.length):wp (vcall C frz 116 [v,.int .i64 b] H) (MadeE H (shiftOf b xs)):=by
 rw [Qb (fn:=Tryz.f116) Tryz.func116 rfl (by kernel_rfl) rfl]
 have nil:MadeE H [] (.slice none 0 0) H:=⟨⟨.inl ⟨rfl,rfl⟩,fun x hx=>by simp at hx⟩,Chg.refl _,by simp⟩
 have hin:inR (-1000) b 1000:=⟨by omega,by omega⟩
 simp [Yl v xs h (by omega),Qj,hin]
 refine Qz ?_ ?_<;>intro g1
 ·simp [g1,Qj,hin,h.rd.len]
  have o0:OwE 194 (H++[⟨[],0,194⟩]) (.slice (some ⟨H.length,0,some 0⟩) 0 0) []:=⟨Ow.new0 (D:=Fl.dep) (xs:=[]) rfl rfl rfl rfl,fun x hx=>by simp at hx⟩
  have lenA:=fun L=>(h.app (L:=L)).rd.len (P:=Tryz.prog) (ty:=125) (by simp)
  simp [lenA]
  refine Qh (fun n t H'=>∃(i:Nat) (r:Value),n=xs.length-i∧i≤xs.length∧t 0=v∧t 1=.int .i64 b∧t 5=r∧t 17=v∧t 18=.int .i64 xs.length∧t 19=.int .i64 i∧OwE 194 H' r (shiftK b (xs.take i))∧(∀j∈ids r,H.length≤j)∧Chg H H' []) ?_ (n:=xs.length)
   ⟨0,_,by simp,by omega,by simp,by simp,by simp,by simp,by simp,by simp,o0,by simp,Chg.app _⟩
  rintro n t H' ⟨i,r,rfl,hi,t0,t1,t5,t17,t18,t19,o,nr,ch⟩ ih
  simp [t0,t1,t5,t17,t18,t19]
  refine Qc ?_ ?_<;>intro hlt
  ·have hH':=h.chg ch (by simp)
   have p1:=Bq hH' hlt []
   simp only [List.append_nil] at p1
   obtain ⟨s1,s2⟩:=mo hb g1 hlt (h.2.G i)
   have hlr:(shiftK b (xs.take i)).length=i:=by simp [shiftK];omega
   obtain ⟨r2,H2,hap,o2,c2,n2⟩:=Bg (frz:=H.length) (o.app (L:=[⟨[.int .i64 (G xs i/1024),.int .i64 (G xs i%1024)],0,194⟩])) s1 (by rw [hlr];omega) nr
   rw [s2,← Dy b hlt] at o2
   have e1:∀[Inhabited Unit],IntKind.i64.wrap (G xs i/1024+b)=G xs i/1024+b:=by intro _;have:=s1.1;exact w64 (by omega) (by omega)
   have e2:∀[Inhabited Unit],IntKind.i64.wrap (G xs i%1024+b)=G xs i%1024+b:=by intro _;have:=s1.2;exact w64 (by omega) (by omega)
   have l1:=ch.1
   simp at hap
   simp [t0,t1,t5,t17,t18,t19,p1,VM.look,e1,e2,hap,l1]
   refine ih (xs.length-(i+1)) _ _ ⟨i+1,r2,rfl,by omega,by simp [t0],by simp [t1],by simp,by simp [t17],by simp [t18],?_,o2,fun j hj=>?_,(ch.trans (Chg.app [])).trans' c2 (fun j hj=>.inr (nr j hj))⟩ (by omega)
   ·simp;rw [w64 (by omega) (by omega)]
   ·rcases n2 j hj with q|q
    ·exact nr j q
    ·simp at q;omega
  ·have hin:i=xs.length:=by omega
   rw [hin,List.take_length] at o
   have hlr:(shiftK b xs).length=xs.length:=by simp [shiftK]
   simp [t0,t1,t5,Yl r _ o (by omega)]
   refine Qc ?_ ?_<;>intro g2
   ·simp [t5]
    rw [shiftOf,if_pos g1,if_pos g2]
    exact ⟨o,ch,nr⟩
   ·simp
    rw [shiftOf,if_pos g1,if_neg g2]
    exact ⟨⟨.inl ⟨rfl,rfl⟩,fun x hx=>by simp at hx⟩,ch,by simp⟩
 ·simp [g1]
  rw [shiftOf,if_neg g1]
  exact nil
theorem Fe (k:Int):∀l:List Int,(insK k l).length≤l.length+1
 | []=>by simp [insK]
 | a::l=>by
  have:=Fe k l
  unfold insK
  repeat' split
  all_goals simp
  omega
theorem M8:∀(l s:List Int),(l.foldl (fun s k=>insK k s) s).length≤s.length+l.length
 | [],s=>by simp
 | k::l,s=>by
  have:=M8 l (insK k s)
  have:=Fe k s
  simp only [List.foldl_cons,List.length_cons]
  omega
noncomputable def mergeOf (xs ys:List Int):List Int:=if dOk xs then (if dOk ys then arrK (xs++ys) else []) else []
theorem Gi (l:List Int):(arrK l).length≤l.length:=by
 have:=M8 l []
 unfold arrK;simpa using this
theorem ji {l:List Int} {i:Nat} {x:Int}:x∈adjN l i↔∃k,k<i∧x=keyD (G l k) (G l (k+1)):=by
 simp [adjN,eq_comm]
theorem N5 {l:List Int} {x:Int}:x∈adjK l↔∃k,k+1<l.length∧x=keyD (G l k) (G l (k+1)):=by
 unfold adjK
 rw [ji]
 constructor<;>rintro ⟨k,h1,h2⟩<;>exact ⟨k,by omega,h2⟩
theorem wu {w h:Int} {b T:List Int} {a to:Int} (ha:isN w h a):∀x∈adjK (walk w h b T a to),(0≤x/1024∧x/1024<64)∧0≤x%1024∧x%1024<64:=fun x hx=>by
 obtain ⟨k,h1,rfl⟩:=N5.1 hx
 have q1:=Zp (b:=b) (T:=T) ha (to:=to) (G (walk w h b T a to) k) (by rw [Wz (by omega)];exact List.getElem_mem _)
 have q2:=Zp (b:=b) (T:=T) ha (to:=to) (G (walk w h b T a to) (k+1)) (by rw [Wz h1];exact List.getElem_mem _)
 unfold keyD
 omega
theorem Wv {w h:Int} {b T:List Int}:∀x∈depsOf w h b T,(0≤x/1024∧x/1024<64)∧0≤x%1024∧x%1024<64:=fun x hx=>by
 unfold depsOf at hx
 split at hx
 ·rw [Sz] at hx
  obtain ⟨p,hp,hx⟩:=List.mem_flatMap.1 hx
  exact wu (Wc (Yx (a:=p.1) (c:=p.2).1 hp).1) x hx
 ·simp at hx
theorem Oi {w h:Int} {b T:List Int}:(depsOf w h b T).Pairwise (· < ·):=by
 unfold depsOf;split
 ·exact O1 _
 ·exact List.Pairwise.nil
theorem Lh {w h:Int} {b T:List Int}:dOk (depsOf w h b T):=E6 Oi fun x hx=>by have:=Wv x hx;omega
theorem Ub (w h:Int) (b T:List Int):(depsOf w h b T).length≤65536:=by
 unfold depsOf;split
 ·have h1:=Gi (walkAdj w h b T (allPairs (cnt w h).toNat (cnt w h).toNat))
  have h2:=Vb w h b T (allPairs (cnt w h).toNat (cnt w h).toNat)
  have h3:=Yy (cnt w h).toNat (cnt w h).toNat
  have h4:(cnt w h).toNat*(cnt w h).toNat≤16*16:=Nat.mul_le_mul (by have:=Qf w h;omega) (by have:=Qf w h;omega)
  omega
 ·simp
theorem C5 {w h:Int} {b T:List Int} (k:tableOk w h b T) {a:Nat} (ha:a<(cnt w h).toNat):walk w h b T a a=[]:=by
 have h4:=(k.2 a ha a ha).1 rfl
 unfold walk
 cases (cnt w h).toNat<;>simp [walkN,h4]
end Go.Proofs.YtaldglgobgjeaaaGreat.V
set_option linter.all false
namespace Go.Proofs.YtaldglgobgjeaaaGreat.V
open Go Go.VM Go.Proofs
set_option maxRecDepth 10000
def ordFree (ds:List (Nat×Nat)) (ranks:List Int) (c:Nat):Prop:=ranks.getD c 0<0∧∀d∈ds,d.2=c→¬ranks.getD d.1 0<0
instance (ds:List (Nat×Nat)) (ranks:List Int) (c:Nat):Decidable (ordFree ds ranks c):=inferInstanceAs (Decidable (_∧_))
def ordNext (ds:List (Nat×Nat)) (ranks:List Int):Option Nat:=(List.range 128).find? fun c=>decide (ordFree ds ranks c)
def ordRun (ds:List (Nat×Nat)):Nat→Option (List Int)
 | 0=>some (List.replicate 128 (-1))
 | r+1=>match ordRun ds r with
  | some ranks=>match ordNext ds ranks with
   | some c=>some (ranks.set c (r:Int))
   | none=>none
  | none=>none
def orderOk (ds:List (Nat×Nat)):Prop:=ordRun ds 128≠none
instance (ds:List (Nat×Nat)):Decidable (orderOk ds):=inferInstanceAs (Decidable (_≠_))
def negs (ranks:List Int):Nat:=(ranks.filter fun x=>decide (x<0)).length
theorem Ma:∀(ranks:List Int) (c:Nat) (x:Int),c<ranks.length→ranks.getD c 0<0→0≤x→negs (ranks.set c x)+1=negs ranks
 | [],c,x,h,_,_=>by simp at h
 | a::l,0,x,_,h1,h2=>by
  have h1:a<0:=h1
  unfold negs
  rw [List.set_cons_zero,List.filter_cons_of_neg (by simp;omega),List.filter_cons_of_pos (by simp;omega)]
  rfl
 | a::l,c+1,x,h,h1,h2=>by
  have ih:=Ma l c x (by simpa using h) h1 h2
  unfold negs at ih ⊢
  rw [List.set_cons_succ,List.filter_cons,List.filter_cons]
  split
  ·simp only [List.length_cons];omega
  ·omega
theorem mp {ranks:List Int} (h:0<negs ranks):∃c,c<ranks.length∧ranks.getD c 0<0:=by
 unfold negs at h
 obtain ⟨x,hx⟩:=List.exists_mem_of_length_pos h
 obtain ⟨h1,h2⟩:=List.mem_filter.1 hx
 obtain ⟨c,hc,rfl⟩:=List.mem_iff_getElem.1 h1
 exact ⟨c,hc,by simpa [List.getD_eq_getElem?_getD,hc] using h2⟩
theorem lowest (φ:Nat→Int) (P:Nat→Prop):∀n,(∃c,c<n∧P c)→∃c,c<n∧P c∧∀c',c'<n→P c'→φ c≤φ c'
 | 0,⟨c,h,_⟩=>by omega
 | n+1,⟨c,h,hp⟩=>by
  by_cases e:∃c,c<n∧P c
  ·obtain ⟨m,m1,m2,m3⟩:=lowest φ P n e
   by_cases q:P n∧φ n<φ m
   ·refine ⟨n,by omega,q.1,fun c' h1 h2=>?_⟩
    by_cases ec:c'=n
    ·subst ec;omega
    ·have:=m3 c' (by omega) h2;omega
   ·refine ⟨m,by omega,m2,fun c' h1 h2=>?_⟩
    by_cases ec:c'=n
    ·subst ec
     rcases Int.lt_or_le (φ c') (φ m) with k|k
     ·exact absurd ⟨h2,k⟩ q
     ·exact k
    ·exact m3 c' (by omega) h2
  ·have ec:c=n:=by
    rcases Nat.lt_or_ge c n with k|k
    ·exact absurd ⟨c,k,hp⟩ e
    ·omega
   subst ec
   refine ⟨c,h,hp,fun c' h1 h2=>?_⟩
   have:c'=c:=by
    rcases Nat.lt_or_ge c' c with k|k
    ·exact absurd ⟨c',k,h2⟩ e
    ·omega
   subst this;omega
theorem Lu {ds:List (Nat×Nat)} (hd:∀d∈ds,d.1<128) (φ:Nat→Int) (hφ:∀d∈ds,φ d.1<φ d.2):∀r,r≤128→∃ranks,ordRun ds r=some ranks∧ranks.length=128∧negs ranks=128-r
 | 0,_=>⟨_,rfl,by simp,by
  unfold negs
  rw [List.filter_eq_self.2]
  ·simp
  ·intro x hx
   rw [List.eq_of_mem_replicate hx];decide⟩
 | r+1,hr=>by
  obtain ⟨ranks,h1,h2,h3⟩:=Lu hd φ hφ r (by omega)
  obtain ⟨c0,k1,k2⟩:=mp (ranks:=ranks) (by omega)
  obtain ⟨c,m1,m2,m3⟩:=lowest φ (fun c=>ranks.getD c 0<0) 128 ⟨c0,by omega,k2⟩
  have hf:ordFree ds ranks c:=⟨m2,fun d hdm e k=>by
   have:=m3 d.1 (hd d hdm) k
   have:=hφ d hdm
   rw [e] at this;omega⟩
  have hn:ordNext ds ranks≠none:=fun e=>by
   have:=List.find?_eq_none.1 e c (List.mem_range.2 m1)
   simp [hf] at this
  obtain ⟨c',hc'⟩:∃c',ordNext ds ranks=some c':=Option.ne_none_iff_exists'.1 hn
  have hf':ordFree ds ranks c':=by simpa using List.find?_some hc'
  have hl':c'<128:=List.mem_range.1 (List.mem_of_find?_eq_some hc')
  refine ⟨ranks.set c' (r:Int),?_,by rw [List.length_set];exact h2,?_⟩
  ·unfold ordRun;rw [h1];simp only;rw [hc']
  ·have:=Ma ranks c' (r:Int) (by omega) hf'.1 (by omega)
   omega
theorem vf {ds:List (Nat×Nat)} (hd:∀d∈ds,d.1<128) (φ:Nat→Int) (hφ:∀d∈ds,φ d.1<φ d.2):orderOk ds:=by
 obtain ⟨ranks,h,_⟩:=Lu hd φ hφ 128 (Nat.le_refl _)
 unfold orderOk;rw [h];simp
end Go.Proofs.YtaldglgobgjeaaaGreat.V
set_option linter.all false
namespace Go.Proofs.YtaldglgobgjeaaaGreat.V
open Go Go.VM Go.Proofs
set_option maxRecDepth 10000
variable {frz:Nat} {H:Heap} {v:Value} {xs ys:List Int} {e:TypeId}
theorem Vu {z:Value} {ws:List Int} (hz:IsI H z ws) {k:Nat} (hk:k<ws.length):vindexAddr Tryz.prog H 26 z (.int .i64 k)=some (elp z k)∧vload Tryz.prog H 3 (elp z k)=some (.int .i64 (G ws k)):=by
 refine ⟨?_,hz.load (by simp) hk⟩
 have:=hz.idx (P:=Tryz.prog) (ty:=26) (e:=3) (by simp) (i:=(k:Int)) (by omega) (by omega)
 simpa using this
theorem Qar (v:Value) (l:List Int) (hI:IsI H v l) (hne:0<l.length) (hl:l.length≤1073741824):vcall C frz 155 [v] H=some (.slice (some ⟨H.length,0,some 0⟩) l.length 0,H++[⟨l.map (.int .i64),0,3⟩]):=by
 rw [Qb (fn:=Tryz.f155) Tryz.func155 rfl (by kernel_rfl) rfl]
 have hsrc:=(hI.app [⟨[],0,3⟩]).src
 rcases hI with ⟨rfl,rfl⟩|⟨id,off,r,rfl,h2,h3⟩
 ·simp at hne
 have h0:¬l.length=0:=by omega
 simp [hsrc,h0,hl,vnilq,VM.look,h2]
 done
def prs (xs:List Int):List (Nat×Nat):=xs.map fun k=>((k/1024).toNat,(k%1024).toNat)
theorem mj {l:List Int} {i:Nat} (x:Int) (h:i<l.length) (c:Nat):G (l.set i x) c=if c=i then x else G l c:=by
 unfold G
 rw [List.getD_eq_getElem?_getD,List.getD_eq_getElem?_getD,List.getElem?_set]
 by_cases e:i=c
 ·subst e;simp [h]
 ·rw [if_neg e,if_neg (Ne.symm e)]
theorem gk (rk:List Int) (c:Nat):ordFree (prs xs) rk c↔G rk c<0∧∀j,j<xs.length→(G xs j%1024).toNat=c→¬G rk (G xs j/1024).toNat<0:=by
 unfold ordFree prs
 refine and_congr Iff.rfl ⟨fun h j hj e=>?_,fun h d hd e=>?_⟩
 ·rw [Wz hj] at e ⊢
  exact h _ (List.mem_map_of_mem (List.getElem_mem hj)) e
 ·obtain ⟨k,hk,rfl⟩:=List.mem_map.1 hd
  obtain ⟨j,hj,rfl⟩:=List.mem_iff_getElem.1 hk
  have:=h j hj
  rw [Wz hj] at this
  exact this e
theorem Ng {ds:List (Nat×Nat)}:∀{r:Nat} {rk:List Int},ordRun ds r=some rk→rk.length=128
 | 0,rk,h=>by cases h;simp
 | r+1,rk,h=>by
  unfold ordRun at h
  split at h
  ·rename_i rk0 h0
   split at h
   ·cases h;rw [List.length_set];exact Ng h0
   ·cases h
  ·cases h
theorem Pb {ds:List (Nat×Nat)} {r:Nat} (h:ordRun ds r=none):∀k,ordRun ds (r+k)=none
 | 0=>h
 | k+1=>by
  show ordRun ds ((r+k)+1)=none
  unfold ordRun
  rw [Pb h k]
theorem wq {ds:List (Nat×Nat)} {r:Nat} {rk:List Int} (hr:r<128) (h:ordRun ds r=some rk) (hn:ordNext ds rk=none):¬orderOk ds:=fun k=>by
 have h1:ordRun ds (r+1)=none:=by
  unfold ordRun;rw [h];simp only [hn]
 have:=Pb h1 (128-(r+1))
 rw [show r+1+(128-(r+1))=128 by omega] at this
 exact k this
theorem xu {ds:List (Nat×Nat)} {r c:Nat} {rk:List Int} (h:ordRun ds r=some rk) (hn:ordNext ds rk=some c):ordRun ds (r+1)=some (rk.set c (r:Int)):=by
 unfold ordRun;rw [h];simp only [hn]
theorem Ds {fr rk:List Int} (fl:fr.length=128) (hf:∀c,G fr c=-2↔ordFree (prs xs) rk c) :
 (∃c:Nat,c<128∧placeP (fun x=>decide (x=-2)) fr=c∧ordNext (prs xs) rk=some c)∨(placeP (fun x=>decide (x=-2)) fr=-1∧ordNext (prs xs) rk=none):=by
 cases hn:ordNext (prs xs) rk with
 | none=>
  refine .inr ⟨?_,rfl⟩
  unfold placeP
  rw [if_neg]
  rw [List.any_eq_true]
  rintro ⟨x,hx,hp⟩
  obtain ⟨c,hc,rfl⟩:=List.mem_iff_getElem.1 hx
  have h1:G fr c=-2:=by rw [Wz hc];simpa using hp
  have:=List.find?_eq_none.1 hn c (List.mem_range.2 (by omega))
  exact this (by simpa using (hf c).1 h1)
 | some c=>
  unfold ordNext at hn
  rw [List.find?_eq_some_iff_getElem] at hn
  obtain ⟨h1,i,hi,h2,h3⟩:=hn
  simp at hi h2 h1
  subst h2
  refine .inl ⟨i,hi,L8 (by omega) (fun x hx=>?_) ?_,rfl⟩
  ·rw [List.mem_take_iff_getElem] at hx
   obtain ⟨j,hj,rfl⟩:=hx
   have:=h3 j (by omega)
   simp at this
   have q:¬G fr j=-2:=fun h=>this ((hf j).1 h)
   rw [Wz (by omega)] at q
   simpa using q
  ·have:=(hf i).2 h1
   rw [Wz (by omega)] at this
   simpa using this
def OrdRes (H:Heap) (xs:List Int) (r:Value) (H':Heap):Prop:=
 ∃z ranks,r=.tuple #[z,.bool (decide (dOk xs∧orderOk (prs xs)))]∧Rd Fl.int H' z ranks∧Chg H H' []∧∀i∈ids z,H.length≤i
theorem Dx {A B:Heap} {is:List Nat} (h:Chg A B is) (L:Heap):Chg A (B++L) is:=h.trans (Chg.app _)
theorem Qas (x:Int):vcall C frz 183 [.int .i64 x] H=some (.bool (decide (x=-2)),H):=by
 rw [Qb (fn:=Tryz.f183) Tryz.func183 rfl (by kernel_rfl) rfl]
 simp
theorem Jy (u:Value) (fr:List Int) (hI:IsI H u fr) (hl:fr.length≤1073741824):vcall C frz 156 [v,u] H=some (.int .i64 (placeP (fun x=>decide (x=-2)) fr),H):=by
 rw [Qb (fn:=Tryz.f156) Tryz.func156 rfl (by kernel_rfl) rfl]
 have hf:∀F,∀x∈fr,vclos (vcall C F) (.func (.func 183) #[] #[]) [.int .i64 x] H=some (.bool (decide (x=-2)),H):=fun F x hx=>by
  simp [vclos,Qas]
 have:=fun F=>Pe (frz:=F) u (.func (.func 183) #[] #[]) (fun x=>decide (x=-2)) fr hI hl (hf _)
 simp [this]
 done
theorem Ay (v:Value) (xs:List Int) (h:OwE e H v xs) (hl:xs.length≤1073741824):wp (vcall C frz 112 [v] H) (OrdRes H xs):=by
 rw [Qb (fn:=Tryz.f112) Tryz.func112 rfl (by kernel_rfl) rfl]
 simp [Yl v xs h hl]
 refine Qc ?_ ?_<;>intro hd
 ·obtain ⟨R,hR⟩:∃R:List Value,R=List.replicate 128 (.int .i64 (-1)):=⟨_,rfl⟩
  have rc:=fun F=>Ic (frz:=F) (H:=H++[⟨[.int .i64 (-1)],0,3⟩]) H.length (-1) 128 (by simp) (by decide) (by decide)
  rw [← hR] at rc
  simp at rc
  simp [rc]
  obtain ⟨K,hK⟩:∃K,K=H++[⟨[.int .i64 (-1)],0,3⟩,⟨R,0,3⟩]:=⟨_,rfl⟩
  obtain ⟨s,hs⟩:∃s:Value,s=.slice (some ⟨H.length+1,0,some 0⟩) 128 0:=⟨_,rfl⟩
  have hcell:R=cellsOf Fl.int (List.replicate 128 (-1)):=by rw [hR,Q8,List.map_replicate]
  have o0:Ow Fl.int 3 K s (List.replicate 128 (-1)):=by
   rw [hK,hs];exact Ow.new (k:=1) rfl hcell (by rw [hR];simp [ones,VM.one]) (by simp)
  have cK:Chg H K []:=by rw [hK];exact Chg.app _
  have hids:ids s=[H.length+1]:=by rw [hs];rfl
  rw [← hK,← hs]
  clear hK rc hcell
  refine Qh (fun n t H'=>∃(r:Nat) (rk:List Int),n=128-r∧r≤128∧t 0=v∧t 4=s∧t 17=.int .i64 r∧ordRun (prs xs) r=some rk∧Ow Fl.int 3 H' s rk∧Chg H H' []) ?_ (n:=128)
   ⟨0,_,rfl,by omega,by simp,by simp,by simp,rfl,o0,cK⟩
  rintro n t H' ⟨r,rk,rfl,hr,t0,t4,t17,hrk,o,ch⟩ ih
  have hlen:=Ng hrk
  simp [t0,t4,t17]
  refine Qc ?_ ?_<;>intro hlt
  ·have cl:=fun F=>Qar (frz:=F) s rk o.rd.isI (by omega) (by omega)
   have rl:=o.rd.len (P:=Tryz.prog) (ty:=26) (by simp)
   rw [hlen] at cl rl
   have rlL:=fun L=>(o.app (L:=L)).rd.len (P:=Tryz.prog) (ty:=26) (by simp)
   rw [hlen] at rlL
   simp [t0,t4,t17,cl,rlL]
   obtain ⟨u,hu⟩:∃u:Value,u=.slice (some ⟨H'.length,0,some 0⟩) 128 0:=⟨_,rfl⟩
   obtain ⟨K1,hK1⟩:∃K1,K1=H'++[⟨rk.map (.int .i64),0,3⟩]:=⟨_,rfl⟩
   have ou:Ow Fl.int 3 K1 u rk:=by rw [hK1,hu,← hlen];exact Ow.new0 rfl (Q8 rk).symm (by simp) rfl
   have c1:Chg H' K1 []:=by rw [hK1];exact Chg.app _
   have hiu:ids u=[H'.length]:=by rw [hu];rfl
   have hsl:H.length+1<H'.length:=o.lt _ (by rw [hids];simp)
   rw [← hK1,← hu]
   clear hK1
   have o1:=o.chg c1 (by simp)
   refine Qh (fun m t H2=>∃(i:Nat) (fr:List Int),m=128-i∧i≤128∧t 0=v∧t 4=s∧t 5=.int .i64 r∧t 6=u∧t 17=.int .i64 r∧t 22=s∧t 23=.int .i64 128∧t 24=.int .i64 i∧Ow Fl.int 3 H2 u fr∧fr.length=128∧Chg K1 H2 [H'.length]∧
    ∀c,G fr c=if c<i∧G rk c<0 then -2 else G rk c) ?_ (n:=128)
    ⟨0,rk,rfl,by omega,by simp [t0],by simp [t4],by simp,by simp,by simp [t17],by simp,by simp,by simp,ou,hlen,Chg.refl _,fun c=>by simp⟩
   rintro m t H2 ⟨i,fr,rfl,hi,t0,t4,t5,t6,t17,t22,t23,t24,o2,fl,ch2,hf⟩ ih1
   simp [t0,t4,t5,t6,t17,t22,t23,t24]
   refine Qc ?_ ?_<;>intro hlt1
   ·have os:=o1.chg ch2 (by rw [hids];simp;omega)
    have p1:=Vu os.rd.isI (k:=i) (by omega)
    have p2:=Vu o2.rd.isI (k:=i) (by omega)
    have w1:∀[Inhabited Unit],IntKind.i64.wrap ((i:Int)+1)=((i+1:Nat):Int):=by intro _;rw [w64 (by omega) (by omega)];omega
    simp [t0,t4,t5,t6,t17,t22,t23,t24,p1]
    refine Qc ?_ ?_<;>intro hneg
    ·obtain ⟨H3,st,o3,c3,l3⟩:=o2.put1 (P:=Tryz.prog) (frz:=H.length) (et:=3) (ag:=false) rfl (by simp) (j:=i) (by omega) (x:=.int .i64 (-2)) (y:=-2) rfl rfl rfl (by rw [hiu];simp;omega)
     simp [t0,t4,t5,t6,t17,t22,t23,t24,p2,st,w1]
     refine ih1 (128-(i+1)) _ _ ⟨i+1,_,rfl,by omega,by simp [t0],by simp [t4],by simp [t5],by simp [t6],by simp [t17],by simp [t22],by simp [t23],by simp,o3,by simpa using fl,ch2.trans (hiu▸c3),fun c=>?_⟩ (by omega)
     rw [mj _ (by omega),hf c]
     by_cases hc:c=i
     ·subst hc;simp [hneg]
     ·rw [if_neg hc]
      by_cases hc2:c<i
      ·simp [hc2,show c<i+1 by omega]
      ·rw [if_neg (fun h=>hc2 h.1),if_neg (fun h=>by omega)]
    ·simp [t0,t4,t5,t6,t17,t22,t23,t24,w1]
     refine ih1 (128-(i+1)) _ _ ⟨i+1,fr,rfl,by omega,by simp [t0],by simp [t4],by simp [t5],by simp [t6],by simp [t17],by simp [t22],by simp [t23],by simp,o2,fl,ch2,fun c=>?_⟩ (by omega)
     rw [hf c]
     by_cases hc:c=i
     ·subst hc;rw [if_neg (fun h=>by omega),if_neg (fun h=>hneg h.2)]
     ·by_cases hc2:c<i
      ·simp [hc2,show c<i+1 by omega]
      ·rw [if_neg (fun h=>hc2 h.1),if_neg (fun h=>by omega)]
   ·have hi':i=128:=by omega
    subst hi'
    have h2:=h.chg (((ch.trans c1).trans' ch2 (fun i hi=>.inr (by simp at hi;omega)))) (by simp)
    simp [t0,t4,t5,t6,t17,h2.rd.len]
    have hsm:=fun j (hj:j<xs.length)=>(hd j hj).1
    have hbd:=fun j=>h.2.G j
    refine Qh (fun m t H3=>∃(i:Nat) (fr:List Int),m=xs.length-i∧i≤xs.length∧t 0=v∧t 4=s∧t 5=.int .i64 r∧t 6=u∧t 17=.int .i64 r∧t 35=v∧t 36=.int .i64 xs.length∧t 37=.int .i64 i∧Ow Fl.int 3 H3 u fr∧fr.length=128∧Chg K1 H3 [H'.length]∧
     ∀c,G fr c=-2↔G rk c<0∧∀j,j<i→(G xs j%1024).toNat=c→¬G rk (G xs j/1024).toNat<0) ?_ (n:=xs.length)
     ⟨0,fr,by simp,by omega,by simp [t0],by simp [t4],by simp [t5],by simp [t6],by simp [t17],by simp,by simp,by simp,o2,fl,ch2,fun c=>by
      rw [hf c]
      by_cases hc:c<128
      ·by_cases hg:G rk c<0
       ·simp [hc,hg]
       ·simp [hg];omega
      ·have:G rk c=0:=by unfold G;rw [List.getD_eq_getElem?_getD,List.getElem?_eq_none (by omega)];rfl
       simp [this]⟩
    clear hf o2 fl ch2 t0 t4 t5 t6 t17 t22 t23 t24 h2
    rintro m t H3 ⟨i,fr,rfl,hi2,t0,t4,t5,t6,t17,t35,t36,t37,o2,fl,ch2,hf⟩ ih2
    have h2:=h.chg (((ch.trans c1).trans' ch2 (fun i hi=>.inr (by simp at hi;omega)))) (by simp)
    simp [t0,t4,t5,t6,t17,t35,t36,t37]
    refine Qc ?_ ?_<;>intro hlt2
    ·have os:=fun L=>(o1.chg ch2 (by rw [hids];simp;omega)).app (L:=L)
     have b:=hbd i
     have b1:=b.1;have b2:=b.2
     have b3:=hsm i hlt2
     have p1:=Bq h2 hlt2
     have p10:=p1 []
     simp only [List.append_nil] at p10
     obtain ⟨f,hfr⟩:∃f:Nat,f=(G xs i/1024).toNat:=⟨_,rfl⟩
     obtain ⟨g,hto⟩:∃g:Nat,g=(G xs i%1024).toNat:=⟨_,rfl⟩
     have ef:G xs i/1024=(f:Int):=by omega
     have eg:G xs i%1024=(g:Int):=by omega
     have p2:=fun L=>Vu (os L).rd.isI (k:=f) (by omega)
     have p3:=fun L=>Vu (os L).rd.isI (k:=g) (by omega)
     have o2L:=fun L=>o2.app (L:=L)
     have p4:=fun L=>Vu (o2L L).rd.isI (k:=g) (by omega)
     have w1:∀[Inhabited Unit],IntKind.i64.wrap ((i:Int)+1)=((i+1:Nat):Int):=by intro _;rw [w64 (by omega) (by omega)];omega
     have yes:=fun (t':Env) (H4:Heap) (fr':List Int) (x0:t' 0=v) (x4:t' 4=s) (x5:t' 5=.int .i64 r) (x6:t' 6=u) (x17:t' 17=.int .i64 r) (x35:t' 35=v) (x36:t' 36=.int .i64 xs.length) (x37:t' 37=.int .i64 (i+1:Nat)) (o4:Ow Fl.int 3 H4 u fr') (fl':fr'.length=128) (ch4:Chg K1 H4 [H'.length])
      (hq:∀c,G fr' c=-2↔G rk c<0∧∀j,j<i+1→(G xs j%1024).toNat=c→¬G rk (G xs j/1024).toNat<0)=>
      ih2 (xs.length-(i+1)) t' H4 ⟨i+1,fr',rfl,by omega,x0,x4,x5,x6,x17,x35,x36,x37,o4,fl',ch4,hq⟩ (by omega)
     have stay:¬(G rk f<0∧G rk g<0)→∀c,G fr c=-2↔G rk c<0∧∀j,j<i+1→(G xs j%1024).toNat=c→¬G rk (G xs j/1024).toNat<0:=fun hn c=>by
      rw [hf c]
      refine and_congr_right fun hc=>⟨fun hh j hj e=>?_,fun hh j hj=>hh j (by omega)⟩
      by_cases hji:j=i
      ·subst hji;rw [← hfr];intro hneg;refine hn ⟨hneg,?_⟩;rw [hto,e];exact hc
      ·exact hh j (by omega) e
     have hHl:H.length≤H3.length:=by have:=ch.1;have:=c1.1;have:=ch2.1;omega
     simp [t0,t4,t5,t6,t17,t35,t36,t37,p10,hHl,ef,eg,p2]
     have cb:=fun L=>Dx ch2 L
     refine Qz ?_ ?_<;>intro g1<;>simp [t0,t4,t5,t6,t17,t35,t36,t37,VM.look,p3,g1]
     ·refine Qc ?_ ?_<;>intro g2
      ·obtain ⟨H5,st,o5,c5,l5⟩:=(o2L [⟨[.int .i64 (f:Int),.int .i64 (g:Int)],0,194⟩]).put1 (P:=Tryz.prog) (frz:=H.length) (et:=3) (ag:=false) rfl (by simp) (j:=g) (by omega) (x:=.int .i64 (-1)) (y:=-1) rfl rfl rfl (by rw [hiu];simp;omega)
       simp [t0,t4,t5,t6,t17,t35,t36,t37,VM.look,p4,st,w1]
       refine yes _ _ _ ?_ ?_ ?_ ?_ ?_ ?_ ?_ ?_ o5 (by simpa using fl) ((cb _).trans (hiu▸c5)) ?_
       any_goals simp [t0,t4,t5,t6,t17,t35,t36]
       intro c
       rw [mj _ (by omega)]
       by_cases hc:c=g
       ·rw [if_pos hc]
        refine ⟨fun hh=>by omega,fun hh=>?_⟩
        have:=hh.2 i (by omega) (by rw [hc,hto])
        rw [← hfr] at this;omega
       ·rw [if_neg hc,hf c]
        refine and_congr_right fun _=>⟨fun hh j hj e=>?_,fun hh j hj e=>?_⟩
        ·by_cases hji:j=i
         ·subst hji;omega
         ·have:=hh j (by omega) e;omega
        ·have:=hh j (by omega) e;omega
      ·simp [t0,t4,t5,t6,t17,t35,t36,t37,w1]
       refine yes _ _ _ ?_ ?_ ?_ ?_ ?_ ?_ ?_ ?_ (o2L _) fl (cb _) (stay fun h=>g2 h.2)<;>simp [t0,t4,t5,t6,t17,t35,t36]
     ·simp [t0,t4,t5,t6,t17,t35,t36,t37,w1]
      refine yes _ _ _ ?_ ?_ ?_ ?_ ?_ ?_ ?_ ?_ (o2L _) fl (cb _) (stay fun h=>g1 h.1)<;>simp [t0,t4,t5,t6,t17,t35,t36]
    ·have hi':i=xs.length:=by omega
     subst hi'
     simp [t0,t4,t5,t6,t17]
     have pl:=Ds fl (fun c=>(hf c).trans (gk rk c).symm)
     have nx:=fun F=>Jy (v:=v) (frz:=F) u fr o2.rd.isI (by omega)
     rcases pl with ⟨c,hc,e1,e2⟩|⟨e1,e2⟩
     ·rw [e1] at nx
      have os:=o1.chg ch2 (by rw [hids];simp;omega)
      have p2:=Vu os.rd.isI (k:=c) (by omega)
      have w1:∀[Inhabited Unit],IntKind.i64.wrap ((r:Int)+1)=((r+1:Nat):Int):=by intro _;rw [w64 (by omega) (by omega)];omega
      have hc0:¬((c:Int)<0):=by omega
      obtain ⟨H5,st,o5,c5,l5⟩:=os.put1 (P:=Tryz.prog) (frz:=H.length) (et:=3) (ag:=false) rfl (by simp) (j:=c) (by omega) (x:=.int .i64 (r:Int)) (y:=(r:Int)) rfl rfl rfl (by rw [hids];simp)
      simp [t0,t4,t5,t6,t17,nx,hc0,p2,st,w1]
      refine ih (128-(r+1)) _ _ ⟨r+1,_,rfl,by omega,by simp [t0],by simp [t4],by simp,xu hrk e2,o5,?_⟩ (by omega)
      exact ((ch.trans c1).trans' ch2 (fun i hi=>.inr (by simp at hi;omega))).trans' c5 (fun i hi=>.inr (by rw [hids] at hi;simp at hi;omega))
     ·rw [e1] at nx
      simp [t0,t4,t5,t6,t17,nx]
      refine ⟨.slice none 0 0,[],?_,.inl ⟨rfl,rfl⟩,(ch.trans c1).trans' ch2 (fun i hi=>.inr (by simp at hi;omega)),by simp⟩
      have:=wq (by omega) hrk e2
      simp [this]
  ·have hr':r=128:=by omega
   subst hr'
   simp [t4]
   refine ⟨s,rk,?_,o.rd,ch,by rw [hids];simp⟩
   have:orderOk (prs xs):=by unfold orderOk;rw [hrk];simp
   simp [this,hd]
 ·simp
  exact ⟨.slice none 0 0,[],by simp [hd],.inl ⟨rfl,rfl⟩,Chg.refl _,by simp⟩
theorem growE (n:Int) (h0:0≤n) (h1:n≤1073741824) :
 wp (vcall C frz 188 [.slice none 0 0,.int .i64 n] H) (MadeE H []):=by
 rw [Qb (fn:=Tryz.f188) Tryz.func188 rfl (by kernel_rfl) rfl]
 have wr0:IntKind.i64.wrap 0=0:=by decide
 have e:IntKind.i64.wrap n=n:=w64 (by omega) (by omega)
 have hn:¬n<0:=by omega
 have hb:Bd []:=fun x hx=>by simp at hx
 simp [wr0,e,hn]
 refine Qc ?_ ?_<;>intro h2
 ·simp [h2,wr0,e,hn]
  refine X4 h1 (X4 (by omega) ?_)
  refine Qf9 rfl ?_
  exact ⟨⟨Ow.new0 rfl rfl rfl rfl,hb⟩,Chg.app _,by simp⟩
 ·simp
  exact ⟨⟨.inl ⟨rfl,rfl⟩,hb⟩,Chg.refl _,by simp⟩
theorem ky (id:Nat) (x y:Value) (xs ys:List Int) (hr:H[id]? = some ⟨[x,y],0,125⟩) (hx:OwE 194 H x xs) (hy:OwE 194 H y ys) (hl:xs.length+ys.length≤1073741824) :
 wp (vcall C frz 159 [.slice (some ⟨id,0,some 0⟩) 2 0] H) (MadeE H (xs++ys)):=by
 rw [Qb (fn:=Tryz.f159) Tryz.func159 rfl (by kernel_rfl) rfl]
 simp [VM.look,hr]
 have wr0:IntKind.i64.wrap 0=0:=by decide
 have wr1:IntKind.i64.wrap 1=1:=by decide
 have wr2:IntKind.i64.wrap 2=2:=by decide
 have e1:IntKind.i64.wrap (xs.length:Int)=xs.length:=w64 (by omega) (by omega)
 have e2:IntKind.i64.wrap ((xs.length:Int)+ys.length)=xs.length+ys.length:=w64 (by omega) (by omega)
 have n1:¬(xs.length:Int)<0:=by omega
 have n2:¬(xs.length:Int)+ys.length<0:=by omega
 rw [Wr]
 simp [VM.look,hr,hx.rd.len,hy.rd.len,wr0,wr1,wr2,e1,n1]
 rw [Wy,Wr]
 simp [VM.look,hr,hx.rd.len,hy.rd.len,wr0,wr1,wr2,e1,e2,n1,n2]
 rw [Wy,Wr]
 simp [VM.look,hr,hx.rd.len,hy.rd.len,wr0,wr1,wr2,e1,e2,n1,n2]
 refine Qd (growE _ (by omega) (by omega)) ?_
 rintro z H1 ⟨o1,c1,n1⟩
 have r1:=Qa hr c1 (by simp)
 simp [VM.look,r1]
 rw [Wr]
 obtain ⟨x2,H2,ap2,o2,c2,n2⟩:=o1.1.append (P:=Tryz.prog) (frz:=H.length) (ty:=125) (hx.chg c1 (by simp)).rd (by simp) (In _) (by simp;omega) n1
 have m2:∀i∈ids x2,H.length≤i:=fun i hi=>by
  rcases n2 i hi with q|q
  ·exact n1 i q
  ·have:=c1.1;omega
 have r2:=Qa r1 c2 (fun hh=>by have:=n1 _ hh;have:=Qs hr;omega)
 have c12:Chg H H2 []:=c1.trans' c2 (fun i hi=>.inr (n1 i hi))
 have hy2:=(hy.chg c12 (by simp)).rd
 obtain ⟨x3,H3,ap3,o3,c3,n3⟩:=o2.append (P:=Tryz.prog) (frz:=H.length) (ty:=125) hy2 (by simp) (In _) (by simp;omega) m2
 have r3:=Qa r2 c3 (fun hh=>by have:=m2 _ hh;have:=Qs hr;omega)
 have m3:∀i∈ids x3,H.length≤i:=fun i hi=>by
  rcases n3 i hi with q|q
  ·exact m2 i q
  ·have:=c12.1;omega
 simp [VM.look,r1,wr0,wr1,ap2,r2]
 rw [Wy,Wr]
 simp [VM.look,r2,wr0,wr1,wr2,ap3,r3]
 rw [Wy,Wr]
 simp [VM.look,r3,wr0,wr1,wr2]
 exact ⟨⟨by simpa using o3,hx.2.app hy.2⟩,c12.trans' c3 (fun i hi=>.inr (m2 i hi)),m3⟩
theorem Gq (xs ys:List Int):(mergeOf xs ys).length≤xs.length+ys.length:=by
 unfold mergeOf
 repeat' split
 ·have:=Gi (xs++ys);simpa using this
 ·simp
 ·simp
theorem Qaz (u v:Value) (xs ys:List Int) (hu:OwE 194 H u xs) (hv:OwE 194 H v ys) (lx:xs.length≤1048576) (ly:ys.length≤1048576):wp (vcall C frz 114 [u,v] H) (MadeE H (mergeOf xs ys)):=by
 rw [Qb (fn:=Tryz.f114) Tryz.func114 rfl (by kernel_rfl) rfl]
 have d1:=fun F=>Yl (frz:=F) u xs hu (by omega)
 have d2:=fun F=>Yl (frz:=F) v ys hv (by omega)
 have nl:MadeE H [] (.slice none 0 0) H:=⟨⟨.inl ⟨rfl,rfl⟩,fun x hx=>by simp at hx⟩,Chg.refl _,by simp⟩
 have onu:=And.intro hu.rd.one' hu.rd.cells
 have onv:=And.intro hv.rd.one' hv.rd.cells
 simp [d1]
 refine Qz ?_ ?_<;>intro g1<;>simp [g1,d2]
 ·refine Qc ?_ ?_<;>intro g2<;>simp [mergeOf,g1,g2,onu,onv,VM.splice,ones]
  ·have c0:Chg H (H++[⟨[u,v],0,125⟩]) []:=Chg.app _
   refine Qd (ky (frz:=H.length) H.length u v xs ys (by simp) hu.app hv.app (by omega)) ?_
   rintro x H1 ⟨o1,c1,n1⟩
   have c01:=c0.trans c1
   have l01:=c01.1
   have nx:∀i∈ids x,H.length≤i:=fun i hi=>by have:=n1 i hi;simp at this;omega
   simp
   refine Qd (Nw x _ o1 (by simp;omega) nx l01) ?_
   rintro y H2 ⟨o2,s2,c2⟩
   simp
   exact ⟨o2,c01.trans' c2 (fun i hi=>.inr (nx i hi)),fun i hi=>nx i (s2 i hi)⟩
  ·exact nl
 ·simpa [mergeOf,g1] using nl
noncomputable def classDeps (w h:Int) (b A B:List Int):List Int:=if classesOk w h b A B then mergeOf (depsOf w h b A) (shiftOf 64 (depsOf w h b B)) else []
theorem Fw (w h:Int) (v u1 u2:Value) (b A B:List Int) (hI:IsI H v b) (h1:IsI H u1 A) (h2:IsI H u2 B) (hl:b.length≤1073741824) :
 wp (vcall C frz 77 [.agg #[.int .i64 w,.int .i64 h,v],.agg #[u1,u2]] H) (MadeE H (classDeps w h b A B)):=by
 rw [Qb (fn:=Tryz.f77) Tryz.func77 rfl (by kernel_rfl) rfl]
 have onv:=And.intro hI.one' hI.cells
 have onu:=And.intro h1.one' h1.cells
 have onu2:=And.intro h2.one' h2.cells
 obtain ⟨M,hM⟩:∃M:Heap,M=[⟨[.int .i64 w,.int .i64 h,v],0,28⟩,⟨[u1,u2],0,32⟩]:=⟨_,rfl⟩
 have ck:=fun F=>Zb (frz:=F) w h v u1 u2 b A B (hI.app M) (h1.app M) (h2.app M) hl
 rw [hM] at ck
 have nl:MadeE H [] (.slice none 0 0) (H++M):=⟨⟨.inl ⟨rfl,rfl⟩,fun x hx=>by simp at hx⟩,Chg.app _,by simp⟩
 have g0:(H++M)[H.length]? = some ⟨[.int .i64 w,.int .i64 h,v],0,28⟩:=by rw [hM];simp
 have g1:(H++M)[H.length+1]? = some ⟨[u1,u2],0,32⟩:=by rw [hM];simp
 have hK:=hI.app M
 have h1K:=h1.app M
 have h2K:=h2.app M
 have cK:Chg H (H++M) []:=Chg.app _
 simp [onv,onu,onu2,VM.look,ck]
 rw [← hM]
 clear hM ck
 generalize H++M=K at *
 unfold classDeps
 refine Qc ?_ ?_<;>intro g<;>simp [g]
 ·rw [Qe (h:=by kernel_rfl)]
  simp [VM.look,g0,g1,onv,onu,onu2]
  refine Qd (Pi w h v u1 b A hK h1K hl (by have:=cK.1;omega)) ?_
  rintro d1 H1 ⟨o1,c1,n1⟩
  have b0:=Qa g0 c1 (by simp)
  have b1:=Qa g1 c1 (by simp)
  have hK1:=(hK.rd.chg c1 (by simp)).isI
  have h2K1:=(h2K.rd.chg c1 (by simp)).isI
  have cK1:=cK.trans c1
  simp [VM.look,b0,b1,onv,onu,onu2]
  refine Qd (Pi w h v u2 b B hK1 h2K1 hl (by have:=cK1.1;omega)) ?_
  rintro d2 H2 ⟨o2,c2,n2⟩
  have b0:=Qa b0 c2 (by simp)
  have b1:=Qa b1 c2 (by simp)
  have cK2:=cK1.trans c2
  have l1:=Ub w h b A
  have l2:=Ub w h b B
  simp [VM.look,b0,b1,onv,onu,onu2]
  refine Qd (Qa0 d2 _ 64 o2 (by omega) (by omega) (by have:=cK2.1;omega)) ?_
  rintro d3 H3 ⟨o3,c3,n3⟩
  have l3:=Pc 64 (depsOf w h b B)
  simp
  refine Qd (Qaz d1 d3 _ _ ((o1.chg c2 (by simp)).chg c3 (by simp)) o3 (by omega) (by omega)) ?_
  rintro d4 H4 ⟨o4,c4,n4⟩
  simp
  exact ⟨o4,(cK2.trans c3).trans c4,fun i hi=>by have:=n4 i hi;have:=(cK2.trans c3).1;omega⟩
 ·exact nl
def VdRes (H:Heap) (c:Int) (r:Value) (H':Heap):Prop:=∃z y rk cy,r=.agg #[.int .i64 c,z,y]∧Rd Fl.int H' z rk∧Rd Fl.int H' y cy∧Chg H H' []∧(∀i∈ids z,H.length≤i)∧(∀i∈ids y,H.length≤i)
theorem kr (v:Value) (xs:List Int) (h:OwE e H v xs) (hl:xs.length≤1073741824) (hd:dOk xs) (ho:orderOk (prs xs)) :
 wp (vcall C frz 76 [v] H) (VdRes H 1):=by
 rw [Qb (fn:=Tryz.f76) Tryz.func76 rfl (by kernel_rfl) rfl]
 simp
 refine Qd (Ay v xs h.app hl) ?_
 rintro _ H1 ⟨z,rk,rfl,rz,c1,n1⟩
 have e1:decide (dOk xs∧orderOk (prs xs))=true:=by simp [hd,ho]
 have oz:=And.intro rz.one' rz.cells
 have b0:H1[H.length]? = some ⟨[.int .i64 0,.slice none 0 0,.slice none 0 0],0,87⟩:=Qa (by simp) c1 (by simp)
 have ln:∀i∈ids z,H.length+1≤i:=fun i hi=>by have:=n1 i hi;simpa using this
 rw [e1]
 simp [oz,VM.look,b0,VM.splice]
 have cs:=Qg (H:=H1) H.length ⟨[.int .i64 1,z,.slice none 0 0],0,87⟩
 have gs:=Qi (r':=⟨[.int .i64 1,z,.slice none 0 0],0,87⟩) b0
 have rz2:=rz.chg cs (fun i hi hh=>by simp at hh;have:=ln i hi;omega)
 have cc:Chg H (H1.set H.length ⟨[.int .i64 1,z,.slice none 0 0],0,87⟩) []:=((Chg.app _).trans c1).trans' cs (fun i hi=>.inr (by simp at hi;omega))
 generalize H1.set H.length ⟨[.int .i64 1,z,.slice none 0 0],0,87⟩=H2 at *
 simp [gs]
 exact ⟨z,_,rk,[],rfl,rz2,.inl ⟨rfl,rfl⟩,cc,fun i hi=>by have:=ln i hi;omega,by simp⟩
theorem Mp (w h:Int) (b A B:List Int):(classDeps w h b A B).length≤131072:=by
 unfold classDeps
 split
 ·have h1:=Gq (depsOf w h b A) (shiftOf 64 (depsOf w h b B))
  have h2:=Pc 64 (depsOf w h b B)
  have h3:=Ub w h b A
  have h4:=Ub w h b B
  omega
 ·simp
theorem Oy (w h:Int) (v u1 u2:Value) (b A B:List Int) (hI:IsI H v b) (h1:IsI H u1 A) (h2:IsI H u2 B) (hl:b.length≤1073741824) (hk:classesOk w h b A B) (ho:dOk (classDeps w h b A B)∧orderOk (prs (classDeps w h b A B))) :
 wp (vcall C frz 43 [.agg #[.int .i64 w,.int .i64 h,v],.agg #[u1,u2]] H) (VdRes H 1):=by
 rw [Qb (fn:=Tryz.f43) Tryz.func43 rfl (by kernel_rfl) rfl]
 have onv:=And.intro hI.one' hI.cells
 have onu:=And.intro (And.intro h1.one' h1.cells) (And.intro h2.one' h2.cells)
 obtain ⟨M,hM⟩:∃M:Heap,M=[⟨[.int .i64 w,.int .i64 h,v],0,28⟩,⟨[u1,u2],0,32⟩,⟨[.int .i64 0,.slice none 0 0,.slice none 0 0],0,87⟩]:=⟨_,rfl⟩
 have ck:=fun F=>Zb (frz:=F) w h v u1 u2 b A B (hI.app M) (h1.app M) (h2.app M) hl
 rw [hM] at ck
 have g0:(H++M)[H.length]? = some ⟨[.int .i64 w,.int .i64 h,v],0,28⟩:=by rw [hM];simp
 have g1:(H++M)[H.length+1]? = some ⟨[u1,u2],0,32⟩:=by rw [hM];simp
 have g2:(H++M)[H.length+2]? = some ⟨[.int .i64 0,.slice none 0 0,.slice none 0 0],0,87⟩:=by rw [hM];simp
 have hK:=hI.app M
 have h1K:=h1.app M
 have h2K:=h2.app M
 have cK:Chg H (H++M) []:=Chg.app _
 have lK:(H++M).length=H.length+3:=by rw [hM];simp
 simp [onv,onu,VM.look,ck,hk]
 rw [← hM]
 clear hM ck
 generalize H++M=K at *
 try simp [VM.look,g0,g1,g2,onv,onu]
 refine Qd (Fw w h v u1 u2 b A B hK h1K h2K hl) ?_
 rintro d1 H1 ⟨o1,c1,n1⟩
 have b2:=Qa g2 c1 (by simp)
 simp
 refine Qd (kr d1 _ o1 (by have:=Mp w h b A B;omega) ho.1 ho.2) ?_
 rintro _ H2 ⟨z,y,rk,cy,rfl,rz,ry,c2,nz,ny⟩
 have b2:=Qa b2 c2 (by simp)
 have oz:=And.intro rz.one' rz.cells
 have oy:=And.intro ry.one' ry.cells
 have l1:=c1.1
 simp [VM.look,b2,oz,oy,VM.splice]
 have cs:=Qg (H:=H2) (H.length+2) ⟨[.int .i64 1,z,y],0,87⟩
 have gs:=Qi (r':=⟨[.int .i64 1,z,y],0,87⟩) b2
 have rz2:=rz.chg cs (fun i hi hh=>by simp at hh;have:=nz i hi;omega)
 have ry2:=ry.chg cs (fun i hi hh=>by simp at hh;have:=ny i hi;omega)
 have cc:=((cK.trans c1).trans c2).trans' cs (fun i hi=>.inr (by simp at hi;omega))
 generalize H2.set (H.length+2) ⟨[.int .i64 1,z,y],0,87⟩=H3 at *
 simp [gs]
 exact ⟨z,y,rk,cy,rfl,rz2,ry2,cc,fun i hi=>by have:=nz i hi;omega,fun i hi=>by have:=ny i hi;omega⟩
end Go.Proofs.YtaldglgobgjeaaaGreat.V
set_option linter.all false
namespace Go.Proofs.YtaldglgobgjeaaaGreat.V
open Go Go.VM Go.Proofs
set_option maxRecDepth 10000
def chanT (w h:Int) (T:List Int) (to a:Int) (n:Nat):Int:=4*itN (nuT w h T to) n a+portOf w h T (itN (nuT w h T to) n a) to
theorem Oo (w h:Int) (b T:List Int) (to:Int) (h4:portOf w h T to to=4):∀L F a out,L≤F→itN (nuT w h T to) L a=to→(∀n,n<L→stepOk w h b T (itN (nuT w h T to) n a) to)→walkN w h b T to F a out=out++(List.range L).map (chanT w h T to a)
 | 0,F,a,out,_,e,_=>by
  have e:a=to:=e
  subst e
  cases F with
  | zero=>unfold walkN;rw [if_pos h4,if_pos rfl];simp
  | succ F=>unfold walkN;rw [if_pos h4,if_pos rfl];simp
 | L+1,F,a,out,hF,e,hs=>by
  have s0:stepOk w h b T a to:=hs 0 (by omega)
  have hne:¬portOf w h T a to=4:=fun k=>by have:=s0.1;unfold inR at this;omega
  cases F with
  | zero=>omega
  | succ F=>
   unfold walkN
   rw [if_neg hne,if_pos s0]
   rw [Oo w h b T to h4 L F _ _ (by omega) (by have:=e;rw [Q9] at this;exact this) fun n hn=>by have:=hs (n+1) (by omega);rw [Q9] at this;exact this]
   rw [List.range_succ_eq_map,List.map_cons,List.map_map,List.append_assoc]
   congr 1
   rw [List.singleton_append]
   congr 1
   refine List.map_congr_left fun n _=>?_
   show chanT w h T to (nuT w h T to a) n=chanT w h T to a (n+1)
   unfold chanT
   rw [Q9]
theorem S0 {w h:Int} {b T:List Int} (k:tableOk w h b T) {a t:Nat} (ha:a<(cnt w h).toNat) (ht:t<(cnt w h).toNat) (hne:a≠t):∃L,walk w h b T a t=(List.range L).map (chanT w h T t a)∧0<L∧itN (nuT w h T t) L a=(t:Int)∧∀n,n<L→stepOk w h b T (itN (nuT w h T t) n a) t:=by
 obtain ⟨L,h0,h1,h2⟩:=Vd _ _ _ _ _ _ _ _ ((k.2 a ha t ht).2 hne)
 have h4:=(k.2 t ht t ht).1 rfl
 refine ⟨L,?_,?_,h1,h2⟩
 ·unfold walk
  rw [Oo w h b T t h4 L _ a [] h0 h1 h2]
  rfl
 ·cases L with
  | zero=>have:(a:Int)=t:=h1;omega
  | succ L=>omega
def Adj (w h:Int) (b T:List Int) (c d:Int):Prop:=∃(a t L n:Nat),a<(cnt w h).toNat∧t<(cnt w h).toNat∧a≠t∧itN (nuT w h T t) L a=(t:Int)∧(∀m,m<L→stepOk w h b T (itN (nuT w h T t) m a) t)∧n+1<L∧c=chanT w h T t a n∧d=chanT w h T t a (n+1)
noncomputable def treeRank (w h:Int) (b:List Int) (r c:Int):Int:=if rd (depths w h b r) (next w h (c/4) (c%4))<rd (depths w h b r) (c/4) then 100-rd (depths w h b r) (c/4) else 200+rd (depths w h b r) (next w h (c/4) (c%4))
section
variable {w h r:Int} {b:List Int} (hc:conn w h b) (hr:isN w h r)
include hc hr
theorem O8 {a:Int} (ha:isN w h a):0≤rd (depths w h b r) a∧rd (depths w h b r) a≤16:=by
 have H:rootOk w h b r:=⟨hc.1,hr⟩
 have hcn:=Qf w h
 have h0:=Wm hc hr a ha
 obtain ⟨m,hm⟩:=Int.eq_ofNat_of_zero_le h0
 obtain ⟨a1,_,a3⟩:=X7 H m ha hm
 refine ⟨h0,?_⟩
 have nd:(anc (parents w h b r) a).Nodup:=by
  refine List.pairwise_iff_getElem.2 fun i j hi hj hij e=>?_
  have k1:=(a3 i hi).2
  have k2:=(a3 j hj).2
  rw [e,k2] at k1
  omega
 have:=Ns (cnt w h).toNat _ nd fun x hx=>by
  obtain ⟨i,hi,rfl⟩:=List.mem_iff_getElem.1 hx
  obtain ⟨k1,k2⟩:=(a3 i hi).1
  omega
 omega
theorem zp {c d:Int} (k:Adj w h b (treeTab w h b r) c d):treeRank w h b r c<treeRank w h b r d:=by
 obtain ⟨a,t,L,n,ha,ht,hne,h1,h2,hn,rfl,rfl⟩:=k
 have H:rootOk w h b r:=⟨hc.1,hr⟩
 have hcn:=Qf w h
 have ok:=Vs hc hr
 have h4:=(ok.2 t ht t ht).1 rfl
 have nt:∀m,m<L→itN (nuT w h (treeTab w h b r) t) m a≠t:=fun m hm e=>by
  have:=(h2 m hm).1
  rw [e,h4] at this
  unfold inR at this;omega
 have nn:∀m,m≤L→isN w h (itN (nuT w h (treeTab w h b r) t) m a):=fun m=>by
  induction m with
  | zero=>intro _;exact ⟨by show (0:Int)≤a;omega,by show (a:Int)<cnt w h;omega⟩
  | succ m ih=>
   intro hm
   obtain ⟨k1,k2⟩:=h2 m (by omega)
   exact (Xl k1 k2).2.2
 have it:isN w h (t:Int):=⟨by omega,by omega⟩
 have dn:=fun {v:Int} (hv:isN w h v)=>(Int.toNat_of_nonneg (Wm hc hr v hv)).symm
 obtain ⟨_,_,c3⟩:=X7 H _ it (dn it)
 -- a step: up or down
 have stp:∀m,m<L→chanT w h (treeTab w h b r) t a m/4=itN (nuT w h (treeTab w h b r) t) m a∧next w h (chanT w h (treeTab w h b r) t a m/4) (chanT w h (treeTab w h b r) t a m%4)=itN (nuT w h (treeTab w h b r) t) (m+1) a:=fun m hm=>by
  obtain ⟨k1,k2⟩:=h2 m hm
  obtain ⟨e1,e2,_⟩:=Xl k1 k2
  unfold chanT
  rw [e1,e2]
  exact ⟨rfl,rfl⟩
 obtain ⟨x,hx⟩:∃x,x=itN (nuT w h (treeTab w h b r) t) n a:=⟨_,rfl⟩
 obtain ⟨y,hy⟩:∃y,y=itN (nuT w h (treeTab w h b r) t) (n+1) a:=⟨_,rfl⟩
 obtain ⟨z,hz⟩:∃z,z=itN (nuT w h (treeTab w h b r) t) (n+2) a:=⟨_,rfl⟩
 obtain ⟨f1,f2⟩:=stp n (by omega)
 obtain ⟨g1,g2⟩:=stp (n+1) hn
 have nx:=nn n (by omega)
 have ny:=nn (n+1) (by omega)
 have nz:=nn (n+2) (by omega)
 have tx:=nt n (by omega)
 have ty:=nt (n+1) hn
 have sx:=(Yd hc hr nx it tx).2
 have sy:=(Yd hc hr ny it ty).2
 have exy:y=(treeNodes (parents w h b r) x t).getD 1 0:=by rw [hy,hx];exact sx
 have eyz:z=(treeNodes (parents w h b r) y t).getD 1 0:=by rw [hz,hy];exact sy
 rw [← hx] at f1 nx tx
 rw [← hy] at f2 g1 ny ty
 rw [← hz] at g2 nz
 obtain ⟨dx0,dx⟩:=O8 hc hr nx
 obtain ⟨dy0,dy⟩:=O8 hc hr ny
 obtain ⟨dz0,dz⟩:=O8 hc hr nz
 unfold treeRank
 rw [f2,f1,g2,g1]
 -- what the next nodes' depths are
 have up:∀{u v:Int},isN w h u→v=(treeNodes (parents w h b r) u t).getD 1 0→(treeNodes (parents w h b r) u t).getD 1 0=rd (parents w h b r) u→u≠r→rd (depths w h b r) v=rd (depths w h b r) u-1:=fun {u v} hu ev e hur=>by
  rcases Yk hc hr hu with ⟨e1,_⟩|⟨p,_,e1,_,_,e2⟩
  ·exact absurd e1 hur
  ·rw [ev,e,e1];exact e2
 rcases Xs hc hr nx it tx with ⟨_,u2,u3⟩|⟨j,hj,u2,u3⟩
 ·have ex:=up nx exy u2 u3
  rw [if_pos (by omega)]
  rcases Xs hc hr ny it ty with ⟨_,v2,v3⟩|⟨j,hj,v2,v3⟩
  ·have ey:=up ny eyz v2 v3
   rw [if_pos (by omega)];omega
  ·have k1:=(c3 (j+1) hj).2
   have k2:=(c3 j (by omega)).2
   rw [v2] at k1
   rw [← v3,← eyz] at k2
   rw [if_neg (by omega)];omega
 ·have k1:=(c3 (j+1) hj).2
  have k2:=(c3 j (by omega)).2
  rw [u2] at k1
  have ey:y=(anc (parents w h b r) t)[j]:=by rw [exy,u3]
  rw [← ey] at k2
  rw [if_neg (by omega)]
  have my:y∈anc (parents w h b r) t:=by rw [ey];exact List.getElem_mem _
  rcases Xs hc hr ny it ty with ⟨v1,_,_⟩|⟨i,hi,v2,v3⟩
  ·exact absurd my v1
  ·have k3:=(c3 (i+1) hi).2
   have k4:=(c3 i (by omega)).2
   rw [v2] at k3
   rw [← v3,← eyz] at k4
   rw [if_neg (by omega)];omega
end
theorem gD {l:List Int} {i:Nat} (x:Int) (h:i<l.length) (c:Nat):(l.set i x).getD c 0=if c=i then x else l.getD c 0:=mj x h c
theorem Jm {ds:List (Nat×Nat)} {rk:List Int} {c:Nat} (h:ordNext ds rk=some c):c<128∧ordFree ds rk c:=by
 unfold ordNext at h
 exact ⟨List.mem_range.1 (List.mem_of_find?_eq_some h),by simpa using List.find?_some h⟩
theorem Un {ds:List (Nat×Nat)} (hs:∀d∈ds,d.1<128∧d.2<128):∀{r:Nat} {rk:List Int},r≤128→ordRun ds r=some rk→rk.length=128∧negs rk=128-r∧(∀c,c<128→rk.getD c 0<(r:Int))∧∀d∈ds,0≤rk.getD d.2 0→0≤rk.getD d.1 0∧rk.getD d.1 0<rk.getD d.2 0
 | 0,rk,_,h=>by
  cases h
  have g:∀c,c<128→(List.replicate 128 (-1:Int)).getD c 0=-1:=fun c hc=>by
   rw [List.getD_eq_getElem?_getD,List.getElem?_eq_getElem (by simpa using hc)];simp only [List.getElem_replicate,Option.getD_some]
  refine ⟨by simp,?_,fun c hc=>by rw [g c hc];omega,fun d hd h=>?_⟩
  ·unfold negs
   rw [List.filter_eq_self.2]
   ·simp
   ·intro x hx
    rw [List.eq_of_mem_replicate hx];decide
  ·rw [g _ (hs d hd).2] at h;omega
 | r+1,rk,hr,h=>by
  unfold ordRun at h
  split at h
  ·rename_i rk0 h0
   obtain ⟨i1,i2,i3,i4⟩:=Un hs (by omega) h0
   split at h
   ·rename_i c hc
    cases h
    obtain ⟨c1,c2,c3⟩:=Jm hc
    have:=Ma rk0 c (r:Int) (by omega) c2 (by omega)
    refine ⟨by rw [List.length_set];exact i1,by omega,fun k hk=>?_,fun d hd hp=>?_⟩
    ·rw [gD _ (by omega)]
     split
     ·omega
     ·have:=i3 k hk;omega
    ·have h2:=hs d hd
     rw [gD _ (by omega)] at hp ⊢
     rw [gD _ (by omega)]
     by_cases e2:d.2=c
     ·have k1:=c3 d hd e2
      have ne:d.1≠c:=fun e=>k1 (by rw [e];exact c2)
      rw [if_pos e2,if_neg ne]
      have:=i3 d.1 h2.1
      omega
     ·rw [if_neg e2] at hp ⊢
      obtain ⟨k1,k2⟩:=i4 d hd hp
      have ne:d.1≠c:=fun e=>by rw [e] at k1;omega
      rw [if_neg ne];exact ⟨k1,k2⟩
   ·cases h
  ·cases h
theorem Qbq {ds:List (Nat×Nat)} (hs:∀d∈ds,d.1<128∧d.2<128) (h:orderOk ds):∃φ:Nat→Int,∀d∈ds,φ d.1<φ d.2:=by
 obtain ⟨rk,hr⟩:=Option.ne_none_iff_exists'.1 h
 obtain ⟨h1,h2,_,h4⟩:=Un hs (Nat.le_refl _) hr
 refine ⟨fun c=>rk.getD c 0,fun d hd=>(h4 d hd ?_).2⟩
 rcases Int.lt_or_le (rk.getD d.2 0) 0 with k|k
 ·exfalso
  have:rk.getD d.2 0∈rk.filter fun x=>decide (x<0):=by
   refine List.mem_filter.2 ⟨?_,by simpa using k⟩
   rw [List.getD_eq_getElem?_getD,List.getElem?_eq_getElem (by have:=(hs d hd).2;omega)]
   exact List.getElem_mem _
  have:=List.length_pos_of_mem this
  unfold negs at h2;omega
 ·exact k
def Acyc (xs:List Int):Prop:=∃φ:Nat→Int,∀x∈xs,φ (x/1024).toNat<φ (x%1024).toNat
theorem Ly {xs:List Int} (hs:∀x∈xs,x/1024≤127∧x%1024≤127):orderOk (prs xs)↔Acyc xs:=by
 have hb:∀d∈prs xs,d.1<128∧d.2<128:=fun d hd=>by
  obtain ⟨x,hx,rfl⟩:=List.mem_map.1 hd
  have:=hs x hx
  simp only
  omega
 constructor
 ·intro h
  obtain ⟨φ,hφ⟩:=Qbq hb h
  exact ⟨φ,fun x hx=>hφ _ (List.mem_map_of_mem hx)⟩
 ·rintro ⟨φ,hφ⟩
  refine vf (fun d hd=>(hb d hd).1) φ fun d hd=>?_
  obtain ⟨x,hx,rfl⟩:=List.mem_map.1 hd
  exact hφ x hx
theorem Ot {w h:Int} {b T:List Int} (k:tableOk w h b T) {x:Int}:x∈depsOf w h b T↔∃a t:Nat,a<(cnt w h).toNat∧t<(cnt w h).toNat∧a≠t∧∃n,n+1<(walk w h b T a t).length∧x=keyD (G (walk w h b T a t) n) (G (walk w h b T a t) (n+1)):=by
 unfold depsOf
 rw [if_pos k,Sz]
 constructor
 ·intro hx
  obtain ⟨p,hp,hx⟩:=List.mem_flatMap.1 hx
  obtain ⟨h1,h2,h3⟩:=Yx (a:=p.1) (c:=p.2) |>.1 hp
  exact ⟨p.1,p.2,h1,h2,h3,N5.1 hx⟩
 ·rintro ⟨a,t,h1,h2,h3,hx⟩
  exact List.mem_flatMap.2 ⟨(a,t),Yx.2 ⟨h1,h2,h3⟩,N5.2 hx⟩
theorem Jh {a b:Int} (h:0≤b∧b<1024):keyD a b/1024=a∧keyD a b%1024=b:=by unfold keyD;omega
theorem J7 {w h:Int} {T:List Int} {to a:Int} {L n:Nat} (hn:n<L):G ((List.range L).map (chanT w h T to a)) n=chanT w h T to a n:=by
 rw [Wz (by simpa using hn)];simp
section
variable {w h r:Int} {b:List Int} (hc:conn w h b) (hr:isN w h r)
include hc hr
theorem M4:Acyc (depsOf w h b (treeTab w h b r)):=by
 refine ⟨fun c=>treeRank w h b r c,fun x hx=>?_⟩
 have ok:=Vs hc hr
 have sm:=Wv x hx
 obtain ⟨a,t,h1,h2,h3,n,h4,rfl⟩:=(Ot ok).1 hx
 obtain ⟨L,e,h5,h6,h7⟩:=S0 ok h1 h2 h3
 rw [e] at h4 sm ⊢
 simp at h4
 rw [J7 (by omega),J7 (by omega)] at sm ⊢
 obtain ⟨A,hA⟩:∃A,A=chanT w h (treeTab w h b r) t a n:=⟨_,rfl⟩
 obtain ⟨B,hB⟩:∃B,B=chanT w h (treeTab w h b r) t a (n+1):=⟨_,rfl⟩
 have:=zp hc hr ⟨a,t,L,n,h1,h2,h3,h6,h7,h4,hA,hB⟩
 have kb:=Zp (b:=b) (T:=treeTab w h b r) (Wc h1) (to:=t) B (by
  rw [e,hB];exact List.mem_map_of_mem (List.mem_range.2 h4))
 rw [← hA,← hB] at sm ⊢
 obtain ⟨k1,k2⟩:=Jh (a:=A) (b:=B) (by omega)
 rw [k1,k2] at sm ⊢
 simpa [Int.toNat_of_nonneg sm.1.1,Int.toNat_of_nonneg sm.2.1] using this
end
theorem Td {w h:Int} {b A B:List Int} (k:classesOk w h b A B) {x:Int}:x∈classDeps w h b A B↔x∈depsOf w h b A∨∃y∈depsOf w h b B,x=y+1025*64:=by
 unfold classDeps
 rw [if_pos k]
 have s1:dOk (shiftK 64 (depsOf w h b B)):=by
  refine E6 ?_ fun x hx=>?_
  ·unfold shiftK
   rw [List.pairwise_map]
   exact Oi.imp fun h=>by omega
  ·obtain ⟨y,hy,rfl⟩:=List.mem_map.1 hx
   have:=Wv y hy
   omega
 have s2:shiftOf 64 (depsOf w h b B)=shiftK 64 (depsOf w h b B):=by
  unfold shiftOf;rw [if_pos Lh,if_pos s1]
 rw [s2]
 unfold mergeOf
 rw [if_pos Lh,if_pos s1,Sz,List.mem_append]
 refine or_congr Iff.rfl ⟨fun hx=>?_,fun ⟨y,hy,e⟩=>?_⟩
 ·obtain ⟨y,hy,rfl⟩:=List.mem_map.1 hx
  exact ⟨y,hy,rfl⟩
 ·rw [e];exact List.mem_map_of_mem (f:=fun z=>z+1025*64) hy
theorem Uq {w h:Int} {b A B:List Int} (k:classesOk w h b A B):∀x∈classDeps w h b A B,(0≤x/1024∧x/1024≤127)∧0≤x%1024∧x%1024≤127:=fun x hx=>by
 rcases (Td k).1 hx with hx|⟨y,hy,rfl⟩
 ·have:=Wv x hx;omega
 ·have:=Wv y hy;omega
theorem Kh {w h:Int} {b A B:List Int} (k:classesOk w h b A B):dOk (classDeps w h b A B):=by
 refine E6 ?_ fun x hx=>by have:=Uq k x hx;omega
 unfold classDeps
 rw [if_pos k]
 unfold mergeOf
 repeat' split
 ·exact O1 _
 ·exact List.Pairwise.nil
 ·exact List.Pairwise.nil
theorem De {w h:Int} {b A B:List Int} (k:classesOk w h b A B) (hA:Acyc (depsOf w h b A)) (hB:Acyc (depsOf w h b B)):Acyc (classDeps w h b A B):=by
 obtain ⟨φ,hφ⟩:=hA
 obtain ⟨ψ,hψ⟩:=hB
 refine ⟨fun c=>if c<64 then φ c else ψ (c-64),fun x hx=>?_⟩
 rcases (Td k).1 hx with hx|⟨y,hy,rfl⟩
 ·have h1:=Wv x hx
  have:=hφ x hx
  simp only
  rw [if_pos (by omega),if_pos (by omega)];exact this
 ·have h1:=Wv y hy
  have:=hψ y hy
  simp only
  rw [if_neg (by omega),if_neg (by omega),show ((y+1025*64)/1024).toNat-64=(y/1024).toNat by omega,show ((y+1025*64)%1024).toNat-64=(y%1024).toNat by omega]
  exact this
theorem Cy {w h:Int} {b A B:List Int} (k:classesOk w h b A B) (hA:Acyc (depsOf w h b A)) (hB:Acyc (depsOf w h b B)):dOk (classDeps w h b A B)∧orderOk (prs (classDeps w h b A B)):=
 ⟨Kh k,(Ly fun x hx=>by have:=Uq k x hx;omega).2 (De k hA hB)⟩
end Go.Proofs.YtaldglgobgjeaaaGreat.V
set_option linter.all false
namespace Go.Proofs.YtaldglgobgjeaaaGreat.V
open Go Go.VM Go.Proofs
set_option maxRecDepth 100000
def srank (r w h c:Int):Int:=
 let x:=c/4%w;let y:=c/4/w;let p:=c%4
 if r=1 then (if p=1 then x else if p=3 then 3-x else if p=2 then 10+y else 13-y)
 else if r=2 then (if p=1 then 10+x else if p=3 then 13-x else if p=2 then y else 3-y)
 else (if p=1 then 20+x else if p=3 then 3-x else if p=2 then 10+y else 13-y)
def incB (f:Int→Int):List Int→Bool
 | []=>true
 | [_]=>true
 | a::b::l=>decide (f a<f b)&&incB f (b::l)
theorem Ag {f:Int→Int}:∀{l:List Int} (n:Nat),incB f l=true→n+1<l.length→f (G l n)<f (G l (n+1))
 | [],n,_,h=>by simp at h
 | [a],n,_,h=>by simp at h
 | a::b::l,0,h,_=>by
  simp only [incB,Bool.and_eq_true,decide_eq_true_eq] at h
  exact h.1
 | a::b::l,n+1,h,h1=>by
  simp only [incB,Bool.and_eq_true] at h
  exact Ag (l:=b::l) n h.2 (by simpa using h1)
def chkS1 (r w h:Int) (n:Nat) (a to:Int):Bool:=decide ((wkR r w h n a to).length≤6)&&incB (srank r w h) (wkR r w h n a to)
def chkS (r w h n:Nat):Bool:=(List.range n).all fun a=>(List.range n).all fun to=>chkS1 r w h n a to
theorem ve:((List.range 3).all fun r=>(List.range 4).all fun w=>(List.range 4).all fun h=>chkS (r+1) (w+1) (h+1) ((w+1)*(h+1)))=true:=by kernel_rfl
theorem Qbs {r w h a to:Int} {n:Nat} (hr:1≤r∧r≤3) (hg:okG w h) (hn:cnt w h=n) (ha:isN w h a) (hto:isN w h to):chkS1 r w h n a to=true:=by
 obtain ⟨⟨w0,w1⟩,h0,h1⟩:=hg
 obtain ⟨i,hi⟩:∃i:Nat,w=((i+1:Nat):Int):=⟨(w-1).toNat,by omega⟩
 obtain ⟨j,hj⟩:∃j:Nat,h=((j+1:Nat):Int):=⟨(h-1).toNat,by omega⟩
 obtain ⟨q,hq⟩:∃j:Nat,r=((j+1:Nat):Int):=⟨(r-1).toNat,by omega⟩
 obtain ⟨k,rfl⟩:=Int.eq_ofNat_of_zero_le ha.1
 obtain ⟨l,rfl⟩:=Int.eq_ofNat_of_zero_le hto.1
 have e9:=ve
 rw [List.all_eq_true] at e9
 have e0:=e9 q (List.mem_range.2 (by omega))
 rw [List.all_eq_true] at e0
 have e1:=e0 i (List.mem_range.2 (by omega))
 rw [List.all_eq_true] at e1
 have e2:=e1 j (List.mem_range.2 (by omega))
 have hk:=ha.2
 have hl:=hto.2
 have hnn:n=(i+1)*(j+1):=by
  rw [cnt,if_pos ⟨⟨w0,w1⟩,h0,h1⟩,hi,hj,← Int.natCast_mul] at hn;omega
 rw [chkS,List.all_eq_true] at e2
 have e3:=e2 k (List.mem_range.2 (by omega))
 rw [List.all_eq_true] at e3
 have e4:=e3 l (List.mem_range.2 (by omega))
 rw [hi,hj,hq,hnn];exact e4
theorem jh {r w h:Int} {n:Nat} (hr:1≤r∧r≤3) (hg:okG w h) (hn:cnt w h=n) {a t:Int} (ha:isN w h a) (ht:isN w h t) :
 (walk w h [] (stdTab w r n) a t).length≤6∧∀k,k+1<(walk w h [] (stdTab w r n) a t).length→srank r w h (G (walk w h [] (stdTab w r n) a t) k)<srank r w h (G (walk w h [] (stdTab w r n) a t) (k+1)):=by
 rw [za hn hg ha ht]
 have c:=Qbs hr hg hn ha ht
 rw [chkS1,Bool.and_eq_true,decide_eq_true_eq] at c
 exact ⟨c.1,fun k hk=>Ag k c.2 hk⟩
theorem F5 {r w h:Int} {n:Nat} (hr:1≤r∧r≤3) (hg:okG w h) (hn:cnt w h=n):Acyc (depsOf w h [] (stdTab w r n)):=by
 refine ⟨fun c=>srank r w h c,fun x hx=>?_⟩
 have ok:=Da ⟨hr.1,by omega⟩ hg hn
 have sm:=Wv x hx
 obtain ⟨a,t,h1,h2,h3,k,h4,rfl⟩:=(Ot ok).1 hx
 have s:=(jh hr hg hn (Wc h1) (Wc h2)).2 k h4
 have kb:=Zp (b:=[]) (T:=stdTab w r n) (Wc h1) (to:=t) (G (walk w h [] (stdTab w r n) a t) (k+1)) (by rw [Wz h4];exact List.getElem_mem _)
 obtain ⟨k1,k2⟩:=Jh (a:=G (walk w h [] (stdTab w r n) a t) k) (b:=G (walk w h [] (stdTab w r n) a t) (k+1)) (by omega)
 rw [k1,k2] at sm ⊢
 simpa [Int.toNat_of_nonneg sm.1.1,Int.toNat_of_nonneg sm.2.1] using s
theorem Dq {ds:List (Nat×Nat)} (hs:∀d∈ds,d.1<128∧d.2<128) (h:orderOk ds):∃φ:Nat→Int,(∀c,0≤φ c∧φ c<128)∧∀d∈ds,φ d.1<φ d.2:=by
 obtain ⟨rk,hr⟩:=Option.ne_none_iff_exists'.1 h
 obtain ⟨h1,h2,h3,h4⟩:=Un hs (Nat.le_refl _) hr
 have pos:∀c,0≤rk.getD c 0:=fun c=>by
  rcases Int.lt_or_le (rk.getD c 0) 0 with k|k
  ·exfalso
   by_cases hc:c<128
   ·have:rk.getD c 0∈rk.filter fun x=>decide (x<0):=by
     refine List.mem_filter.2 ⟨?_,by simpa using k⟩
     rw [List.getD_eq_getElem?_getD,List.getElem?_eq_getElem (by omega)]
     exact List.getElem_mem _
    have:=List.length_pos_of_mem this
    unfold negs at h2;omega
   ·rw [List.getD_eq_getElem?_getD,List.getElem?_eq_none (by omega)] at k
    simp at k
  ·exact k
 refine ⟨fun c=>rk.getD c 0,fun c=>⟨pos c,?_⟩,fun d hd=>(h4 d hd (pos _)).2⟩
 by_cases hc:c<128
 ·exact h3 c hc
 ·simp only
  rw [List.getD_eq_getElem?_getD,List.getElem?_eq_none (by omega)];decide
theorem Om {xs:List Int} (hs:∀x∈xs,(0≤x/1024∧x/1024≤127)∧0≤x%1024∧x%1024≤127) (h:Acyc xs):∃φ:Nat→Int,(∀c,0≤φ c∧φ c<128)∧∀x∈xs,φ (x/1024).toNat<φ (x%1024).toNat:=by
 have hb:∀d∈prs xs,d.1<128∧d.2<128:=fun d hd=>by
  obtain ⟨x,hx,rfl⟩:=List.mem_map.1 hd
  have:=hs x hx
  simp only
  omega
 obtain ⟨φ,h1,h2⟩:=Dq hb ((Ly fun x hx=>by have:=hs x hx;omega).2 h)
 exact ⟨φ,h1,fun x hx=>h2 _ (List.mem_map_of_mem hx)⟩
end Go.Proofs.YtaldglgobgjeaaaGreat.V
set_option linter.all false
namespace Go.Proofs.YtaldglgobgjeaaaGreat.V
open Go Go.VM Go.Proofs
set_option maxRecDepth 10000
def bufC (x:NetD) (j:Nat):Int:=4*next x.1.1 x.1.2.1 ((j/10:Nat):Int) ((j%10/2:Nat):Int)+opp ((j%10/2:Nat):Int)
noncomputable def brank (x:NetD) (φ ψ:Nat→Int) (j:Nat):Nat:=if j%10/2=4 then 0 else (1+(if j%2=0 then φ else ψ) (bufC x j).toNat).toNat
theorem Bk {x:NetD} {a p c:Nat} (h:hasP x a p) (ha:a<nC x) (hp:p<4) (hc:c<2):tgt x a p c%10/2≠4∧bufC x (tgt x a p c)=4*(a:Int)+p∧tgt x a p c%2=c:=by
 obtain ⟨h1,h2,h3⟩:=Ys (c:=c) h hp hc
 obtain ⟨t1,t2,t3,t4⟩:=Zm (c:=c) h hp hc
 have ia:isN x.1.1 x.1.2.1 (a:Int):=by have:=Yi x;exact ⟨by omega,by omega⟩
 have h0:0≤next x.1.1 x.1.2.1 a p:=by rw [← t3];omega
 obtain ⟨g1,g2,g3,g4,g5⟩:=geo hp ia h0
 have e:((tgt x a p c%10/2:Nat):Int)=opp p:=by
  have ev:tgt x a p c=(10*next x.1.1 x.1.2.1 a p+2*opp p+c).toNat:=rfl
  generalize next x.1.1 x.1.2.1 a p=N at *
  generalize opp p=Op at *
  omega
 refine ⟨fun k=>by rw [k] at e;omega,?_,t2⟩
 unfold bufC
 rw [e,t3,g1,g5]
theorem P4 {x:NetD} {s t c:Nat} {R:Nat→Nat} {L:Nat} (hc:c<2) (rt:Route x s t c R L):∀n,n≤L→((R n/10:Nat):Int)=itN (nuT x.1.1 x.1.2.1 (tabC x c) t) n s
 | 0,_=>by rw [rt.r0];show _=(s:Int);omega
 | n+1,hn=>by
  obtain ⟨p,p1,p2,p3,p4⟩:=rt.rs n (by omega)
  have ih:=P4 hc rt n (by omega)
  rw [p3,(Zm (c:=c) p4 p1 hc).2.2.1]
  show _=nuT x.1.1 x.1.2.1 (tabC x c) t (itN (nuT x.1.1 x.1.2.1 (tabC x c) t) n s)
  rw [← ih]
  unfold nuT
  rw [← p2];rfl
theorem Qbr {x:NetD} (tk:tabsOk x) {φ ψ:Nat→Int} (b0:∀c,0≤φ c∧φ c<128) (b1:∀c,0≤ψ c∧ψ c<128)
 (hA:∀k∈depsOf x.1.1 x.1.2.1 x.1.2.2 x.2.1.1,φ (k/1024).toNat<φ (k%1024).toNat) (hB:∀k∈depsOf x.1.1 x.1.2.1 x.1.2.2 x.2.1.2,ψ (k/1024).toNat<ψ (k%1024).toNat):Ranked x (brank x φ ψ):=by
 have bd:∀j c,0≤(if j%2=0 then φ else ψ) c∧(if j%2=0 then φ else ψ) c<128:=fun j c=>by split;exact b0 c;exact b1 c
 refine ⟨fun j=>?_,fun s t c R L hs ht hc rt n hn=>?_⟩
 ·unfold brank
  split
  ·omega
  ·have:=bd j (bufC x j).toNat;omega
 ·obtain ⟨p,p1,p2,p3,p4⟩:=rt.rs n hn
  have hlt:=rt.lt n (by omega)
  have ha:R n/10<nC x:=by omega
  obtain ⟨u1,u2,u3⟩:=Bk p4 ha p1 hc
  have e1:brank x φ ψ (R (n+1))=(1+(if c=0 then φ else ψ) (4*((R n/10:Nat):Int)+p).toNat).toNat:=by
   unfold brank
   rw [p3,if_neg u1,u2,u3]
  have bc:=fun k=>bd c k
  have c2:c%2=c:=by omega
  rw [c2] at bc
  rw [e1]
  cases n with
  | zero=>
   have e0:brank x φ ψ (R 0)=0:=by
    unfold brank
    rw [rt.r0,if_pos (by omega)]
   rw [e0]
   have:=bc (4*((R 0/10:Nat):Int)+p).toNat
   omega
  | succ m=>
   obtain ⟨q,q1,q2,q3,q4⟩:=rt.rs m (by omega)
   have hlt':=rt.lt m (by omega)
   have ha':R m/10<nC x:=by omega
   obtain ⟨v1,v2,v3⟩:=Bk q4 ha' q1 hc
   have e2:brank x φ ψ (R (m+1))=(1+(if c=0 then φ else ψ) (4*((R m/10:Nat):Int)+q).toNat).toNat:=by
    unfold brank
    rw [q3,if_neg v1,v2,v3]
   rw [e2]
   have hne:s≠t:=fun e=>by
    have:=rt.ij 0 L (by omega) (Nat.le_refl _) (by rw [rt.r0,rt.rt];omega)
    omega
   have ok:=tk c hc
   obtain ⟨K,f1,f2,f3,f4⟩:=S0 ok hs ht hne
   have hK:K=L:=by
    have:=Lk tk hs ht hc rt
    unfold hop at this
    rw [f1] at this
    simpa using this
   subst hK
   have i1:=P4 hc rt m (by omega)
   have i2:=P4 hc rt (m+1) (by omega)
   have g1:G (walk x.1.1 x.1.2.1 x.1.2.2 (tabC x c) s t) m=4*((R m/10:Nat):Int)+q:=by
    rw [f1,J7 (by omega)];unfold chanT;rw [← i1];rw [← q2];rfl
   have g2:G (walk x.1.1 x.1.2.1 x.1.2.2 (tabC x c) s t) (m+1)=4*((R (m+1)/10:Nat):Int)+p:=by
    rw [f1,J7 (by omega)];unfold chanT;rw [← i2];rw [← p2];rfl
   have mem:keyD (4*((R m/10:Nat):Int)+q) (4*((R (m+1)/10:Nat):Int)+p)∈depsOf x.1.1 x.1.2.1 x.1.2.2 (tabC x c):=by
    refine (Ot ok).2 ⟨s,t,hs,ht,hne,m,by rw [f1];simp;omega,by rw [g1,g2]⟩
   have nb:nC x≤16:=by have:=Qf x.1.1 x.1.2.1;unfold nC;omega
   obtain ⟨k1,k2⟩:=Jh (a:=4*((R m/10:Nat):Int)+q) (b:=4*((R (m+1)/10:Nat):Int)+p) (by omega)
   have lt:(if c=0 then φ else ψ) (4*((R m/10:Nat):Int)+q).toNat<(if c=0 then φ else ψ) (4*((R (m+1)/10:Nat):Int)+p).toNat:=by
    unfold tabC at mem
    rcases (show c=0∨c=1 by omega) with rfl|rfl
    ·have:=hA _ mem
     rw [k1,k2] at this
     exact this
    ·have:=hB _ mem
     rw [k1,k2] at this
     exact this
   have:=bc (4*((R m/10:Nat):Int)+q).toNat
   omega
theorem Ie {x:NetD} (tk:tabsOk x) (hA:Acyc (depsOf x.1.1 x.1.2.1 x.1.2.2 x.2.1.1)) (hB:Acyc (depsOf x.1.1 x.1.2.1 x.1.2.2 x.2.1.2)):∃ρ,Ranked x ρ:=by
 have sm:=fun (T:List Int) (k:Int) (hk:k∈depsOf x.1.1 x.1.2.1 x.1.2.2 T)=>(show (0≤k/1024∧k/1024≤127)∧0≤k%1024∧k%1024≤127 by have:=Wv k hk;omega)
 obtain ⟨φ,b0,h0⟩:=Om (sm _) hA
 obtain ⟨ψ,b1,h1⟩:=Om (sm _) hB
 exact ⟨_,Qbr tk b0 b1 h0 h1⟩
theorem C7 {w h:Int} {b:List Int}:∀(l:List Nat) (best:Int),l.foldl (better w h b) best=best∨∃k∈l,l.foldl (better w h b) best=(k:Int)
 | [],best=>.inl rfl
 | a::l,best=>by
  rw [List.foldl_cons]
  rcases C7 l (better w h b best a) with e|⟨k,hk,e⟩
  ·rw [e]
   unfold better
   split
   ·exact .inr ⟨a,by simp,rfl⟩
   ·exact .inl rfl
  ·exact .inr ⟨k,List.mem_cons_of_mem _ hk,e⟩
theorem zu {w h:Int} {b:List Int} (hc:conn w h b):isN w h (bestRoot w h b):=by
 have hg:okG w h:=hc.1.2
 have hcn:=Qf w h
 have h1:1≤cnt w h:=by unfold cnt;rw [if_pos hg];have:=Xm hg;omega
 unfold bestRoot
 rw [if_pos hc]
 rcases C7 (w:=w) (h:=h) (b:=b) (List.range (cnt w h).toNat) 0 with e|⟨k,hk,e⟩
 ·rw [e];exact ⟨by omega,by omega⟩
 ·rw [e];have:=List.mem_range.1 hk;exact ⟨by omega,by omega⟩
theorem xe {w h:Int} {b:List Int} {best:Int} {k:Nat}:depthOf w h b (better w h b best k)≤depthOf w h b best∧depthOf w h b (better w h b best k)≤depthOf w h b k:=by
 unfold better;split<;>omega
theorem Lr {w h:Int} {b:List Int}:∀(l:List Nat) (best:Int),depthOf w h b (l.foldl (better w h b) best)≤depthOf w h b best∧∀k∈l,depthOf w h b (l.foldl (better w h b) best)≤depthOf w h b k
 | [],best=>⟨Int.le_refl _,fun k hk=>by simp at hk⟩
 | a::l,best=>by
  obtain ⟨h1,h2⟩:=Lr l (better w h b best a)
  have h3:=xe (w:=w) (h:=h) (b:=b) (best:=best) (k:=a)
  refine ⟨Int.le_trans h1 h3.1,fun k hk=>?_⟩
  rcases List.mem_cons.1 hk with rfl|hk
  ·exact Int.le_trans h1 h3.2
  ·exact h2 k hk
theorem Qba {w h:Int} {b:List Int} (hc:conn w h b) {k:Nat} (hk:k<(cnt w h).toNat):depthOf w h b (bestRoot w h b)≤depthOf w h b k:=by
 unfold bestRoot
 rw [if_pos hc]
 exact (Lr _ _).2 k (List.mem_range.2 hk)
section
variable {w h r:Int} {b:List Int} (hc:conn w h b) (hr:isN w h r)
include hc hr
theorem N1 {c:Int} (hcn:isN w h c):∀(j:Nat) (hj:j<(anc (parents w h b r) c).length),∃L,L≤j∧itN (nuT w h (treeTab w h b r) c) L (anc (parents w h b r) c)[j]=c∧∀n,n<L→isN w h (itN (nuT w h (treeTab w h b r) c) n (anc (parents w h b r) c)[j])∧itN (nuT w h (treeTab w h b r) c) n (anc (parents w h b r) c)[j]≠c:=by
 have H:rootOk w h b r:=⟨hc.1,hr⟩
 have dn:=fun {v:Int} (hv:isN w h v)=>(Int.toNat_of_nonneg (Wm hc hr v hv)).symm
 obtain ⟨c1,c2,c3⟩:=X7 H _ hcn (dn hcn)
 intro j
 induction j with
 | zero=>
  intro hj
  have c0:(anc (parents w h b r) c)[0]? = some c:=Vh H hcn
  rw [List.getElem?_eq_getElem hj] at c0
  exact ⟨0,Nat.le_refl _,Option.some.inj c0,fun n hn=>by omega⟩
 | succ j ih=>
  intro hj
  obtain ⟨L,i0,i1,i2⟩:=ih (by omega)
  obtain ⟨k1,k2⟩:=c3 (j+1) hj
  have hne:(anc (parents w h b r) c)[j+1]≠c:=fun e=>by rw [e] at k2;have:=dn hcn;omega
  have st:nuT w h (treeTab w h b r) c (anc (parents w h b r) c)[j+1]=(anc (parents w h b r) c)[j]:=by
   rw [(Yd hc hr k1 hcn hne).2]
   rcases Xs hc hr k1 hcn hne with ⟨h1,_,_⟩|⟨j',hj',h2,h3⟩
   ·exact absurd (List.getElem_mem hj) h1
   ·rw [h3]
    have k3:=(c3 (j'+1) hj').2
    rw [h2,k2] at k3
    have:j'=j:=by omega
    subst this;rfl
  refine ⟨L+1,by omega,by rw [Q9,st];exact i1,fun n hn=>?_⟩
  cases n with
  | zero=>exact ⟨k1,hne⟩
  | succ n=>rw [Q9,st];exact i2 n (by omega)
theorem zn {c:Int} (hcn:isN w h c):∀(m:Nat) {a:Int},isN w h a→rd (depths w h b r) a=m→∃L:Nat,(L:Int)≤m+rd (depths w h b r) c∧itN (nuT w h (treeTab w h b r) c) L a=c∧∀n,n<L→isN w h (itN (nuT w h (treeTab w h b r) c) n a)∧itN (nuT w h (treeTab w h b r) c) n a≠c:=by
 have H:rootOk w h b r:=⟨hc.1,hr⟩
 have dn:=fun {v:Int} (hv:isN w h v)=>(Int.toNat_of_nonneg (Wm hc hr v hv)).symm
 obtain ⟨c1,c2,c3⟩:=X7 H _ hcn (dn hcn)
 intro m
 induction m with
 | zero=>
  intro a ha hd
  have hroot:=(Wl H).zero.2 a ha (by omega)
  obtain ⟨k,hk,e⟩:=List.mem_iff_getElem.1 (Ve hc hr _ hcn (dn hcn))
  obtain ⟨L,j0,tt⟩:=N1 hc hr hcn k hk
  rw [e] at tt
  rw [hroot]
  have:=dn hcn
  rw [c1] at hk
  exact ⟨L,by omega,tt⟩
 | succ m ih=>
  intro a ha hd
  by_cases hne:a=c
  ·exact ⟨0,by have:=dn hcn;omega,hne,fun n hn=>by omega⟩
  rcases Xs hc hr ha hcn hne with ⟨h1,h2,h3⟩|⟨j,hj,h2,h3⟩
  ·rcases Yk hc hr ha with ⟨h4,_⟩|⟨p,hp,h4,h5,h6,h7⟩
   ·exact absurd h4 h3
   ·have st:nuT w h (treeTab w h b r) c a=next w h a p:=by
     rw [(Yd hc hr ha hcn hne).2,h2,h4]
    obtain ⟨L,i0,i1,i2⟩:=ih h6 (by omega)
    refine ⟨L+1,by omega,by rw [Q9,st];exact i1,fun n hn=>?_⟩
    cases n with
    | zero=>exact ⟨ha,hne⟩
    | succ n=>rw [Q9,st];exact i2 n (by omega)
  ·obtain ⟨L,j0,this⟩:=N1 hc hr hcn (j+1) hj
   rw [h2] at this
   rw [c1] at hj
   have:=dn hcn
   exact ⟨L,by omega,by assumption⟩
theorem A3 {a t:Nat} (ha:a<(cnt w h).toNat) (ht:t<(cnt w h).toNat) (hne:a≠t):((walk w h b (treeTab w h b r) a t).length:Int)≤rd (depths w h b r) a+rd (depths w h b r) t:=by
 have ok:=Vs hc hr
 have hcn:=Qf w h
 have ia:isN w h (a:Int):=⟨by omega,by omega⟩
 have it:isN w h (t:Int):=⟨by omega,by omega⟩
 obtain ⟨L,e,h0,h1,h2⟩:=S0 ok ha ht hne
 have dn:=(Int.toNat_of_nonneg (Wm hc hr _ ia)).symm
 obtain ⟨K,k1,k2,_⟩:=zn hc hr it _ ia dn
 have h4:=(ok.2 t ht t ht).1 rfl
 have:L≤K:=by
  rcases Nat.lt_or_ge K L with q|q
  ·have s:=(h2 K q).1
   rw [k2,h4] at s
   unfold inR at s;omega
  ·exact q
 rw [e]
 simp
 omega
theorem xj {a t:Nat} (ha:a<(cnt w h).toNat) (ht:t<(cnt w h).toNat) (hne:a≠t):((walk w h b (treeTab w h b r) a t).length:Int)≤2*depthOf w h b r:=by
 have l:=A3 hc hr ha ht hne
 have hcn:=Qf w h
 have H:rootOk w h b r:=⟨hc.1,hr⟩
 have dl:=(Wg H).1
 have m:=fun (v:Nat) (hv:v<(cnt w h).toNat)=>(Sl (a:=-1) (Vi (s:=depths w h b r) (k:=(v:Int)) (by omega) (by omega))).1
 have m1:=m a ha
 have m2:=m t ht
 unfold depthOf
 omega
end
end Go.Proofs.YtaldglgobgjeaaaGreat.V
set_option linter.all false
namespace Go.Proofs.YtaldglgobgjeaaaGreat.V
open Go Go.VM
set_option maxRecDepth 100000
def EdgeI (w h:Int) (b s rest nx:List Int):Prop:=∀v,isN w h v→0≤rd s v→v∉rest→v∉nx→∀p:Nat,p<4→link w h b (4*v+p)→rd s (next w h v p)≤rd s v+1
theorem Run.edge {w h root:Int} {b s rest nx r:List Int} {d:Int} (hr:isN w h root) (R:Run w h b s rest nx d r):Inv w h s rest nx d→Inv2 w h b root s rest nx→EdgeI w h b s rest nx→EdgeI w h b r [] []:=by
 induction R with
 | done s d=>exact fun _ _ j=>j
 | level _ ih=>exact fun i i2 j=>ih i.level ⟨fun v hv h0 h1 h2=>i2.cl v hv h0 (by simp) h1,i2.pre,i2.zero⟩ fun v hv h0 h1 h2=>j v hv h0 (by simp) h1
 | @node s a rest nx d r _ ih=>
  intro i i2 j
  have h1:=i.one
  obtain ⟨ha,hda⟩:=i.fr a (by simp)
  have O:VOut w h b a d (List.range 4) (s,nx) (vis w h b a d (s,nx)):=Km (by omega) _ _ (by simp) (fun v hv=>by have:=i.len;have:=hv.2;simp only;omega)
  refine ih i.node ⟨fun v hv h0 hn1 hn2 p hp hlk=>?_,fun v hv h0=>?_,?_,fun v hv h0=>?_⟩ fun v hv h0 hn1 hn2 p hp hlk=>?_
  ·have hnx:=(Wi hp hlk).2.1
   by_cases h2:0≤rd s v
   ·by_cases hva:v=a
    ·subst hva;exact O.all p (by simp;omega) hlk
    ·have h3:=i2.cl v hv h2 (by simp [hva,hn1]) (fun hh=>hn2 (O.pre v hh)) p hp hlk
     rw [O.keep _ hnx.1 h3];exact h3
   ·exact absurd (O.new v hv (by simp only;omega) h0).2.1 hn2
  ·by_cases h2:0≤rd s v
   ·have e:=O.keep v hv.1 h2
    simp only at e
    rw [e] at h0 ⊢
    obtain ⟨u,hu,hu1,hq⟩:=i2.pre v hv h0
    refine ⟨u,hu,?_,hq⟩
    rw [O.keep u hu.1 (by simp only;omega)];exact hu1
   ·obtain ⟨e,_,hq⟩:=O.new v hv (by simp only;omega) (by omega)
    refine ⟨a,ha,?_,hq⟩
    rw [O.keep a ha.1 (by simp only;omega),e];exact hda
  ·have:=i2.zero.1
   rw [O.keep root hr.1 (by simp only;omega)];exact this
  ·by_cases h2:0≤rd s v
   ·have e:=O.keep v hv.1 h2
    simp only at e
    exact i2.zero.2 v hv (by rw [← e];exact h0)
   ·obtain ⟨e,_⟩:=O.new v hv (by simp only;omega) (by omega)
    omega
  ·have hnx:=(Wi hp hlk).2.1
   by_cases h2:0≤rd s v
   ·have e:=O.keep v hv.1 h2
    simp only at e
    by_cases hva:v=a
    ·subst hva
     rw [e,hda]
     have l:=i.node (b:=b)
     have hm:=Vi (s:=(vis w h b v d (s,nx)).1) hnx.1 (by have:=l.len;have:=hnx.2;omega)
     have:=l.low _ hm
     omega
    ·have h3:=i2.cl v hv h2 (by simp [hva,hn1]) (fun hh=>hn2 (O.pre v hh)) p hp hlk
     have h4:=j v hv h2 (by simp [hva,hn1]) (fun hh=>hn2 (O.pre v hh)) p hp hlk
     rw [O.keep _ hnx.1 h3,e];exact h4
   ·exact absurd (O.new v hv (by simp only;omega) h0).2.1 hn2
theorem Nx {w h root:Int} {b:List Int} (H:rootOk w h b root) {v:Int} (hv:isN w h v) (h0:0≤rd (depths w h b root) v) {p:Nat} (hp:p<4) (hl:link w h b (4*v+p)):rd (depths w h b root) (next w h v p)≤rd (depths w h b root) v+1:=by
 refine (Y8 H).edge H.2 (Yb H.2).1 (Nq b H.2) ?_ v hv h0 (by simp) (by simp) p hp hl
 intro v hv h0 h1
 rw [Vc H.2 hv] at h0
 split at h0
 ·rename_i h2;simp [h2] at h1
 ·omega
def lid (w c:Nat):Nat:=if c%4=1 then 2*(c/4) else if c%4=3 then 2*(c/4-1) else if c%4=2 then 2*(c/4)+1 else 2*(c/4-w)+1
def lkAt (w n i:Nat):Option (Nat×Nat):=if i%2=0 then (if (i/2)%w+1<w then some (i/2,i/2+1) else none) else (if i/2+w<n then some (i/2,i/2+w) else none)
def eM0 (w n:Nat):Nat:=(2 ^ (w-1)-1)*((2 ^ n-1)/(2 ^ w-1))
def sM0 (w n:Nat):Nat:=2 ^ (n-w)-1
def clr (m k:Nat):Nat:=m ^^^ (m&&& 2 ^ k)
def eM (w n:Nat) (S:List Nat):Nat:=S.foldl (fun m i=>if i%2=0 then clr m (i/2) else m) (eM0 w n)
def sM (w n:Nat) (S:List Nat):Nat:=S.foldl (fun m i=>if i%2=0 then m else clr m (i/2)) (sM0 w n)
def stepM (w e s R:Nat):Nat:=R ||| (((R&&& e) <<< 1) ||| ((R >>> 1)&&& e)) ||| (((R&&& s) <<< w) ||| ((R >>> w)&&& s))
def reachM (w e s:Nat):Nat→Nat→Nat
 | 0,R=>R
 | k+1,R=>reachM w e s k (stepM w e s R)
def nearB (w n D e s:Nat):Bool:=
 ([5,6,9,10,1,4,0,2,3,7,8,13].any fun r=>decide (r<n)&&decide (reachM w e s D (2 ^ r)&&& (2 ^ n-1)=2 ^ n-1)) || !decide (reachM w e s 16 1&&& (2 ^ n-1)=2 ^ n-1)
def near (w n D:Nat) (S:List Nat):Bool:=nearB w n D (eM w n S) (sM w n S)
theorem B3 (m k j:Nat):(clr m k).testBit j=(m.testBit j&&decide (j≠k)):=by
 unfold clr
 rw [Nat.testBit_xor,Nat.testBit_and,Nat.testBit_two_pow]
 by_cases h:k=j
 ·subst h;simp
 ·have:¬j=k:=fun e=>h e.symm
  simp [h,this]
def Edge (w e s u v:Nat):Prop:=(v=u+1∧e.testBit u=true)∨(v=u+w∧s.testBit u=true)
theorem En {w e s R:Nat} (v:Nat):(stepM w e s R).testBit v=true↔R.testBit v=true∨∃a b,Edge w e s a b∧(v=a∨v=b)∧(R.testBit a=true∨R.testBit b=true):=by
 unfold stepM
 simp only [Nat.testBit_or,Nat.testBit_shiftLeft,Nat.testBit_shiftRight,Nat.testBit_and,Bool.or_eq_true,Bool.and_eq_true,decide_eq_true_eq]
 constructor
 ·rintro ((h|⟨h1,h2,h3⟩|⟨h1,h2⟩)|⟨h1,h2,h3⟩|⟨h1,h2⟩)
  ·exact .inl h
  ·exact .inr ⟨v-1,v,.inl ⟨by omega,h3⟩,.inr rfl,.inl h2⟩
  ·exact .inr ⟨v,v+1,.inl ⟨rfl,h2⟩,.inl rfl,.inr (by rw [Nat.add_comm];exact h1)⟩
  ·exact .inr ⟨v-w,v,.inr ⟨by omega,h3⟩,.inr rfl,.inl h2⟩
  ·exact .inr ⟨v,v+w,.inr ⟨rfl,h2⟩,.inl rfl,.inr (by rw [Nat.add_comm];exact h1)⟩
 ·rintro (h|⟨a,b,h1|h1,h2|h2,h3|h3⟩)
  ·exact .inl (.inl h)
  ·subst h2;exact .inl (.inl h3)
  ·obtain ⟨rfl,h4⟩:=h1;subst h2;exact .inl (.inr (.inr ⟨by rw [Nat.add_comm];exact h3,h4⟩))
  ·obtain ⟨rfl,h4⟩:=h1;subst h2;exact .inl (.inr (.inl ⟨by omega,by simpa using h3,by simpa using h4⟩))
  ·subst h2;exact .inl (.inl h3)
  ·subst h2;exact .inl (.inl h3)
  ·obtain ⟨rfl,h4⟩:=h1;subst h2;exact .inr (.inr ⟨by rw [Nat.add_comm];exact h3,h4⟩)
  ·obtain ⟨rfl,h4⟩:=h1;subst h2;exact .inr (.inl ⟨by omega,by simpa using h3,by simpa using h4⟩)
  ·subst h2;exact .inl (.inl h3)
theorem Ep {w e s:Nat} {d:Nat→Int} (hL:∀a b,Edge w e s a b→d a≤d b+1∧d b≤d a+1):∀(k:Nat) {R:Nat} {m:Int},(∀v,R.testBit v=true→d v≤m)→∀v,(reachM w e s k R).testBit v=true→d v≤m+k
 | 0,R,m,h,v,hv=>by have:=h v hv;simp;exact this
 | k+1,R,m,h,v,hv=>by
  have:=Ep hL k (R:=stepM w e s R) (m:=m+1) (fun u hu=>by
   rcases (En u).1 hu with h1|⟨a,b,h1,h2,h3⟩
   ·have:=h u h1;omega
   ·have q:=hL a b h1
    rcases h3 with h3|h3
    ·have:=h _ h3
     rcases h2 with rfl|rfl<;>omega
    ·have:=h _ h3
     rcases h2 with rfl|rfl<;>omega) v hv
  omega
theorem T9 {w e s:Nat} {d:Nat→Int} {n:Nat} (hp:∀v,v<n→0<d v→∃u,u<n∧d u=d v-1∧(Edge w e s u v∨Edge w e s v u)):∀(k:Nat) {R:Nat} {m:Int},0≤m→(∀v,v<n→d v≤m→R.testBit v=true)→∀v,v<n→d v≤m+k→(reachM w e s k R).testBit v=true
 | 0,R,m,_,h,v,hv,hd=>h v hv (by simpa using hd)
 | k+1,R,m,h0,h,v,hv,hd=>by
  refine T9 hp k (R:=stepM w e s R) (m:=m+1) (by omega) (fun u hu hdu=>?_) v hv (by omega)
  refine (En u).2 ?_
  by_cases g:d u≤m
  ·exact .inl (h u hu g)
  ·obtain ⟨x,h1,h2,h3⟩:=hp u hu (by omega)
   have hx:=h x h1 (by omega)
   rcases h3 with h3|h3
   ·exact .inr ⟨_,_,h3,.inr rfl,.inl hx⟩
   ·exact .inr ⟨_,_,h3,.inl rfl,.inr hx⟩
def geoJ:Bool:=(List.range 5).all fun w=>(List.range 5).all fun h=>(List.range (w*h)).all fun a=>(List.range 4).all fun p=>
 decide (next (w:Int) h a p<0) || (let u:=(next (w:Int) h a p).toNat;let q:=(opp p).toNat
  decide (u<w*h)&&decide (lid w (4*a+p)<2*(w*h))&&decide (lid w (4*u+q)=lid w (4*a+p))&&(decide (lkAt w (w*h) (lid w (4*a+p))=some (a,u)) || decide (lkAt w (w*h) (lid w (4*a+p))=some (u,a)))&&
  (List.range (4*(w*h))).all fun c=>decide (lid w c≠lid w (4*a+p)) || decide (next (w:Int) h (c/4:Nat) (c%4:Nat)<0) || decide (c=4*a+p) || decide (c=4*u+q))
theorem yp:geoJ=true:=by decide +kernel
def geoK:Bool:=(List.range 5).all fun w=>(List.range 5).all fun h=>(List.range (2*(w*h))).all fun i=>match lkAt w (w*h) i with
 | none=>true
 | some (u,v)=>([1,2]:List Nat).any fun p=>decide (next (w:Int) h u (p:Nat)=v)&&decide (u<w*h)&&decide (lid w (4*u+p)=i)
theorem jp:geoK=true:=by decide +kernel
def maskB:Bool:=(List.range 4).all fun w=>(List.range 4).all fun h=>(List.range 40).all fun i=>let W:=w+1;let n:=W*(h+1)
 decide ((eM0 W n).testBit i=decide (lkAt W n (2*i)≠none∧i<n))&&decide ((sM0 W n).testBit i=decide (lkAt W n (2*i+1)≠none))
theorem Kb:maskB=true:=by decide +kernel
def radB (w n:Nat):Bool:=(List.range (2*n)).all fun i=>(lkAt w n i).isNone || (near w n 4 [i]&&(List.range (i+1)).all fun j=>(lkAt w n j).isNone || (near w n 5 [i,j]&&(List.range (j+1)).all fun k=>(lkAt w n k).isNone || near w n 5 [i,j,k]))
theorem Qbm:((List.range 4).all fun w=>(List.range 4).all fun h=>radB (w+1) ((w+1)*(h+1)))=true:=by kernel_rfl
theorem Rt (a:Nat):∀(S:List Nat) (m:Nat),(S.foldl (fun m i=>if i%2=0 then clr m (i/2) else m) m).testBit a=true↔m.testBit a=true∧2*a∉S
 | [],m=>by simp
 | i::S,m=>by
  rw [List.foldl_cons,Rt a S,List.mem_cons]
  by_cases h:i%2=0
  ·rw [if_pos h,B3,Bool.and_eq_true,decide_eq_true_eq]
   constructor
   ·rintro ⟨⟨h1,h2⟩,h3⟩;exact ⟨h1,fun k=>k.elim (fun e=>by omega) h3⟩
   ·rintro ⟨h1,h2⟩;exact ⟨⟨h1,fun e=>h2 (.inl (by omega))⟩,fun k=>h2 (.inr k)⟩
  ·rw [if_neg h]
   constructor
   ·rintro ⟨h1,h3⟩;exact ⟨h1,fun k=>k.elim (fun e=>by omega) h3⟩
   ·rintro ⟨h1,h2⟩;exact ⟨h1,fun k=>h2 (.inr k)⟩
theorem Rs (a:Nat):∀(S:List Nat) (m:Nat),(S.foldl (fun m i=>if i%2=0 then m else clr m (i/2)) m).testBit a=true↔m.testBit a=true∧2*a+1∉S
 | [],m=>by simp
 | i::S,m=>by
  rw [List.foldl_cons,Rs a S,List.mem_cons]
  by_cases h:i%2=0
  ·rw [if_pos h]
   constructor
   ·rintro ⟨h1,h3⟩;exact ⟨h1,fun k=>k.elim (fun e=>by omega) h3⟩
   ·rintro ⟨h1,h2⟩;exact ⟨h1,fun k=>h2 (.inr k)⟩
  ·rw [if_neg h,B3,Bool.and_eq_true,decide_eq_true_eq]
   constructor
   ·rintro ⟨⟨h1,h2⟩,h3⟩;exact ⟨h1,fun k=>k.elim (fun e=>by omega) h3⟩
   ·rintro ⟨h1,h2⟩;exact ⟨⟨h1,fun e=>h2 (.inl (by omega))⟩,fun k=>h2 (.inr k)⟩
theorem Jo {w n a:Nat}:lkAt w n (2*a)=if a%w+1<w then some (a,a+1) else none:=by
 unfold lkAt
 rw [if_pos (by omega),show 2*a/2=a by omega]
theorem Jz {w n a:Nat}:lkAt w n (2*a+1)=if a+w<n then some (a,a+w) else none:=by
 unfold lkAt
 rw [if_neg (by omega),show (2*a+1)/2=a by omega]
section
variable {w h:Int} {b:List Int} (hm:meshOk w h b)
include hm
theorem dims:∃W H:Nat,w=(W+1:Nat)∧h=(H+1:Nat)∧W<4∧H<4∧(cnt w h).toNat=(W+1)*(H+1)∧cnt w h=((W+1)*(H+1):Nat):=by
 obtain ⟨_,⟨w0,w1⟩,h0,h1⟩:=hm
 obtain ⟨i,hi⟩:∃i:Nat,w=((i+1:Nat):Int):=⟨(w-1).toNat,by omega⟩
 obtain ⟨j,hj⟩:∃j:Nat,h=((j+1:Nat):Int):=⟨(h-1).toNat,by omega⟩
 have e:cnt w h=((i+1)*(j+1):Nat):=by
  rw [cnt,if_pos ⟨⟨w0,w1⟩,h0,h1⟩,hi,hj,← Int.natCast_mul]
 exact ⟨i,j,hi,hj,by omega,by omega,by rw [e];rfl,e⟩
theorem Jc {a p:Nat} (ha:isN w h a) (hp:p<4) (hu:0≤next w h a p) :
 (next w h a p).toNat<(cnt w h).toNat∧lid w.toNat (4*a+p)<2*(cnt w h).toNat∧lid w.toNat (4*(next w h a p).toNat+(opp p).toNat)=lid w.toNat (4*a+p)∧(lkAt w.toNat (cnt w h).toNat (lid w.toNat (4*a+p))=some (a,(next w h a p).toNat)∨lkAt w.toNat (cnt w h).toNat (lid w.toNat (4*a+p))=some ((next w h a p).toNat,a))∧
 ∀c,c<4*(cnt w h).toNat→lid w.toNat c=lid w.toNat (4*a+p)→0≤next w h (c/4:Nat) (c%4:Nat)→c=4*a+p∨c=4*(next w h a p).toNat+(opp p).toNat:=by
 obtain ⟨W,H,e1,e2,hW,hH,e3,e4⟩:=dims hm
 have h0:=yp
 unfold geoJ at h0
 rw [List.all_eq_true] at h0
 have h1:=h0 (W+1) (by simp;omega)
 rw [List.all_eq_true] at h1
 have h2:=h1 (H+1) (by simp;omega)
 rw [List.all_eq_true] at h2
 have ha2:=ha.2
 have h3:=h2 a (List.mem_range.2 (by omega))
 rw [List.all_eq_true] at h3
 have h4:=h3 p (by simp;omega)
 rw [← e1,← e2] at h4
 have ew:w.toNat=W+1:=by omega
 rw [ew,e3]
 simp only [Bool.or_eq_true,Bool.and_eq_true,decide_eq_true_eq,List.all_eq_true,List.mem_range] at h4
 rcases h4 with h4|⟨⟨⟨⟨hx,h4⟩,h5⟩,h6⟩,h7⟩
 ·omega
 ·refine ⟨hx,h4,h5,h6,fun c hc hl hn=>?_⟩
  rcases h7 c hc with ((h8|h8)|h8)|h8
  ·exact absurd hl h8
  ·omega
  ·exact .inl h8
  ·exact .inr h8
theorem Qcb {i u v:Nat} (hi:i<2*(cnt w h).toNat) (hl:lkAt w.toNat (cnt w h).toNat i=some (u,v)):∃p:Nat,p<4∧next w h u p=v∧isN w h u∧lid w.toNat (4*u+p)=i:=by
 obtain ⟨W,H,e1,e2,hW,hH,e3,e4⟩:=dims hm
 have h0:=jp
 unfold geoK at h0
 rw [List.all_eq_true] at h0
 have h1:=h0 (W+1) (by simp;omega)
 rw [List.all_eq_true] at h1
 have h2:=h1 (H+1) (by simp;omega)
 rw [List.all_eq_true] at h2
 have h3:=h2 i (List.mem_range.2 (by omega))
 have ew:w.toNat=W+1:=by omega
 rw [ew,e3] at hl
 rw [hl,← e1,← e2] at h3
 simp only [List.any_eq_true,Bool.and_eq_true,decide_eq_true_eq] at h3
 obtain ⟨p,hp,⟨h4,h5⟩,h6⟩:=h3
 simp at hp
 rw [ew]
 exact ⟨p,by omega,h4,⟨by omega,by omega⟩,h6⟩
def brS (w:Int) (b:List Int):List Nat:=b.map fun c=>lid w.toNat c.toNat
omit hm in
theorem P0 {i:Nat}:i∈brS w b↔∃c∈b,lid w.toNat c.toNat=i:=by unfold brS;rw [List.mem_map]
theorem Qb2 {a p:Nat} (ha:isN w h a) (hp:p<4) (hu:0≤next w h a p) (hi:lid w.toNat (4*a+p)∉brS w b):link w h b (4*(a:Int)+p):=by
 obtain ⟨j0,j1,j2,j3,j4⟩:=Jc hm ha hp hu
 obtain ⟨g1,g2,g3,g4,g5⟩:=geo hp ha hu
 have hcn:=Qf w h
 have ha2:=ha.2
 have e1:(4*(a:Int)+p)/4=a:=by omega
 have e2:(4*(a:Int)+p)%4=p:=by omega
 have lu:next w h a p<cnt w h:=by omega
 have hb:backC w h (4*(a:Int)+p)=4*next w h a p+opp p:=by unfold backC endC;rw [e1,e2]
 refine ⟨⟨⟨⟨by omega,by omega⟩,by rw [e1,e2];exact hu⟩,fun hh=>hi (P0.2 ⟨_,hh,by rw [show (4*(a:Int)+p).toNat=4*a+p by omega]⟩)⟩,?_⟩
 rw [hb]
 refine ⟨⟨⟨by omega,by omega⟩,?_⟩,fun hh=>hi (P0.2 ⟨_,hh,by rw [← j2];congr 1;omega⟩)⟩
 rw [show (4*next w h a p+opp p)/4=next w h a p by omega,show (4*next w h a p+opp p)%4=opp p by omega,g1]
 omega
theorem qy {u v:Nat} (k:Edge w.toNat (eM w.toNat (cnt w h).toNat (brS w b)) (sM w.toNat (cnt w h).toNat (brS w b)) u v):∃p:Nat,p<4∧isN w h u∧next w h u p=v∧link w h b (4*(u:Int)+p):=by
 obtain ⟨W,H,e1,e2,hW,hH,e3,e4⟩:=dims hm
 have ew:w.toNat=W+1:=by omega
 have mk:=Kb
 unfold maskB at mk
 rw [List.all_eq_true] at mk
 have m1:=mk W (by simp;omega)
 rw [List.all_eq_true] at m1
 have m2:=m1 H (by simp;omega)
 have fin:∀i,i<2*(cnt w h).toNat→i∉brS w b→lkAt w.toNat (cnt w h).toNat i=some (u,v)→∃p:Nat,p<4∧isN w h u∧next w h u p=v∧link w h b (4*(u:Int)+p):=fun i hi hS hl=>by
  obtain ⟨p,p1,p2,p3,p4⟩:=Qcb hm hi hl
  exact ⟨p,p1,p3,p2,Qb2 hm p3 p1 (by omega) (by rw [p4];exact hS)⟩
 have small:u<40:=by
  rcases Nat.lt_or_ge u 40 with q|q
  ·exact q
  ·exfalso
   have big:∀m:Nat,m<2 ^ 40→m.testBit u=false:=fun m hm=>Nat.testBit_lt_two_pow (Nat.lt_of_lt_of_le hm (Nat.pow_le_pow_right (by decide) q))
   have s1:∀W,W<4→∀H,H<4→eM0 (W+1) ((W+1)*(H+1))<2 ^ 40∧sM0 (W+1) ((W+1)*(H+1))<2 ^ 40:=by decide +kernel
   have s2:=s1 W hW H hH
   rcases k with ⟨_,k⟩|⟨_,k⟩
   ·have:=((Rt u _ _).1 k).1
    rw [ew,e3,big _ s2.1] at this;cases this
   ·have:=((Rs u _ _).1 k).1
    rw [ew,e3,big _ s2.2] at this;cases this
 rw [List.all_eq_true] at m2
 have m3:=m2 u (List.mem_range.2 small)
 simp only [Bool.and_eq_true,decide_eq_true_eq] at m3
 rcases k with ⟨hv,k⟩|⟨hv,k⟩
 ·obtain ⟨k1,k2⟩:=(Rt u _ _).1 k
  have k1':=k1
  rw [ew,e3,m3.1,decide_eq_true_eq] at k1
  have hl:=k1.1
  rw [Jo] at hl
  refine fin (2*u) (by omega) k2 ?_
  rw [ew,e3,Jo]
  split at hl
  ·rename_i q;rw [if_pos q,hv]
  ·exact absurd rfl hl
 ·obtain ⟨k1,k2⟩:=(Rs u _ _).1 k
  rw [ew,e3,m3.2,decide_eq_true_eq] at k1
  rw [Jz] at k1
  split at k1
  ·rename_i q
   refine fin (2*u+1) (by omega) k2 ?_
   rw [e3,ew,Jz,if_pos q,hv,ew]
  ·exact absurd rfl k1
theorem wg {a p:Nat} (ha:isN w h a) (hp:p<4) (hk:link w h b (4*(a:Int)+p)) :
 Edge w.toNat (eM w.toNat (cnt w h).toNat (brS w b)) (sM w.toNat (cnt w h).toNat (brS w b)) a (next w h a p).toNat∨Edge w.toNat (eM w.toNat (cnt w h).toNat (brS w b)) (sM w.toNat (cnt w h).toNat (brS w b)) (next w h a p).toNat a:=by
 obtain ⟨W,H,e1,e2,hW,hH,e3,e4⟩:=dims hm
 have ew:w.toNat=W+1:=by omega
 obtain ⟨_,hu,he⟩:=Wi hp hk
 obtain ⟨j0,j1,j2,j3,j4⟩:=Jc hm ha hp hu.1
 obtain ⟨g1,g2,g3,g4,g5⟩:=geo hp ha hu.1
 have f2:(4*(a:Int)+p)%4=p:=by omega
 have hb:backC w h (4*(a:Int)+p)=4*next w h a p+opp p:=by unfold backC;rw [he,f2]
 have hS:lid w.toNat (4*a+p)∉brS w b:=fun hh=>by
  obtain ⟨c,hc,hl⟩:=P0.1 hh
  obtain ⟨m1,m2,_⟩:=(Tg w h b).1 hm
  obtain ⟨⟨c0,c1⟩,c2⟩:=m2 c hc
  have e:((c.toNat/4:Nat):Int)=c/4:=by omega
  have e':((c.toNat%4:Nat):Int)=c%4:=by omega
  rcases j4 c.toNat (by omega) hl (by rw [e,e'];exact c2) with q|q
  ·exact hk.1.2 (by rw [show 4*(a:Int)+p=c by omega];exact hc)
  ·have h2:=hk.2.2
   rw [hb,show 4*next w h a p+opp p=c by have:=hu.1;omega] at h2
   exact h2 hc
 have mk:=Kb
 unfold maskB at mk
 rw [List.all_eq_true] at mk
 have m1:=mk W (by simp;omega)
 rw [List.all_eq_true] at m1
 have m2:=m1 H (by simp;omega)
 rw [List.all_eq_true] at m2
 have n16:(cnt w h).toNat≤16:=by have:=Qf w h;omega
 have fin:∀i x y,i<2*(cnt w h).toNat→i∉brS w b→lkAt w.toNat (cnt w h).toNat i=some (x,y)→Edge w.toNat (eM w.toNat (cnt w h).toNat (brS w b)) (sM w.toNat (cnt w h).toNat (brS w b)) x y:=fun i x y hi hS hl=>by
  have m3:=m2 (i/2) (List.mem_range.2 (by omega))
  simp only [Bool.and_eq_true,decide_eq_true_eq] at m3
  rcases (show i=2*(i/2)∨i=2*(i/2)+1 by omega) with q|q
  ·rw [q,Jo] at hl
   split at hl
   ·rename_i q2
    cases hl
    refine .inl ⟨rfl,(Rt _ _ _).2 ⟨?_,by rw [← q];exact hS⟩⟩
    rw [ew] at q2
    rw [ew,e3,m3.1,decide_eq_true_eq]
    refine ⟨?_,by omega⟩
    rw [Jo,if_pos q2];simp
   ·cases hl
  ·rw [q,Jz] at hl
   split at hl
   ·rename_i q2
    cases hl
    refine .inr ⟨rfl,(Rs _ _ _).2 ⟨?_,by rw [← q];exact hS⟩⟩
    rw [ew,e3] at q2
    rw [ew,e3,m3.2,decide_eq_true_eq,Jz,if_pos q2];simp
   ·cases hl
 rcases j3 with j3|j3
 ·exact .inl (fin _ _ _ j1 hS j3)
 ·exact .inr (fin _ _ _ j1 hS j3)
end
theorem Sy:∀(l:List Int) (a D:Int),a≤D→(∀x∈l,x≤D)→l.foldl max a≤D
 | [],a,D,h,_=>h
 | x::l,a,D,h,hl=>by
  rw [List.foldl_cons]
  have:=hl x (by simp)
  exact Sy l _ D (by omega) fun y hy=>hl y (List.mem_cons_of_mem _ hy)
theorem yo {n R:Nat} (h:R&&& (2 ^ n-1)=2 ^ n-1) {v:Nat} (hv:v<n):R.testBit v=true:=by
 have:=congrArg (fun x=>Nat.testBit x v) h
 simp only [Nat.testBit_and,Nat.testBit_two_pow_sub_one,hv,decide_true,Bool.and_true] at this
 exact this
theorem To {w h:Int} {b:List Int} (hc:conn w h b) {D:Nat} (hn:near w.toNat (cnt w h).toNat D (brS w b)=true):depthOf w h b (bestRoot w h b)≤D:=by
 have hm:=hc.1
 have hcn:=Qf w h
 have isn:∀v:Nat,v<(cnt w h).toNat→isN w h (v:Int):=fun v hv=>⟨by omega,by omega⟩
 unfold near nearB at hn
 rw [Bool.or_eq_true] at hn
 rcases hn with hn|hn
 ·obtain ⟨r,_,hr⟩:=List.any_eq_true.1 hn
  rw [Bool.and_eq_true,decide_eq_true_eq,decide_eq_true_eq] at hr
  obtain ⟨hr,e⟩:=hr
  have ir:=isn r hr
  have H:rootOk w h b r:=⟨hm,ir⟩
  have hL:∀x y,Edge w.toNat (eM w.toNat (cnt w h).toNat (brS w b)) (sM w.toNat (cnt w h).toNat (brS w b)) x y→rd (depths w h b r) (x:Int)≤rd (depths w h b r) (y:Int)+1∧rd (depths w h b r) (y:Int)≤rd (depths w h b r) (x:Int)+1:=fun x y k=>by
   obtain ⟨p,p1,p2,p3,p4⟩:=qy hm k
   have q1:=Nx H p2 (Wm hc ir _ p2) p1 p4
   obtain ⟨q,s1,s2,s3⟩:=Vq p1 p4
   have iy:=(Wi p1 p4).2.1
   have q2:=Nx H iy (Wm hc ir _ iy) s1 s2
   rw [s3,p3] at q2
   rw [p3] at q1
   exact ⟨q2,q1⟩
  have le:∀v:Nat,v<(cnt w h).toNat→rd (depths w h b r) (v:Int)≤D:=fun v hv=>by
   have:=Ep (d:=fun v:Nat=>rd (depths w h b r) (v:Int)) hL D (R:=2 ^ r) (m:=0) (fun u hu=>by
    rw [Nat.testBit_two_pow,decide_eq_true_eq] at hu
    subst hu
    rw [(Wl H).zero.1];exact Int.le_refl _) v (yo e hv)
   omega
  refine Int.le_trans (Qba hc hr) ?_
  unfold depthOf
  refine Sy _ _ _ (by omega) fun x hx=>?_
  obtain ⟨i,hi,rfl⟩:=List.mem_iff_getElem.1 hx
  have dl:=(Wg H).1
  have:=le i (by omega)
  rw [Zi hi] at this
  exact this
 ·exfalso
  simp only [Bool.not_eq_true',decide_eq_false_iff_not] at hn
  apply hn
  have i0:isN w h 0:=Ak hm.2
  have H:rootOk w h b 0:=⟨hm,i0⟩
  have al:=T9 (w:=w.toNat) (e:=eM w.toNat (cnt w h).toNat (brS w b)) (s:=sM w.toNat (cnt w h).toNat (brS w b)) (d:=fun v:Nat=>rd (depths w h b 0) (v:Int)) (n:=(cnt w h).toNat) (fun v hv h0=>by
   obtain ⟨u,u1,u2,q,q1,q2,q3⟩:=(Wl H).pre _ (isn v hv) h0
   obtain ⟨k,rfl⟩:=Int.eq_ofNat_of_zero_le u1.1
   have:=u1.2
   refine ⟨k,by omega,u2,?_⟩
   have:=wg hm u1 q1 q2
   rw [q3] at this
   simpa using this) 16 (R:=1) (m:=0) (by omega) (fun v hv h0=>by
    have p0:=Wm hc i0 _ (isn v hv)
    have:=(Wl H).zero.2 _ (isn v hv) (by omega)
    have:v=0:=by omega
    subst this;rfl)
  refine Nat.eq_of_testBit_eq fun i=>?_
  rw [Nat.testBit_and,Nat.testBit_two_pow_sub_one]
  by_cases hi:i<(cnt w h).toNat
  ·have:=al i hi (by
    have:=(Wg H).2 _ (Vi (s:=depths w h b 0) (k:=(i:Int)) (by omega) (by have:=(Wg H).1;omega))
    omega)
   simp [hi,this]
  ·simp [hi]
theorem Xq {w n D:Nat} {S S':List Nat} (h:∀x,x∈S↔x∈S'):near w n D S=near w n D S':=by
 have e1:eM w n S=eM w n S':=Nat.eq_of_testBit_eq fun a=>by
  rw [Bool.eq_iff_iff]
  unfold eM
  rw [Rt,Rt,h]
 have e2:sM w n S=sM w n S':=Nat.eq_of_testBit_eq fun a=>by
  rw [Bool.eq_iff_iff]
  unfold sM
  rw [Rs,Rs,h]
 unfold near
 rw [e1,e2]
theorem Qbk {w n:Nat} (hr:radB w n=true):∀S:List Nat,S≠[]→(∀i∈S,i<2*n∧lkAt w n i≠none)→(S.length=1→near w n 4 S=true)∧(S.length≤3→near w n 5 S=true∨near w n 4 S=true):=by
 unfold radB at hr
 rw [List.all_eq_true] at hr
 have ok:∀{i},i<2*n→lkAt w n i≠none→near w n 4 [i]=true∧∀{j},j≤i→lkAt w n j≠none→near w n 5 [i,j]=true∧∀{k},k≤j→lkAt w n k≠none→near w n 5 [i,j,k]=true:=fun {i} hi hl=>by
  have h1:=hr i (List.mem_range.2 hi)
  have:(lkAt w n i).isNone=false:=by cases hq:lkAt w n i;exact absurd hq hl;rfl
  rw [this,Bool.false_or,Bool.and_eq_true,List.all_eq_true] at h1
  refine ⟨h1.1,fun {j} hj hlj=>?_⟩
  have h2:=h1.2 j (List.mem_range.2 (by omega))
  have:(lkAt w n j).isNone=false:=by cases hq:lkAt w n j;exact absurd hq hlj;rfl
  rw [this,Bool.false_or,Bool.and_eq_true,List.all_eq_true] at h2
  refine ⟨h2.1,fun {k} hk hlk=>?_⟩
  have h3:=h2.2 k (List.mem_range.2 (by omega))
  have:(lkAt w n k).isNone=false:=by cases hq:lkAt w n k;exact absurd hq hlk;rfl
  rw [this,Bool.false_or] at h3
  exact h3
 intro S hne hS
 match S,hne,hS with
 | [],h,_=>exact absurd rfl h
 | [i],_,hS=>exact ⟨fun _=>(ok (hS i (by simp)).1 (hS i (by simp)).2).1,fun _=>.inr (ok (hS i (by simp)).1 (hS i (by simp)).2).1⟩
 | [i,j],_,hS=>
  obtain ⟨i1,i2⟩:=hS i (by simp)
  obtain ⟨j1,j2⟩:=hS j (by simp)
  refine ⟨fun h=>by simp at h,fun _=>.inl ?_⟩
  rcases Nat.le_total j i with q|q
  ·exact ((ok i1 i2).2 q j2).1
  ·rw [Xq (S':=[j,i]) (fun x=>by simp;omega)]
   exact ((ok j1 j2).2 q i2).1
 | [i,j,k],_,hS=>
  obtain ⟨i1,i2⟩:=hS i (by simp)
  obtain ⟨j1,j2⟩:=hS j (by simp)
  obtain ⟨k1,k2⟩:=hS k (by simp)
  refine ⟨fun h=>by simp at h,fun _=>.inl ?_⟩
  rcases Nat.le_total j i with q|q<;>rcases Nat.le_total k j with q'|q'<;>rcases Nat.le_total k i with q''|q''
  ·exact ((ok i1 i2).2 q j2).2 q' k2
  ·exact ((ok i1 i2).2 q j2).2 q' k2
  ·rw [Xq (S':=[i,k,j]) (fun x=>by simp;omega)];exact ((ok i1 i2).2 q'' k2).2 q' j2
  ·rw [Xq (S':=[k,i,j]) (fun x=>by simp;omega)];exact ((ok k1 k2).2 q'' i2).2 q j2
  ·rw [Xq (S':=[j,i,k]) (fun x=>by simp;omega)];exact ((ok j1 j2).2 q i2).2 q'' k2
  ·rw [Xq (S':=[j,k,i]) (fun x=>by simp;omega)];exact ((ok j1 j2).2 q' k2).2 q'' i2
  ·rw [Xq (S':=[k,j,i]) (fun x=>by simp;omega)];exact ((ok k1 k2).2 q' j2).2 q i2
  ·rw [Xq (S':=[k,j,i]) (fun x=>by simp;omega)];exact ((ok k1 k2).2 q' j2).2 q i2
 | i::j::k::l::S,_,_=>exact ⟨fun h=>by simp at h,fun h=>by simp at h⟩
theorem radius {w h:Int} {b:List Int} (hc:conn w h b) (h0:b≠[]):(b.length=1→depthOf w h b (bestRoot w h b)≤4)∧(b.length≤3→depthOf w h b (bestRoot w h b)≤5):=by
 obtain ⟨W,H,e1,e2,hW,hH,e3,e4⟩:=dims hc.1
 have ew:w.toNat=W+1:=by omega
 have r:=Qbm
 rw [List.all_eq_true] at r
 have r1:=r W (by simp;omega)
 rw [List.all_eq_true] at r1
 have r2:=r1 H (by simp;omega)
 rw [← ew] at r2
 have r3:=Qbk (n:=(cnt w h).toNat) (w:=w.toNat) (by rw [e3,← ew];exact r2) (brS w b) (by unfold brS;simpa using h0) fun i hi=>by
  obtain ⟨c,hcb,rfl⟩:=P0.1 hi
  obtain ⟨m1,m2,_⟩:=(Tg w h b).1 hc.1
  obtain ⟨⟨c0,c1⟩,c2⟩:=m2 c hcb
  obtain ⟨a,ha⟩:=Int.eq_ofNat_of_zero_le (show 0≤c/4 by omega)
  obtain ⟨p,hp⟩:=Int.eq_ofNat_of_zero_le (show 0≤c%4 by omega)
  rw [ha,hp] at c2
  have ec:c.toNat=4*a+p:=by omega
  obtain ⟨_,g1,_,g2,_⟩:=Jc hc.1 (a:=a) (p:=p) ⟨by omega,by omega⟩ (by omega) c2
  rw [ec]
  refine ⟨g1,?_⟩
  rcases g2 with g2|g2<;>rw [g2]<;>simp
 have len:(brS w b).length=b.length:=by unfold brS;simp
 rw [len] at r3
 refine ⟨fun h=>To hc (r3.1 h),fun h=>?_⟩
 rcases r3.2 h with k|k
 ·exact To hc k
 ·have:=To hc k;omega
end Go.Proofs.YtaldglgobgjeaaaGreat.V
set_option linter.all false
namespace Go.Proofs.YtaldglgobgjeaaaGreat.V
open Go Go.VM Go.Proofs
set_option maxRecDepth 10000
def hbOf (k:Nat):Nat:=if k=0 then 6 else if k=1 then 8 else if k≤3 then 10 else 16
theorem wi {x:NetD} {hb:Nat} (hh:∀s t c:Nat,s<nC x→t<nC x→c<2→hop (stat x) c s t≤hb) (hn:netOk x) {p:PkD} (hp:packetOk x.1.1 x.1.2.1 p):phi (sendNet x p)≤phi x+5*(hb+2):=by
 have hnn:=Yi x
 have hp':=hp
 obtain ⟨_,⟨q1,q2⟩,⟨q3,q4⟩,_,q5,q6⟩:=hp'
 have q2':p.2.1<cnt x.1.1 x.1.2.1:=q2
 have q4':p.2.2.1<cnt x.1.1 x.1.2.1:=q4
 unfold inR at q5 q6
 have lS:x.2.2.2.2.2.1.length=nC x:=by have:=hn.2.1.2.2.2.1;omega
 have hop6:hop (stat x) p.2.2.2.1.toNat p.2.1 p.2.2.1≤hb:=by
  have:=hh p.2.1.toNat p.2.2.1.toNat p.2.2.2.1.toNat (by omega) (by omega) (by omega)
  rw [show ((p.2.1.toNat:Nat):Int)=p.2.1 by omega,show ((p.2.2.1.toNat:Nat):Int)=p.2.2.1 by omega] at this
  exact this
 have e:phi (sendNet x p)=sumS (wb (stat x)) x.2.2.1+sumS (ws (stat x)) (upd x.2.2.2.2.2.1 p.2.1.toNat (·++flitsOf x.1.1 x.1.2.1 p)):=rfl
 have e2:phi x=sumS (wb (stat x)) x.2.2.1+sumS (ws (stat x)) x.2.2.2.2.2.1:=rfl
 have s1:=On (ws (stat x)) (S:=x.2.2.2.2.2.1) (k:=p.2.1.toNat) (·++flitsOf x.1.1 x.1.2.1 p) (by omega)
 rw [zi] at s1
 have s2:=Bm (f:=ws (stat x)) (k:=p.2.1.toNat) (b:=hb+2) (flitsOf x.1.1 x.1.2.1 p) fun y hy=>by
  obtain ⟨_,f2,f3⟩:=U3 hy
  unfold ws
  rw [← f2,← f3,show ((p.2.1.toNat:Nat):Int)=p.2.1 by omega]
  omega
 have s3:=Tt hp
 have s4:(flitsOf x.1.1 x.1.2.1 p).length≤5:=by omega
 have:(hb+2)*(flitsOf x.1.1 x.1.2.1 p).length≤(hb+2)*5:=Nat.mul_le_mul_left _ s4
 omega
structure Scn (a:ChipD) (S k:Nat):Prop where
 good:GoodC a
 len:a.1.1.2.2.length=k
 aA:Acyc (depsOf a.1.1.1 a.1.1.2.1 a.1.1.2.2 a.1.2.1.1)
 aB:Acyc (depsOf a.1.1.1 a.1.1.2.1 a.1.1.2.2 a.1.2.1.2)
 hop:∀s t c:Nat,s<nC a.1→t<nC a.1→c<2→hop (stat a.1) c s t≤hbOf k
 ph:phi a.1≤5*(hbOf k+2)*S
theorem Scn.run {a:ChipD} {S k:Nat} (i:Scn a S k) {n:Nat} (ht:a.1.2.2.2.2.2.2.2+n≤1000000):Scn (runN a.1 n,a.2) S k:=by
 have hn:=i.good.1.1
 have hs:=Zf i.good.1.2.2.1
 obtain ⟨s1,s2⟩:=yn hn.1 hs i.good.2 n
 have e:stat (runN a.1 n)=stat a.1:=(Z5 hn.1 hs i.good.2 n).1
 have en:nC (runN a.1 n)=nC a.1:=by unfold nC;rw [s1]
 refine ⟨Dw i.good (by omega),?_,?_,?_,?_,?_⟩
 ·show (runN a.1 n).1.2.2.length=k;rw [s1];exact i.len
 ·show Acyc (depsOf (runN a.1 n).1.1 (runN a.1 n).1.2.1 (runN a.1 n).1.2.2 (runN a.1 n).2.1.1);rw [s1,s2];exact i.aA
 ·show Acyc (depsOf (runN a.1 n).1.1 (runN a.1 n).1.2.1 (runN a.1 n).1.2.2 (runN a.1 n).2.1.2);rw [s1,s2];exact i.aB
 ·intro s t c hs ht hc
  show V.hop (stat (runN a.1 n)) c s t≤_
  rw [e]
  exact i.hop s t c (by rw [← en];exact hs) (by rw [← en];exact ht) hc
 ·exact Nat.le_trans (Bb hn hs i.good.2 n (by omega)) i.ph
theorem Scn.send {a:ChipD} {S k:Nat} (i:Scn a S k) (p q r s:Int):Scn (chipSend a p q r s) (S+1) k:=by
 have hg:=Ml i.good p q r s
 unfold chipSend at hg ⊢
 split
 ·rename_i kk
  rw [if_pos kk] at hg
  obtain ⟨_,k2,k3⟩:=kk
  refine ⟨hg,i.len,i.aA,i.aB,i.hop,?_⟩
  have h1:=wi i.hop i.good.1.1 k3.1
  have h2:=i.ph
  show phi (sendNet a.1 _)≤_
  rw [Nat.mul_succ]
  omega
 ·refine ⟨i.good,i.len,i.aA,i.aB,i.hop,?_⟩
  have h2:=i.ph
  rw [Nat.mul_succ]
  omega
theorem Qa4 {w h:Int} {b:List Int} {r:Int} (hc:conn w h b) (hr:r=bestRoot w h b) (h0:b≠[]) {s t:Nat} (hs:s<(cnt w h).toNat) (ht:t<(cnt w h).toNat):(walk w h b (treeTab w h b r) s t).length≤hbOf b.length:=by
 have ir:=zu hc
 rw [← hr] at ir
 have ok:=Vs hc ir
 by_cases hne:s=t
 ·subst hne
  rw [C5 ok hs];simp
 ·have l:=xj hc ir hs ht hne
  have l2:=Rk w h b (treeTab w h b r) t (cnt w h).toNat s []
  have hcn:=Qf w h
  obtain ⟨r1,r2⟩:=radius hc h0
  rw [← hr] at r1 r2
  have hp:b.length≠0:=fun e=>h0 (List.length_eq_zero_iff.1 e)
  unfold hbOf
  rw [if_neg hp]
  split
  ·rename_i e;have:=r1 e;omega
  ·split
   ·rename_i e;have:=r2 e;omega
   ·have e:walk w h b (treeTab w h b r) s t=walkN w h b (treeTab w h b r) t (cnt w h).toNat s []:=rfl
    rw [e]
    simp at l2
    omega
theorem Scn.brk {a:ChipD} {S k:Nat} (i:Scn a S k) (c:Int):∃k',Scn (V.brk a.1 c,a.2) S k'∧k'≤k+1∧(V.brk a.1 c).2.2.2.2.2.2.2=a.1.2.2.2.2.2.2.2:=by
 unfold V.brk
 split
 ·rename_i g
  obtain ⟨g1,g2,g3⟩:=g
  have hg:=Fo i.good g1.2 (m:=(a.1.1.1,a.1.1.2.1,withBroken a.1.1.1 a.1.1.2.1 a.1.1.2.2 c)) ⟨rfl,rfl⟩ (xp g3)
  obtain ⟨b',hb'⟩:∃b',b'=withBroken a.1.1.1 a.1.1.2.1 a.1.1.2.2 c:=⟨_,rfl⟩
  rw [← hb'] at hg g3 ⊢
  have hk:treeOk a.1.1.1 a.1.1.2.1 b' (bestRoot a.1.1.1 a.1.1.2.1 b'):=by simpa [repairOk] using g3
  have hc:=hk.1
  have eT:repair a.1.1.1 a.1.1.2.1 b'=(treeTab a.1.1.1 a.1.1.2.1 b' (bestRoot a.1.1.1 a.1.1.2.1 b'),treeTab a.1.1.1 a.1.1.2.1 b' (bestRoot a.1.1.1 a.1.1.2.1 b')):=by
   unfold repair treeTable;rw [if_pos hk]
  rw [eT] at hg ⊢
  have lb:b'.length=k+1:=by
   rw [hb'];unfold withBroken;rw [if_pos g2];unfold broke;rw [Mv,List.length_append,i.len];rfl
  have h0:b'≠[]:=fun e=>by rw [e] at lb;simp at lb
  have z:=And.intro (Xe g1.2.1) (Xe g1.2.2)
  refine ⟨k+1,⟨hg,lb,M4 hc hk.2,M4 hc hk.2,fun s t c hs ht hc2=>?_,?_⟩,Nat.le_refl _,rfl⟩
  ·have:=Qa4 hc rfl h0 (s:=s) (t:=t) hs ht
   rw [lb] at this
   refine Nat.le_trans (Nat.le_of_eq ?_) this
   unfold V.hop
   congr 1
   show walk _ _ _ (tabC _ c) s t=_
   unfold tabC
   split<;>rfl
  ·refine Nat.le_trans (Nat.le_of_eq (Ii ?_ ?_)) (Nat.zero_le _)
   ·exact z.1
   ·exact z.2
 ·exact ⟨k,i,by omega,rfl⟩
theorem Scn.act {a:ChipD} {S k:Nat} (i:Scn a S k) (c p q r s:Int) (h5:c≠5):∃S' k',Scn (doAct a c p q r s).1 S' k'∧S'+k'≤S+k+1∧(doAct a c p q r s).1.1.2.2.2.2.2.2.2≤a.1.2.2.2.2.2.2.2+400:=by
 unfold doAct
 split
 ·rename_i ha
  have hk:=ha.2
  unfold actN
  split
  ·refine ⟨S+1,k,i.send p q r s,by omega,?_⟩
   show (chipSend a p q r s).1.2.2.2.2.2.2.2≤_
   unfold chipSend
   split
   ·show a.1.2.2.2.2.2.2.2≤_;omega
   ·omega
  ·split
   ·show ∃S' k',Scn (chipRun a p) S' k'∧_∧(chipRun a p).1.2.2.2.2.2.2.2≤_
    unfold chipRun
    rw [if_pos i.good.1]
    unfold runNet
    split
    ·rename_i g
     have g1:=g.2.1
     have g2:=g.2.2
     unfold inR at g1
     refine ⟨S,k,i.run (by omega),by omega,?_⟩
     show (runN a.1 p.toNat).2.2.2.2.2.2.2≤_
     rw [Uz];omega
    ·exact ⟨S,k,⟨i.good,i.len,i.aA,i.aB,i.hop,i.ph⟩,by omega,by show a.1.2.2.2.2.2.2.2≤_;omega⟩
   ·split
    ·show ∃S' k',Scn (idled a.1,a.2) S' k'∧_∧(idled a.1).2.2.2.2.2.2.2≤_
     unfold idled
     split
     ·rcases Ss a.1 with e|⟨e0,e1,e2⟩
      ·omega
      ·have:=e2.2.2
       refine ⟨S,k,i.run (by omega),by omega,?_⟩
       rw [Uz];omega
     ·exact ⟨S,k,i,by omega,by omega⟩
    ·split
     ·obtain ⟨k',j1,j2,j3⟩:=i.brk p
      exact ⟨S,k',j1,by omega,by show (V.brk a.1 p).2.2.2.2.2.2.2≤_;omega⟩
     ·rename_i n1 n2 n3 n4
      exfalso
      unfold actOk at hk
      rw [if_neg n1,if_neg n2,if_neg n3,if_neg n4] at hk
      exact h5 hk.1
 ·exact ⟨S,k,i,by omega,by show a.1.2.2.2.2.2.2.2≤_;omega⟩
theorem Scn.acts {a:ChipD} {S k:Nat} (i:Scn a S k):∀(l:List PkD),(∀c∈l,c.1≠5)→∃S' k',Scn (l.foldl actF (a,[])).1 S' k'∧S'+k'≤S+k+l.length∧(l.foldl actF (a,[])).1.1.2.2.2.2.2.2.2≤a.1.2.2.2.2.2.2.2+400*l.length:=by
 intro l
 induction l generalizing a S k with
 | nil=>exact fun _=>⟨S,k,i,by simp,by simp⟩
 | cons c l ih=>
  intro hl
  obtain ⟨S1,k1,j1,j2,j3⟩:=i.act c.1 c.2.1 c.2.2.1 c.2.2.2.1 c.2.2.2.2 (hl c (by simp))
  obtain ⟨S2,k2,m1,m2,m3⟩:=ih j1 fun d hd=>hl d (List.mem_cons_of_mem _ hd)
  rw [List.foldl_cons]
  have e:actF (a,[]) c=((doAct a c.1 c.2.1 c.2.2.1 c.2.2.2.1 c.2.2.2.2).1,[]++[(doAct a c.1 c.2.1 c.2.2.1 c.2.2.2.1 c.2.2.2.2).2]):=rfl
  rw [e,A9]
  refine ⟨S2,k2,m1,by simp only [List.length_cons];omega,?_⟩
  simp only [List.length_cons]
  show (l.foldl actF ((doAct a c.1 c.2.1 c.2.2.1 c.2.2.2.1 c.2.2.2.2).1,[])).1.1.2.2.2.2.2.2.2≤_
  omega
theorem ki {S k:Nat} (h:S+k≤8):5*(hbOf k+2)*S<400:=by
 have:S≤8-k:=by omega
 refine Nat.lt_of_le_of_lt (Nat.mul_le_mul_left _ this) ?_
 rcases (show k=0∨k=1∨k=2∨k=3∨k=4∨k=5∨k=6∨k=7∨k=8 by omega) with rfl|rfl|rfl|rfl|rfl|rfl|rfl|rfl|rfl<;>decide
theorem Scn.idle400 {a:ChipD} {S k:Nat} (i:Scn a S k) (h:S+k≤8) (ht:a.1.2.2.2.2.2.2.2+400≤1000000):idle (runN a.1 400):=by
 have hn:=i.good.1.1
 have tk:tabsOk (stat a.1):=Xk (x:=stat a.1) hn.1
 obtain ⟨ρ,rk⟩:=Ie (x:=stat a.1) tk i.aA i.aB
 rcases Gu hn (Zf i.good.1.2.2.1) i.good.2 rk 400 (by omega) with h1|h1
 ·exact h1
 ·have:=i.ph;have:=ki h;omega
theorem Scn.drain {a:ChipD} {S k:Nat} (i:Scn a S k) (h:S+k≤8) (ht:a.1.2.2.2.2.2.2.2+400≤1000000):idle (doAct a 3 0 0 0 0).1.1∧Scn (doAct a 3 0 0 0 0).1 S k∧delivered (doAct a 3 0 0 0 0).1=(doAct a 3 0 0 0 0).1.2.length:=by
 have h400:=i.idle400 h ht
 have hr:runs a.1 400:=⟨i.good.1.1,⟨by omega,by omega⟩,by omega⟩
 have ha:V.acts a 3 0 0 0 0:=⟨i.good.1,by unfold actOk;simp⟩
 have e:(doAct a 3 0 0 0 0).1=(idled a.1,a.2):=by
  unfold doAct;rw [if_pos ha];rfl
 rw [e]
 have hi:0≤idleAt a.1∧idle (runN a.1 (idleAt a.1).toNat)∧idleAt a.1≤400:=by
  unfold idleAt
  rw [if_pos hr]
  cases hf:(List.range 401).find? fun j=>decide (V.idle (runN a.1 j)) with
  | none=>
   have:=List.find?_eq_none.1 hf 400 (List.mem_range.2 (by omega))
   simp [h400] at this
  | some j=>
   have h1:=List.find?_some hf
   have h2:=List.mem_range.1 (List.mem_of_find?_eq_some hf)
   simp only [decide_eq_true_eq] at h1
   refine ⟨by simp,?_,by simp;omega⟩
   simpa using h1
 have e2:idled a.1=runN a.1 (idleAt a.1).toNat:=by unfold idled;rw [if_pos hi.1]
 rw [e2]
 have j:=i.run (n:=(idleAt a.1).toNat) (by omega)
 refine ⟨hi.2.1,j,?_⟩
 rw [Jn j.good]
 show (a.2.length:Int)-(lacks (runN a.1 (idleAt a.1).toNat) a.2).length=_
 rw [D6 j.good.1.1 hi.2.1 (Zf j.good.1.2.2.1) j.good.2]
 simp
theorem Scn.safe {a:ChipD} {S k:Nat} (i:Scn a S k):classesOk a.1.1.1 a.1.1.2.1 a.1.1.2.2 a.1.2.1.1 a.1.2.1.2∧dOk (classDeps a.1.1.1 a.1.1.2.1 a.1.1.2.2 a.1.2.1.1 a.1.2.1.2)∧orderOk (prs (classDeps a.1.1.1 a.1.1.2.1 a.1.1.2.2 a.1.2.1.1 a.1.2.1.2)):=
 ⟨i.good.1.1.1,Cy i.good.1.1.1 i.aA i.aB⟩
theorem Scn.new {w h:Int} (g:okG w h):Scn (chipNew w h) 0 0∧(chipNew w h).1.2.2.2.2.2.2.2=0:=by
 have c:=wt g
 have hcn:=Qf w h
 obtain ⟨N,hN⟩:∃N:Nat,cnt w h=N:=⟨(cnt w h).toNat,by omega⟩
 have e1:(chipNew w h).1.1=(w,h,[]):=c.sp.1
 have e2:(chipNew w h).1.2.1=splitT w h:=c.sp.2
 refine ⟨⟨c.good,by rw [e1];rfl,?_,?_,fun s t cc hs ht hc=>?_,?_⟩,?_⟩
 ·rw [e1,e2];unfold splitT;rw [if_pos g];exact F5 (w:=w) (h:=h) (r:=1) (n:=(cnt w h).toNat) ⟨by omega,by omega⟩ g (by omega)
 ·rw [e1,e2];unfold splitT;rw [if_pos g];exact F5 (w:=w) (h:=h) (r:=2) (n:=(cnt w h).toNat) ⟨by omega,by omega⟩ g (by omega)
 ·exact qg (x:=stat (chipNew w h).1) g ⟨e1,e2⟩ (Xk (x:=stat (chipNew w h).1) c.good.1.1.1) hs ht hc
 ·have:=c.ph
  have e:(chipNew w h).2=[]:=by unfold chipNew;split<;>rfl
  rw [e] at this
  simpa using this
 ·unfold chipNew;rw [if_pos g]
  unfold netNew;rw [if_pos (Zv g)]
end Go.Proofs.YtaldglgobgjeaaaGreat.V
set_option linter.all false
namespace Go.Proofs.YtaldglgobgjeaaaGreat.V
open Go Go.VM Go.Proofs
set_option maxRecDepth 10000
variable {frz:Nat} {H:Heap}
theorem vg {v:NetV} {x:NetD} (o:dNet.Ow H v x) (hn:netOk x) (hb:x.1.2.2.length≤64) (hs:dOk (classDeps x.1.1 x.1.2.1 x.1.2.2 x.2.1.1 x.2.1.2)∧orderOk (prs (classDeps x.1.1 x.1.2.1 x.1.2.2 x.2.1.1 x.2.1.2))) :
 vcall C frz 14 [dNet.val v x] H=some (.bool true,H):=by
 have nk:=fun F L=>Vx (frz:=F) (H:=H++L) (v:=v) (x:=x) (Dt.app (T:=dNet) o)
 have ones:=Qn o
 have hc:=hn.1
 obtain ⟨u2,⟨u3,u4⟩,⟨u5,h5⟩,u6,u7,⟨u8,h8⟩,⟨u9,h9⟩,_⟩:=v
 obtain ⟨⟨w,h,b⟩,⟨A,B⟩,buf,own,turn,src,arr,tm⟩:=x
 obtain ⟨o2,o3,o5,o6,o7,o8,o9,_⟩:=o
 simp only at o2 o3 o5 o6 o7 o8 o9 ones hb hs hc
 rw [Qk]
 simp only [Qk] at nk
 refine wp.exact (by simp) ?_ rfl
 rw [Qb (fn:=Tryz.f14) Tryz.func14 rfl (by kernel_rfl) rfl]
 have i2:IsI H u2 b:=o2.1.rd.isI
 have i3:IsI H u3 A:=o3.1.1.rd.isI
 have i4:IsI H u4 B:=o3.2.1.rd.isI
 have cc:=fun F L=>Oy (frz:=F) w h u2 u3 u4 b A B (i2.app L) (i3.app L) (i4.app L) (by omega) hc hs
 simp [ones,nk,hn]
 refine Qd (cc _ _) ?_
 rintro _ H2 ⟨z,y,rk,cy,rfl,rz,ry,c2,nz,ny⟩
 simp
end Go.Proofs.YtaldglgobgjeaaaGreat.V
set_option linter.all false
namespace Go.Proofs.YtaldglgobgjeaaaGreat.V
open Go Go.VM Go.Proofs
set_option maxRecDepth 10000
variable {frz:Nat} {H:Heap} {r:Nat} {vb:Value} {code:List Int}
theorem Cur.chg0 {J K:Heap} (c:Cur J r vb code) (h:Chg J K []):Cur K r vb code:=c.chg h (by simp) (by simp)
end Go.Proofs.YtaldglgobgjeaaaGreat.V
set_option linter.all false
namespace Go.Proofs.YtaldglgobgjeaaaGreat.V
open Go Go.VM Go.Proofs
set_option maxRecDepth 10000
variable {frz:Nat} {H:Heap}
def noRule (l:List PkD):List PkD:=l.filter fun c=>decide (c.1≠5)
theorem Iy (l:List PkD) (i:Nat) (h:i<l.length):noRule (l.take (i+1))=noRule (l.take i)++(if l[i].1=5 then [] else [l[i]]):=by
 unfold noRule
 rw [List.take_succ_eq_append_getElem h,List.filter_append]
 congr 1
 by_cases e:l[i].1=5<;>simp [e]
theorem law_FnDrained_w {a0:List Int} {u0:Value} (s0:IsS (Kn.int .u8) H u0 a0)
 (w0:a0.length≤maxLen∧∀x1∈a0,(Lit.int .u8 x1).wf=true) :
 wp (vcall C frz 4 [u0] H) (fun r _=>r=.bool true):=by
 have r0:=At s0
 rw [Qb (fn:=Tryz.f4) Tryz.func4 rfl (by kernel_rfl) rfl]
 simp [Qgw _ _ r0]
 refine Qc ?_ ?_<;>intro g0
 ·simp
 simp
 refine Qd (E4 u0 a0 r0 (by omega)) ?_
 rintro _ H1 ⟨w,h,v,lv,l,rfl,hg,ov,mv,nv,ol,hl,ml,c1⟩
 have h9:=Qap hg 1048576
 obtain ⟨a,ha⟩:∃a,a=chipNew w h:=⟨_,rfl⟩
 rw [← ha] at ov h9
 have one:=Qy ov
 have o1:=one.1
 have o2:=one.2
 have onl:VM.one lv=true∧lv.cells=#[lv]:=⟨ol.1.rd.one',ol.1.rd.cells⟩
 have hF1:=c1.1
 obtain ⟨H2,hH2⟩:∃H2,H2=H1++[⟨chipCells v a,0,51⟩,⟨[],0,56⟩]:=⟨_,rfl⟩
 have c12:Chg H1 H2 []:=by rw [hH2];exact Chg.app _
 have l2:H2.length=H1.length+2:=by rw [hH2];simp
 have b2:H2[H1.length]? = some ⟨chipCells v a,0,51⟩:=by rw [hH2];simp
 have oz:Ow pkF 56 H2 (.slice (some ⟨H1.length+1,0,some 0⟩) 0 0) []:=by rw [hH2];exact Ow.new (k:=1) rfl rfl rfl rfl
 have ov2:=Dt.chg (T:=dChip) ov c12 (by simp)
 have ol2:=Dt.chg (T:=dAct) ol c12 (by simp)
 have hHs:=hH2.symm
 unfold chipCells netCells at hHs
 simp only [List.cons_append,List.nil_append] at hHs
 simp [Qo,← ha,o1,o2,onl,hF1]
 rw [hHs]
 clear hH2 hHs
 refine Ip (F:=?FA) (k:=?kA) (o:=?oA) (Q:=?QA) (fun t H'=>∃u:Value,t 3=.pointer (some ⟨H1.length,0,some 0⟩)∧t 5=u∧Ow pkF 56 H' u (noRule l)∧Chg H2 H' [H1.length+1]∧∀j∈ids u,H1.length+1≤j) ?main ?rest
 case main=>
  intro rest
  refine Qh (fun n t H'=>∃(i:Nat) (u:Value),n=l.length-i∧i≤l.length∧t 3=.pointer (some ⟨H1.length,0,some 0⟩)∧t 4=lv∧t 5=u∧t 6=.int .i64 i∧Ow pkF 56 H' u (noRule (l.take i))∧Chg H2 H' [H1.length+1]∧∀j∈ids u,H1.length+1≤j) ?_ (n:=l.length)
   ⟨0,.slice (some ⟨H1.length+1,0,some 0⟩) 0 0,rfl,by omega,by simp,by simp,by simp,by simp,by simpa [noRule] using oz,Chg.refl _,by simp⟩
  rintro n t H' ⟨i,u,rfl,hi,t3,t4,t5,t6,o,ch,nu⟩ ih
  have ol':=Dt.chg (T:=dAct) ol2 ch (fun j hj hh=>by have:=ol.1.rd.lt j hj;simp at hh;omega)
  have la:=ol'.1.rd.len (P:=Tryz.prog) (ty:=52) (by simp)
  simp [t3,t4,t5,t6,la]
  refine Qc ?_ ?_<;>intro hlt
  ·have q1:=ol'.1.rd.idx (P:=Tryz.prog) (ty:=52) (e:=56) (by simp) (i:=(i:Int)) (by omega) (by omega)
   have q2:=ol'.1.rd.field (P:=Tryz.prog) (s:=56) (f:=0) (o:=0) (n:=1) (ag:=false) (by simp) (j:=i*5) (by omega)
   have q3:=ol'.1.rd.cell (P:=Tryz.prog) (e:=3) (by simp) (show i<l.length by omega) (c:=0) (by decide)
   have q4:=ol'.1.rd.load (P:=Tryz.prog) (e:=56) (by simp) (show i<l.length by omega)
   simp only [Int.toNat_natCast,N6,Nat.add_zero] at q1 q2 q3 q4
   obtain ⟨c,hc⟩:∃c,c=l[i]'(by omega):=⟨_,rfl⟩
   have sn:=Iy l i (by omega)
   rw [← hc] at q3 q4 sn
   have q3':vload Tryz.prog H' 3 (elp lv (i*5))=some (.int .i64 c.1):=q3
   have w1:∀[Inhabited Unit],IntKind.i64.wrap ((i:Int)+1)=((i+1:Nat):Int):=by intro _;rw [w64 (by omega) (by omega)];omega
   have l2':=ch.1
   simp [-vfieldAddr,t3,t4,t5,t6,q1,q2,q3']
   have hnl:(noRule (l.take i)).length≤i:=by
    have:(noRule (l.take i)).length≤(l.take i).length:=List.length_filter_le _ _
    simp at this;omega
   refine Qc ?_ ?_<;>intro g1
   ·rw [if_pos g1,List.append_nil] at sn
    simp [t3,t4,t5,t6,w1]
    refine ih (l.length-(i+1)) _ _ ⟨i+1,u,rfl,by omega,by simp [t3],by simp [t4],by simp [t5],by simp,by rw [sn];exact o,ch,nu⟩ (by omega)
   ·rw [if_neg g1] at sn
    obtain ⟨u',H4,hap,o4,c4,n4⟩:=o.push (P:=Tryz.prog) (frz:=H.length) (ty:=52) (a:=c) (by simp) rfl (by omega) (fun j hj=>by have:=nu j hj;omega)
    obtain ⟨c1,c2,c3,c4',c5⟩:=c
    simp only [Zg] at hap q4
    simp [-Qp,-Qx,t3,t4,t5,t6,q1,q4,hap,w1]
    refine ih (l.length-(i+1)) _ _ ⟨i+1,u',rfl,by omega,by simp [t3],by simp [t4],by simp,by simp,by rw [sn];exact o4,ch.trans' c4 (fun j hj=>?_),fun j hj=>?_⟩ (by omega)
    ·have:=nu j hj
     by_cases e:j=H1.length+1
     ·left;simp [e]
     ·right;omega
    ·rcases n4 j hj with q|q
     ·exact nu j q
     ·omega
  ·simp [-U5,t3,t4,t5,t6]
   refine rest _ _ ?_
   have e:i=l.length:=by omega
   subst e
   rw [List.take_length] at o
   exact ⟨u,by simp [t3],by simp [t5],o,ch,nu⟩
 case rest=>
  rintro t H3 ⟨u,t3,t5,o,c3,nu⟩
  have l3:=c3.1
  have nv1:∀j∈dChip.ids v,j<H1.length:=fun j hj=>dChip.lt ov j hj
  have b3:=Qa b2 c3 (by simp)
  have ov3:=Dt.chg (T:=dChip) ov2 c3 (fun j hj hh=>by have:=nv1 j hj;simp at hh;omega)
  have lv3:=W2 ov3
  obtain ⟨K,hK⟩:∃K,K=H3++[⟨zChip,0,51⟩]:=⟨_,rfl⟩
  have cK:Chg H3 K []:=by rw [hK];exact Chg.app _
  have b4:=Qa b3 cK (by simp)
  have bz:K[H3.length]? = some ⟨zChip,0,51⟩:=by rw [hK];simp
  have ov4:=Dt.chg (T:=dChip) ov3 cK (by simp)
  have lv4:=W2 ov4
  have oK:=o.chg cK (by simp)
  have hnl:(noRule l).length≤8:=by
   have:(noRule l).length≤l.length:=List.length_filter_le _ _
   omega
  obtain ⟨u',H5,hap,o5,c5,n5⟩:=oK.push (P:=Tryz.prog) (frz:=H.length) (ty:=52) (a:=((3,0,0,0,0):PkD)) (by simp) rfl (by omega) (fun j hj=>by have:=nu j hj;omega)
  have hKs:=hK.symm
  have hF3:H.length≤H3.length:=by omega
  have lKK:K.length=H3.length+1:=by rw [hK];simp
  have b4':=b4
  have b3':=b3
  unfold zChip at hKs bz
  unfold chipCells netCells at b4' b3'
  simp only [List.cons_append,List.nil_append] at b4' b3'
  simp only [Zg] at hap
  simp
  rw [gi (fl:=([0,3],[10])) (pl:=[0,1,2,9,3,4,5,6,7,8,10,11]) (h:=⟨by kernel_rfl,by kernel_rfl,by kernel_rfl,by kernel_rfl,by kernel_rfl,by kernel_rfl⟩)]
  obtain ⟨z,hz⟩:∃z:Row,z=⟨[.int .i64 0,.int .i64 0,.slice none 0 0,.slice none 0 0,.slice none 0 0,.slice none 0 0,.slice none 0 0,.slice none 0 0,.slice none 0 0,.slice none 0 0,.int .i64 0,.slice none 0 0],0,51⟩:=⟨_,rfl⟩
  obtain ⟨y,hy⟩:∃y:Row,y=⟨[.int .i64 3,.int .i64 0,.int .i64 0,.int .i64 0,.int .i64 0],0,56⟩:=⟨_,rfl⟩
  have b3a:=Ql b3' [z]
  have b3b:=Ql b3' [z,y]
  have lv3a:=W2 (Dt.app (T:=dChip) (L:=[z]) ov3)
  have lv3b:=W2 (Dt.app (T:=dChip) (L:=[z,y]) ov3)
  rw [← hz] at hKs
  rw [← hy,← hKs,List.append_assoc,List.length_append,List.singleton_append,List.length_singleton] at hap
  have lo:VM.live H3 u:=W5 o
  simp [permA,renO,emps,empOp,empB,-Qp,-Qx,t3,t5,VM.look,b3',lv3,← hz,← hy,b3a,b3b,lv3a,lv3b,hap,hF3]
  have nu3:∀j∈ids u,j<H3.length:=fun j hj=>o.lt j hj
  have bz5:H5[H3.length]? = some z:=by
   refine Qa ?_ c5 (fun hh=>by have:=nu3 _ hh;omega)
   rw [← hKs];simp
  have b5:=Qa b4 c5 (fun hh=>by have:=nu _ hh;omega)
  have ov5:=Dt.chg (T:=dChip) ov4 c5 (fun j hj hh=>by have:=nv1 j hj;have:=nu _ hh;omega)
  have lv5:=W2 ov5
  have b5':=b5
  unfold chipCells netCells at b5'
  simp only [List.cons_append,List.nil_append] at b5'
  refine jm ⟨bz5,by simp [b5'],lv5⟩ ?_
  obtain ⟨L,hL⟩:∃L,L=noRule l++[((3,0,0,0,0):PkD)]:=⟨_,rfl⟩
  rw [← hL] at o5
  have hLl:L.length≤9:=by rw [hL];simp;omega
  have oL:dAct.Ow H5 u' L:=⟨o5,by omega⟩
  have rn:=yb (frz:=H.length) ov5 oL h9
  simp only [Qo] at rn
  refine Jb rn ?_
  rintro _ H6 ⟨vc,vi,rfl,oc,oi,c6,mc,nc,mi,ni,xc⟩
  obtain ⟨yy,hyy⟩:∃yy,yy=runActs a L:=⟨_,rfl⟩
  rw [← hyy] at oc oi
  have bz6:=Qa bz5 c6 (by simp)
  have b6:=Qa b5' c6 (by simp)
  have ov6:=Dt.chg (T:=dChip) ov5 c6 (by simp)
  have lv6:=W2 ov6
  refine ⟨by simp [VM.look,bz6,b6,lv6],?_⟩
  have onec:=Qy oc
  have q1:=onec.1
  have q2:=onec.2
  have oni:VM.one vi=true∧vi.cells=#[vi]:=⟨oi.1.rd.one',oi.1.rd.cells⟩
  have bz6':=bz6
  rw [hz] at bz6'
  simp [permA,renO,emps,empOp,empB,-Qp,-Qx,Qo,← hyy,q1,q2,oni,t3,t5,VM.look,bz6',hF3]
  have l6:=c6.1
  have nvc:∀j∈dChip.ids vc,H3.length<j:=fun j hj=>by have:=mc j hj;have:=c5.1;omega
  obtain ⟨H7,hH7⟩:∃H7,H7=H6.set H3.length ⟨chipCells vc yy.1,0,51⟩:=⟨_,rfl⟩
  have c7:Chg H6 H7 [H3.length]:=by rw [hH7];exact Qg _ _
  have b7:H7[H3.length]? = some ⟨chipCells vc yy.1,0,51⟩:=by rw [hH7];exact Qi bz6
  have oc7:=Dt.chg (T:=dChip) oc c7 (fun j hj hh=>by have:=nvc j hj;simp at hh;omega)
  have hHs7:=hH7.symm
  have b7':=b7
  unfold chipCells netCells at hHs7 b7'
  simp only [List.cons_append,List.nil_append] at hHs7 b7'
  rw [hHs7]
  clear hH7 hHs7
  -- what the acts bring about
  obtain ⟨sn,tm⟩:=Scn.new hg
  rw [← ha] at sn tm
  have can:canAct a L:=⟨sn.good.1,by omega⟩
  obtain ⟨S,k,j1,j2,j3⟩:=sn.acts (noRule l) (fun c hc=>by simpa [noRule] using (List.mem_filter.1 hc).2)
  obtain ⟨A,hA⟩:∃A,A=(noRule l).foldl actF (a,[]):=⟨_,rfl⟩
  rw [← hA] at j1 j3
  have hy1:yy.1=(doAct A.1 3 0 0 0 0).1:=by
   rw [hyy,runActs,if_pos can,hL,List.foldl_append,← hA];rfl
  obtain ⟨k1,k2,k3⟩:=j1.drain (by omega) (by omega)
  rw [← hy1] at k1 k2 k3
  have ck:=fun F=>Z2 (frz:=F) oc7
  have dl:=fun F=>Gl (frz:=F) oc7
  have hok:=k2.good.1
  have idl:=fun F=>Oj (frz:=F) oc7.1
  have hio:idleOk yy.1.1:=⟨hok.1,k1⟩
  have hbl:yy.1.1.1.2.2.length≤64:=by have:=Bz hok.1.1.1.1.1;omega
  have sf:=fun F=>vg (frz:=F) oc7.1 hok.1 hbl k2.safe.2
  have lp:=oc7.2.1.rd.len (P:=Tryz.prog) (ty:=33) (by simp)
  simp only [Qo,Qk] at ck dl idl sf
  rw [Qe (h:=by kernel_rfl)]
  simp [VM.look,b7',q1,q2,ck,hok,idl,hio,dl,k3,lp,sf]
theorem law_FnDrained {a0:List Int} {u0:Value} (s0:IsS (Kn.int .u8) H u0 a0)
 (w0:a0.length≤maxLen∧∀x1∈a0,(Lit.int .u8 x1).wf=true) :
 vcall C frz 4 [u0] H=some (.bool true,H):=(law_FnDrained_w s0 w0).exact (by simp) rfl
end Go.Proofs.YtaldglgobgjeaaaGreat.V
