/- Texts of a proof, joined. -/
import Derived.Test.YtaldglgobgjeaaaGreatKM0
import Derived.Test.YtaldglgobgjeaaaGreatKM1
import Derived.Test.YtaldglgobgjeaaaGreatKFnDrained0
import Derived.Test.YtaldglgobgjeaaaGreatKFnDrained1
set_option linter.all false
namespace Go.Proofs.YtaldglgobgjeaaaGreat.V
open Go Go.VM Go.Proofs
set_option maxRecDepth 10000
variable {frz:Nat} {H:Heap}
theorem ql (x:NetD) (n:Nat):(allTo x n).length≤5*n:=(Zr x n).2.2
noncomputable def enterTo (x:NetD) (n:Nat):List Nat:=(List.range n).filter fun k=>entersN x k
theorem Kr (x:NetD) (n:Nat):enterTo x (n+1)=if entersN x n then enterTo x n++[n] else enterTo x n:=by
 unfold enterTo;rw [List.range_succ,List.filter_append]
 by_cases h:entersN x n<;>simp [h]
theorem F9 (x:NetD) (n:Nat):(enterTo x n).length≤n:=by
 have:=List.length_filter_le (fun k=>decide (entersN x k)) (List.range n)
 rw [List.length_range] at this;exact this
theorem Gt {v:NetV} {x:NetD} {id:Nat} {e:TypeId} {tail:List Value} (hr:H[id]? = some ⟨netCells v x++tail,0,e⟩) (o:dNet.Ow H v x) (hx:runOk x) :
 wp (vcall C frz 98 [.pointer (some ⟨id,0,some 0⟩)] H) (fun r H'=>Ow grF 149 H' r (allN x)∧(∀i∈ids r,H.length≤i)∧Chg H H' []):=by
 have ones:=Qn o
 obtain ⟨N,hN⟩:∃N:Nat,cnt x.1.1 x.1.2.1=N:=⟨(cnt x.1.1 x.1.2.1).toNat,by have:=Qf x.1.1 x.1.2.1;omega⟩
 have hN2:N≤16:=by have:=Qf x.1.1 x.1.2.1;omega
 have hall:allN x=allTo x N:=by unfold allN;rw [hN,Int.toNat_natCast]
 have hidl:=Qs hr
 rw [Qb (fn:=Tryz.f98) Tryz.func98 rfl (by kernel_rfl) rfl]
 have hr':=hr
 unfold netCells at hr'
 simp only [List.cons_append,List.nil_append] at hr'
 have rd:=(RdL.app (L:=[⟨[],0,149⟩]) o.2.2.2.2.2.1.1.rd)
 have ll:=rd.1.len (P:=Tryz.prog) (ty:=36) (by simp)
 rw [rd.2.1] at ll
 have hsl:x.2.2.2.2.2.1.length=N:=by have:=hx.2.1.2.2.2.1;omega
 rw [hsl] at ll
 rw [hall]
 simp [VM.look,VM.vnil,hr',Ql hr',ones,ll]
 refine Qh (fun n t H'=>∃(i:Nat) (r:Value),n=N-i∧i≤N∧t 0=.pointer (some ⟨id,0,some 0⟩)∧t 3=r∧t 10=.int .i64 N∧t 11=.int .i64 i∧Chg H H' []∧Ow grF 149 H' r (allTo x i)∧(∀j∈ids r,H.length≤j)) ?_ (n:=N)
  ⟨0,.slice (some ⟨H.length,0,some 0⟩) 0 0,rfl,by omega,by simp,by simp,by simp,by simp,Chg.app _,Ow.new0 (D:=grF) (xs:=[]) rfl rfl rfl rfl,by simp⟩
 rintro n t H' ⟨i,r,rfl,hi,t0,t3,t10,t11,ch,oo,nr⟩ ih
 simp [t0,t3,t10,t11]
 refine Qc ?_ ?_<;>intro g
 ·have hi':i<N:=by omega
  have r1:=Qa hr ch (by simp)
  have o1:=Dt.chg (T:=dNet) o ch (by simp)
  simp [t0,t3,t10,t11]
  refine Qd (yv r1 o1 hx (a:=i) (by omega)) ?_
  rintro L H1 ⟨oL,nL,cL⟩
  have l1:=ch.1
  have l2:=cL.1
  have al:=ql x i
  have gl:=Qbi x i
  obtain ⟨r',H2,hap,o2,c2,n2⟩:=(oo.chg cL (by simp)).append (P:=Tryz.prog) (frz:=H.length) (ty:=145) oL.rd (by simp) (gm _) (by omega) nr
  have asu:=Tk x i
  simp [-Qp,-Qx,t0,t3,t10,t11,hap]
  refine ih (N-(i+1)) _ _ ⟨i+1,r',rfl,by omega,by simp [t0],by simp,by simp [t10],?_,(ch.trans cL).trans' c2 (fun j hj=>.inr (nr j hj)),by rw [asu];exact o2,fun j hj=>?_⟩ (by omega)
  ·simp [t11];rw [w64 (by omega) (by omega)]
  ·rcases n2 j hj with h1|h1
   ·exact nr j h1
   ·omega
 ·have:i=N:=by omega
  subst this
  simp [t0,t3,t10,t11]
  exact ⟨oo,nr,ch⟩
theorem Cm {v:NetV} {x:NetD} {id:Nat} {e:TypeId} {tail:List Value} (hr:H[id]? = some ⟨netCells v x++tail,0,e⟩) (o:dNet.Ow H v x) (hx:runOk x) :
 wp (vcall C frz 99 [.pointer (some ⟨id,0,some 0⟩)] H) (fun r H'=>Ow Fl.int 3 H' r ((enterN x).map Int.ofNat)∧(∀i∈ids r,H.length≤i)∧Chg H H' []):=by
 have ones:=Qn o
 obtain ⟨N,hN⟩:∃N:Nat,cnt x.1.1 x.1.2.1=N:=⟨(cnt x.1.1 x.1.2.1).toNat,by have:=Qf x.1.1 x.1.2.1;omega⟩
 have hN2:N≤16:=by have:=Qf x.1.1 x.1.2.1;omega
 have hall:enterN x=enterTo x N:=by unfold enterN enterTo;rw [hN,Int.toNat_natCast]
 have hidl:=Qs hr
 rw [Qb (fn:=Tryz.f99) Tryz.func99 rfl (by kernel_rfl) rfl]
 unfold netCells at hr
 simp only [List.cons_append,List.nil_append] at hr
 have rd:=(RdL.app (L:=[⟨[],0,3⟩]) o.2.2.2.2.2.1.1.rd)
 have ll:=rd.1.len (P:=Tryz.prog) (ty:=36) (by simp)
 rw [rd.2.1] at ll
 have hsl:x.2.2.2.2.2.1.length=N:=by have:=hx.2.1.2.2.2.1;omega
 have hbl:x.2.2.1.length=10*N:=by have:=hx.2.1.1;omega
 rw [hsl] at ll
 rw [hall]
 simp [VM.look,VM.vnil,hr,Ql hr,ones,ll]
 refine Qh (fun n t H'=>∃(i:Nat) (r:Value),n=N-i∧i≤N∧t 0=.pointer (some ⟨id,0,some 0⟩)∧t 3=r∧t 10=v.2.2.2.2.2.1.1∧t 11=.int .i64 N∧t 12=.int .i64 i∧Chg H H' []∧Ow Fl.int 3 H' r ((enterTo x i).map Int.ofNat)∧(∀j∈ids r,H.length≤j)) ?_ (n:=N)
  ⟨0,.slice (some ⟨H.length,0,some 0⟩) 0 0,rfl,by omega,by simp,by simp,by simp,by simp,by simp,Chg.app _,Ow.new0 (D:=Fl.int) (xs:=[]) rfl rfl rfl rfl,by simp⟩
 rintro n t H' ⟨i,r,rfl,hi,t0,t3,t10,t11,t12,ch,oo,nr⟩ ih
 simp [t0,t3,t10,t11,t12]
 refine Qc ?_ ?_<;>intro g
 rotate_left
 ·have:i=N:=by omega
  subst this
  simp [t0,t3,t10,t11,t12]
  exact ⟨oo,nr,ch⟩
 have hi':i<N:=by omega
 have r1:=Qa hr ch (by simp)
 have o1:=Dt.chg (T:=dNet) o ch (by simp)
 have his:i<x.2.2.2.2.2.1.length:=by omega
 obtain ⟨u,a1,a2,a3,a4⟩:=Xx o1.2.2.2.2.2.1.1.rd (ty:=36) (e:=109) (by simp) (by simp) his
 have la:=a4.len (P:=Tryz.prog) (ty:=109) (by simp)
 have qa:VM.one u=true∧u.cells=#[u]:=⟨a4.one',a4.cells⟩
 have hgd:x.2.2.2.2.2.1.getD i []=x.2.2.2.2.2.1[i]:=by simp [List.getD_eq_getElem?_getD,his]
 have hes:=Kr x i
 have hel:=F9 x i
 simp [t0,t3,t10,t11,t12,a2,a3]
 rw [Qe (h:=by kernel_rfl)]
 by_cases g0:x.2.2.2.2.2.1[i]=[]
 ·have hne:¬entersN x i:=fun k=>k.1 (by rw [hgd];exact g0)
  rw [if_neg hne] at hes
  rw [g0] at la
  simp [t0,t3,t10,t11,t12,la]
  refine ih (N-(i+1)) _ _ ⟨i+1,r,rfl,by omega,by simp [t0],by simp [t3],by simp [t10],by simp [t11],?_,ch,by rw [hes];exact oo,nr⟩ (by omega)
  simp [t12];rw [w64 (by omega) (by omega)]
 have g0':0<x.2.2.2.2.2.1[i].length:=List.length_pos_iff.2 g0
 obtain ⟨z0,f1,f2,f3,c1,c2,c3,_⟩:=front a4 g0
 obtain ⟨en1,en2,en3⟩:=Re hx (k:=i) (by rw [hgd];exact g0)
 have hsh:srcHead x i=headL x.2.2.2.2.2.1[i]:=by unfold srcHead;rw [hgd]
 have hcl:=en1.2
 rw [hsh] at en2 hcl
 generalize headL x.2.2.2.2.2.1[i]=f at *
 have bA:∀F,vcall C F 101 [.int .i64 (i:Int),.int .i64 4,.int .i64 f.2.2.1] H'=some (.int .i64 (entAt x i:Int),H'):=fun F=>by
  rw [Ul,if_pos ⟨⟨by omega,by omega⟩,⟨by omega,by omega⟩,hcl⟩,en2];congr 3
 have key:entersN x i↔(x.2.2.1.getD (entAt x i) []).length<3:=⟨fun k=>k.2,fun k=>⟨by rw [hgd];exact g0,k⟩⟩
 have hzl:entAt x i<x.2.2.1.length:=by unfold inR at hcl;omega
 generalize entAt x i=z at *
 obtain ⟨u',b1,b2,b3,b4⟩:=Xx o1.2.2.1.1.rd (ty:=36) (e:=109) (by simp) (by simp) hzl
 have lb:=b4.len (P:=Tryz.prog) (ty:=109) (by simp)
 have hgz:x.2.2.1.getD z []=x.2.2.1[z]:=by simp [List.getD_eq_getElem?_getD,hzl]
 have qb:VM.one u'=true∧u'.cells=#[u']:=⟨b4.one',b4.cells⟩
 rw [hgz] at key
 simp [-vfieldAddr,Xh,t0,t3,t10,t11,t12,la,g0',VM.look,VM.vnil,r1,ones,z0,f2,c2,bA,b2,b3,lb]
 refine Qc ?_ ?_<;>intro g1
 ·rw [if_pos (key.2 (by omega))] at hes
  obtain ⟨r',H2,hap,o2,c2',n2⟩:=oo.push (P:=Tryz.prog) (frz:=H.length) (ty:=26) (a:=(i:Int)) (by simp) rfl (by simp;omega) nr
  simp only [Fl.int_f] at hap
  have l0:=ch.1
  simp [t0,t3,t10,t11,t12,hap]
  refine ih (N-(i+1)) _ _ ⟨i+1,r',rfl,by omega,by simp [t0],by simp,by simp [t10],by simp [t11],?_,ch.trans' c2' (fun j hj=>.inr (nr j hj)),?_,fun j hj=>?_⟩ (by omega)
  ·simp [t12];rw [w64 (by omega) (by omega)]
  ·rw [hes,List.map_append];exact o2
  ·rcases n2 j hj with h1|h1
   ·exact nr j h1
   ·omega
 ·rw [if_neg (fun k=>by have:=key.1 k;omega)] at hes
  simp [t0,t3,t10,t11,t12]
  refine ih (N-(i+1)) _ _ ⟨i+1,r,rfl,by omega,by simp [t0],by simp [t3],by simp [t10],by simp [t11],?_,ch,by rw [hes];exact oo,nr⟩ (by omega)
  simp [t12];rw [w64 (by omega) (by omega)]
theorem Eu {s:SSD} {j:Nat} (h:j<s.length) (f:List FlitD→List FlitD):upd s j f=s.set j (f s[j]):=by
 unfold upd;rw [List.getD_eq_getElem?_getD,List.getElem?_eq_getElem h];rfl
structure Put (K K3:Heap) (u u':SSV) (s':SSD):Prop where
 hd:u'.1=u.1
 ow:dSS.Ow K3 u' s'
 nd:(dSS.ids u').Nodup
 ids:∀i∈dSS.ids u',i∈dSS.ids u∨K.length≤i
 chg:Chg K K3 (dSS.ids u)
theorem Sk {K:Heap} {u:SSV} {s:SSD} (o:dSS.Ow K u s) {j:Nat} (hj:j<s.length) :
 ∃a,u.2[j]? = some a∧vindexAddr Tryz.prog K 36 u.1 (.int .i64 (j:Int))=some (elp u.1 j)∧vload Tryz.prog K 109 (elp u.1 j)=some a∧Ow flF 144 K a s[j]∧VM.one a=true∧a.cells=#[a]∧VM.live K u.1:=by
 obtain ⟨a,a1,a2,a3,a4⟩:=Xx o.1.rd (ty:=36) (e:=109) (by simp) (by simp) hj
 have oa:=o.1.2.2 j a s[j] a1 (by simp [hj])
 exact ⟨a,a1,a2,a3,oa,a4.one',a4.cells,W5 o.1.1⟩
theorem Ke {K:Heap} {u:SSV} {s:SSD} {j:Nat} {a:Value} (o:dSS.Ow K u s) (nd:(dSS.ids u).Nodup) (hj:j<s.length) (hb:s[j].length+1≤67108864) (hf:∀i∈dSS.ids u,frz≤i) (ha:u.2[j]? = some a) (y:FlitD) :
 ∃a' K2 K3,vappend Tryz.prog frz (K++[⟨flF.f y,0,144⟩]) 109 109 a (.slice (some ⟨K.length,0,some 0⟩) 1 0)=some (a',K2)∧vindexAddr Tryz.prog K2 36 u.1 (.int .i64 (j:Int))=some (elp u.1 j)∧
  vstore Tryz.prog frz K2 109 a' (elp u.1 j)=some K3∧VM.live K2 u.1∧VM.live K3 u.1∧VM.one a'=true∧a'.cells=#[a']∧Chg K K2 (ids a)∧Put K K3 u (u.1,u.2.set j a') (upd s j (·++[y])):=by
 have hj':j<u.2.length:=by rw [o.1.2.1];exact hj
 have ea:u.2[j]=a:=by rw [List.getElem?_eq_getElem hj'] at ha;exact Option.some.inj ha
 have oa:Ow flF 144 K a s[j]:=o.1.2.2 j a _ ha (by simp [hj])
 have hia:∀i∈ids a,i∈dSS.ids u:=fun i hi=>U6 ha hi
 obtain ⟨a',K2,hap,oa',c2,na'⟩:=oa.push (P:=Tryz.prog) (frz:=frz) (ty:=109) (a:=y) (by simp) rfl (by omega) (fun i hi=>hf i (hia i hi))
 have c2':Chg K K2 (ids u.2[j]):=by rw [ea];exact c2
 obtain ⟨K3,hst,oL,c3,ndL,idL,l3⟩:=Pu (frz:=frz) (et:=109) (ag:=false) o.1 nd hj' c2' oa' (by rw [ea];exact na') (fun i hi=>hf i hi) (by simp)
 have dav:∀i∈ids u.1,i∉ids a:=fun i hi hh=>(List.nodup_append.1 nd).2.2 i hi i (List.mem_flatMap.2 ⟨a,List.mem_of_getElem? ha,hh⟩) rfl
 have ol2:=o.1.1.chg c2 dav
 have hsl:=o.1.2.1
 have ix2:=ol2.rd.idx (P:=Tryz.prog) (ty:=36) (e:=109) (by simp) (i:=(j:Int)) (by omega) (by omega)
 simp only [Int.toNat_natCast,Nat.mul_one,show Fl.val.n=1 from rfl] at ix2
 have hup:=Eu hj (·++[y])
 refine ⟨a',K2,K3,hap,ix2,hst,W5 ol2,W5 oL.1,oa'.rd.one',oa'.rd.cells,c2,rfl,?_,ndL,idL,c3⟩
 rw [hup]
 exact Jt oL o.2.1 o.2.2 (by simp;omega)
theorem Qdk {K:Heap} {u:SSV} {s:SSD} {j:Nat} {a:Value} (o:dSS.Ow K u s) (nd:(dSS.ids u).Nodup) (hj:j<s.length) (hne:s[j]≠[]) (hf:∀i∈dSS.ids u,frz≤i) (hfK:frz≤K.length) (ha:u.2[j]? = some a) :
 ∃z a' K2 K3,vload Tryz.prog (K++[⟨[],0,144⟩]) 109 (elp u.1 j)=some a∧vindexAddr Tryz.prog (K++[⟨[],0,144⟩]) 36 u.1 (.int .i64 (j:Int))=some (elp u.1 j)∧
  vslice Tryz.prog (K++[⟨[],0,144⟩]) 109 (some (.int .i64 1)) none a=some z∧
  vappend Tryz.prog frz (K++[⟨[],0,144⟩]) 109 109 (.slice (some ⟨K.length,0,some 0⟩) 0 0) z=some (a',K2)∧vindexAddr Tryz.prog K2 36 u.1 (.int .i64 (j:Int))=some (elp u.1 j)∧
  vstore Tryz.prog frz K2 109 a' (elp u.1 j)=some K3∧VM.live (K++[⟨[],0,144⟩]) u.1∧VM.live K2 u.1∧VM.live K3 u.1∧VM.one a'=true∧a'.cells=#[a']∧Chg K K2 []∧Put K K3 u (u.1,u.2.set j a') (upd s j (List.drop 1)):=by
 have hj':j<u.2.length:=by rw [o.1.2.1];exact hj
 have ea:u.2[j]=a:=by rw [List.getElem?_eq_getElem hj'] at ha;exact Option.some.inj ha
 have o1:=Dt.app (T:=dSS) (L:=[⟨[],0,144⟩]) o
 obtain ⟨a1,h1,h2,h3,oa,h4,h5,h6⟩:=Sk o1 hj
 have e1:a1=a:=by rw [ha] at h1;exact (Option.some.inj h1).symm
 subst e1
 have hsl:=o.1.2.1
 have hpos:=List.length_pos_iff.2 hne
 obtain ⟨z,hz,oz,nz⟩:=oa.slice (P:=Tryz.prog) (ty:=109) (lo:=some (.int .i64 1)) (hi:=none) (l:=1) (u:=s[j].length) (by simp) rfl rfl (by omega) (Nat.le_refl _)
 have et:(s[j].drop 1).take (s[j].length-1)=s[j].drop 1:=List.take_of_length_le (by simp)
 rw [et] at oz
 have hlb:=o.2.2 _ (List.getElem_mem hj)
 have on:Ow flF 144 (K++[⟨[],0,144⟩]) (.slice (some ⟨K.length,0,some 0⟩) 0 0) []:=Ow.new0 (D:=flF) (xs:=[]) rfl rfl rfl rfl
 obtain ⟨a',K2,hap,oa',c2,na'⟩:=on.append (P:=Tryz.prog) (frz:=frz) (ty:=109) oz.rd (by simp) (T6 _) (by simp;omega) (fun i hi=>by simp at hi;omega)
 rw [List.nil_append] at oa'
 have c12:Chg K K2 []:=(Chg.app _).trans' c2 (fun i hi=>.inr (by simp at hi;omega))
 obtain ⟨K3,hst,oL,c3,ndL,idL,l3⟩:=Pu (frz:=frz) (et:=109) (ag:=false) o.1 nd hj' (c12.mono (fun _ h=>by cases h)) oa' (fun i hi=>by
  rcases na' i hi with g|g
  ·right;simp at g;omega
  ·right;simp at g;omega) (fun i hi=>hf i hi) (by simp)
 have ol2:=o.1.1.chg c12 (by simp)
 have ix2:=ol2.rd.idx (P:=Tryz.prog) (ty:=36) (e:=109) (by simp) (i:=(j:Int)) (by omega) (by omega)
 simp only [Int.toNat_natCast,Nat.mul_one,show Fl.val.n=1 from rfl] at ix2
 have hup:=Eu hj (List.drop 1)
 refine ⟨z,a',K2,K3,h3,h2,hz,hap,ix2,hst,h6,W5 ol2,W5 oL.1,oa'.rd.one',oa'.rd.cells,c12,rfl,?_,ndL,idL,c3⟩
 rw [hup]
 exact Jt oL o.2.1 o.2.2 (by simp;omega)
theorem Qbt {K:Heap} {u:SSV} {s:SSD} {j:Nat} {a:Value} (o:dSS.Ow K u s) (nd:(dSS.ids u).Nodup) (hj:j<s.length) (hne:s[j]≠[]) (hf:∀i∈dSS.ids u,frz≤i) (ha:u.2[j]? = some a) :
 ∃z a' K2 K3,vslice Tryz.prog K 109 (some (.int .i64 1)) none a=some z∧
  vappend Tryz.prog frz K 109 109 (.slice none 0 0) z=some (a',K2)∧vindexAddr Tryz.prog K2 36 u.1 (.int .i64 (j:Int))=some (elp u.1 j)∧
  vstore Tryz.prog frz K2 109 a' (elp u.1 j)=some K3∧VM.live K2 u.1∧VM.live K3 u.1∧VM.one a'=true∧a'.cells=#[a']∧Chg K K2 []∧Put K K3 u (u.1,u.2.set j a') (upd s j (List.drop 1)):=by
 have hj':j<u.2.length:=by rw [o.1.2.1];exact hj
 obtain ⟨a1,h1,h2,h3,oa,h4,h5,h6⟩:=Sk o hj
 have e1:a1=a:=by rw [ha] at h1;exact (Option.some.inj h1).symm
 subst e1
 have hsl:=o.1.2.1
 have hpos:=List.length_pos_iff.2 hne
 obtain ⟨z,hz,oz,nz⟩:=oa.slice (P:=Tryz.prog) (ty:=109) (lo:=some (.int .i64 1)) (hi:=none) (l:=1) (u:=s[j].length) (by simp) rfl rfl (by omega) (Nat.le_refl _)
 have et:(s[j].drop 1).take (s[j].length-1)=s[j].drop 1:=List.take_of_length_le (by simp)
 rw [et] at oz
 have hlb:=o.2.2 _ (List.getElem_mem hj)
 have on:Ow flF 144 K (.slice none 0 0) []:=.inl ⟨rfl,rfl⟩
 obtain ⟨a',K2,hap,oa',c12,na'⟩:=on.append (P:=Tryz.prog) (frz:=frz) (ty:=109) oz.rd (by simp) (T6 _) (by simp;omega) (by simp)
 rw [List.nil_append] at oa'
 obtain ⟨K3,hst,oL,c3,ndL,idL,l3⟩:=Pu (frz:=frz) (et:=109) (ag:=false) o.1 nd hj' (c12.mono (fun i h=>by simp at h)) oa' (fun i hi=>by
  rcases na' i hi with g|g
  ·simp at g
  ·exact .inr g) (fun i hi=>hf i hi) (by simp)
 have c12':Chg K K2 []:=c12.mono (fun i h=>by simp at h)
 have ol2:=o.1.1.chg c12' (by simp)
 have ix2:=ol2.rd.idx (P:=Tryz.prog) (ty:=36) (e:=109) (by simp) (i:=(j:Int)) (by omega) (by omega)
 simp only [Int.toNat_natCast,Nat.mul_one,show Fl.val.n=1 from rfl] at ix2
 have hup:=Eu hj (List.drop 1)
 refine ⟨z,a',K2,K3,hz,hap,ix2,hst,W5 ol2,W5 oL.1,oa'.rd.one',oa'.rd.cells,c12',rfl,?_,ndL,idL,c3⟩
 rw [hup]
 exact Jt oL o.2.1 o.2.2 (by simp;omega)
theorem yu {α:Type} {D:Fl α} {e:TypeId} {K:Heap} {v:Value} {xs:List α} (o:Ow D e K v xs) (h:0<xs.length) (j:Nat):VM.vnil K (elp v j)=some (elp v j):=by
 rcases o with ⟨_,rfl⟩|⟨id,off,r,rfl,h2,_⟩
 ·simp at h
 ·simp [elp,VM.vnil,VM.look,h2]
def vw (v:NetV) (h5 h8 h9:List Value):NetV:=(v.1,v.2.1,(v.2.2.1.1,h5),v.2.2.2.1,v.2.2.2.2.1,(v.2.2.2.2.2.1.1,h8),(v.2.2.2.2.2.2.1.1,h9),v.2.2.2.2.2.2.2)
structure NS (H K:Heap) (W:List Nat) (v:NetV) (y:NetD) (h5 h8 h9:List Value):Prop where
 ow:dNet.Ow K (vw v h5 h8 h9) y
 nd:(dNet.ids (vw v h5 h8 h9)).Nodup
 ids:∀i∈dNet.ids (vw v h5 h8 h9),i∈dNet.ids v∨H.length≤i
 chg:Chg H K (W++dNet.ids v)
theorem NS.start {v:NetV} {y:NetD} (W:List Nat) (o:dNet.Ow H v y) (nd:(dNet.ids v).Nodup):NS H H W v y v.2.2.1.2 v.2.2.2.2.2.1.2 v.2.2.2.2.2.2.1.2:=
 ⟨o,nd,fun i hi=>.inl hi,Chg.refl _⟩
theorem NS.other {K K':Heap} {W:List Nat} {v:NetV} {y:NetD} {h5 h8 h9:List Value} {I:List Nat} (n:NS H K W v y h5 h8 h9) (c:Chg K K' I) (hd:∀i∈dNet.ids (vw v h5 h8 h9),i∉I) (hI:∀i∈I,i∈W∨H.length≤i):NS H K' W v y h5 h8 h9:=
 ⟨Dt.chg (T:=dNet) n.ow c hd,n.nd,n.ids,n.chg.trans' c (fun i hi=>(hI i hi).imp (fun h=>List.mem_append_left _ h) id)⟩
theorem NS.step {K K':Heap} {W:List Nat} {v:NetV} {y y':NetD} {h5 h8 h9 h5' h8' h9':List Value} {I:List Nat} (n:NS H K W v y h5 h8 h9) (c:Chg K K' I) (hI:∀i∈I,i∈dNet.ids (vw v h5 h8 h9))
 (o:dNet.Ow K' (vw v h5' h8' h9') y') (nd:(dNet.ids (vw v h5' h8' h9')).Nodup) (hi:∀i∈dNet.ids (vw v h5' h8' h9'),i∈dNet.ids (vw v h5 h8 h9)∨K.length≤i):NS H K' W v y' h5' h8' h9':=
 ⟨o,nd,fun i h=>by
  rcases hi i h with g|g
  ·exact n.ids i g
  ·have:=n.chg.1;right;omega,n.chg.trans' c (fun i h=>(n.ids i (hI i h)).imp (fun h=>List.mem_append_right _ h) id)⟩
theorem NS.buf {K K':Heap} {W:List Nat} {v:NetV} {y:NetD} {h5 h8 h9 h5':List Value} {s':SSD} (n:NS H K W v y h5 h8 h9) (p:Put K K' (v.2.2.1.1,h5) (v.2.2.1.1,h5') s') :
 NS H K' W v (withBuf y s') h5' h8 h9∧(∀i∈dNet.ids (vw v h5' h8 h9),i∈dNet.ids (vw v h5 h8 h9)∨K.length≤i)∧Chg K K' (dNet.ids (vw v h5 h8 h9)):=by
 obtain ⟨a,b,c⟩:=C1 (n:=vw v h5 h8 h9) (u:=(v.2.2.1.1,h5')) n.ow n.nd p.chg p.ow p.nd p.ids
 exact ⟨n.step p.chg (fun i hi=>Y0 (n:=vw v h5 h8 h9) i hi) a b c,c,p.chg.mono (fun i hi=>Y0 (n:=vw v h5 h8 h9) i hi)⟩
theorem NS.src {K K':Heap} {W:List Nat} {v:NetV} {y:NetD} {h5 h8 h9 h8':List Value} {s':SSD} (n:NS H K W v y h5 h8 h9) (p:Put K K' (v.2.2.2.2.2.1.1,h8) (v.2.2.2.2.2.1.1,h8') s') :
 NS H K' W v (withSrc y s') h5 h8' h9∧(∀i∈dNet.ids (vw v h5 h8' h9),i∈dNet.ids (vw v h5 h8 h9)∨K.length≤i)∧Chg K K' (dNet.ids (vw v h5 h8 h9)):=by
 obtain ⟨a,b,c⟩:=Mb (n:=vw v h5 h8 h9) (u:=(v.2.2.2.2.2.1.1,h8')) n.ow n.nd p.chg p.ow p.nd p.ids
 exact ⟨n.step p.chg (fun i hi=>Zo (n:=vw v h5 h8 h9) i hi) a b c,c,p.chg.mono (fun i hi=>Zo (n:=vw v h5 h8 h9) i hi)⟩
theorem NS.arr {K K':Heap} {W:List Nat} {v:NetV} {y:NetD} {h5 h8 h9 h9':List Value} {s':SSD} (n:NS H K W v y h5 h8 h9) (p:Put K K' (v.2.2.2.2.2.2.1.1,h9) (v.2.2.2.2.2.2.1.1,h9') s') :
 NS H K' W v (withArr y s') h5 h8 h9'∧(∀i∈dNet.ids (vw v h5 h8 h9'),i∈dNet.ids (vw v h5 h8 h9)∨K.length≤i)∧Chg K K' (dNet.ids (vw v h5 h8 h9)):=by
 obtain ⟨a,b,c⟩:=Dr (n:=vw v h5 h8 h9) (u:=(v.2.2.2.2.2.2.1.1,h9')) n.ow n.nd p.chg p.ow p.nd p.ids
 exact ⟨n.step p.chg (fun i hi=>Rp (n:=vw v h5 h8 h9) i hi) a b c,c,p.chg.mono (fun i hi=>Rp (n:=vw v h5 h8 h9) i hi)⟩
theorem NS.own {K:Heap} {W:List Nat} {v:NetV} {y:NetD} {h5 h8 h9:List Value} (n:NS H K W v y h5 h8 h9) (hf:∀i∈dNet.ids (vw v h5 h8 h9),frz≤i) {j:Nat} (hj:j<y.2.2.2.1.length) (z:Int) :
 ∃K',vstore Tryz.prog frz K 3 (.int .i64 z) (elp v.2.2.2.1 j)=some K'∧NS H K' W v (withOwn y (y.2.2.2.1.set j z)) h5 h8 h9∧Chg K K' (dNet.ids (vw v h5 h8 h9)):=by
 obtain ⟨K',s,o,c,l⟩:=n.ow.2.2.2.1.1.put1 (P:=Tryz.prog) (frz:=frz) rfl (et:=3) (ag:=false) (by simp) hj (x:=.int .i64 z) (y:=z) rfl rfl rfl (fun i hi=>hf i (Ro (n:=vw v h5 h8 h9) i hi))
 obtain ⟨a,b,c'⟩:=D3 (n:=vw v h5 h8 h9) (u:=v.2.2.2.1) (s:=y.2.2.2.1.set j z) n.ow n.nd c ⟨o,by have:=n.ow.2.2.2.1.2;simpa using this⟩ (wy (n:=vw v h5 h8 h9) n.nd) (fun i hi=>.inl hi)
 exact ⟨K',s,n.step c (fun i hi=>Ro (n:=vw v h5 h8 h9) i hi) a b c',c.mono (fun i hi=>Ro (n:=vw v h5 h8 h9) i hi)⟩
theorem NS.turn {K:Heap} {W:List Nat} {v:NetV} {y:NetD} {h5 h8 h9:List Value} (n:NS H K W v y h5 h8 h9) (hf:∀i∈dNet.ids (vw v h5 h8 h9),frz≤i) {j:Nat} (hj:j<y.2.2.2.2.1.length) (z:Int) :
 ∃K',vstore Tryz.prog frz K 3 (.int .i64 z) (elp v.2.2.2.2.1 j)=some K'∧NS H K' W v (withTurn y (y.2.2.2.2.1.set j z)) h5 h8 h9∧Chg K K' (dNet.ids (vw v h5 h8 h9)):=by
 obtain ⟨K',s,o,c,l⟩:=n.ow.2.2.2.2.1.1.put1 (P:=Tryz.prog) (frz:=frz) rfl (et:=3) (ag:=false) (by simp) hj (x:=.int .i64 z) (y:=z) rfl rfl rfl (fun i hi=>hf i (Tj (n:=vw v h5 h8 h9) i hi))
 obtain ⟨a,b,c'⟩:=Ft (n:=vw v h5 h8 h9) (u:=v.2.2.2.2.1) (s:=y.2.2.2.2.1.set j z) n.ow n.nd c ⟨o,by have:=n.ow.2.2.2.2.1.2;simpa using this⟩ (E9 (n:=vw v h5 h8 h9) n.nd) (fun i hi=>.inl hi)
 exact ⟨K',s,n.step c (fun i hi=>Tj (n:=vw v h5 h8 h9) i hi) a b c',c.mono (fun i hi=>Tj (n:=vw v h5 h8 h9) i hi)⟩
noncomputable def nPop (x:NetD) (i:Nat):NetD:=withBuf x (((allN x).take i).foldl popS x.2.2.1)
noncomputable def nPush (x y:NetD) (i:Nat):NetD:=
 (y.1,y.2.1,((allN x).take i).foldl (pushS x) y.2.2.1,((allN x).take i).foldl (ownS x) y.2.2.2.1,((allN x).take i).foldl turnS y.2.2.2.2.1,y.2.2.2.2.2.1,((allN x).take i).foldl (arrS x) y.2.2.2.2.2.2.1,y.2.2.2.2.2.2.2)
noncomputable def nEnt (x y:NetD) (i:Nat):NetD:=
 (y.1,y.2.1,((enterN x).take i).foldl (entS x) y.2.2.1,y.2.2.2.1,y.2.2.2.2.1,((enterN x).take i).foldl srcS y.2.2.2.2.2.1,y.2.2.2.2.2.2.1,y.2.2.2.2.2.2.2)
theorem Qbg (x:NetD):stepN x=older (nEnt x (nPush x (nPop x (allN x).length) (allN x).length) (enterN x).length) 1:=by
 unfold nEnt nPush nPop older withBuf
 simp only [List.take_length]
 rfl
def tgI (x:NetD) (g:GrD):Int:=if g.2.1=4 then -1 else (tgt x g.1 g.2.1 (g.2.2%2):Int)
theorem Ci {K:Heap} {e:TypeId} {v:Value} {l:List GrD} (o:Ow grF e K v l) {i:Nat} (hi:i<l.length) :
 vindexAddr Tryz.prog K 145 v (.int .i64 (i:Int))=some (elp v (i*3))∧vload Tryz.prog K 149 (elp v (i*3))=some (.agg (grF.f l[i]).toArray):=by
 have q1:=o.rd.idx (P:=Tryz.prog) (ty:=145) (e:=149) (by simp) (i:=(i:Int)) (by omega) (by omega)
 have q2:=o.rd.load (P:=Tryz.prog) (e:=149) (by simp) hi
 simp only [Int.toNat_natCast,Qge] at q1 q2
 exact ⟨q1,q2⟩
def StepPost (H:Heap) (v:NetV) (y:NetD) (id:Nat) (e:TypeId) (tail:List Value) (_:Value) (H':Heap):Prop:=
 ∃v':NetV,H'[id]? = some ⟨netCells v' y++tail,0,e⟩∧dNet.Ow H' v' y∧(dNet.ids v').Nodup∧(∀i∈dNet.ids v',i∈dNet.ids v∨H.length≤i)∧Chg H H' (id::dNet.ids v)
theorem X5 {K:Heap} {w:Value} (h:VM.live K w) (hw:∃a n c,w=.slice (some a) n c) (j:Nat):VM.vnil K (elp w j)=some (elp w j):=by
 obtain ⟨a,n,c,rfl⟩:=hw
 simp only [VM.live,live1] at h
 show (match VM.look K a with|some _=>some (Value.pointer (some ⟨a.block,a.off+j,a.spot⟩))|none=>none)=_
 cases hh:VM.look K a with
 | none=>exact absurd hh h
 | some r=>rfl
theorem Ko {α:Type} {D:Fl α} {e:TypeId} {K:Heap} {v:Value} {xs:List α} (o:Ow D e K v xs) (h:0<xs.length):∃a n c,v=.slice (some a) n c:=by
 rcases o with ⟨_,rfl⟩|⟨id,off,r,rfl,h2,_⟩
 ·simp at h
 ·exact ⟨_,_,_,rfl⟩
theorem we {x:NetD} {i:Nat} (h:i<(allN x).length):nPop x (i+1)=withBuf (nPop x i) (upd (nPop x i).2.2.1 (frm (allN x)[i]) (List.drop 1)):=by
 unfold nPop;rw [Yo _ _ h];rfl
theorem Gx (x:NetD) (i:Nat):(nPop x i).2.2.1.length=x.2.2.1.length:=Wu J9 _ _
theorem Qa9 {x:NetD} {i:Nat} (h:i<(allN x).length):(nPop x i).2.2.1.getD (frm (allN x)[i]) []=x.2.2.1.getD (frm (allN x)[i]) []:=B7 _ _ _ (Ff (Uf x) h)
theorem Qco {K:Heap} {e:TypeId} {v:Value} {l:List FlitD} (o:Ow flF e K v l) {i:Nat} (hi:i<l.length) :
 vindexAddr Tryz.prog K 109 v (.int .i64 (i:Int))=some (elp v (i*5))∧vload Tryz.prog K 144 (elp v (i*5))=some (.agg (flF.f l[i]).toArray)∧vfieldAddr Tryz.prog K 144 4 (elp v (i*5))=some (elp v (i*5+4))∧vload Tryz.prog K 4 (elp v (i*5+4))=some (.bool l[i].2.2.2.2):=by
 have q1:=o.rd.idx (P:=Tryz.prog) (ty:=109) (e:=144) (by simp) (i:=(i:Int)) (by omega) (by omega)
 have q2:=o.rd.load (P:=Tryz.prog) (e:=144) (by simp) hi
 have q3:=o.rd.field (P:=Tryz.prog) (s:=144) (f:=4) (o:=4) (n:=1) (ag:=false) (by simp) (j:=i*5) (by omega)
 have q4:=o.rd.cell (P:=Tryz.prog) (e:=4) (by simp) hi (c:=4) (by decide)
 simp only [Int.toNat_natCast,Ox] at q1 q2 q4
 simp only [Xu] at q4
 simp at q4
 exact ⟨q1,q2,q3,q4⟩
theorem Bx {K:Heap} {v:Value} {l:List Int} (h:IsI K v l) {i:Nat} (hi:i<l.length) :
 vindexAddr Tryz.prog K 26 v (.int .i64 (i:Int))=some (elp v i)∧vload Tryz.prog K 3 (elp v i)=some (.int .i64 l[i]):=by
 have q1:=h.idx (P:=Tryz.prog) (ty:=26) (e:=3) (by simp) (i:=(i:Int)) (by omega) (by omega)
 have q2:=h.load (P:=Tryz.prog) (e:=3) (by simp) hi
 simp only [Int.toNat_natCast] at q1
 rw [Q5 _ _ hi] at q2
 exact ⟨q1,q2⟩
theorem Df {x y:NetD} {i:Nat} (h:i<(allN x).length):nPush x y (i+1)=withTurn (withOwn (withArr (withBuf (nPush x y i) (pushS x (nPush x y i).2.2.1 (allN x)[i])) (arrS x (nPush x y i).2.2.2.2.2.2.1 (allN x)[i])) (ownS x (nPush x y i).2.2.2.1 (allN x)[i])) (turnS (nPush x y i).2.2.2.2.1 (allN x)[i]):=by
 unfold nPush;simp only [Yo _ _ h];rfl
theorem xx {x y:NetD} {i:Nat} (h:i<(enterN x).length):nEnt x y (i+1)=withSrc (withBuf (nEnt x y i) (entS x (nEnt x y i).2.2.1 (enterN x)[i])) (srcS (nEnt x y i).2.2.2.2.2.1 (enterN x)[i]):=by
 unfold nEnt;simp only [Yo _ _ h];rfl
theorem Qaa {v:NetV} {x:NetD} {id:Nat} {e:TypeId} {tail:List Value} (hr:H[id]? = some ⟨netCells v x++tail,0,e⟩) (o:dNet.Ow H v x) (nd:(dNet.ids v).Nodup) (hf:∀i∈dNet.ids v,frz≤i) (hfi:frz≤id) (hid:id∉dNet.ids v) (hfH:frz≤H.length) (hx:runOk x) (hb5:allL 67000000 x.2.2.1) (hb9:allL 67000000 x.2.2.2.2.2.2.1) (ht:inR 0 x.2.2.2.2.2.2.2 1000000) :
 wp (vcall C frz 67 [.pointer (some ⟨id,0,some 0⟩)] H) (StepPost H v (stepN x) id e tail):=by
 have ones:=Qn o
 have cr:=Qf x.1.1 x.1.2.1
 have hidl:=Qs hr
 have hlt:=dNet.lt o
 rw [Qb (fn:=Tryz.f67) Tryz.func67 rfl (by kernel_rfl) rfl]
 simp
 refine Qd (Gt hr o hx) ?_
 rintro gl H1 ⟨oG,nG,cG⟩
 simp
 refine Qd (Cm (Qa hr cG (by simp)) (Dt.chg (T:=dNet) o cG (by simp)) hx) ?_
 rintro el H2 ⟨oE,nE,cE⟩
 simp
 obtain ⟨G,hG⟩:∃G,G=H2++[⟨[],0,144⟩,⟨[],0,3⟩]:=⟨_,rfl⟩
 have oM0:Ow flF 144 G (.slice (some ⟨H2.length,0,some 0⟩) 0 0) []:=by rw [hG];exact Ow.new0 (D:=flF) (xs:=[]) rfl rfl rfl rfl
 have oT0:Ow Fl.int 3 G (.slice (some ⟨H2.length+1,0,some 0⟩) 0 0) []:=by rw [hG];exact Ow.new (D:=Fl.int) (xs:=[]) (k:=1) rfl rfl rfl rfl
 have c2G:Chg H2 G []:=by rw [hG];exact Chg.app _
 have lG:G.length=H2.length+2:=by rw [hG];simp
 have c0G:Chg H G []:=(cG.trans cE).trans c2G
 have l1:=cG.1
 have l2:=cE.1
 have oG1:=(oG.chg cE (by simp)).chg c2G (by simp)
 have oE1:=oE.chg c2G (by simp)
 have hGs:H2++[⟨[],0,144⟩,⟨[],0,3⟩]=G:=hG.symm
 have ltG:∀i∈ids gl,i<H1.length:=oG.lt
 have ltE:∀i∈ids el,i<H2.length:=oE.lt
 have hgl:=oG1.rd.len (P:=Tryz.prog) (ty:=145) (by simp)
 rw [hGs]
 clear hG hGs
 have hL:=Iq x
 have hat:=fun g (hg:g∈allN x)=>Yt hg
 have hnd:=Uf x
 simp [hgl]
 -- the targets
 refine Qh (fun n t H'=>∃(i:Nat) (r:Value),n=(allN x).length-i∧i≤(allN x).length∧t 0=.pointer (some ⟨id,0,some 0⟩)∧t 2=gl∧t 3=el∧t 4=.slice (some ⟨H2.length,0,some 0⟩) 0 0∧t 5=r∧t 25=gl∧t 26=.int .i64 (allN x).length∧t 27=.int .i64 i∧
  Chg G H' [H2.length+1]∧Ow Fl.int 3 H' r (((allN x).take i).map (tgI x))∧(∀j∈ids r,j=H2.length+1∨G.length≤j)) ?_ (n:=(allN x).length)
  ⟨0,.slice (some ⟨H2.length+1,0,some 0⟩) 0 0,rfl,by omega,by simp,by simp,by simp,by simp,by simp,by simp,by simp,by simp,Chg.refl _,oT0,by simp⟩
 rintro n t H' ⟨i,r,rfl,hi,t0,t2,t3,t4,t5,t25,t26,t27,ch,oT,nT⟩ ih
 simp [t0,t2,t3,t4,t5,t25,t26,t27]
 refine Qc ?_ ?_<;>intro g
 ·have hi':i<(allN x).length:=by omega
  have oG2:=oG1.chg ch (fun j hj hh=>by have:=ltG j hj;simp at hh;omega)
  obtain ⟨q1,q2⟩:=Ci oG2 hi'
  obtain ⟨m1,m2,m3,m4⟩:=hat _ (List.getElem_mem hi')
  have htk:(allN x).take (i+1)=(allN x).take i++[(allN x)[i]]:=List.take_succ_eq_append_getElem hi'
  generalize (allN x)[i]=gg at *
  have cH':Chg H H' []:=c0G.trans' ch (fun j hj=>.inr (by simp at hj;omega))
  obtain ⟨c,hc⟩:∃c,c=gg.2.2%2:=⟨_,rfl⟩
  have e3:∀[Inhabited Unit],(gg.2.2:Int).tmod 2=(c:Int):=by intro _;rw [tmod2];omega
  have e3':∀[Inhabited Unit],(gg.2.2:Int)%2=(c:Int):=by intro _;omega
  have bh:=fun F L=>I7 (frz:=F) (H:=H'++L) (a:=gg.1) (p:=gg.2.1) (c:=c) (Ql (Qa hr cH' (by simp)) L) (Dt.app (T:=dNet) (Dt.chg (T:=dNet) o cH' (by simp))) m1 m2 (by omega)
  have ht:(if gg.2.1≠4∧has x.1.1 x.1.2.1 x.1.2.2 (4*(gg.1:Int)+gg.2.1) then (tgt x gg.1 gg.2.1 c:Int) else -1)=tgI x gg:=by
   unfold tgI
   rw [← hc]
   by_cases h4:gg.2.1=4
   ·rw [if_neg (fun k=>k.1 h4),if_pos h4]
   ·rcases m4.2.1 with k|⟨k,_⟩
    ·exact absurd k h4
    ·rw [if_pos ⟨h4,k⟩,if_neg h4]
  rw [ht] at bh
  obtain ⟨T,hT⟩:∃T,T=tgI x gg:=⟨_,rfl⟩
  rw [← hT] at bh
  simp [t0,t2,t3,t4,t5,t25,t26,t27,q1,q2,Lf,VM.look,e3,e3',bh]
  have hF:frz≤H'.length:=by have:=cH'.1;omega
  have l3:=ch.1
  obtain ⟨r',H3,hap,oT3,c3,n3⟩:=(oT.app (L:=[⟨[.int .i64 (gg.1:Int),.int .i64 (gg.2.1:Int),.int .i64 (gg.2.2:Int)],0,149⟩])).push (P:=Tryz.prog) (frz:=frz) (ty:=26) (a:=T) (by simp) rfl (by simp;omega) (fun j hj=>by have:=nT j hj;omega)
  simp only [Fl.int_f,List.append_assoc,List.cons_append,List.nil_append,List.length_append,List.length_cons,List.length_nil] at hap
  simp [-Qp,-Qx,t0,t2,t3,t4,t5,t25,t26,t27,hF,hap]
  refine ih ((allN x).length-(i+1)) _ _ ⟨i+1,r',rfl,by omega,by simp [t0],by simp [t2],by simp [t3],by simp [t4],by simp,by simp [t25],by simp [t26],?_,?_,by rw [htk,List.map_append,List.map_cons,List.map_nil,← hT];exact oT3,fun j hj=>?_⟩ (by omega)
  ·simp [t27];rw [w64 (by omega) (by omega)]
  ·exact (ch.trans (Chg.app _)).trans' c3 (fun j hj=>(nT j hj).imp (fun h=>by simp [h]) _root_.id)
  ·rcases n3 j hj with h1|h1
   ·exact nT j h1
   ·simp at h1;omega
 ·have hil:i=(allN x).length:=by omega
  subst hil
  rw [List.take_length] at oT
  clear ih
  have cK0:Chg H H' []:=c0G.trans' ch (fun j hj=>.inr (by simp at hj;omega))
  have oG2:=oG1.chg ch (fun j hj hh=>by have:=ltG j hj;simp at hh;omega)
  have oE2:=oE1.chg ch (fun j hj hh=>by have:=ltE j hj;simp at hh;omega)
  have oM2:=oM0.chg ch (by simp)
  have hgl2:=oG2.rd.len (P:=Tryz.prog) (ty:=145) (by simp)
  have ltT:∀j∈ids r,j<H'.length:=oT.lt
  have nT':∀j∈ids r,H2.length<j:=fun j hj=>by rcases nT j hj with h|h<;>omega
  have hr0:=Qa hr cK0 (by simp)
  have ns0:NS H' H' [H2.length] v x _ _ _:=NS.start [H2.length] (Dt.chg (T:=dNet) o cK0 (by simp)) nd
  have lK0:H2.length+2≤H'.length:=by have:=ch.1;omega
  simp [t0,t2,t3,t4,t5,t25,t26,t27,hgl2]
  -- the pops
  clear ch oT0 oG1 oE1 oM0 hgl c2G
  refine Qh (fun n t K=>∃(i:Nat) (mv:Value) (h5:List Value),n=(allN x).length-i∧i≤(allN x).length∧t 0=.pointer (some ⟨id,0,some 0⟩)∧t 2=gl∧t 3=el∧t 4=mv∧t 5=r∧t 44=gl∧t 45=.int .i64 (allN x).length∧t 46=.int .i64 i∧
   NS H' K [H2.length] v (nPop x i) h5 v.2.2.2.2.2.1.2 v.2.2.2.2.2.2.1.2∧Ow flF 144 K mv (((allN x).take i).map fun g=>headOf x (frm g))∧(∀j∈ids mv,(j=H2.length∨H'.length≤j)∧j∉dNet.ids (vw v h5 v.2.2.2.2.2.1.2 v.2.2.2.2.2.2.1.2))) ?_ (n:=(allN x).length)
   ⟨0,.slice (some ⟨H2.length,0,some 0⟩) 0 0,v.2.2.1.2,rfl,by omega,by simp [t0],by simp [t2],by simp [t3],by simp [t4],by simp [t5],by simp,by simp,by simp,ns0,oM2,fun j hj=>⟨.inl (by simpa using hj),fun hh=>by have:=hlt j hh;simp at hj;omega⟩⟩
  clear t0 t2 t3 t4 t5 t25 t26 t27
  rintro n t K ⟨i,mv,h5,rfl,hi,t0,t2,t3,t4,t5,t44,t45,t46,ns,oM,nM⟩ ih
  simp [t0,t2,t3,t4,t5,t44,t45,t46]
  refine Qc ?_ ?_<;>intro g
  ·have hi':i<(allN x).length:=by omega
   have oG3:=oG2.chg ns.chg (fun j hj hh=>by
    have h1:=ltG j hj
    have h2:=nG j hj
    rcases List.mem_append.1 hh with hh|hh
    ·simp at hh;omega
    ·have:=hlt j hh;omega)
   obtain ⟨q1,q2⟩:=Ci oG3 hi'
   obtain ⟨m1,m2,m3,m4⟩:=hat _ (List.getElem_mem hi')
   have htk:(allN x).take (i+1)=(allN x).take i++[(allN x)[i]]:=List.take_succ_eq_append_getElem hi'
   have hps:=we hi'
   have hpa:=Qa9 hi'
   generalize (allN x)[i]=gg at *
   obtain ⟨j,hj⟩:∃j,j=frm gg:=⟨_,rfl⟩
   rw [← hj] at hps hpa
   have hjl:j<(nPop x i).2.2.1.length:=by rw [Gx];have:=hx.2.1.1;unfold frm at hj;omega
   have hgd:(nPop x i).2.2.1.getD j []=(nPop x i).2.2.1[j]:=by simp [List.getD_eq_getElem?_getD,hjl]
   have hne:(nPop x i).2.2.1[j]≠[]:=by rw [← hgd,hpa,hj];exact Tm m4
   have hhd:headL (nPop x i).2.2.1[j]=headOf x (frm gg):=by rw [← hgd,hpa,hj];rfl
   have e1:=@w6 (10*(gg.1:Int)) (by omega)
   have e2:∀[Inhabited Unit],IntKind.i64.wrap (10*(gg.1:Int)+(gg.2.2:Int))=(j:Int):=by intro _;unfold frm at hj;rw [w64 (by omega) (by omega)];omega
   have hrK:=Qa hr0 ns.chg (fun hh=>by
    rcases List.mem_append.1 hh with hh|hh
    ·simp at hh;omega
    ·exact hid hh)
   unfold netCells at hrK
   simp only [List.cons_append,List.nil_append] at hrK
   obtain ⟨A,hA⟩:∃A,A=K++[⟨[.int .i64 (gg.1:Int),.int .i64 (gg.2.1:Int),.int .i64 (gg.2.2:Int)],0,149⟩]:=⟨_,rfl⟩
   have cA:Chg K A []:=by rw [hA];exact Chg.app _
   have lA:A.length=K.length+1:=by rw [hA];simp
   have bx:A[K.length]? = some ⟨[.int .i64 (gg.1:Int),.int .i64 (gg.2.1:Int),.int .i64 (gg.2.2:Int)],0,149⟩:=by rw [hA];simp
   have nsA:=ns.other cA (by simp) (by simp)
   have oMA:=oM.chg cA (by simp)
   have hrA:=Qa hrK cA (by simp)
   obtain ⟨a,a1,a2,a3,oa,qa1,qa2,lvA⟩:=Sk (u:=(v.2.2.1.1,h5)) nsA.ow.2.2.1 hjl
   obtain ⟨z0,_,_,_,_,_,_,zw⟩:=front oa.rd hne
   rw [hhd] at zw
   have ltM:=oM.lt
   have lcK:=ns.chg.1
   obtain ⟨f,hfe⟩:∃f,f=headOf x (frm gg):=⟨_,rfl⟩
   rw [← hfe] at zw
   obtain ⟨mv',B,hap,oM',cB,nB⟩:=oMA.push (P:=Tryz.prog) (frz:=frz) (ty:=109) (a:=f) (by simp) rfl (by simp;omega) (fun k hk=>by have:=(nM k hk).1;omega)
   have nsB:=nsA.other cB (fun k hk hh=>(nM k hh).2 hk) (fun k hk=>(nM k hk).1.imp (fun h=>by simp [h]) _root_.id)
   have hfn:∀k∈dNet.ids (vw v h5 v.2.2.2.2.2.1.2 v.2.2.2.2.2.2.1.2),frz≤k:=fun k hk=>by
    rcases ns.ids k hk with g|g
    ·exact hf k g
    ·omega
   have lcB:=cB.1
   obtain ⟨z,a',K2,K3,p1,p2,p3,p4,p5,p6,lv1,lv2,lv3,qb1,qb2,c2,pt⟩:=Qdk (frz:=frz) (u:=(v.2.2.1.1,h5)) nsB.ow.2.2.1 (Ra (n:=vw v h5 v.2.2.2.2.2.1.2 v.2.2.2.2.2.2.1.2) nsB.nd) hjl hne (fun k hk=>hfn k (Y0 (n:=vw v h5 v.2.2.2.2.2.1.2 v.2.2.2.2.2.2.1.2) k hk)) (by omega) a1
   simp only at a2 a3 lvA p1 p2 p5 p6 lv1 lv2 lv3
   obtain ⟨nsC,nC,cC⟩:=nsB.buf pt
   have hw:=Ko nsA.ow.2.2.1.1.1 (by show 0<h5.length;have:=nsA.ow.2.2.1.1.2.1;have h2:(vw v h5 v.2.2.2.2.2.1.2 v.2.2.2.2.2.2.1.2).2.2.1.2=h5:=rfl;rw [h2] at this;omega)
   have hw':∃a n c,v.2.2.1.1=.slice (some a) n c:=hw
   have vA:=X5 lvA hw' j
   have lvB:VM.live B v.2.2.1.1:=W5 nsB.ow.2.2.1.1.1
   have vB:=X5 lvB hw' j
   have v1:=X5 lv1 hw' j
   have v2:=X5 lv2 hw' j
   have aB:vload Tryz.prog B 109 (elp v.2.2.1.1 j)=some a:=by
    obtain ⟨ab,b1,b2,b3,_⟩:=Sk (u:=(v.2.2.1.1,h5)) nsB.ow.2.2.1 hjl
    rw [a1] at b1;cases b1;exact b3
   have hFK:frz≤K.length:=by omega
   have hFA:frz≤A.length:=by omega
   have hFB:frz≤B.length:=by omega
   simp only [Xu] at hap zw
   have hAs:K++[⟨[.int .i64 (gg.1:Int),.int .i64 (gg.2.1:Int),.int .i64 (gg.2.2:Int)],0,149⟩]=A:=hA.symm
   simp [t0,t2,t3,t4,t5,t44,t45,t46,q1,q2,Lf]
   rw [hAs]
   clear hA hAs
   rw [Qe (h:=by kernel_rfl)]
   have vI:VM.vnil A (.pointer (some ⟨id,0,some 0⟩))=some (.pointer (some ⟨id,0,some 0⟩)):=by simp [VM.vnil,VM.look,hrA]
   simp [-Qp,-Qx,t0,t2,t3,t4,t5,t44,t45,t46,VM.look,hrA,vI,bx,ones,e1,e2,a2,vA,a3,z0,zw,hFK,hFA,hap,hFB,vB,v1,v2,p1,p3,p4,p6,qa1,qa2,qb1,qb2]
   have ltN:∀k∈dNet.ids (vw v h5 v.2.2.2.2.2.1.2 v.2.2.2.2.2.2.1.2),k<K.length:=fun k hk=>dNet.lt ns.ow k hk
   have dMN:∀k∈ids mv',k∉dNet.ids (vw v h5 v.2.2.2.2.2.1.2 v.2.2.2.2.2.2.1.2):=fun k hk hh=>by
    rcases nB k hk with h|h
    ·exact (nM k h).2 hh
    ·have:=ltN k hh;omega
   have ltM':=oM'.lt
   refine ih ((allN x).length-(i+1)) _ _ ⟨i+1,mv',h5.set j a',rfl,by omega,by simp [t0],by simp [t2],by simp [t3],by simp,by simp [t5],by simp [t44],by simp [t45],?_,by rw [hps];exact nsC,?_,fun k hk=>⟨?_,fun hh=>?_⟩⟩ (by omega)
   ·simp [t46];rw [w64 (by omega) (by omega)]
   ·rw [htk,List.map_append,List.map_cons,List.map_nil,← hfe];exact oM'.chg cC dMN
   ·rcases nB k hk with h|h
    ·exact (nM k h).1
    ·right;omega
   ·rcases nC k hh with h|h
    ·exact dMN k hk h
    ·have:=ltM' k hk;omega
  ·have hil:i=(allN x).length:=by omega
   subst hil
   rw [List.take_length] at oM
   clear ih
   -- between the loops: the network w,y1
   have hrK:K[id]? = some ⟨netCells (vw v h5 v.2.2.2.2.2.1.2 v.2.2.2.2.2.2.1.2) (nPop x (allN x).length)++tail,0,e⟩:=Qa hr0 ns.chg (fun hh=>by
    rcases List.mem_append.1 hh with hh|hh
    ·simp at hh;omega
    ·exact hid hh)
   have hdn:∀k,H.length≤k→k<H2.length∨H2.length<k→k<H'.length→k∉[H2.length]++dNet.ids v:=fun k h1 h2 h3 hh=>by
    rcases List.mem_append.1 hh with hh|hh
    ·simp at hh;omega
    ·have:=hlt k hh;omega
   have lG1:H1.length≤H2.length:=cE.1
   have oG3:=oG2.chg ns.chg (fun k hk=>hdn k (nG k hk) (.inl (by have:=ltG k hk;omega)) (by have:=ltG k hk;omega))
   have oE3:=oE2.chg ns.chg (fun k hk=>hdn k (by have:=nE k hk;omega) (.inl (ltE k hk)) (by have:=ltE k hk;omega))
   have oT3:=oT.chg ns.chg (fun k hk=>hdn k (by have:=nT' k hk;omega) (.inr (nT' k hk)) (ltT k hk))
   have hfw:∀k∈dNet.ids (vw v h5 v.2.2.2.2.2.1.2 v.2.2.2.2.2.2.1.2),(k∈dNet.ids v∨H'.length≤k):=ns.ids
   have nM':=fun k hk=>(nM k hk).2
   have hgl3:=oG3.rd.len (P:=Tryz.prog) (ty:=145) (by simp)
   have c1K:=ns.chg
   have b5:allL 67000000 (nPop x (allN x).length).2.2.1:=Mw _ _ hb5
   have l5:(nPop x (allN x).length).2.2.1.length=x.2.2.1.length:=Gx x _
   have ns1:NS K K [] (vw v h5 v.2.2.2.2.2.1.2 v.2.2.2.2.2.2.1.2) (nPop x (allN x).length) _ _ _:=NS.start [] ns.ow ns.nd
   simp [t0,t2,t3,t4,t5,t44,t45,t46,hgl3]
   clear ns hr0 oG2 oE2 oM2 oT nM hgl2
   generalize hw:vw v h5 v.2.2.2.2.2.1.2 v.2.2.2.2.2.2.1.2=w at *
   obtain ⟨y1,hy1⟩:∃y1,y1=nPop x (allN x).length:=⟨_,rfl⟩
   rw [← hy1] at hrK b5 l5 ns1
   have ye:y1.1=x.1∧y1.2.1=x.2.1∧y1.2.2.2.1=x.2.2.2.1∧y1.2.2.2.2.1=x.2.2.2.2.1∧y1.2.2.2.2.2.1=x.2.2.2.2.2.1∧y1.2.2.2.2.2.2.1=x.2.2.2.2.2.2.1∧y1.2.2.2.2.2.2.2=x.2.2.2.2.2.2.2:=by rw [hy1];exact ⟨rfl,rfl,rfl,rfl,rfl,rfl,rfl⟩
   have lK1:H'.length≤K.length:=c1K.1
   have hidw:id∉dNet.ids w:=fun hh=>by
    rcases hfw _ hh with h|h
    ·exact hid h
    ·omega
   have hgw:∀k,H.length≤k→k<H'.length→k∉dNet.ids w:=fun k h1 h2 hh=>by
    rcases hfw k hh with h|h
    ·have:=hlt k h;omega
    ·omega
   have hff:∀k∈dNet.ids w,frz≤k:=fun k hk=>by
    rcases hfw k hk with h|h
    ·exact hf k h
    ·omega
   have onew:=Qn (v:=w) ns1.ow
   -- the pushes
   refine Qh (fun n t J=>∃(i:Nat) (g5 g9:List Value),n=(allN x).length-i∧i≤(allN x).length∧t 0=.pointer (some ⟨id,0,some 0⟩)∧t 3=el∧t 4=mv∧t 5=r∧t 78=gl∧t 79=.int .i64 (allN x).length∧t 80=.int .i64 i∧
    NS K J [] w (nPush x y1 i) g5 w.2.2.2.2.2.1.2 g9) ?_ (n:=(allN x).length)
    ⟨0,w.2.2.1.2,w.2.2.2.2.2.2.1.2,rfl,by omega,by simp [t0],by simp [t3],by simp [t4],by simp [t5],by simp,by simp,by simp,ns1⟩
   clear t0 t2 t3 t4 t5 t44 t45 t46
   rintro n t J ⟨i,g5,g9,rfl,hi,t0,t3,t4,t5,t78,t79,t80,ns⟩ ih
   simp [t0,t3,t4,t5,t78,t79,t80]
   refine Qc ?_ ?_<;>intro g
   ·have hi':i<(allN x).length:=by omega
    have oG4:=oG3.chg ns.chg (fun k hk hh=>by
     rw [List.nil_append] at hh
     exact hgw k (nG k hk) (by have:=ltG k hk;omega) hh)
    obtain ⟨q1,q2⟩:=Ci oG4 hi'
    obtain ⟨m1,m2,m3,m4⟩:=hat _ (List.getElem_mem hi')
    have hps:=Df (y:=y1) hi'
    have lmv:i<((allN x).map fun g=>headOf x (frm g)).length:=by simpa using hi'
    have lti:i<((allN x).map (tgI x)).length:=by simpa using hi'
    have emv:((allN x).map fun g=>headOf x (frm g))[i]=headOf x (frm (allN x)[i]):=by simp
    have eti:((allN x).map (tgI x))[i]=tgI x (allN x)[i]:=by simp
    obtain ⟨J1,hJ1⟩:∃J1,J1=J++[⟨grF.f (allN x)[i],0,149⟩]:=⟨_,rfl⟩
    have cJ:Chg J J1 []:=by rw [hJ1];exact Chg.app _
    have lJ:J1.length=J.length+1:=by rw [hJ1];simp
    have bx:J1[J.length]? = some ⟨grF.f (allN x)[i],0,149⟩:=by rw [hJ1];simp
    have hJs:J++[⟨grF.f (allN x)[i],0,149⟩]=J1:=hJ1.symm
    generalize (allN x)[i]=gg at *
    simp only [Lf] at bx hJs
    have nsA:=ns.other cJ (by simp) (by simp)
    obtain ⟨c,hc⟩:∃c,c=gg.2.2%2:=⟨_,rfl⟩
    obtain ⟨q,hq⟩:∃q,q=gg.2.2/2:=⟨_,rfl⟩
    obtain ⟨f,hfe⟩:∃f,f=headOf x (frm gg):=⟨_,rfl⟩
    rw [← hfe] at emv
    have hFJ:frz≤J.length:=by have:=ns.chg.1;omega
    have rowA:∀J':Heap,Chg K J' ([]++dNet.ids w)→J'[id]? = some ⟨netCells w y1++tail,0,e⟩:=fun J' c=>Qa hrK c (by simpa using hidw)
    have mvA:∀J':Heap,Chg K J' ([]++dNet.ids w)→Ow flF 144 J' mv _:=fun J' c=>oM.chg c (fun k hk=>by simpa using nM' k hk)
    have tlA:∀J':Heap,Chg K J' ([]++dNet.ids w)→Ow Fl.int 3 J' r _:=fun J' c=>oT3.chg c (fun k hk hh=>by rw [List.nil_append] at hh;exact hgw k (by have:=nT' k hk;omega) (ltT k hk) hh)
    have e3:∀[Inhabited Unit],(gg.2.2:Int).tmod 2=(c:Int):=by intro _;rw [tmod2];omega
    have e3':∀[Inhabited Unit],(gg.2.2:Int)%2=(c:Int):=by intro _;omega
    have e4:∀[Inhabited Unit],IntKind.i64.wrap ((gg.2.2:Int)/2)=(q:Int):=by intro _;rw [w64 (by omega) (by omega)];omega
    have rA:=rowA J1 nsA.chg
    unfold netCells at rA
    simp only [List.cons_append,List.nil_append] at rA
    obtain ⟨u1,u2⟩:=Bx (tlA J1 nsA.chg).rd.isI lti
    rw [eti] at u2
    have hNx:(x.2.2.1.length:Int)=10*cnt x.1.1 x.1.2.1:=hx.2.1.1
    have l9:(nPush x y1 i).2.2.2.2.2.2.1.length=x.2.2.2.2.2.2.1.length:=by rw [← ye.2.2.2.2.2.1];exact Wu (Fj x) _ _
    have l5':(nPush x y1 i).2.2.1.length=x.2.2.1.length:=by rw [← l5];exact Wu (Ri x) _ _
    have h9l:gg.1<(nPush x y1 i).2.2.2.2.2.2.1.length:=by rw [l9];have:=hx.2.1.2.2.2.2;omega
    obtain ⟨a9,r1,r2,r3,r4,r5,r6,r7⟩:=Sk (u:=(w.2.2.2.2.2.2.1.1,g9)) nsA.ow.2.2.2.2.2.2.1 h9l
    simp only at r2 r3 r7
    have vI:∀J':Heap,J'[id]? = some ⟨netCells w y1++tail,0,e⟩→VM.vnil J' (.pointer (some ⟨id,0,some 0⟩))=some (.pointer (some ⟨id,0,some 0⟩)):=fun J' h=>by simp [VM.vnil,VM.look,h]
    have vI1:=vI J1 (rowA J1 nsA.chg)
    simp [t0,t3,t4,t5,t78,t79,t80,q1,q2,Lf]
    rw [hJs]
    clear hJ1 hJs
    rw [Qe (h:=by kernel_rfl)]
    have hlw:∀k∈dNet.ids (vw w g5 w.2.2.2.2.2.1.2 g9),k<J.length:=fun k hk=>dNet.lt ns.ow k hk
    have hfg:∀k∈dNet.ids (vw w g5 w.2.2.2.2.2.1.2 g9),frz≤k:=fun k hk=>by
     rcases ns.ids k hk with h|h
     ·exact hff k h
     ·omega
    have b5i:=Wn (Xt (Rh x) ((allN x).take i) y1.2.2.1 67000000 b5) (show _≤67000080 by simp;omega)
    have b9i:=Wn (Xt (Fu x) ((allN x).take i) y1.2.2.2.2.2.2.1 67000000 (by rw [ye.2.2.2.2.2.1];exact hb9)) (show _≤67000080 by simp;omega)
    obtain ⟨w1,w2,w3,w4⟩:=Qco (mvA J1 nsA.chg) lmv
    rw [emv] at w2
    simp only [Xu] at w2
    have hJJ:([⟨[.int .i64 f.1,.int .i64 f.2.1,.int .i64 f.2.2.1,.bool f.2.2.2.1,.bool f.2.2.2.2],0,144⟩]:Heap)=[⟨flF.f f,0,144⟩]:=rfl
    have hFJ1:frz≤J1.length:=by omega
    have hF1:frz≤J.length+1:=by omega
    simp [t0,t3,t4,t5,t78,t79,t80,VM.look,rA,vI1,bx,onew,r2,u1,u2,hFJ]
    -- the flit is put
    refine Xc (F:=?FA1) (k:=?kA1) (Q:=?QA1) (fun t J2=>∃(g5' g9':List Value),t 0=.pointer (some ⟨id,0,some 0⟩)∧t 3=el∧t 4=mv∧t 5=r∧t 11=.int .i64 i∧t 12=.pointer (some ⟨J.length,0,some 0⟩)∧t 78=gl∧t 79=.int .i64 (allN x).length∧t 80=.int .i64 i∧
     J2[J.length]? = some ⟨[.int .i64 (gg.1:Int),.int .i64 (gg.2.1:Int),.int .i64 (gg.2.2:Int)],0,149⟩∧NS K J2 [] w (withArr (withBuf (nPush x y1 i) (pushS x (nPush x y1 i).2.2.1 gg)) (arrS x (nPush x y1 i).2.2.2.2.2.2.1 gg)) g5' w.2.2.2.2.2.1.2 g9'∧∀k∈dNet.ids (vw w g5' w.2.2.2.2.2.1.2 g9'),k≠J.length) ?main ?rest
    case main=>
     intro rest
     by_cases h4:gg.2.1=4
     ·have hT:tgI x gg=-1:=by unfold tgI;rw [if_pos h4]
      obtain ⟨a',K2,K3,hap,p5,p6,lv2,lv3,qb1,qb2,c2,pt⟩:=Ke (frz:=frz) (u:=(w.2.2.2.2.2.2.1.1,g9)) nsA.ow.2.2.2.2.2.2.1 (xn (n:=vw w g5 w.2.2.2.2.2.1.2 g9) nsA.nd) h9l (by have:=b9i _ (List.getElem_mem h9l);omega) (fun k hk=>hfg k (Rp (n:=vw w g5 w.2.2.2.2.2.1.2 g9) k hk)) r1 f
      simp only at p5 p6 lv2 lv3
      obtain ⟨nsC,nC,cC⟩:=nsA.arr pt
      have hwa:=Ko nsA.ow.2.2.2.2.2.2.1.1.1 (by show 0<g9.length;have:=nsA.ow.2.2.2.2.2.2.1.1.2.1;have h2:(vw w g5 w.2.2.2.2.2.1.2 g9).2.2.2.2.2.2.1.2=g9:=rfl;rw [h2] at this;omega)
      have v1:=X5 r7 hwa gg.1
      have v2:=X5 lv2 hwa gg.1
      have bx3:=Qa bx cC (fun hh=>by have:=hlw _ hh;omega)
      simp only [Xu] at hap
      simp [hT]
      rw [Qe (h:=by kernel_rfl)]
      simp [-Qp,-Qx,t0,t3,t4,t5,t78,t79,t80,VM.look,v1,r3,w1,w2,hap,v2,p6,r5,r6,qb1,qb2,hFJ1]
      refine rest _ _ ?_
      have e1:withArr (withBuf (nPush x y1 i) (pushS x (nPush x y1 i).2.2.1 gg)) (arrS x (nPush x y1 i).2.2.2.2.2.2.1 gg)=withArr (nPush x y1 i) (upd (nPush x y1 i).2.2.2.2.2.2.1 gg.1 (·++[f])):=by
       unfold pushS arrS;rw [if_pos h4,if_pos h4,hfe];rfl
      rw [e1]
      exact ⟨g5,g9.set gg.1 a',by simp [t0],by simp [t3],by simp [t4],by simp [t5],by simp,by simp,by simp [t78],by simp [t79],by simp [t80],bx3,nsC,fun k hk=>by rcases nC k hk with h|h;(have:=hlw k h;omega);omega⟩
     ·obtain ⟨hh,hroom⟩:=m4.2.1.resolve_left h4
      rw [← hc] at hroom
      obtain ⟨s1,s2,s3⟩:=Ys (c:=c) hh (by omega) (by omega)
      obtain ⟨z,hz⟩:∃z,z=tgt x gg.1 gg.2.1 c:=⟨_,rfl⟩
      rw [← hz] at s1 s2 s3
      have hT:tgI x gg=(z:Int):=by unfold tgI;rw [if_neg h4,← hc,hz]
      have hzl:z<(nPush x y1 i).2.2.1.length:=by rw [l5'];omega
      obtain ⟨az,d1,d2,d3,d4,d5,d6,d7⟩:=Sk (u:=(w.2.2.1.1,g5)) nsA.ow.2.2.1 hzl
      simp only at d2 d3 d7
      obtain ⟨a',K2,K3,hap,p5,p6,lv2,lv3,qb1,qb2,c2,pt⟩:=Ke (frz:=frz) (u:=(w.2.2.1.1,g5)) nsA.ow.2.2.1 (Ra (n:=vw w g5 w.2.2.2.2.2.1.2 g9) nsA.nd) hzl (by have:=b5i _ (List.getElem_mem hzl);omega) (fun k hk=>hfg k (Y0 (n:=vw w g5 w.2.2.2.2.2.1.2 g9) k hk)) d1 f
      simp only at p5 p6 lv2 lv3
      obtain ⟨nsC,nC,cC⟩:=nsA.buf pt
      have hwa:=Ko nsA.ow.2.2.1.1.1 (by show 0<g5.length;have:=nsA.ow.2.2.1.1.2.1;have h2:(vw w g5 w.2.2.2.2.2.1.2 g9).2.2.1.2=g5:=rfl;rw [h2] at this;omega)
      have v1:=X5 d7 hwa z
      have v2:=X5 lv2 hwa z
      have bx3:=Qa bx cC (fun hh=>by have:=hlw _ hh;omega)
      rw [hT] at u2
      simp only [Xu] at hap
      simp [hT]
      rw [Qe (h:=by kernel_rfl)]
      simp [t0,t3,t4,t5,t78,t79,t80,VM.look,rA,vI1,onew,u1,u2,d2]
      rw [Qe (h:=by kernel_rfl)]
      simp [-Qp,-Qx,t0,t3,t4,t5,t78,t79,t80,VM.look,v1,d3,w1,w2,hap,v2,p6,d5,d6,qb1,qb2,hFJ1]
      refine rest _ _ ?_
      have e1:withArr (withBuf (nPush x y1 i) (pushS x (nPush x y1 i).2.2.1 gg)) (arrS x (nPush x y1 i).2.2.2.2.2.2.1 gg)=withBuf (nPush x y1 i) (upd (nPush x y1 i).2.2.1 z (·++[f])):=by
       unfold pushS arrS;rw [if_neg h4,if_neg h4,hfe,hz,hc];rfl
      rw [e1]
      exact ⟨g5.set z a',g9,by simp [t0],by simp [t3],by simp [t4],by simp [t5],by simp,by simp,by simp [t78],by simp [t79],by simp [t80],bx3,nsC,fun k hk=>by rcases nC k hk with h|h;(have:=hlw k h;omega);omega⟩
    case rest=>
     rintro t J2 ⟨g5',g9',t0,t3,t4,t5,t11,t12,t78,t79,t80,bx2,ns2,hlw2⟩
     obtain ⟨s2,hs2⟩:∃s2,s2=withArr (withBuf (nPush x y1 i) (pushS x (nPush x y1 i).2.2.1 gg)) (arrS x (nPush x y1 i).2.2.2.2.2.2.1 gg):=⟨_,rfl⟩
     rw [← hs2] at hps ns2
     have own2:s2.2.2.2.1=(nPush x y1 i).2.2.2.1:=by rw [hs2];rfl
     have turn2:s2.2.2.2.2.1=(nPush x y1 i).2.2.2.2.1:=by rw [hs2];rfl
     have lown:s2.2.2.2.1.length=x.2.2.2.1.length:=by rw [own2,← ye.2.2.1];exact Wu (Ge x) _ _
     have lturn:s2.2.2.2.2.1.length=x.2.2.2.2.1.length:=by rw [turn2,← ye.2.2.2.1];exact Wu My _ _
     clear hs2
     have rA2:=rowA J2 ns2.chg
     have vI2:=vI J2 rA2
     unfold netCells at rA2
     simp only [List.cons_append,List.nil_append] at rA2
     obtain ⟨z,hz⟩:∃z,z=outAt gg.1 gg.2.1 c:=⟨_,rfl⟩
     have hzl:z<s2.2.2.2.1.length:=by rw [lown,hz];have:=hx.2.1.2.1;unfold outAt;omega
     have bA:=fun F=>Ti (frz:=F) (H:=J2) (n:=gg.1) (p:=gg.2.1) (c:=c) (by omega) m2 (by omega)
     rw [← hz] at bA
     obtain ⟨o1,_⟩:=Bx (Rd.isI ns2.ow.2.2.2.1.1.rd) hzl
     have o1':vindexAddr Tryz.prog J2 26 w.2.2.2.1 (.int .i64 (z:Int))=some (elp w.2.2.2.1 z):=o1
     have hfg2:∀k∈dNet.ids (vw w g5' w.2.2.2.2.2.1.2 g9'),frz≤k:=fun k hk=>by
      rcases ns2.ids k hk with h|h
      ·exact hff k h
      ·have:=ns2.chg.1;omega
     obtain ⟨J3,st3,ns3,c3⟩:=ns2.own (frz:=frz) hfg2 hzl (q:Int)
     have vo:=yu ns2.ow.2.2.2.1.1 (by omega) z
     have vo':VM.vnil J2 (elp w.2.2.2.1 z)=some (elp w.2.2.2.1 z):=vo
     rw [Qe (h:=by kernel_rfl)]
     have hnot:J.length∉dNet.ids (vw w g5' w.2.2.2.2.2.1.2 g9'):=fun hh=>hlw2 _ hh rfl
     have bx3:=Qa bx2 c3 hnot
     obtain ⟨y1',y2',y3',y4'⟩:=Qco (mvA J3 ns3.chg) lmv
     rw [emv] at y4'
     have vo3:VM.vnil J3 (elp w.2.2.2.1 z)=some (elp w.2.2.2.1 z):=yu (v:=w.2.2.2.1) ns3.ow.2.2.2.1.1 (by show 0<(s2.2.2.2.1.set z (q:Int)).length;simp;omega) z
     simp [-vfieldAddr,Xh,t0,t3,t4,t5,t11,t12,t78,t79,t80,VM.look,rA2,vI2,bx2,onew,e3,e3',bA,o1',e4,vo',st3,y1',y3',y4']
     have hos:ownS x s2.2.2.2.1 gg=s2.2.2.2.1.set z (if f.2.2.2.2 then -1 else (q:Int)):=by unfold ownS;rw [← hfe,hz,hc,hq]
     -- the owner
     refine Xc (F:=?FA2) (k:=?kA2) (Q:=?QA2) (fun t J4=>t 0=.pointer (some ⟨id,0,some 0⟩)∧t 3=el∧t 4=mv∧t 5=r∧t 12=.pointer (some ⟨J.length,0,some 0⟩)∧t 78=gl∧t 79=.int .i64 (allN x).length∧t 80=.int .i64 i∧
      J4[J.length]? = some ⟨[.int .i64 (gg.1:Int),.int .i64 (gg.2.1:Int),.int .i64 (gg.2.2:Int)],0,149⟩∧NS K J4 [] w (withOwn s2 (ownS x s2.2.2.2.1 gg)) g5' w.2.2.2.2.2.1.2 g9') ?main2 ?rest2
     case main2=>
      intro rest
      cases ht:f.2.2.2.2 with
      | false=>
       rw [ht,if_neg (by simp)] at hos
       simp
       refine rest _ _ ?_
       rw [hos]
       exact ⟨by simp [t0],by simp [t3],by simp [t4],by simp [t5],by simp [t12],by simp [t78],by simp [t79],by simp [t80],bx3,ns3⟩
      | true=>
       rw [ht,if_pos rfl] at hos
       obtain ⟨J4,st4,ns4,c4⟩:=ns3.own (frz:=frz) hfg2 (j:=z) (by show z<(s2.2.2.2.1.set z (q:Int)).length;simp;omega) (-1)
       have e1:withOwn (withOwn s2 (s2.2.2.2.1.set z (q:Int))) ((withOwn s2 (s2.2.2.2.1.set z (q:Int))).2.2.2.1.set z (-1))=withOwn s2 (s2.2.2.2.1.set z (-1)):=by
        show withOwn s2 ((s2.2.2.2.1.set z (q:Int)).set z (-1))=_
        rw [List.set_set]
       rw [e1] at ns4
       simp [t0,t3,t4,t5,t11,t12,t78,t79,t80,vo3,st4]
       refine rest _ _ ?_
       rw [hos]
       exact ⟨by simp [t0],by simp [t3],by simp [t4],by simp [t5],by simp [t12],by simp [t78],by simp [t79],by simp [t80],Qa bx3 c4 hnot,ns4⟩
     case rest2=>
      rintro t J4 ⟨t0,t3,t4,t5,t12,t78,t79,t80,bx4,ns4⟩
      have rA4:=rowA J4 ns4.chg
      have vI4:=vI J4 rA4
      unfold netCells at rA4
      simp only [List.cons_append,List.nil_append] at rA4
      obtain ⟨zt,hzt⟩:∃zt,zt=5*gg.1+gg.2.1:=⟨_,rfl⟩
      obtain ⟨d,hd⟩:∃d,d=(gg.2.2+1)%10:=⟨_,rfl⟩
      have hztl:zt<s2.2.2.2.2.1.length:=by rw [lturn,hzt];have:=hx.2.1.2.2.1;omega
      obtain ⟨o4,_⟩:=Bx (Rd.isI ns4.ow.2.2.2.2.1.1.rd) hztl
      have o4':vindexAddr Tryz.prog J4 26 w.2.2.2.2.1 (.int .i64 (zt:Int))=some (elp w.2.2.2.2.1 zt):=o4
      obtain ⟨J5,st5,ns5,c5⟩:=ns4.turn (frz:=frz) hfg2 (j:=zt) hztl (d:Int)
      have k1:=@w6 (5*(gg.1:Int)) (by omega)
      have k2:∀[Inhabited Unit],IntKind.i64.wrap (5*(gg.1:Int)+(gg.2.1:Int))=(zt:Int):=by intro _;rw [w64 (by omega) (by omega)];omega
      have k3:=@w6 ((gg.2.2:Int)+1) (by omega)
      have k4:∀[Inhabited Unit],((gg.2.2:Int)+1).tmod 10=(d:Int):=by intro _;rw [Int.tmod_eq_emod_of_nonneg (by omega)];omega
      have k4':∀[Inhabited Unit],((gg.2.2:Int)+1)%10=(d:Int):=by intro _;omega
      have hts:turnS s2.2.2.2.2.1 gg=s2.2.2.2.2.1.set zt (d:Int):=by unfold turnS;rw [hzt,hd]
      rw [← own2,← turn2,hts] at hps
      rw [Qe (h:=by kernel_rfl)]
      simp [t0,t3,t4,t5,t12,t78,t79,t80,VM.look,rA4,vI4,bx4,onew,k1,k2,k3,k4,k4',o4',st5]
      refine ih ((allN x).length-(i+1)) _ _ ⟨i+1,g5',g9',rfl,by omega,by simp [t0],by simp [t3],by simp [t4],by simp [t5],by simp [t78],by simp [t79],?_,by rw [hps];exact ns5⟩ (by omega)
      simp [t80];rw [w64 (by omega) (by omega)]
   ·have hil:i=(allN x).length:=by omega
    subst hil
    clear ih
    have oE4:=oE3.chg ns.chg (fun k hk hh=>by
     rw [List.nil_append] at hh
     exact hgw k (by have:=nE k hk;omega) (by have:=ltE k hk;omega) hh)
    have hel:=oE4.rd.len (P:=Tryz.prog) (ty:=26) (by simp)
    rw [List.length_map] at hel
    obtain ⟨y3,hy3⟩:∃y3,y3=nPush x y1 (allN x).length:=⟨_,rfl⟩
    rw [← hy3] at ns
    have ye3:y3.1=x.1∧y3.2.1=x.2.1∧y3.2.2.2.2.2.1=x.2.2.2.2.2.1∧y3.2.2.2.2.2.2.2=x.2.2.2.2.2.2.2:=by rw [hy3];exact ⟨ye.1,ye.2.1,ye.2.2.2.2.1,ye.2.2.2.2.2.2⟩
    have l53:y3.2.2.1.length=x.2.2.1.length:=by rw [hy3,← l5];exact Wu (Ri x) _ _
    have b53:allL 67000080 y3.2.2.1:=by
     rw [hy3]
     refine Wn (Xt (Rh x) ((allN x).take (allN x).length) y1.2.2.1 67000000 b5) ?_
     simp;omega
    have hE:=Oe x
    have hEat:=fun k (hk:k∈enterN x)=>Xi hk
    have hEnd:=Vw x
    simp [t0,t3,t4,t5,t78,t79,t80,hel]
    -- what enters
    refine Qh (fun n t J=>∃(i:Nat) (g5 g8:List Value),n=(enterN x).length-i∧i≤(enterN x).length∧t 0=.pointer (some ⟨id,0,some 0⟩)∧t 158=el∧t 159=.int .i64 (enterN x).length∧t 160=.int .i64 i∧
     NS K J [] w (nEnt x y3 i) g5 g8 g9) ?_ (n:=(enterN x).length)
     ⟨0,g5,w.2.2.2.2.2.1.2,rfl,by omega,by simp [t0],by simp,by simp,by simp,ns⟩
    clear t0 t3 t4 t5 t78 t79 t80 oE4 hel ns
    rintro n t J ⟨i,g5,g8,rfl,hi,t0,t158,t159,t160,ns⟩ ih
    simp [t0,t158,t159,t160]
    refine Qc ?_ ?_<;>intro g
    ·have hi':i<(enterN x).length:=by omega
     have oE4:=oE3.chg ns.chg (fun k hk hh=>by
      rw [List.nil_append] at hh
      exact hgw k (by have:=nE k hk;omega) (by have:=ltE k hk;omega) hh)
     obtain ⟨u1,u2⟩:=Bx oE4.rd.isI (i:=i) (by simpa using hi')
     have eel:((enterN x).map Int.ofNat)[i]'(by simpa using hi')=((enterN x)[i]:Int):=by simp
     rw [eel] at u2
     obtain ⟨m1,m2⟩:=hEat _ (List.getElem_mem hi')
     have hps:=xx (y:=y3) hi'
     have hsat:(nEnt x y3 i).2.2.2.2.2.1.getD (enterN x)[i] []=x.2.2.2.2.2.1.getD (enterN x)[i] []:=by
      rw [← ye3.2.2.1]
      have hnt:=Ff (f:=fun k:Nat=>k) (by simpa using hEnd) hi'
      exact Bw _ _ _ (by simpa using hnt)
     generalize (enterN x)[i]=k at *
     have hks:k<(nEnt x y3 i).2.2.2.2.2.1.length:=by
      have:(nEnt x y3 i).2.2.2.2.2.1.length=y3.2.2.2.2.2.1.length:=Wu Ga _ _
      rw [this,ye3.2.2.1];have:=hx.2.1.2.2.2.1;omega
     have hgd:(nEnt x y3 i).2.2.2.2.2.1.getD k []=(nEnt x y3 i).2.2.2.2.2.1[k]:=by simp [List.getD_eq_getElem?_getD,hks]
     have hne:(nEnt x y3 i).2.2.2.2.2.1[k]≠[]:=by rw [← hgd,hsat];exact m2.1
     have hhd:headL (nEnt x y3 i).2.2.2.2.2.1[k]=srcHead x k:=by rw [← hgd,hsat];rfl
     obtain ⟨en1,en2,en3⟩:=Re hx m2.1
     have hcl:=en1.2
     obtain ⟨f,hfe⟩:∃f,f=srcHead x k:=⟨_,rfl⟩
     obtain ⟨z,hz⟩:∃z,z=entAt x k:=⟨_,rfl⟩
     rw [← hfe,← hz] at en2
     rw [← hfe] at hhd hcl
     have hzl:z<(nEnt x y3 i).2.2.1.length:=by
      have:(nEnt x y3 i).2.2.1.length=y3.2.2.1.length:=Wu (I4 x) _ _
      rw [this,l53];have:=hx.2.1.1;unfold inR at hcl;omega
     have b5i:=Wn (Xt (Fz x) ((enterN x).take i) y3.2.2.1 67000080 b53) (show _≤67000096 by simp;omega)
     have rA:∀J':Heap,Chg K J' ([]++dNet.ids w)→J'[id]? = some ⟨netCells w y1++tail,0,e⟩:=fun J' c=>Qa hrK c (by simpa using hidw)
     have vI:∀J':Heap,J'[id]? = some ⟨netCells w y1++tail,0,e⟩→VM.vnil J' (.pointer (some ⟨id,0,some 0⟩))=some (.pointer (some ⟨id,0,some 0⟩)):=fun J' h=>by simp [VM.vnil,VM.look,h]
     obtain ⟨J1,hJ1⟩:∃J1,J1=J++[⟨flF.f f,0,144⟩]:=⟨_,rfl⟩
     have cJ:Chg J J1 []:=by rw [hJ1];exact Chg.app _
     have lJ:J1.length=J.length+1:=by rw [hJ1];simp
     have bx:J1[J.length]? = some ⟨flF.f f,0,144⟩:=by rw [hJ1];simp
     have hJs:J++[⟨flF.f f,0,144⟩]=J1:=hJ1.symm
     simp only [Xu] at bx hJs
     have nsA:=ns.other cJ (by simp) (by simp)
     have hlw:∀l∈dNet.ids (vw w g5 g8 g9),l<J.length:=fun l hl=>dNet.lt ns.ow l hl
     have hFJ:frz≤J.length:=by have:=ns.chg.1;omega
     have hfg:∀l∈dNet.ids (vw w g5 g8 g9),frz≤l:=fun l hl=>by
      rcases ns.ids l hl with h|h
      ·exact hff l h
      ·omega
     obtain ⟨a8,r1,r2,r3,r4,r5,r6,r7⟩:=Sk (u:=(w.2.2.2.2.2.1.1,g8)) ns.ow.2.2.2.2.2.1 hks
     simp only at r2 r3 r7
     obtain ⟨z0,_,_,_,_,_,_,zw⟩:=front r4.rd hne
     rw [hhd] at zw
     simp only [Xu] at zw
     obtain ⟨az,d1,d2,d3,d4,d5,d6,d7⟩:=Sk (u:=(w.2.2.1.1,g5)) nsA.ow.2.2.1 hzl
     simp only at d2 d3 d7
     obtain ⟨a',K2,K3,hap,p5,p6,lv2,lv3,qb1,qb2,c2,pt⟩:=Ke (frz:=frz) (u:=(w.2.2.1.1,g5)) nsA.ow.2.2.1 (Ra (n:=vw w g5 g8 g9) nsA.nd) hzl (by have:=b5i _ (List.getElem_mem hzl);omega) (fun l hl=>hfg l (Y0 (n:=vw w g5 g8 g9) l hl)) d1 f
     simp only at p5 p6 lv2 lv3
     obtain ⟨nsB,nB,cB⟩:=nsA.buf pt
     simp only [Xu] at hap
     have hfg2:∀l∈dNet.ids (vw w (g5.set z a') g8 g9),frz≤l:=fun l hl=>by
      rcases nB l hl with h|h
      ·exact hfg l h
      ·omega
     have hFK3:frz≤K3.length:=by have:=cB.1;omega
     obtain ⟨a8',s1,s2,s3,s4,s5,s6,s7⟩:=Sk (u:=(w.2.2.2.2.2.1.1,g8)) nsB.ow.2.2.2.2.2.1 hks
     have ea8:a8'=a8:=by rw [r1] at s1;exact (Option.some.inj s1).symm
     subst ea8
     simp only at s2 s3 s7
     obtain ⟨zz,b',M2,M3,t3',t4',t5',t6',mv2,mv3,qc1,qc2,cc2,pt2⟩:=Qbt (frz:=frz) (u:=(w.2.2.2.2.2.1.1,g8)) nsB.ow.2.2.2.2.2.1 (M6 (n:=vw w (g5.set z a') g8 g9) nsB.nd) hks hne (fun l hl=>hfg2 l (Zo (n:=vw w (g5.set z a') g8 g9) l hl)) s1
     simp only at t5' t6' mv2 mv3
     obtain ⟨nsC,nC,cC⟩:=nsB.src pt2
     have rJ:=rA J ns.chg
     have rJ1:=rA J1 nsA.chg
     have rK3:=rA K3 nsB.chg
     have vJ:=vI J rJ
     have vJ1:=vI J1 rJ1
     have vK3:=vI K3 rK3
     have hidg:id∉dNet.ids (vw w g5 g8 g9):=fun hh=>by
      rcases ns.ids _ hh with h|h
      ·exact hidw h
      ·have:=Qs hrK;omega
     have rK2:K2[id]? = some ⟨netCells w y1++tail,0,e⟩:=Qa rJ1 c2 (fun hh=>hidg (Y0 (n:=vw w g5 g8 g9) id (U6 d1 hh)))
     have rM2:M2[id]? = some ⟨netCells w y1++tail,0,e⟩:=Qa rK3 cc2 (by simp)
     have rM3:=rA M3 nsC.chg
     have rJL:=fun L=>Ql rJ1 L
     have lvL:∀L:Heap,VM.live (J1++L) w.2.2.1.1:=fun L=>W5 (v:=w.2.2.1.1) (Ow.app (L:=L) nsA.ow.2.2.1.1.1)
     have rM:∀L:Heap,(K3++L)[id]? = some ⟨netCells w y1++tail,0,e⟩:=fun L=>Ql rK3 L
     have vM:=fun L=>vI (K3++L) (rM L)
     unfold netCells at rJ rJ1 rK3 rM rK2 rM2 rM3 rJL
     simp only [List.cons_append,List.nil_append] at rJ rJ1 rK3 rM rK2 rM2 rM3 rJL
     have bA:∀F,vcall C F 101 [.int .i64 (k:Int),.int .i64 4,.int .i64 f.2.2.1] J1=some (.int .i64 (z:Int),J1):=fun F=>by
      rw [Ul,if_pos ⟨⟨by omega,by omega⟩,⟨by omega,by omega⟩,hcl⟩,en2];congr 3
     simp [t0,t158,t159,t160,u1,u2,VM.look,rJ,vJ,onew,r2,r3,r5,r6,z0,zw]
     rw [hJs]
     clear hJ1 hJs
     simp [t0,t158,t159,t160,VM.look,bx,bA]
     rw [U8 (fl:=([3],[16])) (h:=⟨by kernel_rfl,by kernel_rfl,by kernel_rfl,by kernel_rfl⟩)]
     simp [emps,empOp,empB,-Qp,-Qx,t0,t158,t159,t160,VM.look,rJ1,vJ1,onew,d2,d3,d5,d6,bx,hap,p5,p6,d7,lv2,lv3,qb1,qb2,hFJ,rJL,lvL,rK2,rK3]
     rw [T8 (h:=⟨by kernel_rfl,by kernel_rfl⟩)]
     simp [emps,empOp,empB,-Qp,-Qx,t0,t158,t159,t160,VM.look,rK3,vK3,onew,s2,s3,s5,s6,s7,rM,vM,t3',t4',t5',t6',rM2,rM3,mv2,mv3,qc1,qc2,hFK3]
     refine ih ((enterN x).length-(i+1)) _ _ ⟨i+1,g5.set z a',g8.set k b',rfl,by omega,by simp [t0],by simp [t158],by simp [t159],?_,?_⟩ (by omega)
     ·simp [t160];rw [w64 (by omega) (by omega)]
     ·rw [hps]
      have e1:entS x (nEnt x y3 i).2.2.1 k=upd (nEnt x y3 i).2.2.1 z (·++[f]):=by unfold entS;rw [← hz,← hfe]
      rw [e1]
      exact nsC
    ·have hil:i=(enterN x).length:=by omega
     subst hil
     clear ih
     have ec:netCells w y1=netCells w x:=by unfold netCells;rw [ye.1,ye.2.2.2.2.2.2]
     have rJ:J[id]? = some ⟨netCells w x++tail,0,e⟩:=by rw [← ec];exact Qa hrK ns.chg (by simpa using hidw)
     have hse:stepN x=older (nEnt x y3 (enterN x).length) 1:=by rw [Qbg,← hy1,← hy3]
     have lJ:=ns.chg.1
     unfold netCells at rJ
     simp only [List.cons_append,List.nil_append] at rJ
     have vJ:VM.vnil J (.pointer (some ⟨id,0,some 0⟩))=some (.pointer (some ⟨id,0,some 0⟩)):=by simp [VM.vnil,VM.look,rJ]
     have et:∀[Inhabited Unit],IntKind.i64.wrap (x.2.2.2.2.2.2.2+1)=x.2.2.2.2.2.2.2+1:=by intro _;unfold inR at ht;exact w64 (by omega) (by omega)
     simp [t0,t158,t159,t160,VM.look,rJ,vJ,et,hfi]
     have hidg:id∉dNet.ids (vw w g5 g8 g9):=fun hh=>by
      rcases ns.ids _ hh with h|h
      ·exact hidw h
      ·have:=Qs hrK;omega
     refine ⟨vw w g5 g8 g9,Qi rJ,?_,ns.nd,fun k hk=>?_,?_⟩
     ·rw [hse]
      exact Dt.chg (T:=dNet) ns.ow (Qg _ _) (fun k hk hh=>by simp at hh;exact hidg (hh▸hk))
     ·rcases ns.ids k hk with h|h
      ·rcases hfw k h with h|h
       ·exact .inl h
       ·exact .inr (by omega)
      ·exact .inr (by omega)
     ·have c1:Chg H K (id::dNet.ids v):=(cK0.mono (fun _ h=>by cases h)).trans' c1K (fun k hk=>by
       rcases List.mem_append.1 hk with h|h
       ·simp at h;exact .inr (by omega)
       ·exact .inl (List.mem_cons_of_mem _ h))
      refine (c1.trans' ns.chg (fun k hk=>?_)).trans (Chg.mono (Qg _ _) (fun k hk=>by simp at hk;rw [hk];exact List.mem_cons_self ..))
      rw [List.nil_append] at hk
      rcases hfw k hk with h|h
      ·exact .inl (List.mem_cons_of_mem _ h)
      ·exact .inr (by omega)
def runs (x:NetD) (k:Int):Prop:=netOk x∧inR 0 k 400∧x.2.2.2.2.2.2.2+k≤1000000
instance (x:NetD) (k:Int):Decidable (runs x k):=inferInstanceAs (Decidable (_∧_))
noncomputable def runNet (x:NetD) (k:Int):NetD:=if runs x k then runN x k.toNat else x
theorem M5 {x:NetD} (h:netOk x):allL 66000000 x.2.2.1:=fun l hl=>by
 obtain ⟨i,hi,rfl⟩:=List.getElem_of_mem hl
 have:=(h.2.2.1 i hi).1
 rw [V2 hi] at this
 omega
theorem gq {x:NetD} (h:runOk x) (h5:allL 66000000 x.2.2.1) (h9:allL 66000000 x.2.2.2.2.2.2.1) {i:Nat} (hi:i≤400):runOk (runN x i)∧allL 67000000 (runN x i).2.2.1∧allL 67000000 (runN x i).2.2.2.2.2.2.1∧(runN x i).2.2.2.2.2.2.2=x.2.2.2.2.2.2.2+i:=by
 obtain ⟨a,b⟩:=Md h5 h9 i
 exact ⟨zk h i,Wn a (by omega),Wn b (by omega),Uz x i⟩
theorem Ed {v:NetV} {x:NetD} {k:Int} (o:dNet.Ow H v x):vcall C frz 66 [dNet.val v x,.int .i64 k] H=some (.bool (decide (runs x k)),H):=by
 refine wp.exact (by simp) ?_ rfl
 have ones:=Qn o
 have nk:=fun F L=>Vx (frz:=F) (H:=H++L) (v:=v) (x:=x) (Dt.app (T:=dNet) o)
 simp only [Qk] at nk ⊢
 rw [Qb (fn:=Tryz.f66) Tryz.func66 rfl (by kernel_rfl) rfl]
 generalize hY:decide (runs x k)=Y
 have no:¬runs x k→Y=false:=fun hh=>by rw [← hY];exact decide_eq_false hh
 by_cases h1:netOk x
 rotate_left
 ·simp [ones,VM.look,nk,h1];exact no (fun k=>h1 k.1)
 by_cases h2:inR 0 k 400
 rotate_left
 ·simp [ones,VM.look,nk,h1,Qj,h2];exact no (fun k=>h2 k.2.1)
 have ht:=h1.2.2.2.2.2.2
 unfold inR at ht
 have e1:∀[Inhabited Unit],IntKind.i64.wrap (x.2.2.2.2.2.2.2+k)=x.2.2.2.2.2.2.2+k:=by intro _;unfold inR at h2;exact w64 (by omega) (by omega)
 have key:runs x k↔x.2.2.2.2.2.2.2+k≤1000000:=⟨fun h=>h.2.2,fun h=>⟨h1,h2,h⟩⟩
 simp [ones,VM.look,nk,h1,Qj,h2,e1]
 rw [← hY];simp only [key]
theorem gz {v:NetV} {x:NetD} {k:Int} (o:dNet.Ow H v x) (h9:allL 66000000 x.2.2.2.2.2.2.1) :
 wp (vcall C frz 164 [dNet.val v x,.int .i64 k] H) (Made2 dNet H (runNet x k) (decide (runs x k))):=by
 have ones:=Qn o
 have ecopy:=fun L=>Y2 (frz:=H.length) (H:=H++L) (v:=v) (x:=x) (Dt.app (T:=dNet) o)
 have ck:=fun F K (c:Chg H K [])=>Ed (frz:=F) (H:=K) (v:=v) (x:=x) (k:=k) (Dt.chg (T:=dNet) o c (by simp))
 simp only [Qk] at ecopy ck ⊢
 rw [Qb (fn:=Tryz.f164) Tryz.func164 rfl (by kernel_rfl) rfl]
 simp [ones]
 refine Qd (ecopy _) ?_
 rintro _ K ⟨n,rfl,on,cn,mn,dn⟩
 simp at mn
 have qn:=Qn on
 have lK:=cn.1
 simp at lK
 have hF:H.length≤K.length:=by omega
 have ltn:∀i∈dNet.ids n,i<K.length:=fun i hi=>dNet.lt on i hi
 simp [Qk,qn,VM.look,hF]
 obtain ⟨K1,hK1⟩:∃K1,K1=K++[⟨netCells n x,0,38⟩]:=⟨_,rfl⟩
 have c1:Chg K K1 []:=by rw [hK1];exact Chg.app _
 have cK:Chg H K []:=(Chg.app _).trans cn
 have cK1:=cK.trans c1
 have l1:K1.length=K.length+1:=by rw [hK1];simp
 have b1:K1[H.length]? = some ⟨netCells v x,0,38⟩:=Qa (Qa (by simp [netCells]) cn (by simp)) c1 (by simp)
 have bR:K1[H.length+1]? = some ⟨[.int .i64 0,.int .i64 0,.slice none 0 0,.slice none 0 0,.slice none 0 0,.slice none 0 0,.slice none 0 0,.slice none 0 0,.slice none 0 0,.slice none 0 0,.int .i64 0],0,38⟩:=Qa (Qa (by simp) cn (by simp)) c1 (by simp)
 have b3:K1[K.length]? = some ⟨netCells n x,0,38⟩:=by rw [hK1];simp
 have on1:=Dt.chg (T:=dNet) on c1 (by simp)
 have hKs:K++[⟨netCells n x,0,38⟩]=K1:=hK1.symm
 have b1':=b1
 unfold netCells at hKs b1'
 rw [hKs]
 clear hK1 hKs
 have ck':=fun F=>ck F K1 cK1
 have hF1:H.length≤H.length+1:=by omega
 -- what is handed back
 have fin:∀(J:Heap) (w:NetV) (y:NetD) (b:Bool),Chg H J []→J[H.length+1]? = some ⟨[.int .i64 0,.int .i64 0,.slice none 0 0,.slice none 0 0,.slice none 0 0,.slice none 0 0,.slice none 0 0,.slice none 0 0,.slice none 0 0,.slice none 0 0,.int .i64 0],0,38⟩→
  dNet.Ow J w y→(dNet.ids w).Nodup→(∀i∈dNet.ids w,H.length+2≤i)→runNet x k=y→decide (runs x k)=b→Made2 dNet H (runNet x k) (decide (runs x k)) (.tuple #[dNet.val w y,.bool b]) (J.set (H.length+1) ⟨netCells w y,0,38⟩):=fun J w y b cJ bJ oJ dJ mJ e1 e2=>by
  rw [e1,e2]
  exact ⟨_,rfl,w,rfl,Dt.chg (T:=dNet) oJ (Qg _ _) (fun i hi hh=>by have:=mJ i hi;simp at hh;omega),cJ.trans' (Qg _ _) (fun i hi=>.inr (by simp at hi;omega)),fun i hi=>by have:=mJ i hi;omega,dJ⟩
 by_cases g0:runs x k
 rotate_left
 ·have gR:=Qi (r':=⟨netCells n x,0,38⟩) bR
  have hM:=fin K1 n x false cK1 bR on1 dn (fun i hi=>by have:=mn i hi;omega) (if_neg g0) (decide_eq_false g0)
  have b3':=b3
  unfold netCells at b3' gR
  simp [VM.look,b1',ones,ck',g0,b3',bR,gR,qn,hF1]
  simpa [g0,Qk,netCells] using hM
 obtain ⟨m,hm⟩:∃m:Nat,k=m:=⟨k.toNat,by have:=g0.2.1.1;omega⟩
 subst hm
 have hm4:m≤400:=by have:=g0.2.1.2;omega
 have ht:=g0.1.2.2.2.2.2.2
 have ht2:=g0.2.2
 unfold inR at ht
 have hro:=Uu g0.1
 have ra:=fun i (hi:i≤m)=>gq (i:=i) hro (M5 g0.1) h9 (by omega)
 simp [VM.look,b1',ones,ck',g0]
 refine Qh (fun q t J=>∃(i:Nat) (w:NetV),q=m-i∧i≤m∧t 6=.pointer (some ⟨K.length,0,some 0⟩)∧t 4=.pointer (some ⟨H.length+1,0,some 0⟩)∧t 14=.int .i64 m∧t 15=.int .i64 i∧J[K.length]? = some ⟨netCells w (runN x i),0,38⟩∧dNet.Ow J w (runN x i)∧(dNet.ids w).Nodup∧(∀i∈dNet.ids w,H.length+2≤i∧i≠K.length)∧
  J[H.length+1]? = some ⟨[.int .i64 0,.int .i64 0,.slice none 0 0,.slice none 0 0,.slice none 0 0,.slice none 0 0,.slice none 0 0,.slice none 0 0,.slice none 0 0,.slice none 0 0,.int .i64 0],0,38⟩∧Chg H J []) ?_ (n:=m)
  ⟨0,n,rfl,by omega,by simp,by simp,by simp,by simp,b3,on1,dn,fun i hi=>⟨by have:=mn i hi;omega,by have:=ltn i hi;omega⟩,bR,cK1⟩
 rintro q t J ⟨i,w,rfl,hi,t6,t4,t14,t15,bJ,oJ,dJ,mJ,bRJ,cJ⟩ ih
 simp [t6,t4,t14,t15]
 refine Qc ?_ ?_<;>intro g
 ·have hi':i<m:=by omega
  obtain ⟨r1,r2,r3,r4⟩:=ra i (by omega)
  have lJ:=Qs bJ
  have st:=Qaa (frz:=H.length) (id:=K.length) (tail:=[]) (e:=38) (by simpa using bJ) oJ dJ (fun i hi=>by have:=(mJ i hi).1;omega) hF (fun hh=>(mJ _ hh).2 rfl) cJ.1 r1 r2 r3 (by rw [r4];unfold inR;omega)
  simp [t6,t4,t14,t15]
  refine Qd st ?_
  rintro _ J2 ⟨w2,s1,s2,s3,s4,s5⟩
  rw [List.append_nil] at s1
  simp [t6,t4,t14,t15]
  refine ih (m-(i+1)) _ _ ⟨i+1,w2,rfl,by omega,by simp [t6],by simp [t4],by simp [t14],?_,s1,s2,s3,fun j hj=>?_,Qa bRJ s5 (fun hh=>?_),cJ.trans' s5 (fun j hj=>?_)⟩ (by omega)
  ·simp [t15];rw [w64 (by omega) (by omega)]
  ·rcases s4 j hj with h|h
   ·exact mJ j h
   ·exact ⟨by omega,by omega⟩
  ·rcases List.mem_cons.1 hh with h|h
   ·omega
   ·have:=(mJ _ h).1;omega
  ·right
   rcases List.mem_cons.1 hj with h|h
   ·omega
   ·have:=(mJ _ h).1;omega
 ·have:i=m:=by omega
  subst this
  have gR:=Qi (r':=⟨netCells w (runN x i),0,38⟩) bRJ
  have oneJ:=Qn oJ
  have hM:=fin J w (runN x i) true cJ bRJ oJ dJ (fun j hj=>(mJ j hj).1) (by unfold runNet;rw [if_pos g0,Int.toNat_natCast]) (decide_eq_true g0)
  unfold netCells at bJ gR
  simp [t6,t4,t14,t15,VM.look,bJ,bRJ,gR,oneJ,hF1]
  simpa [g0,Qk,netCells] using hM
end Go.Proofs.YtaldglgobgjeaaaGreat.V
set_option linter.all false
namespace Go.Proofs.YtaldglgobgjeaaaGreat.V
open Go Go.VM Go.Proofs
set_option maxRecDepth 10000
def key (g:GrD):Nat×Nat:=(g.1,g.2.1)
theorem Lm (x:NetD) (a:Nat):∀p,p≤5→((grTo x a p).1.map key).Nodup
 | 0,_=>by simp [grTo]
 | p+1,hp=>by
  have ih:=Lm x a p (by omega)
  obtain ⟨_,h2,_,_⟩:=Vz x a p (by omega)
  rw [Zs]
  unfold grStep
  generalize grTo x a p=st at *
  split
  ·rw [List.map_append]
   refine List.nodup_append.2 ⟨ih,by simp,fun y hy z hz e=>?_⟩
   obtain ⟨g,hg,rfl⟩:=List.mem_map.1 hy
   simp at hz
   have:=(h2 g hg).2.1
   rw [hz] at e
   unfold key at e
   simp only [Prod.mk.injEq] at e
   omega
  ·exact ih
theorem Y4 (x:NetD):∀n,((allTo x n).map key).Nodup
 | 0=>by simp [allTo]
 | n+1=>by
  rw [Tk,List.map_append]
  refine List.nodup_append.2 ⟨Y4 x n,Lm x n 5 (by omega),fun y hy z hz e=>?_⟩
  obtain ⟨g,hg,rfl⟩:=List.mem_map.1 hy
  obtain ⟨g',hg',rfl⟩:=List.mem_map.1 hz
  have h1:=((Zr x n).1 g hg).1
  have h2:=((Vz x n 5 (by omega)).at' g' hg').1
  unfold key at e
  simp only [Prod.mk.injEq] at e
  omega
theorem Aa {x:NetD} {a p c a' p' c':Nat} (h:has x.1.1 x.1.2.1 x.1.2.2 (4*(a:Int)+p)) (h':has x.1.1 x.1.2.1 x.1.2.2 (4*(a':Int)+p')) (hp:p<4) (hp':p'<4) (hc:c<2) (hc':c'<2)
 (ha:(a:Int)<cnt x.1.1 x.1.2.1) (ha':(a':Int)<cnt x.1.1 x.1.2.1) (e:tgt x a p c=tgt x a' p' c'):a=a'∧p=p':=by
 obtain ⟨u1,_,_⟩:=Ys (c:=c) h hp hc
 obtain ⟨v1,_,_⟩:=Ys (c:=c') h' hp' hc'
 obtain ⟨⟨n1,n2⟩,o1,o2⟩:=Rb (c:=c) h hp
 obtain ⟨⟨m1,m2⟩,q1,q2⟩:=Rb (c:=c') h' hp'
 obtain ⟨g1,_,_,_,g5⟩:=geo (w:=x.1.1) (h:=x.1.2.1) (a:=a) hp ⟨by omega,ha⟩ n1
 obtain ⟨k1,_,_,_,k5⟩:=geo (w:=x.1.1) (h:=x.1.2.1) (a:=a') hp' ⟨by omega,ha'⟩ m1
 have e1:next x.1.1 x.1.2.1 a p=next x.1.1 x.1.2.1 a' p':=by omega
 have e2:opp (p:Int)=opp (p':Int):=by omega
 rw [e1,e2] at g1
 rw [e2] at g5
 constructor<;>omega
theorem ze (x:NetD):(allN x).Pairwise fun g g'=>g.2.1≠4→g'.2.1≠4→tgt x g.1 g.2.1 (g.2.2%2)≠tgt x g'.1 g'.2.1 (g'.2.2%2):=by
 have hk:(allN x).Pairwise fun g g'=>key g≠key g':=by
  have:=Y4 x (cnt x.1.1 x.1.2.1).toNat
  exact List.pairwise_map.1 this
 refine hk.imp_of_mem fun {g g'} hg hg' hne h4 h4' e=>hne ?_
 obtain ⟨a1,a2,a3,a4⟩:=Yt hg
 obtain ⟨b1,b2,b3,b4⟩:=Yt hg'
 obtain ⟨hh,_⟩:=a4.2.1.resolve_left h4
 obtain ⟨hh',_⟩:=b4.2.1.resolve_left h4'
 obtain ⟨e1,e2⟩:=Aa hh hh' (by omega) (by omega) (by omega) (by omega) a1 b1 e
 unfold key;rw [e1,e2]
def gets (x:NetD) (M:List GrD) (j:Nat):Prop:=∃g∈M,g.2.1≠4∧tgt x g.1 g.2.1 (g.2.2%2)=j
theorem Qai (x:NetD) (s:SSD) (g:GrD) (j:Nat):((pushS x s g).getD j []).length≤(s.getD j []).length+1∧(¬(g.2.1≠4∧tgt x g.1 g.2.1 (g.2.2%2)=j)→(pushS x s g).getD j []=s.getD j []):=by
 unfold pushS
 split
 ·exact ⟨by omega,fun _=>rfl⟩
 ·rename_i h4
  by_cases e:tgt x g.1 g.2.1 (g.2.2%2)=j
  ·refine ⟨?_,fun k=>absurd ⟨h4,e⟩ k⟩
   rw [← e]
   by_cases hl:tgt x g.1 g.2.1 (g.2.2%2)<s.length
   ·rw [Ww _ hl];simp
   ·simp [upd,List.set_eq_of_length_le (Nat.le_of_not_lt hl)]
  ·rw [Q7 _ e];exact ⟨by omega,fun _=>rfl⟩
theorem Nv (x:NetD):∀(M:List GrD) (s:SSD) (j:Nat),(M.Pairwise fun g g'=>g.2.1≠4→g'.2.1≠4→tgt x g.1 g.2.1 (g.2.2%2)≠tgt x g'.1 g'.2.1 (g'.2.2%2))→
 ((M.foldl (pushS x) s).getD j []).length≤(s.getD j []).length+1∧(¬gets x M j→(M.foldl (pushS x) s).getD j []=s.getD j [])
 | [],s,j,_=>⟨by simp,fun _=>rfl⟩
 | g::M,s,j,h=>by
  obtain ⟨h1,h2⟩:=List.pairwise_cons.1 h
  obtain ⟨i1,i2⟩:=Nv x M (pushS x s g) j h2
  obtain ⟨p1,p2⟩:=Qai x s g j
  rw [List.foldl_cons]
  by_cases hg:g.2.1≠4∧tgt x g.1 g.2.1 (g.2.2%2)=j
  ·have hn:¬gets x M j:=fun ⟨g',hg',k1,k2⟩=>h1 g' hg' hg.1 k1 (hg.2.trans k2.symm)
   rw [i2 hn]
   exact ⟨p1,fun k=>absurd ⟨g,List.mem_cons_self ..,hg⟩ k⟩
  ·rw [p2 hg] at i1 i2
   exact ⟨i1,fun k=>i2 fun ⟨g',hg',kk⟩=>k ⟨g',List.mem_cons_of_mem _ hg',kk⟩⟩
theorem C8 (x:NetD):∀(M:List GrD) (s:SSD) (j:Nat),((M.foldl popS s).getD j []).length≤(s.getD j []).length
 | [],s,j=>Nat.le_refl _
 | g::M,s,j=>by
  refine Nat.le_trans (C8 x M (popS s g) j) ?_
  unfold popS
  by_cases e:frm g=j
  ·rw [← e]
   by_cases hl:frm g<s.length
   ·rw [Ww _ hl,List.length_drop];omega
   ·simp [upd,List.set_eq_of_length_le (Nat.le_of_not_lt hl)]
  ·rw [Q7 _ e];exact Nat.le_refl _
theorem It (x:NetD):∀(E:List Nat) (s:SSD) (j:Nat),(E.Pairwise fun k k'=>entAt x k≠entAt x k')→
 ((E.foldl (entS x) s).getD j []).length≤(s.getD j []).length+1∧((¬∃k∈E,entAt x k=j)→(E.foldl (entS x) s).getD j []=s.getD j [])
 | [],s,j,_=>⟨by simp,fun _=>rfl⟩
 | k::E,s,j,h=>by
  obtain ⟨h1,h2⟩:=List.pairwise_cons.1 h
  obtain ⟨i1,i2⟩:=It x E (entS x s k) j h2
  rw [List.foldl_cons]
  by_cases hk:entAt x k=j
  ·have hn:¬∃k'∈E,entAt x k'=j:=fun ⟨k',hk',e⟩=>h1 k' hk' (hk.trans e.symm)
   rw [i2 hn]
   refine ⟨?_,fun h=>absurd ⟨k,List.mem_cons_self ..,hk⟩ h⟩
   unfold entS
   rw [← hk]
   by_cases hl:entAt x k<s.length
   ·rw [Ww _ hl];simp
   ·simp [upd,List.set_eq_of_length_le (Nat.le_of_not_lt hl)]
  ·have e:(entS x s k).getD j []=s.getD j []:=by unfold entS;exact Q7 _ hk
   rw [e] at i1 i2
   exact ⟨i1,fun h=>i2 fun ⟨k',hk',kk⟩=>h ⟨k',List.mem_cons_of_mem _ hk',kk⟩⟩
theorem Cd {x:NetD} (h:runOk x):(enterN x).Pairwise fun k k'=>entAt x k≠entAt x k':=by
 have:=Vw x
 refine List.Pairwise.imp_of_mem (fun {k k'} hk hk' hne e=>hne ?_) this
 obtain ⟨_,a1,_⟩:=Xi hk
 obtain ⟨_,b1,_⟩:=Xi hk'
 obtain ⟨⟨_,c1⟩,e1,_⟩:=Re h a1
 obtain ⟨⟨_,c2⟩,e2,_⟩:=Re h b1
 unfold inR at c1 c2
 omega
theorem A6 {x:NetD} (h:runOk x) (hb:∀j,(x.2.2.1.getD j []).length≤3) (j:Nat):((stepN x).2.2.1.getD j []).length≤3:=by
 show (((enterN x).foldl (entS x) ((allN x).foldl (pushS x) ((allN x).foldl popS x.2.2.1))).getD j []).length≤3
 obtain ⟨e1,e2⟩:=It x (enterN x) ((allN x).foldl (pushS x) ((allN x).foldl popS x.2.2.1)) j (Cd h)
 obtain ⟨p1,p2⟩:=Nv x (allN x) ((allN x).foldl popS x.2.2.1) j (ze x)
 have q:=C8 x (allN x) x.2.2.1 j
 have b:=hb j
 by_cases hg:gets x (allN x) j
 ·obtain ⟨g,hg,h4,ht⟩:=hg
  obtain ⟨a1,a2,a3,a4⟩:=Yt hg
  obtain ⟨hh,hr⟩:=a4.2.1.resolve_left h4
  rw [ht] at hr
  obtain ⟨t1,t2,t3⟩:=Ys (c:=g.2.2%2) hh (by omega) (by omega)
  obtain ⟨⟨n1,n2⟩,o1,o2⟩:=Rb (c:=g.2.2%2) hh (by omega)
  rw [ht] at t1
  have hne:¬∃k∈enterN x,entAt x k=j:=fun ⟨k,hk,e⟩=>by
   obtain ⟨_,b1,_⟩:=Xi hk
   obtain ⟨⟨_,c1⟩,e3,_⟩:=Re h b1
   unfold inR at c1
   omega
  rw [e2 hne];omega
 ·rw [p2 hg] at e1 e2
  by_cases hk:∃k∈enterN x,entAt x k=j
  ·obtain ⟨k,hk,e⟩:=hk
   have:=(Xi hk).2.2
   rw [e] at this
   omega
  ·rw [e2 hk];omega
theorem E5 {x:NetD} (h:netOk x) (ht:x.2.2.2.2.2.2.2<1000000):netOk (stepN x):=by
 have hr:=Uu h
 obtain ⟨r1,r2,r3,r4,r5⟩:=O4 hr
 obtain ⟨h1,h2,h3,h4,h5,h6,h7⟩:=h
 have hb:∀j,(x.2.2.1.getD j []).length≤3:=fun j=>by
  by_cases hl:j<x.2.2.1.length
  ·exact (h3 j hl).1
  ·simp [List.getD_eq_getElem?_getD,List.getElem?_eq_none (Nat.le_of_not_lt hl)]
 refine ⟨r1,r2,fun i hi=>⟨A6 hr hb i,fun f hf=>(r3 i f hf).1,fun f hf=>(r3 i f hf).2⟩,fun l hl=>⟨?_,fun f hf=>?_⟩,fun o ho=>?_,r5,?_⟩
 ·exact qv (L:=60) (enterN x) x.2.2.2.2.2.1 (fun l hl=>(h4 l hl).1) l hl
 ·obtain ⟨i,hi,rfl⟩:=List.getElem_of_mem hl
  exact r4 i f (by rw [List.getD_eq_getElem?_getD,List.getElem?_eq_getElem hi];exact hf)
 ·refine X2 (fun s:List Int=>∀o∈s,inR (-1) o 4) (allN x) x.2.2.2.1 h5 (fun s g hg hs o ho=>?_) o ho
  rcases List.mem_or_eq_of_mem_set ho with ho|rfl
  ·exact hs o ho
  ·have:=(Yt hg).2.2.1
   unfold inR;split<;>omega
 ·unfold inR at h7 ⊢
  show 0≤x.2.2.2.2.2.2.2+1∧x.2.2.2.2.2.2.2+1≤1000000
  omega
theorem Vp {x:NetD} (h:netOk x):∀k:Nat,x.2.2.2.2.2.2.2+k≤1000000→netOk (runN x k)
 | 0,_=>h
 | k+1,hk=>E5 (Vp h k (by omega)) (by rw [Uz];omega)
def still (x:NetD):Prop:=allN x=[]∧enterN x=[]
end Go.Proofs.YtaldglgobgjeaaaGreat.V
set_option linter.all false
namespace Go.Proofs.YtaldglgobgjeaaaGreat.V
open Go Go.VM Go.Proofs
set_option maxRecDepth 10000
variable {frz:Nat} {H:Heap}
theorem Uk {v:ChipV} {a:ChipD} (o:dChip.Ow H v a):wp (vcall C frz 49 [dChip.val v a] H) (dChip.Made H a):=by
 have oneA:=Qy o
 have ones:=oneA.1
 have one2:=oneA.2
 have ecopy:=fun K (c:Chg H K [])=>Y2 (frz:=H.length) (H:=K) (v:=v.1) (x:=a.1) (Dt.chg (T:=dNet) o.1 c (by simp))
 simp only [Qk] at ecopy
 rw [Qo]
 rw [Qb (fn:=Tryz.f49) Tryz.func49 rfl (by kernel_rfl) rfl]
 simp [ones,one2]
 rw [Qe (h:=by kernel_rfl)]
 simp [VM.look,ones,one2]
 refine Qd (ecopy _ (Chg.app _)) ?_
 rintro _ K ⟨n,rfl,on,cn,mn,dn⟩
 have b0:K[H.length]? = some ⟨[.int .i64 a.1.1.1,.int .i64 a.1.1.2.1,v.1.1,v.1.2.1.1,v.1.2.1.2,v.1.2.2.1.1,v.1.2.2.2.1,v.1.2.2.2.2.1,v.1.2.2.2.2.2.1.1,v.1.2.2.2.2.2.2.1.1,.int .i64 a.1.2.2.2.2.2.2.2,v.2],0,51⟩:=Qa (by simp) cn (by simp)
 have bR:K[H.length+1]? = some ⟨[.int .i64 0,.int .i64 0,.slice none 0 0,.slice none 0 0,.slice none 0 0,.slice none 0 0,.slice none 0 0,.slice none 0 0,.slice none 0 0,.slice none 0 0,.int .i64 0,.slice none 0 0],0,51⟩:=Qa (by simp) cn (by simp)
 have cH:Chg H K []:=(Chg.app _).trans cn
 simp at mn
 have qn:=Qn on
 have rs:=o.2.1.rd.chg cH (by simp)
 have o0:Ow pkF 73 (K++[⟨[],0,73⟩]) (.slice (some ⟨K.length,0,some 0⟩) 0 0) []:=Ow.new0 (D:=pkF) (xs:=[]) rfl rfl rfl rfl
 have lK:=Qs b0
 have lR:=Qs bR
 obtain ⟨r,K2,hap,or,c2,mr⟩:=o0.append (P:=Tryz.prog) (frz:=H.length) (ty:=33) (rs.app (L:=[⟨[],0,73⟩])) (by simp) (kw a.2) (by have:=o.2.2;simp;omega) (fun i hi=>by simp [ids] at hi;omega)
 have mr':∀i∈ids r,K.length≤i:=fun i hi=>by
  rcases mr i hi with g|g
  ·simp [ids] at g;omega
  ·simp at g;omega
 have cL:Chg K K2 []:=(Chg.app []).trans' c2 (fun i hi=>.inr (by simp [ids] at hi;omega))
 have bA:=fun L=>Ql b0 L
 have bR:=Qa bR cL (by simp)
 have qr:=And.intro or.rd.one' or.rd.cells
 have gR:=Qi (r':=⟨[.int .i64 a.1.1.1,.int .i64 a.1.1.2.1,n.1,n.2.1.1,n.2.1.2,n.2.2.1.1,n.2.2.2.1,n.2.2.2.2.1,n.2.2.2.2.2.1.1,n.2.2.2.2.2.2.1.1,.int .i64 a.1.2.2.2.2.2.2.2,r],0,51⟩) bR
 have hF:H.length≤H.length+1:=by omega
 try simp only [List.length_nil] at hap
 simp [-Qp,-Qx,Qk,VM.look,bA,ones,one2,qn,hap,qr,bR,gR,hF]
 have eR:Chg K2 (K2.set (H.length+1) ⟨[.int .i64 a.1.1.1,.int .i64 a.1.1.2.1,n.1,n.2.1.1,n.2.1.2,n.2.2.1.1,n.2.2.2.1,n.2.2.2.2.1,n.2.2.2.2.2.1.1,n.2.2.2.2.2.2.1.1,.int .i64 a.1.2.2.2.2.2.2.2,r],0,51⟩) [H.length+1]:=Qg _ _
 have lt:=dNet.lt on
 have or':dPk.Ow K2 r a.2:=⟨by simpa using or,o.2.2⟩
 refine ⟨(n,r),rfl,⟨Dt.chg (T:=dNet) (Dt.chg (T:=dNet) on cL (by simp)) eR (fun i hi hh=>by have:=mn i hi;simp at hh;omega),Dt.chg (T:=dPk) or' eR (fun i hi hh=>by have:=mr' i hi;simp at hh;omega)⟩,(cH.trans cL).trans' eR (fun i hi=>.inr (by simp at hi;omega)),fun i hi=>?_,?_⟩
 ·rcases List.mem_append.1 hi with hi|hi
  ·have:=mn i hi;omega
  ·have:=mr' i hi;omega
 ·exact Zl dn (Q0 r) lt mr'
def sendP (x:NetD) (p:PkD):NetD:=if netOk x∧sendOk x p then sendNet x p else x
theorem gw (x y:FlitD):cseq [0,0,0,1,1] (flF.f x) (flF.f y)=some (decide (x=y)):=by
 obtain ⟨p,t,c,h,l⟩:=x
 obtain ⟨p',t',c',h',l'⟩:=y
 simp only [Xu,cseq,ceq,if_true]
 congr 1
 rw [Bool.eq_iff_iff];simp [and_assoc]
theorem zj (x y:PkD):cseq [0,0,0,0,0] (pkF.f x) (pkF.f y)=some (decide (x=y)):=by
 obtain ⟨p,t,c,h,l⟩:=x
 obtain ⟨p',t',c',h',l'⟩:=y
 simp only [Zg,cseq,ceq,if_true]
 congr 1
 rw [Bool.eq_iff_iff];simp [and_assoc]
theorem jg (a b:Value) (xs ys:List Int) (ha:Rd Fl.int H a xs) (hb:Rd Fl.int H b ys) (hl:xs.length≤1073741824) :
 vcall C frz 42 [a,b] H=some (.bool (decide (xs=ys)),H):=by
 refine wp.exact (by simp) ?_ rfl
 rw [Qb (fn:=Tryz.f42) Tryz.func42 rfl (by kernel_rfl) rfl]
 generalize hY:decide (xs=ys)=Y
 have la:=ha.len (P:=Tryz.prog) (ty:=26) (by simp)
 have lb:=hb.len (P:=Tryz.prog) (ty:=26) (by simp)
 have no:¬xs=ys→Y=false:=fun hh=>by rw [← hY];exact decide_eq_false hh
 simp [la,lb]
 refine Qc ?_ ?_<;>intro h0
 ·have h0':xs.length=ys.length:=by omega
  simp [la]
  refine Qh (fun n t H'=>∃i:Nat,n=xs.length-i∧i≤xs.length∧t 0=a∧t 1=b∧t 12=.int .i64 xs.length∧t 13=.int .i64 i∧H'=H∧xs.take i=ys.take i) ?_ (n:=xs.length) ⟨0,rfl,by omega,by simp,by simp,by simp,by simp,rfl,by simp⟩
  rintro n t H' ⟨i,rfl,hi,t0,t1,t12,t13,rfl,h4⟩ ih
  simp [t0,t1,t12,t13,la]
  refine Qc ?_ ?_<;>intro h
  ·have hx:i<xs.length:=by omega
   have hy:i<ys.length:=by omega
   have q1:=ha.idx (P:=Tryz.prog) (ty:=26) (e:=3) (by simp) (i:=(i:Int)) (by omega) (by omega)
   have q2:=ha.cell1 (P:=Tryz.prog) (e:=3) rfl (by simp) hx
   have q3:=hb.idx (P:=Tryz.prog) (ty:=26) (e:=3) (by simp) (i:=(i:Int)) (by omega) (by omega)
   have q4:=hb.cell1 (P:=Tryz.prog) (e:=3) rfl (by simp) hy
   simp only [Int.toNat_natCast,Fl.int_n,Nat.mul_one] at q1 q2 q3 q4
   simp at q2 q4
   simp [t0,t1,t12,t13]
   rw [Qe (h:=by kernel_rfl)]
   simp [t0,t1,t12,t13,q1,q2,q3,q4]
   refine Qc ?_ ?_<;>intro h5
   ·simp [t0,t1,t12,t13]
    refine ih (xs.length-(i+1)) _ _ ⟨i+1,rfl,by omega,by simp [t0],by simp [t1],by simp [t12],?_,rfl,?_⟩ (by omega)
    ·simp;rw [w64 (by omega) (by omega)]
    ·rw [List.take_succ_eq_append_getElem hx,List.take_succ_eq_append_getElem hy,h4,h5]
   ·simp [t0,t1,t12,t13]
    exact no (fun hh=>h5 (by subst hh;rfl))
  ·have:i=xs.length:=by omega
   subst this
   rw [List.take_length,List.take_of_length_le (by omega)] at h4
   simp [t0,t1,t12,t13]
   rw [← hY];exact decide_eq_true h4
 ·simp
  exact no (fun hh=>h0 (by rw [hh]))
def actOk (k p q r s:Int):Prop:=
 if k=1 then inR 0 p 15∧inR 0 q 15∧inR 0 r 1∧inR 1 s 5 else if k=2 then inR 1 p 100∧q=0∧r=0∧s=0 else if k=3 then p=0∧q=0∧r=0∧s=0
 else if k=4 then inR 0 p 63∧q=0∧r=0∧s=0 else k=5∧inR 1 p 4∧inR 1 q 4∧r=0∧s=0
instance (k p q r s:Int):Decidable (actOk k p q r s):=by unfold actOk;infer_instance
theorem Qc2 (a b c d e a' b' c' d' e':Int):cseq [0,0,0,0,0] [.int .i64 a,.int .i64 b,.int .i64 c,.int .i64 d,.int .i64 e] [.int .i64 a',.int .i64 b',.int .i64 c',.int .i64 d',.int .i64 e']=some (decide (a=a'∧b=b'∧c=c'∧d=d'∧e=e')):=by
 have:=zj (a,b,c,d,e) (a',b',c',d',e')
 simpa [pkF,-cseq] using this
theorem Qau (k p q r s:Int):vcall C frz 83 [.agg #[.int .i64 k,.int .i64 p,.int .i64 q,.int .i64 r,.int .i64 s]] H=some (.bool (decide (actOk k p q r s)),H):=by
 refine wp.exact (by simp) ?_ rfl
 rw [Qb (fn:=Tryz.f83) Tryz.func83 rfl (by kernel_rfl) rfl]
 unfold actOk
 by_cases k1:k=1
 ·by_cases h1:inR 0 p 15
  ·by_cases h2:inR 0 q 15
   ·by_cases h3:inR 0 r 1
    ·by_cases h4:inR 1 s 5<;>simp [VM.look,k1,Qj,h1,h2,h3,h4]
    ·simp [VM.look,k1,Qj,h1,h2,h3]
   ·simp [VM.look,k1,Qj,h1,h2]
  ·simp [VM.look,k1,Qj,h1]
 by_cases k2:k=2
 ·by_cases h1:inR 1 p 100
  ·by_cases h2:q=0
   ·by_cases h3:r=0
    ·by_cases h4:s=0<;>simp [VM.look,k1,k2,Qj,h1,h2,h3,h4]
    ·simp [VM.look,k1,k2,Qj,h1,h2,h3]
   ·simp [VM.look,k1,k2,Qj,h1,h2]
  ·simp [VM.look,k1,k2,Qj,h1]
 by_cases k3:k=3
 ·simp [VM.look,k1,k2,k3,Qc2,-cseq]
 by_cases k4:k=4
 ·by_cases h1:inR 0 p 63
  ·by_cases h2:q=0
   ·by_cases h3:r=0
    ·by_cases h4:s=0<;>simp [VM.look,k1,k2,k3,k4,Qj,h1,h2,h3,h4]
    ·simp [VM.look,k1,k2,k3,k4,Qj,h1,h2,h3]
   ·simp [VM.look,k1,k2,k3,k4,Qj,h1,h2]
  ·simp [VM.look,k1,k2,k3,k4,Qj,h1]
 by_cases k5:k=5
 ·by_cases h1:inR 1 p 4
  ·by_cases h2:inR 1 q 4
   ·by_cases h3:r=0
    ·by_cases h4:s=0<;>simp [VM.look,k1,k2,k3,k4,k5,Qj,h1,h2,h3,h4]
    ·simp [VM.look,k1,k2,k3,k4,k5,Qj,h1,h2,h3]
   ·simp [VM.look,k1,k2,k3,k4,k5,Qj,h1,h2]
  ·simp [VM.look,k1,k2,k3,k4,k5,Qj,h1]
 simp [VM.look,k1,k2,k3,k4,k5]
theorem Cp (b:Bool):vcall C frz 122 [.bool b] H=some (.int .i64 (if b then 1 else 0),H):=by
 rw [Qb (fn:=Tryz.f122) Tryz.func122 rfl (by kernel_rfl) rfl]
 cases b<;>simp
noncomputable def repair (w h:Int) (b:List Int):ClassesD:=(treeTable w h b (bestRoot w h b),treeTable w h b (bestRoot w h b))
noncomputable def repairOk (w h:Int) (b:List Int):Bool:=decide (treeOk w h b (bestRoot w h b))
theorem mg (w h:Int) (v:Value) (b:List Int) (hI:IsI H v b) (hl:b.length≤1073741824) :
 wp (vcall C frz 37 [.agg #[.int .i64 w,.int .i64 h,v]] H) (Made2 dClasses H (repair w h b) (repairOk w h b)):=by
 rw [Qb (fn:=Tryz.f37) Tryz.func37 rfl (by kernel_rfl) rfl]
 have one:=And.intro hI.one' hI.cells
 simp [one]
 rw [Qe (h:=by kernel_rfl)]
 simp [one,Dc _ _ _ _ (hI.app _) hl]
 refine Qd (Gb w h v b (bestRoot w h b) (hI.app _) hl) ?_
 rintro _ H1 ⟨_,rfl,vt,rfl,ot,c1,nt,dt⟩
 have b1:H1[H.length+1]? = some ⟨[.slice none 0 0,.slice none 0 0],0,32⟩:=Qa (by simp) c1 (by simp)
 have l1:=Qs b1
 simp at nt
 have cH:Chg H H1 []:=(Chg.app []).trans c1
 have hle:=Mt w h b (bestRoot w h b)
 have hne:¬treeOk w h b (bestRoot w h b)→treeTable w h b (bestRoot w h b)=[]:=fun hh=>if_neg hh
 unfold repair repairOk
 generalize treeTable w h b (bestRoot w h b)=tt at *
 have one1:=W0 ot
 simp [W1,one1,VM.look,b1]
 by_cases hok:treeOk w h b (bestRoot w h b)
 ·have l0:=cH.1
  simp [hok,l0]
  rw [Qe (h:=by kernel_rfl)]
  simp [one1,l0]
  refine Qd (Vk vt tt (ot.1.rd.isI.app _) (by omega)) ?_
  rintro _ H2 ⟨vu,rfl,ou,c2,nu,du⟩
  have b2:H2[H.length+1]? = some ⟨[.slice none 0 0,.slice none 0 0],0,32⟩:=Qa (Ql b1 _) c2 (by simp)
  have ot2:=Dt.chg0 (T:=dIntS) (Dt.app (T:=dIntS) ot) c2
  have lt1:=dIntS.lt ot
  simp at nu
  have one2:=W0 ou
  have g4:=Qi (r':=⟨[vt,vu],0,32⟩) b2
  simp [W1,one1,one2,VM.look,b2,g4]
  have h1:∀i∈VM.ids vt,i∉[H.length+1]:=fun i hi hh=>by have:=nt i hi;simp at hh;omega
  have h2:∀i∈VM.ids vu,i∉[H.length+1]:=fun i hi hh=>by have:=nu i hi;simp at hh;omega
  refine ⟨.agg #[vt,vu],by simp [hok],(vt,vu),rfl,⟨Dt.chg (T:=dIntS) ot2 (Qg _ _) h1,Dt.chg (T:=dIntS) ou (Qg _ _) h2⟩,((cH.trans (Chg.app [])).trans c2).trans' (Qg _ _) (fun i hi=>.inr (by simp at hi;omega)),fun i hi=>?_,List.nodup_append.2 ⟨Q0 vt,Q0 vu,fun i hi j hj hh=>?_⟩⟩
  ·rcases List.mem_append.1 hi with hi|hi
   ·have:=nt i hi;omega
   ·have:=nu i hi;omega
  ·have:=lt1 i hi;have:=nu j hj;omega
 ·obtain rfl:=hne hok
  have l0:=cH.1
  have g4:=Qi (r':=⟨[.slice none 0 0,.slice none 0 0],0,32⟩) (Ql b1 [⟨[vt],0,30⟩])
  have b1':=Ql b1 [⟨[vt],0,30⟩]
  simp [hok,l0,VM.look,b1,b1',g4]
  refine ⟨.agg #[.slice none 0 0,.slice none 0 0],by simp [hok],(.slice none 0 0,.slice none 0 0),rfl,⟨⟨.inl ⟨rfl,rfl⟩,by simp⟩,.inl ⟨rfl,rfl⟩,by simp⟩,(cH.trans (Chg.app [])).trans' (Qg _ _) (fun i hi=>.inr (by simp at hi;omega)),by simp [dClasses],by simp [dClasses]⟩
end Go.Proofs.YtaldglgobgjeaaaGreat.V
set_option linter.all false
namespace Go.Proofs.YtaldglgobgjeaaaGreat.V
open Go Go.VM Go.Proofs
variable {frz:Nat} {H:Heap} {v:Value} {w h:Int} {b:List Int} {root:Int}
theorem zh (o:dMesh.Ow H v (w,h,b)):wp (vcall C frz 37 [dMesh.val v (w,h,b)] H) (Made2 dClasses H (repair w h b) (repairOk w h b)):=mg w h v b o.1.rd.isI o.2
end Go.Proofs.YtaldglgobgjeaaaGreat.V
set_option linter.all false
namespace Go.Proofs.YtaldglgobgjeaaaGreat.V
open Go Go.VM Go.Proofs
set_option maxRecDepth 10000
variable {frz:Nat} {H:Heap}
def broke (b:List Int) (c:Int):List Int:=isort (b++[c])
def breakOk (w h:Int) (b:List Int) (c:Int):Prop:=meshOk w h b∧has w h b c
instance (w h:Int) (b:List Int) (c:Int):Decidable (breakOk w h b c):=inferInstanceAs (Decidable (_∧_))
def withBroken (w h:Int) (b:List Int) (c:Int):List Int:=if breakOk w h b c then broke b c else b
theorem Bz {w h:Int} {b:List Int} (hm:meshOk w h b):b.length≤64:=by
 obtain ⟨_,h2,h3⟩:=(Tg w h b).1 hm
 have hc:=Qf w h
 refine Ey h3 (fun c hc'=>?_)
 have:=(h2 c hc').1
 omega
theorem Kw (w h:Int) (v:Value) (b:List Int) (c:Int) (hI:IsI H v b) (hl:b.length≤1073741824) :
 wp (vcall C frz 36 [.agg #[.int .i64 w,.int .i64 h,v],.int .i64 c] H) (Made2 dMesh H (w,h,withBroken w h b c) (decide (breakOk w h b c))):=by
 rw [Qb (fn:=Tryz.f36) Tryz.func36 rfl (by kernel_rfl) rfl]
 have one:=And.intro hI.one' hI.cells
 simp [one]
 refine Qd (Tf w h v b (hI.app _) hl) ?_
 rintro _ H1 ⟨u,rfl,o1,c1,n1,d1⟩
 have cH:Chg H H1 []:=(Chg.app []).trans c1
 have l0:=cH.1
 have b0:H1[H.length]? = some ⟨[.int .i64 w,.int .i64 h,v],0,28⟩:=Qa (by simp) c1 (by simp)
 have b1:H1[H.length+1]? = some ⟨[.int .i64 0,.int .i64 0,.slice none 0 0],0,28⟩:=Qa (by simp) c1 (by simp)
 have l1:=Qs b1
 have hI1:=((hI.rd).chg cH (by simp)).isI
 have ob:Ow Fl.int 3 H1 u b:=o1.1
 have one1:=And.intro ob.rd.one' ob.rd.cells
 have n1':∀i∈VM.ids u,H.length+2≤i:=fun i hi=>by have:=n1 i hi;simp at this;omega
 have lu:=o1.1.lt
 simp [Xb,one,one1,VM.look,b0,b1,Ql b0,Ql b1,Yv _ _ _ _ _ (hI1.app _) hl,-Bool.decide_and]
 by_cases hok:breakOk w h b c
 ·have hok':meshOk w h b∧has w h b c:=hok
  simp [hok',one,one1,VM.look,b0,b1,Ql b0,Ql b1,l0,Nat.le_add_right_of_le l0]
  have hlb:b.length≤1000:=by have:=Bz hok.1;omega
  obtain ⟨u',H2,hap,o2,c2,n2⟩:=(ob.app (L:=[⟨[.int .i64 w,.int .i64 h,u],0,28⟩])).push (P:=Tryz.prog) (frz:=H.length) (ty:=26) (a:=c) (by simp) rfl (by omega) (fun i hi=>by have:=n1' i hi;omega)
  simp at hap n2
  have q2:H2[H1.length]? = some ⟨[.int .i64 w,.int .i64 h,u],0,28⟩:=Qa (by simp) c2 (fun hh=>by have:=lu _ hh;omega)
  have q1:H2[H.length+1]? = some ⟨[.int .i64 0,.int .i64 0,.slice none 0 0],0,28⟩:=Qa (Ql b1 _) c2 (fun hh=>by have:=n1' _ hh;omega)
  have k2:=Qs q2
  have n2':∀i∈VM.ids u',i≠H1.length∧H.length+2≤i:=fun i hi=>by
   rcases n2 i hi with h1|h1
   ·have:=lu i h1;have:=n1' i h1;omega
   ·omega
  have q3:=Qi (r':=⟨[.int .i64 w,.int .i64 h,u'],0,28⟩) q2
  have q4:(H2.set H1.length ⟨[.int .i64 w,.int .i64 h,u'],0,28⟩)[H.length+1]? = some ⟨[.int .i64 0,.int .i64 0,.slice none 0 0],0,28⟩:=Qa q1 (Qg _ _) (by simp;omega)
  have o3:=o2.chg (Qg H1.length ⟨[.int .i64 w,.int .i64 h,u'],0,28⟩) (fun i hi hh=>(n2' i hi).1 (List.mem_singleton.1 hh))
  have one3:=And.intro o2.rd.one' o2.rd.cells
  have c3:Chg H H2 []:=(cH.trans (Chg.app (L:=[⟨[.int .i64 w,.int .i64 h,u],0,28⟩]) [])).trans' c2 (fun i hi=>.inr (by have:=n1' i hi;omega))
  have c4:Chg H2 (H2.set H1.length ⟨[.int .i64 w,.int .i64 h,u'],0,28⟩) [H1.length]:=Qg _ _
  simp [hap,one3,VM.look,q2,q3,q4,l0]
  generalize H2.set H1.length ⟨[.int .i64 w,.int .i64 h,u'],0,28⟩=H3 at *
  refine Qd (Qdt u' (b++[c]) _ o3 (by simp;omega) (fun i hi=>by have:=n2' i hi;omega) (by have:=c4.1;omega)) ?_
  rintro _ H4 ⟨o5,c5⟩
  have q5:H4[H1.length]? = some ⟨[.int .i64 w,.int .i64 h,u'],0,28⟩:=Qa q3 c5 (fun hh=>by have:=n2' _ hh;omega)
  have q6:H4[H.length+1]? = some ⟨[.int .i64 0,.int .i64 0,.slice none 0 0],0,28⟩:=Qa q4 c5 (fun hh=>by have:=n2' _ hh;omega)
  have q7:=Qi (r':=⟨[.int .i64 w,.int .i64 h,u'],0,28⟩) q6
  simp [one3,VM.look,q5,q6,q7]
  have cc:Chg H H4 []:=(c3.trans' c4 (fun i hi=>.inr (by simp at hi;omega))).trans' c5 (fun i hi=>.inr (by have:=n2' i hi;omega))
  refine ⟨.agg #[.int .i64 w,.int .i64 h,u'],by simp [hok],u',by simp [withBroken,hok,broke,Xb],⟨o5.chg (Qg (H.length+1) _) (fun i hi hh=>by have:=n2' i hi;have:=List.mem_singleton.1 hh;omega) |> fun hh=>by simpa [withBroken,hok,broke] using hh,by simp [withBroken,hok,broke,Mv];omega⟩,cc.trans' (Qg _ _) (fun i hi=>.inr (by simp at hi;omega)),fun i hi=>by have:=n2' i hi;omega,Q0 u'⟩
 ·have hok':¬(meshOk w h b∧has w h b c):=hok
  have g:=Qi (r':=⟨[.int .i64 w,.int .i64 h,u],0,28⟩) (Ql b1 [⟨[.int .i64 w,.int .i64 h,u],0,28⟩])
  simp [hok',one,one1,VM.look,b0,b1,Ql b0,Ql b1,l0,Nat.le_add_right_of_le l0,g]
  refine ⟨.agg #[.int .i64 w,.int .i64 h,u],by simp [hok],u,by simp [withBroken,hok,Xb],⟨by simpa [withBroken,hok] using ob.app.chg (Qg _ _) (fun i hi hh=>by have:=n1' i hi;simp at hh;omega),by simpa [withBroken,hok] using hl⟩,(cH.trans (Chg.app [])).trans' (Qg _ _) (fun i hi=>.inr (by simp at hi;omega)),fun i hi=>by have:=n1' i hi;omega,Q0 u⟩
theorem K9 {v:Value} {w h:Int} {b:List Int} {c:Int} (o:dMesh.Ow H v (w,h,b)):wp (vcall C frz 36 [dMesh.val v (w,h,b),.int .i64 c] H) (Made2 dMesh H (w,h,withBroken w h b c) (decide (breakOk w h b c))):=Kw w h v b c o.1.rd.isI o.2
end Go.Proofs.YtaldglgobgjeaaaGreat.V
set_option linter.all false
namespace Go.Proofs.YtaldglgobgjeaaaGreat.V
open Go Go.VM Go.Proofs
set_option maxRecDepth 10000
variable {frz:Nat} {H:Heap} {r:Nat} {vb:Value} {code:List Int}
theorem Cur.set {J:Heap} {id:Nat} {x:Row} (c:Cur J r vb code) (h1:r≠id) (h2:∀i∈ids vb,i≠id):Cur (J.set id x) r vb code:=
 c.chg (Qg _ _) (by simpa using h1) (fun i hi=>by simpa using h2 i hi)
theorem wv (c:Cur H r vb code) (hf:frz≤r):wp (vcall C frz 23 [.pointer (some ⟨r,0,some 0⟩)] H) (fun u H'=>(∃w h,u=.agg #[.int .i64 w,.int .i64 h]∧okG w h∧2≤cnt w h)∧Chg H H' [r]∧Cur H' r vb code):=by
 have lt:=c.lt
 have vlt:=c.vlt
 rw [Qb (fn:=Tryz.f23) Tryz.func23 rfl (by kernel_rfl) rfl]
 simp
 refine Qd (yc (c.app _) hf) ?_
 rintro _ K ⟨⟨w,h,rfl,hg⟩,c1,d1⟩
 have cH:Chg H K [r]:=(Chg.app [r]).trans c1
 have l0:=cH.1
 have b0:K[H.length]? = some ⟨[.int .i64 0,.int .i64 0],0,25⟩:=Qa (by simp) c1 (by simp;omega)
 have lK:=Qs b0
 have hF:frz≤H.length:=by omega
 have hFK:frz≤K.length:=by omega
 have nc:=fun F H=>Wd (frz:=F) (H:=H) w h
 simp [hFK,VM.look,nc]
 refine Qc ?_ ?_<;>intro g
 ·have b1:=Ql b0 [⟨[.int .i64 2,.int .i64 h],0,25⟩]
  have g3:=Qi (r':=⟨[.int .i64 2,.int .i64 h],0,25⟩) b1
  have ltr:=d1.lt
  have h2:okG 2 h∧2≤cnt 2 h:=by
   have e:okG 2 h:=⟨by omega,hg.2⟩
   refine ⟨e,?_⟩
   unfold cnt;rw [if_pos e];have:=hg.2;omega
  simp [VM.look,b1,g3,hFK,hF]
  exact ⟨⟨2,h,⟨rfl,rfl⟩,h2⟩,(cH.trans (Chg.app _)).trans' (Qg _ _) (fun i hi=>.inr (by simp at hi;omega)),(d1.app _).set (by omega) (fun i hi=>by have:=vlt i hi;omega)⟩
 ·have b1:=Ql b0 [⟨[.int .i64 w,.int .i64 h],0,25⟩]
  have g3:=Qi (r':=⟨[.int .i64 w,.int .i64 h],0,25⟩) b1
  have ltr:=d1.lt
  simp [VM.look,b1,g3,hF]
  exact ⟨⟨w,h,⟨rfl,rfl⟩,hg,by omega⟩,(cH.trans (Chg.app _)).trans' (Qg _ _) (fun i hi=>.inr (by simp at hi;omega)),(d1.app _).set (by omega) (fun i hi=>by have:=vlt i hi;omega)⟩
end Go.Proofs.YtaldglgobgjeaaaGreat.V
set_option linter.all false
namespace Go.Proofs.YtaldglgobgjeaaaGreat.V
open Go Go.VM Go.Proofs
set_option maxRecDepth 10000
variable {frz:Nat} {H:Heap}
def flit0:FlitD:=(0,0,0,false,false)
def wholeAt (l:List FlitD) (i:Nat):FlitD:=((l.getD 0 flit0).1,(l.getD 0 flit0).2.1,(l.getD 0 flit0).2.2.1,decide ((i:Int)=0),decide ((i:Int)=(l.length:Int)-1))
def whole (l:List FlitD):Prop:=(∀i,i<l.length→l.getD i flit0=wholeAt l i)∧0<l.length
instance (l:List FlitD):Decidable (whole l):=inferInstanceAs (Decidable (_∧_))
theorem ya (a b c a' b' c':Int) (d e d' e':Bool):cseq [0,0,0,1,1] [.int .i64 a,.int .i64 b,.int .i64 c,.bool d,.bool e] [.int .i64 a',.int .i64 b',.int .i64 c',.bool d',.bool e']=some (decide (((a,b,c,d,e):FlitD)=(a',b',c',d',e'))):=
 gw (a,b,c,d,e) (a',b',c',d',e')
theorem yg (v:Value) (xs:List FlitD) (hI:Rd flF H v xs) (hl:xs.length≤1073741824) :
 vcall C frz 167 [v] H=some (.bool (decide (whole xs)),H):=by
 refine wp.exact (by simp) ?_ rfl
 rw [Qb (fn:=Tryz.f167) Tryz.func167 rfl (by kernel_rfl) rfl]
 generalize hY:decide (whole xs)=Y
 have no:¬whole xs→Y=false:=fun hh=>by rw [← hY];exact decide_eq_false hh
 simp [hI.len (P:=Tryz.prog) (ty:=109) (by simp)]
 refine Qh (fun n t H'=>∃i:Nat,n=xs.length-i∧i≤xs.length∧t 0=v∧t 5=v∧t 6=.int .i64 xs.length∧t 7=.int .i64 i∧Chg H H' []∧∀j,j<i→xs.getD j flit0=wholeAt xs j) ?_ (n:=xs.length)
  ⟨0,rfl,by omega,by simp,by simp,by simp,by simp,Chg.refl _,by omega⟩
 rintro n t H' ⟨i,rfl,hi,t0,t5,t6,t7,c,hk⟩ ih
 simp [t0,t5,t6,t7]
 refine Qc ?_ ?_<;>intro g
 ·have hi':i<xs.length:=by omega
  have h0:0<xs.length:=by omega
  have rd:=hI.chg c (by simp)
  have q1:=rd.idx (P:=Tryz.prog) (ty:=109) (e:=144) (by simp) (i:=(i:Int)) (by omega) (by omega)
  have q2:=rd.load (P:=Tryz.prog) (e:=144) (by simp) hi'
  have rd2:=fun (r:Row)=>(rd.app (L:=[r]))
  have z0:=fun (r:Row)=>(rd2 r).idx (P:=Tryz.prog) (ty:=109) (e:=144) (by simp) (i:=0) (by omega) (by omega)
  have zl:=fun (r:Row)=>(rd2 r).len (P:=Tryz.prog) (ty:=109) (by simp)
  have f0:=fun (r:Row)=>(rd2 r).field (P:=Tryz.prog) (s:=144) (f:=0) (o:=0) (n:=1) (ag:=false) (by simp) (j:=0) h0
  have f1:=fun (r:Row)=>(rd2 r).field (P:=Tryz.prog) (s:=144) (f:=1) (o:=1) (n:=1) (ag:=false) (by simp) (j:=0) h0
  have f2:=fun (r:Row)=>(rd2 r).field (P:=Tryz.prog) (s:=144) (f:=2) (o:=2) (n:=1) (ag:=false) (by simp) (j:=0) h0
  have c0:=fun (r:Row)=>(rd2 r).cell (P:=Tryz.prog) (e:=3) (by simp) h0 (c:=0) (by decide)
  have c1:=fun (r:Row)=>(rd2 r).cell (P:=Tryz.prog) (e:=3) (by simp) h0 (c:=1) (by decide)
  have c2:=fun (r:Row)=>(rd2 r).cell (P:=Tryz.prog) (e:=3) (by simp) h0 (c:=2) (by decide)
  simp only [Int.toNat_natCast,Ox,Int.toNat_zero,Nat.zero_mul,Nat.zero_add,Nat.add_zero] at q1 q2 z0 f0 f1 f2 c0 c1 c2
  simp only [Xu] at c0 c1 c2
  simp at c0 c1 c2
  have hw:=@w6 ((xs.length:Int)-1) (by omega)
  have hF:H.length≤H'.length:=c.1
  have hg0:xs.getD 0 flit0=xs[0]:=by simp [List.getD_eq_getElem?_getD,h0]
  have hgi:xs.getD i flit0=xs[i]:=by simp [List.getD_eq_getElem?_getD,hi']
  have hwt:wholeAt xs i=(xs[0].1,xs[0].2.1,xs[0].2.2.1,decide ((i:Int)=0),decide ((i:Int)=(xs.length:Int)-1)):=by unfold wholeAt;rw [hg0]
  obtain ⟨p,hp⟩:∃p,p=xs[i]:=⟨_,rfl⟩
  obtain ⟨z,hz⟩:∃z,z=xs[0]:=⟨_,rfl⟩
  rw [← hp] at q2 hgi
  rw [← hz] at c0 c1 c2 hwt
  obtain ⟨B1,hB1⟩:∃B,B=decide ((i:Int)=0):=⟨_,rfl⟩
  obtain ⟨B2,hB2⟩:∃B,B=decide ((i:Int)=(xs.length:Int)-1):=⟨_,rfl⟩
  rw [← hB1,← hB2] at hwt
  have e1:∀[Inhabited Unit],decide ((i:Int)=0)=B1:=by intro _;exact hB1.symm
  have e1':∀[Inhabited Unit],decide (i=0)=B1:=by intro _;rw [hB1];congr 1;simp
  have e2:∀[Inhabited Unit],decide ((i:Int)=(xs.length:Int)-1)=B2:=by intro _;exact hB2.symm
  simp [t0,t5,t6,t7,q1,q2,Xu,hF]
  rw [Qe (h:=by kernel_rfl)]
  simp [-vfieldAddr,Xh,VM.look,t0,t5,t6,t7,z0,zl,f0,f1,f2,c0,c1,c2,hw,e1,e1',e2,ya,-cseq,-Prod.mk.injEq]
  have hdec:(((p.1,p.2.1,p.2.2.1,p.2.2.2.1,p.2.2.2.2):FlitD)=(z.1,z.2.1,z.2.2.1,B1,B2))↔xs.getD i flit0=wholeAt xs i:=by rw [hgi,hwt]
  by_cases g2:xs.getD i flit0=wholeAt xs i
  ·have g3:=hdec.2 g2
   rw [decide_eq_true g3]
   simp [t0,t5,t6,t7]
   refine ih (xs.length-(i+1)) _ _ ⟨i+1,rfl,by omega,by simp [t0],by simp [t5],by simp [t6],?_,c.trans (Chg.app _),fun j hj=>?_⟩ (by omega)
   ·simp;rw [w64 (by omega) (by omega)]
   ·by_cases hji:j<i
    ·exact hk j hji
    ·have:j=i:=by omega
     subst this;exact g2
  ·have g3:¬((p.1,p.2.1,p.2.2.1,p.2.2.2.1,p.2.2.2.2):FlitD)=(z.1,z.2.1,z.2.2.1,B1,B2):=fun hh=>g2 (hdec.1 hh)
   rw [decide_eq_false g3]
   simp [t0,t5,t6,t7]
   exact no (fun hh=>g2 (hh.1 i hi'))
 ·have:i=xs.length:=by omega
  subst this
  have ll:=(hI.chg c (by simp)).len (P:=Tryz.prog) (ty:=109) (by simp)
  simp [t0,t5,t6,t7,ll]
  rw [← hY];exact decide_eq_decide.2 ⟨fun h0=>⟨hk,h0⟩,fun k=>k.2⟩
def part (l:List FlitD) (f i:Nat):List FlitD:=(l.drop f).take (i+1-f)
def wpk (l:List FlitD):Nat→List Int×Nat
 | 0=>([],0)
 | i+1=>if whole (part l (wpk l i).2 i) then ((wpk l i).1++[(l.getD (wpk l i).2 flit0).1],i+1) else wpk l i
def wholePk (l:List FlitD):List Int:=if (wpk l l.length).2<l.length then [] else (wpk l l.length).1
theorem Oq (l:List FlitD):∀i,(wpk l i).2≤i∧(wpk l i).1.length≤i
 | 0=>by simp [wpk]
 | i+1=>by
  have:=Oq l i
  simp only [wpk];split
  ·simp;omega
  ·omega
theorem Iv {l:List FlitD} {f i:Nat} (hf:f≤i) (hi:i<l.length) {j:Nat} (hj:j+f≤i):(part l f i).getD j flit0=l.getD (f+j) flit0:=by
 unfold part
 simp only [List.getD_eq_getElem?_getD]
 rw [List.getElem?_take,if_pos (by omega),List.getElem?_drop]
theorem Ef {l:List FlitD} {f i:Nat} (hf:f≤i) (hi:i<l.length):(part l f i).length=i+1-f:=by unfold part;simp;omega
theorem Ck {l:List FlitD} {f i:Nat} (hf:f≤i) (hi:i<l.length) (h:whole (part l f i)):(l.getD i flit0).1=(l.getD f flit0).1:=by
 have h1:=h.1 (i-f) (by rw [Ef hf hi];omega)
 rw [Iv hf hi (by omega)] at h1
 rw [show f+(i-f)=i by omega] at h1
 rw [h1]
 unfold wholeAt
 rw [Iv hf hi (by omega)];rfl
def IntsOk (H:Heap) (xs:List Int) (r:Value) (H':Heap):Prop:=∃u ok,r=.tuple #[u,.bool ok]∧Ow Fl.int 3 H' u xs∧(∀i∈ids u,H.length≤i)∧Chg H H' []
theorem Nf (v:Value) (l:List FlitD) (o:Ow flF 144 H v l) (hl:l.length≤67108864) :
 wp (vcall C frz 125 [v] H) (IntsOk H (wholePk l)):=by
 rw [Qb (fn:=Tryz.f125) Tryz.func125 rfl (by kernel_rfl) rfl]
 simp
 refine Qh (fun n t H'=>∃(i:Nat) (out:Value),n=l.length-i∧i≤l.length∧t 0=v∧t 4=out∧t 5=.int .i64 (wpk l i).2∧t 6=.int .i64 ((i:Int)+1)∧Chg H H' []∧Ow Fl.int 3 H' out (wpk l i).1∧(∀j∈ids out,H.length≤j)) ?_ (n:=l.length)
  ⟨0,.slice (some ⟨H.length,0,some 0⟩) 0 0,rfl,by omega,by simp,by simp,by simp [wpk],by simp,Chg.app _,Ow.new0 (D:=Fl.int) (xs:=[]) rfl rfl rfl rfl,by simp⟩
 rintro n t H' ⟨i,out,rfl,hi,t0,t4,t5,t6,c,oo,no⟩ ih
 have ov:=o.chg c (by simp)
 have ll:=ov.rd.len (P:=Tryz.prog) (ty:=109) (by simp)
 obtain ⟨wle,wll⟩:=Oq l i
 have hF:H.length≤H'.length:=c.1
 simp [t0,t4,t5,t6,ll]
 refine Qc ?_ ?_<;>intro g
 ·have hi':i<l.length:=by omega
  obtain ⟨f,hf⟩:∃f,f=(wpk l i).2:=⟨_,rfl⟩
  have hwp:wpk l (i+1)=if whole (part l f i) then ((wpk l i).1++[(l.getD f flit0).1],i+1) else wpk l i:=by rw [hf];rfl
  rw [← hf] at t5 wle
  have e1:=@w6 ((i:Int)+1) (by omega)
  have e2:∀[Inhabited Unit],IntKind.i64.wrap ((i:Int)+1+1)=((i+1:Nat):Int)+1:=by intro _;rw [w64 (by omega) (by omega)];omega
  obtain ⟨s,hs,os,ids_s⟩:=ov.slice (P:=Tryz.prog) (ty:=109) (by simp) (lo:=some (.int .i64 (f:Int))) (hi:=some (.int .i64 ((i:Int)+1))) (l:=f) (u:=i+1) rfl rfl (by omega) (by omega)
  have iw:=fun F=>yg (frz:=F) (H:=H') s (part l f i) os.rd (by rw [Ef wle hi'];omega)
  have hfl:f<l.length:=by omega
  have q1:=ov.rd.idx (P:=Tryz.prog) (ty:=109) (e:=144) (by simp) (i:=(f:Int)) (by omega) (by omega)
  have q2:=ov.rd.field (P:=Tryz.prog) (s:=144) (f:=0) (o:=0) (n:=1) (ag:=false) (by simp) (j:=f*5) (by omega)
  have q3:=ov.rd.cell (P:=Tryz.prog) (e:=3) (by simp) hfl (c:=0) (by decide)
  simp only [Int.toNat_natCast,Ox,Nat.add_zero] at q1 q2 q3
  simp only [Xu] at q3
  simp at q3
  simp [t0,t4,t5,t6,e1,hs,iw]
  refine Qc ?_ ?_<;>intro g2
  ·obtain ⟨out',H2,hap,o2,c2,n2⟩:=oo.push (P:=Tryz.prog) (frz:=H.length) (ty:=26) (a:=l[f].1) (by simp) rfl (by omega) no
   simp only [Fl.int_f] at hap
   have l2:=c2.1
   have hsame:=Ck wle hi' g2
   have hgf:l.getD f flit0=l[f]:=by simp [List.getD_eq_getElem?_getD,hfl]
   have hgi:l.getD i flit0=l[i]:=by simp [List.getD_eq_getElem?_getD,hi']
   rw [hgf,hgi] at hsame
   rw [if_pos g2,hgf] at hwp
   simp [-vfieldAddr,Xh,t0,t4,t5,t6,q1,q2,q3,hap,e1]
   refine ih (l.length-(i+1)) _ _ ⟨i+1,out',rfl,by omega,by simp [t0],by simp,by simp [hwp],by simp [e2],c.trans' c2 (fun j hj=>.inr (no j hj)),?_,fun j hj=>?_⟩ (by omega)
   ·rw [hwp];exact o2
   ·rcases n2 j hj with h1|h1
    ·exact no j h1
    ·omega
  ·rw [if_neg g2] at hwp
   simp [t0,t4,t5,t6]
   refine ih (l.length-(i+1)) _ _ ⟨i+1,out,rfl,by omega,by simp [t0],by simp [t4],by rw [hwp,← hf];simp [t5],by simp [e2],c,by rw [hwp];exact oo,no⟩ (by omega)
 ·have:i=l.length:=by omega
  subst this
  simp [t0,t4,t5,t6,ll]
  refine Qc ?_ ?_<;>intro g2
  ·have hz:wholePk l=[]:=if_pos (by omega)
   simp [t0,t4,t5,t6]
   exact ⟨.slice none 0 0,false,rfl,by rw [hz];exact .inl ⟨rfl,rfl⟩,by simp,c⟩
  ·have hz:wholePk l=(wpk l l.length).1:=if_neg (by omega)
   simp [t0,t4,t5,t6]
   exact ⟨out,true,rfl,by rw [hz];exact oo,no,c⟩
def trim (l:List FlitD):List FlitD:=(l.reverse.dropWhile fun f=>!f.2.2.2.2).reverse
theorem Ka (l:List FlitD) (f:FlitD):trim (l++[f])=if f.2.2.2.2=true then l++[f] else trim l:=by
 unfold trim
 rw [List.reverse_append,List.reverse_singleton,List.singleton_append,List.dropWhile_cons]
 cases h:f.2.2.2.2<;>simp
def arrIds (arr:SSD) (node:Nat) (c:Int):List Int:=wholePk (trim ((arr.getD node []).filter fun f=>f.2.2.1=c))
theorem M1 {id:Nat} {w h tm:Int} {u2 u3 u4 u5 u6 u7 u8:Value} {v9:SSV} {arr:SSD} {node:Nat} {k:Int} (hr:H[id]? = some ⟨[.int .i64 w,.int .i64 h,u2,u3,u4,u5,u6,u7,u8,v9.1,.int .i64 tm],0,38⟩) (h9:dSS.Ow H v9 arr) (hn:node<arr.length) :
 wp (vcall C frz 86 [.pointer (some ⟨id,0,some 0⟩),.int .i64 node,.int .i64 k] H) (IntsOk H (arrIds arr node k)):=by
 rw [Qb (fn:=Tryz.f86) Tryz.func86 rfl (by kernel_rfl) rfl]
 have rl:=h9.1.rd
 obtain ⟨u,_,a2,a3,a4⟩:=Xx rl (ty:=36) (e:=109) (by simp) (by simp) hn
 have hm:=h9.2.2 _ (List.getElem_mem hn)
 have hg:arr.getD node []=arr[node]:=by simp [List.getD_eq_getElem?_getD,hn]
 simp [VM.vnil,VM.look,hr,a2,a3]
 refine Qd (Pa u arr[node] k a4 (by omega)) ?_
 rintro s G1 ⟨os,ns,c1⟩
 have cH:Chg H G1 []:=c1
 have ns':∀i∈ids s,H.length≤i:=fun i hi=>by have:=ns i hi;omega
 have hfl:=List.length_filter_le (fun f:FlitD=>decide (f.2.2.1=k)) arr[node]
 unfold arrIds
 rw [hg]
 generalize (arr[node].filter fun f=>f.2.2.1=k)=l0 at *
 simp
 refine Qh (fun n t H'=>∃(s:Value) (l:List FlitD),n=l.length∧t 8=s∧H'=G1∧Ow flF 144 G1 s l∧trim l=trim l0∧l.length≤l0.length) ?_ (n:=l0.length)
  ⟨s,l0,rfl,by simp,rfl,os,rfl,Nat.le_refl _⟩
 rintro n t H' ⟨s,l,rfl,t8,rfl,o,ht,hle⟩ ih
 have ll:=o.rd.len (P:=Tryz.prog) (ty:=109) (by simp)
 simp [t8,ll]
 have fin:trim l0=l→wp (vcall C H.length 125 [s] H') (fun r H2=>IntsOk H (wholePk (trim l0)) r H2):=fun e=>by
  rw [e]
  refine (Nf s l o (by omega)).mono ?_
  rintro r H2 ⟨u',ok,rfl,o2,n2,c2⟩
  exact ⟨u',ok,rfl,o2,fun i hi=>by have:=n2 i hi;have:=cH.1;omega,cH.trans c2⟩
 by_cases h0:l=[]
 ·have hz:trim l0=l:=by rw [← ht,h0];rfl
  have hl0:l.length=0:=by rw [h0];rfl
  simp [hl0,t8]
  refine Qd (fin hz) ?_
  rintro _ H2 ⟨u',ok,rfl,o2,n2,c2⟩
  simp
  exact ⟨u',ok,rfl,o2,n2,c2⟩
 ·have hpos:0<l.length:=List.length_pos_iff.2 h0
  obtain ⟨m,hm1⟩:∃m,l.length=m+1:=⟨l.length-1,by omega⟩
  have hml:m<l.length:=by omega
  have hsn:l=l.take m++[l[m]]:=by
   have:=List.take_succ_eq_append_getElem hml
   rw [← this,List.take_of_length_le (by omega)]
  have e1:∀[Inhabited Unit],IntKind.i64.wrap ((m:Int)+1-1)=(m:Int):=by intro _;rw [w64 (by omega) (by omega)];omega
  have e1':∀[Inhabited Unit],IntKind.i64.wrap (m:Int)=(m:Int):=by intro _;rw [w64 (by omega) (by omega)]
  have q1:=o.rd.idx (P:=Tryz.prog) (ty:=109) (e:=144) (by simp) (i:=(m:Int)) (by omega) (by omega)
  have q3:=o.rd.field (P:=Tryz.prog) (s:=144) (f:=4) (o:=4) (n:=1) (ag:=false) (by simp) (j:=m*5) (by omega)
  have q4:=o.rd.cell (P:=Tryz.prog) (e:=4) (by simp) hml (c:=4) (by decide)
  simp only [Int.toNat_natCast,Ox] at q1 q4
  simp only [Xu] at q4
  simp at q4
  have hgt:(0:Int)<(m:Int)+1:=by omega
  have hts:=Ka (l.take m) l[m]
  rw [← hsn] at hts
  obtain ⟨f,hf⟩:∃f,f=l[m]:=⟨_,rfl⟩
  rw [← hf] at hts q4
  simp [-vfieldAddr,Xh,t8,ll,hm1,hgt,e1,e1',q1,q3,q4]
  cases hb:f.2.2.2.2
  ·rw [if_neg (by rw [hb];simp)] at hts
   obtain ⟨s',hs',os',ids_s⟩:=o.slice (P:=Tryz.prog) (ty:=109) (by simp) (lo:=none) (hi:=some (.int .i64 (m:Int))) (l:=0) (u:=m) rfl rfl (by omega) (by omega)
   simp only [List.drop_zero,Nat.sub_zero] at os'
   simp [t8,ll,hm1,e1,e1',hs']
   refine ih (l.take m).length _ _ ⟨s',l.take m,rfl,by simp,rfl,os',by rw [← hts,ht],by simp;omega⟩ (by simp;omega)
  ·rw [if_pos hb] at hts
   have hz:trim l0=l:=by rw [← ht,hts]
   simp [t8]
   refine Qd (fin hz) ?_
   rintro _ H2 ⟨u',ok,rfl,o2,n2,c2⟩
   simp
   exact ⟨u',ok,rfl,o2,n2,c2⟩
def isFlow (a b c:Int) (p:PkD):Prop:=p.2.1=a∧p.2.2.1=b∧p.2.2.2.1=c
instance (a b c:Int) (p:PkD):Decidable (isFlow a b c p):=inferInstanceAs (Decidable (_∧_))
def sentP (list:List PkD) (id a b c:Int):Prop:=∃p∈list,p.1=id∧isFlow a b c p
instance (list:List PkD) (id a b c:Int):Decidable (sentP list id a b c):=inferInstanceAs (Decidable (∃p∈list,_))
def sentIds (list:List PkD) (a b c:Int):List Int:=(list.filter fun p=>isFlow a b c p).map (·.1)
def among (all:List Int) (list:List PkD) (a b c:Int):List Int:=all.filter fun id=>sentP list id a b c
theorem Lo (all:List Int) (list:List PkD) (a b c:Int):(among all list a b c).length≤all.length:=List.length_filter_le _ _
theorem Fs (list:List PkD) (a b c:Int):(sentIds list a b c).length≤list.length:=by unfold sentIds;rw [List.length_map];exact List.length_filter_le _ _
def NewInts (H:Heap) (xs:List Int) (r:Value) (H':Heap):Prop:=Ow Fl.int 3 H' r xs∧(∀i∈ids r,H.length≤i)∧Chg H H' []
theorem kg (v:Value) (list:List PkD) (id a b c:Int) (hI:Rd pkF H v list) (hl:list.length≤1073741824) :
 vcall C frz 126 [v,.int .i64 id,.int .i64 a,.int .i64 b,.int .i64 c] H=some (.bool (decide (sentP list id a b c)),H):=by
 refine wp.exact (by simp) ?_ rfl
 rw [Qb (fn:=Tryz.f126) Tryz.func126 rfl (by kernel_rfl) rfl]
 generalize hY:decide (sentP list id a b c)=Y
 simp [hI.len (P:=Tryz.prog) (ty:=33) (by simp)]
 refine Qh (fun n t H'=>∃i:Nat,n=list.length-i∧i≤list.length∧t 1=.int .i64 id∧t 2=.int .i64 a∧t 3=.int .i64 b∧t 4=.int .i64 c∧t 13=v∧t 14=.int .i64 list.length∧t 15=.int .i64 i∧Chg H H' []∧∀p∈list.take i,¬(p.1=id∧isFlow a b c p)) ?_ (n:=list.length)
  ⟨0,rfl,by omega,by simp,by simp,by simp,by simp,by simp,by simp,by simp,Chg.refl _,by simp⟩
 rintro n t H' ⟨i,rfl,hi,t1,t2,t3,t4,t13,t14,t15,ch,hk⟩ ih
 simp [t1,t2,t3,t4,t13,t14,t15]
 refine Qc ?_ ?_<;>intro g
 ·have hi':i<list.length:=by omega
  have rd:=hI.chg ch (by simp)
  have q1:=rd.idx (P:=Tryz.prog) (ty:=33) (e:=73) (by simp) (i:=(i:Int)) (by omega) (by omega)
  have q2:=rd.load (P:=Tryz.prog) (e:=73) (by simp) hi'
  simp only [Int.toNat_natCast,N6] at q1 q2
  have hF:H.length≤H'.length:=ch.1
  have hst:=fun {x} (hx:x∈list.take (i+1))=>Zn hi' hx
  have hmem:=List.getElem_mem hi'
  obtain ⟨p,hp⟩:∃p,p=list[i]:=⟨_,rfl⟩
  rw [← hp] at q2 hst hmem
  have ext:¬(p.1=id∧isFlow a b c p)→∀x∈list.take (i+1),¬(x.1=id∧isFlow a b c x):=fun hh x hx=>by
   rcases hst hx with hx|rfl
   ·exact hk x hx
   ·exact hh
  simp [t1,t2,t3,t4,t13,t14,t15,q1,q2,Zg,hF,VM.look]
  by_cases g1:p.1=id
  rotate_left
  ·simp [t1,t2,t3,t4,t13,t14,t15,g1]
   refine ih (list.length-(i+1)) _ _ ⟨i+1,rfl,by omega,by simp [t1],by simp [t2],by simp [t3],by simp [t4],by simp [t13],by simp [t14],?_,ch.trans (Chg.app _),ext (fun k=>g1 k.1)⟩ (by omega)
   simp;rw [w64 (by omega) (by omega)]
  simp [t1,t2,t3,t4,t13,t14,t15,VM.look,g1]
  by_cases g2:p.2.1=a
  rotate_left
  ·simp [t1,t2,t3,t4,t13,t14,t15,g1,g2]
   refine ih (list.length-(i+1)) _ _ ⟨i+1,rfl,by omega,by simp [t1],by simp [t2],by simp [t3],by simp [t4],by simp [t13],by simp [t14],?_,ch.trans (Chg.app _),ext (fun k=>g2 k.2.1)⟩ (by omega)
   simp;rw [w64 (by omega) (by omega)]
  simp [t1,t2,t3,t4,t13,t14,t15,VM.look,g1,g2]
  by_cases g3:p.2.2.1=b
  rotate_left
  ·simp [t1,t2,t3,t4,t13,t14,t15,g1,g2,g3]
   refine ih (list.length-(i+1)) _ _ ⟨i+1,rfl,by omega,by simp [t1],by simp [t2],by simp [t3],by simp [t4],by simp [t13],by simp [t14],?_,ch.trans (Chg.app _),ext (fun k=>g3 k.2.2.1)⟩ (by omega)
   simp;rw [w64 (by omega) (by omega)]
  simp [t1,t2,t3,t4,t13,t14,t15,VM.look,g1,g2,g3]
  by_cases g4:p.2.2.2.1=c
  rotate_left
  ·simp [t1,t2,t3,t4,t13,t14,t15,g1,g2,g3,g4]
   refine ih (list.length-(i+1)) _ _ ⟨i+1,rfl,by omega,by simp [t1],by simp [t2],by simp [t3],by simp [t4],by simp [t13],by simp [t14],?_,ch.trans (Chg.app _),ext (fun k=>g4 k.2.2.2)⟩ (by omega)
   simp;rw [w64 (by omega) (by omega)]
  simp [t1,t2,t3,t4,t13,t14,t15,VM.look,g1,g2,g3,g4]
  rw [← hY];exact decide_eq_true ⟨p,hmem,g1,g2,g3,g4⟩
 ·have:i=list.length:=by omega
  subst this
  rw [List.take_length] at hk
  simp [t1,t2,t3,t4,t13,t14,t15]
  rw [← hY];exact decide_eq_false (fun ⟨p,h1,h2⟩=>hk p h1 h2)
theorem I5 (u v:Value) (all:List Int) (list:List PkD) (a b c:Int) (hA:Rd Fl.int H u all) (hI:Rd pkF H v list) (hla:all.length≤1073741824) (hl:list.length≤1073741824) :
 wp (vcall C frz 88 [u,v,.int .i64 a,.int .i64 b,.int .i64 c] H) (NewInts H (among all list a b c)):=by
 rw [Qb (fn:=Tryz.f88) Tryz.func88 rfl (by kernel_rfl) rfl]
 simp [hA.app.len (P:=Tryz.prog) (ty:=26) (by simp)]
 refine Qh (fun n t H'=>∃(i:Nat) (out:Value),n=all.length-i∧i≤all.length∧t 1=v∧t 2=.int .i64 a∧t 3=.int .i64 b∧t 4=.int .i64 c∧t 11=out∧t 15=u∧t 16=.int .i64 all.length∧t 17=.int .i64 i∧NewInts H (among (all.take i) list a b c) out H') ?_ (n:=all.length)
  ⟨0,.slice (some ⟨H.length,0,some 0⟩) 0 0,rfl,by omega,by simp,by simp,by simp,by simp,by simp,by simp,by simp,by simp,Ow.new0 (D:=Fl.int) (xs:=[]) rfl rfl rfl rfl,by simp,Chg.app _⟩
 rintro n t H' ⟨i,out,rfl,hi,t1,t2,t3,t4,t11,t15,t16,t17,o,no,ch⟩ ih
 simp [t1,t2,t3,t4,t11,t15,t16,t17]
 refine Qc ?_ ?_<;>intro g
 ·have hi':i<all.length:=by omega
  have ra:=(hA.chg ch (by simp)).isI
  have q1:=ra.idx (P:=Tryz.prog) (ty:=26) (e:=3) (by simp) (i:=(i:Int)) (by omega) (by omega)
  have q2:=ra.load (P:=Tryz.prog) (e:=3) (by simp) hi'
  simp only [Int.toNat_natCast,V2 hi'] at q1 q2
  have is:=fun F=>kg (frz:=F) (H:=H') v list all[i] a b c (hI.chg ch (by simp)) hl
  have hal:=Lo (all.take i) list a b c
  have htl:(all.take i).length≤i:=by simp;omega
  have hF:H.length≤H'.length:=ch.1
  have hsu:among (all.take (i+1)) list a b c=among (all.take i) list a b c++(if sentP list all[i] a b c then [all[i]] else []):=by
   unfold among;rw [List.take_succ_eq_append_getElem hi',List.filter_append];congr 1;by_cases h:sentP list all[i] a b c<;>simp [h]
  simp [t1,t2,t3,t4,t11,t15,t16,t17,q1,q2,is]
  refine Qc ?_ ?_<;>intro g1
  ·obtain ⟨r',H2,hap,o2,c2,n2⟩:=o.push (P:=Tryz.prog) (frz:=H.length) (ty:=26) (a:=all[i]) (by simp) rfl (by omega) no
   simp only [Fl.int_f] at hap
   simp [t1,t2,t3,t4,t11,t15,t16,t17,hap]
   refine ih (all.length-(i+1)) _ _ ⟨i+1,r',rfl,by omega,by simp [t1],by simp [t2],by simp [t3],by simp [t4],by simp,by simp [t15],by simp [t16],?_,by rw [hsu,if_pos g1];exact o2,fun j hj=>?_,ch.trans' c2 (fun j hj=>.inr (no j hj))⟩ (by omega)
   ·simp;rw [w64 (by omega) (by omega)]
   ·rcases n2 j hj with h1|h1
    ·exact no j h1
    ·omega
  ·simp [t1,t2,t3,t4,t11,t15,t16,t17]
   refine ih (all.length-(i+1)) _ _ ⟨i+1,out,rfl,by omega,by simp [t1],by simp [t2],by simp [t3],by simp [t4],by simp [t11],by simp [t15],by simp [t16],?_,by rw [hsu,if_neg g1,List.append_nil];exact o,no,ch⟩ (by omega)
   simp;rw [w64 (by omega) (by omega)]
 ·have:i=all.length:=by omega
  subst this
  rw [List.take_length] at o
  simp [t1,t2,t3,t4,t11,t15,t16,t17]
  exact ⟨o,no,ch⟩
theorem Ce (v:Value) (list:List PkD) (a b c:Int) (hI:Rd pkF H v list) (hl:list.length≤1073741824) :
 wp (vcall C frz 89 [v,.int .i64 a,.int .i64 b,.int .i64 c] H) (NewInts H (sentIds list a b c)):=by
 rw [Qb (fn:=Tryz.f89) Tryz.func89 rfl (by kernel_rfl) rfl]
 simp [hI.app.len (P:=Tryz.prog) (ty:=33) (by simp)]
 refine Qh (fun n t H'=>∃(i:Nat) (out:Value),n=list.length-i∧i≤list.length∧t 1=.int .i64 a∧t 2=.int .i64 b∧t 3=.int .i64 c∧t 9=out∧t 13=v∧t 14=.int .i64 list.length∧t 15=.int .i64 i∧NewInts H (sentIds (list.take i) a b c) out H') ?_ (n:=list.length)
  ⟨0,.slice (some ⟨H.length,0,some 0⟩) 0 0,rfl,by omega,by simp,by simp,by simp,by simp,by simp,by simp,by simp,Ow.new0 (D:=Fl.int) (xs:=[]) rfl rfl rfl rfl,by simp,Chg.app _⟩
 rintro n t H' ⟨i,out,rfl,hi,t1,t2,t3,t9,t13,t14,t15,o,no,ch⟩ ih
 have rd:=hI.chg ch (by simp)
 simp [t1,t2,t3,t9,t13,t14,t15,rd.len (P:=Tryz.prog) (ty:=33) (by simp)]
 refine Qc ?_ ?_<;>intro g
 ·have hi':i<list.length:=by omega
  have q1:=rd.idx (P:=Tryz.prog) (ty:=33) (e:=73) (by simp) (i:=(i:Int)) (by omega) (by omega)
  have q2:=rd.load (P:=Tryz.prog) (e:=73) (by simp) hi'
  have f0:=rd.field (P:=Tryz.prog) (s:=73) (f:=0) (o:=0) (n:=1) (ag:=false) (by simp) (j:=i*5) (by omega)
  have f1:=rd.field (P:=Tryz.prog) (s:=73) (f:=1) (o:=1) (n:=1) (ag:=false) (by simp) (j:=i*5) (by omega)
  have f2:=rd.field (P:=Tryz.prog) (s:=73) (f:=2) (o:=2) (n:=1) (ag:=false) (by simp) (j:=i*5) (by omega)
  have f3:=rd.field (P:=Tryz.prog) (s:=73) (f:=3) (o:=3) (n:=1) (ag:=false) (by simp) (j:=i*5) (by omega)
  have k0:=rd.cell (P:=Tryz.prog) (e:=3) (by simp) hi' (c:=0) (by decide)
  have k1:=rd.cell (P:=Tryz.prog) (e:=3) (by simp) hi' (c:=1) (by decide)
  have k2:=rd.cell (P:=Tryz.prog) (e:=3) (by simp) hi' (c:=2) (by decide)
  have k3:=rd.cell (P:=Tryz.prog) (e:=3) (by simp) hi' (c:=3) (by decide)
  simp only [Int.toNat_natCast,N6,Nat.add_zero] at q1 q2 f0 k0 k1 k2 k3
  simp only [Zg] at k0 k1 k2 k3
  simp at k0 k1 k2 k3
  have hsl:=Fs (list.take i) a b c
  have htl:(list.take i).length≤i:=by simp;omega
  have hF:H.length≤H'.length:=ch.1
  have hsu:sentIds (list.take (i+1)) a b c=sentIds (list.take i) a b c++(if isFlow a b c list[i] then [list[i].1] else []):=by
   unfold sentIds;rw [List.take_succ_eq_append_getElem hi',List.filter_append,List.map_append];congr 1;by_cases h:isFlow a b c list[i]<;>simp [h]
  obtain ⟨p,hp⟩:∃p,p=list[i]:=⟨_,rfl⟩
  rw [← hp] at q2 k0 k1 k2 k3 hsu
  simp [-vfieldAddr,Xh,t1,t2,t3,t9,t13,t14,t15,q1,q2,f0,f1,f2,f3,k0,k1,k2,k3,Zg,hF,VM.look]
  by_cases g1:p.2.1=a
  rotate_left
  ·have hno:¬isFlow a b c p:=fun k=>g1 k.1
   simp [t1,t2,t3,t9,t13,t14,t15,g1]
   refine ih (list.length-(i+1)) _ _ ⟨i+1,out,rfl,by omega,by simp [t1],by simp [t2],by simp [t3],by simp [t9],by simp [t13],by simp [t14],?_,by rw [hsu,if_neg hno,List.append_nil];exact o.app,no,ch.trans (Chg.app _)⟩ (by omega)
   simp;rw [w64 (by omega) (by omega)]
  simp [-vfieldAddr,Xh,t1,t2,t3,t9,t13,t14,t15,VM.look,q1,f0,f1,f2,f3,k0,k1,k2,k3,g1]
  by_cases g2:p.2.2.1=b
  rotate_left
  ·have hno:¬isFlow a b c p:=fun k=>g2 k.2.1
   simp [t1,t2,t3,t9,t13,t14,t15,g1,g2]
   refine ih (list.length-(i+1)) _ _ ⟨i+1,out,rfl,by omega,by simp [t1],by simp [t2],by simp [t3],by simp [t9],by simp [t13],by simp [t14],?_,by rw [hsu,if_neg hno,List.append_nil];exact o.app,no,ch.trans (Chg.app _)⟩ (by omega)
   simp;rw [w64 (by omega) (by omega)]
  simp [-vfieldAddr,Xh,t1,t2,t3,t9,t13,t14,t15,VM.look,q1,f0,f1,f2,f3,k0,k1,k2,k3,g1,g2]
  by_cases g3:p.2.2.2.1=c
  rotate_left
  ·have hno:¬isFlow a b c p:=fun k=>g3 k.2.2
   simp [t1,t2,t3,t9,t13,t14,t15,g1,g2,g3]
   refine ih (list.length-(i+1)) _ _ ⟨i+1,out,rfl,by omega,by simp [t1],by simp [t2],by simp [t3],by simp [t9],by simp [t13],by simp [t14],?_,by rw [hsu,if_neg hno,List.append_nil];exact o.app,no,ch.trans (Chg.app _)⟩ (by omega)
   simp;rw [w64 (by omega) (by omega)]
  simp [-vfieldAddr,Xh,t1,t2,t3,t9,t13,t14,t15,VM.look,q1,f0,f1,f2,f3,k0,k1,k2,k3,g1,g2,g3]
  obtain ⟨r',H2,hap,o2,c2,n2⟩:=(o.app (L:=[⟨[.int .i64 p.1,.int .i64 a,.int .i64 b,.int .i64 c,.int .i64 p.2.2.2.2],0,73⟩])).push (P:=Tryz.prog) (frz:=H.length) (ty:=26) (a:=p.1) (by simp) rfl (by omega) no
  simp only [Fl.int_f,List.append_assoc,List.cons_append,List.nil_append,List.length_append,List.length_cons,List.length_nil] at hap
  simp [t1,t2,t3,t9,t13,t14,t15,hap]
  refine ih (list.length-(i+1)) _ _ ⟨i+1,r',rfl,by omega,by simp [t1],by simp [t2],by simp [t3],by simp,by simp [t13],by simp [t14],?_,by rw [hsu,if_pos ⟨g1,g2,g3⟩];exact o2,fun j hj=>?_,(ch.trans (Chg.app _)).trans' c2 (fun j hj=>.inr (no j hj))⟩ (by omega)
  ·simp;rw [w64 (by omega) (by omega)]
  ·rcases n2 j hj with h1|h1
   ·exact no j h1
   ·simp at h1;omega
 ·have:i=list.length:=by omega
  subst this
  rw [List.take_length] at o
  simp [t1,t2,t3,t9,t13,t14,t15]
  exact ⟨o,no,ch⟩
def isPre (xs ys:List Int):Prop:=xs=ys.take xs.length
instance (xs ys:List Int):Decidable (isPre xs ys):=inferInstanceAs (Decidable (_=_))
theorem Ji (a b:Value) (xs ys:List Int) (ha:Rd Fl.int H a xs) (hb:Ow Fl.int 3 H b ys) (hl:xs.length≤1073741824) :
 vcall C frz 87 [a,b] H=some (.bool (decide (isPre xs ys)),H):=by
 rw [Qb (fn:=Tryz.f87) Tryz.func87 rfl (by kernel_rfl) rfl]
 have la:=ha.len (P:=Tryz.prog) (ty:=26) (by simp)
 have lb:=hb.rd.len (P:=Tryz.prog) (ty:=26) (by simp)
 by_cases g:xs.length≤ys.length
 ·obtain ⟨s,hs,os,_⟩:=hb.slice (P:=Tryz.prog) (ty:=26) (by simp) (lo:=none) (hi:=some (.int .i64 (xs.length:Int))) (l:=0) (u:=xs.length) rfl rfl (by omega) g
  simp only [List.drop_zero,Nat.sub_zero] at os
  have eq:=fun F=>jg (frz:=F) (H:=H) a s xs (ys.take xs.length) ha os.rd hl
  simp [la,lb,g,hs,eq]
  exact Iff.rfl
 ·have hn:¬isPre xs ys:=fun k=>by have:=congrArg List.length k;simp at this;omega
  simp [la,lb,g,hn]
theorem V8 {α:Type} (p:α→Bool):∀l:List α,(l.dropWhile p).length≤l.length
 | []=>by simp
 | a::l=>by
  rw [List.dropWhile_cons];split;· have:=V8 p l;simp;omega
  ·simp
theorem zr (l:List FlitD):(trim l).length≤l.length:=by unfold trim;rw [List.length_reverse];have:=V8 (fun f:FlitD=>!f.2.2.2.2) l.reverse;rw [List.length_reverse] at this;exact this
theorem Im (l:List FlitD):(wholePk l).length≤l.length:=by
 unfold wholePk;split
 ·simp
 ·exact (Oq l l.length).2
theorem Nm (arr:SSD) (node:Nat) (c:Int):(arrIds arr node c).length≤(arr.getD node []).length:=by
 unfold arrIds
 exact Nat.le_trans (Im _) (Nat.le_trans (zr _) (List.length_filter_le _ _))
def flowOk (arr:SSD) (list:List PkD) (fr to:Nat) (c:Int):Prop:=isPre (among (arrIds arr to c) list fr to c) (sentIds list fr to c)
instance (arr:SSD) (list:List PkD) (fr to:Nat) (c:Int):Decidable (flowOk arr list fr to c):=inferInstanceAs (Decidable (isPre _ _))
def keepsOk (x:NetD) (list:List PkD):Prop:=netOk x∧∀to,to<x.2.2.2.2.2.2.1.length→∀c:Nat,c<2→∀fr,fr<x.2.2.2.2.2.2.1.length→flowOk x.2.2.2.2.2.2.1 list fr to c
instance (x:NetD) (list:List PkD):Decidable (keepsOk x list):=inferInstanceAs (Decidable (_∧_))
theorem Ju {v:NetV} {x:NetD} {u:Value} {list:List PkD} (o:dNet.Ow H v x) (hI:Rd pkF H u list) (hl:list.length≤1073741824):vcall C frz 52 [dNet.val v x,u] H=some (.bool (decide (keepsOk x list)),H):=by
 have ones:=Qn o
 have nk:=fun F L=>Vx (frz:=F) (H:=H++L) (v:=v) (x:=x) (Dt.app (T:=dNet) o)
 simp only [Qk] at nk ⊢
 refine wp.exact (by simp) ?_ rfl
 rw [Qb (fn:=Tryz.f52) Tryz.func52 rfl (by kernel_rfl) rfl]
 generalize hY:decide (keepsOk x list)=Y
 have no:¬keepsOk x list→Y=false:=fun hh=>by rw [← hY];exact decide_eq_false hh
 simp [ones,nk]
 by_cases g0:netOk x
 rotate_left
 ·simp [g0,no (fun k=>g0 k.1)]
 simp [g0,ones]
 obtain ⟨G,hG⟩:∃G,G=H++[⟨[.int .i64 x.1.1,.int .i64 x.1.2.1,v.1,v.2.1.1,v.2.1.2,v.2.2.1.1,v.2.2.2.1,v.2.2.2.2.1,v.2.2.2.2.2.1.1,v.2.2.2.2.2.2.1.1,.int .i64 x.2.2.2.2.2.2.2],0,38⟩]:=⟨_,rfl⟩
 rw [← hG]
 have b0:G[H.length]? = some ⟨[.int .i64 x.1.1,.int .i64 x.1.2.1,v.1,v.2.1.1,v.2.1.2,v.2.2.1.1,v.2.2.2.1,v.2.2.2.2.1,v.2.2.2.2.2.1.1,v.2.2.2.2.2.2.1.1,.int .i64 x.2.2.2.2.2.2.2],0,38⟩:=by rw [hG];simp
 have hGl:H.length<G.length:=by rw [hG];simp
 have h9:dSS.Ow G v.2.2.2.2.2.2.1 x.2.2.2.2.2.2.1:=by rw [hG];exact Dt.app (T:=dSS) o.2.2.2.2.2.2.1
 have hI':Rd pkF G u list:=by rw [hG];exact hI.app
 obtain ⟨arr,harr⟩:∃a,a=x.2.2.2.2.2.2.1:=⟨_,rfl⟩
 rw [← harr] at h9
 have hkeep:(∀to,to<arr.length→∀c:Nat,c<2→∀fr,fr<arr.length→flowOk arr list fr to c)→Y=true:=fun k=>by rw [← hY,decide_eq_true];exact ⟨g0,by rw [← harr];exact k⟩
 have hfail:∀to,to<arr.length→∀c:Nat,c<2→∀fr,fr<arr.length→¬flowOk arr list fr to c→Y=false:=fun to h1 c h2 fr h3 h4=>no (fun k=>h4 (by have:=k.2;rw [← harr] at this;exact this to h1 c h2 fr h3))
 have hal:=h9.2.1
 have l9:=h9.1.1.rd.len (P:=Tryz.prog) (ty:=36) (by simp)
 rw [h9.1.2.1] at l9
 clear hG hY no
 simp [b0,VM.look,l9]
 refine Qh (fun n t G1=>∃i:Nat,n=arr.length-i∧i≤arr.length∧t 1=u∧t 2=.pointer (some ⟨H.length,0,some 0⟩)∧t 15=.int .i64 arr.length∧t 16=.int .i64 i∧Chg G G1 []∧∀to,to<i→∀c:Nat,c<2→∀fr,fr<arr.length→flowOk arr list fr to c) ?_ (n:=arr.length)
  ⟨0,rfl,by omega,by simp,by simp,by simp,by simp,Chg.refl _,fun _ h=>absurd h (by omega)⟩
 rintro n t G1 ⟨i,rfl,hi,t1,t2,t15,t16,ch,hk⟩ ih
 simp [t1,t2,t15,t16]
 refine Qc ?_ ?_<;>intro g
 rotate_left
 ·have:i=arr.length:=by omega
  subst this
  simp [t1,t2,t15,t16]
  exact hkeep hk
 have hi':i<arr.length:=by omega
 simp [t1,t2,t15,t16]
 refine Qh (fun n t G1=>∃k:Nat,n=2-k∧k≤2∧t 1=u∧t 2=.pointer (some ⟨H.length,0,some 0⟩)∧t 5=.int .i64 i∧t 15=.int .i64 arr.length∧t 16=.int .i64 i∧t 19=.int .i64 k∧Chg G G1 []∧∀c:Nat,c<k→∀fr,fr<arr.length→flowOk arr list fr i c) ?_ (n:=2)
  ⟨0,rfl,by omega,by simp [t1],by simp [t2],by simp,by simp [t15],by simp [t16],by simp,ch,fun _ h=>absurd h (by omega)⟩
 clear ch t1 t2 t15 t16
 rintro n t G1 ⟨k,rfl,hk2,t1,t2,t5,t15,t16,t19,ch,hc⟩ ih2
 simp [t1,t2,t5,t15,t16,t19]
 refine Qc ?_ ?_<;>intro g2
 rotate_left
 ·have:k=2:=by omega
  subst this
  simp [t1,t2,t5,t15,t16,t19]
  refine ih (arr.length-(i+1)) _ _ ⟨i+1,rfl,by omega,by simp [t1],by simp [t2],by simp [t15],?_,ch,fun to h=>?_⟩ (by omega)
  ·simp;rw [w64 (by omega) (by omega)]
  ·rcases Nat.lt_succ_iff_lt_or_eq.1 h with h|rfl
   ·exact hk to h
   ·exact hc
 have b1:=Qa b0 ch (by simp)
 have h91:=Dt.chg (T:=dSS) h9 ch (by simp)
 have hm:=h91.2.2 _ (List.getElem_mem hi')
 have hg:arr.getD i []=arr[i]:=by simp [List.getD_eq_getElem?_getD,hi']
 simp [t1,t2,t5,t15,t16,t19]
 refine Qd (M1 b1 h91 hi') ?_
 rintro _ G2 ⟨s,ok,rfl,os,ns,c2⟩
 have b2:=Qa b1 c2 (by simp)
 have h92:=Dt.chg (T:=dSS) h91 c2 (by simp)
 have l92:=h92.1.1.rd.len (P:=Tryz.prog) (ty:=36) (by simp)
 rw [h92.1.2.1] at l92
 have hal2:=Nm arr i k
 rw [hg] at hal2
 have hb2:(arrIds arr i k).length≤67108864:=by omega
 simp [t1,t2,t5,t15,t16,t19,b2,VM.look,l92]
 have ch2:Chg G G2 []:=ch.trans c2
 refine Qh (fun n t G3=>∃j:Nat,n=arr.length-j∧j≤arr.length∧t 1=u∧t 2=.pointer (some ⟨H.length,0,some 0⟩)∧t 5=.int .i64 i∧t 6=.int .i64 k∧t 7=s∧t 15=.int .i64 arr.length∧t 16=.int .i64 i∧t 19=.int .i64 k∧t 30=.int .i64 arr.length∧t 31=.int .i64 j∧Chg G2 G3 []∧∀fr,fr<j→flowOk arr list fr i k) ?_ (n:=arr.length)
  ⟨0,rfl,by omega,by simp [t1],by simp [t2],by simp [t5],by simp,by simp,by simp [t15],by simp [t16],by simp [t19],by simp,by simp,Chg.refl _,fun _ h=>absurd h (by omega)⟩
 clear t1 t2 t5 t15 t16 t19
 rintro n t G3 ⟨j,rfl,hj,t1,t2,t5,t6,t7,t15,t16,t19,t30,t31,c3,hf⟩ ih3
 simp [t1,t2,t5,t6,t7,t15,t16,t19,t30,t31]
 refine Qc ?_ ?_<;>intro g3
 rotate_left
 ·have:j=arr.length:=by omega
  subst this
  simp [t1,t2,t5,t6,t7,t15,t16,t19,t30,t31]
  refine ih2 (2-(k+1)) _ _ ⟨k+1,rfl,by omega,by simp [t1],by simp [t2],by simp [t5],by simp [t15],by simp [t16],?_,ch2.trans c3,fun c h=>?_⟩ (by omega)
  ·simp;rw [w64 (by omega) (by omega)]
  ·rcases Nat.lt_succ_iff_lt_or_eq.1 h with h|rfl
   ·exact hc c h
   ·exact hf
 have hj':j<arr.length:=by omega
 have os3:=os.chg c3 (by simp)
 have hI3:Rd pkF G3 u list:=hI'.chg (ch2.trans c3) (by simp)
 simp [t1,t2,t5,t6,t7,t15,t16,t19,t30,t31]
 refine Qd (I5 s u _ list j i k os3.rd hI3 (by omega) hl) ?_
 rintro r4 G4 ⟨o4,n4,c4⟩
 have hI4:=hI3.chg c4 (by simp)
 simp [t1,t2,t5,t6,t7,t15,t16,t19,t30,t31]
 refine Qd (Ce u list j i k hI4 hl) ?_
 rintro r5 G5 ⟨o5,n5,c5⟩
 have o45:=o4.chg c5 (by simp)
 have hal3:=Lo (arrIds arr i k) list j i k
 have ip:=fun F=>Ji (frz:=F) (H:=G5) r4 r5 _ _ o45.rd o5 (by omega)
 simp [t1,t2,t5,t6,t7,t15,t16,t19,t30,t31,ip]
 by_cases g5:flowOk arr list j i k
 ·have g5':isPre (among (arrIds arr i k) list j i k) (sentIds list j i k):=g5
  simp [t1,t2,t5,t6,t7,t15,t16,t19,t30,t31,g5']
  refine ih3 (arr.length-(j+1)) _ _ ⟨j+1,rfl,by omega,by simp [t1],by simp [t2],by simp [t5],by simp [t6],by simp [t7],by simp [t15],by simp [t16],by simp [t19],by simp [t30],?_,(c3.trans c4).trans c5,fun fr h=>?_⟩ (by omega)
  ·simp;rw [w64 (by omega) (by omega)]
  ·rcases Nat.lt_succ_iff_lt_or_eq.1 h with h|rfl
   ·exact hf fr h
   ·exact g5
 ·have g5':¬isPre (among (arrIds arr i k) list j i k) (sentIds list j i k):=g5
  simp [t1,t2,t5,t6,t7,t15,t16,t19,t30,t31,g5']
  exact hfail i hi' k (by omega) j hj' g5
def placeK (p:PkD→Bool) (b:List PkD):Int:=if b.any p then b.findIdx p else -1
theorem Jv (p:PkD→Bool) (b:List PkD) : -1≤placeK p b∧placeK p b<b.length∧(0≤placeK p b↔b.any p=true):=by
 unfold placeK
 split
 ·rename_i h
  obtain ⟨x,hx,hp⟩:=List.any_eq_true.1 h
  have:=List.findIdx_lt_length_of_exists ⟨x,hx,hp⟩
  refine ⟨by omega,by omega,?_⟩
  simp only [h,iff_true];omega
 ·rename_i h
  refine ⟨by omega,by omega,?_⟩
  simp only [h];simp
theorem A2 {p:PkD→Bool} {b:List PkD} {i:Nat} (h:i<b.length) (h1:∀x∈b.take i,p x=false) (h2:p b[i]=true):placeK p b=i:=by
 unfold placeK
 rw [if_pos (List.any_eq_true.2 ⟨b[i],List.getElem_mem h,h2⟩)]
 congr 1
 rw [List.findIdx_eq h]
 refine ⟨h2,fun j hj=>?_⟩
 refine Bool.eq_false_iff.1 ?_ |> fun hh=>by simpa using hh
 exact h1 _ (by rw [List.mem_take_iff_getElem];exact ⟨j,by omega,rfl⟩)
theorem Kz (v f:Value) (p:PkD→Bool) (b:List PkD) (hI:Rd pkF H v b) (hl:b.length≤1073741824)
 (hf:∀x∈b,vclos (vcall C H.length) f [pkV x] H=some (.bool (p x),H)) :
 vcall C frz 127 [v,f] H=some (.int .i64 (placeK p b),H):=by
 refine wp.exact (by simp) ?_ rfl
 rw [Qb (fn:=Tryz.f127) Tryz.func127 rfl (by kernel_rfl) rfl]
 have ll:=hI.len (P:=Tryz.prog) (ty:=33) (by simp)
 simp [ll]
 refine Qh (fun n t H'=>∃i:Nat,n=b.length-i∧i≤b.length∧t 0=v∧t 1=f∧t 7=.int .i64 b.length∧t 8=.int .i64 i∧H'=H∧∀x∈b.take i,p x=false) ?_ (n:=b.length) ⟨0,by simp⟩
 rintro n t H' ⟨i,rfl,hi,h0,h1,h3,h4,rfl,hj⟩ ih
 simp [h0,h1,h3,h4,ll]
 refine Qc ?_ ?_<;>intro h5
 ·have hi':i<b.length:=by omega
  have q1:=hI.idx (P:=Tryz.prog) (ty:=33) (e:=73) (by simp) (i:=(i:Int)) (by omega) (by omega)
  have q2:=hI.load (P:=Tryz.prog) (e:=73) (by simp) hi'
  have hf':=hf _ (List.getElem_mem hi')
  simp only [Int.toNat_natCast,N6,Zg] at q1 q2
  unfold pkV at hf'
  simp [h0,h1,h3,h4,q1,q2,hf']
  cases h6:p b[i]
  ·simp [h0,h1,h3,h4,h6]
   refine ih (b.length-(i+1)) _ _ ⟨i+1,rfl,by omega,by simp [h0],by simp [h1],by simp [h3],?_,rfl,fun x hx=>?_⟩ (by omega)
   ·simp;rw [w64 (by omega) (by omega)]
   ·rcases Zn hi' hx with hx|rfl
    ·exact hj x hx
    ·exact h6
  ·simp [h0,h1,h3,h4,h6]
   rw [A2 hi' hj h6]
 ·have:i=b.length:=by omega
  subst this
  simp [h0,h1,h3,h4]
  rw [List.take_length] at hj
  rw [placeK,if_neg]
  rw [List.any_eq_true]
  rintro ⟨x,hx,hp⟩
  rw [hj x hx] at hp;cases hp
theorem Po (v f:Value) (p:PkD→Bool) (b:List PkD) (hI:Rd pkF H v b) (hl:b.length≤1073741824)
 (hf:∀x∈b,vclos (vcall C H.length) f [pkV x] H=some (.bool (p x),H)) :
 vcall C frz 90 [v,f] H=some (.bool (b.any p),H):=by
 rw [Qb (fn:=Tryz.f90) Tryz.func90 rfl (by kernel_rfl) rfl]
 simp [Kz _ _ _ _ hI hl hf,(Jv p b).2.2,-List.any_eq_true]
def missOk (x:NetD) (list:List PkD):Prop:=netOk x∧∀p∈list,packetOk x.1.1 x.1.2.1 p
instance (x:NetD) (list:List PkD):Decidable (missOk x list):=inferInstanceAs (Decidable (_∧_))
def lackP (arr:SSD) (p:PkD):Bool:=!decide (p.1∈arrIds arr p.2.2.1.toNat p.2.2.2.1)
def lacks (x:NetD) (list:List PkD):List Int:=(list.filter (lackP x.2.2.2.2.2.2.1)).map (·.1)
theorem Cv {arr:SSD} {list:List PkD} {i:Nat} (h:i<list.length):((list.take (i+1)).filter (lackP arr)).map (·.1)=((list.take i).filter (lackP arr)).map (·.1)++(if lackP arr list[i]=true then [list[i].1] else []):=by
 rw [List.take_succ_eq_append_getElem h,List.filter_append,List.map_append];congr 1;cases h:lackP arr list[i]<;>simp [h]
def missing (x:NetD) (list:List PkD):List Int:=if missOk x list then lacks x list else []
theorem qu (x:NetD) (list:List PkD):(lacks x list).length≤list.length:=by unfold lacks;rw [List.length_map];exact List.length_filter_le _ _
theorem Mm (x:NetD) (v:NetV) (p:PkD) (id:Nat) (hr:H[id]? = some ⟨[.int .i64 x.1.1,.int .i64 x.1.2.1,v.1,v.2.1.1,v.2.1.2,v.2.2.1.1,v.2.2.2.1,v.2.2.2.2.1,v.2.2.2.2.2.1.1,v.2.2.2.2.2.2.1.1,.int .i64 x.2.2.2.2.2.2.2],0,38⟩) :
 vcall C frz 91 [pkV p,.pointer (some ⟨id,0,some 0⟩)] H=some (.bool (!decide (packetOk x.1.1 x.1.2.1 p)),H):=by
 have hlt:=Qs hr
 have pk:=fun F L=>Tr (frz:=F) (H:=H++L) x.1.1 x.1.2.1 p
 have hr':=fun r=>Ql hr [r]
 refine wp.exact (by simp) ?_ rfl
 rw [Qb (fn:=Tryz.f91) Tryz.func91 rfl (by kernel_rfl) rfl]
 unfold pkV at *
 simp [VM.look,hr',pk]
theorem xa {v:NetV} {x:NetD} {u:Value} {list:List PkD} (o:dNet.Ow H v x) (hI:Rd pkF H u list) (hl:list.length≤1073741824) :
 wp (vcall C frz 53 [dNet.val v x,u] H) (NewInts H (missing x list)):=by
 have ones:=Qn o
 have nk:=fun F L=>Vx (frz:=F) (H:=H++L) (v:=v) (x:=x) (Dt.app (T:=dNet) o)
 simp only [Qk] at nk ⊢
 rw [Qb (fn:=Tryz.f53) Tryz.func53 rfl (by kernel_rfl) rfl]
 simp [ones,nk]
 have bad:¬missOk x list→missing x list=[]:=fun k=>if_neg k
 by_cases g0:netOk x
 rotate_left
 ·simp [g0]
  rw [bad (fun k=>g0 k.1)]
  exact ⟨Ow.new (D:=Fl.int) (xs:=[]) (k:=1) rfl rfl rfl rfl,by simp,Chg.app _⟩
 obtain ⟨G,hG⟩:∃G,G=H++[⟨[.int .i64 x.1.1,.int .i64 x.1.2.1,v.1,v.2.1.1,v.2.1.2,v.2.2.1.1,v.2.2.2.1,v.2.2.2.2.1,v.2.2.2.2.2.1.1,v.2.2.2.2.2.2.1.1,.int .i64 x.2.2.2.2.2.2.2],0,38⟩,⟨[],0,3⟩]:=⟨_,rfl⟩
 rw [← hG]
 have b0:G[H.length]? = some ⟨[.int .i64 x.1.1,.int .i64 x.1.2.1,v.1,v.2.1.1,v.2.1.2,v.2.2.1.1,v.2.2.2.1,v.2.2.2.2.1,v.2.2.2.2.2.1.1,v.2.2.2.2.2.2.1.1,.int .i64 x.2.2.2.2.2.2.2],0,38⟩:=by rw [hG];simp
 have cG:Chg H G []:=by rw [hG];exact Chg.app _
 have hI':Rd pkF G u list:=by rw [hG];exact hI.app
 have o0:Ow Fl.int 3 G (.slice (some ⟨H.length+1,0,some 0⟩) 0 0) []:=by rw [hG];exact Ow.new (D:=Fl.int) (xs:=[]) (k:=1) rfl rfl rfl rfl
 have cf:=fun F=>Po (frz:=F) (H:=G) u (.func (.func 91) #[] #[.pointer (some ⟨H.length,0,some 0⟩)]) (fun p=>!decide (packetOk x.1.1 x.1.2.1 p)) list hI' hl (fun p hp=>by have:=Mm (frz:=G.length) x v p H.length b0;simpa using this)
 simp [g0,cf]
 by_cases g1:∀p∈list,packetOk x.1.1 x.1.2.1 p
 rotate_left
 ·have g1':(list.any fun p=>!decide (packetOk x.1.1 x.1.2.1 p))=true:=by
   rw [List.any_eq_true]
   refine Classical.byContradiction fun hh=>g1 fun p hp=>Classical.byContradiction fun hq=>hh ⟨p,hp,by simp [hq]⟩
  simp [g1',-List.any_eq_true]
  rw [bad (fun k=>g1 k.2)]
  exact ⟨o0,by simp,cG⟩
 have g1':(list.any fun p=>!decide (packetOk x.1.1 x.1.2.1 p))=false:=by
  rw [Bool.eq_false_iff];intro hh
  obtain ⟨p,hp,hq⟩:=List.any_eq_true.1 hh
  simp [g1 p hp] at hq
 simp [g1',-List.any_eq_true,hI'.len (P:=Tryz.prog) (ty:=33) (by simp)]
 rw [show missing x list=lacks x list from if_pos ⟨g0,g1⟩]
 have hN:=g0.2.1.2.2.2.2
 obtain ⟨arr,harr⟩:∃a,a=x.2.2.2.2.2.2.1:=⟨_,rfl⟩
 unfold lacks
 rw [← harr] at hN ⊢
 have h9:=o.2.2.2.2.2.2.1
 rw [← harr] at h9
 have hb9:=h9.2.2
 have hGl:H.length<G.length:=by rw [hG];simp
 clear hG cf bad g1' nk
 refine Qh (fun n t H'=>∃(i:Nat) (out:Value),n=list.length-i∧i≤list.length∧t 2=.pointer (some ⟨H.length,0,some 0⟩)∧t 5=out∧t 20=u∧t 21=.int .i64 list.length∧t 22=.int .i64 i∧Chg H H' []∧H'[H.length]? = some ⟨[.int .i64 x.1.1,.int .i64 x.1.2.1,v.1,v.2.1.1,v.2.1.2,v.2.2.1.1,v.2.2.2.1,v.2.2.2.2.1,v.2.2.2.2.2.1.1,v.2.2.2.2.2.2.1.1,.int .i64 x.2.2.2.2.2.2.2],0,38⟩∧Ow Fl.int 3 H' out (((list.take i).filter (lackP arr)).map (·.1))∧(∀j∈ids out,H.length<j)) ?_ (n:=list.length)
  ⟨0,.slice (some ⟨H.length+1,0,some 0⟩) 0 0,rfl,by omega,by simp,by simp,by simp,by simp,by simp,cG,b0,o0,by simp⟩
 rintro n t H' ⟨i,out,rfl,hi,t2,t5,t20,t21,t22,ch,bb,oo,no⟩ ih
 simp [t2,t5,t20,t21,t22]
 refine Qc ?_ ?_<;>intro g
 rotate_left
 ·have:i=list.length:=by omega
  subst this
  rw [List.take_length] at oo
  simp [t2,t5,t20,t21,t22]
  exact ⟨oo,fun j hj=>by have:=no j hj;omega,ch⟩
 have hi':i<list.length:=by omega
 have hp0:=g1 _ (List.getElem_mem hi')
 have hto:=hp0.2.2.1
 unfold isN at hto
 have rd:=hI.chg ch (by simp)
 have hF:H.length≤H'.length:=ch.1
 have q1:=rd.idx (P:=Tryz.prog) (ty:=33) (e:=73) (by simp) (i:=(i:Int)) (by omega) (by omega)
 have q2:=rd.load (P:=Tryz.prog) (e:=73) (by simp) hi'
 simp only [Int.toNat_natCast,N6] at q1 q2
 have hsu:=Cv (arr:=arr) hi'
 have hln:(((list.take i).filter (lackP arr)).map (·.1)).length≤i:=by rw [List.length_map];have:=List.length_filter_le (lackP arr) (list.take i);simp at this;omega
 obtain ⟨p,hp⟩:∃p,p=list[i]:=⟨_,rfl⟩
 rw [← hp] at q2 hsu hto
 obtain ⟨m,hm⟩:∃m:Nat,p.2.2.1=m:=⟨p.2.2.1.toNat,by omega⟩
 have hml:m<arr.length:=by omega
 have hlk:lackP arr p=!decide (p.1∈arrIds arr m p.2.2.2.1):=by unfold lackP;rw [hm,Int.toNat_natCast]
 have bb2:=fun r=>Ql bb [r]
 have h92:=fun L=>Dt.app (T:=dSS) (L:=L) (Dt.chg (T:=dSS) h9 ch (by simp))
 have hm9:=hb9 _ (List.getElem_mem hml)
 have hg:arr.getD m []=arr[m]:=by simp [List.getD_eq_getElem?_getD,hml]
 have hal:=Nm arr m p.2.2.2.1
 rw [hg] at hal
 simp [t2,t5,t20,t21,t22,q1,q2,Zg,hF,VM.look,hm]
 refine Qd (M1 (bb2 _) (h92 _) hml) ?_
 rintro _ G2 ⟨s,ok,rfl,os,ns,c2⟩
 have b3:=Qa (bb2 _) c2 (by simp)
 have bp:G2[H'.length]? = some ⟨[.int .i64 p.1,.int .i64 p.2.1,.int .i64 m,.int .i64 p.2.2.2.1,.int .i64 p.2.2.2.2],0,73⟩:=Qa (by simp) c2 (by simp)
 have o2:Ow Fl.int 3 G2 out (((list.take i).filter (lackP arr)).map (·.1)):=oo.app.chg c2 (by simp)
 have cc:=fun F=>Y7 (frz:=F) (H:=G2) s _ p.1 os.rd.isI (by omega)
 have ch2:Chg H G2 []:=(ch.trans (Chg.app _)).trans c2
 simp [t2,t5,t20,t21,t22,VM.look,bp,cc]
 by_cases g4:p.1∈arrIds arr m p.2.2.2.1
 ·have hlp:¬lackP arr p=true:=by rw [hlk];simp [g4]
  simp [t2,t5,t20,t21,t22,g4]
  refine ih (list.length-(i+1)) _ _ ⟨i+1,out,rfl,by omega,by simp [t2],by simp [t5],by simp [t20],by simp [t21],?_,ch2,b3,by rw [hsu,if_neg hlp,List.append_nil];exact o2,no⟩ (by omega)
  simp;rw [w64 (by omega) (by omega)]
 ·have hlp:lackP arr p=true:=by rw [hlk];simp [g4]
  obtain ⟨r',H3,hap,o3,c3,n3⟩:=o2.push (P:=Tryz.prog) (frz:=H.length) (ty:=26) (a:=p.1) (by simp) rfl (by omega) (fun j hj=>by have:=no j hj;omega)
  simp only [Fl.int_f] at hap
  simp [t2,t5,t20,t21,t22,g4,VM.look,bp,hap]
  refine ih (list.length-(i+1)) _ _ ⟨i+1,r',rfl,by omega,by simp [t2],by simp,by simp [t20],by simp [t21],?_,ch2.trans' c3 (fun j hj=>.inr (by have:=no j hj;omega)),Qa b3 c3 (fun hj=>by have:=no _ hj;omega),by rw [hsu,if_pos hlp];exact o3,fun j hj=>?_⟩ (by omega)
  ·simp [t22];rw [w64 (by omega) (by omega)]
  ·rcases n3 j hj with h1|h1
   ·exact no j h1
   ·have:=ch2.1;have:=Qs bp;omega
abbrev pk0:PkD:=(0,0,0,0,0)
def sentOk (w h:Int) (list:List PkD):Prop:=∀i,i<list.length→packetOk w h (list.getD i pk0)∧(list.getD i pk0).1=(i:Int)+1
instance (w h:Int) (list:List PkD):Decidable (sentOk w h list):=inferInstanceAs (Decidable (∀i,i<_→_))
def chipOk (a:ChipD):Prop:=netOk a.1∧a.2.length≤200∧sentOk a.1.1.1 a.1.1.2.1 a.2∧keepsOk a.1 a.2
instance (a:ChipD):Decidable (chipOk a):=inferInstanceAs (Decidable (_∧_))
def delivered (a:ChipD):Int:=if chipOk a then (a.2.length:Int)-(missing a.1 a.2).length else -1
theorem Z2 {v:ChipV} {a:ChipD} (o:dChip.Ow H v a):vcall C frz 20 [dChip.val v a] H=some (.bool (decide (chipOk a)),H):=by
 have oneA:=Qy o
 have ones:=oneA.1
 have one2:=oneA.2
 have o1:=o.1
 have rs:=o.2.1.rd
 have nk:=fun F L=>Vx (frz:=F) (H:=H++L) (v:=v.1) (x:=a.1) (Dt.app (T:=dNet) o1)
 have ko:=fun F H' (c:Chg H H' [])=>Ju (frz:=F) (H:=H') (u:=v.2) (list:=a.2) (Dt.chg (T:=dNet) o1 c (by simp)) (rs.chg c (by simp)) o.2.2
 simp only [Qk] at nk ko
 rw [Qo]
 refine wp.exact (by simp) ?_ rfl
 rw [Qb (fn:=Tryz.f20) Tryz.func20 rfl (by kernel_rfl) rfl]
 have hY:∀Y,(chipOk a→Y=true)→(¬chipOk a→Y=false)→Y=decide (chipOk a):=fun Y h1 h2=>by
  by_cases g:chipOk a
  ·rw [h1 g,decide_eq_true g]
  ·rw [h2 g,decide_eq_false g]
 have hno:¬chipOk a→false=decide (chipOk a):=fun g=>by rw [decide_eq_false g]
 have hG:(H++[⟨[.int .i64 a.1.1.1,.int .i64 a.1.1.2.1,v.1.1,v.1.2.1.1,v.1.2.1.2,v.1.2.2.1.1,v.1.2.2.2.1,v.1.2.2.2.2.1,v.1.2.2.2.2.2.1.1,v.1.2.2.2.2.2.2.1.1,.int .i64 a.1.2.2.2.2.2.2.2,v.2],0,51⟩])[H.length]? = some ⟨[.int .i64 a.1.1.1,.int .i64 a.1.1.2.1,v.1.1,v.1.2.1.1,v.1.2.1.2,v.1.2.2.1.1,v.1.2.2.2.1,v.1.2.2.2.2.1,v.1.2.2.2.2.2.1.1,v.1.2.2.2.2.2.2.1.1,.int .i64 a.1.2.2.2.2.2.2.2,v.2],0,51⟩:=by simp
 have cG:Chg H (H++[⟨[.int .i64 a.1.1.1,.int .i64 a.1.1.2.1,v.1.1,v.1.2.1.1,v.1.2.1.2,v.1.2.2.1.1,v.1.2.2.2.1,v.1.2.2.2.2.1,v.1.2.2.2.2.2.1.1,v.1.2.2.2.2.2.2.1.1,.int .i64 a.1.2.2.2.2.2.2.2,v.2],0,51⟩]) []:=Chg.app _
 simp [ones,one2,nk]
 by_cases g0:netOk a.1
 rotate_left
 ·simp [g0];exact fun k=>g0 k.1
 have ls:=fun L=>(rs.app (L:=L)).len (P:=Tryz.prog) (ty:=33) (by simp)
 simp [g0,ones,one2,ls]
 by_cases g1:200<a.2.length
 ·have g1':(200:Int)<a.2.length:=by omega
  simp [g1,g1'];exact fun k=>by have:=k.2.1;omega
 have g1':¬(200:Int)<a.2.length:=by omega
 simp [g1,g1',ones,one2,ls]
 refine Qh (fun n t H'=>∃(i:Nat),n=a.2.length-i∧i≤a.2.length∧t 1=.pointer (some ⟨H.length,0,some 0⟩)∧t 16=v.2∧t 17=.int .i64 a.2.length∧t 18=.int .i64 i∧Chg H H' []∧H'[H.length]? = some ⟨[.int .i64 a.1.1.1,.int .i64 a.1.1.2.1,v.1.1,v.1.2.1.1,v.1.2.1.2,v.1.2.2.1.1,v.1.2.2.2.1,v.1.2.2.2.2.1,v.1.2.2.2.2.2.1.1,v.1.2.2.2.2.2.2.1.1,.int .i64 a.1.2.2.2.2.2.2.2,v.2],0,51⟩∧∀j,j<i→packetOk a.1.1.1 a.1.1.2.1 (a.2.getD j pk0)∧(a.2.getD j pk0).1=(j:Int)+1) ?_ (n:=a.2.length)
  ⟨0,rfl,by omega,by simp,by simp,by simp,by simp,cG,hG,fun _ h=>absurd h (by omega)⟩
 rintro n t H' ⟨i,rfl,hi,t1,t16,t17,t18,ch,bb,hk⟩ ih
 have rd:=rs.chg ch (by simp)
 have ll:=rd.len (P:=Tryz.prog) (ty:=33) (by simp)
 simp [t1,t16,t17,t18,VM.look,bb,ll]
 refine Qc ?_ ?_<;>intro g
 rotate_left
 ·have:i=a.2.length:=by omega
  have hs:sentOk a.1.1.1 a.1.1.2.1 a.2:=fun j hj=>hk j (by omega)
  have ko':=fun F=>ko F H' ch
  simp [t1,t16,t17,t18,VM.look,bb,ones,one2,ko']
  exact ⟨fun k=>⟨g0,by omega,hs,k⟩,fun k=>k.2.2.2⟩
 have hi':i<a.2.length:=by omega
 have hF:H.length≤H'.length:=ch.1
 have q1:=rd.idx (P:=Tryz.prog) (ty:=33) (e:=73) (by simp) (i:=(i:Int)) (by omega) (by omega)
 have q2:=rd.load (P:=Tryz.prog) (e:=73) (by simp) hi'
 simp only [Int.toNat_natCast,N6] at q1 q2
 have hgd:a.2.getD i pk0=a.2[i]:=by simp [List.getD_eq_getElem?_getD,hi']
 have hfail:¬(packetOk a.1.1.1 a.1.1.2.1 a.2[i]∧a.2[i].1=(i:Int)+1)→¬chipOk a:=fun k c=>k (by have:=c.2.2.1 i hi';rwa [hgd] at this)
 have e1:=@w6 ((i:Int)+1) (by omega)
 have hnx:packetOk a.1.1.1 a.1.1.2.1 a.2[i]→a.2[i].1=(i:Int)+1→∀j,j<i+1→packetOk a.1.1.1 a.1.1.2.1 (a.2.getD j pk0)∧(a.2.getD j pk0).1=(j:Int)+1:=fun k1 k2 j hj=>by
  rcases Nat.lt_succ_iff_lt_or_eq.1 hj with hj|rfl
  ·exact hk j hj
  ·rw [hgd];exact ⟨k1,k2⟩
 obtain ⟨p,hp⟩:∃p,p=a.2[i]:=⟨_,rfl⟩
 have pk:=fun F L=>Tr (frz:=F) (H:=H'++L) a.1.1.1 a.1.1.2.1 p
 unfold pkV at pk
 rw [← hp] at q2 hfail hnx
 have bb2:=fun r=>Ql bb [r]
 simp [t1,t16,t17,t18,q1,q2,Zg,hF,VM.look,bb2,pk]
 by_cases g2:packetOk a.1.1.1 a.1.1.2.1 p
 rotate_left
 ·simp [g2];exact hfail (fun k=>g2 k.1)
 by_cases g3:p.1=(i:Int)+1
 rotate_left
 ·simp [t1,t16,t17,t18,g2,g3,VM.look,e1];exact hfail (fun k=>g3 k.2)
 simp [t1,t16,t17,t18,g2,g3,VM.look,e1]
 refine ih (a.2.length-(i+1)) _ _ ⟨i+1,rfl,by omega,by simp [t1],by simp [t16],by simp [t17],by simp [t18],ch.trans (Chg.app _),Ql bb _,hnx g2 g3⟩ (by omega)
theorem Gl {v:ChipV} {a:ChipD} (o:dChip.Ow H v a):vcall C frz 21 [dChip.val v a] H=some (.int .i64 (delivered a),H):=by
 have oneA:=Qy o
 have ones:=oneA.1
 have one2:=oneA.2
 have o1:=o.1
 have rs:=o.2.1.rd
 have ck:=fun F L=>Z2 (frz:=F) (H:=H++L) (v:=v) (a:=a) (Dt.app (T:=dChip) o)
 have ms:=fun F L=>xa (frz:=F) (H:=H++L) (u:=v.2) (list:=a.2) (Dt.app (T:=dNet) o1) rs.app o.2.2
 have ls:=fun L=>(rs.app (L:=L)).len (P:=Tryz.prog) (ty:=33) (by simp)
 simp only [Qk] at ms
 simp only [Qo] at ck ⊢
 refine wp.exact (by simp) ?_ rfl
 rw [Qb (fn:=Tryz.f21) Tryz.func21 rfl (by kernel_rfl) rfl]
 unfold delivered
 simp [ones,one2,ck]
 by_cases g0:chipOk a
 rotate_left
 ·simp [g0]
 simp [g0]
 rw [Qe (h:=by kernel_rfl)]
 simp [ones,one2,ls]
 refine Qd (ms _ _) ?_
 rintro r K ⟨or,nr,cr⟩
 have lr:=or.rd.len (P:=Tryz.prog) (ty:=26) (by simp)
 have h1:=g0.2.1
 have h2:(missing a.1 a.2).length≤a.2.length:=by
  unfold missing;split
  ·exact qu _ _
  ·simp
 simp [lr]
 rw [w64 (by omega) (by omega)]
end Go.Proofs.YtaldglgobgjeaaaGreat.V
set_option linter.all false
namespace Go.Proofs.YtaldglgobgjeaaaGreat.V
open Go Go.VM Go.Proofs
set_option maxRecDepth 10000
variable {frz:Nat} {H:Heap} {r:Nat} {vb:Value} {code:List Int}
structure Kept (x y:NetD):Prop where
 ok:netOk y
 m:y.1=x.1
 t:y.2.1=x.2.1
 a:y.2.2.2.2.2.2.1=x.2.2.2.2.2.2.1
 tm:y.2.2.2.2.2.2.2=x.2.2.2.2.2.2.2
theorem Kept.trans {x y z:NetD} (h:Kept x y) (k:Kept y z):Kept x z:=⟨k.ok,k.m.trans h.m,k.t.trans h.t,k.a.trans h.a,k.tm.trans h.tm⟩
theorem wr {x:NetD} (h:netOk x) (p:PkD):Kept x (sendP x p):=by
 unfold sendP
 split
 ·rename_i g
  obtain ⟨_,g1,g2⟩:=g
  obtain ⟨h1,⟨s1,s2,s3,s4,s5⟩,h3,h4,h5,h6,h7⟩:=h
  refine ⟨⟨h1,⟨s1,s2,s3,?_,s5⟩,h3,fun l hl=>?_,h5,h6,h7⟩,rfl,rfl,rfl,rfl⟩
  ·show ((x.2.2.2.2.2.1.set _ _).length:Int)=_
   rw [List.length_set];exact s4
  ·rcases List.mem_or_eq_of_mem_set hl with hl|rfl
   ·exact h4 l hl
   ·have hf:=Tt g1
    refine ⟨by rw [List.length_append];omega,fun f hf'=>?_⟩
    rcases List.mem_append.1 hf' with hf'|hf'
    ·by_cases hl:p.2.1.toNat<x.2.2.2.2.2.1.length
     ·exact (h4 _ (Vl hl)).2 f hf'
     ·simp [List.getD_eq_getElem?_getD,List.getElem?_eq_none (Nat.le_of_not_lt hl)] at hf'
    ·unfold flitsOf at hf'
     rw [if_pos g1] at hf'
     obtain ⟨i,_,rfl⟩:=List.mem_map.1 hf'
     exact ⟨g1.2.2.1,g1.2.2.2.2.1⟩
 ·exact ⟨h,rfl,rfl,rfl,rfl⟩
theorem M9 {m:MeshD} {t:ClassesD} (h:classesOk m.1 m.2.1 m.2.2 t.1 t.2):netOk (netNew m t)∧(netNew m t).1=m∧allL 66000000 (netNew m t).2.2.2.2.2.2.1∧(netNew m t).2.2.2.2.2.2.2=0:=by
 have cr:=Qf m.1 m.2.1
 unfold netNew
 rw [if_pos h]
 refine ⟨⟨h,⟨?_,?_,?_,?_,?_⟩,fun i hi=>?_,fun l hl=>?_,fun o ho=>?_,fun o ho=>?_,?_⟩,rfl,fun l hl=>?_,rfl⟩
 ·simp only [List.length_replicate];omega
 ·simp only [List.length_replicate];omega
 ·simp only [List.length_replicate];omega
 ·simp only [List.length_replicate];omega
 ·simp only [List.length_replicate];omega
 ·have e:(List.replicate (10*(cnt m.1 m.2.1).toNat) ([]:List FlitD)).getD i []=[]:=by
   rw [V2 hi,List.getElem_replicate]
  show bufOk _ _ ((List.replicate (10*(cnt m.1 m.2.1).toNat) ([]:List FlitD)).getD i []) _
  rw [e]
  exact ⟨by simp,by simp,fun f hf=>by simp at hf⟩
 ·have:=List.eq_of_mem_replicate hl;subst this;exact ⟨by simp,fun f hf=>by simp at hf⟩
 ·have:=List.eq_of_mem_replicate ho;subst this;unfold inR;omega
 ·have:=List.eq_of_mem_replicate ho;subst this;unfold inR;omega
 ·exact ⟨show (0:Int)≤0 by omega,show (0:Int)≤1000000 by omega⟩
 ·have:=List.eq_of_mem_replicate hl;subst this;simp
end Go.Proofs.YtaldglgobgjeaaaGreat.V
set_option linter.all false
namespace Go.Proofs.YtaldglgobgjeaaaGreat.V
open Go Go.VM Go.Proofs
set_option maxRecDepth 10000
variable {frz:Nat} {H:Heap}
def chipNew (w h:Int):ChipD:=if okG w h then (netNew (w,h,[]) (splitT w h),[]) else (net0,[])
theorem Zv {w h:Int} (g:okG w h):classesOk w h [] (splitT w h).1 (splitT w h).2:=by
 have hn:cnt w h=((cnt w h).toNat:Int):=by have:=Qf w h;omega
 unfold splitT;rw [if_pos g]
 exact ⟨Da (by omega) g hn,Da (by omega) g hn⟩
theorem Bl {K:Heap} {n:NetV} {x:NetD} (c:Chg H K []) (o:dNet.Ow K n x) (m:∀i∈dNet.ids n,H.length≤i) (d:(dNet.ids n).Nodup):dChip.Made H (x,[]) (dChip.val (n,.slice none 0 0) (x,[])) K:=by
 refine ⟨(n,.slice none 0 0),rfl,⟨o,⟨.inl ⟨rfl,rfl⟩,by simp⟩⟩,c,fun i hi=>?_,?_⟩
 ·rcases List.mem_append.1 hi with hi|hi
  ·exact m i hi
  ·simp [dPk,dFlat,ids] at hi
 ·show (dNet.ids n++[]).Nodup
  rw [List.append_nil];exact d
theorem D5 (w h:Int) :
 wp (vcall C frz 46 [.agg #[.int .i64 w,.int .i64 h]] H) (Made2 dChip H (chipNew w h) (decide (okG w h))):=by
 rw [Qb (fn:=Tryz.f46) Tryz.func46 rfl (by kernel_rfl) rfl]
 simp
 refine Qd (vl w h) ?_
 rintro _ K1 ⟨_,rfl,vc,rfl,oc,c1,m1,d1⟩
 have cH:Chg H K1 []:=(Chg.app _).trans c1
 have bG:K1[H.length]? = some ⟨[.int .i64 w,.int .i64 h],0,25⟩:=Qa (by simp) c1 (by simp)
 have bR:K1[H.length+1]? = some ⟨[.int .i64 0,.int .i64 0,.slice none 0 0,.slice none 0 0,.slice none 0 0,.slice none 0 0,.slice none 0 0,.slice none 0 0,.slice none 0 0,.slice none 0 0,.int .i64 0,.slice none 0 0],0,51⟩:=Qa (by simp) c1 (by simp)
 have onec:=Wo oc
 have l1:=cH.1
 have lR:=Qs bR
 have bG2:=fun L=>Ql bG L
 have bR2:=fun L=>Ql bR L
 have hF:H.length≤H.length+1:=by omega
 have zero:∀K:Heap,Chg H K []→K[H.length+1]? = some ⟨[.int .i64 0,.int .i64 0,.slice none 0 0,.slice none 0 0,.slice none 0 0,.slice none 0 0,.slice none 0 0,.slice none 0 0,.slice none 0 0,.slice none 0 0,.int .i64 0,.slice none 0 0],0,51⟩→¬okG w h→Made2 dChip H (chipNew w h) (decide (okG w h)) (.tuple #[.agg #[.int .i64 0,.int .i64 0,.slice none 0 0,.slice none 0 0,.slice none 0 0,.slice none 0 0,.slice none 0 0,.slice none 0 0,.slice none 0 0,.slice none 0 0,.int .i64 0,.slice none 0 0],.bool false]) (K.set (H.length+1) ⟨[.int .i64 0,.int .i64 0,.slice none 0 0,.slice none 0 0,.slice none 0 0,.slice none 0 0,.slice none 0 0,.slice none 0 0,.slice none 0 0,.slice none 0 0,.int .i64 0,.slice none 0 0],0,51⟩):=fun K cK bK g=>by
  have e:chipNew w h=(net0,[]):=if_neg g
  rw [e,decide_eq_false g]
  have e2:K.set (H.length+1) ⟨[.int .i64 0,.int .i64 0,.slice none 0 0,.slice none 0 0,.slice none 0 0,.slice none 0 0,.slice none 0 0,.slice none 0 0,.slice none 0 0,.slice none 0 0,.int .i64 0,.slice none 0 0],0,51⟩=K:=by
   apply List.ext_getElem? ;intro j
   rw [List.getElem?_set]
   split
   ·rename_i hj;subst hj;rw [bK];simp [Qs bK]
   ·rfl
  rw [e2]
  exact ⟨_,rfl,Bl cK (Aj K) (by rw [Pz];simp) (by rw [Pz];simp)⟩
 by_cases g:okG w h
 rotate_left
 ·have z:=zero (K1++[⟨[vc.1,vc.2],0,32⟩]) (cH.trans (Chg.app _)) (bR2 _) g
  have gR:=Qi (r':=⟨[.int .i64 0,.int .i64 0,.slice none 0 0,.slice none 0 0,.slice none 0 0,.slice none 0 0,.slice none 0 0,.slice none 0 0,.slice none 0 0,.slice none 0 0,.int .i64 0,.slice none 0 0],0,51⟩) (bR2 [⟨[vc.1,vc.2],0,32⟩])
  simp [Wp,onec,g,VM.look,l1,bR2,gR,hF]
  rw [decide_eq_false g] at z
  exact z
 simp [Wp,onec,g,VM.look,l1,bG2]
 have om:dMesh.Ow (K1++[⟨[vc.1,vc.2],0,32⟩]) (.slice none 0 0) (w,h,[]):=⟨.inl ⟨rfl,rfl⟩,by simp⟩
 have nn:=ww (frz:=H.length) om (Dt.app (T:=dClasses) (L:=[⟨[vc.1,vc.2],0,32⟩]) oc)
 simp only [Xb,Wp] at nn
 refine Qd nn ?_
 rintro _ K2 ⟨_,rfl,vn,rfl,on,c2,m2,d2⟩
 have bR:=Qa (bR2 [⟨[vc.1,vc.2],0,32⟩]) c2 (by simp)
 have cH2:Chg H K2 []:=(cH.trans (Chg.app _)).trans c2
 have onen:=Qn on
 have l2:=cH2.1
 have ek:classesOk w h [] (splitT w h).1 (splitT w h).2:=Zv g
 have e:chipNew w h=(netNew (w,h,[]) (splitT w h),[]):=if_pos g
 rw [e]
 generalize netNew (w,h,[]) (splitT w h)=x at *
 have bR2:=fun L=>Ql bR L
 have gR:=Qi (r':=⟨[.int .i64 x.1.1,.int .i64 x.1.2.1,vn.1,vn.2.1.1,vn.2.1.2,vn.2.2.1.1,vn.2.2.2.1,vn.2.2.2.2.1,vn.2.2.2.2.2.1.1,vn.2.2.2.2.2.2.1.1,.int .i64 x.2.2.2.2.2.2.2,.slice none 0 0],0,51⟩) (bR2 [⟨[.int .i64 x.1.1,.int .i64 x.1.2.1,vn.1,vn.2.1.1,vn.2.1.2,vn.2.2.1.1,vn.2.2.2.1,vn.2.2.2.2.1,vn.2.2.2.2.2.1.1,vn.2.2.2.2.2.2.1.1,.int .i64 x.2.2.2.2.2.2.2],0,38⟩])
 simp [Qk,onen,g,ek,VM.look,l2,bR2,gR,hF]
 have eR:Chg (K2++[⟨[.int .i64 x.1.1,.int .i64 x.1.2.1,vn.1,vn.2.1.1,vn.2.1.2,vn.2.2.1.1,vn.2.2.2.1,vn.2.2.2.2.1,vn.2.2.2.2.2.1.1,vn.2.2.2.2.2.2.1.1,.int .i64 x.2.2.2.2.2.2.2],0,38⟩]) ((K2++([⟨[.int .i64 x.1.1,.int .i64 x.1.2.1,vn.1,vn.2.1.1,vn.2.1.2,vn.2.2.1.1,vn.2.2.2.1,vn.2.2.2.2.1,vn.2.2.2.2.2.1.1,vn.2.2.2.2.2.2.1.1,.int .i64 x.2.2.2.2.2.2.2],0,38⟩]:List Row)).set (H.length+1) ⟨[.int .i64 x.1.1,.int .i64 x.1.2.1,vn.1,vn.2.1.1,vn.2.1.2,vn.2.2.1.1,vn.2.2.2.1,vn.2.2.2.2.1,vn.2.2.2.2.2.1.1,vn.2.2.2.2.2.2.1.1,.int .i64 x.2.2.2.2.2.2.2,.slice none 0 0],0,51⟩) [H.length+1]:=Qg _ _
 have m2':∀i∈dNet.ids vn,K1.length<i:=fun i hi=>by have:=m2 i hi;simp at this;omega
 have on2:=Dt.chg (T:=dNet) (Dt.app (T:=dNet) (L:=[⟨[.int .i64 x.1.1,.int .i64 x.1.2.1,vn.1,vn.2.1.1,vn.2.1.2,vn.2.2.1.1,vn.2.2.2.1,vn.2.2.2.2.1,vn.2.2.2.2.2.1.1,vn.2.2.2.2.2.2.1.1,.int .i64 x.2.2.2.2.2.2.2],0,38⟩]) on) eR (fun i hi hh=>by have:=m2' i hi;simp at hh;omega)
 exact ⟨_,rfl,Bl ((cH2.trans (Chg.app (L:=[⟨[.int .i64 x.1.1,.int .i64 x.1.2.1,vn.1,vn.2.1.1,vn.2.1.2,vn.2.2.1.1,vn.2.2.2.1,vn.2.2.2.2.1,vn.2.2.2.2.2.1.1,vn.2.2.2.2.2.2.1.1,.int .i64 x.2.2.2.2.2.2.2],0,38⟩]) [])).trans' eR (fun i hi=>.inr (by simp at hi;omega))) on2 (fun i hi=>by have:=m2' i hi;omega) d2⟩
def chipCells (v:ChipV) (a:ChipD):List Value:=netCells v.1 a.1++[v.2]
def chipRuns (a:ChipD) (k:Int):Prop:=chipOk a∧runs a.1 k
instance (a:ChipD) (k:Int):Decidable (chipRuns a k):=inferInstanceAs (Decidable (_∧_))
noncomputable def chipRun (a:ChipD) (k:Int):ChipD:=if chipOk a then (runNet a.1 k,a.2) else a
def zChip:List Value:=[.int .i64 0,.int .i64 0,.slice none 0 0,.slice none 0 0,.slice none 0 0,.slice none 0 0,.slice none 0 0,.slice none 0 0,.slice none 0 0,.slice none 0 0,.int .i64 0,.slice none 0 0]
theorem Od {K:Heap} {n:ChipV} {y z:ChipD} {ok ok':Bool} {r:Row} (o:dChip.Ow K n y) (c:Chg H K []) (m:∀i∈dChip.ids n,H.length+2≤i) (d:(dChip.ids n).Nodup) (e1:z=y) (e2:ok'=ok) :
 Made2 dChip H z ok' (.tuple #[dChip.val n y,.bool ok]) (K.set (H.length+1) r):=by
 subst e1 e2
 exact ⟨dChip.val n z,rfl,n,rfl,Dt.chg (T:=dChip) o (Qg _ _) (fun i hi hh=>by have:=m i hi;simp at hh;omega),c.trans' (Qg _ _) (fun i hi=>.inr (by simp at hi;omega)),fun i hi=>by have:=m i hi;omega,d⟩
theorem qz {v:ChipV} {a:ChipD} {k:Int} (o:dChip.Ow H v a) (h9:allL 66000000 a.1.2.2.2.2.2.2.1) :
 wp (vcall C frz 123 [dChip.val v a,.int .i64 k] H) (Made2 dChip H (chipRun a k) (decide (chipRuns a k))):=by
 have oneA:=Qy o
 have ones:=oneA.1
 have one2:=oneA.2
 have ecopy:=fun K (c:Chg H K [])=>Uk (frz:=H.length) (H:=K) (v:=v) (a:=a) (Dt.chg (T:=dChip) o c (by simp))
 have ck:=fun F K (c:Chg H K [])=>Z2 (frz:=F) (H:=K) (v:=v) (a:=a) (Dt.chg (T:=dChip) o c (by simp))
 have er:=fun K (c:Chg H K [])=>gz (frz:=H.length) (H:=K) (v:=v.1) (x:=a.1) (k:=k) (Dt.chg (T:=dNet) o.1 c (by simp)) h9
 simp only [Qk] at er
 simp only [Qo] at ecopy ck ⊢
 rw [Qb (fn:=Tryz.f123) Tryz.func123 rfl (by kernel_rfl) rfl]
 obtain ⟨G,hG⟩:∃G,G=H++[⟨chipCells v a,0,51⟩,⟨zChip,0,51⟩]:=⟨_,rfl⟩
 have cG:Chg H G []:=by rw [hG];exact Chg.app _
 have b0:G[H.length]? = some ⟨chipCells v a,0,51⟩:=by rw [hG];simp
 have bR:G[H.length+1]? = some ⟨zChip,0,51⟩:=by rw [hG];simp
 have lG:G.length=H.length+2:=by rw [hG];simp
 have hGs:=hG.symm
 unfold chipCells netCells zChip at hGs
 simp only [List.cons_append,List.nil_append] at hGs
 simp [ones,one2]
 rw [hGs]
 clear hG hGs
 have b0':=b0
 unfold chipCells netCells at b0'
 simp only [List.cons_append,List.nil_append] at b0'
 try simp [VM.look,b0',ones,one2]
 refine Qd (ecopy G cG) ?_
 rintro _ K ⟨n,rfl,on,cn,mn,dn⟩
 have cK:Chg H K []:=cG.trans cn
 have b0:=Qa b0 cn (by simp)
 have bR:=Qa bR cn (by simp)
 have oneN:=Qy on
 have qn:=oneN.1
 have qn2:=oneN.2
 have lK:=cn.1
 have hFK:H.length≤K.length:=by omega
 obtain ⟨K2,hK2⟩:∃K2,K2=K++[⟨chipCells n a,0,51⟩]:=⟨_,rfl⟩
 have c12:Chg K K2 []:=by rw [hK2];exact Chg.app _
 have cK2:=cK.trans c12
 have l2:K2.length=K.length+1:=by rw [hK2];simp
 have b0:=Qa b0 c12 (by simp)
 have bR:=Qa bR c12 (by simp)
 have bC:K2[K.length]? = some ⟨chipCells n a,0,51⟩:=by rw [hK2];simp
 have on2:=Dt.chg (T:=dChip) on c12 (by simp)
 have hF:H.length≤H.length+1:=by omega
 have mn':∀i∈dChip.ids n,H.length+2≤i:=fun i hi=>by have:=mn i hi;omega
 have ltn:∀i∈dChip.ids n,i<K.length:=fun i hi=>dChip.lt on i hi
 have hKs:=hK2.symm
 unfold chipCells netCells at hKs
 simp only [List.cons_append,List.nil_append] at hKs
 simp [Qo,VM.look,qn,qn2,hFK]
 rw [hKs]
 clear hK2 hKs
 have ck':=fun F=>ck F K2 cK2
 have b0':=b0
 have bC':=bC
 unfold chipCells netCells at b0' bC'
 simp only [List.cons_append,List.nil_append] at b0' bC'
 by_cases g0:chipOk a
 rotate_left
 ·have hb:¬chipRuns a k:=fun h=>g0 h.1
  have gR:=Qi (r':=⟨chipCells n a,0,51⟩) bR
  have hM:=Od (H:=H) (r:=⟨chipCells n a,0,51⟩) on2 cK2 mn' dn (show chipRun a k=a from if_neg g0) (decide_eq_false hb)
  unfold zChip at bR
  unfold chipCells netCells at gR hM
  simp only [List.cons_append,List.nil_append] at gR hM
  simp [VM.look,b0',ones,one2,ck',g0,bC',qn,qn2,bR,gR,hF]
  simpa [hb,Qo] using hM
 have eR:=er K2 cK2
 simp [VM.look,b0',ones,one2,ck',g0]
 refine Qd eR ?_
 rintro _ K3 ⟨_,rfl,n2,rfl,o3,c3,m3,d3⟩
 obtain ⟨z,hz⟩:∃z,z=runNet a.1 k:=⟨_,rfl⟩
 rw [← hz] at o3
 have one3:=Qn o3
 have l3:=c3.1
 have hFK3:H.length≤K3.length:=by omega
 obtain ⟨K4,hK4⟩:∃K4,K4=K3++[⟨netCells n2 z,0,38⟩]:=⟨_,rfl⟩
 have c34:Chg K3 K4 []:=by rw [hK4];exact Chg.app _
 have l4:K4.length=K3.length+1:=by rw [hK4];simp
 have bN:K4[K3.length]? = some ⟨netCells n2 z,0,38⟩:=by rw [hK4];simp
 have bC4:=Qa (Qa bC c3 (by simp)) c34 (by simp)
 have bR4:=Qa (Qa bR c3 (by simp)) c34 (by simp)
 have hKs:=hK4.symm
 unfold netCells at hKs
 have eb:decide (chipRuns a k)=decide (runs a.1 k):=by simp [chipRuns,g0]
 have ec:chipRun a k=(z,a.2):=by rw [hz];exact if_pos g0
 have o4:=Dt.chg (T:=dNet) o3 c34 (by simp)
 have op4:=Dt.chg (T:=dPk) (Dt.chg (T:=dPk) on2.2 c3 (by simp)) c34 (by simp)
 simp [Qk,← hz,one3,hFK3,VM.look]
 rw [hKs]
 clear hK4 hKs
 have gC:=Qi (r':=⟨chipCells (n2,n.2) (z,a.2),0,51⟩) bC4
 have cC:Chg K4 (K4.set K.length ⟨chipCells (n2,n.2) (z,a.2),0,51⟩) [K.length]:=Qg _ _
 have bR5:=Qa bR4 cC (by simp;omega)
 have gR:=Qi (r':=⟨chipCells (n2,n.2) (z,a.2),0,51⟩) bR5
 have hi1:∀i∈dNet.ids n2,K2.length≤i:=m3
 have hi2:∀i∈VM.ids n.2,H.length+2≤i∧i<K.length:=fun i hi=>⟨mn' i (List.mem_append_right _ hi),ltn i (List.mem_append_right _ hi)⟩
 have hM:=Od (H:=H) (n:=(n2,n.2)) (y:=(z,a.2)) (r:=⟨chipCells (n2,n.2) (z,a.2),0,51⟩) (K:=K4.set K.length ⟨chipCells (n2,n.2) (z,a.2),0,51⟩)
  ⟨Dt.chg (T:=dNet) o4 cC (fun i hi hh=>by have:=hi1 i hi;simp at hh;omega),Dt.chg (T:=dPk) op4 cC (fun i hi hh=>by have:=(hi2 i hi).2;simp at hh;omega)⟩
  (((cK2.trans c3).trans c34).trans' cC (fun i hi=>.inr (by simp at hi;omega)))
  (fun i hi=>by
   rcases List.mem_append.1 hi with h|h
   ·have:=hi1 i h;omega
   ·exact (hi2 i h).1)
  (List.nodup_append.2 ⟨d3,Q0 n.2,fun x hx y hy e=>by
   subst e
   have:=hi1 x hx
   have:=(hi2 x hy).2
   omega⟩) ec eb
 unfold chipCells netCells zChip at bR5
 unfold chipCells netCells at gC bC4 gR hM
 unfold netCells at bN
 simp only [List.cons_append,List.nil_append] at gC bC4 gR hM bR5
 simp [VM.look,bN,bC4,gC,bR5,gR,one3,qn2,hF,hFK]
 rw [ec,eb]
 rw [ec,eb] at hM
 simpa [Qo] using hM
noncomputable def idleAt (x:NetD):Int:=if runs x 400 then (match (List.range 401).find? fun i=>decide (idle (runN x i)) with|some i=>(i:Int)|none=>-1) else -1
noncomputable def idled (x:NetD):NetD:=if 0≤idleAt x then runN x (idleAt x).toNat else x
def MadeI (H:Heap) (y:NetD) (k:Int) (r:Value) (H':Heap):Prop:=∃u,r=.tuple #[u,.int .i64 k]∧dNet.Made H y u H'
theorem Il {x:NetD} (g:runs x 400) {i:Nat} (hi:i<401) (h:idle (runN x i)) (hn:∀j,j<i→¬idle (runN x j)):idleAt x=i∧idled x=runN x i:=by
 have e:idleAt x=i:=by
  unfold idleAt;rw [if_pos g,Nb hi (decide_eq_true h) (fun j hj=>decide_eq_false (hn j hj))]
 refine ⟨e,?_⟩
 unfold idled
 rw [e,if_pos (by omega),Int.toNat_natCast]
theorem Gh {x:NetD} (g:runs x 400) (hn:∀j,j<401→¬idle (runN x j)):idleAt x=-1∧idled x=x:=by
 have e:idleAt x=-1:=by
  unfold idleAt;rw [if_pos g,Ur (fun j hj=>decide_eq_false (hn j hj))]
 refine ⟨e,?_⟩
 unfold idled
 rw [e,if_neg (by omega)]
theorem Db {x:NetD} (g:¬runs x 400):idleAt x=-1∧idled x=x:=by
 have e:idleAt x=-1:=if_neg g
 refine ⟨e,?_⟩
 unfold idled
 rw [e,if_neg (by omega)]
theorem Ss (x:NetD):idleAt x=-1∨(0≤idleAt x∧idleAt x≤400∧runs x 400):=by
 unfold idleAt
 split
 ·rename_i g
  split
  ·rename_i i hi
   have:=List.mem_of_find?_eq_some hi
   have:=List.mem_range.1 this
   exact .inr ⟨by omega,by omega,g⟩
  ·exact .inl rfl
 ·exact .inl rfl
theorem jk {v:NetV} {x:NetD} (o:dNet.Ow H v x) (h9:allL 66000000 x.2.2.2.2.2.2.1) :
 wp (vcall C frz 34 [dNet.val v x] H) (MadeI H (idled x) (idleAt x)):=by
 have ones:=Qn o
 have ecopy:=fun K (c:Chg H K [])=>Y2 (frz:=H.length) (H:=K) (v:=v) (x:=x) (Dt.chg (T:=dNet) o c (by simp))
 have ck:=fun F K (c:Chg H K [])=>Ed (frz:=F) (H:=K) (v:=v) (x:=x) (k:=400) (Dt.chg (T:=dNet) o c (by simp))
 simp only [Qk] at ecopy ck ⊢
 rw [Qb (fn:=Tryz.f34) Tryz.func34 rfl (by kernel_rfl) rfl]
 simp [ones]
 refine Qd (ecopy _ (Chg.app _)) ?_
 rintro _ K ⟨n,rfl,on,cn,mn,dn⟩
 simp at mn
 have qn:=Qn on
 have lK:=cn.1
 simp at lK
 have hF:H.length≤K.length:=by omega
 have ltn:∀i∈dNet.ids n,i<K.length:=fun i hi=>dNet.lt on i hi
 simp [Qk,qn,VM.look,hF]
 obtain ⟨K1,hK1⟩:∃K1,K1=K++[⟨netCells n x,0,38⟩]:=⟨_,rfl⟩
 have c1:Chg K K1 []:=by rw [hK1];exact Chg.app _
 have cK:Chg H K []:=(Chg.app _).trans cn
 have cK1:=cK.trans c1
 have l1:K1.length=K.length+1:=by rw [hK1];simp
 have b1:K1[H.length]? = some ⟨netCells v x,0,38⟩:=Qa (Qa (by simp [netCells]) cn (by simp)) c1 (by simp)
 have bR:K1[H.length+1]? = some ⟨[.int .i64 0,.int .i64 0,.slice none 0 0,.slice none 0 0,.slice none 0 0,.slice none 0 0,.slice none 0 0,.slice none 0 0,.slice none 0 0,.slice none 0 0,.int .i64 0],0,38⟩:=Qa (Qa (by simp) cn (by simp)) c1 (by simp)
 have b3:K1[K.length]? = some ⟨netCells n x,0,38⟩:=by rw [hK1];simp
 have on1:=Dt.chg (T:=dNet) on c1 (by simp)
 have hKs:K++[⟨netCells n x,0,38⟩]=K1:=hK1.symm
 have b1':=b1
 unfold netCells at hKs b1'
 rw [hKs]
 clear hK1 hKs
 have ck':=fun F=>ck F K1 cK1
 have hF1:H.length≤H.length+1:=by omega
 -- what is handed back
 have fin:∀(J:Heap) (w:NetV) (y:NetD) (b:Int),Chg H J []→
  dNet.Ow J w y→(dNet.ids w).Nodup→(∀i∈dNet.ids w,H.length+2≤i)→idled x=y→idleAt x=b→MadeI H (idled x) (idleAt x) (.tuple #[dNet.val w y,.int .i64 b]) (J.set (H.length+1) ⟨netCells w y,0,38⟩):=fun J w y b cJ oJ dJ mJ e1 e2=>by
  rw [e1,e2]
  exact ⟨_,rfl,w,rfl,Dt.chg (T:=dNet) oJ (Qg _ _) (fun i hi hh=>by have:=mJ i hi;simp at hh;omega),cJ.trans' (Qg _ _) (fun i hi=>.inr (by simp at hi;omega)),fun i hi=>by have:=mJ i hi;omega,dJ⟩
 by_cases g0:runs x 400
 rotate_left
 ·obtain ⟨e1,e2⟩:=Db g0
  have gR:=Qi (r':=⟨netCells n x,0,38⟩) bR
  have hM:=fin K1 n x (-1) cK1 on1 dn (fun i hi=>by have:=mn i hi;omega) e2 e1
  have b3':=b3
  unfold netCells at b3' gR
  simp [VM.look,b1',ones,ck',g0,b3',bR,gR,qn,hF1]
  simpa [Qk,netCells] using hM
 have ht:=g0.1.2.2.2.2.2.2
 have ht2:=g0.2.2
 unfold inR at ht
 have hro:=Uu g0.1
 have ra:=fun i (hi:i≤400)=>gq (i:=i) hro (M5 g0.1) h9 hi
 simp [VM.look,b1',ones,ck',g0]
 refine Qh (fun q t J=>∃(i:Nat) (w:NetV),q=401-i∧i≤401∧t 1=.pointer (some ⟨H.length,0,some 0⟩)∧t 2=.pointer (some ⟨H.length+1,0,some 0⟩)∧t 4=.pointer (some ⟨K.length,0,some 0⟩)∧t 12=.int .i64 i∧J[K.length]? = some ⟨netCells w (runN x i),0,38⟩∧dNet.Ow J w (runN x i)∧(dNet.ids w).Nodup∧(∀i∈dNet.ids w,H.length+2≤i∧i≠K.length)∧
  J[H.length]? = some ⟨netCells v x,0,38⟩∧
  J[H.length+1]? = some ⟨[.int .i64 0,.int .i64 0,.slice none 0 0,.slice none 0 0,.slice none 0 0,.slice none 0 0,.slice none 0 0,.slice none 0 0,.slice none 0 0,.slice none 0 0,.int .i64 0],0,38⟩∧Chg H J []∧∀j,j<i→¬idle (runN x j)) ?_ (n:=401)
  ⟨0,n,rfl,by omega,by simp,by simp,by simp,by simp,b3,on1,dn,fun i hi=>⟨by have:=mn i hi;omega,by have:=ltn i hi;omega⟩,b1,bR,cK1,by omega⟩
 rintro q t J ⟨i,w,rfl,hi,t1,t2,t4,t12,bJ,oJ,dJ,mJ,bO,bRJ,cJ,hno⟩ ih
 simp [t1,t2,t4,t12]
 refine Qc ?_ ?_<;>intro g
 ·have hi':i<401:=by omega
  obtain ⟨r1,r2,r3,r4⟩:=ra i (by omega)
  have lJ:=Qs bJ
  have ic:=fun F=>Ik (frz:=F) (H:=J) (id:=K.length) (v5:=w.2.2.1) (v8:=w.2.2.2.2.2.1) bJ oJ.2.2.1 oJ.2.2.2.2.2.1
  have oneJ:=Qn oJ
  simp [t1,t2,t4,t12,ic]
  by_cases g1:idle (runN x i)
  ·obtain ⟨e1,e2⟩:=Il g0 hi' g1 hno
   have gR:=Qi (r':=⟨netCells w (runN x i),0,38⟩) bRJ
   have hM:=fin J w (runN x i) i cJ oJ dJ (fun j hj=>(mJ j hj).1) e2 e1
   have g1':=g1
   unfold idle at g1'
   unfold netCells at bJ gR
   simp [t1,t2,t4,t12,g1',VM.look,bJ,bRJ,gR,oneJ,hF1]
   simpa [Qk,netCells] using hM
  have g1':¬(flits (runN x i).2.2.1=0∧flits (runN x i).2.2.2.2.2.1=0):=g1
  have g1b:(decide (flits (runN x i).2.2.1=0)&&decide (flits (runN x i).2.2.2.2.2.1=0))=false:=by
   rw [← Bool.decide_and];exact decide_eq_false g1'
  have st:=Qaa (frz:=H.length) (id:=K.length) (tail:=[]) (e:=38) (by simpa using bJ) oJ dJ (fun i hi=>by have:=(mJ i hi).1;omega) hF (fun hh=>(mJ _ hh).2 rfl) cJ.1 r1 r2 r3 (by rw [r4];unfold inR;omega)
  rw [g1b]
  simp [t1,t2,t4,t12]
  refine Qd st ?_
  rintro _ J2 ⟨w2,s1,s2,s3,s4,s5⟩
  rw [List.append_nil] at s1
  simp [t1,t2,t4,t12]
  refine ih (401-(i+1)) _ _ ⟨i+1,w2,rfl,by omega,by simp [t1],by simp [t2],by simp [t4],?_,s1,s2,s3,fun j hj=>?_,Qa bO s5 (fun hh=>?_),Qa bRJ s5 (fun hh=>?_),cJ.trans' s5 (fun j hj=>?_),fun j hj=>?_⟩ (by omega)
  ·simp [t12];rw [w64 (by omega) (by omega)]
  ·rcases s4 j hj with h|h
   ·exact mJ j h
   ·exact ⟨by omega,by omega⟩
  ·rcases List.mem_cons.1 hh with h|h
   ·omega
   ·have:=(mJ _ h).1;omega
  ·rcases List.mem_cons.1 hh with h|h
   ·omega
   ·have:=(mJ _ h).1;omega
  ·right
   rcases List.mem_cons.1 hj with h|h
   ·omega
   ·have:=(mJ _ h).1;omega
  ·by_cases hji:j<i
   ·exact hno j hji
   ·have:j=i:=by omega
    subst this;exact g1
 ·have:i=401:=by omega
  subst this
  obtain ⟨e1,e2⟩:=Gh g0 hno
  have bO':=bO
  unfold netCells at bO'
  simp [t1,t2,t4,t12,VM.look,bO',ones]
  refine Qd (ecopy J cJ) ?_
  rintro _ J2 ⟨n2,rfl,on2,cn2,mn2,dn2⟩
  have qn2:=Qn on2
  have bR2:=Qa bRJ cn2 (by simp)
  have lR:=Qs bRJ
  have gR:=Qi (r':=⟨netCells n2 x,0,38⟩) bR2
  have hM:=fin J2 n2 x (-1) (cJ.trans cn2) on2 dn2 (fun i hi=>by have:=mn2 i hi;omega) e2 e1
  unfold netCells at gR
  simp [Qk,VM.look,t1,t2,bR2,gR,qn2,hF1]
  simpa [Qk,netCells] using hM
def fresh (x:NetD) (m:MeshD) (t:ClassesD):NetD:=(m,t,x.2.2.1,List.replicate x.2.2.2.1.length (-1),List.replicate x.2.2.2.2.1.length 0,x.2.2.2.2.2.1,x.2.2.2.2.2.2.1,x.2.2.2.2.2.2.2)
theorem Ae {xs:List Int} {z:Int} {i:Nat} (h:i<xs.length):(List.replicate i z++xs.drop i).set i z=List.replicate (i+1) z++xs.drop (i+1):=by
 rw [List.set_append_right _ _ (by simp),List.length_replicate,Nat.sub_self,List.drop_eq_getElem_cons h,List.set_cons_zero,List.replicate_succ']
 simp
theorem Nr {v:NetV} {x:NetD} {vm:Value} {w' h':Int} {b':List Int} {vc:Value×Value} {c':ClassesD} (o:dNet.Ow H v x) (om:dMesh.Ow H vm (w',h',b')) (oc:dClasses.Ow H vc c') :
 wp (vcall C frz 38 [dNet.val v x,.agg #[.int .i64 w',.int .i64 h',vm],.agg #[vc.1,vc.2]] H) (dNet.Made H (fresh x (w',h',b') c')):=by
 have ones:=Qn o
 have onem:=Yc om
 have onec:=Wo oc
 have ecopy:=fun L=>Y2 (frz:=H.length) (H:=H++L) (v:=v) (x:=x) (Dt.app (T:=dNet) o)
 obtain ⟨u2,⟨u3,u4⟩,⟨u5,h5⟩,u6,u7,⟨u8,h8⟩,⟨u9,h9⟩,_⟩:=v
 obtain ⟨⟨w,h,b⟩,⟨A,B⟩,buf,own,turn,src,arr,tm⟩:=x
 simp only at ones
 simp only [Qk] at ecopy ⊢
 rw [Qb (fn:=Tryz.f38) Tryz.func38 rfl (by kernel_rfl) rfl]
 simp [ones,onem,onec]
 refine Qd (ecopy _) ?_
 rintro _ K1 ⟨n,rfl,o1,c1,m1,d1⟩
 clear ecopy
 have bM:K1[H.length+1]? = some ⟨[.int .i64 w',.int .i64 h',vm],0,28⟩:=Qa (by simp) c1 (by simp)
 have bC:K1[H.length+2]? = some ⟨[vc.1,vc.2],0,32⟩:=Qa (by simp) c1 (by simp)
 have bR:K1[H.length+3]? = some ⟨[.int .i64 0,.int .i64 0,.slice none 0 0,.slice none 0 0,.slice none 0 0,.slice none 0 0,.slice none 0 0,.slice none 0 0,.slice none 0 0,.slice none 0 0,.int .i64 0],0,38⟩:=Qa (by simp) c1 (by simp)
 have cH:Chg H K1 []:=(Chg.app []).trans c1
 have lc1:=c1.1
 simp at lc1 m1
 have q:=Qn o1
 have lt1:=dNet.lt o1
 obtain ⟨n1,n2,n3,n4,n5,n6,n7,nz⟩:=n
 obtain ⟨y1,y2,y3,y4,y5,y6,y7,_⟩:=o1
 simp only at y1 y2 y3 y4 y5 y6 y7 q
 have eid:dNet.ids (n1,n2,n3,n4,n5,n6,n7,nz)=dMesh.ids n1++(dClasses.ids n2++(dSS.ids n3++(dIntS.ids n4++(dIntS.ids n5++(dSS.ids n6++(dSS.ids n7++[])))))):=rfl
 rw [eid] at m1 d1 lt1
 obtain ⟨d11,d12,_⟩:=List.nodup_append.1 d1
 obtain ⟨d21,d22,_⟩:=List.nodup_append.1 d12
 have mr:∀i∈dSS.ids n3++(dIntS.ids n4++(dIntS.ids n5++(dSS.ids n6++(dSS.ids n7++[])))),H.length+4≤i∧i<K1.length:=fun i hi=>⟨m1 i (List.mem_append.2 (.inr (List.mem_append.2 (.inr hi)))),lt1 i (List.mem_append.2 (.inr (List.mem_append.2 (.inr hi))))⟩
 have ml:∀i∈dMesh.ids n1,H.length+4≤i∧i<K1.length:=fun i hi=>⟨m1 i (List.mem_append.2 (.inl hi)),lt1 i (List.mem_append.2 (.inl hi))⟩
 have mk:∀i∈dClasses.ids n2,H.length+4≤i∧i<K1.length:=fun i hi=>⟨m1 i (List.mem_append.2 (.inr (List.mem_append.2 (.inl hi)))),lt1 i (List.mem_append.2 (.inr (List.mem_append.2 (.inl hi))))⟩
 clear m1 d1 lt1 eid d11 d12 d21
 obtain ⟨d31,d32,d33⟩:=List.nodup_append.1 d22
 obtain ⟨d41,d42,d43⟩:=List.nodup_append.1 d32
 obtain ⟨d51,d52,d53⟩:=List.nodup_append.1 d42
 have in3:∀i∈dSS.ids n3,H.length+4≤i∧i<K1.length:=fun i hi=>mr i (List.mem_append.2 (.inl hi))
 have in4:∀i∈dIntS.ids n4,H.length+4≤i∧i<K1.length:=fun i hi=>mr i (List.mem_append.2 (.inr (List.mem_append.2 (.inl hi))))
 have in5:∀i∈dIntS.ids n5,H.length+4≤i∧i<K1.length:=fun i hi=>mr i (List.mem_append.2 (.inr (List.mem_append.2 (.inr (List.mem_append.2 (.inl hi))))))
 have in6:∀i∈dSS.ids n6,H.length+4≤i∧i<K1.length:=fun i hi=>mr i (List.mem_append.2 (.inr (List.mem_append.2 (.inr (List.mem_append.2 (.inr (List.mem_append.2 (.inl hi))))))))
 have in7:∀i∈dSS.ids n7,H.length+4≤i∧i<K1.length:=fun i hi=>mr i (List.mem_append.2 (.inr (List.mem_append.2 (.inr (List.mem_append.2 (.inr (List.mem_append.2 (.inr (List.mem_append.2 (.inl hi))))))))))
 have x43:∀i∈dIntS.ids n4,i∉dSS.ids n3:=fun i hi hh=>d33 i hh i (List.mem_append.2 (.inl hi)) rfl
 have x53:∀i∈dIntS.ids n5,i∉dSS.ids n3:=fun i hi hh=>d33 i hh i (List.mem_append.2 (.inr (List.mem_append.2 (.inl hi)))) rfl
 have x54:∀i∈dIntS.ids n5,i∉dIntS.ids n4:=fun i hi hh=>d43 i hh i (List.mem_append.2 (.inl hi)) rfl
 have x64:∀i∈dSS.ids n6,i∉dIntS.ids n4:=fun i hi hh=>d43 i hh i (List.mem_append.2 (.inr (List.mem_append.2 (.inl hi)))) rfl
 have x74:∀i∈dSS.ids n7,i∉dIntS.ids n4:=fun i hi hh=>d43 i hh i (List.mem_append.2 (.inr (List.mem_append.2 (.inr (List.mem_append.2 (.inl hi)))))) rfl
 have x65:∀i∈dSS.ids n6,i∉dIntS.ids n5:=fun i hi hh=>d53 i hh i (List.mem_append.2 (.inl hi)) rfl
 have x75:∀i∈dSS.ids n7,i∉dIntS.ids n5:=fun i hi hh=>d53 i hh i (List.mem_append.2 (.inr (List.mem_append.2 (.inl hi)))) rfl
 have hF1:H.length≤K1.length:=by omega
 simp [Qk,VM.look,bM,bC,q,onem,onec,hF1]
 rw [Qe (h:=by kernel_rfl)]
 simp [VM.look,bM,bC,q,onem,onec,hF1]
 obtain ⟨G1,hG1⟩:∃G,G=K1++[⟨[.int .i64 w,.int .i64 h,n1,n2.1,n2.2,n3.1,n4,n5,n6.1,n7.1,.int .i64 tm],0,38⟩]:=⟨_,rfl⟩
 have bO:G1[K1.length]? = some ⟨[.int .i64 w,.int .i64 h,n1,n2.1,n2.2,n3.1,n4,n5,n6.1,n7.1,.int .i64 tm],0,38⟩:=by rw [hG1];simp
 have aG:Chg K1 G1 []:=by rw [hG1];exact Chg.app []
 have gl:K1.length+1≤G1.length:=by rw [hG1];simp
 try rw [← hG1]
 clear hG1
 have bM:=Qa bM aG (by simp)
 have bC:=Qa bC aG (by simp)
 have bR:=Qa bR aG (by simp)
 have cH:=cH.trans aG
 have y3:=Dt.chg0 (T:=dSS) y3 aG
 have y4:=Dt.chg0 (T:=dIntS) y4 aG
 have y5:=Dt.chg0 (T:=dIntS) y5 aG
 have y6:=Dt.chg0 (T:=dSS) y6 aG
 have y7:=Dt.chg0 (T:=dSS) y7 aG
 try simp [VM.look,bM,onem]
 refine Qd (Tf w' h' vm b' (Rd.isI (om.1.rd.chg cH (by simp))) om.2) ?_
 rintro _ G2 ⟨m1,rfl,om1,c2,mm1,dm1⟩
 have qm:=Yc om1
 have lm:=dMesh.lt om1
 have bM:=Qa bM c2 (by simp)
 have bC:=Qa bC c2 (by simp)
 have bR:=Qa bR c2 (by simp)
 have bO:=Qa bO c2 (by simp)
 have cH:=cH.trans c2
 have gl2:=c2.1
 have y3:=Dt.chg0 (T:=dSS) y3 c2
 have y4:=Dt.chg0 (T:=dIntS) y4 c2
 have y5:=Dt.chg0 (T:=dIntS) y5 c2
 have y6:=Dt.chg0 (T:=dSS) y6 c2
 have y7:=Dt.chg0 (T:=dSS) y7 c2
 simp [Xb,VM.look,bC,onec]
 refine Qd (Ta vc.1 vc.2 c'.1 c'.2 (Rd.isI (oc.1.1.rd.chg cH (by simp))) (Rd.isI (oc.2.1.rd.chg cH (by simp))) oc.1.2 oc.2.2) ?_
 rintro _ G3 ⟨m2,rfl,om2,c3,mm2,dm2⟩
 have qc:=Wo om2
 have lc:=dClasses.lt om2
 have bR:=Qa bR c3 (by simp)
 have bO:=Qa bO c3 (by simp)
 have cH:=cH.trans c3
 have gl3:=c3.1
 have om1:=Dt.chg0 (T:=dMesh) om1 c3
 have y3:=Dt.chg0 (T:=dSS) y3 c3
 have y4:=Dt.chg0 (T:=dIntS) y4 c3
 have y5:=Dt.chg0 (T:=dIntS) y5 c3
 have y6:=Dt.chg0 (T:=dSS) y6 c3
 have y7:=Dt.chg0 (T:=dSS) y7 c3
 have bO1:=Qi (r':=⟨[.int .i64 w',.int .i64 h',m1,n2.1,n2.2,n3.1,n4,n5,n6.1,n7.1,.int .i64 tm],0,38⟩) bO
 have bO2:=Qi (r':=⟨[.int .i64 w',.int .i64 h',m1,m2.1,m2.2,n3.1,n4,n5,n6.1,n7.1,.int .i64 tm],0,38⟩) bO
 have eO:Chg G3 (G3.set K1.length ⟨[.int .i64 w',.int .i64 h',m1,m2.1,m2.2,n3.1,n4,n5,n6.1,n7.1,.int .i64 tm],0,38⟩) [K1.length]:=Qg _ _
 have bR:=Qa bR eO (by simp;omega)
 have cH:=cH.trans' eO (fun i hi=>.inr (by simp at hi;omega))
 have om1:=Dt.chg (T:=dMesh) om1 eO (fun i hi hh=>by have:=mm1 i hi;simp at hh;omega)
 have om2:=Dt.chg (T:=dClasses) om2 eO (fun i hi hh=>by have:=mm2 i hi;simp at hh;omega)
 have y3:=Dt.chg (T:=dSS) y3 eO (fun i hi hh=>by have:=in3 i hi;simp at hh;omega)
 have y4:=Dt.chg (T:=dIntS) y4 eO (fun i hi hh=>by have:=in4 i hi;simp at hh;omega)
 have y5:=Dt.chg (T:=dIntS) y5 eO (fun i hi hh=>by have:=in5 i hi;simp at hh;omega)
 have y6:=Dt.chg (T:=dSS) y6 eO (fun i hi hh=>by have:=in6 i hi;simp at hh;omega)
 have y7:=Dt.chg (T:=dSS) y7 eO (fun i hi hh=>by have:=in7 i hi;simp at hh;omega)
 have gl4:(G3.set K1.length ⟨[.int .i64 w',.int .i64 h',m1,m2.1,m2.2,n3.1,n4,n5,n6.1,n7.1,.int .i64 tm],0,38⟩).length=G3.length:=by simp
 simp [Xb,Wp,VM.look,bO,bO1,q,qm,qc,hF1]
 generalize G3.set K1.length ⟨[.int .i64 w',.int .i64 h',m1,m2.1,m2.2,n3.1,n4,n5,n6.1,n7.1,.int .i64 tm],0,38⟩=G4 at *
 have bO:=bO2
 clear bO2 bM bC aG c2 c3 eO y1 y2
 have hb4:=y4.2
 have hb5:=y5.2
 have l4:=y4.1.rd.len (P:=Tryz.prog) (ty:=26) (by simp)
 try simp [VM.look,bO,q,qm,qc,l4]
 refine Qh (fun m t H'=>∃i:Nat,m=own.length-i∧i≤own.length∧t 6=.pointer (some ⟨H.length+3,0,some 0⟩)∧t 7=.pointer (some ⟨K1.length,0,some 0⟩)∧t 20=.int .i64 own.length∧t 21=.int .i64 i∧Chg G4 H' (dIntS.ids n4)∧Ow Fl.int 3 H' n4 (List.replicate i (-1)++own.drop i)) ?_ (n:=own.length)
  ⟨0,rfl,by omega,by simp,by simp,by simp,by simp,Chg.refl _,by simpa using y4.1⟩
 rintro m t H' ⟨i,rfl,hi,t6,t7,t20,t21,c4,o4⟩ ih
 have bO':=Qa bO c4 (fun hh=>by have:=in4 _ hh;omega)
 have hll:(List.replicate i (-1:Int)++own.drop i).length=own.length:=by simp;omega
 have l4':=o4.rd.len (P:=Tryz.prog) (ty:=26) (by simp)
 rw [hll] at l4'
 simp [t6,t7,t20,t21,VM.look,bO',q,l4']
 refine Qc ?_ ?_<;>intro g
 ·have hi':i<own.length:=by omega
  have q1:=o4.rd.isI.idx (P:=Tryz.prog) (ty:=26) (e:=3) (by simp) (i:=(i:Int)) (by omega) (by omega)
  simp only [Int.toNat_natCast] at q1
  obtain ⟨H5,s5,o5,c5,l5⟩:=o4.put1 (P:=Tryz.prog) (frz:=H.length) rfl (et:=3) (ag:=false) (x:=.int .i64 (-1)) (by simp) (j:=i) (y:=-1) (by omega) rfl rfl rfl (fun j hj=>by have:=in4 j hj;omega)
  rw [Ae hi'] at o5
  simp [t6,t7,t20,t21,VM.look,bO',q,q1,s5]
  refine ih (own.length-(i+1)) _ _ ⟨i+1,rfl,by omega,by simp [t6],by simp [t7],by simp [t20],?_,c4.trans c5,o5⟩ (by omega)
  simp;rw [w64 (by omega) (by omega)]
 have:i=own.length:=by omega
 subst this
 clear ih
 have bR:=Qa bR c4 (fun hh=>by have:=in4 _ hh;omega)
 have bO:=bO'
 have cH:=cH.trans' c4 (fun j hj=>.inr (by have:=in4 j hj;omega))
 have gl5:=c4.1
 have om1:=Dt.chg (T:=dMesh) om1 c4 (fun j hj hh=>by have:=mm1 j hj;have:=in4 j hh;omega)
 have om2:=Dt.chg (T:=dClasses) om2 c4 (fun j hj hh=>by have:=mm2 j hj;have:=in4 j hh;omega)
 have y3:=Dt.chg (T:=dSS) y3 c4 (fun j hj hh=>x43 j hh hj)
 have y5:=Dt.chg (T:=dIntS) y5 c4 x54
 have y6:=Dt.chg (T:=dSS) y6 c4 x64
 have y7:=Dt.chg (T:=dSS) y7 c4 x74
 have o4:Ow Fl.int 3 H' n4 (List.replicate own.length (-1)):=by simpa using o4
 have b4:=y4.2
 have b5:=y5.2
 clear y4 c4 bO' g l4' hll hi
 have l5:=y5.1.rd.len (P:=Tryz.prog) (ty:=26) (by simp)
 simp [t6,t7,t20,t21,VM.look,bO,q,l5]
 refine Qh (fun m t H2=>∃i:Nat,m=turn.length-i∧i≤turn.length∧t 6=.pointer (some ⟨H.length+3,0,some 0⟩)∧t 7=.pointer (some ⟨K1.length,0,some 0⟩)∧t 31=.int .i64 turn.length∧t 32=.int .i64 i∧Chg H' H2 (dIntS.ids n5)∧Ow Fl.int 3 H2 n5 (List.replicate i 0++turn.drop i)) ?_ (n:=turn.length)
  ⟨0,rfl,by omega,by simp [t6],by simp [t7],by simp,by simp,Chg.refl _,by simpa using y5.1⟩
 clear t6 t7 t20 t21
 rintro m t H2 ⟨i,rfl,hi,t6,t7,t31,t32,c5,o5⟩ ih
 have bO':=Qa bO c5 (fun hh=>by have:=in5 _ hh;omega)
 have hll:(List.replicate i (0:Int)++turn.drop i).length=turn.length:=by simp;omega
 simp [t6,t7,t31,t32]
 refine Qc ?_ ?_<;>intro g
 ·have hi':i<turn.length:=by omega
  have q1:=o5.rd.isI.idx (P:=Tryz.prog) (ty:=26) (e:=3) (by simp) (i:=(i:Int)) (by omega) (by omega)
  simp only [Int.toNat_natCast] at q1
  obtain ⟨H5,s5,o5',c5',l5'⟩:=o5.put1 (P:=Tryz.prog) (frz:=H.length) rfl (et:=3) (ag:=false) (x:=.int .i64 0) (by simp) (j:=i) (y:=0) (by omega) rfl rfl rfl (fun j hj=>by have:=in5 j hj;omega)
  rw [Ae hi'] at o5'
  simp [t6,t7,t31,t32,VM.look,bO',q,q1,s5]
  refine ih (turn.length-(i+1)) _ _ ⟨i+1,rfl,by omega,by simp [t6],by simp [t7],by simp [t31],?_,c5.trans c5',o5'⟩ (by omega)
  simp;rw [w64 (by omega) (by omega)]
 have:i=turn.length:=by omega
 subst this
 clear ih
 have bR:=Qa bR c5 (fun hh=>by have:=in5 _ hh;omega)
 have bO:=bO'
 have cH:=cH.trans' c5 (fun j hj=>.inr (by have:=in5 j hj;omega))
 have om1:=Dt.chg (T:=dMesh) om1 c5 (fun j hj hh=>by have:=mm1 j hj;have:=in5 j hh;omega)
 have om2:=Dt.chg (T:=dClasses) om2 c5 (fun j hj hh=>by have:=mm2 j hj;have:=in5 j hh;omega)
 have y3:=Dt.chg (T:=dSS) y3 c5 (fun j hj hh=>x53 j hh hj)
 have o4:=o4.chg c5 (fun j hj hh=>x54 j hh hj)
 have y6:=Dt.chg (T:=dSS) y6 c5 x65
 have y7:=Dt.chg (T:=dSS) y7 c5 x75
 have o5:Ow Fl.int 3 H2 n5 (List.replicate turn.length 0):=by simpa using o5
 have gR:=Qi (r':=⟨[.int .i64 w',.int .i64 h',m1,m2.1,m2.2,n3.1,n4,n5,n6.1,n7.1,.int .i64 tm],0,38⟩) bR
 have hF3:H.length≤H.length+3:=by omega
 have eR:Chg H2 (H2.set (H.length+3) ⟨[.int .i64 w',.int .i64 h',m1,m2.1,m2.2,n3.1,n4,n5,n6.1,n7.1,.int .i64 tm],0,38⟩) [H.length+3]:=Qg _ _
 simp [t6,t7,t31,t32,VM.look,bO,bR,q,qm,qc,gR,hF3]
 refine ⟨(m1,m2,n3,n4,n5,n6,n7,()),rfl,⟨Dt.chg (T:=dMesh) om1 eR (fun j hj hh=>by have:=mm1 j hj;simp at hh;omega),Dt.chg (T:=dClasses) om2 eR (fun j hj hh=>by have:=mm2 j hj;simp at hh;omega),Dt.chg (T:=dSS) y3 eR (fun j hj hh=>by have:=in3 j hj;simp at hh;omega),
  ⟨o4.chg eR (fun j hj hh=>by have:=in4 j hj;simp at hh;omega),by show (List.replicate own.length (-1)).length≤_;simpa using b4⟩,⟨o5.chg eR (fun j hj hh=>by have:=in5 j hj;simp at hh;omega),by show (List.replicate turn.length 0).length≤_;simpa using b5⟩,Dt.chg (T:=dSS) y6 eR (fun j hj hh=>by have:=in6 j hj;simp at hh;omega),Dt.chg (T:=dSS) y7 eR (fun j hj hh=>by have:=in7 j hj;simp at hh;omega),trivial⟩,
  cH.trans' eR (fun j hj=>.inr (by simp at hj;omega)),fun j hj=>?_,?_⟩
 ·rcases List.mem_append.1 hj with hj|hj
  ·have:=mm1 j hj;omega
  rcases List.mem_append.1 hj with hj|hj
  ·have:=mm2 j hj;omega
  ·have:=mr j hj;omega
 ·refine List.nodup_append.2 ⟨dm1,List.nodup_append.2 ⟨dm2,d22,fun a ha b hb e=>by have:=mm2 a ha;have:=mr b hb;omega⟩,fun a ha b hb e=>?_⟩
  rcases List.mem_append.1 hb with hb|hb
  ·have:=lm a ha;have:=mm2 b hb;omega
  ·have:=mm1 a ha;have:=mr b hb;omega
def brkOk (x:NetD) (c:Int):Prop:=idleOk x∧breakOk x.1.1 x.1.2.1 x.1.2.2 c∧repairOk x.1.1 x.1.2.1 (withBroken x.1.1 x.1.2.1 x.1.2.2 c)=true
noncomputable instance (x:NetD) (c:Int):Decidable (brkOk x c):=inferInstanceAs (Decidable (_∧_))
noncomputable def brk (x:NetD) (c:Int):NetD:=if brkOk x c then fresh x (x.1.1,x.1.2.1,withBroken x.1.1 x.1.2.1 x.1.2.2 c) (repair x.1.1 x.1.2.1 (withBroken x.1.1 x.1.2.1 x.1.2.2 c)) else x
theorem qx {v:NetV} {x:NetD} {c:Int} (o:dNet.Ow H v x) :
 wp (vcall C frz 12 [dNet.val v x,.int .i64 c] H) (Made2 dNet H (brk x c) (decide (brkOk x c))):=by
 have ones:=Qn o
 have oo:=fun (K:Heap) (ch:Chg H K [])=>Dt.chg (T:=dNet) o ch (by simp)
 have ii:=fun F K (ch:Chg H K [])=>Oj (frz:=F) (H:=K) (v:=v) (x:=x) (oo K ch)
 have ecopy:=fun K (ch:Chg H K [])=>Y2 (frz:=H.length) (H:=K) (v:=v) (x:=x) (oo K ch)
 simp only [Qk] at ii ecopy ⊢
 rw [Qb (fn:=Tryz.f12) Tryz.func12 rfl (by kernel_rfl) rfl]
 have key:∀(y:NetD) (n:NetV) (K K0:Heap) (ok:Bool),dNet.Ow K n y→Chg H K0 []→Chg K0 K []→H.length+1<K0.length→K0[H.length+1]? = some ⟨[.int .i64 0,.int .i64 0,.slice none 0 0,.slice none 0 0,.slice none 0 0,.slice none 0 0,.slice none 0 0,.slice none 0 0,.slice none 0 0,.slice none 0 0,.int .i64 0],0,38⟩→(∀i∈dNet.ids n,K0.length≤i)→(dNet.ids n).Nodup→brk x c=y→decide (brkOk x c)=ok→
  K[H.length+1]? = some ⟨[.int .i64 0,.int .i64 0,.slice none 0 0,.slice none 0 0,.slice none 0 0,.slice none 0 0,.slice none 0 0,.slice none 0 0,.slice none 0 0,.slice none 0 0,.int .i64 0],0,38⟩∧Made2 dNet H (brk x c) (decide (brkOk x c)) (.tuple #[dNet.val n y,.bool ok]) (K.set (H.length+1) ⟨[.int .i64 y.1.1,.int .i64 y.1.2.1,n.1,n.2.1.1,n.2.1.2,n.2.2.1.1,n.2.2.2.1,n.2.2.2.2.1,n.2.2.2.2.2.1.1,n.2.2.2.2.2.2.1.1,.int .i64 y.2.2.2.2.2.2.2],0,38⟩):=by
  intro y n K K0 ok on c0 ck hlt hz mn dn e1 e2
  have bR:K[H.length+1]? = some ⟨[.int .i64 0,.int .i64 0,.slice none 0 0,.slice none 0 0,.slice none 0 0,.slice none 0 0,.slice none 0 0,.slice none 0 0,.slice none 0 0,.slice none 0 0,.int .i64 0],0,38⟩:=Qa hz ck (by simp)
  refine ⟨bR,dNet.val n y,by rw [e2],n,by rw [e1],?_,?_,fun i hi=>by have:=mn i hi;omega,dn⟩
  ·rw [e1];exact Dt.chg (T:=dNet) on (Qg _ _) (fun i hi hh=>by have:=mn i hi;simp at hh;omega)
  ·exact (c0.trans ck).trans' (Qg _ _) (fun i hi=>.inr (by simp at hi;omega))
 have fail:¬brkOk x c→brk x c=x∧decide (brkOk x c)=false:=fun hh=>⟨if_neg hh,decide_eq_false hh⟩
 have bad:∀(K0:Heap),Chg H K0 []→H.length+1<K0.length→K0[H.length+1]? = some ⟨[.int .i64 0,.int .i64 0,.slice none 0 0,.slice none 0 0,.slice none 0 0,.slice none 0 0,.slice none 0 0,.slice none 0 0,.slice none 0 0,.slice none 0 0,.int .i64 0],0,38⟩→¬brkOk x c→∀r K,dNet.Made K0 x r K→∃n,r=netVal n x∧dNet.Ow K n x∧K[H.length+1]? = some ⟨[.int .i64 0,.int .i64 0,.slice none 0 0,.slice none 0 0,.slice none 0 0,.slice none 0 0,.slice none 0 0,.slice none 0 0,.slice none 0 0,.slice none 0 0,.int .i64 0],0,38⟩∧Made2 dNet H (brk x c) (decide (brkOk x c)) (.tuple #[dNet.val n x,.bool false]) (K.set (H.length+1) ⟨[.int .i64 x.1.1,.int .i64 x.1.2.1,n.1,n.2.1.1,n.2.1.2,n.2.2.1.1,n.2.2.2.1,n.2.2.2.2.1,n.2.2.2.2.2.1.1,n.2.2.2.2.2.2.1.1,.int .i64 x.2.2.2.2.2.2.2],0,38⟩):=by
  intro K0 c0 hlt hz hb r K hm
  obtain ⟨n,rfl,on,cn,mn,dn⟩:=hm
  obtain ⟨f1,f2⟩:=fail hb
  obtain ⟨k1,k2⟩:=key x n K K0 false on c0 cn hlt hz mn dn f1 f2
  exact ⟨n,rfl,on,k1,k2⟩
 obtain ⟨G,hG⟩:∃G,G=H++[⟨[.int .i64 x.1.1,.int .i64 x.1.2.1,v.1,v.2.1.1,v.2.1.2,v.2.2.1.1,v.2.2.2.1,v.2.2.2.2.1,v.2.2.2.2.2.1.1,v.2.2.2.2.2.2.1.1,.int .i64 x.2.2.2.2.2.2.2],0,38⟩,⟨[.int .i64 0,.int .i64 0,.slice none 0 0,.slice none 0 0,.slice none 0 0,.slice none 0 0,.slice none 0 0,.slice none 0 0,.slice none 0 0,.slice none 0 0,.int .i64 0],0,38⟩]:=⟨_,rfl⟩
 have cG:Chg H G []:=by rw [hG];exact Chg.app _
 have b0:G[H.length]? = some ⟨[.int .i64 x.1.1,.int .i64 x.1.2.1,v.1,v.2.1.1,v.2.1.2,v.2.2.1.1,v.2.2.2.1,v.2.2.2.2.1,v.2.2.2.2.2.1.1,v.2.2.2.2.2.2.1.1,.int .i64 x.2.2.2.2.2.2.2],0,38⟩:=by rw [hG];simp
 have b1:G[H.length+1]? = some ⟨[.int .i64 0,.int .i64 0,.slice none 0 0,.slice none 0 0,.slice none 0 0,.slice none 0 0,.slice none 0 0,.slice none 0 0,.slice none 0 0,.slice none 0 0,.int .i64 0],0,38⟩:=by rw [hG];simp
 have hlG:G.length=H.length+2:=by rw [hG];simp
 simp [ones]
 rw [← hG]
 clear hG
 refine Qd (K9 (c:=c) (oo G cG).1) ?_
 rintro _ K1 ⟨_,rfl,vm,rfl,om,cm,mm,dm⟩
 have c1:Chg H K1 []:=cG.trans cm
 have b01:=Qa b0 cm (by simp)
 have b11:=Qa b1 cm (by simp)
 have hl1:=cm.1
 have onem:=Yc om
 obtain ⟨B,hB⟩:∃B,B=withBroken x.1.1 x.1.2.1 x.1.2.2 c:=⟨_,rfl⟩
 rw [← hB] at om
 have hl1':H.length≤K1.length:=c1.1
 simp [Xb,onem,VM.look,hl1']
 obtain ⟨K1',hK1⟩:∃K,K=K1++[⟨[.int .i64 x.1.1,.int .i64 x.1.2.1,vm],0,28⟩]:=⟨_,rfl⟩
 have c1':Chg K1 K1' []:=by rw [hK1];exact Chg.app _
 have bm:K1'[K1.length]? = some ⟨[.int .i64 x.1.1,.int .i64 x.1.2.1,vm],0,28⟩:=by rw [hK1];simp
 have om1:=Dt.chg (T:=dMesh) om c1' (by simp)
 rw [← hK1]
 have hrp:=zh (frz:=H.length) om1
 refine Qd hrp ?_
 rintro _ K2 ⟨_,rfl,vc,rfl,oc,cc,mc,dc⟩
 have onec:=Wo oc
 have hl2:H.length≤K2.length:=Nat.le_trans hl1' (Nat.le_trans c1'.1 cc.1)
 simp [Wp,onec,VM.look,hl2]
 obtain ⟨K3,hK3⟩:∃K,K=K2++[⟨[vc.1,vc.2],0,32⟩]:=⟨_,rfl⟩
 have c3':Chg K2 K3 []:=by rw [hK3];exact Chg.app _
 have bc:K3[K2.length]? = some ⟨[vc.1,vc.2],0,32⟩:=by rw [hK3];simp
 rw [← hK3]
 have c13:Chg K1' K3 []:=cc.trans c3'
 have cG3:Chg G K3 []:=(cm.trans c1').trans c13
 have c3:Chg H K3 []:=cG.trans cG3
 have b03:=Qa b0 cG3 (by simp)
 have b13:=Qa b1 cG3 (by simp)
 have bm3:=Qa bm c13 (by simp)
 have om3:=Dt.chg (T:=dMesh) om1 c13 (by simp)
 have oc3:=Dt.chg (T:=dClasses) oc c3' (by simp)
 have hl3:H.length+1<K3.length:=Qs b13
 have ii':=fun F=>ii F K3 c3
 simp [VM.look,b03,ones,ii']
 have ffail:¬brkOk x c→wp (vcall C H.length 31 [netVal v x] K3) (fun r K=>∃n,r=netVal n x∧dNet.Ow K n x∧K[H.length+1]? = some ⟨[.int .i64 0,.int .i64 0,.slice none 0 0,.slice none 0 0,.slice none 0 0,.slice none 0 0,.slice none 0 0,.slice none 0 0,.slice none 0 0,.slice none 0 0,.int .i64 0],0,38⟩∧Made2 dNet H (brk x c) (decide (brkOk x c)) (.tuple #[dNet.val n x,.bool false]) (K.set (H.length+1) ⟨[.int .i64 x.1.1,.int .i64 x.1.2.1,n.1,n.2.1.1,n.2.1.2,n.2.2.1.1,n.2.2.2.1,n.2.2.2.2.1,n.2.2.2.2.2.1.1,n.2.2.2.2.2.2.1.1,.int .i64 x.2.2.2.2.2.2.2],0,38⟩)):=fun hb=>(ecopy K3 c3).mono (fun r K hm=>bad K3 c3 hl3 b13 hb r K hm)
 unfold netVal at ffail
 by_cases g0:idleOk x
 rotate_left
 ·simp [g0,VM.look,b03,ones]
  refine Qd (ffail (fun k=>g0 k.1)) ?_
  rintro r K ⟨n,rfl,on,bR,hM⟩
  have qn:=Qn on
  have gR:=Qi (r':=⟨[.int .i64 x.1.1,.int .i64 x.1.2.1,n.1,n.2.1.1,n.2.1.2,n.2.2.1.1,n.2.2.2.1,n.2.2.2.2.1,n.2.2.2.2.2.1.1,n.2.2.2.2.2.2.1.1,.int .i64 x.2.2.2.2.2.2.2],0,38⟩) bR
  have hF:H.length≤K.length:=by have:=Qs bR;omega
  simp [netVal,Qk,VM.look,bR,qn,gR,hF]
  exact hM
 by_cases g1:breakOk x.1.1 x.1.2.1 x.1.2.2 c
 rotate_left
 ·simp [g0,g1,VM.look,b03,ones]
  refine Qd (ffail (fun k=>g1 k.2.1)) ?_
  rintro r K ⟨n,rfl,on,bR,hM⟩
  have qn:=Qn on
  have gR:=Qi (r':=⟨[.int .i64 x.1.1,.int .i64 x.1.2.1,n.1,n.2.1.1,n.2.1.2,n.2.2.1.1,n.2.2.2.1,n.2.2.2.2.1,n.2.2.2.2.2.1.1,n.2.2.2.2.2.2.1.1,.int .i64 x.2.2.2.2.2.2.2],0,38⟩) bR
  have hF:H.length≤K.length:=by have:=Qs bR;omega
  simp [netVal,Qk,VM.look,bR,qn,gR,hF]
  exact hM
 by_cases g2:repairOk x.1.1 x.1.2.1 B=true
 rotate_left
 ·simp [g0,g1,g2,VM.look,b03,ones]
  refine Qd (ffail (fun k=>g2 (by rw [hB];exact k.2.2))) ?_
  rintro r K ⟨n,rfl,on,bR,hM⟩
  have qn:=Qn on
  have gR:=Qi (r':=⟨[.int .i64 x.1.1,.int .i64 x.1.2.1,n.1,n.2.1.1,n.2.1.2,n.2.2.1.1,n.2.2.2.1,n.2.2.2.2.1,n.2.2.2.2.2.1.1,n.2.2.2.2.2.2.1.1,.int .i64 x.2.2.2.2.2.2.2],0,38⟩) bR
  have hF:H.length≤K.length:=by have:=Qs bR;omega
  simp [netVal,Qk,VM.look,bR,qn,gR,hF]
  exact hM
 simp [g0,g1,g2,VM.look,b03,ones,bm3,bc,onem,onec]
 have hok:brkOk x c:=⟨g0,g1,by rw [← hB];exact g2⟩
 have hbr:brk x c=fresh x (x.1.1,x.1.2.1,B) (repair x.1.1 x.1.2.1 B):=by rw [hB];exact if_pos hok
 refine Qd (Nr (frz:=H.length) (oo K3 c3) om3 oc3) ?_
 rintro _ K ⟨n,rfl,on,cn,mn,dn⟩
 obtain ⟨bR,hM⟩:=key _ n K K3 true on c3 cn hl3 b13 mn dn hbr (decide_eq_true hok)
 generalize fresh x (x.1.1,x.1.2.1,B) (repair x.1.1 x.1.2.1 B)=y at *
 have qn:=Qn on
 have gR:=Qi (r':=⟨[.int .i64 y.1.1,.int .i64 y.1.2.1,n.1,n.2.1.1,n.2.1.2,n.2.2.1.1,n.2.2.2.1,n.2.2.2.2.1,n.2.2.2.2.2.1.1,n.2.2.2.2.2.2.1.1,.int .i64 y.2.2.2.2.2.2.2],0,38⟩) bR
 have hF:H.length≤K.length:=by have:=Qs bR;omega
 simp [netVal,Qk,VM.look,bR,qn,gR,hF]
 exact hM
def replOk (x:NetD) (t:ClassesD):Prop:=idleOk x∧classesOk x.1.1 x.1.2.1 x.1.2.2 t.1 t.2
instance (x:NetD) (t:ClassesD):Decidable (replOk x t):=inferInstanceAs (Decidable (_∧_))
def repl (x:NetD) (t:ClassesD):NetD:=if replOk x t then fresh x x.1 t else x
theorem yi {v:NetV} {x:NetD} {vc:Value×Value} {t:ClassesD} (o:dNet.Ow H v x) (oc:dClasses.Ow H vc t) :
 wp (vcall C frz 166 [dNet.val v x,dClasses.val vc t] H) (Made2 dNet H (repl x t) (decide (replOk x t))):=by
 have ones:=Qn o
 have onec:=Wo oc
 have ii:=fun F L=>Oj (frz:=F) (H:=H++L) (v:=v) (x:=x) (Dt.app (T:=dNet) o)
 have ck:=fun F L=>Zb (frz:=F) (H:=H++L) x.1.1 x.1.2.1 v.1 vc.1 vc.2 x.1.2.2 t.1 t.2 (Rd.isI o.1.1.rd.app) (Rd.isI oc.1.1.rd.app) (Rd.isI oc.2.1.rd.app) o.1.2
 have ecopy:=fun L=>Y2 (frz:=H.length) (H:=H++L) (v:=v) (x:=x) (Dt.app (T:=dNet) o)
 have efresh:=fun L=>Nr (frz:=H.length) (H:=H++L) (v:=v) (x:=x) (vm:=v.1) (w':=x.1.1) (h':=x.1.2.1) (b':=x.1.2.2) (vc:=vc) (c':=t) (Dt.app (T:=dNet) o) (Dt.app (T:=dMesh) o.1) (Dt.app (T:=dClasses) oc)
 simp only [Qk,Wp] at ii ecopy efresh ⊢
 rw [Qb (fn:=Tryz.f166) Tryz.func166 rfl (by kernel_rfl) rfl]
 have hF:H.length≤H.length+2:=by omega
 have key:∀(y:NetD) (n:NetV) (K:Heap) (ok:Bool),dNet.Ow K n y→Chg (H++[⟨[.int .i64 x.1.1,.int .i64 x.1.2.1,v.1,v.2.1.1,v.2.1.2,v.2.2.1.1,v.2.2.2.1,v.2.2.2.2.1,v.2.2.2.2.2.1.1,v.2.2.2.2.2.2.1.1,.int .i64 x.2.2.2.2.2.2.2],0,38⟩,⟨[vc.1,vc.2],0,32⟩,⟨[.int .i64 0,.int .i64 0,.slice none 0 0,.slice none 0 0,.slice none 0 0,.slice none 0 0,.slice none 0 0,.slice none 0 0,.slice none 0 0,.slice none 0 0,.int .i64 0],0,38⟩]) K []→(∀i∈dNet.ids n,H.length+3≤i)→(dNet.ids n).Nodup→repl x t=y→decide (replOk x t)=ok→
  K[H.length+2]? = some ⟨[.int .i64 0,.int .i64 0,.slice none 0 0,.slice none 0 0,.slice none 0 0,.slice none 0 0,.slice none 0 0,.slice none 0 0,.slice none 0 0,.slice none 0 0,.int .i64 0],0,38⟩∧Made2 dNet H (repl x t) (decide (replOk x t)) (.tuple #[dNet.val n y,.bool ok]) (K.set (H.length+2) ⟨[.int .i64 y.1.1,.int .i64 y.1.2.1,n.1,n.2.1.1,n.2.1.2,n.2.2.1.1,n.2.2.2.1,n.2.2.2.2.1,n.2.2.2.2.2.1.1,n.2.2.2.2.2.2.1.1,.int .i64 y.2.2.2.2.2.2.2],0,38⟩):=by
  intro y n K ok on ck mn dn e1 e2
  have bR:K[H.length+2]? = some ⟨[.int .i64 0,.int .i64 0,.slice none 0 0,.slice none 0 0,.slice none 0 0,.slice none 0 0,.slice none 0 0,.slice none 0 0,.slice none 0 0,.slice none 0 0,.int .i64 0],0,38⟩:=Qa (by simp) ck (by simp)
  refine ⟨bR,dNet.val n y,by rw [e2],n,by rw [e1],?_,?_,fun i hi=>by have:=mn i hi;omega,dn⟩
  ·rw [e1];exact Dt.chg (T:=dNet) on (Qg _ _) (fun i hi hh=>by have:=mn i hi;simp at hh;omega)
  ·exact ((Chg.app []).trans ck).trans' (Qg _ _) (fun i hi=>.inr (by simp at hi;omega))
 have fail:¬replOk x t→repl x t=x∧decide (replOk x t)=false:=fun hh=>⟨if_neg hh,decide_eq_false hh⟩
 simp [ones,onec,ii]
 by_cases g1:idleOk x
 rotate_left
 ·simp [g1,ones,onec]
  refine Qd (ecopy _) ?_
  rintro _ K ⟨n,rfl,on,cn,mn,dn⟩
  obtain ⟨f1,f2⟩:=fail (fun k=>g1 k.1)
  simp at mn
  obtain ⟨bR,hm⟩:=key x n K false on cn mn dn f1 f2
  have qn:=Qn on
  have gR:=Qi (r':=⟨[.int .i64 x.1.1,.int .i64 x.1.2.1,n.1,n.2.1.1,n.2.1.2,n.2.2.1.1,n.2.2.2.1,n.2.2.2.2.1,n.2.2.2.2.2.1.1,n.2.2.2.2.2.2.1.1,.int .i64 x.2.2.2.2.2.2.2],0,38⟩) bR
  simp [Qk,VM.look,bR,qn,gR,hF]
  exact hm
 simp [g1,ones,onec,ck]
 by_cases g2:classesOk x.1.1 x.1.2.1 x.1.2.2 t.1 t.2
 rotate_left
 ·simp [g2,ones,onec]
  refine Qd (ecopy _) ?_
  rintro _ K ⟨n,rfl,on,cn,mn,dn⟩
  obtain ⟨f1,f2⟩:=fail (fun k=>g2 k.2)
  simp at mn
  obtain ⟨bR,hm⟩:=key x n K false on cn mn dn f1 f2
  have qn:=Qn on
  have gR:=Qi (r':=⟨[.int .i64 x.1.1,.int .i64 x.1.2.1,n.1,n.2.1.1,n.2.1.2,n.2.2.1.1,n.2.2.2.1,n.2.2.2.2.1,n.2.2.2.2.2.1.1,n.2.2.2.2.2.2.1.1,.int .i64 x.2.2.2.2.2.2.2],0,38⟩) bR
  simp [Qk,VM.look,bR,qn,gR,hF]
  exact hm
 simp [g2,ones,onec]
 refine Qd (efresh _) ?_
 rintro _ K ⟨n,rfl,on,cn,mn,dn⟩
 simp at mn
 have e1:repl x t=fresh x (x.1.1,x.1.2.1,x.1.2.2) t:=if_pos ⟨g1,g2⟩
 obtain ⟨bR,hm⟩:=key _ n K true on cn mn dn e1 (decide_eq_true ⟨g1,g2⟩)
 have qn:=Qn on
 have gR:=Qi (r':=⟨[.int .i64 (fresh x (x.1.1,x.1.2.1,x.1.2.2) t).1.1,.int .i64 (fresh x (x.1.1,x.1.2.1,x.1.2.2) t).1.2.1,n.1,n.2.1.1,n.2.1.2,n.2.2.1.1,n.2.2.2.1,n.2.2.2.2.1,n.2.2.2.2.2.1.1,n.2.2.2.2.2.2.1.1,.int .i64 (fresh x (x.1.1,x.1.2.1,x.1.2.2) t).2.2.2.2.2.2.2],0,38⟩) bR
 simp [Qk,VM.look,bR,qn,gR,hF]
 exact hm
def sendsOk (a:ChipD) (p:PkD):Prop:=chipOk a∧a.2.length≠200∧sendOk a.1 p
instance (a:ChipD) (p:PkD):Decidable (sendsOk a p):=inferInstanceAs (Decidable (_∧_))
def nextP (a:ChipD) (q2 q3 q4 q5:Int):PkD:=((a.2.length:Int)+1,q2,q3,q4,q5)
def chipSend (a:ChipD) (q2 q3 q4 q5:Int):ChipD:=if sendsOk a (nextP a q2 q3 q4 q5) then (sendNet a.1 (nextP a q2 q3 q4 q5),a.2++[nextP a q2 q3 q4 q5]) else a
theorem M0 {K:Heap} {n:ChipV} {y:ChipD} {ok:Bool} {id:Nat} {r:Row} {a:ChipD} {q2 q3 q4 q5:Int} (hid:id=H.length+1) (o:dChip.Ow K n y) (c:Chg H K []) (m:∀i∈dChip.ids n,H.length+2≤i) (d:(dChip.ids n).Nodup) (e1:chipSend a q2 q3 q4 q5=y) (e2:decide (sendsOk a (nextP a q2 q3 q4 q5))=ok) :
 Made2 dChip H (chipSend a q2 q3 q4 q5) (decide (sendsOk a (nextP a q2 q3 q4 q5))) (.tuple #[dChip.val n y,.bool ok]) (K.set id r):=by
 subst hid
 refine ⟨dChip.val n y,by rw [e2],n,by rw [e1],?_,c.trans' (Qg _ _) (fun i hi=>.inr (by simp at hi;omega)),fun i hi=>by have:=m i hi;omega,d⟩
 rw [e1];exact Dt.chg (T:=dChip) o (Qg _ _) (fun i hi hh=>by have:=m i hi;simp at hh;omega)
theorem Cq {v:ChipV} {a:ChipD} {q2 q3 q4 q5:Int} (o:dChip.Ow H v a) :
 wp (vcall C frz 121 [dChip.val v a,.int .i64 q2,.int .i64 q3,.int .i64 q4,.int .i64 q5] H) (Made2 dChip H (chipSend a q2 q3 q4 q5) (decide (sendsOk a (nextP a q2 q3 q4 q5)))):=by
 have oneA:=Qy o
 have ones:=oneA.1
 have one2:=oneA.2
 have ecopy:=fun K (c:Chg H K [])=>Uk (frz:=H.length) (H:=K) (v:=v) (a:=a) (Dt.chg (T:=dChip) o c (by simp))
 have ck:=fun F K (c:Chg H K [])=>Z2 (frz:=F) (H:=K) (v:=v) (a:=a) (Dt.chg (T:=dChip) o c (by simp))
 have esend:=fun (K:Heap) id nv tail hr on nd hf hid hN hs=>Qds (frz:=H.length) (H:=K) (v:=nv) (x:=a.1) (p:=nextP a q2 q3 q4 q5) (id:=id) (e:=51) (tail:=tail) hr on nd hf hid hN hs
 have hlen:=o.2.2
 have e0:=@w6 ((a.2.length:Int)+1) (by omega)
 unfold pkV nextP at esend
 simp only at esend
 simp only [Qo] at ecopy ck ⊢
 rw [Qb (fn:=Tryz.f121) Tryz.func121 rfl (by kernel_rfl) rfl]
 obtain ⟨G,hG⟩:∃G,G=H++[⟨[.int .i64 a.1.1.1,.int .i64 a.1.1.2.1,v.1.1,v.1.2.1.1,v.1.2.1.2,v.1.2.2.1.1,v.1.2.2.2.1,v.1.2.2.2.2.1,v.1.2.2.2.2.2.1.1,v.1.2.2.2.2.2.2.1.1,.int .i64 a.1.2.2.2.2.2.2.2,v.2],0,51⟩,⟨[.int .i64 0,.int .i64 0,.slice none 0 0,.slice none 0 0,.slice none 0 0,.slice none 0 0,.slice none 0 0,.slice none 0 0,.slice none 0 0,.slice none 0 0,.int .i64 0,.slice none 0 0],0,51⟩]:=⟨_,rfl⟩
 have cG:Chg H G []:=by rw [hG];exact Chg.app _
 have b0:G[H.length]? = some ⟨[.int .i64 a.1.1.1,.int .i64 a.1.1.2.1,v.1.1,v.1.2.1.1,v.1.2.1.2,v.1.2.2.1.1,v.1.2.2.2.1,v.1.2.2.2.2.1,v.1.2.2.2.2.2.1.1,v.1.2.2.2.2.2.2.1.1,.int .i64 a.1.2.2.2.2.2.2.2,v.2],0,51⟩:=by rw [hG];simp
 have bR:G[H.length+1]? = some ⟨[.int .i64 0,.int .i64 0,.slice none 0 0,.slice none 0 0,.slice none 0 0,.slice none 0 0,.slice none 0 0,.slice none 0 0,.slice none 0 0,.slice none 0 0,.int .i64 0,.slice none 0 0],0,51⟩:=by rw [hG];simp
 have lG:G.length=H.length+2:=by rw [hG];simp
 simp [ones,one2]
 rw [← hG]
 clear hG
 have liv:=fun K (c:Chg H K [])=>W5 (o.2.1.chg c (by simp))
 have lp:=fun K (c:Chg H K [])=>(o.2.1.rd.chg c (by simp)).len (P:=Tryz.prog) (ty:=33) (by simp)
 rw [U8 (fl:=([3],[14])) (h:=⟨by kernel_rfl,by kernel_rfl,by kernel_rfl,by kernel_rfl⟩)]
 simp [emps,empOp,empB,VM.look,b0,ones,one2]
 refine Jb (ecopy G cG) ?_
 rintro _ K ⟨n,rfl,on,cn,mn,dn⟩
 refine ⟨by simp,?_⟩
 have cK:Chg H K []:=cG.trans cn
 have b0:=Qa b0 cn (by simp)
 have bR:=Qa bR cn (by simp)
 have oneN:=Qy on
 have qn:=oneN.1
 have qn2:=oneN.2
 have livK:=liv K cK
 have lpK:=lp K cK
 have lK:=cn.1
 have hFK:H.length≤K.length:=by omega
 have hFK1:H.length≤K.length+1:=by omega
 have bA:=fun L=>Ql b0 L
 have livA:=fun L=>liv (K++L) (cK.trans (Chg.app _))
 simp [Qo,emps,empOp,empB,VM.look,b0,bA,ones,one2,qn,qn2,livK,livA,lpK,e0,hFK,hFK1,List.set_append]
 obtain ⟨K2,hK2⟩:∃K2,K2=K++[⟨[.int .i64 a.1.1.1,.int .i64 a.1.1.2.1,n.1.1,n.1.2.1.1,n.1.2.1.2,n.1.2.2.1.1,n.1.2.2.2.1,n.1.2.2.2.2.1,n.1.2.2.2.2.2.1.1,n.1.2.2.2.2.2.2.1.1,.int .i64 a.1.2.2.2.2.2.2.2,n.2],0,51⟩,⟨[.int .i64 (a.2.length+1:Int),.int .i64 q2,.int .i64 q3,.int .i64 q4,.int .i64 q5],0,73⟩]:=⟨_,rfl⟩
 have e2:K++[⟨[.int .i64 a.1.1.1,.int .i64 a.1.1.2.1,n.1.1,n.1.2.1.1,n.1.2.1.2,n.1.2.2.1.1,n.1.2.2.2.1,n.1.2.2.2.2.1,n.1.2.2.2.2.2.1.1,n.1.2.2.2.2.2.2.1.1,.int .i64 a.1.2.2.2.2.2.2.2,n.2],0,51⟩,⟨[.int .i64 (a.2.length+1:Int),.int .i64 q2,.int .i64 q3,.int .i64 q4,.int .i64 q5],0,73⟩]=K2:=hK2.symm
 rw [e2]
 have c12:Chg K K2 []:=by rw [hK2];exact Chg.app _
 have cK2:=cK.trans c12
 have l2:K2.length=K.length+2:=by rw [hK2];simp
 have b0:=Qa b0 c12 (by simp)
 have bR:=Qa bR c12 (by simp)
 have bC:K2[K.length]? = some ⟨[.int .i64 a.1.1.1,.int .i64 a.1.1.2.1,n.1.1,n.1.2.1.1,n.1.2.1.2,n.1.2.2.1.1,n.1.2.2.2.1,n.1.2.2.2.2.1,n.1.2.2.2.2.2.1.1,n.1.2.2.2.2.2.2.1.1,.int .i64 a.1.2.2.2.2.2.2.2,n.2],0,51⟩:=by rw [hK2];simp
 have bP:K2[K.length+1]? = some ⟨[.int .i64 (a.2.length+1:Int),.int .i64 q2,.int .i64 q3,.int .i64 q4,.int .i64 q5],0,73⟩:=by rw [hK2];simp
 have on2:=Dt.chg (T:=dChip) on c12 (by simp)
 clear hK2 e2
 have hF:H.length≤H.length+1:=by omega
 have ff:∀K3,Chg H K3 []→K3[H.length+1]? = some ⟨[.int .i64 0,.int .i64 0,.slice none 0 0,.slice none 0 0,.slice none 0 0,.slice none 0 0,.slice none 0 0,.slice none 0 0,.slice none 0 0,.slice none 0 0,.int .i64 0,.slice none 0 0],0,51⟩→¬sendsOk a (nextP a q2 q3 q4 q5)→wp (vcall C H.length 49 [.agg #[.int .i64 a.1.1.1,.int .i64 a.1.1.2.1,v.1.1,v.1.2.1.1,v.1.2.1.2,v.1.2.2.1.1,v.1.2.2.2.1,v.1.2.2.2.2.1,v.1.2.2.2.2.2.1.1,v.1.2.2.2.2.2.2.1.1,.int .i64 a.1.2.2.2.2.2.2.2,v.2]] K3) (fun r K=>∃n:ChipV,r=dChip.val n a∧dChip.Ow K n a∧K[H.length+1]? = some ⟨[.int .i64 0,.int .i64 0,.slice none 0 0,.slice none 0 0,.slice none 0 0,.slice none 0 0,.slice none 0 0,.slice none 0 0,.slice none 0 0,.slice none 0 0,.int .i64 0,.slice none 0 0],0,51⟩∧Made2 dChip H (chipSend a q2 q3 q4 q5) (decide (sendsOk a (nextP a q2 q3 q4 q5))) (.tuple #[dChip.val n a,.bool false]) (K.set (H.length+1) ⟨[.int .i64 a.1.1.1,.int .i64 a.1.1.2.1,n.1.1,n.1.2.1.1,n.1.2.1.2,n.1.2.2.1.1,n.1.2.2.2.1,n.1.2.2.2.2.1,n.1.2.2.2.2.2.1.1,n.1.2.2.2.2.2.2.1.1,.int .i64 a.1.2.2.2.2.2.2.2,n.2],0,51⟩)):=by
  intro K3 c3 b3 hb
  refine (ecopy K3 c3).mono ?_
  rintro _ K ⟨n,rfl,on,cn,mn,dn⟩
  have h9:=Qs b3
  exact ⟨n,rfl,on,Qa b3 cn (by simp),M0 rfl on (c3.trans cn) (fun i hi=>by have:=mn i hi;omega) dn (if_neg hb) (decide_eq_false hb)⟩
 have ck':=fun F=>ck F K2 cK2
 have lp2:=lp K2 cK2
 by_cases g0:chipOk a
 rotate_left
 ·have hb:¬sendsOk a (nextP a q2 q3 q4 q5):=fun k=>g0 k.1
  simp [VM.look,b0,ones,one2,ck',g0]
  refine Qd (ff K2 cK2 bR hb) ?_
  rintro _ K4 ⟨n4,rfl,on4,b4,hM⟩
  have q4a:=Qy on4
  have gR:=Qi (r':=⟨[.int .i64 a.1.1.1,.int .i64 a.1.1.2.1,n4.1.1,n4.1.2.1.1,n4.1.2.1.2,n4.1.2.2.1.1,n4.1.2.2.2.1,n4.1.2.2.2.2.1,n4.1.2.2.2.2.2.1.1,n4.1.2.2.2.2.2.2.1.1,.int .i64 a.1.2.2.2.2.2.2.2,n4.2],0,51⟩) b4
  simp [Qo,q4a,VM.look,b4,gR,hF]
  simpa [hb,Qo] using hM
 by_cases g1:a.2.length=200
 ·have hb:¬sendsOk a (nextP a q2 q3 q4 q5):=fun k=>k.2.1 g1
  have g1':((a.2.length:Int))=200:=by omega
  simp [VM.look,b0,ones,one2,ck',g0,lp2,g1,g1']
  refine Qd (ff K2 cK2 bR hb) ?_
  rintro _ K4 ⟨n4,rfl,on4,b4,hM⟩
  have q4a:=Qy on4
  have gR:=Qi (r':=⟨[.int .i64 a.1.1.1,.int .i64 a.1.1.2.1,n4.1.1,n4.1.2.1.1,n4.1.2.1.2,n4.1.2.2.1.1,n4.1.2.2.2.1,n4.1.2.2.2.2.1,n4.1.2.2.2.2.2.1.1,n4.1.2.2.2.2.2.2.1.1,.int .i64 a.1.2.2.2.2.2.2.2,n4.2],0,51⟩) b4
  simp [Qo,q4a,VM.look,b4,gR,hF]
  simpa [hb,Qo] using hM
 have g1':¬((a.2.length:Int))=200:=by omega
 simp [VM.look,b0,bC,bP,ones,one2,ck',g0,lp2,g1,g1']
 have hd:=List.nodup_append.1 dn
 have hm1:∀i∈dNet.ids n.1,H.length+2≤i:=fun i hi=>by have:=mn i (List.mem_append_left _ hi);omega
 have hm2:∀i∈VM.ids n.2,H.length+2≤i:=fun i hi=>by have:=mn i (List.mem_append_right _ hi);omega
 have hl1:∀i∈dNet.ids n.1,i<K.length:=fun i hi=>dNet.lt on.1 i hi
 have hl2:∀i∈VM.ids n.2,i<K.length:=fun i hi=>dPk.lt on.2 i hi
 refine Qd (esend K2 K.length n.1 [n.2] bC on2.1 hd.1 (fun i hi=>by have:=hm1 i hi;omega) (fun hh=>by have:=hl1 _ hh;omega) g0.1.2.1.2.2.2.1 (fun l hl=>(g0.1.2.2.2.1 l hl).1)) ?_
 rintro _ K3 ⟨rfl,hps⟩
 by_cases g2:sendOk a.1 (nextP a q2 q3 q4 q5)
 rotate_left
 ·have hb:¬sendsOk a (nextP a q2 q3 q4 q5):=fun k=>g2 k.2.2
  have g2':¬sendOk a.1 ((a.2.length:Int)+1,q2,q3,q4,q5):=g2
  rw [if_neg g2'] at hps
  have b0:=Qa b0 hps (by simp)
  have bR:=Qa bR hps (by simp)
  simp [g2',VM.look,b0,ones,one2]
  refine Qd (ff K3 (cK2.trans hps) bR hb) ?_
  rintro _ K4 ⟨n4,rfl,on4,b4,hM⟩
  have q4a:=Qy on4
  have gR:=Qi (r':=⟨[.int .i64 a.1.1.1,.int .i64 a.1.1.2.1,n4.1.1,n4.1.2.1.1,n4.1.2.1.2,n4.1.2.2.1.1,n4.1.2.2.2.1,n4.1.2.2.2.2.1,n4.1.2.2.2.2.2.1.1,n4.1.2.2.2.2.2.2.1.1,.int .i64 a.1.2.2.2.2.2.2.2,n4.2],0,51⟩) b4
  simp [Qo,q4a,VM.look,b4,gR,hF]
  simpa [hb,Qo] using hM
 have g2':sendOk a.1 ((a.2.length:Int)+1,q2,q3,q4,q5):=g2
 rw [if_pos g2'] at hps
 obtain ⟨hs',o3,d3,i3,c3⟩:=hps
 have hso:sendsOk a (nextP a q2 q3 q4 q5):=⟨g0,g1,g2⟩
 have insrc:=Zo (n:=n.1)
 have bR:=Qa bR c3 (fun hh=>by have:=hm1 _ (insrc _ hh);omega)
 have bC:=Qa bC c3 (fun hh=>by have:=hl1 _ (insrc _ hh);omega)
 have bP:=Qa bP c3 (fun hh=>by have:=hl1 _ (insrc _ hh);omega)
 have op3:=Dt.chg (T:=dPk) on2.2 c3 (fun i hi hh=>hd.2.2 i (insrc _ hh) i hi rfl)
 obtain ⟨r',K4,hap,o4,c4,n4⟩:=op3.1.push (P:=Tryz.prog) (frz:=H.length) (ty:=33) (a:=((a.2.length:Int)+1,q2,q3,q4,q5)) (by simp) rfl (by have:=g0.2.1;omega) (fun i hi=>by have:=hm2 i hi;omega)
 simp only [Zg] at hap
 have bR4:=Qa bR c4 (fun hh=>by have:=hm2 _ hh;omega)
 have bC4:=Qa bC c4 (fun hh=>by have:=hl2 _ hh;omega)
 have l3:=c3.1
 have bC3:=fun L=>Ql bC L
 have bP3:=fun L=>Ql bP L
 have qr:=And.intro o4.rd.one' o4.rd.cells
 have gC:=Qi (r':=⟨[.int .i64 a.1.1.1,.int .i64 a.1.1.2.1,n.1.1,n.1.2.1.1,n.1.2.1.2,n.1.2.2.1.1,n.1.2.2.2.1,n.1.2.2.2.2.1,n.1.2.2.2.2.2.1.1,n.1.2.2.2.2.2.2.1.1,.int .i64 a.1.2.2.2.2.2.2.2,r'],0,51⟩) bC4
 have eC:Chg K4 (K4.set K.length ⟨[.int .i64 a.1.1.1,.int .i64 a.1.1.2.1,n.1.1,n.1.2.1.1,n.1.2.1.2,n.1.2.2.1.1,n.1.2.2.2.1,n.1.2.2.2.2.1,n.1.2.2.2.2.2.1.1,n.1.2.2.2.2.2.2.1.1,.int .i64 a.1.2.2.2.2.2.2.2,r'],0,51⟩) [K.length]:=Qg _ _
 have bR5:=Qa bR4 eC (by simp;omega)
 have gR:=Qi (r':=⟨[.int .i64 a.1.1.1,.int .i64 a.1.1.2.1,n.1.1,n.1.2.1.1,n.1.2.1.2,n.1.2.2.1.1,n.1.2.2.2.1,n.1.2.2.2.2.1,n.1.2.2.2.2.2.1.1,n.1.2.2.2.2.2.2.1.1,.int .i64 a.1.2.2.2.2.2.2.2,r'],0,51⟩) bR5
 have hFK:H.length≤K.length:=by omega
 simp [-Qp,-Qx,g2',VM.look,bC,bC3,bP,bP3,hap,bC4,qr,qn,gC,bR5,gR,hF,hFK]
 have hp1:∀i∈dNet.ids (putSrc n.1 (n.1.2.2.2.2.2.1.1,hs')),H.length+2≤i∧i∉VM.ids n.2∧i≠K.length∧i<K3.length:=fun i hi=>by
  have h9:=dNet.lt o3 i hi
  rcases i3 i hi with g|g
  ·exact ⟨hm1 i g,fun hh=>hd.2.2 i g i hh rfl,by have:=hl1 i g;omega,h9⟩
  ·exact ⟨by omega,fun hh=>by have:=hl2 i hh;omega,by omega,h9⟩
 have hp2:∀i∈VM.ids r',(i∈VM.ids n.2∨K3.length≤i)∧i≠K.length∧H.length+2≤i:=fun i hi=>by
  rcases n4 i hi with g|g
  ·exact ⟨.inl g,by have:=hl2 i g;omega,hm2 i g⟩
  ·exact ⟨.inr g,by omega,by omega⟩
 have fo1:=Dt.chg (T:=dNet) (Dt.chg (T:=dNet) o3 c4 (fun i hi=>(hp1 i hi).2.1)) eC (fun i hi hh=>by have:=(hp1 i hi).2.2.1;simp at hh;omega)
 have fo2:dPk.Ow (K4.set K.length ⟨[.int .i64 a.1.1.1,.int .i64 a.1.1.2.1,n.1.1,n.1.2.1.1,n.1.2.1.2,n.1.2.2.1.1,n.1.2.2.2.1,n.1.2.2.2.2.1,n.1.2.2.2.2.2.1.1,n.1.2.2.2.2.2.2.1.1,.int .i64 a.1.2.2.2.2.2.2.2,r'],0,51⟩) r' (a.2++[((a.2.length:Int)+1,q2,q3,q4,q5)]):=⟨o4.chg eC (fun i hi hh=>by have:=(hp2 i hi).2.1;simp at hh;omega),by have:=g0.2.1;simp;omega⟩
 have:=M0 (K:=K4.set K.length ⟨[.int .i64 a.1.1.1,.int .i64 a.1.1.2.1,n.1.1,n.1.2.1.1,n.1.2.1.2,n.1.2.2.1.1,n.1.2.2.2.1,n.1.2.2.2.2.1,n.1.2.2.2.2.2.1.1,n.1.2.2.2.2.2.2.1.1,.int .i64 a.1.2.2.2.2.2.2.2,r'],0,51⟩) (n:=(putSrc n.1 (n.1.2.2.2.2.2.1.1,hs'),r')) (y:=(sendNet a.1 ((a.2.length:Int)+1,q2,q3,q4,q5),a.2++[((a.2.length:Int)+1,q2,q3,q4,q5)])) (a:=a) (q2:=q2) (q3:=q3) (q4:=q4) (q5:=q5) (r:=⟨[.int .i64 a.1.1.1,.int .i64 a.1.1.2.1,n.1.1,n.1.2.1.1,n.1.2.1.2,n.1.2.2.1.1,n.1.2.2.2.1,n.1.2.2.2.2.1,n.1.2.2.2.2.2.1.1,n.1.2.2.2.2.2.2.1.1,.int .i64 a.1.2.2.2.2.2.2.2,r'],0,51⟩) (H:=H) rfl ⟨fo1,fo2⟩
  (((cK2.trans' c3 (fun i hi=>.inr (by have:=hm1 _ (insrc _ hi);omega))).trans' c4 (fun i hi=>.inr (by have:=hm2 _ hi;omega))).trans' eC (fun i hi=>.inr (by simp at hi;omega)))
  (fun i hi=>by
   rcases List.mem_append.1 hi with hi|hi
   ·exact (hp1 i hi).1
   ·exact (hp2 i hi).2.2)
  (List.nodup_append.2 ⟨d3,Q0 r',fun x hx y hy e=>by
   subst e
   rcases (hp2 x hy).1 with g|g
   ·exact (hp1 x hx).2.1 g
   ·have:=(hp1 x hx).2.2.2;omega⟩)
  (if_pos hso) (decide_eq_true hso)
 exact this
def tabs (x:NetD) (p q:Int):ClassesD:=(stdTab x.1.1 p (cnt x.1.1 x.1.2.1).toNat,stdTab x.1.1 q (cnt x.1.1 x.1.2.1).toNat)
def ruledOk (x:NetD) (p q:Int):Prop:=¬0<x.1.2.2.length∧replOk x (tabs x p q)
instance (x:NetD) (p q:Int):Decidable (ruledOk x p q):=inferInstanceAs (Decidable (_∧_))
def ruledN (x:NetD) (p q:Int):NetD:=if 0<x.1.2.2.length then x else repl x (tabs x p q)
def zNet:List Value:=[.int .i64 0,.int .i64 0,.slice none 0 0,.slice none 0 0,.slice none 0 0,.slice none 0 0,.slice none 0 0,.slice none 0 0,.slice none 0 0,.slice none 0 0,.int .i64 0]
def NetPost (H:Heap) (v:NetV) (y:NetD) (b:Bool) (r:Value) (H':Heap):Prop:=
 ∃w:NetV,r=.tuple #[dNet.val w y,.bool b]∧dNet.Ow H' w y∧(dNet.ids w).Nodup∧(∀i∈dNet.ids w,i∈dNet.ids v∨H.length≤i)∧Chg H H' []
theorem Qag {v:NetV} {x:NetD} {p q:Int} (hp:1≤p∧p≤4) (hq:1≤q∧q≤4) (hg:okG x.1.1 x.1.2.1) (o:dNet.Ow H v x) (nd:(dNet.ids v).Nodup) :
 wp (vcall C frz 124 [dNet.val v x,.int .i64 p,.int .i64 q] H) (NetPost H v (ruledN x p q) (decide (ruledOk x p q))):=by
 have ones:=Qn o
 have hlt:=dNet.lt o
 have st1:=fun K=>Nh (frz:=H.length) (H:=K) x.1.1 x.1.2.1 p (cnt x.1.1 x.1.2.1).toNat hp hg (by have:=Qf x.1.1 x.1.2.1;omega)
 have st2:=fun K=>Nh (frz:=H.length) (H:=K) x.1.1 x.1.2.1 q (cnt x.1.1 x.1.2.1).toNat hq hg (by have:=Qf x.1.1 x.1.2.1;omega)
 have et:tabs x p q=(stdTab x.1.1 p (cnt x.1.1 x.1.2.1).toNat,stdTab x.1.1 q (cnt x.1.1 x.1.2.1).toNat):=rfl
 simp only [Qk]
 rw [Qb (fn:=Tryz.f124) Tryz.func124 rfl (by kernel_rfl) rfl]
 obtain ⟨G,hG⟩:∃G,G=H++[⟨netCells v x,0,38⟩,⟨zNet,0,38⟩]:=⟨_,rfl⟩
 have cG:Chg H G []:=by rw [hG];exact Chg.app _
 have b0:G[H.length]? = some ⟨netCells v x,0,38⟩:=by rw [hG];simp
 have bR:G[H.length+1]? = some ⟨zNet,0,38⟩:=by rw [hG];simp
 have lG:G.length=H.length+2:=by rw [hG];simp
 have hGs:=hG.symm
 have b0':=b0
 unfold netCells zNet at hGs
 unfold netCells at b0'
 simp [ones]
 rw [hGs]
 clear hG hGs
 try simp [VM.look,b0',ones]
 refine Qd (st1 G) ?_
 rintro _ K1 ⟨_,rfl,v1,rfl,o1,c1,m1,d1⟩
 have q1:=W0 o1
 have l1:=c1.1
 have hF1:H.length≤K1.length:=by omega
 obtain ⟨K2,hK2⟩:∃K2,K2=K1++[⟨[v1],0,30⟩]:=⟨_,rfl⟩
 have c12:Chg K1 K2 []:=by rw [hK2];exact Chg.app _
 have l2:K2.length=K1.length+1:=by rw [hK2];simp
 have bA:K2[K1.length]? = some ⟨[v1],0,30⟩:=by rw [hK2];simp
 have b0:=Qa (Qa b0 c1 (by simp)) c12 (by simp)
 have bR:=Qa (Qa bR c1 (by simp)) c12 (by simp)
 have o1:=Dt.chg (T:=dTable) o1 c12 (by simp)
 have hKs:=hK2.symm
 have b0':=b0
 unfold netCells at b0'
 simp [W1,q1,VM.look,hF1]
 rw [hKs]
 clear hK2 hKs
 simp [VM.look,b0',ones]
 refine Qd (st2 K2) ?_
 rintro _ K3 ⟨_,rfl,v2,rfl,o2,c3,m2,d2⟩
 have q2:=W0 o2
 have l3:=c3.1
 have hF3:H.length≤K3.length:=by omega
 obtain ⟨K4,hK4⟩:∃K4,K4=K3++[⟨[v2],0,30⟩]:=⟨_,rfl⟩
 have c34:Chg K3 K4 []:=by rw [hK4];exact Chg.app _
 have bB:K4[K3.length]? = some ⟨[v2],0,30⟩:=by rw [hK4];simp
 have b0:=Qa (Qa b0 c3 (by simp)) c34 (by simp)
 have bR:=Qa (Qa bR c3 (by simp)) c34 (by simp)
 have bA:=Qa (Qa bA c3 (by simp)) c34 (by simp)
 have o1:=Dt.chg (T:=dTable) (Dt.chg (T:=dTable) o1 c3 (by simp)) c34 (by simp)
 have o2:=Dt.chg (T:=dTable) o2 c34 (by simp)
 have cH4:Chg H K4 []:=(((cG.trans c1).trans c12).trans c3).trans c34
 have on4:=Dt.chg (T:=dNet) o cH4 (by simp)
 have ln:=on4.1.1.rd.len (P:=Tryz.prog) (ty:=26) (by simp)
 have hKs:=hK4.symm
 have b0':=b0
 unfold netCells at b0'
 have hF:H.length≤H.length+1:=by omega
 simp [W1,q2,VM.look,hF3]
 rw [hKs]
 clear hK4 hKs
 simp [VM.look,b0',ones,ln]
 by_cases g:0<x.1.2.2.length
 ·have gR:=Qi (r':=⟨netCells v x,0,38⟩) bR
  have hM:NetPost H v (ruledN x p q) (decide (ruledOk x p q)) (.tuple #[dNet.val v x,.bool false]) (K4.set (H.length+1) ⟨netCells v x,0,38⟩):=by
   have e1:ruledN x p q=x:=if_pos g
   have e2:decide (ruledOk x p q)=false:=decide_eq_false (fun k=>k.1 g)
   rw [e1,e2]
   exact ⟨v,rfl,Dt.chg (T:=dNet) on4 (Qg _ _) (fun i hi hh=>by have:=hlt i hi;simp at hh;omega),nd,fun i hi=>.inl hi,cH4.trans' (Qg _ _) (fun i hi=>.inr (by simp at hi;omega))⟩
  unfold zNet at bR
  unfold netCells at gR hM
  simp only [Qk] at hM
  simp [VM.look,g,b0',bR,gR,ones,hF]
  simpa using hM
 ·have rp:=yi (frz:=H.length) on4 (vc:=(v1,v2)) (t:=tabs x p q) ⟨o1,o2⟩
  simp only [Qk,Wp] at rp
  simp [VM.look,g,b0',bA,bB,ones,q1,q2]
  refine Qd rp ?_
  rintro _ K5 ⟨_,rfl,w,rfl,ow,cw,mw,dw⟩
  have l4:=cH4.1
  obtain ⟨y,hy⟩:∃y,y=repl x (tabs x p q):=⟨_,rfl⟩
  rw [← hy] at ow
  have onew:=Qn ow
  have bR:=Qa bR cw (by simp)
  have lR:=Qs bR
  have gR:=Qi (r':=⟨netCells w y,0,38⟩) bR
  have hM:NetPost H v (ruledN x p q) (decide (ruledOk x p q)) (.tuple #[dNet.val w y,.bool (decide (replOk x (tabs x p q)))]) (K5.set (H.length+1) ⟨netCells w y,0,38⟩):=by
   have e1:ruledN x p q=y:=by rw [hy];exact if_neg g
   have e2:decide (ruledOk x p q)=decide (replOk x (tabs x p q)):=by simp [ruledOk,g]
   rw [e1,e2]
   have l12:H.length+2≤K4.length:=by have:=c34.1;omega
   exact ⟨w,rfl,Dt.chg (T:=dNet) ow (Qg _ _) (fun i hi hh=>by have:=mw i hi;simp at hh;omega),dw,fun i hi=>.inr (by have:=mw i hi;omega),(cH4.trans cw).trans' (Qg _ _) (fun i hi=>.inr (by simp at hi;omega))⟩
  unfold zNet at bR
  unfold netCells at gR hM
  simp only [Qk] at hM
  simp [Qk,← hy,VM.look,bR,gR,onew,hF]
  simpa using hM
noncomputable def actN (a:ChipD) (k p q r s:Int):ChipD×Int:=
 if k=1 then (chipSend a p q r s,if sendsOk a (nextP a p q r s) then ((chipSend a p q r s).2.length:Int) else 0)
 else if k=2 then (chipRun a p,(flits (chipRun a p).1.2.2.1:Int)+flits (chipRun a p).1.2.2.2.2.2.1)
 else if k=3 then ((idled a.1,a.2),idleAt a.1)
 else if k=4 then ((brk a.1 p,a.2),if brkOk a.1 p then 1 else 0)
 else ((ruledN a.1 p q,a.2),if ruledOk a.1 p q then 1 else 0)
def ActPost (H:Heap) (v:ChipV) (id:Nat) (y:ChipD) (k:Int) (r:Value) (H':Heap):Prop:=
 r=.int .i64 k∧∃w:ChipV,H'[id]? = some ⟨chipCells w y,0,51⟩∧dChip.Ow H' w y∧(dChip.ids w).Nodup∧(∀i∈dChip.ids w,i∈dChip.ids v∨H.length≤i)∧Chg H H' [id]
theorem Na {H J:Heap} {v:ChipV} {a:ChipD} {id:Nat} {w:NetV} {y:NetD} {k k':Int} {z:ChipD} (o:dChip.Ow H v a) (nd:(dChip.ids v).Nodup) (hid:id<H.length) (hn:id∉dChip.ids v) (c:Chg H J []) (b:J[id]? = some ⟨chipCells v a,0,51⟩)
 (ow:dNet.Ow J w y) (dw:(dNet.ids w).Nodup) (mw:∀i∈dNet.ids w,i∈dNet.ids v.1∨H.length≤i) (e:z=(y,a.2)) (ek:k'=k) :
 ActPost H v id z k' (.int .i64 k) (J.set id ⟨chipCells (w,v.2) (y,a.2),0,51⟩):=by
 subst e ek
 have hlt:=dChip.lt o
 obtain ⟨n1,n2,n3⟩:=List.nodup_append.1 nd
 have cs:Chg J (J.set id ⟨chipCells (w,v.2) (y,a.2),0,51⟩) [id]:=Qg _ _
 have hw:id∉dNet.ids w:=fun hh=>by
  rcases mw id hh with h|h
  ·exact hn (List.mem_append_left _ h)
  ·omega
 refine ⟨rfl,(w,v.2),Qi b,⟨Dt.chg (T:=dNet) ow cs (fun i hi hh=>by simp at hh;exact hw (hh▸hi)),Dt.chg (T:=dPk) (Dt.chg (T:=dPk) o.2 c (by simp)) cs (fun i hi hh=>by simp at hh;exact hn (List.mem_append_right _ (hh▸hi)))⟩,?_,fun i hi=>?_,(c.mono (fun _ h=>by cases h)).trans cs⟩
 ·refine List.nodup_append.2 ⟨dw,n2,fun x hx z hz e=>?_⟩
  subst e
  rcases mw x hx with h|h
  ·exact n3 x h x hz rfl
  ·have:=hlt x (List.mem_append_right _ hz);omega
 ·rcases List.mem_append.1 hi with h|h
  ·exact (mw i h).imp (fun h=>List.mem_append_left _ h) _root_.id
  ·exact .inl (List.mem_append_right _ h)
theorem I6 {H J:Heap} {v w:ChipV} {y z:ChipD} {id:Nat} {k k':Int} {r:Row} (hid:id<H.length) (c:Chg H J []) (b:J[id]? = some r) (ow:dChip.Ow J w y) (dw:(dChip.ids w).Nodup) (mw:∀i∈dChip.ids w,H.length≤i) (e:z=y) (ek:k'=k) :
 ActPost H v id z k' (.int .i64 k) (J.set id ⟨chipCells w y,0,51⟩):=by
 subst e ek
 exact ⟨rfl,w,Qi b,Dt.chg (T:=dChip) ow (Qg _ _) (fun i hi hh=>by have:=mw i hi;simp at hh;omega),dw,fun i hi=>.inr (mw i hi),(c.mono (fun _ h=>by cases h)).trans (Qg _ _)⟩
theorem ActPost.mono {G J:Heap} {v:ChipV} {id:Nat} {y:ChipD} {k:Int} {r:Value} (h:ActPost G v id y k r J) (c:Chg H G []):ActPost H v id y k r J:=by
 obtain ⟨h1,w,h2,h3,h4,h5,h6⟩:=h
 exact ⟨h1,w,h2,h3,h4,fun i hi=>(h5 i hi).imp _root_.id (fun h=>by have:=c.1;omega),(c.mono (fun _ h=>by cases h)).trans h6⟩
theorem Qhh {v:ChipV} {a:ChipD} {id:Nat} {k p q r s:Int} (hr:H[id]? = some ⟨chipCells v a,0,51⟩) (o:dChip.Ow H v a) (nd:(dChip.ids v).Nodup) (hid:id∉dChip.ids v) (hfi:frz≤id) (hfH:frz≤H.length) (hc:chipOk a) (ha:actOk k p q r s) (h9:allL 66000000 a.1.2.2.2.2.2.2.1) :
 wp (vcall C frz 84 [.pointer (some ⟨id,0,some 0⟩),.agg #[.int .i64 k,.int .i64 p,.int .i64 q,.int .i64 r,.int .i64 s]] H) (ActPost H v id (actN a k p q r s).1 (actN a k p q r s).2):=by
 have oneA:=Qy o
 have ones:=oneA.1
 have one2:=oneA.2
 have hidl:=Qs hr
 rw [Qb (fn:=Tryz.f84) Tryz.func84 rfl (by kernel_rfl) rfl]
 obtain ⟨G,hG⟩:∃G,G=H++[⟨[.int .i64 k,.int .i64 p,.int .i64 q,.int .i64 r,.int .i64 s],0,56⟩]:=⟨_,rfl⟩
 have cG:Chg H G []:=by rw [hG];exact Chg.app _
 have lG:G.length=H.length+1:=by rw [hG];simp
 have bA:G[H.length]? = some ⟨[.int .i64 k,.int .i64 p,.int .i64 q,.int .i64 r,.int .i64 s],0,56⟩:=by rw [hG];simp
 have hGs:=hG.symm
 simp
 rw [hGs]
 clear hG hGs
 have bC:=Qa hr cG (by simp)
 have oG:=Dt.chg (T:=dChip) o cG (by simp)
 have hidG:id<G.length:=by omega
 have bC':=bC
 unfold chipCells netCells at bC'
 simp only [List.cons_append,List.nil_append] at bC'
 have n1:=(List.nodup_append.1 nd).1
 by_cases k1:k=1
 ·have e1:actN a k p q r s=(chipSend a p q r s,if sendsOk a (nextP a p q r s) then ((chipSend a p q r s).2.length:Int) else 0):=if_pos k1
  have cs:=Cq (frz:=frz) (q2:=p) (q3:=q) (q4:=r) (q5:=s) oG
  simp only [Qo] at cs
  rw [e1]
  simp [VM.look,bA,k1]
  rw [Qe (h:=by kernel_rfl)]
  simp [VM.look,VM.vnil,bA,bC',ones,one2]
  refine Qd cs ?_
  rintro _ J ⟨_,rfl,w,rfl,ow,cw,mw,dw⟩
  obtain ⟨y,hy⟩:∃y,y=chipSend a p q r s:=⟨_,rfl⟩
  rw [← hy] at ow
  have onw:=Qy ow
  have bJ:=Qa bC cw (by simp)
  have gC:=Qi (r':=⟨chipCells w y,0,51⟩) bJ
  have cS:Chg J (J.set id ⟨chipCells w y,0,51⟩) [id]:=Qg _ _
  have hidw:id∉dChip.ids w:=fun hh=>by have:=mw _ hh;omega
  have ln:=(Dt.chg (T:=dPk) ow.2 cS (fun i hi hh=>hidw (List.mem_append_right _ (by simp at hh;exact hh▸hi)))).1.rd.len (P:=Tryz.prog) (ty:=33) (by simp)
  have hb:=ow.2.2
  have fl:=fun F H=>Cp (frz:=F) (H:=H)
  obtain ⟨B,hB⟩:∃B,B=decide (sendsOk a (nextP a p q r s)):=⟨_,rfl⟩
  have hM:=(I6 (v:=v) (z:=y) (k:=if B then (y.2.length:Int) else 0) hidG cw bJ ow dw mw rfl rfl).mono cG
  have hq:(if sendsOk a (nextP a p q r s) then (y.2.length:Int) else 0)=if B then (y.2.length:Int) else 0:=by rw [hB];by_cases g:sendsOk a (nextP a p q r s)<;>simp [g]
  rw [← hB,← hy,hq]
  have w1:∀[Inhabited Unit],IntKind.i64.wrap (y.2.length:Int)=y.2.length:=by intro _;exact w64 (by omega) (by omega)
  unfold chipCells netCells at bJ gC ln hM
  simp only [List.cons_append,List.nil_append] at bJ gC ln hM
  simp [Qo,← hy,VM.look,VM.vnil,bJ,onw,hfi]
  rw [Qe (h:=by kernel_rfl)]
  have w0:∀[Inhabited Unit],IntKind.i64.wrap 0=0:=by intro _;exact w64 (by omega) (by omega)
  cases B<;>simp [VM.look,VM.vnil,gC,onw,fl,ln,w1,w0]<;>simpa using hM
 by_cases k2:k=2
 ·have e1:actN a k p q r s=(chipRun a p,(flits (chipRun a p).1.2.2.1:Int)+flits (chipRun a p).1.2.2.2.2.2.1):=by unfold actN;rw [if_neg k1,if_pos k2]
  have cs:=qz (frz:=frz) (k:=p) oG h9
  simp only [Qo] at cs
  rw [e1]
  simp [VM.look,bA,k1,k2]
  rw [Qe (h:=by kernel_rfl)]
  simp [VM.look,VM.vnil,bA,bC',ones,one2]
  refine Qd cs ?_
  rintro _ J ⟨_,rfl,w,rfl,ow,cw,mw,dw⟩
  obtain ⟨y,hy⟩:∃y,y=chipRun a p:=⟨_,rfl⟩
  rw [← hy] at ow
  have onw:=Qy ow
  have bJ:=Qa bC cw (by simp)
  have gC:=Qi (r':=⟨chipCells w y,0,51⟩) bJ
  have cS:Chg J (J.set id ⟨chipCells w y,0,51⟩) [id]:=Qg _ _
  have hidw:id∉dChip.ids w:=fun hh=>by have:=mw _ hh;omega
  have oS:=Dt.chg (T:=dNet) ow.1 cS (fun i hi hh=>hidw (List.mem_append_left _ (by simp at hh;exact hh▸hi)))
  have f1:=fun F=>Vt (frz:=F) oS.2.2.1
  have f2:=fun F=>Vt (frz:=F) oS.2.2.2.2.2.1
  have z1:=Gw y.1.2.2.1 ow.1.2.2.1.2.1 ow.1.2.2.1.2.2
  have z2:=Gw y.1.2.2.2.2.2.1 ow.1.2.2.2.2.2.1.2.1 ow.1.2.2.2.2.2.1.2.2
  have w1:∀[Inhabited Unit],IntKind.i64.wrap ((flits y.1.2.2.1:Int)+(flits y.1.2.2.2.2.2.1:Int))=(flits y.1.2.2.1:Int)+flits y.1.2.2.2.2.2.1:=by intro _;exact w64 (by omega) (by omega)
  have hM:=(I6 (v:=v) (z:=y) (k:=(flits y.1.2.2.1:Int)+flits y.1.2.2.2.2.2.1) hidG cw bJ ow dw mw rfl rfl).mono cG
  rw [← hy]
  unfold chipCells netCells at bJ gC f1 f2 hM
  simp only [List.cons_append,List.nil_append] at bJ gC f1 f2 hM
  simp [Qo,← hy,VM.look,VM.vnil,bJ,onw,hfi]
  rw [Qe (h:=by kernel_rfl)]
  simp [VM.look,VM.vnil,gC,onw,f1,f2,w1]
  simpa using hM
 by_cases k3:k=3
 ·have e1:actN a k p q r s=((idled a.1,a.2),idleAt a.1):=by unfold actN;rw [if_neg k1,if_neg k2,if_pos k3]
  have cs:=jk (frz:=frz) oG.1 h9
  simp only [Qk] at cs
  rw [e1]
  simp [VM.look,VM.vnil,bA,bC',ones,one2,k1,k2,k3]
  refine Qd cs ?_
  rintro _ J ⟨_,rfl,w,rfl,ow,cw,mw,dw⟩
  obtain ⟨y,hy⟩:∃y,y=idled a.1:=⟨_,rfl⟩
  rw [← hy] at ow
  have onw:=Qn ow
  have lJ:=cw.1
  have hFJ:frz≤J.length:=by omega
  obtain ⟨J2,hJ2⟩:∃J2,J2=J++[⟨netCells w y,0,38⟩]:=⟨_,rfl⟩
  have c2:Chg J J2 []:=by rw [hJ2];exact Chg.app _
  have bN:J2[J.length]? = some ⟨netCells w y,0,38⟩:=by rw [hJ2];simp
  have bJ:=Qa (Qa bC cw (by simp)) c2 (by simp)
  have ow2:=Dt.chg (T:=dNet) ow c2 (by simp)
  have hM:=(Na (k:=idleAt a.1) oG nd hidG hid (cw.trans c2) bJ ow2 dw (fun i hi=>.inr (mw i hi)) (z:=(y,a.2)) rfl rfl).mono cG
  have hJs:=hJ2.symm
  rw [← hy]
  unfold chipCells netCells at bJ hM
  unfold netCells at bN hJs
  simp only [List.cons_append,List.nil_append] at bJ hM
  simp [Qk,← hy,onw,hFJ]
  rw [hJs]
  clear hJ2 hJs
  simp [VM.look,VM.vnil,bN,bJ,onw,hfi]
  simpa using hM
 by_cases k4:k=4
 ·have e1:actN a k p q r s=((brk a.1 p,a.2),if brkOk a.1 p then 1 else 0):=by unfold actN;rw [if_neg k1,if_neg k2,if_neg k3,if_pos k4]
  have cs:=qx (frz:=frz) (c:=p) oG.1
  simp only [Qk] at cs
  rw [e1]
  simp [VM.look,VM.vnil,bA,k1,k2,k3,k4]
  rw [Qe (h:=by kernel_rfl)]
  simp [VM.look,VM.vnil,bA,bC',ones,one2]
  refine Qd cs ?_
  rintro _ J ⟨_,rfl,w,rfl,ow,cw,mw,dw⟩
  obtain ⟨y,hy⟩:∃y,y=brk a.1 p:=⟨_,rfl⟩
  rw [← hy] at ow
  have onw:=Qn ow
  have bJ:=Qa bC cw (by simp)
  have fl:=fun F H=>Cp (frz:=F) (H:=H)
  obtain ⟨B,hB⟩:∃B,B=decide (brkOk a.1 p):=⟨_,rfl⟩
  have hM:=(Na (k:=if B then (1:Int) else 0) oG nd hidG hid cw bJ ow dw (fun i hi=>.inr (mw i hi)) (z:=(y,a.2)) rfl rfl).mono cG
  have hq:(if brkOk a.1 p then (1:Int) else 0)=if B then 1 else 0:=by rw [hB];by_cases g:brkOk a.1 p<;>simp [g]
  rw [← hB,← hy,hq]
  unfold chipCells netCells at bJ hM
  simp only [List.cons_append,List.nil_append] at bJ hM
  cases B<;>simp [Qk,← hy,VM.look,VM.vnil,bJ,onw,hfi,fl]<;>simpa using hM
 have hk5:k=5∧inR 1 p 4∧inR 1 q 4:=by
  unfold actOk at ha
  rw [if_neg k1,if_neg k2,if_neg k3,if_neg k4] at ha
  exact ⟨ha.1,ha.2.1,ha.2.2.1⟩
 obtain ⟨k5,hp,hq'⟩:=hk5
 have e1:actN a k p q r s=((ruledN a.1 p q,a.2),if ruledOk a.1 p q then 1 else 0):=by unfold actN;rw [if_neg k1,if_neg k2,if_neg k3,if_neg k4]
 have cs:=Qag (frz:=frz) hp hq' hc.1.1.1.1.1.2 oG.1 n1
 simp only [Qk] at cs
 rw [e1]
 simp [VM.look,VM.vnil,bA,k1,k2,k3,k4,k5]
 rw [Qe (h:=by kernel_rfl)]
 simp [VM.look,VM.vnil,bA,bC',ones,one2]
 refine Qd cs ?_
 rintro _ J ⟨w,rfl,ow,dw,mw,cw⟩
 obtain ⟨y,hy⟩:∃y,y=ruledN a.1 p q:=⟨_,rfl⟩
 rw [← hy] at ow
 have onw:=Qn ow
 have bJ:=Qa bC cw (by simp)
 have fl:=fun F H=>Cp (frz:=F) (H:=H)
 obtain ⟨B,hB⟩:∃B,B=decide (ruledOk a.1 p q):=⟨_,rfl⟩
 have hM:=(Na (k:=if B then (1:Int) else 0) oG nd hidG hid cw bJ ow dw mw (z:=(y,a.2)) rfl rfl).mono cG
 have hq:(if ruledOk a.1 p q then (1:Int) else 0)=if B then 1 else 0:=by rw [hB];by_cases g:ruledOk a.1 p q<;>simp [g]
 rw [← hB,← hy,hq]
 unfold chipCells netCells at bJ hM
 simp only [List.cons_append,List.nil_append] at bJ hM
 cases B<;>simp [Qk,← hy,VM.look,VM.vnil,bJ,onw,hfi,fl]<;>simpa using hM
end Go.Proofs.YtaldglgobgjeaaaGreat.V
