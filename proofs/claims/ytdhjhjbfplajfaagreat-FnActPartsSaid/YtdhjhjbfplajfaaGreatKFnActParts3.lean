/- Texts of a proof, joined. -/
import Derived.Test.YtdhjhjbfplajfaaGreatKM0
import Derived.Test.YtdhjhjbfplajfaaGreatKM1
import Derived.Test.YtdhjhjbfplajfaaGreatKFnActParts0
import Derived.Test.YtdhjhjbfplajfaaGreatKFnActParts1
import Derived.Test.YtdhjhjbfplajfaaGreatKFnActParts2
set_option linter.all false
namespace Go.Proofs.YtdhjhjbfplajfaaGreat.V
open Go Go.VM Go.Proofs
set_option maxRecDepth 10000
variable {frz:Nat} {H:Heap}
def MadeR (H:Heap) (y:ChipD×List Int) (r:Value) (H':Heap):Prop:=∃(vc:ChipV) (vi:Value),r=.tuple #[dChip.val vc y.1,vi]∧dChip.Ow H' vc y.1∧dIntS.Ow H' vi y.2∧Chg H H' []∧(∀i∈dChip.ids vc,H.length≤i)∧(dChip.ids vc).Nodup∧(∀i∈dIntS.ids vi,H.length≤i)∧(dIntS.ids vi).Nodup∧∀i∈dChip.ids vc,i∉dIntS.ids vi
theorem Ar {lv:Value} {l:List PkD} {i:Nat} (h:Rd pkF H lv l) (hi:i<l.length) (hl:l.length≤1073741824) :
 vindexAddr Tryz.prog H 39 lv (.int .i64 (i:Int))=some (elp lv (i*5))∧vload Tryz.prog H 58 (elp lv (i*5))=some (.agg #[.int .i64 l[i].1,.int .i64 l[i].2.1,.int .i64 l[i].2.2.1,.int .i64 l[i].2.2.2.1,.int .i64 l[i].2.2.2.2]):=by
 have q1:=h.idx (P:=Tryz.prog) (ty:=39) (e:=58) (by simp) (i:=(i:Int)) (by omega) (by omega)
 have q2:=h.load (P:=Tryz.prog) (e:=58) (by simp) hi
 simp only [Int.toNat_natCast,Lc] at q1 q2
 exact ⟨q1,by simpa [Uw] using q2⟩
theorem Xn {α:Type} {D:Fl α} {e:TypeId} {v:Value} {xs:List α} (h:Ow D e H v xs):live1 H v:=by
 rcases h with ⟨rfl,_⟩|⟨id,off,r,rfl,h2,_⟩
 ·trivial
 ·show VM.look H ⟨id,off,some r.gen⟩≠none
  simp [VM.look,h2]
theorem Yv {v:ChipV} {x:ChipD} (o:dChip.Ow H v x):VM.live H (.agg #[.int .i64 x.1.1.1,.int .i64 x.1.1.2.1,v.1.1,v.1.2.1.1,v.1.2.1.2,v.1.2.2.1.1,v.1.2.2.2.1,v.1.2.2.2.2.1,v.1.2.2.2.2.2.1.1,v.1.2.2.2.2.2.2.1.1,.int .i64 x.1.2.2.2.2.2.2.2,v.2]):=fun c hc=>by
 obtain ⟨⟨o1,o2,o3,o4,o5,o6,o7,_⟩,o8⟩:=o
 have a1:=Xn o1.1
 have a2:=Xn o2.1.1
 have a3:=Xn o2.2.1
 have a4:=Xn o3.1.1
 have a5:=Xn o4.1
 have a6:=Xn o5.1
 have a7:=Xn o6.1.1
 have a8:=Xn o7.1.1
 have a9:=Xn o8.1
 simp only [List.mem_cons,List.not_mem_nil,or_false] at hc
 rcases hc with rfl|rfl|rfl|rfl|rfl|rfl|rfl|rfl|rfl|rfl|rfl|rfl<;>first|trivial|assumption
theorem madeR {K:Heap} {n:ChipV} {y z:ChipD×List Int} {vi:Value} {r:Row} (o:dChip.Ow K n y.1) (oi:dIntS.Ow K vi y.2) (c:Chg H K []) (m:∀i∈dChip.ids n,H.length+2≤i) (d:(dChip.ids n).Nodup) (mi:∀i∈dIntS.ids vi,H.length+2≤i)
 (x:∀i∈dChip.ids n,i∉dIntS.ids vi) (e:z=y):MadeR H z (.tuple #[dChip.val n y.1,vi]) (K.set (H.length+1) r):=by
 subst e
 exact ⟨n,vi,rfl,Dt.chg (T:=dChip) o (Qe _ _) (fun i hi hh=>by have:=m i hi;simp at hh;omega),Dt.chg (T:=dIntS) oi (Qe _ _) (fun i hi hh=>by have:=mi i hi;simp at hh;omega),c.trans' (Qe _ _) (fun i hi=>.inr (by simp at hi;omega)),fun i hi=>by have:=m i hi;omega,d,fun i hi=>by have:=mi i hi;omega,Qx vi,x⟩
theorem Tj {v:ChipV} {a:ChipD} {lv:Value} {l:List PkD} (o:dChip.Ow H v a) (ol:dAct.Ow H lv l) (h9:allL 1048576 a.1.2.2.2.2.2.2.1) :
 wp (vcall C frz 7 [dChip.val v a,lv] H) (MadeR H (runActs a l)):=by
 have hr:=ol.1.rd
 have hn:=ol.2
 have oneA:=Qs o
 have ones:=oneA.1
 have one2:=oneA.2
 have ecopy:=fun K (c:Chg H K [])=>Y9 (frz:=H.length) (H:=K) (v:=v) (a:=a) (Dt.chg (T:=dChip) o c (by simp))
 have ck:=fun F K (c:Chg H K [])=>Vz (frz:=F) (H:=K) (v:=v) (a:=a) (Dt.chg (T:=dChip) o c (by simp))
 simp only [Qj] at ecopy ck ⊢
 rw [Qb (fn:=Tryz.f7) Tryz.func7 rfl (by kernel_rfl) rfl]
 obtain ⟨G,hG⟩:∃G,G=H++[⟨chipCells v a,0,38⟩,⟨zChip,0,38⟩]:=⟨_,rfl⟩
 have cG:Chg H G []:=by rw [hG];exact Chg.app _
 have b0:G[H.length]? = some ⟨chipCells v a,0,38⟩:=by rw [hG];simp
 have bR:G[H.length+1]? = some ⟨zChip,0,38⟩:=by rw [hG];simp
 have lG:G.length=H.length+2:=by rw [hG];simp
 have hGs:=hG.symm
 unfold chipCells netCells zChip at hGs
 simp only [List.cons_append,List.nil_append] at hGs
 simp [ones,one2]
 rw [hGs]
 clear hG hGs
 have b0':=b0
 unfold chipCells netCells at b0'
 simp only [List.cons_append,List.nil_append] at b0'
 try simp [VM.look,b0',ones,one2]
 refine Qc (ecopy G cG) ?_
 rintro _ K ⟨n,rfl,on,cn,mn,dn⟩
 have cK:Chg H K []:=cG.trans cn
 have b0:=Qa b0 cn (by simp)
 have bR:=Qa bR cn (by simp)
 have oneN:=Qs on
 have qn:=oneN.1
 have qn2:=oneN.2
 have lK:=cn.1
 have hFK:H.length≤K.length:=by omega
 obtain ⟨K2,hK2⟩:∃K2,K2=K++[⟨[],0,3⟩,⟨chipCells n a,0,38⟩]:=⟨_,rfl⟩
 have c12:Chg K K2 []:=by rw [hK2];exact Chg.app _
 have cK2:=cK.trans c12
 have l2:K2.length=K.length+2:=by rw [hK2];simp
 have b0:=Qa b0 c12 (by simp)
 have bR:=Qa bR c12 (by simp)
 have bC:K2[K.length+1]? = some ⟨chipCells n a,0,38⟩:=by rw [hK2];simp
 have oI:Ow Fl.int 3 K2 (.slice (some ⟨K.length,0,some 0⟩) 0 0) []:=by rw [hK2];exact Ow.new (D:=Fl.int) (xs:=[]) (k:=0) rfl rfl rfl rfl
 have on2:=Dt.chg (T:=dChip) on c12 (by simp)
 have hF:H.length≤H.length+1:=by omega
 have mn':∀i∈dChip.ids n,H.length+2≤i:=fun i hi=>by have:=mn i hi;omega
 have ltn:∀i∈dChip.ids n,i<K.length:=fun i hi=>dChip.lt on i hi
 have hFB:H.length≤K.length+1:=by omega
 have hKs:=hK2.symm
 unfold chipCells netCells at hKs
 simp only [List.cons_append,List.nil_append] at hKs
 simp [Qj,qn,qn2,hFB]
 rw [hKs]
 clear hK2 hKs
 have ck':=fun F=>ck F K2 cK2
 have b0':=b0
 have bC':=bC
 have bR':=bR
 have gR:=Qh (r':=⟨chipCells n a,0,38⟩) bR
 have bad:¬canAct a l→MadeR H (runActs a l) (.tuple #[dChip.val n a,.slice none 0 0]) (K2.set (H.length+1) ⟨chipCells n a,0,38⟩):=fun hb=>
  madeR (y:=(a,[])) on2 ⟨.inl ⟨rfl,rfl⟩,by simp⟩ cK2 mn' dn (by simp [dFlat]) (by simp [dFlat]) (if_neg hb)
 unfold zChip at bR'
 unfold chipCells netCells at b0' bC' gR bad
 simp only [List.cons_append,List.nil_append] at b0' bC' gR bad
 have ll:=fun (J:Heap) (c:Chg H J [])=>(hr.chg c (by simp)).len (P:=Tryz.prog) (ty:=39) (by simp)
 have l2':=ll K2 cK2
 by_cases g0:chipOk a
 rotate_left
 ·have hM:=bad (fun h=>g0 h.1)
  simp [VM.look,b0',ones,one2,ck',g0,bC',qn,qn2,bR',gR,hF]
  simpa [Qj] using hM
 simp [VM.look,b0',ck',g0,l2']
 refine Qd ?_ ?_<;>intro g1
 ·have hM:=bad (fun h=>by have:=h.2;omega)
  simp [VM.look,bC',qn,qn2,bR',gR,hF]
  simpa [Qj] using hM
 have g:canAct a l:=⟨g0,by omega⟩
 simp [l2']
 refine Qi (fun m t H'=>∃(i:Nat) (w:ChipV) (u:Value),m=l.length-i∧i≤l.length∧t 4=.pointer (some ⟨H.length+1,0,some 0⟩)∧t 6=.pointer (some ⟨K.length+1,0,some 0⟩)∧t 7=u∧t 24=lv∧t 25=.int .i64 l.length∧t 26=.int .i64 i∧
  H'[K.length+1]? = some ⟨chipCells w (actsAt a l i).1,0,38⟩∧dChip.Ow H' w (actsAt a l i).1∧(∀j∈dChip.ids w,H.length+2≤j)∧K.length+1∉dChip.ids w∧(dChip.ids w).Nodup∧VM.Ow Fl.int 3 H' u (actsAt a l i).2∧(∀j∈VM.ids u,H.length+2≤j∧j≠K.length+1)∧(∀j∈dChip.ids w,j∉VM.ids u)∧Chg H H' []∧H'[H.length+1]? = some ⟨zChip,0,38⟩) ?_ (n:=l.length)
  ⟨0,n,.slice (some ⟨K.length,0,some 0⟩) 0 0,rfl,by omega,by simp,by simp,by simp,by simp,by simp,by simp,bC,on2,mn',fun hh=>by have:=ltn _ hh;omega,dn,oI,fun j hj=>by simp at hj;omega,fun j hj hh=>by have:=ltn j hj;simp at hh;omega,cK2,bR⟩
 rintro m t J ⟨i,w,u,rfl,hi,t4,t6,t7,t24,t25,t26,bC,ow,mw,nB,dw,ou,mu,xw,cJ,bR⟩ ih
 have lJ:=cJ.1
 have hBJ:=Qu bC
 simp [t26,t25]
 refine Qd ?_ ?_<;>intro h
 rotate_left
 ·have he:i=l.length:=by omega
  subst he
  obtain ⟨y,hy⟩:∃y,y=actsAt a l l.length:=⟨_,rfl⟩
  rw [← hy] at bC ow ou
  have oneW:=Qs ow
  have p1:=oneW.1
  have p2:=oneW.2
  have gR:=Qh (r':=⟨chipCells w y.1,0,38⟩) bR
  have hM:=madeR (r:=⟨chipCells w y.1,0,38⟩) (y:=y) (z:=runActs a l) ow ⟨ou,by rw [hy,Zg a l _ (by omega)];omega⟩ cJ mw dw (fun j hj=>(mu j hj).1) xw (by rw [hy,Zm g])
  unfold zChip at bR
  unfold chipCells netCells at bC gR hM
  simp only [List.cons_append,List.nil_append] at bC gR hM
  simp [t4,t6,t7,VM.look,bC,p1,p2,bR,gR,hF]
  simpa [Qj] using hM
 have hi':i<l.length:=by omega
 obtain ⟨q1,q2⟩:=Ar (hr.chg cJ (by simp)) hi' hn
 have has:=Yn (a:=a) hi'
 obtain ⟨c,hc⟩:∃c,c=l[i]:=⟨_,rfl⟩
 rw [← hc] at q2 has
 obtain ⟨z,hz⟩:∃z,z=actsAt a l i:=⟨_,rfl⟩
 have harr:allL 66000000 z.1.1.2.2.2.2.2.2.1:=by rw [hz];exact Q6 (Vc l (by omega) h9 i hi) (by omega)
 have hzl:z.2.length=i:=by rw [hz];exact Zg a l i hi
 rw [← hz] at bC ow ou has
 have hFJ:H.length≤J.length:=lJ
 obtain ⟨J1,hJ1⟩:∃J1,J1=J++[⟨[.int .i64 c.1,.int .i64 c.2.1,.int .i64 c.2.2.1,.int .i64 c.2.2.2.1,.int .i64 c.2.2.2.2],0,58⟩]:=⟨_,rfl⟩
 have cJ1:Chg J J1 []:=by rw [hJ1];exact Chg.app _
 have lJ1:J1.length=J.length+1:=by rw [hJ1];simp
 have bA:J1[J.length]? = some ⟨[.int .i64 c.1,.int .i64 c.2.1,.int .i64 c.2.2.1,.int .i64 c.2.2.2.1,.int .i64 c.2.2.2.2],0,58⟩:=by rw [hJ1];simp
 have bC1:=Qa bC cJ1 (by simp)
 have bR1:=Qa bR cJ1 (by simp)
 have ow1:=Dt.chg (T:=dChip) ow cJ1 (by simp)
 have ou1:=ou.chg cJ1 (by simp)
 have hJs:=hJ1.symm
 simp [t24,t26,q1,q2,hFJ]
 rw [hJs]
 clear hJ1 hJs
 have oneW:=Qs ow
 have p1:=oneW.1
 have p2:=oneW.2
 have bC1':=bC1
 unfold chipCells netCells at bC1'
 simp only [List.cons_append,List.nil_append] at bC1'
 have od:=qh (frz:=H.length) (k:=c.1) (p:=c.2.1) (q:=c.2.2.1) (r:=c.2.2.2.1) (s:=c.2.2.2.2) ow1 harr
 simp only [Qj] at od
 simp [t6,VM.look,bC1',bA]
 refine Qc od ?_
 rintro _ J2 ⟨_,rfl,w2,rfl,o2,c2,m2,d2⟩
 obtain ⟨y,hy⟩:∃y,y=doAct z.1 c.1 c.2.1 c.2.2.1 c.2.2.2.1 c.2.2.2.2:=⟨_,rfl⟩
 have hnx:actsAt a l (i+1)=(y.1,z.2++[y.2]):=by rw [has,hy];rfl
 rw [← hy] at o2
 have oneY:=Qs o2
 have y1:=oneY.1
 have y2:=oneY.2
 have lJ2:=c2.1
 have bC2:=Qa bC1 c2 (by simp)
 have bR2:=Qa bR1 c2 (by simp)
 have ou2:=ou1.chg c2 (by simp)
 obtain ⟨J3,hJ3⟩:∃J3,J3=J2++[⟨chipCells w2 y.1,0,38⟩]:=⟨_,rfl⟩
 have cJ3:Chg J2 J3 []:=by rw [hJ3];exact Chg.app _
 have lJ3:J3.length=J2.length+1:=by rw [hJ3];simp
 have bY:J3[J2.length]? = some ⟨chipCells w2 y.1,0,38⟩:=by rw [hJ3];simp
 have bC3:=Qa bC2 cJ3 (by simp)
 have bR3:=Qa bR2 cJ3 (by simp)
 have ou3:=ou2.chg cJ3 (by simp)
 have o3:=Dt.chg (T:=dChip) o2 cJ3 (by simp)
 have hFJ2:H.length≤J2.length:=by omega
 have hJs:=hJ3.symm
 unfold chipCells netCells at hJs
 simp only [List.cons_append,List.nil_append] at hJs
 simp [Qj,← hy,y1,y2,hFJ2]
 rw [hJs]
 clear hJ3 hJs
 obtain ⟨u',J4,hap,ou4,c4,n4⟩:=ou3.push (P:=Tryz.prog) (frz:=H.length) (ty:=26) (a:=y.2) (by simp) rfl (by omega) (fun j hj=>by have:=(mu j hj).1;omega)
 simp only [Fl.int_f] at hap
 have ltu:∀j∈VM.ids u,j<J.length:=fun j hj=>ou.lt j hj
 have lJ4:=c4.1
 have bY4:=Qa bY c4 (fun hh=>by have:=ltu _ hh;omega)
 have bC4:=Qa bC3 c4 (fun hh=>(mu _ hh).2 rfl)
 have bR4:=Qa bR3 c4 (fun hh=>by have:=(mu _ hh).1;omega)
 have o4:=Dt.chg (T:=dChip) o3 c4 (fun j hj hh=>by have:=m2 j hj;have:=ltu j hh;omega)
 have bY':=bY
 have bY4':=bY4
 have bC4':=bC4
 have gC:=Qh (r':=⟨chipCells w2 y.1,0,38⟩) bC4
 have cS:Chg J4 (J4.set (K.length+1) ⟨chipCells w2 y.1,0,38⟩) [K.length+1]:=Qe _ _
 obtain ⟨J5,hJ5⟩:∃J5,J5=J4.set (K.length+1) ⟨chipCells w2 y.1,0,38⟩:=⟨_,rfl⟩
 rw [← hJ5] at gC cS
 have o5:=Dt.chg (T:=dChip) o4 cS (fun j hj hh=>by have:=m2 j hj;simp at hh;omega)
 have ou5:=ou4.chg cS (fun j hj hh=>by
  simp at hh;subst hh
  rcases n4 _ hj with h|h
  ·exact (mu _ h).2 rfl
  ·omega)
 have bR5:=Qa bR4 cS (by simp;omega)
 have hJs:=hJ5.symm
 have lv3:=Yv o3
 have lv4:=Yv o4
 have bY3L:=fun L=>Qp bY L
 have lv3L:=fun L=>Yv (Dt.app (T:=dChip) (L:=L) o3)
 unfold chipCells netCells at bY' bY4' bC4' hJs bY3L
 simp only [List.cons_append,List.nil_append] at bY' bY4' bC4' hJs bY3L
 rw [Z5 (fl:=([0],[5])) (h:=⟨by kernel_rfl,by kernel_rfl,by kernel_rfl,by kernel_rfl⟩)]
 simp [emps,empOp,empB,-Qo,-Qy,t6,t7,VM.look,bY',bY3L,bY4',bC4',lv3,lv3L,lv4,hap,y1,y2,hFB]
 rw [hJs]
 clear hJ5 hJs
 simp [t26]
 have cH5:Chg H J5 []:=(((((cJ.trans cJ1).trans c2).trans cJ3).trans' c4 (fun j hj=>.inr (by have:=(mu j hj).1;omega))).trans' cS (fun j hj=>.inr (by simp at hj;omega)))
 refine ih (l.length-(i+1)) _ _ ⟨i+1,w2,u',rfl,by omega,by simp [t4],by simp [t6],by simp,by simp [t24],by simp [t25],?_,by rw [hnx];exact gC,by rw [hnx];exact o5,fun j hj=>by have:=m2 j hj;omega,fun hh=>by have:=m2 _ hh;omega,d2,by rw [hnx];exact ou5,fun j hj=>?_,fun j hj hh=>?_,cH5,bR5⟩ (by omega)
 ·simp;rw [w64 (by omega) (by omega)]
 ·rcases n4 j hj with h|h
  ·exact mu j h
  ·omega
 ·have hlt:=dChip.lt o2 j hj
  rcases n4 j hh with h|h
  ·have:=m2 j hj;have:=ltu j h;omega
  ·omega
end Go.Proofs.YtdhjhjbfplajfaaGreat.V
set_option linter.all false
namespace Go.Proofs.YtdhjhjbfplajfaaGreat.V
open Go Go.VM Go.Proofs
set_option maxRecDepth 10000
variable {frz:Nat} {H:Heap} {r:Nat} {vb:Value} {code:List Int}
theorem Cj {N:Nat} (h2:1≤N) (hN:N≤16) (c:Cur H r vb code) (hf:frz≤r):wp (vcall C frz 30 [.pointer (some ⟨r,0,some 0⟩),.int .i64 N] H) (fun u H'=>(∃p:PkD,u=pkV p)∧Chg H H' [r]∧Cur H' r vb code):=by
 have lt:=c.lt
 have vlt:=c.vlt
 rw [Qb (fn:=Tryz.f30) Tryz.func30 rfl (by kernel_rfl) rfl]
 simp
 have bl:=We (frz:=frz) (c.app [⟨[.int .i64 0,.int .i64 0,.int .i64 0,.int .i64 0,.int .i64 0],0,58⟩]) hf 8 (by decide) (by decide)
 refine Qc (by simpa using bl) ?_
 rintro _ K ⟨⟨x,rfl,hx⟩,c1,d1⟩
 have cK:Chg H K [r]:=(Chg.app [r]).trans c1
 have b0:K[H.length]? = some ⟨[.int .i64 0,.int .i64 0,.int .i64 0,.int .i64 0,.int .i64 0],0,58⟩:=Qa (by simp) c1 (by simp;omega)
 have hF:frz≤H.length:=by omega
 have ltr:=d1.lt
 have fin:∀(J:Heap) (w:Row),Chg H J [r]→Cur J r vb code→Chg H (J.set H.length w) [r]∧Cur (J.set H.length w) r vb code:=fun J w cJ dJ=>
  ⟨cJ.trans' (Qe _ _) (fun i hi=>.inr (by simp at hi;omega)),dJ.set (by omega) (fun i hi=>by have:=vlt i hi;omega)⟩
 have run:x=0∨x=1∨x=2∨x=3∨x=4∨5≤x:=by omega
 have e9:∀(y:Nat),y<100→∀[Inhabited Unit],IntKind.i64.wrap (1+(y:Int))=1+(y:Int):=fun y hy _=>w64 (by omega) (by omega)
 rcases run with rfl|rfl|rfl|rfl|rfl|hx5
 ·simp
  have bl:=We (frz:=frz) d1 hf 9 (by decide) (by decide)
  refine Qc (by simpa using bl) ?_
  rintro _ K2 ⟨⟨y,rfl,hy⟩,c2,d2⟩
  have b2:=Qa b0 c2 (by simp;omega)
  have gP:=fun cs=>Qh (r':=⟨cs,0,58⟩) b2
  have f:=fun w=>fin K2 w (cK.trans c2) d2
  simp [VM.look,b2,e9 y (by omega),hF,gP]
  exact ⟨⟨_,_,_,_,_,rfl⟩,f _⟩
 ·simp
  have bl:=We (frz:=frz) d1 hf 9 (by decide) (by decide)
  refine Qc (by simpa using bl) ?_
  rintro _ K2 ⟨⟨y,rfl,hy⟩,c2,d2⟩
  have b2:=Qa b0 c2 (by simp;omega)
  have gP:=fun cs=>Qh (r':=⟨cs,0,58⟩) b2
  have f:=fun w=>fin K2 w (cK.trans c2) d2
  simp [VM.look,b2,e9 y (by omega),hF,gP]
  exact ⟨⟨_,_,_,_,_,rfl⟩,f _⟩
 ·have gP:=fun cs=>Qh (r':=⟨cs,0,58⟩) b0
  have f:=fun w=>fin K w cK d1
  simp [VM.look,b0,hF,gP]
  exact ⟨⟨_,_,_,_,_,rfl⟩,f _⟩
 ·have e4:∀[Inhabited Unit],IntKind.i64.wrap (4*(N:Int))=((4*N:Nat):Int):=by intro _;rw [w64 (by omega) (by omega)];omega
  simp [e4]
  have bl:=We (frz:=frz) d1 hf (4*N) (by omega) (by omega)
  refine Qc (by simpa using bl) ?_
  rintro _ K2 ⟨⟨y,rfl,hy⟩,c2,d2⟩
  have b2:=Qa b0 c2 (by simp;omega)
  have gP:=fun cs=>Qh (r':=⟨cs,0,58⟩) b2
  have f:=fun w=>fin K2 w (cK.trans c2) d2
  simp [VM.look,b2,hF,gP]
  exact ⟨⟨_,_,_,_,_,rfl⟩,f _⟩
 ·simp
  have bl:=We (frz:=frz) d1 hf 4 (by decide) (by decide)
  refine Qc (by simpa using bl) ?_
  rintro _ K2 ⟨⟨y,rfl,hy⟩,c2,d2⟩
  simp [e9 y (by omega)]
  have bl:=We (frz:=frz) d2 hf 4 (by decide) (by decide)
  refine Qc (by simpa using bl) ?_
  rintro _ K3 ⟨⟨z,rfl,hz⟩,c3,d3⟩
  have b2:=Qa (Qa b0 c2 (by simp;omega)) c3 (by simp;omega)
  have gP:=fun cs=>Qh (r':=⟨cs,0,58⟩) b2
  have f:=fun w=>fin K3 w ((cK.trans c2).trans c3) d3
  simp [VM.look,b2,e9 z (by omega),hF,gP]
  exact ⟨⟨_,_,_,_,_,rfl⟩,f _⟩
 ·have n0:¬(x:Int)=0:=by omega
  have n1:¬(x:Int)=1:=by omega
  have n2:¬(x:Int)=2:=by omega
  have n3:¬(x:Int)=3:=by omega
  have n4:¬(x:Int)=4:=by omega
  have m0:¬x=0:=by omega
  have m1:¬x=1:=by omega
  have m2:¬x=2:=by omega
  have m3:¬x=3:=by omega
  have m4:¬x=4:=by omega
  simp [n0,n1,n2,n3,n4,m0,m1,m2,m3,m4]
  refine Qc (We (frz:=frz) d1 hf N (by omega) (by omega)) ?_
  rintro _ K2 ⟨⟨y1,rfl,hy1⟩,c2,d2⟩
  simp
  refine Qc (We (frz:=frz) d2 hf N (by omega) (by omega)) ?_
  rintro _ K3 ⟨⟨y2,rfl,hy2⟩,c3,d3⟩
  simp
  have bl:=We (frz:=frz) d3 hf 2 (by decide) (by decide)
  refine Qc (by simpa using bl) ?_
  rintro _ K4 ⟨⟨y3,rfl,hy3⟩,c4,d4⟩
  simp
  have bl:=We (frz:=frz) d4 hf 5 (by decide) (by decide)
  refine Qc (by simpa using bl) ?_
  rintro _ K5 ⟨⟨y4,rfl,hy4⟩,c5,d5⟩
  have b2:=Qa (Qa (Qa (Qa b0 c2 (by simp;omega)) c3 (by simp;omega)) c4 (by simp;omega)) c5 (by simp;omega)
  have gP:=fun cs=>Qh (r':=⟨cs,0,58⟩) b2
  have f:=fun w=>fin K5 w ((((cK.trans c2).trans c3).trans c4).trans c5) d5
  simp [VM.look,b2,e9 y4 (by omega),hF,gP]
  exact ⟨⟨_,_,_,_,_,rfl⟩,f _⟩
theorem Ez {N:Nat} (h2:1≤N) (hN:N≤16) (c:Cur H r vb code) (hf:frz≤r):wp (vcall C frz 16 [.pointer (some ⟨r,0,some 0⟩),.int .i64 N] H) (fun u H'=>∃xs:List PkD,Ow pkF 58 H' u xs∧xs.length≤9∧(∀i∈ids u,H.length≤i)∧Chg H H' [r]∧Cur H' r vb code):=by
 have lt:=c.lt
 have vlt:=c.vlt
 rw [Qb (fn:=Tryz.f16) Tryz.func16 rfl (by kernel_rfl) rfl]
 simp
 refine Qi (fun n t H'=>∃(i:Nat) (u:Value) (xs:List PkD),n=9-i∧i≤9∧t 0=.pointer (some ⟨r,0,some 0⟩)∧t 1=.int .i64 N∧t 5=u∧t 6=.int .i64 i∧Cur H' r vb code∧Ow pkF 58 H' u xs∧xs.length=i∧(∀j∈ids u,H.length≤j)∧Chg H H' [r]) ?_ (n:=9)
  ⟨0,.slice (some ⟨H.length,0,some 0⟩) 0 0,[],rfl,by omega,by simp,by simp,by simp,by simp,c.app _,Ow.new0 (D:=pkF) (xs:=[]) rfl rfl rfl rfl,rfl,by simp,Chg.app _⟩
 rintro n t H' ⟨i,u,xs,rfl,hi,t0,t1,t5,t6,cc,o,hx,nu,ch⟩ ih
 have l1:=ch.1
 have bl:=We (frz:=frz) cc hf 9 (by decide) (by decide)
 simp [t0,t1,t5,t6]
 refine Qc (by simpa using bl) ?_
 rintro _ H2 ⟨⟨x,rfl,hx2⟩,c2,d2⟩
 have o2:=o.chg c2 (fun j hj hh=>by have:=nu j hj;simp at hh;omega)
 have l2:=c2.1
 simp [t0,t1,t5,t6]
 refine Qd ?_ ?_<;>intro g
 ·have e1:∀[Inhabited Unit],IntKind.i64.wrap ((i:Int)+1)=((i+1:Nat):Int):=by intro _;rw [w64 (by omega) (by omega)];omega
  simp [t0,t1,t5,t6]
  refine Qc (Cj (frz:=frz) h2 hN d2 hf) ?_
  rintro _ H3 ⟨⟨p,rfl⟩,c3,d3⟩
  have o3:=o2.chg c3 (fun j hj hh=>by have:=nu j hj;simp at hh;omega)
  have l3:=c3.1
  obtain ⟨u',H4,hap,o4,c4,n4⟩:=o3.push (P:=Tryz.prog) (frz:=frz) (ty:=39) (a:=p) (by simp) rfl (by omega) (fun j hj=>by have:=nu j hj;omega)
  simp [-Qo,-Qy,t0,t1,t5,t6,pkV,Uw]
  simp only [Uw] at hap
  simp [-Qo,-Qy,t0,t1,t5,t6,hap]
  refine ih (9-(i+1)) _ _ ⟨i+1,u',xs++[p],rfl,by omega,by simp [t0],by simp [t1],by simp,?_,d3.chg c4 (fun hh=>by have:=nu _ hh;omega) (fun j hj hh=>by have:=nu j hh;have:=vlt j hj;omega),o4,by simp [hx],fun j hj=>?_,((ch.trans c2).trans c3).trans' c4 (fun j hj=>.inr (by have:=nu j hj;omega))⟩ (by omega)
  ·simp [t6];exact e1
  ·rcases n4 j hj with h1|h1
   ·exact nu j h1
   ·omega
 ·simp [t0,t1,t5,t6]
  exact ⟨xs,o2,by omega,fun j hj=>by have:=nu j hj;omega,ch.trans c2,d2⟩
def ActsD (H:Heap) (u:Value) (H':Heap):Prop:=∃(w h:Int) (v:ChipV) (lv:Value) (l:List PkD),u=.tuple #[dChip.val v (chipNew w h),lv]∧okG w h∧dChip.Ow H' v (chipNew w h)∧(∀i∈dChip.ids v,H.length≤i)∧(dChip.ids v).Nodup∧dAct.Ow H' lv l∧l.length≤9∧(∀i∈dAct.ids lv,H.length≤i)∧Chg H H' []
theorem Ib (vb:Value) (code:List Int) (hb:Rd Fl.u8 H vb code) (hl:code.length≤1073741824):wp (vcall C frz 6 [vb] H) (fun u H'=>ActsD H u H'):=by
 rw [Qb (fn:=Tryz.f6) Tryz.func6 rfl (by kernel_rfl) rfl]
 simp
 refine Qc (Jr vb code hb.app hl) ?_
 rintro _ K1 ⟨r,rfl,hr,c1,ch1⟩
 have cH1:Chg H K1 []:=(Chg.app []).trans ch1
 have bR:K1[H.length]? = some ⟨zChip,0,38⟩:=Qa (by simp [zChip]) ch1 (by simp)
 simp at hr
 simp
 refine Qc (D7 (frz:=H.length) c1 (by omega)) ?_
 rintro _ K2 ⟨⟨w,h,rfl,hg,hn2⟩,c2,d2⟩
 have bR:=Qa bR c2 (by simp;omega)
 have l1:=cH1.1
 have l2:=c2.1
 simp
 refine Qc (J9 w h) ?_
 rintro _ K3 ⟨_,rfl,v,rfl,ov,c3,m3,n3⟩
 have bR:=Qa bR c3 (by simp)
 have d3:Cur K3 r vb code:=d2.chg c3 (by simp) (by simp)
 have l3:=c3.1
 obtain ⟨a,ha⟩:∃a,a=chipNew w h:=⟨_,rfl⟩
 rw [← ha] at ov
 have ew:a.1.1=(w,h,[]):=by
  rw [ha]
  have e:chipNew w h=(netNew (w,h,[]) (splitT w h),[]):=if_pos hg
  rw [e]
  exact (Nd (m:=(w,h,[])) (t:=splitT w h) (V8 hg)).2.1
 have one:=Qs ov
 have o1:=one.1
 have o2:=one.2
 have ltv:∀i∈dChip.ids v,i<K3.length:=fun i hi=>dChip.lt ov i hi
 obtain ⟨K4,hK4⟩:∃K4,K4=K3++[⟨chipCells v a,0,38⟩]:=⟨_,rfl⟩
 have c4:Chg K3 K4 []:=by rw [hK4];exact Chg.app _
 have b4:K4[K3.length]? = some ⟨chipCells v a,0,38⟩:=by rw [hK4];simp
 have l4:K4.length=K3.length+1:=by rw [hK4];simp
 have bR:=Qa bR c4 (by simp)
 have d4:Cur K4 r vb code:=d3.chg c4 (by simp) (by simp)
 have ov4:=Dt.chg (T:=dChip) ov c4 (by simp)
 have hKs:=hK4.symm
 have b4':=b4
 unfold chipCells netCells at hKs b4'
 simp only [List.cons_append,List.nil_append] at hKs b4'
 have hF:H.length≤K3.length:=by omega
 simp [Qj,← ha,o1,o2,hF]
 rw [hKs]
 clear hK4 hKs
 obtain ⟨N,hN⟩:∃N:Nat,cnt w h=N:=⟨(cnt w h).toNat,by have:=Qg w h;omega⟩
 have cr:=Qg w h
 have ew1:a.1.1.1=w:=by rw [ew]
 have ew2:a.1.1.2.1=h:=by rw [ew]
 have lv:=Yv ov4
 rw [ew1,ew2] at lv
 rw [Z5 (fl:=([0],[8])) (h:=⟨by kernel_rfl,by kernel_rfl,by kernel_rfl,by kernel_rfl⟩)]
 have nc:=fun F H=>Wa (frz:=F) (H:=H) w h
 rw [hN] at nc
 simp [emps,empOp,empB,VM.look,b4',o1,o2,lv,ew1,ew2,nc]
 refine Fi (Ez (N:=N) (by omega) (by omega) d4 (by omega)) ?_
 rintro lq K5 ⟨l,ol,hll,ml,c5,d5⟩
 have l5:=c5.1
 have ltr:=d2.lt
 have b5:=Qa b4 c5 (by simp;omega)
 have bR:=Qa bR c5 (by simp;omega)
 have ov5:=Dt.chg (T:=dChip) ov4 c5 (fun i hi hh=>by have:=m3 i hi;simp at hh;have:=d2.lt;omega)
 have lv5:=Yv ov5
 rw [ew1,ew2] at lv5
 have b5':=b5
 unfold chipCells netCells at b5'
 simp only [List.cons_append,List.nil_append] at b5'
 have onl:VM.one lq=true∧lq.cells=#[lq]:=⟨ol.rd.one',ol.rd.cells⟩
 refine ⟨by simp [VM.look,b5',o1,o2,lv5,ew1,ew2],?_⟩
 have gR:=Qh (r':=⟨chipCells v a,0,38⟩) bR
 have cS:Chg K5 (K5.set H.length ⟨chipCells v a,0,38⟩) [H.length]:=Qe _ _
 have ov6:=Dt.chg (T:=dChip) ov5 cS (fun i hi hh=>by have:=m3 i hi;simp at hh;omega)
 have ol6:=Ow.chg ol cS (fun i hi hh=>by have:=ml i hi;simp at hh;omega)
 have cE:Chg H (K5.set H.length ⟨chipCells v a,0,38⟩) []:=((((cH1.trans' c2 (fun i hi=>.inr (by simp at hi;omega))).trans c3).trans c4).trans' c5 (fun i hi=>.inr (by simp at hi;omega))).trans' cS (fun i hi=>.inr (by simp at hi;omega))
 have fin:ActsD H (.tuple #[dChip.val v a,lq]) (K5.set H.length ⟨chipCells v a,0,38⟩):=
  ⟨w,h,v,lq,l,by rw [ha],hg,by rw [← ha];exact ov6,fun i hi=>by have:=m3 i hi;omega,n3,⟨ol6,by omega⟩,hll,fun i hi=>by have:=ml i hi;omega,cE⟩
 simp only [Qj] at fin
 have bR':=bR
 unfold zChip at bR'
 unfold chipCells netCells at gR fin
 simp only [List.cons_append,List.nil_append] at gR fin
 rw [ew1,ew2] at gR
 simp [VM.look,b5',bR',gR,o1,o2,onl,ew1,ew2] at fin ⊢
 exact fin
end Go.Proofs.YtdhjhjbfplajfaaGreat.V
set_option linter.all false
namespace Go.Proofs.YtdhjhjbfplajfaaGreat.V
open Go Go.VM Go.Proofs
set_option maxRecDepth 10000
abbrev Key:=Int×Int×Int
def fkey (f:FlitD):Key:=(f.1,f.2.1,f.2.2.1)
def nx (f:FlitD):Option Key:=if f.2.2.2.2=true then none else some (fkey f)
def okf (s:Option Key) (f:FlitD):Prop:=(f.2.2.2.1=true∧s=none)∨(f.2.2.2.1=false∧s=some (fkey f))
def Str (s:Option Key):List FlitD→Option Key→Prop
 | [],s'=>s=s'
 | f::l,s'=>okf s f∧Str (nx f) l s'
theorem Str.app:∀{l m:List FlitD} {s t u:Option Key},Str s l t→Str t m u→Str s (l++m) u
 | [],m,s,t,u,h,k=>by obtain rfl:s=t:=h;exact k
 | f::l,m,s,t,u,h,k=>⟨h.1,Str.app h.2 k⟩
theorem Str.snoc {l:List FlitD} {s t:Option Key} {f:FlitD} (h:Str s l t) (k:okf t f):Str s (l++[f]) (nx f):=h.app ⟨k,rfl⟩
theorem Str.unsnoc:∀{l:List FlitD} {s u:Option Key} {f:FlitD},Str s (l++[f]) u→∃t,Str s l t∧okf t f∧u=nx f
 | [],s,u,f,h=>⟨s,rfl,h.1,h.2.symm⟩
 | g::l,s,u,f,h=>by
  obtain ⟨t,h1,h2,h3⟩:=Str.unsnoc (l:=l) h.2
  exact ⟨t,⟨h.1,h1⟩,h2,h3⟩
def isTail (f:FlitD):Bool:=f.2.2.2.2
def tailIds (l:List FlitD):List Int:=(l.filter isTail).map (·.1)
theorem Ft (l:List FlitD) (f:FlitD):∀i,i≤l.length→wpk (l++[f]) i=wpk l i
 | 0,_=>rfl
 | i+1,h=>by
  have ih:=Ft l f i (by omega)
  have hle:=(Pc l i).1
  have e:part (l++[f]) (wpk l i).2 i=part l (wpk l i).2 i:=by
   unfold part
   rw [List.drop_append_of_le_length (by omega),List.take_append_of_le_length (by rw [List.length_drop];omega)]
  have e2:(l++[f]).getD (wpk l i).2 flit0=l.getD (wpk l i).2 flit0:=by
   simp only [List.getD_eq_getElem?_getD]
   rw [List.getElem?_append_left (by omega)]
  unfold wpk
  rw [ih,e,e2]
def Open (k:Key) (l:List FlitD):Prop:=l≠[]∧∀i,i<l.length→l.getD i flit0=(k.1,k.2.1,k.2.2,decide ((i:Int)=0),false)
theorem Im {k:Key} {l:List FlitD} {f:FlitD} (h:Open k l) (hf:f.2.2.2.1=false) (hk:fkey f=k):whole (l++[f])↔f.2.2.2.2=true:=by
 obtain ⟨h0,h1⟩:=h
 have hl:0<l.length:=List.length_pos_iff.2 h0
 have g0:(l++[f]).getD 0 flit0=l.getD 0 flit0:=by simp only [List.getD_eq_getElem?_getD];rw [List.getElem?_append_left hl]
 have gl:(l++[f]).getD l.length flit0=f:=by simp [List.getD_eq_getElem?_getD]
 obtain ⟨f1,f2,f3,f4,f5⟩:=f
 obtain ⟨k1,k2,k3⟩:=k
 simp [fkey] at hk hf
 obtain ⟨rfl,rfl,rfl⟩:=hk
 subst hf
 have q:=h1 0 hl
 constructor
 ·intro w
  have:=w.1 l.length (by simp)
  rw [gl] at this
  unfold wholeAt at this
  simp at this
  exact this.2.2.2.2
 ·intro e
  simp at e
  subst e
  refine ⟨fun i hi=>?_,by simp⟩
  simp at hi
  unfold wholeAt
  rw [g0,q]
  by_cases hi':i<l.length
  ·have e2:(l++[(f1,f2,f3,false,true)]).getD i flit0=l.getD i flit0:=by simp only [List.getD_eq_getElem?_getD];rw [List.getElem?_append_left hi']
   rw [e2,h1 i hi']
   simp;omega
  ·have e3:i=l.length:=by omega
   subst e3
   rw [gl]
   simp;omega
theorem Dn {k:Key} {l:List FlitD} {f:FlitD} (h:Open k l) (hf:f.2.2.2.1=false) (hk:fkey f=k) (ht:f.2.2.2.2=false):Open k (l++[f]):=by
 obtain ⟨h0,h1⟩:=h
 have hl:0<l.length:=List.length_pos_iff.2 h0
 have gl:(l++[f]).getD l.length flit0=f:=by simp [List.getD_eq_getElem?_getD]
 refine ⟨by simp,fun i hi=>?_⟩
 simp at hi
 by_cases hi':i<l.length
 ·have e2:(l++[f]).getD i flit0=l.getD i flit0:=by simp only [List.getD_eq_getElem?_getD];rw [List.getElem?_append_left hi']
  rw [e2,h1 i hi']
 ·have e3:i=l.length:=by omega
  subst e3
  rw [gl]
  obtain ⟨f1,f2,f3,f4,f5⟩:=f
  obtain ⟨k1,k2,k3⟩:=k
  simp [fkey] at hk hf ht
  obtain ⟨rfl,rfl,rfl⟩:=hk
  subst hf ht
  simp;omega
theorem Ck {f:FlitD} (hf:f.2.2.2.1=true) (ht:f.2.2.2.2=false):Open (fkey f) [f]:=by
 obtain ⟨f1,f2,f3,f4,f5⟩:=f
 simp at hf ht
 subst hf ht
 refine ⟨by simp,fun i hi=>?_⟩
 simp at hi
 subst hi
 rfl
theorem Eo {f:FlitD} (hf:f.2.2.2.1=true):whole [f]↔f.2.2.2.2=true:=by
 obtain ⟨f1,f2,f3,f4,f5⟩:=f
 simp at hf
 subst hf
 constructor
 ·intro w
  have:=w.1 0 (by simp)
  unfold wholeAt at this
  simp at this
  exact this
 ·intro e
  simp at e
  subst e
  refine ⟨fun i hi=>?_,by simp⟩
  simp at hi
  subst hi
  simp [wholeAt]
def WInv (l:List FlitD) (s:Option Key):Prop:=(wpk l l.length).1=tailIds l∧(s=none→(wpk l l.length).2=l.length)∧∀k,s=some k→Open k (l.drop (wpk l l.length).2)
theorem V4 (l:List FlitD) (f:FlitD):tailIds (l++[f])=if f.2.2.2.2=true then tailIds l++[f.1] else tailIds l:=by
 unfold tailIds isTail
 rw [List.filter_append,List.map_append]
 by_cases h:f.2.2.2.2=true<;>simp [h]
theorem Ct {l:List FlitD} {s:Option Key} {f:FlitD} (h:WInv l s) (k:okf s f):WInv (l++[f]) (nx f):=by
 obtain ⟨h1,h2,h3⟩:=h
 have hle:=(Pc l l.length).1
 have ep:part (l++[f]) (wpk l l.length).2 l.length=l.drop (wpk l l.length).2++[f]:=by
  unfold part
  rw [List.drop_append_of_le_length hle]
  apply List.take_of_length_le
  simp;omega
 have e0:(l++[f]).length=l.length+1:=by simp
 have ew:wpk (l++[f]) (l++[f]).length=if whole (l.drop (wpk l l.length).2++[f]) then ((wpk l l.length).1++[((l++[f]).getD (wpk l l.length).2 flit0).1],l.length+1) else wpk l l.length:=by
  rw [e0]
  conv=>lhs;unfold wpk
  rw [Ft l f l.length (by omega),ep]
 have hid:(s=none→((l++[f]).getD (wpk l l.length).2 flit0).1=f.1)∧(∀k,s=some k→fkey f=k→((l++[f]).getD (wpk l l.length).2 flit0).1=f.1):=by
  refine ⟨fun e=>?_,fun k e ek=>?_⟩
  ·rw [h2 e];simp [List.getD_eq_getElem?_getD]
  ·have o:=h3 k e
   have hl:0<(l.drop (wpk l l.length).2).length:=List.length_pos_iff.2 o.1
   have:=o.2 0 hl
   simp only [List.getD_eq_getElem?_getD,List.getElem?_drop] at this
   rw [List.length_drop] at hl
   simp only [List.getD_eq_getElem?_getD]
   rw [List.getElem?_append_left (by omega)]
   rw [Nat.add_zero] at this
   rw [this]
   show k.1=f.1
   rw [← ek];rfl
 have hw:whole (l.drop (wpk l l.length).2++[f])↔f.2.2.2.2=true:=by
  rcases k with ⟨k1,k2⟩|⟨k1,k2⟩
  ·rw [h2 k2,List.drop_length];exact Eo k1
  ·exact Im (h3 _ k2) k1 rfl
 have hi:((l++[f]).getD (wpk l l.length).2 flit0).1=f.1:=by
  rcases k with ⟨k1,k2⟩|⟨k1,k2⟩
  ·exact hid.1 k2
  ·exact hid.2 _ k2 rfl
 unfold WInv
 rw [ew,V4]
 by_cases ht:f.2.2.2.2=true
 ·rw [if_pos (hw.2 ht),if_pos ht,hi,h1]
  unfold nx
  rw [if_pos ht]
  exact ⟨rfl,fun _=>by simp,fun k e=>by simp at e⟩
 ·rw [if_neg (fun e=>ht (hw.1 e)),if_neg ht,h1]
  have ht':f.2.2.2.2=false:=by simpa using ht
  unfold nx
  rw [if_neg ht]
  refine ⟨rfl,fun e=>by simp at e,fun k' e=>?_⟩
  obtain rfl:fkey f=k':=by simpa using e
  rw [List.drop_append_of_le_length hle]
  rcases k with ⟨k1,k2⟩|⟨k1,k2⟩
  ·rw [h2 k2,List.drop_length];exact Ck k1 ht'
  ·exact Dn (h3 _ k2) k1 rfl ht'
theorem Kx {P:List FlitD→Prop} (h0:P []) (h1:∀l f,P l→P (l++[f])) (l:List FlitD):P l:=by
 rw [← List.reverse_reverse l]
 induction l.reverse with
 | nil=>exact h0
 | cons f m ih=>rw [List.reverse_cons];exact h1 _ _ ih
theorem winv (l:List FlitD):∀s,Str none l s→WInv l s:=by
 induction l using Kx with
 | h0=>intro s h;obtain rfl:none=s:=h;exact ⟨rfl,fun _=>rfl,fun k e=>by simp at e⟩
 | h1 l f ih=>
  intro s h
  obtain ⟨t,h1,h2,rfl⟩:=h.unsnoc
  exact Ct (ih t h1) h2
theorem Jp (l:List FlitD):∀s,Str none l s→wholePk (trim l)=tailIds l:=by
 induction l using Kx with
 | h0=>intro s h;rfl
 | h1 l f ih=>
  intro s h
  obtain ⟨t,h1,h2,rfl⟩:=h.unsnoc
  rw [On]
  by_cases ht:f.2.2.2.2=true
  ·rw [if_pos ht]
   obtain ⟨w1,w2,_⟩:=winv (l++[f]) _ h
   have:=w2 (by unfold nx;rw [if_pos ht])
   unfold wholePk
   rw [if_neg (by omega),w1]
  ·rw [if_neg ht,V4,if_neg ht]
   exact ih t h1
def tabC (x:NetD) (c:Nat):List Int:=if c=1 then x.2.1.2 else x.2.1.1
def pO (x:NetD) (a c:Nat) (t:Int):Int:=portOf x.1.1 x.1.2.1 (tabC x c) a t
def hasP (x:NetD) (a p:Nat):Prop:=has x.1.1 x.1.2.1 x.1.2.2 (4*(a:Int)+p)
def nC (x:NetD):Nat:=(cnt x.1.1 x.1.2.1).toNat
theorem Sh (x:NetD):(nC x:Int)=cnt x.1.1 x.1.2.1:=by have:=Qg x.1.1 x.1.2.1;unfold nC;omega
def inc (s:Option Key) (c:Nat):Option Key:=match s with
 | some k=>if k.2.2=(c:Int) then some k else none
 | none=>none
def setF (f:Nat→Option Key) (i:Nat) (v:Option Key):Nat→Option Key:=fun n=>if n=i then v else f n
theorem X4 (f:Nat→Option Key) (i:Nat) (v:Option Key):setF f i v i=v:=if_pos rfl
theorem Xp (f:Nat→Option Key) {i j:Nat} (v:Option Key) (h:j≠i):setF f i v j=f j:=if_neg h
structure Wf (x:NetD) (B:SSD) (O:List Int) (A S:SSD) (st fr sr:Nat→Option Key):Prop where
 o1:∀a p c,a<nC x→p<5→c<2→O.getD (outAt a p c) 0=-1→st (outAt a p c)=none
 o2:∀a p c (q:Nat),a<nC x→p<5→c<2→q<5→O.getD (outAt a p c) 0=(q:Int)→∃k:Key,st (outAt a p c)=some k∧fr (10*a+2*q+c)=some k∧pO x a c k.2.1=(p:Int)
 o3:∀a (q:Nat) c k,a<nC x→q<5→c<2→fr (10*a+2*q+c)=some k→∃p,p<5∧O.getD (outAt a p c) 0=(q:Int)
 w4:∀a p c,a<nC x→p<4→c<2→hasP x a p→Str (fr (tgt x a p c)) (B.getD (tgt x a p c) []) (st (outAt a p c))
 w5:∀k c,k<nC x→c<2→Str (fr (10*k+8+c)) (B.getD (10*k+8+c) []) (inc (sr k) c)
 w6:∀k,k<nC x→Str (sr k) (S.getD k []) none
 w7:∀t c:Nat,t<nC x→c<2→Str none ((A.getD t []).filter fun f=>f.2.2.1=(c:Int)) (st (outAt t 4 c))
def mvB (x:NetD) (B:SSD) (a p i:Nat) (f:FlitD):SSD:=if p=4 then upd B (10*a+i) (List.drop 1) else upd (upd B (10*a+i) (List.drop 1)) (tgt x a p (i%2)) (·++[f])
def mvA (A:SSD) (a p:Nat) (f:FlitD):SSD:=if p=4 then upd A a (·++[f]) else A
def mvO (O:List Int) (a p i:Nat) (f:FlitD):List Int:=O.set (outAt a p (i%2)) (if f.2.2.2.2 then -1 else ((i/2:Nat):Int))
theorem S0 {a p c a' p' c':Nat} (hp:p<5) (hp':p'<5) (hc:c<2) (hc':c'<2) (e:outAt a p c=outAt a' p' c'):a=a'∧p=p'∧c=c':=by
 unfold outAt at e;omega
theorem setO {O:List Int} {i j:Nat} {v:Int} (h:i<O.length):(O.set i v).getD j 0=if i=j then v else O.getD j 0:=by
 simp only [List.getD_eq_getElem?_getD,List.getElem?_set]
 split
 ·rename_i e;subst e;simp [h]
 ·rfl
theorem T6 {x:NetD} {a p c:Nat} (h:hasP x a p) (hp:p<4) (hc:c<2):tgt x a p c<10*nC x∧tgt x a p c%2=c∧((tgt x a p c/10:Nat):Int)=next x.1.1 x.1.2.1 a p∧tgt x a p c%10<8:=by
 obtain ⟨h1,h2,h3⟩:=Yj (c:=c) h hp hc
 obtain ⟨_,h4,h5⟩:=Tl (c:=c) h hp
 have:=Sh x
 generalize next x.1.1 x.1.2.1 a p=N at *
 generalize opp p=Op at *
 omega
theorem Str.pop {s u:Option Key} {f:FlitD} {r:List FlitD} (h:Str s (f::r) u):okf s f∧Str (nx f) r u:=h
theorem Ga {s:Option Key} {f:FlitD} {k:Key} (h:okf s f) (e:s=some k):f.2.2.2.1=false∧k=fkey f:=by
 rcases h with ⟨_,h⟩|⟨h1,h⟩
 ·rw [h] at e;simp at e
 ·rw [h] at e;exact ⟨h1,by simpa using e.symm⟩
theorem Sz {f:FlitD} {k:Key} (h:nx f=some k):f.2.2.2.2=false∧k=fkey f:=by
 unfold nx at h
 by_cases e:f.2.2.2.2=true
 ·rw [if_pos e] at h;simp at h
 ·rw [if_neg e] at h;exact ⟨by simpa using e,by simpa using h.symm⟩
structure Can (x:NetD) (B:SSD) (O:List Int) (a p i:Nat) (f:FlitD) (r:List FlitD):Prop where
 ha:a<nC x
 hp:p<5
 hi:i<10
 hj:B.getD (10*a+i) []=f::r
 hd:f.2.2.2.1=true→pO x a (i%2) f.2.1=(p:Int)∧O.getD (outAt a p (i%2)) 0=-1
 bd:f.2.2.2.1=false→O.getD (outAt a p (i%2)) 0=((i/2:Nat):Int)
 room:p=4∨hasP x a p
theorem Wf.move {x:NetD} {B:SSD} {O:List Int} {A S:SSD} {st fr sr:Nat→Option Key} (w:Wf x B O A S st fr sr) (hl:B.length=10*nC x) (hO:O.length=10*nC x) (hA:A.length=nC x)
 (hc:allP (fun j f=>f.2.2.1=(j:Int)%2) B) {a p i:Nat} {f:FlitD} {r:List FlitD} (k:Can x B O a p i f r) (hs:∃u,Str (fr (10*a+i)) (f::r) u) :
 pO x a (i%2) f.2.1=(p:Int)∧∃st' fr',Wf x (mvB x B a p i f) (mvO O a p i f) (mvA A a p f) S st' fr' sr:=by
 obtain ⟨ha,hp,hi,hj,hd,bd,room⟩:=k
 obtain ⟨u,hu⟩:=hs
 have o0:=hu.pop.1
 have ei:10*a+2*(i/2)+i%2=10*a+i:=by omega
 have hij:10*a+i<B.length:=by omega
 have hoL:outAt a p (i%2)<O.length:=by unfold outAt;omega
 have hport:pO x a (i%2) f.2.1=(p:Int):=by
  cases e:f.2.2.2.1 with
  | true=>exact (hd e).1
  | false=>
   obtain ⟨k,_,k2,k3⟩:=w.o2 a p (i%2) (i/2) ha hp (by omega) (by omega) (bd e)
   rw [ei] at k2
   obtain ⟨_,rfl⟩:=Ga o0 k2
   exact k3
 have okst:okf (st (outAt a p (i%2))) f:=by
  cases e:f.2.2.2.1 with
  | true=>exact .inl ⟨e,w.o1 a p (i%2) ha hp (by omega) (hd e).2⟩
  | false=>
   obtain ⟨k,k1,k2,_⟩:=w.o2 a p (i%2) (i/2) ha hp (by omega) (by omega) (bd e)
   rw [ei] at k2
   obtain ⟨_,rfl⟩:=Ga o0 k2
   exact .inr ⟨e,k1⟩
 -- whose output leads from this input
 have only:∀p',p'<5→O.getD (outAt a p' (i%2)) 0=((i/2:Nat):Int)→p'=p:=fun p' hp' e=>by
  obtain ⟨k,_,k2,k3⟩:=w.o2 a p' (i%2) (i/2) ha hp' (by omega) (by omega) e
  rw [ei] at k2
  obtain ⟨_,rfl⟩:=Ga o0 k2
  have:(p':Int)=p:=k3.symm.trans hport
  omega
 have own:∀q:Nat,q<5→O.getD (outAt a p (i%2)) 0=(q:Int)→q=i/2:=fun q hq e=>by
  cases e2:f.2.2.2.1 with
  | true=>rw [(hd e2).2] at e;omega
  | false=>rw [bd e2] at e;omega
 have tl:f.2.2.2.2=true→nx f=none:=fun e=>by unfold nx;rw [if_pos e]
 have tn:f.2.2.2.2=false→nx f=some (fkey f):=fun e=>by unfold nx;rw [if_neg (by simp [e])]
 refine ⟨hport,setF st (outAt a p (i%2)) (nx f),setF fr (10*a+i) (nx f),?_⟩
 -- the streams after the pop
 have pops:∀j s,Str (fr j) (B.getD j []) s→Str (setF fr (10*a+i) (nx f) j) ((upd B (10*a+i) (List.drop 1)).getD j []) s:=fun j s h=>by
  by_cases e:j=10*a+i
  ·subst e
   rw [X4,Wl _ hij,hj]
   rw [hj] at h
   exact h.pop.2
  ·rw [Xp _ _ e,Q0 _ (fun h=>e h.symm)];exact h
 have same:∀j,(p=4∨j≠tgt x a p (i%2))→(mvB x B a p i f).getD j []=(upd B (10*a+i) (List.drop 1)).getD j []:=fun j h=>by
  unfold mvB
  split
  ·rfl
  ·rename_i hp4
   rw [Q0 _ (fun e=>(h.resolve_left hp4) e.symm)]
 constructor
 ·intro a' p' c' h1 h2 h3 h4
  unfold mvO at h4
  rw [setO hoL] at h4
  by_cases e:outAt a p (i%2)=outAt a' p' c'
  ·rw [if_pos e] at h4
   rw [← e,X4]
   by_cases ht:f.2.2.2.2=true
   ·exact tl ht
   ·rw [if_neg ht] at h4;omega
  ·rw [if_neg e] at h4
   rw [Xp _ _ (fun h=>e h.symm)]
   exact w.o1 a' p' c' h1 h2 h3 h4
 ·intro a' p' c' q h1 h2 h3 h4 h5
  unfold mvO at h5
  rw [setO hoL] at h5
  by_cases e:outAt a p (i%2)=outAt a' p' c'
  ·rw [if_pos e] at h5
   obtain ⟨rfl,rfl,rfl⟩:=S0 hp h2 (by omega) h3 e
   by_cases ht:f.2.2.2.2=true
   ·rw [if_pos ht] at h5;omega
   ·rw [if_neg ht] at h5
    have eq:q=i/2:=by omega
    subst eq
    rw [X4,ei,X4]
    exact ⟨fkey f,tn (by simpa using ht),tn (by simpa using ht),hport⟩
  ·rw [if_neg e] at h5
   rw [Xp _ _ (fun h=>e h.symm)]
   obtain ⟨k,k1,k2,k3⟩:=w.o2 a' p' c' q h1 h2 h3 h4 h5
   refine ⟨k,k1,?_,k3⟩
   rw [Xp _ _ ?_]
   ·exact k2
   ·intro ej
    have e1:a'=a:=by omega
    have e2:c'=i%2:=by omega
    have e3:q=i/2:=by omega
    subst e1 e2 e3
    exact e (by rw [only p' h2 h5])
 ·intro a' q c' k h1 h2 h3 h4
  by_cases ej:10*a'+2*q+c'=10*a+i
  ·have e1:a'=a:=by omega
   have e2:c'=i%2:=by omega
   have e3:q=i/2:=by omega
   subst e1 e2 e3
   rw [ej,X4] at h4
   obtain ⟨ht,_⟩:=Sz h4
   refine ⟨p,hp,?_⟩
   unfold mvO
   rw [setO hoL,if_pos rfl,if_neg (by simp [ht])]
  ·rw [Xp _ _ ej] at h4
   obtain ⟨p',k1,k2⟩:=w.o3 a' q c' k h1 h2 h3 h4
   refine ⟨p',k1,?_⟩
   unfold mvO
   rw [setO hoL,if_neg ?_]
   ·exact k2
   ·intro e
    obtain ⟨rfl,rfl,rfl⟩:=S0 hp k1 (by omega) h3 e
    have:=own q h2 k2
    omega
 ·intro a' p' c' h1 h2 h3 h4
  have:=pops _ _ (w.w4 a' p' c' h1 h2 h3 h4)
  by_cases e:outAt a p (i%2)=outAt a' p' c'
  ·obtain ⟨rfl,rfl,rfl⟩:=S0 hp (by omega) (by omega) h3 e
   rw [X4]
   have hp4:¬p=4:=by omega
   unfold mvB
   rw [if_neg hp4]
   have ht:=(T6 (c:=i%2) h4 h2 h3).1
   rw [Wl _ (by rw [V9];omega)]
   exact this.snoc okst
  ·rw [Xp _ _ (fun h=>e h.symm)]
   rw [same]
   ·exact this
   ·by_cases hp4:p=4
    ·exact .inl hp4
    ·refine .inr fun et=>e ?_
     have nn:=Sh x
     obtain ⟨rfl,rfl⟩:=Fc h4 (room.resolve_left hp4) h2 (by omega) h3 (by omega) (by omega) (by omega) et
     have t1:=(T6 (c:=c') h4 h2 h3).2.1
     have t2:=(T6 (c:=i%2) h4 h2 (by omega)).2.1
     rw [et] at t1
     rw [t2] at t1
     rw [t1]
 ·intro k c h1 h2
  have:=pops _ _ (w.w5 k c h1 h2)
  rw [same]
  ·exact this
  ·by_cases hp4:p=4
   ·exact .inl hp4
   ·refine .inr fun et=>?_
    have:=(T6 (c:=i%2) (room.resolve_left hp4) (by omega) (by omega)).2.2.2
    omega
 ·exact w.w6
 ·intro t c h1 h2
  have h7:=w.w7 t c h1 h2
  unfold mvA
  by_cases hp4:p=4
  ·rw [if_pos hp4]
   subst hp4
   by_cases ea:a=t
   ·subst ea
    rw [Wl _ (by omega),List.filter_append]
    have cl:=hc (10*a+i) f (by rw [hj];exact List.mem_cons_self ..)
    by_cases ec:i%2=c
    ·subst ec
     rw [X4]
     have e1:List.filter (fun f:FlitD=>decide (f.2.2.1=((i%2:Nat):Int))) [f]=[f]:=by
      rw [List.filter_cons_of_pos (by simp;omega)];rfl
     rw [e1]
     exact h7.snoc okst
    ·have e1:List.filter (fun f:FlitD=>decide (f.2.2.1=(c:Int))) [f]=[]:=by
      rw [List.filter_cons_of_neg (by simp;omega)];rfl
     rw [e1,List.append_nil,Xp _ _ (fun e=>by unfold outAt at e;omega)]
     exact h7
   ·rw [Q0 _ ea,Xp _ _ (fun e=>by unfold outAt at e;omega)]
    exact h7
  ·rw [if_neg hp4,Xp _ _ (fun e=>by unfold outAt at e;omega)]
   exact h7
theorem Wf.enter {x:NetD} {B:SSD} {O:List Int} {A S:SSD} {st fr sr:Nat→Option Key} (w:Wf x B O A S st fr sr) (hl:B.length=10*nC x) (hS:S.length=nC x) {k c:Nat} {f:FlitD} {r:List FlitD} (hk:k<nC x) (hc:c<2) (ec:f.2.2.1=(c:Int)) (hj:S.getD k []=f::r) :
 ∃sr',Wf x (upd B (10*k+8+c) (·++[f])) O A (upd S k (List.drop 1)) st fr sr':=by
 have h6:=w.w6 k hk
 rw [hj] at h6
 obtain ⟨o0,h6'⟩:=h6.pop
 refine ⟨setF sr k (nx f),w.o1,w.o2,w.o3,fun a' p' c' h1 h2 h3 h4=>?_,fun k' c' h1 h2=>?_,fun k' h1=>?_,w.w7⟩
 ·rw [Q0 _ (fun e=>by have:=(T6 (c:=c') h4 h2 h3).2.2.2;omega)]
  exact w.w4 a' p' c' h1 h2 h3 h4
 ·have h5:=w.w5 k' c' h1 h2
  by_cases e:k'=k
  ·subst e
   rw [X4]
   by_cases e2:c'=c
   ·subst e2
    rw [Wl _ (by omega)]
    have ok:okf (inc (sr k') c') f:=by
     rcases o0 with ⟨h,e⟩|⟨h,e⟩
     ·rw [e];exact .inl ⟨h,rfl⟩
     ·rw [e];refine .inr ⟨h,?_⟩
      show (if (fkey f).2.2=(c':Int) then some (fkey f) else none)=_
      rw [if_pos (show (fkey f).2.2=(c':Int) from ec)]
    have en:inc (nx f) c'=nx f:=by
     cases hn:nx f with
     | none=>rfl
     | some k0=>
      obtain ⟨_,rfl⟩:=Sz hn
      show (if (fkey f).2.2=(c':Int) then some (fkey f) else none)=_
      rw [if_pos (show (fkey f).2.2=(c':Int) from ec)]
    rw [en]
    exact h5.snoc ok
   ·rw [Q0 _ (by omega)]
    have hne:¬(fkey f).2.2=(c':Int):=fun e=>by have e:f.2.2.1=(c':Int):=e;omega
    have e0:inc (sr k') c'=none:=by
     rcases o0 with ⟨h,e⟩|⟨h,e⟩
     ·rw [e];rfl
     ·rw [e];exact if_neg hne
    have en:inc (nx f) c'=none:=by
     cases hn:nx f with
     | none=>rfl
     | some k0=>obtain ⟨_,rfl⟩:=Sz hn;exact if_neg hne
    rw [en];rw [e0] at h5;exact h5
  ·rw [Xp _ _ e,Q0 _ (by omega)];exact h5
 ·by_cases e:k'=k
  ·subst e
   rw [X4,Wl _ (by omega),hj];exact h6'
  ·rw [Xp _ _ e,Q0 _ (fun h=>e h.symm)];exact w.w6 k' h1
def itN (g:Int→Int):Nat→Int→Int
 | 0,a=>a
 | n+1,a=>g (itN g n a)
theorem Xj (g:Int→Int):∀n a,itN g (n+1) a=itN g n (g a)
 | 0,a=>rfl
 | n+1,a=>by show g (itN g (n+1) a)=g (itN g n (g a));rw [Xj g n a]
theorem Vp (g:Int→Int) (m:Nat):∀n a,itN g (n+m) a=itN g n (itN g m a)
 | 0,a=>by rw [Nat.zero_add];rfl
 | n+1,a=>by rw [Nat.add_right_comm];show g (itN g (n+m) a)=g (itN g n (itN g m a));rw [Vp g m n a]
def nuT (w h:Int) (T:List Int) (to a:Int):Int:=next w h a (portOf w h T a to)
theorem T8 (w h:Int) (b T:List Int) (to:Int):∀F a out,walkN w h b T to F a out≠[]→∃L,itN (nuT w h T to) L a=to∧∀n,n<L→stepOk w h b T (itN (nuT w h T to) n a) to
 | 0,a,out,hne=>by
  unfold walkN at hne
  by_cases e:portOf w h T a to=4
  ·rw [if_pos e] at hne
   by_cases e2:a=to
   ·exact ⟨0,e2,fun n h=>by omega⟩
   ·rw [if_neg e2] at hne;exact absurd rfl hne
  ·rw [if_neg e] at hne;exact absurd rfl hne
 | F+1,a,out,hne=>by
  unfold walkN at hne
  by_cases e:portOf w h T a to=4
  ·rw [if_pos e] at hne
   by_cases e2:a=to
   ·exact ⟨0,e2,fun n h=>by omega⟩
   ·rw [if_neg e2] at hne;exact absurd rfl hne
  ·rw [if_neg e] at hne
   by_cases e2:stepOk w h b T a to
   ·rw [if_pos e2] at hne
    obtain ⟨L,h1,h2⟩:=T8 w h b T to F _ _ hne
    refine ⟨L+1,by rw [Xj];exact h1,fun n hn=>?_⟩
    cases n with
    | zero=>exact e2
    | succ n=>rw [Xj];exact h2 n (by omega)
   ·rw [if_neg e2] at hne;exact absurd rfl hne
structure Route (x:NetD) (s t c:Nat) (R:Nat→Nat) (L:Nat):Prop where
 r0:R 0=10*s+8+c
 rt:R L/10=t
 rs:∀n,n<L→∃p:Nat,p<4∧pO x (R n/10) c t=(p:Int)∧R (n+1)=tgt x (R n/10) p c
 r4:pO x t c t=4
 inj:∀m n,m≤L→n≤L→R m=R n→m=n
 md:∀n,n≤L→R n%2=c
 lt:∀n,n≤L→R n<10*nC x
def tabsOk (x:NetD):Prop:=∀c,c<2→tableOk x.1.1 x.1.2.1 x.1.2.2 (tabC x c)
theorem To {x:NetD} (h:classesOk x.1.1 x.1.2.1 x.1.2.2 x.2.1.1 x.2.1.2):tabsOk x:=fun c _=>by
 unfold tabC;split
 ·exact h.2
 ·exact h.1
theorem D8 {x:NetD} (h:tabsOk x) {t c:Nat} (ht:t<nC x) (hc:c<2):pO x t c t=4:=((h c hc).2 t ht t ht).1 rfl
theorem xf {x:NetD} (h:tabsOk x) {a t c:Nat} (ha:a<nC x) (ht:t<nC x) (hc:c<2) (e:pO x a c t=4):a=t:=by
 by_cases g:a=t
 ·exact g
 ·have:=((h c hc).2 a ha t ht).2 g
  have e':portOf x.1.1 x.1.2.1 (tabC x c) a t=4:=e
  unfold walk at this
  exfalso
  apply this
  cases hk:(cnt x.1.1 x.1.2.1).toNat with
  | zero=>unfold walkN;rw [if_pos e',if_neg (by omega)]
  | succ n=>unfold walkN;rw [if_pos e',if_neg (by omega)]
theorem Lh {x:NetD} (h:tabsOk x) {s t c:Nat} (hs:s<nC x) (ht:t<nC x) (hc:c<2):∃R L,Route x s t c R L:=by
 have hn:=Sh x
 have h4:=D8 h ht hc
 have key:∃L,itN (nuT x.1.1 x.1.2.1 (tabC x c) t) L s=t∧∀n,n<L→stepOk x.1.1 x.1.2.1 x.1.2.2 (tabC x c) (itN (nuT x.1.1 x.1.2.1 (tabC x c) t) n s) t:=by
  by_cases e:s=t
  ·exact ⟨0,by show (s:Int)=t;rw [e],fun n hn=>by omega⟩
  ·exact T8 _ _ _ _ _ _ _ _ (((h c hc).2 s hs t ht).2 e)
 obtain ⟨L,h1,h2⟩:=key
 generalize hg:nuT x.1.1 x.1.2.1 (tabC x c) t=g at *
 have hN:∀n,n≤L→0≤itN g n s∧itN g n s<nC x:=fun n hn'=>by
  cases n with
  | zero=>show 0≤(s:Int)∧(s:Int)<nC x;omega
  | succ n=>
   obtain ⟨k1,k2⟩:=h2 n (by omega)
   obtain ⟨_,_,k3,k4⟩:=Ye k1 k2
   have e:itN g (n+1) s=next x.1.1 x.1.2.1 (itN g n s) (portOf x.1.1 x.1.2.1 (tabC x c) (itN g n s) t):=by
    show g (itN g n s)=_
    rw [← hg];rfl
   rw [e];exact ⟨k3,by omega⟩
 have hne:∀n,n<L→itN g n s≠t:=fun n hn' e=>by
  have k1:=(h2 n hn').1
  rw [e] at k1
  have h4':portOf x.1.1 x.1.2.1 (tabC x c) t t=4:=h4
  rw [h4'] at k1
  unfold inR at k1;omega
 have hinj:∀m n,m<n→n≤L→itN g m s≠itN g n s:=fun m n hm hn' e=>by
  have e1:itN g (L-n+m) s=itN g (L-n+n) s:=by rw [Vp g m,Vp g n,e]
  rw [show L-n+n=L by omega,h1] at e1
  exact hne (L-n+m) (by omega) e1
 -- the buffers
 have hR:∃R:Nat→Nat,R 0=10*s+8+c∧∀n,R (n+1)=(10*itN g (n+1) s+2*opp (portOf x.1.1 x.1.2.1 (tabC x c) (itN g n s) t)+c).toNat:=
  ⟨fun n=>match n with|0=>10*s+8+c|n+1=>(10*itN g (n+1) s+2*opp (portOf x.1.1 x.1.2.1 (tabC x c) (itN g n s) t)+c).toNat,rfl,fun n=>rfl⟩
 obtain ⟨R,R0,RS⟩:=hR
 have hopp:∀n,n<L→0≤opp (portOf x.1.1 x.1.2.1 (tabC x c) (itN g n s) t)∧opp (portOf x.1.1 x.1.2.1 (tabC x c) (itN g n s) t)<4:=fun n hn'=>by
  have k1:=(h2 n hn').1
  unfold inR at k1
  unfold opp
  rw [if_neg (by omega),if_pos (by omega)]
  omega
 have hdiv:∀n,n≤L→((R n/10:Nat):Int)=itN g n s∧R n%2=c∧R n<10*nC x:=fun n hn'=>by
  cases n with
  | zero=>
   rw [R0]
   have:itN g 0 s=(s:Int):=rfl
   rw [this];omega
  | succ n=>
   rw [RS]
   have k1:=hopp n (by omega)
   have k2:=hN (n+1) hn'
   generalize opp (portOf x.1.1 x.1.2.1 (tabC x c) (itN g n s) t)=Op at *
   generalize itN g (n+1) s=N at *
   omega
 refine ⟨R,L,R0,?_,fun n hn'=>?_,h4,fun m n hm hn' e=>?_,fun n hn'=>(hdiv n hn').2.1,fun n hn'=>(hdiv n hn').2.2⟩
 ·have:=(hdiv L (by omega)).1
  rw [h1] at this;omega
 ·obtain ⟨k1,k2⟩:=h2 n hn'
  have e:=(hdiv n (by omega)).1
  unfold inR at k1
  refine ⟨(portOf x.1.1 x.1.2.1 (tabC x c) (itN g n s) t).toNat,by omega,?_,?_⟩
  ·unfold pO;rw [e];omega
  ·rw [RS]
   unfold tgt
   have e2:(((portOf x.1.1 x.1.2.1 (tabC x c) (itN g n s) t).toNat:Nat):Int)=portOf x.1.1 x.1.2.1 (tabC x c) (itN g n s) t:=by omega
   rw [e,e2]
   have e3:itN g (n+1) s=next x.1.1 x.1.2.1 (itN g n s) (portOf x.1.1 x.1.2.1 (tabC x c) (itN g n s) t):=by
    show g (itN g n s)=_
    rw [← hg];rfl
   rw [e3]
 ·have a1:=(hdiv m hm).1
  have a2:=(hdiv n hn').1
  rw [e,a2] at a1
  rcases Nat.lt_trichotomy m n with k|k|k
  ·exact absurd a1.symm (hinj m n k hn')
  ·exact k
  ·exact absurd a1 (hinj n m k hm)
def cat (g:Nat→List FlitD):Nat→List FlitD
 | 0=>g 0
 | n+1=>g (n+1)++cat g n
theorem Yy {g g':Nat→List FlitD}:∀L,(∀n,n≤L→g' n=g n)→cat g' L=cat g L
 | 0,h=>h 0 (by omega)
 | L+1,h=>by unfold cat;rw [h (L+1) (by omega),Yy L (fun n hn=>h n (by omega))]
theorem Fy {g g':Nat→List FlitD} {y:FlitD}:∀n,g n=y::g' n→(∀m,m<n→g' m=g m)→cat g n=y::cat g' n
 | 0,h,_=>h
 | n+1,h,k=>by unfold cat;rw [h,Yy n (fun m hm=>k m (by omega))];rfl
theorem Fu {g g':Nat→List FlitD} {y:FlitD} (h:g' 0=g 0++[y]):∀L,(∀m,0<m→m≤L→g' m=g m)→cat g' L=cat g L++[y]
 | 0,_=>h
 | L+1,k=>by unfold cat;rw [k (L+1) (by omega) (by omega),Fu h L (fun m hm hl=>k m hm (by omega)),List.append_assoc]
theorem Ke {g g':Nat→List FlitD} {y:FlitD} {n:Nat} (h1:g n=y::g' n) (h2:g' (n+1)=g (n+1)++[y]):∀L,n<L→(∀m,m≤L→m≠n→m≠n+1→g' m=g m)→cat g' L=cat g L
 | 0,h,_=>by omega
 | L+1,h,k=>by
  by_cases e:L=n
  ·subst e
   have:=Fy (g:=g) (g':=g') L h1 (fun m hm=>k m (by omega) (by omega) (by omega))
   unfold cat
   rw [h2,this,List.append_assoc];rfl
  ·unfold cat
   rw [k (L+1) (by omega) (by omega) (by omega),Ke h1 h2 L (by omega) (fun m hm=>k m (by omega))]
def inF (list:List PkD) (s t c:Nat) (y:FlitD):Bool:=decide (sentP list y.1 s t c)
def flowFl (x:NetD) (list:List PkD) (s t c:Nat):List FlitD:=(list.filter fun p=>isFlow s t c p).flatMap (flitsOf x.1.1 x.1.2.1)
def Gen (list:List PkD) (y:FlitD):Prop:=∃p∈list,p.1=y.1∧p.2.2.1=y.2.1∧p.2.2.2.1=y.2.2.1
def Uniq (list:List PkD):Prop:=∀p∈list,∀q∈list,p.1=q.1→p=q
theorem Ii {list:List PkD} (u:Uniq list) {y:FlitD} (g:Gen list y) {s t c:Nat} (h:inF list s t c y=true):y.2.1=(t:Int)∧y.2.2.1=(c:Int):=by
 obtain ⟨p,hp,e1,e2,e3⟩:=g
 have h:sentP list y.1 s t c:=by simpa [inF] using h
 obtain ⟨q,hq,f1,f2,f3,f4⟩:=h
 have:=u p hp q hq (e1.trans f1.symm)
 subst this
 exact ⟨e2.symm.trans f3,e3.symm.trans f4⟩
structure Flow (x:NetD) (list:List PkD) (B A S:SSD) (s t c:Nat) (R:Nat→Nat) (L:Nat):Prop where
 z1:(A.getD t []).filter (inF list s t c)++(cat (fun n=>(B.getD (R n) []).filter (inF list s t c)) L++(S.getD s []).filter (inF list s t c))=flowFl x list s t c
 z2:∀j y,y∈B.getD j []→inF list s t c y=true→∃n,n≤L∧j=R n
 z3:∀k y,y∈S.getD k []→inF list s t c y=true→k=s
theorem xv {B:SSD} {j:Nat} {y:FlitD} {r:List FlitD} (hj:B.getD j []=y::r):j<B.length:=by
 by_cases h:j<B.length
 ·exact h
 ·simp [List.getD_eq_getElem?_getD,List.getElem?_eq_none (Nat.le_of_not_lt h)] at hj
theorem Px {B:SSD} {j:Nat} {y:FlitD} {r:List FlitD} {P:FlitD→Bool} (hj:B.getD j []=y::r) (hP:P y=false) (j':Nat):((upd B j (List.drop 1)).getD j' []).filter P=(B.getD j' []).filter P:=by
 by_cases e:j=j'
 ·subst e;rw [Wl _ (xv hj),hj];simp [hP]
 ·rw [Q0 _ e]
theorem T5 {P:FlitD→Bool} {y:FlitD} (hP:P y=false) (B:SSD) (j j':Nat):((upd B j (·++[y])).getD j' []).filter P=(B.getD j' []).filter P:=by
 by_cases e:j=j'
 ·subst e
  by_cases hl:j<B.length
  ·rw [Wl _ hl];simp [hP]
  ·unfold upd;rw [List.set_eq_of_length_le (Nat.le_of_not_lt hl)]
 ·rw [Q0 _ e]
theorem W8 {B:SSD} {j j':Nat} {z:FlitD} (h:z∈(upd B j (List.drop 1)).getD j' []):z∈B.getD j' []:=by
 by_cases e:j=j'
 ·subst e
  by_cases hl:j<B.length
  ·rw [Wl _ hl] at h;exact List.mem_of_mem_drop h
  ·unfold upd at h;rwa [List.set_eq_of_length_le (Nat.le_of_not_lt hl)] at h
 ·rwa [Q0 _ e] at h
theorem W5 {B:SSD} {j j':Nat} {y z:FlitD} (h:z∈(upd B j (·++[y])).getD j' []):z∈B.getD j' []∨(j'=j∧z=y):=by
 by_cases e:j=j'
 ·subst e
  by_cases hl:j<B.length
  ·rw [Wl _ hl] at h
   rcases List.mem_append.1 h with h|h
   ·exact .inl h
   ·exact .inr ⟨rfl,List.mem_singleton.1 h⟩
  ·unfold upd at h;rw [List.set_eq_of_length_le (Nat.le_of_not_lt hl)] at h;exact .inl h
 ·rw [Q0 _ e] at h;exact .inl h
theorem Flow.move {x:NetD} {list:List PkD} {B A S:SSD} {O:List Int} {s t c:Nat} {R:Nat→Nat} {L:Nat} (z:Flow x list B A S s t c R L) (rt:Route x s t c R L) (hl:B.length=10*nC x) (hA:A.length=nC x)
 (u:Uniq list) (gB:∀j y,y∈B.getD j []→Gen list y) {a p i:Nat} {y:FlitD} {r:List FlitD} (k:Can x B O a p i y r) (hport:pO x a (i%2) y.2.1=(p:Int)) :
 Flow x list (mvB x B a p i y) (mvA A a p y) S s t c R L:=by
 obtain ⟨ha,hp,hi,hj,hd,bd,room⟩:=k
 by_cases hP:inF list s t c y=true
 ·obtain ⟨e1,e2⟩:=Ii u (gB _ y (by rw [hj];exact List.mem_cons_self ..)) hP
  obtain ⟨n,hn,en⟩:=z.z2 _ y (by rw [hj];exact List.mem_cons_self ..) hP
  have m1:=rt.md n hn
  have ea:R n/10=a:=by omega
  have ec:i%2=c:=by omega
  subst ec
  rw [e1] at hport
  have hlt:=rt.lt n hn
  rw [en] at hj
  rcases Nat.lt_or_ge n L with hL|hL
  ·obtain ⟨p',p1,p2,p3⟩:=rt.rs n hL
   rw [ea] at p2 p3
   have:p'=p:=by have:=p2.symm.trans hport;omega
   subst this
   have h4:¬p'=4:=by omega
   have hne:R n≠R (n+1):=fun e=>by have:=rt.inj n (n+1) hn (by omega) e;omega
   have hlt2:=rt.lt (n+1) (by omega)
   unfold mvB mvA
   rw [if_neg h4,if_neg h4,en,← p3]
   refine ⟨?_,fun j w hw hF=>?_,z.z3⟩
   ·rw [← z.z1]
    congr 2
    refine Ke (n:=n) (y:=y) ?_ ?_ L hL fun m hm m1 m2=>?_
    ·show (B.getD (R n) []).filter _=y::(((upd (upd B (R n) (List.drop 1)) (R (n+1)) (·++[y])).getD (R n) []).filter _)
     rw [Q0 _ (fun e=>hne e.symm),Wl _ (by omega),hj,List.filter_cons_of_pos hP];rfl
    ·show (((upd (upd B (R n) (List.drop 1)) (R (n+1)) (·++[y])).getD (R (n+1)) []).filter _)=(B.getD (R (n+1)) []).filter _++[y]
     rw [Wl _ (by rw [V9];omega),Q0 _ hne,List.filter_append,List.filter_cons_of_pos hP];rfl
    ·show (((upd (upd B (R n) (List.drop 1)) (R (n+1)) (·++[y])).getD (R m) []).filter _)=(B.getD (R m) []).filter _
     rw [Q0 _ (fun e=>m2 (rt.inj (n+1) m (by omega) hm e).symm),Q0 _ (fun e=>m1 (rt.inj n m hn hm e).symm)]
   ·rcases W5 hw with hw|⟨rfl,rfl⟩
    ·exact z.z2 j w (W8 hw) hF
    ·exact ⟨n+1,by omega,rfl⟩
  ·have eL:n=L:=by omega
   subst eL
   have et:=rt.rt
   rw [ea] at et
   subst et
   have h4:p=4:=by have:=rt.r4;rw [this] at hport;omega
   subst h4
   unfold mvB mvA
   rw [if_pos rfl,if_pos rfl,en]
   refine ⟨?_,fun j w hw hF=>z.z2 j w (W8 hw) hF,z.z3⟩
   rw [← z.z1,Wl _ (by omega),List.filter_append,List.filter_cons_of_pos hP]
   have ct:=Fy (g:=fun m=>(B.getD (R m) []).filter (inF list s a (i%2))) (g':=fun m=>((upd B (R n) (List.drop 1)).getD (R m) []).filter (inF list s a (i%2))) (y:=y) n ?_ fun m hm=>?_
   ·rw [ct];simp
   ·show (B.getD (R n) []).filter _=y::(((upd B (R n) (List.drop 1)).getD (R n) []).filter _)
    rw [Wl _ (by omega),hj,List.filter_cons_of_pos hP];rfl
   ·show (((upd B (R n) (List.drop 1)).getD (R m) []).filter _)=(B.getD (R m) []).filter _
    rw [Q0 _ (fun e=>by have:=rt.inj n m hn (by omega) e;omega)]
 ·have hP:inF list s t c y=false:=by simpa using hP
  have eB:∀j,((mvB x B a p i y).getD j []).filter (inF list s t c)=(B.getD j []).filter (inF list s t c):=fun j=>by
   unfold mvB;split
   ·exact Px hj hP j
   ·rw [T5 hP,Px hj hP]
  have eA:((mvA A a p y).getD t []).filter (inF list s t c)=(A.getD t []).filter (inF list s t c):=by
   unfold mvA;split
   ·exact T5 hP A a t
   ·rfl
  refine ⟨?_,fun j w hw hF=>?_,z.z3⟩
  ·rw [eA,← z.z1]
   congr 2
   exact Yy L fun m _=>eB (R m)
  ·unfold mvB at hw
   split at hw
   ·exact z.z2 j w (W8 hw) hF
   ·rcases W5 hw with hw|⟨rfl,rfl⟩
    ·exact z.z2 j w (W8 hw) hF
    ·rw [hP] at hF;exact absurd hF (by simp)
theorem Flow.enter {x:NetD} {list:List PkD} {B A S:SSD} {s t c:Nat} {R:Nat→Nat} {L:Nat} (z:Flow x list B A S s t c R L) (rt:Route x s t c R L) (hl:B.length=10*nC x)
 (u:Uniq list) (gS:∀j y,y∈S.getD j []→Gen list y) {k c0:Nat} {y:FlitD} {r:List FlitD} (hk:k<nC x) (hc:c0<2) (ec:y.2.2.1=(c0:Int)) (hj:S.getD k []=y::r) :
 Flow x list (upd B (10*k+8+c0) (·++[y])) A (upd S k (List.drop 1)) s t c R L:=by
 by_cases hP:inF list s t c y=true
 ·obtain ⟨e1,e2⟩:=Ii u (gS _ y (by rw [hj];exact List.mem_cons_self ..)) hP
  have es:=z.z3 k y (by rw [hj];exact List.mem_cons_self ..) hP
  subst es
  have:c0=c:=by omega
  subst this
  have l0:=rt.lt 0 (by omega)
  rw [← rt.r0]
  refine ⟨?_,fun j w hw hF=>?_,fun j w hw hF=>z.z3 j w (W8 hw) hF⟩
  ·rw [← z.z1,Wl _ (xv hj),hj,List.filter_cons_of_pos hP]
   rw [Fu (g:=fun m=>(B.getD (R m) []).filter (inF list k t c0)) (y:=y) ?_ L fun m hm hl'=>?_]
   ·simp
   ·show (((upd B (R 0) (·++[y])).getD (R 0) []).filter _)=(B.getD (R 0) []).filter _++[y]
    rw [Wl _ (by omega),List.filter_append,List.filter_cons_of_pos hP];rfl
   ·show (((upd B (R 0) (·++[y])).getD (R m) []).filter _)=(B.getD (R m) []).filter _
    rw [Q0 _ (fun e=>by have:=rt.inj 0 m (by omega) hl' e;omega)]
  ·rcases W5 hw with hw|⟨rfl,rfl⟩
   ·exact z.z2 j w hw hF
   ·exact ⟨0,by omega,rfl⟩
 ·have hP:inF list s t c y=false:=by simpa using hP
  refine ⟨?_,fun j w hw hF=>?_,fun j w hw hF=>z.z3 j w (W8 hw) hF⟩
  ·rw [← z.z1,Px hj hP]
   congr 2
   exact Yy L fun m _=>T5 hP B _ (R m)
  ·rcases W5 hw with hw|⟨rfl,rfl⟩
   ·exact z.z2 j w hw hF
   ·rw [hP] at hF;exact absurd hF (by simp)
def Src (x:NetD) (j:Nat):Prop:=(∃a p c,a<nC x∧p<4∧c<2∧hasP x a p∧j=tgt x a p c)∨∃k c,k<nC x∧c<2∧j=10*k+8+c
structure Good (x:NetD) (list:List PkD) (B:SSD) (O:List Int) (A S:SSD):Prop where
 lB:B.length=10*nC x
 lO:O.length=10*nC x
 lA:A.length=nC x
 lS:S.length=nC x
 cl:allP (fun j y=>y.2.2.1=(j:Int)%2) B
 gB:∀j y,y∈B.getD j []→Gen list y
 gS:∀j y,y∈S.getD j []→Gen list y
 gA:∀(t:Nat) y,y∈A.getD t []→Gen list y∧y.2.1=(t:Int)
 rc:∀j,B.getD j []≠[]→Src x j
 wf:∃st fr sr,Wf x B O A S st fr sr
 fl:∀s t c R L,s<nC x→t<nC x→c<2→Route x s t c R L→Flow x list B A S s t c R L
structure Sent (x:NetD) (list:List PkD):Prop where
 u:Uniq list
 ok:∀p∈list,packetOk x.1.1 x.1.2.1 p
theorem Cn {x:NetD} {list:List PkD} (h:Sent x list) {y:FlitD} (g:Gen list y):∃t c:Nat,t<nC x∧c<2∧y.2.1=(t:Int)∧y.2.2.1=(c:Int):=by
 obtain ⟨p,hp,_,e2,e3⟩:=g
 obtain ⟨_,_,⟨k1,k2⟩,_,k3,_⟩:=h.ok p hp
 have:=Sh x
 unfold inR at k3
 exact ⟨p.2.2.1.toNat,p.2.2.2.1.toNat,by omega,by omega,by omega,by omega⟩
theorem Good.move {x:NetD} {list:List PkD} {B:SSD} {O:List Int} {A S:SSD} (g:Good x list B O A S) (h:Sent x list) (tk:tabsOk x) {a p i:Nat} {y:FlitD} {r:List FlitD} (k:Can x B O a p i y r) :
 Good x list (mvB x B a p i y) (mvO O a p i y) (mvA A a p y) S:=by
 obtain ⟨st,fr,sr,w⟩:=g.wf
 have hj:=k.hj
 have hm:y∈B.getD (10*a+i) []:=by rw [hj];exact List.mem_cons_self ..
 have hs:∃u,Str (fr (10*a+i)) (y::r) u:=by
  rcases g.rc (10*a+i) (by rw [hj];simp) with ⟨a',p',c',h1,h2,h3,h4,e⟩|⟨k',c',h1,h2,e⟩
  ·have:=w.w4 a' p' c' h1 h2 h3 h4
   rw [← e,hj] at this;exact ⟨_,this⟩
  ·have:=w.w5 k' c' h1 h2
   rw [← e,hj] at this;exact ⟨_,this⟩
 obtain ⟨hport,st',fr',w'⟩:=w.move g.lB g.lO g.lA g.cl k hs
 obtain ⟨t0,c0,ht,hc0,et,ec⟩:=Cn h (g.gB _ y hm)
 have ci:=g.cl _ y hm
 have ha:=k.ha
 have hi:=k.hi
 have hp:=k.hp
 have hA:p=4→y.2.1=(a:Int):=fun e=>by
  subst e
  rw [et] at hport
  have:=xf tk ha ht (by omega) hport
  omega
 refine ⟨?_,?_,?_,g.lS,fun j z hz=>?_,fun j z hz=>?_,g.gS,fun t z hz=>?_,fun j hne=>?_,⟨st',fr',sr,w'⟩,fun s t c R L h1 h2 h3 rt=>(g.fl s t c R L h1 h2 h3 rt).move rt g.lB g.lA h.u g.gB k hport⟩
 ·unfold mvB;split<;>simp [g.lB]
 ·unfold mvO;simp [g.lO]
 ·unfold mvA;split<;>simp [g.lA]
 ·unfold mvB at hz
  split at hz
  ·exact g.cl j z (W8 hz)
  ·rename_i h4
   rcases W5 hz with hz|⟨rfl,rfl⟩
   ·exact g.cl j z (W8 hz)
   ·have:=(T6 (c:=i%2) (k.room.resolve_left h4) (by omega) (by omega)).2.1
    rw [ci];omega
 ·unfold mvB at hz
  split at hz
  ·exact g.gB j z (W8 hz)
  ·rcases W5 hz with hz|⟨rfl,rfl⟩
   ·exact g.gB j z (W8 hz)
   ·exact g.gB _ _ hm
 ·unfold mvA at hz
  split at hz
  ·rename_i h4
   rcases W5 hz with hz|⟨rfl,rfl⟩
   ·exact g.gA t z hz
   ·exact ⟨g.gB _ _ hm,hA h4⟩
  ·exact g.gA t z hz
 ·obtain ⟨z,hz⟩:=List.exists_mem_of_ne_nil _ hne
  unfold mvB at hz
  split at hz
  ·exact g.rc j (List.ne_nil_of_mem (W8 hz))
  ·rename_i h4
   rcases W5 hz with hz|⟨rfl,rfl⟩
   ·exact g.rc j (List.ne_nil_of_mem (W8 hz))
   ·exact .inl ⟨a,p,i%2,ha,by omega,by omega,k.room.resolve_left h4,rfl⟩
theorem Good.enter {x:NetD} {list:List PkD} {B:SSD} {O:List Int} {A S:SSD} (g:Good x list B O A S) (h:Sent x list) {k c:Nat} {y:FlitD} {r:List FlitD} (hk:k<nC x) (hc:c<2) (ec:y.2.2.1=(c:Int)) (hj:S.getD k []=y::r) :
 Good x list (upd B (10*k+8+c) (·++[y])) O A (upd S k (List.drop 1)):=by
 obtain ⟨st,fr,sr,w⟩:=g.wf
 obtain ⟨sr',w'⟩:=w.enter g.lB g.lS hk hc ec hj
 have hm:y∈S.getD k []:=by rw [hj];exact List.mem_cons_self ..
 refine ⟨by simp [g.lB],g.lO,g.lA,by simp [g.lS],fun j z hz=>?_,fun j z hz=>?_,fun j z hz=>g.gS j z (W8 hz),g.gA,fun j hne=>?_,⟨st,fr,sr',w'⟩,fun s t c' R L h1 h2 h3 rt=>(g.fl s t c' R L h1 h2 h3 rt).enter rt g.lB h.u g.gS hk hc ec hj⟩
 ·rcases W5 hz with hz|⟨rfl,rfl⟩
  ·exact g.cl j z hz
  ·rw [ec];omega
 ·rcases W5 hz with hz|⟨rfl,rfl⟩
  ·exact g.gB j z hz
  ·exact g.gS _ _ hm
 ·obtain ⟨z,hz⟩:=List.exists_mem_of_ne_nil _ hne
  rcases W5 hz with hz|⟨rfl,rfl⟩
  ·exact g.rc j (List.ne_nil_of_mem hz)
  ·exact .inr ⟨k,c,hk,hc,rfl⟩
def stat (x:NetD):NetD:=(x.1,x.2.1,[],[],[],[],[],0)
theorem Ot {l:List FlitD} (h:l≠[]):l=headL l::l.drop 1:=by
 cases l with
 | nil=>exact absurd rfl h
 | cons a l=>rfl
def Fits (x:NetD) (B:SSD) (O:List Int) (g:GrD):Prop:=B.getD (frm g) []≠[]∧headL (B.getD (frm g) [])=headOf x (frm g)∧O.getD (outAt g.1 g.2.1 (g.2.2%2)) 0=x.2.2.2.1.getD (outAt g.1 g.2.1 (g.2.2%2)) 0
theorem zn {x:NetD} {B:SSD} {O:List Int} {g:GrD} (hg:g.1<nC x∧g.2.1<5∧g.2.2<10∧reqN x g.1 g.2.2 g.2.1) (f:Fits x B O g):Can (stat x) B O g.1 g.2.1 g.2.2 (headOf x (frm g)) ((B.getD (frm g) []).drop 1):=by
 obtain ⟨h1,h2,h3,r1,r2,r3⟩:=hg
 obtain ⟨f1,f2,f3⟩:=f
 have hB:=Ot f1
 rw [f2] at hB
 rw [r3] at f3
 have hne:x.2.2.1.getD (10*g.1+g.2.2) []≠[]:=fun e=>by
  unfold wantedN at r1;rw [if_pos e] at r1;omega
 refine ⟨h1,h2,h3,hB,fun e=>?_,fun e=>?_,?_⟩
 ·have e':(headOf x (10*g.1+g.2.2)).2.2.2.1=true:=e
  unfold wantedN at r1
  rw [if_neg hne,if_pos e'] at r1
  rw [if_pos e'] at f3
  exact ⟨r1,f3⟩
 ·have e':(headOf x (10*g.1+g.2.2)).2.2.2.1=false:=e
  rw [if_neg (by simp [e'])] at f3
  exact f3
 ·rcases r2 with e|⟨e,_⟩
  ·exact .inl e
  ·exact .inr e
theorem A6 (x:NetD) (B:SSD) (g:GrD):bothS x B g=mvB (stat x) B g.1 g.2.1 g.2.2 (headOf x (frm g)):=by
 unfold bothS pushS mvB popS
 split<;>rfl
theorem zg (x:NetD) (A:SSD) (g:GrD):arrS x A g=mvA A g.1 g.2.1 (headOf x (frm g)):=rfl
theorem yo (x:NetD) (O:List Int) (g:GrD):ownS x O g=mvO O g.1 g.2.1 g.2.2 (headOf x (frm g)):=rfl
theorem Ja {B:SSD} {j k:Nat} {y:FlitD} (h:B.getD j []≠[]):(upd B k (·++[y])).getD j []≠[]∧headL ((upd B k (·++[y])).getD j [])=headL (B.getD j []):=by
 by_cases e:k=j
 ·subst e
  by_cases hl:k<B.length
  ·rw [Wl _ hl]
   cases hh:B.getD k [] with
   | nil=>exact absurd hh h
   | cons a l=>exact ⟨by simp,rfl⟩
  ·unfold upd;rw [List.set_eq_of_length_le (Nat.le_of_not_lt hl)];exact ⟨h,rfl⟩
 ·rw [Q0 _ e];exact ⟨h,rfl⟩
theorem Good.grants {x:NetD} {list:List PkD} (h:Sent (stat x) list) (tk:tabsOk (stat x)):∀(l:List GrD) {B:SSD} {O:List Int} {A S:SSD},Good (stat x) list B O A S→(l.map frm).Nodup→(l.map key).Nodup→(∀g∈l,(g.1<nC x∧g.2.1<5∧g.2.2<10∧reqN x g.1 g.2.2 g.2.1)∧Fits x B O g)→
 Good (stat x) list (l.foldl (bothS x) B) (l.foldl (ownS x) O) (l.foldl (arrS x) A) S
 | [],B,O,A,S,g,_,_,_=>g
 | a::l,B,O,A,S,g,n1,n2,hf=>by
  obtain ⟨p1,p2⟩:=List.nodup_cons.1 n1
  obtain ⟨q1,q2⟩:=List.nodup_cons.1 n2
  obtain ⟨ha,fa⟩:=hf a (List.mem_cons_self ..)
  have g':=g.move h tk (zn ha fa)
  rw [← A6,← yo,← zg] at g'
  simp only [List.foldl_cons]
  refine Good.grants h tk l g' p2 q2 fun b hb=>?_
  obtain ⟨hb1,f1,f2,f3⟩:=hf b (List.mem_cons_of_mem _ hb)
  have e1:frm a≠frm b:=fun e=>p1 (e▸List.mem_map_of_mem hb)
  have e2:key a≠key b:=fun e=>q1 (e▸List.mem_map_of_mem hb)
  refine ⟨hb1,?_⟩
  have k1:(popS B a).getD (frm b) []=B.getD (frm b) []:=Q0 _ e1
  have k2:(ownS x O a).getD (outAt b.1 b.2.1 (b.2.2%2)) 0=O.getD (outAt b.1 b.2.1 (b.2.2%2)) 0:=by
   have hne:outAt a.1 a.2.1 (a.2.2%2)≠outAt b.1 b.2.1 (b.2.2%2):=fun e=>by
    obtain ⟨c1,c2,_⟩:=S0 ha.2.1 hb1.2.1 (by omega) (by omega) e
    exact e2 (by unfold key;rw [c1,c2])
   unfold ownS
   simp only [List.getD_eq_getElem?_getD]
   rw [List.getElem?_set_ne hne]
  have k3:(bothS x B a).getD (frm b) []≠[]∧headL ((bothS x B a).getD (frm b) [])=headL (B.getD (frm b) []):=by
   unfold bothS pushS
   split
   ·rw [k1];exact ⟨f1,rfl⟩
   ·have:=Ja (B:=popS B a) (j:=frm b) (k:=tgt x a.1 a.2.1 (a.2.2%2)) (y:=headOf x (frm a)) (by rw [k1];exact f1)
    rw [k1] at this;exact this
  exact ⟨k3.1,k3.2.trans f2,k2.trans f3⟩
theorem Good.enters {x:NetD} {list:List PkD} (h:Sent (stat x) list):∀(l:List Nat) {B:SSD} {O:List Int} {A S:SSD},Good (stat x) list B O A S→l.Nodup→(∀k∈l,k<nC x∧S.getD k []≠[]∧headL (S.getD k [])=srcHead x k)→
 Good (stat x) list (l.foldl (entS x) B) O A (l.foldl srcS S)
 | [],B,O,A,S,g,_,_=>g
 | k::l,B,O,A,S,g,n,hf=>by
  obtain ⟨p1,p2⟩:=List.nodup_cons.1 n
  obtain ⟨hk,f1,f2⟩:=hf k (List.mem_cons_self ..)
  have hS:=Ot f1
  rw [f2] at hS
  obtain ⟨t,c,_,hc,_,ec⟩:=Cn h (g.gS k (srcHead x k) (by rw [hS];exact List.mem_cons_self ..))
  have g':=g.enter h (k:=k) (c:=c) hk hc ec hS
  have e1:entAt x k=10*k+8+c:=by unfold entAt;rw [ec];omega
  have e2:entS x B k=upd B (10*k+8+c) (·++[srcHead x k]):=by unfold entS;rw [e1]
  have e3:srcS S k=upd S k (List.drop 1):=rfl
  rw [← e2,← e3] at g'
  simp only [List.foldl_cons]
  refine Good.enters h l g' p2 fun j hj=>?_
  obtain ⟨c1,c2,c3⟩:=hf j (List.mem_cons_of_mem _ hj)
  have hne:k≠j:=fun e=>p1 (e▸hj)
  refine ⟨c1,?_⟩
  have:(srcS S k).getD j []=S.getD j []:=Q0 _ hne
  rw [this];exact ⟨c2,c3⟩
def GoodN (x:NetD) (list:List PkD):Prop:=Good (stat x) list x.2.2.1 x.2.2.2.1 x.2.2.2.2.2.2.1 x.2.2.2.2.2.1
theorem Ew {x:NetD} {list:List PkD} (hc:classesOk x.1.1 x.1.2.1 x.1.2.2 x.2.1.1 x.2.1.2) (h:Sent (stat x) list) (g:GoodN x list):GoodN (stepN x) list:=by
 have tk:tabsOk (stat x):=To (x:=stat x) hc
 have hg:∀a∈allN x,a.1<nC x∧a.2.1<5∧a.2.2<10∧reqN x a.1 a.2.2 a.2.1:=fun a ha=>by
  obtain ⟨h1,h2⟩:=Zb ha
  have:=Sh x
  exact ⟨by omega,h2⟩
 have k1:Good (stat x) list ((allN x).foldl (bothS x) x.2.2.1) ((allN x).foldl (ownS x) x.2.2.2.1) ((allN x).foldl (arrS x) x.2.2.2.2.2.2.1) x.2.2.2.2.2.1:=
  Good.grants h tk (allN x) g (Sx x) (U9 x _) fun a ha=>⟨hg a ha,Mp (hg a ha).2.2.2,rfl,rfl⟩
 rw [Ea x (allN x) x.2.2.1 (Sx x) fun a ha=>Mp (hg a ha).2.2.2] at k1
 exact Good.enters h (enterN x) k1 (T7 x) fun k hk=>by
  obtain ⟨h1,h2⟩:=Xq hk
  have:=Sh x
  exact ⟨by omega,h2.1,rfl⟩
theorem Li {x:NetD} {list:List PkD} (hc:classesOk x.1.1 x.1.2.1 x.1.2.2 x.2.1.1 x.2.1.2) (h:Sent (stat x) list) (g:GoodN x list):∀k,(stat (runN x k)=stat x)∧GoodN (runN x k) list
 | 0=>⟨rfl,g⟩
 | k+1=>by
  obtain ⟨e,ih⟩:=Li hc h g k
  have e1':(stat (runN x k)).1=(stat x).1:=by rw [e]
  have e2':(stat (runN x k)).2.1=(stat x).2.1:=by rw [e]
  have e1:(runN x k).1=x.1:=e1'
  have e2:(runN x k).2.1=x.2.1:=e2'
  refine ⟨e,Ew (x:=runN x k) (by rw [e1,e2];exact hc) (by rw [e];exact h) ih⟩
end Go.Proofs.YtdhjhjbfplajfaaGreat.V
set_option linter.all false
namespace Go.Proofs.YtdhjhjbfplajfaaGreat.V
open Go Go.VM
section
variable {w h r:Int} {b:List Int} (H:rootOk w h b r)
include H
theorem Cd {v:Int} (hv:isN w h v):rd (parents w h b r) v=par w h b (depths w h b r) v:=by
 have hl:=(Wp H).1
 have hv2:=hv.2
 exact Pa hv.1 (by omega)
theorem xi {v:Int} (hv:isN w h v) (h0:rd (depths w h b r) v≤0):rd (parents w h b r) v=-1:=by
 rw [Cd H hv];unfold par;rw [if_neg (by omega)]
theorem Cx {v:Int} (hv:isN w h v) (h0:0<rd (depths w h b r) v):isN w h (rd (parents w h b r) v)∧rd (depths w h b r) (rd (parents w h b r) v)=rd (depths w h b r) v-1:=by
 rw [Cd H hv]
 obtain ⟨p,hp,h2,h3,h4⟩:=Jj H hv h0
 rw [h2];exact ⟨(Wm hp h3).2.1,h4⟩
theorem Iu {v:Int} (hv:isN w h v):anc (parents w h b r) v=v::(if rd (parents w h b r) v=-1 then [] else anc (parents w h b r) (rd (parents w h b r) v)):=by
 have h1:((parents w h b r).length:Int)=cnt w h:=by rw [Xo];exact (Wp H).1
 exact Kf (Vr H) hv.1 (by have:=hv.2;omega)
theorem qi {v:Int} (hv:isN w h v) (h0:rd (depths w h b r) v≤0):anc (parents w h b r) v=[v]:=by
 rw [Iu H hv,xi H hv h0,if_pos rfl]
theorem Tt:∀(n:Nat) {v:Int},isN w h v→rd (depths w h b r) v=n→(anc (parents w h b r) v).length=n+1∧r∈anc (parents w h b r) v∧∀(k:Nat) (hk:k<(anc (parents w h b r) v).length),isN w h (anc (parents w h b r) v)[k]∧rd (depths w h b r) (anc (parents w h b r) v)[k]=n-k:=by
 intro n
 induction n with
 | zero=>
  intro v hv h0
  have hroot:=(Wv H).zero.2 v hv (by omega)
  have e:=qi H hv (by omega)
  rw [e]
  refine ⟨rfl,by simp [hroot],fun k hk=>?_⟩
  simp at hk
  subst hk
  exact ⟨hv,by simpa using h0⟩
 | succ n ih=>
  intro v hv h0
  obtain ⟨h1,h2⟩:=Cx H hv (by omega)
  have e:=Iu H hv
  rw [if_neg (by have:=h1.1;omega)] at e
  obtain ⟨i1,i2,i3⟩:=ih h1 (by omega)
  rw [e]
  refine ⟨by simp [i1],List.mem_cons_of_mem _ i2,fun k hk=>?_⟩
  cases k with
  | zero=>exact ⟨hv,by simpa using h0⟩
  | succ k=>
   simp only [List.getElem_cons_succ]
   obtain ⟨j1,j2⟩:=i3 k (by simpa using hk)
   exact ⟨j1,by rw [j2];omega⟩
theorem Vu {v:Int} (hv:isN w h v):(anc (parents w h b r) v)[0]? = some v:=by rw [Iu H hv];rfl
theorem way {a c:Int} (ha:isN w h a) (hc:isN w h c) (h0:0≤rd (depths w h b r) a) (h1:0≤rd (depths w h b r) c) :
 ∃(i j:Nat) (hi:i<(anc (parents w h b r) a).length) (hj:j<(anc (parents w h b r) c).length),common (parents w h b r) a c=(anc (parents w h b r) a)[i]∧(anc (parents w h b r) a)[i]=(anc (parents w h b r) c)[j]∧
  treeNodes (parents w h b r) a c=(anc (parents w h b r) a).take (i+1)++((anc (parents w h b r) c).take j).reverse∧isN w h (anc (parents w h b r) a)[i]:=by
 obtain ⟨n,hn⟩:=Int.eq_ofNat_of_zero_le h0
 obtain ⟨m,hm⟩:=Int.eq_ofNat_of_zero_le h1
 obtain ⟨a1,a2,a3⟩:=Tt H n ha hn
 obtain ⟨c1,c2,c3⟩:=Tt H m hc hm
 have hpos:0≤common (parents w h b r) a c:=by
  unfold common
  cases hf:(anc (parents w h b r) a).find? (fun x=>decide (x∈anc (parents w h b r) c)) with
  | none=>
   have:=List.find?_eq_none.1 hf r a2
   simp [c2] at this
  | some u=>
   have h1:=List.mem_of_find?_eq_some hf
   obtain ⟨k,hk,rfl⟩:=List.mem_iff_getElem.1 h1
   exact (a3 k hk).1.1
 obtain ⟨m1,m2⟩:=Zc hpos
 have hi:=List.idxOf_lt_length_iff.2 m1
 have hj:=List.idxOf_lt_length_iff.2 m2
 have e1:=List.getElem_idxOf hi
 have e2:=List.getElem_idxOf hj
 refine ⟨_,_,hi,hj,e1.symm,e1.trans e2.symm,?_,(a3 _ hi).1⟩
 unfold treeNodes
 rw [if_neg (by omega)]
end
end Go.Proofs.YtdhjhjbfplajfaaGreat.V
set_option linter.all false
namespace Go.Proofs.YtdhjhjbfplajfaaGreat.V
open Go Go.VM Go.Proofs
set_option maxRecDepth 10000
variable {frz:Nat} {H:Heap}
theorem Vd {w h:Int} {b:List Int} {r:Int} {a:Nat} (ha:a<(cnt w h).toNat):portOf w h (treeTab w h b r) a a=4:=by
 have hc:=Qg w h
 have hlt:a*(cnt w h).toNat+a<(cnt w h).toNat*(cnt w h).toNat:=by
  have:=Nat.mul_le_mul_right (cnt w h).toNat (show a+1≤(cnt w h).toNat by omega)
  rw [Nat.succ_mul] at this;omega
 have e:(a:Int)*cnt w h+a=((a*(cnt w h).toNat+a:Nat):Int):=by
  rw [Int.natCast_add,Int.natCast_mul,Int.toNat_of_nonneg hc.1]
 unfold portOf
 rw [e,Yw (by simpa [treeTab] using hlt)]
 have hdv:(a*(cnt w h).toNat+a)/(cnt w h).toNat=a:=by rw [Nat.mul_comm,Nat.mul_add_div (by omega),Nat.div_eq_of_lt ha];omega
 have hmd:(a*(cnt w h).toNat+a)%(cnt w h).toNat=a:=by rw [Nat.mul_comm,Nat.mul_add_mod,Nat.mod_eq_of_lt ha]
 simp only [treeTab,List.getElem_map,List.getElem_range,treePort]
 rw [hdv,hmd,if_pos rfl]
theorem P0 {w h:Int} {b:List Int} {r:Int} (hm:meshOk w h b):tsized w h b (treeTab w h b r):=by
 have hc:=Qg w h
 refine ⟨hm,?_⟩
 simp only [treeTab,List.length_map,List.length_range]
 rw [Int.natCast_mul,Int.toNat_of_nonneg hc.1]
end Go.Proofs.YtdhjhjbfplajfaaGreat.V
set_option linter.all false
namespace Go.Proofs.YtdhjhjbfplajfaaGreat.V
open Go Go.VM
set_option maxRecDepth 100000
section
variable {w h r:Int} {b:List Int} (H:rootOk w h b r)
include H
end
def geo2B:Bool:=(List.range 5).all fun w=>(List.range 5).all fun h=>(List.range 16).all fun a=>(List.range 4).all fun p=>
 decide (next (w:Int) h a p<0) || (List.range 4).all fun q=>decide (p=q) || decide (next (w:Int) h a p≠next w h a q)
theorem Ao:geo2B=true:=by decide +kernel
theorem Ee {w h a:Int} {p q:Nat} (hp:p<4) (hq:q<4) (ha:isN w h a) (hu:0≤next w h a p) (e:next w h a p=next w h a q):p=q:=by
 obtain ⟨⟨⟨a1,a2⟩,b1,b2⟩,c1,c2,c3⟩:=Yh ha
 have h0:=Ao
 unfold geo2B at h0
 rw [List.all_eq_true] at h0
 have h1:=h0 w.toNat (by simp;omega)
 rw [List.all_eq_true] at h1
 have h2:=h1 h.toNat (by simp;omega)
 rw [List.all_eq_true] at h2
 have h3:=h2 a.toNat (by simp;omega)
 rw [List.all_eq_true] at h3
 have h4:=h3 p (by simp;omega)
 have e1:(w.toNat:Int)=w:=by omega
 have e2:(h.toNat:Int)=h:=by omega
 have e3:(a.toNat:Int)=a:=by omega
 rw [e1,e2,e3] at h4
 simp only [Bool.or_eq_true,decide_eq_true_eq] at h4
 rcases h4 with h4|h4
 ·omega
 ·rw [List.all_eq_true] at h4
  have h5:=h4 q (by simp;omega)
  simp only [Bool.or_eq_true,decide_eq_true_eq] at h5
  rcases h5 with h5|h5
  ·exact h5
  ·exact absurd e h5
theorem Ih {w h a u:Int} {p:Nat} (hp:p<4) (ha:isN w h a) (h0:0≤u) (h1:next w h a p=u):firstPort w h a u=p:=by
 refine Vy hp h1 fun q hq e=>?_
 have:=Ee (q:=p) (p:=q) (by omega) hp ha (by omega) (e.trans h1.symm)
 omega
theorem Lt:∀(n:Nat) (l:List Int),l.Nodup→(∀x∈l,0≤x∧x<n)→l.length≤n
 | 0,l,_,h=>by
  cases l with
  | nil=>simp
  | cons a l=>have:=h a (List.mem_cons_self ..);omega
 | n+1,l,nd,h=>by
  have ih:=Lt n (l.erase (n:Int)) (nd.erase _) fun x hx=>by
   have h1:=h x (List.mem_of_mem_erase hx)
   have h2:x≠(n:Int):=fun e=>by subst e;exact nd.not_mem_erase hx
   omega
  have:=List.length_erase (a:=(n:Int)) (l:=l)
  split at this<;>omega
theorem Jx (w h:Int) (b T:List Int) (to:Int) (h4:portOf w h T to to=4):∀L F a out,L≤F→(0<L∨out≠[])→itN (nuT w h T to) L a=to→(∀n,n<L→stepOk w h b T (itN (nuT w h T to) n a) to)→walkN w h b T to F a out≠[]
 | 0,F,a,out,_,ho,e,_=>by
  have e:a=to:=e
  subst e
  have ho:=ho.resolve_left (by omega)
  cases F with
  | zero=>unfold walkN;rw [if_pos h4,if_pos rfl];exact ho
  | succ F=>unfold walkN;rw [if_pos h4,if_pos rfl];exact ho
 | L+1,F,a,out,hF,_,e,hs=>by
  have s0:stepOk w h b T a to:=hs 0 (by omega)
  have hne:¬portOf w h T a to=4:=fun k=>by have:=s0.1;unfold inR at this;omega
  cases F with
  | zero=>omega
  | succ F=>
   unfold walkN
   rw [if_neg hne,if_pos s0]
   refine Jx w h b T to h4 L F _ _ (by omega) (.inr (by simp)) ?_ fun n hn=>?_
   ·have:=e;rw [Xj] at this;exact this
   ·have:=hs (n+1) (by omega);rw [Xj] at this;exact this
theorem wv {w h:Int} {b T:List Int} {a to:Int} {L:Nat} (h4:portOf w h T to to=4) (hne:a≠to) (ha:isN w h a) (e:itN (nuT w h T to) L a=to) (hs:∀n,n<L→isN w h (itN (nuT w h T to) n a)∧stepOk w h b T (itN (nuT w h T to) n a) to):walk w h b T a to≠[]:=by
 have hL:0<L:=by
  cases L with
  | zero=>exact absurd e hne
  | succ L=>omega
 generalize hg:nuT w h T to=g at *
 have hne2:∀n,n<L→itN g n a≠to:=fun n hn' e=>by
  have k1:=(hs n hn').2.1
  rw [e,h4] at k1
  unfold inR at k1;omega
 have hinj:∀m n,m<n→n≤L→itN g m a≠itN g n a:=fun m n hm hn' e2=>by
  have e1:itN g (L-n+m) a=itN g (L-n+n) a:=by rw [Vp g m,Vp g n,e2]
  rw [show L-n+n=L by omega,e] at e1
  exact hne2 (L-n+m) (by omega) e1
 have hle:L≤(cnt w h).toNat:=by
  have hc:=Qg w h
  have:=Lt (cnt w h).toNat ((List.range L).map fun n=>itN g n a) ?_ ?_
  ·simpa using this
  ·refine List.pairwise_map.2 ((List.pairwise_lt_range).imp_of_mem fun {m n} hm hn hlt=>?_)
   exact hinj m n hlt (by have:=List.mem_range.1 hn;omega)
  ·intro x hx
   obtain ⟨n,hn,rfl⟩:=List.mem_map.1 hx
   have:=(hs n (List.mem_range.1 hn)).1
   unfold isN at this;omega
 unfold walk
 refine Jx w h b T to h4 L _ a [] hle (.inl hL) (by rw [hg];exact e) fun n hn=>by rw [hg];exact (hs n hn).2
theorem Gd {w h:Int} {b:List Int} {r a c:Int} (ha:isN w h a) (hc:isN w h c) (hne:a≠c):portOf w h (treeTab w h b r) a c=firstPort w h a ((treeNodes (parents w h b r) a c).getD 1 0):=by
 have hcn:=Qg w h
 obtain ⟨x,rfl⟩:=Int.eq_ofNat_of_zero_le ha.1
 obtain ⟨y,rfl⟩:=Int.eq_ofNat_of_zero_le hc.1
 have hx:x<(cnt w h).toNat:=by have:=ha.2;omega
 have hy:y<(cnt w h).toNat:=by have:=hc.2;omega
 have hlt:x*(cnt w h).toNat+y<(cnt w h).toNat*(cnt w h).toNat:=by
  have:=Nat.mul_le_mul_right (cnt w h).toNat (show x+1≤(cnt w h).toNat by omega)
  rw [Nat.succ_mul] at this;omega
 have e:(x:Int)*cnt w h+y=((x*(cnt w h).toNat+y:Nat):Int):=by
  rw [Int.natCast_add,Int.natCast_mul,Int.toNat_of_nonneg hcn.1]
 unfold portOf
 rw [e,Yw (by simpa [treeTab] using hlt)]
 have hdv:(x*(cnt w h).toNat+y)/(cnt w h).toNat=x:=by rw [Nat.mul_comm,Nat.mul_add_div (by omega),Nat.div_eq_of_lt hy];omega
 have hmd:(x*(cnt w h).toNat+y)%(cnt w h).toNat=y:=by rw [Nat.mul_comm,Nat.mul_add_mod,Nat.mod_eq_of_lt hy]
 simp only [treeTab,List.getElem_map,List.getElem_range,treePort]
 rw [hdv,hmd,if_neg (by omega)]
section
variable {w h r:Int} {b:List Int} (hc:conn w h b) (hr:isN w h r)
include hc hr
theorem Ty {a c:Int} (ha:isN w h a) (hcn:isN w h c) (hne:a≠c) :
 (a∉anc (parents w h b r) c∧(treeNodes (parents w h b r) a c).getD 1 0=rd (parents w h b r) a∧a≠r)∨
 ∃j,∃hj:j+1<(anc (parents w h b r) c).length,(anc (parents w h b r) c)[j+1]=a∧(treeNodes (parents w h b r) a c).getD 1 0=(anc (parents w h b r) c)[j]:=by
 have H:rootOk w h b r:=⟨hc.1,hr⟩
 obtain ⟨i,j,hi,hj,e1,e2,e3,e4⟩:=way H ha hcn (Xa hc hr a ha) (Xa hc hr c hcn)
 have dn:=fun {v:Int} (hv:isN w h v)=>(Int.toNat_of_nonneg (Xa hc hr v hv)).symm
 have ea:=Xw hc hr ha
 have a0:(anc (parents w h b r) a)[0]? = some a:=Vu H ha
 have hcom:0≤common (parents w h b r) a c:=by rw [e1];exact e4.1
 obtain ⟨ma,mc⟩:=Zc hcom
 have tn:treeNodes (parents w h b r) a c=(anc (parents w h b r) a).take ((anc (parents w h b r) a).idxOf (common (parents w h b r) a c)+1)++((anc (parents w h b r) c).take ((anc (parents w h b r) c).idxOf (common (parents w h b r) a c))).reverse:=by
  unfold treeNodes;rw [if_neg (by omega)]
 by_cases hm:a∈anc (parents w h b r) c
 ·right
  have ec:common (parents w h b r) a c=a:=by
   unfold common
   rw [ea,List.find?_cons_of_pos (by simpa using hm)];rfl
  have i0:(anc (parents w h b r) a).idxOf a=0:=by rw [ea];simp
  rw [ec,i0] at tn
  have hk:=List.idxOf_lt_length_iff.2 hm
  have vk:=List.getElem_idxOf hk
  have c0:(anc (parents w h b r) c)[0]? = some c:=Vu H hcn
  generalize (anc (parents w h b r) c).idxOf a=k at *
  have k0:k≠0:=fun e=>by
   subst e
   rw [List.getElem?_eq_getElem hk,vk] at c0
   exact hne (by simpa using c0)
  have l1:((anc (parents w h b r) a).take (0+1)).length=1:=by rw [ea];rfl
  refine ⟨k-1,by omega,?_,?_⟩
  ·have:k-1+1=k:=by omega
   simp only [this];exact vk
  ·rw [tn]
   simp only [List.getD_eq_getElem?_getD]
   rw [List.getElem?_append_right (by omega),l1,List.getElem?_reverse (by simp;omega)]
   have e5:((anc (parents w h b r) c).take k).length-1-(1-1)=k-1:=by rw [List.length_take];omega
   rw [e5,List.getElem?_take,if_pos (by omega),List.getElem?_eq_getElem (by omega)];rfl
 ·left
  have hk:=List.idxOf_lt_length_iff.2 ma
  have vk:=List.getElem_idxOf hk
  have hr':=V7 hc hr _ hcn (dn hcn)
  have hne2:common (parents w h b r) a c≠a:=fun e=>hm (e▸mc)
  generalize (anc (parents w h b r) a).idxOf (common (parents w h b r) a c)=k at *
  have k0:k≠0:=fun e=>by
   subst e
   rw [List.getElem?_eq_getElem hk,vk] at a0
   exact hne2 (by simpa using a0)
  refine ⟨hm,?_,fun e=>hm (e▸hr')⟩
  have hp:rd (parents w h b r) a≠-1:=fun e=>by
   rw [e,if_pos rfl] at ea
   rw [ea] at hk;simp at hk;omega
  rw [if_neg hp] at ea
  have hpn:isN w h (rd (parents w h b r) a):=by
   rcases Y7 hc hr ha with ⟨_,h1⟩|⟨p,_,h2,_,h4,_⟩
   ·exact absurd h1 hp
   ·rw [h2];exact h4
  have p0:=Vu H hpn
  rw [tn]
  simp only [List.getD_eq_getElem?_getD]
  rw [List.getElem?_append_left (by rw [List.length_take];omega),List.getElem?_take,if_pos (by omega),ea,List.getElem?_cons_succ,p0];rfl
theorem Tq {a c:Int} (ha:isN w h a) (hcn:isN w h c) (hne:a≠c):stepOk w h b (treeTab w h b r) a c∧nuT w h (treeTab w h b r) c a=(treeNodes (parents w h b r) a c).getD 1 0:=by
 have H:rootOk w h b r:=⟨hc.1,hr⟩
 have dn:=fun {v:Int} (hv:isN w h v)=>(Int.toNat_of_nonneg (Xa hc hr v hv)).symm
 have key:∃p:Nat,p<4∧next w h a p=(treeNodes (parents w h b r) a c).getD 1 0∧link w h b (4*a+p):=by
  rcases Ty hc hr ha hcn hne with ⟨_,h2,h3⟩|⟨j,hj,h2,h3⟩
  ·rcases Y7 hc hr ha with ⟨h1,_⟩|⟨p,hp,h4,h5,_⟩
   ·exact absurd h1 h3
   ·exact ⟨p,hp,by rw [h2,h4],h5⟩
  ·obtain ⟨_,_,p,hp,g1,g2⟩:=Mq hc hr _ hcn (dn hcn) j hj
   obtain ⟨q,hq,g3,g4⟩:=Te hp g2
   rw [g1,h2] at g3 g4
   exact ⟨q,hq,by rw [h3];exact g4,g3⟩
 obtain ⟨p,hp,h1,h2⟩:=key
 obtain ⟨_,hu,_⟩:=Wm hp h2
 have ep:portOf w h (treeTab w h b r) a c=p:=by
  rw [Gd ha hcn hne,← h1]
  exact Ih hp ha hu.1 rfl
 refine ⟨?_,?_⟩
 ·unfold stepOk
  rw [ep]
  exact ⟨⟨by omega,by omega⟩,h2.1⟩
 ·unfold nuT
  rw [ep,h1]
theorem Nm {c:Int} (hcn:isN w h c):∀(j:Nat) (hj:j<(anc (parents w h b r) c).length),∃L,itN (nuT w h (treeTab w h b r) c) L (anc (parents w h b r) c)[j]=c∧∀n,n<L→isN w h (itN (nuT w h (treeTab w h b r) c) n (anc (parents w h b r) c)[j])∧itN (nuT w h (treeTab w h b r) c) n (anc (parents w h b r) c)[j]≠c:=by
 have H:rootOk w h b r:=⟨hc.1,hr⟩
 have dn:=fun {v:Int} (hv:isN w h v)=>(Int.toNat_of_nonneg (Xa hc hr v hv)).symm
 obtain ⟨c1,c2,c3⟩:=Tt H _ hcn (dn hcn)
 intro j
 induction j with
 | zero=>
  intro hj
  have c0:(anc (parents w h b r) c)[0]? = some c:=Vu H hcn
  rw [List.getElem?_eq_getElem hj] at c0
  exact ⟨0,Option.some.inj c0,fun n hn=>by omega⟩
 | succ j ih=>
  intro hj
  obtain ⟨L,i1,i2⟩:=ih (by omega)
  obtain ⟨k1,k2⟩:=c3 (j+1) hj
  have hne:(anc (parents w h b r) c)[j+1]≠c:=fun e=>by rw [e] at k2;have:=dn hcn;omega
  have st:nuT w h (treeTab w h b r) c (anc (parents w h b r) c)[j+1]=(anc (parents w h b r) c)[j]:=by
   rw [(Tq hc hr k1 hcn hne).2]
   rcases Ty hc hr k1 hcn hne with ⟨h1,_,_⟩|⟨j',hj',h2,h3⟩
   ·exact absurd (List.getElem_mem hj) h1
   ·rw [h3]
    have k3:=(c3 (j'+1) hj').2
    rw [h2,k2] at k3
    have:j'=j:=by omega
    subst this;rfl
  refine ⟨L+1,by rw [Xj,st];exact i1,fun n hn=>?_⟩
  cases n with
  | zero=>exact ⟨k1,hne⟩
  | succ n=>rw [Xj,st];exact i2 n (by omega)
theorem xm {c:Int} (hcn:isN w h c):∀(m:Nat) {a:Int},isN w h a→rd (depths w h b r) a=m→∃L,itN (nuT w h (treeTab w h b r) c) L a=c∧∀n,n<L→isN w h (itN (nuT w h (treeTab w h b r) c) n a)∧itN (nuT w h (treeTab w h b r) c) n a≠c:=by
 have H:rootOk w h b r:=⟨hc.1,hr⟩
 have dn:=fun {v:Int} (hv:isN w h v)=>(Int.toNat_of_nonneg (Xa hc hr v hv)).symm
 intro m
 induction m with
 | zero=>
  intro a ha hd
  have hroot:=(Wv H).zero.2 a ha (by omega)
  obtain ⟨k,hk,e⟩:=List.mem_iff_getElem.1 (V7 hc hr _ hcn (dn hcn))
  have:=Nm hc hr hcn k hk
  rw [e] at this
  rw [hroot]
  exact this
 | succ m ih=>
  intro a ha hd
  by_cases hne:a=c
  ·exact ⟨0,hne,fun n hn=>by omega⟩
  rcases Ty hc hr ha hcn hne with ⟨h1,h2,h3⟩|⟨j,hj,h2,h3⟩
  ·rcases Y7 hc hr ha with ⟨h4,_⟩|⟨p,hp,h4,h5,h6,h7⟩
   ·exact absurd h4 h3
   ·have st:nuT w h (treeTab w h b r) c a=next w h a p:=by
     rw [(Tq hc hr ha hcn hne).2,h2,h4]
    obtain ⟨L,i1,i2⟩:=ih h6 (by omega)
    refine ⟨L+1,by rw [Xj,st];exact i1,fun n hn=>?_⟩
    cases n with
    | zero=>exact ⟨ha,hne⟩
    | succ n=>rw [Xj,st];exact i2 n (by omega)
  ·have:=Nm hc hr hcn (j+1) hj
   rw [h2] at this
   exact this
theorem Fx:tableOk w h b (treeTab w h b r):=by
 have dn:=fun {v:Int} (hv:isN w h v)=>(Int.toNat_of_nonneg (Xa hc hr v hv)).symm
 have hcn:=Qg w h
 refine ⟨P0 hc.1,fun a ha c hcl=>⟨fun _=>Vd ha,fun hne=>?_⟩⟩
 have ha':isN w h (a:Int):=⟨by omega,by omega⟩
 have hc':isN w h (c:Int):=⟨by omega,by omega⟩
 have hne':(a:Int)≠c:=by omega
 obtain ⟨L,h1,h2⟩:=xm hc hr hc' _ ha' (dn ha')
 exact wv (Vd hcl) hne' ha' h1 fun n hn=>⟨(h2 n hn).1,(Tq hc hr (h2 n hn).1 hc' (h2 n hn).2).1⟩
end
theorem Ca {w h:Int} {b:List Int} (hk:repairOk w h b=true):classesOk w h b (repair w h b).1 (repair w h b).2:=by
 have hk:treeOk w h b (bestRoot w h b):=by simpa [repairOk] using hk
 have e:treeTable w h b (bestRoot w h b)=treeTab w h b (bestRoot w h b):=if_pos hk
 unfold repair
 rw [e]
 exact ⟨Fx hk.1 hk.2,Fx hk.1 hk.2⟩
end Go.Proofs.YtdhjhjbfplajfaaGreat.V
set_option linter.all false
namespace Go.Proofs.YtdhjhjbfplajfaaGreat.V
open Go Go.VM Go.Proofs
set_option maxRecDepth 10000
theorem Z6 (l m:List FlitD):tailIds (l++m)=tailIds l++tailIds m:=by simp [tailIds]
def firstFl (p:PkD) (n:Nat):List FlitD:=(List.range n).map fun i:Nat=>(p.1,p.2.2.1,p.2.2.2.1,decide ((i:Int)=0),false)
theorem Me (p:PkD) (n:Nat):firstFl p (n+1)=firstFl p n++[(p.1,p.2.2.1,p.2.2.2.1,decide ((n:Int)=0),false)]:=by
 unfold firstFl;rw [List.range_succ,List.map_append];rfl
theorem Rv {w h:Int} {p:PkD} (g:packetOk w h p):∃n:Nat,flitsOf w h p=firstFl p n++[(p.1,p.2.2.1,p.2.2.2.1,decide ((n:Int)=0),true)]:=by
 have h5:=g.2.2.2.2.2
 unfold inR at h5
 obtain ⟨n,hn⟩:∃n:Nat,p.2.2.2.2.toNat=n+1:=⟨p.2.2.2.2.toNat-1,by omega⟩
 have hp:p.2.2.2.2=(n:Int)+1:=by omega
 refine ⟨n,?_⟩
 unfold flitsOf
 rw [if_pos g,hn,List.range_succ,List.map_append,hp]
 congr 1
 ·unfold firstFl
  refine List.map_congr_left fun i hi=>?_
  have:=List.mem_range.1 hi
  have e:decide ((i:Int)=(n:Int)+1-1)=false:=by rw [decide_eq_false_iff_not];omega
  rw [e]
 ·simp
theorem T9 (p:PkD):∀n,Str none (firstFl p n) (if n=0 then none else some (p.1,p.2.2.1,p.2.2.2.1))
 | 0=>rfl
 | n+1=>by
  rw [Me,if_neg (by omega)]
  have:=(T9 p n).snoc (f:=(p.1,p.2.2.1,p.2.2.2.1,decide ((n:Int)=0),false)) ?_
  ·exact this
  ·by_cases e:n=0
   ·rw [if_pos e];exact .inl ⟨by subst e;simp,rfl⟩
   ·rw [if_neg e];exact .inr ⟨by simp;omega,rfl⟩
theorem Sc {w h:Int} {p:PkD} (g:packetOk w h p):Str none (flitsOf w h p) none:=by
 obtain ⟨n,e⟩:=Rv g
 rw [e]
 refine (T9 p n).snoc (f:=(p.1,p.2.2.1,p.2.2.2.1,decide ((n:Int)=0),true)) ?_
 by_cases e:n=0
 ·rw [if_pos e];exact .inl ⟨by subst e;simp,rfl⟩
 ·rw [if_neg e];exact .inr ⟨by simp;omega,rfl⟩
theorem Ok {w h:Int} {p:PkD} (g:packetOk w h p):tailIds (flitsOf w h p)=[p.1]:=by
 obtain ⟨n,e⟩:=Rv g
 have h1:tailIds (firstFl p n)=[]:=by
  unfold tailIds
  rw [List.filter_eq_nil_iff.2]
  ·rfl
  ·intro y hy
   unfold firstFl at hy
   obtain ⟨i,_,rfl⟩:=List.mem_map.1 hy
   simp [isTail]
 rw [e,Z6,h1]
 rfl
theorem Sa {w h:Int} {p:PkD} {y:FlitD} (hy:y∈flitsOf w h p):p.1=y.1∧p.2.2.1=y.2.1∧p.2.2.2.1=y.2.2.1:=by
 unfold flitsOf at hy
 split at hy
 ·obtain ⟨i,_,rfl⟩:=List.mem_map.1 hy;exact ⟨rfl,rfl,rfl⟩
 ·simp at hy
theorem Ig {x:NetD} {list:List PkD} {s t c:Nat} (h:∀p∈list,packetOk x.1.1 x.1.2.1 p):tailIds (flowFl x list s t c)=sentIds list s t c:=by
 unfold flowFl sentIds
 have h':∀p∈list.filter (fun p=>decide (isFlow s t c p)),packetOk x.1.1 x.1.2.1 p:=fun p hp=>h p (List.mem_filter.1 hp).1
 generalize list.filter (fun p=>decide (isFlow s t c p))=l at *
 induction l with
 | nil=>rfl
 | cons p l ih=>
  rw [List.flatMap_cons,Z6,Ok (h' p (List.mem_cons_self ..)),ih fun q hq=>h' q (List.mem_cons_of_mem _ hq)]
  rfl
theorem Bl {x:NetD} {list:List PkD} {s t c:Nat} (h:∀p∈list,packetOk x.1.1 x.1.2.1 p):Str none (flowFl x list s t c) none:=by
 unfold flowFl
 have h':∀p∈list.filter (fun p=>decide (isFlow s t c p)),packetOk x.1.1 x.1.2.1 p:=fun p hp=>h p (List.mem_filter.1 hp).1
 generalize list.filter (fun p=>decide (isFlow s t c p))=l at *
 induction l with
 | nil=>rfl
 | cons p l ih=>
  rw [List.flatMap_cons]
  exact (Sc (h' p (List.mem_cons_self ..))).app (ih fun q hq=>h' q (List.mem_cons_of_mem _ hq))
theorem L9 {A:SSD} {list:List PkD} (u:Uniq list) {t:Nat} (gA:∀y∈A.getD t [],Gen list y) (s c:Nat):((A.getD t []).filter fun f=>f.2.2.1=(c:Int)).filter (inF list s t c)=(A.getD t []).filter (inF list s t c):=by
 rw [List.filter_filter]
 refine List.filter_congr fun y hy=>?_
 by_cases e:inF list s t c y=true
 ·rw [e];simp [(Ii u (gA y hy) e).2]
 ·have e:inF list s t c y=false:=by simpa using e
  rw [e];rfl
theorem Kz (l:List FlitD) (list:List PkD) (s t c:Nat):among (tailIds l) list s t c=tailIds (l.filter (inF list s t c)):=by
 unfold among tailIds
 rw [List.filter_map,List.filter_filter,List.filter_filter]
 congr 1
 refine List.filter_congr fun y _=>?_
 exact Bool.and_comm _ _
theorem Ag {x:NetD} {list:List PkD} (hn:netOk x) (h:Sent (stat x) list) (g:GoodN x list):keepsOk x list:=by
 refine ⟨hn,fun t ht c hc s hs=>?_⟩
 have hA:x.2.2.2.2.2.2.1.length=nC x:=g.lA
 rw [hA] at ht hs
 obtain ⟨st,fr,sr,w⟩:=g.wf
 have w7:=w.w7 t c ht hc
 obtain ⟨R,L,rt⟩:=Lh (x:=stat x) (To (x:=stat x) hn.1) hs ht hc
 have z:=(g.fl s t c R L hs ht hc rt).z1
 unfold flowOk arrIds
 rw [Jp _ _ w7,Kz,L9 h.u fun y hy=>(g.gA t y hy).1,← Ig (x:=stat x) h.ok,← z,Z6]
 unfold isPre
 rw [List.take_left]
theorem Good.still {x:NetD} {list:List PkD} {B:SSD} {O:List Int} {A S:SSD} (lB:B.length=10*nC x) (lO:O.length=10*nC x) (lA:A.length=nC x) (lS:S.length=nC x) (hB:∀j,B.getD j []=[]) (hS:∀j,S.getD j []=[]) (hO:∀o∈O,o=-1)
 (gA:∀(t:Nat) y,y∈A.getD t []→Gen list y∧y.2.1=(t:Int)) (w7:∀t c:Nat,t<nC x→c<2→Str none ((A.getD t []).filter fun f=>f.2.2.1=(c:Int)) none)
 (zz:∀s t c:Nat,s<nC x→t<nC x→c<2→(A.getD t []).filter (inF list s t c)=flowFl x list s t c):Good x list B O A S:=by
 have eO:∀a p c,a<nC x→p<5→c<2→O.getD (outAt a p c) 0=-1:=fun a p c ha hp hc=>by
  have hl:outAt a p c<O.length:=by unfold outAt;omega
  rw [List.getD_eq_getElem?_getD,List.getElem?_eq_getElem hl]
  exact hO _ (List.getElem_mem hl)
 refine ⟨lB,lO,lA,lS,fun j y hy=>?_,fun j y hy=>?_,fun j y hy=>?_,gA,fun j hne=>absurd (hB j) hne,⟨fun _=>none,fun _=>none,fun _=>none,fun _ _ _ _ _ _ _=>rfl,fun a p c q h1 h2 h3 h4 h5=>?_,fun a q c k h1 h2 h3 h4=>?_,fun a p c h1 h2 h3 h4=>?_,fun k c h1 h2=>?_,fun k h1=>?_,w7⟩,fun s t c R L h1 h2 h3 rt=>⟨?_,fun j y hy=>?_,fun k y hy=>?_⟩⟩
 ·rw [hB] at hy;simp at hy
 ·rw [hB] at hy;simp at hy
 ·rw [hS] at hy;simp at hy
 ·rw [eO a p c h1 h2 h3] at h5;omega
 ·simp at h4
 ·rw [hB];rfl
 ·rw [hB];rfl
 ·rw [hS];rfl
 ·have ec:∀L,cat (fun n=>(B.getD (R n) []).filter (inF list s t c)) L=[]:=fun L=>by
   induction L with
   | zero=>show (B.getD (R 0) []).filter _=[];rw [hB];rfl
   | succ L ih=>show (B.getD (R (L+1)) []).filter _++cat _ L=[];rw [hB,ih];rfl
  rw [ec,hS,zz s t c h1 h2 h3]
  simp
 ·rw [hB] at hy;simp at hy
 ·rw [hS] at hy;simp at hy
theorem Bi {x:NetD} {list:List PkD} (hn:netOk x) (hi:idle x) (h:Sent (stat x) list) (g:GoodN x list) :
 (∀s t c:Nat,s<nC x→t<nC x→c<2→(x.2.2.2.2.2.2.1.getD t []).filter (inF list s t c)=flowFl x list s t c)∧∀t c:Nat,t<nC x→c<2→Str none ((x.2.2.2.2.2.2.1.getD t []).filter fun f=>f.2.2.1=(c:Int)) none:=by
 have hB:=Zd hi.1
 have hS:=Zd hi.2
 have zz:∀s t c:Nat,s<nC x→t<nC x→c<2→(x.2.2.2.2.2.2.1.getD t []).filter (inF list s t c)=flowFl x list s t c:=fun s t c hs ht hc=>by
  obtain ⟨R,L,rt⟩:=Lh (x:=stat x) (To (x:=stat x) hn.1) hs ht hc
  have z:=(g.fl s t c R L hs ht hc rt).z1
  have ec:∀L,cat (fun n=>(x.2.2.1.getD (R n) []).filter (inF list s t c)) L=[]:=fun L=>by
   induction L with
   | zero=>show (x.2.2.1.getD (R 0) []).filter _=[];rw [hB];rfl
   | succ L ih=>show (x.2.2.1.getD (R (L+1)) []).filter _++cat _ L=[];rw [hB,ih];rfl
  rw [ec,hS] at z
  simp at z
  exact z
 refine ⟨zz,fun t c ht hc=>?_⟩
 obtain ⟨st,fr,sr,w⟩:=g.wf
 have w7:=w.w7 t c ht hc
 generalize hl:((x.2.2.2.2.2.2.1.getD t []).filter fun f=>f.2.2.1=(c:Int))=l at *
 cases hu:st (outAt t 4 c) with
 | none=>rw [hu] at w7;exact w7
 | some k=>
  exfalso
  rw [hu] at w7
  have hne:l≠[]:=fun e=>by rw [e] at w7;have:(none:Option Key)=some k:=w7;simp at this
  obtain ⟨m,y,e⟩:∃m y,l=m++[y]:=⟨l.dropLast,l.getLast hne,(List.dropLast_concat_getLast hne).symm⟩
  rw [e] at w7
  obtain ⟨_,_,_,ek⟩:=w7.unsnoc
  have nt:=(Sz ek.symm).1
  have hy:y∈x.2.2.2.2.2.2.1.getD t []∧y.2.2.1=(c:Int):=by
   have:y∈l:=by rw [e];simp
   rw [← hl] at this
   simpa using List.mem_filter.1 this
  obtain ⟨⟨p,hp,p1,p2,p3⟩,p4⟩:=g.gA t y hy.1
  obtain ⟨_,⟨q1,q2⟩,_,_⟩:=h.ok p hp
  have hnn:=Sh x
  have q2':p.2.1<cnt x.1.1 x.1.2.1:=q2
  have es:((p.2.1.toNat:Nat):Int)=p.2.1:=by omega
  have hF:inF list p.2.1.toNat t c y=true:=by
   unfold inF
   rw [decide_eq_true_eq]
   exact ⟨p,hp,p1,by rw [es],by rw [p2,p4],by rw [p3,hy.2]⟩
  have z:=zz p.2.1.toNat t c (by omega) ht hc
  have ea:=L9 h.u (fun y hy=>(g.gA t y hy).1) p.2.1.toNat c
  rw [hl,e,List.filter_append,List.filter_cons_of_pos hF,z] at ea
  have sf:=Bl (x:=stat x) (s:=p.2.1.toNat) (t:=t) (c:=c) h.ok
  have sf':Str none (flowFl x list p.2.1.toNat t c) none:=sf
  rw [← ea] at sf'
  obtain ⟨_,_,_,ek2⟩:=sf'.unsnoc
  rw [← ek] at ek2
  simp at ek2
theorem Gk {x:NetD} {list:List PkD} {m:MeshD} {t:ClassesD} (hn:netOk x) (hi:idle x) (hm:m.1=x.1.1∧m.2.1=x.1.2.1) (h:Sent (stat x) list) (g:GoodN x list):GoodN (fresh x m t) list:=by
 obtain ⟨zz,w7⟩:=Bi hn hi h g
 have en:nC (stat (fresh x m t))=nC x:=by show (cnt m.1 m.2.1).toNat=(cnt x.1.1 x.1.2.1).toNat;rw [hm.1,hm.2]
 have lB:x.2.2.1.length=10*nC x:=g.lB
 have lO:x.2.2.2.1.length=10*nC x:=g.lO
 have lA:x.2.2.2.2.2.2.1.length=nC x:=g.lA
 have lS:x.2.2.2.2.2.1.length=nC x:=g.lS
 refine Good.still ?_ ?_ ?_ ?_ (Zd hi.1) (Zd hi.2) (fun o ho=>List.eq_of_mem_replicate ho) g.gA ?_ ?_
 ·rw [en];exact lB
 ·rw [en];show (List.replicate _ _).length=_;rw [List.length_replicate];exact lO
 ·rw [en];exact lA
 ·rw [en];exact lS
 ·intro t' c h1 h2;rw [en] at h1;exact w7 t' c h1 h2
 ·intro s t' c h1 h2 h3
  rw [en] at h1 h2
  have:=zz s t' c h1 h2 h3
  have e:flowFl (stat (fresh x m t)) list s t' c=flowFl x list s t' c:=by
   unfold flowFl
   show List.flatMap (flitsOf m.1 m.2.1) _=_
   rw [hm.1,hm.2]
  rw [e];exact this
theorem S5 {x:NetD} {list:List PkD} (h:sentOk x.1.1 x.1.2.1 list):Sent (stat x) list:=by
 have at':∀p∈list,∃i,i<list.length∧list.getD i pk0=p∧p.1=(i:Int)+1∧packetOk x.1.1 x.1.2.1 p:=fun p hp=>by
  obtain ⟨i,hi,rfl⟩:=List.mem_iff_getElem.1 hp
  obtain ⟨h1,h2⟩:=h i hi
  have e:list.getD i pk0=list[i]:=by simp [List.getD_eq_getElem?_getD,hi]
  rw [e] at h1 h2
  exact ⟨i,hi,e,h2,h1⟩
 refine ⟨fun p hp q hq e=>?_,fun p hp=>?_⟩
 ·obtain ⟨i,hi,e1,e2,_⟩:=at' p hp
  obtain ⟨j,hj,f1,f2,_⟩:=at' q hq
  have:i=j:=by omega
  subst this
  exact e1.symm.trans f1
 ·obtain ⟨_,_,_,_,k⟩:=at' p hp;exact k
theorem Ab {w h:Int} {list:List PkD} (k:sentOk w h list):∀p∈list,p.1≤list.length:=fun p hp=>by
 obtain ⟨i,hi,rfl⟩:=List.mem_iff_getElem.1 hp
 have h2:=(k i hi).2
 have e:list.getD i pk0=list[i]:=by simp [List.getD_eq_getElem?_getD,hi]
 rw [e] at h2;omega
theorem D1 {x:NetD} {list:List PkD} {p:PkD} (hn:netOk x) (hs:sentOk x.1.1 x.1.2.1 list) (hp:packetOk x.1.1 x.1.2.1 p) (hid:p.1=(list.length:Int)+1) (g:GoodN x list):GoodN (sendNet x p) (list++[p]):=by
 have hS:=S5 hs
 have ids:=Ab hs
 have hnn:=Sh x
 have hp0:=hp
 obtain ⟨_,⟨q1,q2⟩,_,_,q3,_⟩:=hp
 have hk:p.2.1.toNat<nC x:=by omega
 have gen:∀y,Gen list y→Gen (list++[p]) y:=fun y ⟨q,hq,e⟩=>⟨q,List.mem_append_left _ hq,e⟩
 have genp:∀y,y∈flitsOf x.1.1 x.1.2.1 p→Gen (list++[p]) y:=fun y hy=>⟨p,by simp,Sa hy⟩
 have inO:∀s t c y,Gen list y→inF (list++[p]) s t c y=inF list s t c y:=fun s t c y ⟨q,hq,e1,_⟩=>by
  unfold inF
  congr 1
  apply propext
  constructor
  ·rintro ⟨r,hr,r1,r2⟩
   rcases List.mem_append.1 hr with hr|hr
   ·exact ⟨r,hr,r1,r2⟩
   ·rw [List.mem_singleton.1 hr] at r1
    have:=ids q hq
    omega
  ·rintro ⟨r,hr,r1,r2⟩
   exact ⟨r,List.mem_append_left _ hr,r1,r2⟩
 have inP:∀(s t c:Nat) y,y∈flitsOf x.1.1 x.1.2.1 p→inF (list++[p]) s t c y=decide (isFlow s t c p):=fun s t c y hy=>by
  obtain ⟨e1,_,_⟩:=Sa hy
  unfold inF
  congr 1
  apply propext
  constructor
  ·rintro ⟨r,hr,r1,r2⟩
   rcases List.mem_append.1 hr with hr|hr
   ·have:=ids r hr;omega
   ·rw [← List.mem_singleton.1 hr];exact r2
  ·intro r;exact ⟨p,by simp,e1,r⟩
 have lS:x.2.2.2.2.2.1.length=nC x:=g.lS
 have eS:(sendNet x p).2.2.2.2.2.1=x.2.2.2.2.2.1.set p.2.1.toNat (x.2.2.2.2.2.1.getD p.2.1.toNat []++flitsOf x.1.1 x.1.2.1 p):=rfl
 have at1:(x.2.2.2.2.2.1.set p.2.1.toNat (x.2.2.2.2.2.1.getD p.2.1.toNat []++flitsOf x.1.1 x.1.2.1 p)).getD p.2.1.toNat []=x.2.2.2.2.2.1.getD p.2.1.toNat []++flitsOf x.1.1 x.1.2.1 p:=by
  rw [List.getD_eq_getElem?_getD,List.getElem?_set_self (by omega)];rfl
 have at2:∀k,k≠p.2.1.toNat→(x.2.2.2.2.2.1.set p.2.1.toNat (x.2.2.2.2.2.1.getD p.2.1.toNat []++flitsOf x.1.1 x.1.2.1 p)).getD k []=x.2.2.2.2.2.1.getD k []:=fun k hne=>by
  simp only [List.getD_eq_getElem?_getD]
  rw [List.getElem?_set_ne (fun e=>hne e.symm)]
 obtain ⟨st,fr,sr,w⟩:=g.wf
 show Good (stat x) (list++[p]) x.2.2.1 x.2.2.2.1 x.2.2.2.2.2.2.1 (x.2.2.2.2.2.1.set p.2.1.toNat (x.2.2.2.2.2.1.getD p.2.1.toNat []++flitsOf x.1.1 x.1.2.1 p))
 generalize x.2.2.2.2.2.1.set p.2.1.toNat (x.2.2.2.2.2.1.getD p.2.1.toNat []++flitsOf x.1.1 x.1.2.1 p)=S' at *
 have lS':S'.length=nC x:=by
  have:=congrArg List.length eS
  unfold sendNet withSrc at this
  simp at this
  omega
 refine ⟨g.lB,g.lO,g.lA,lS',g.cl,fun j y hy=>gen y (g.gB j y hy),fun j y hy=>?_,fun t y hy=>⟨gen y (g.gA t y hy).1,(g.gA t y hy).2⟩,g.rc,⟨st,fr,sr,w.o1,w.o2,w.o3,w.w4,w.w5,fun k hk'=>?_,w.w7⟩,fun s t c R L h1 h2 h3 rt=>?_⟩
 ·by_cases e:j=p.2.1.toNat
  ·subst e
   rw [at1] at hy
   rcases List.mem_append.1 hy with hy|hy
   ·exact gen y (g.gS _ y hy)
   ·exact genp y hy
  ·rw [at2 j e] at hy;exact gen y (g.gS _ y hy)
 ·by_cases e:k=p.2.1.toNat
  ·subst e
   rw [at1]
   exact (w.w6 _ hk').app (Sc hp0)
  ·rw [at2 k e];exact w.w6 k hk'
 ·obtain ⟨z1,z2,z3⟩:=g.fl s t c R L h1 h2 h3 rt
  have eA:(x.2.2.2.2.2.2.1.getD t []).filter (inF (list++[p]) s t c)=(x.2.2.2.2.2.2.1.getD t []).filter (inF list s t c):=List.filter_congr fun y hy=>inO s t c y (g.gA t y hy).1
  have eB:∀j,(x.2.2.1.getD j []).filter (inF (list++[p]) s t c)=(x.2.2.1.getD j []).filter (inF list s t c):=fun j=>List.filter_congr fun y hy=>inO s t c y (g.gB j y hy)
  have eO:∀j,(x.2.2.2.2.2.1.getD j []).filter (inF (list++[p]) s t c)=(x.2.2.2.2.2.1.getD j []).filter (inF list s t c):=fun j=>List.filter_congr fun y hy=>inO s t c y (g.gS j y hy)
  have eF:flowFl (stat x) (list++[p]) s t c=flowFl (stat x) list s t c++(if isFlow s t c p then flitsOf x.1.1 x.1.2.1 p else []):=by
   unfold flowFl
   rw [List.filter_append,List.flatMap_append]
   congr 1
   by_cases e:isFlow s t c p
   ·rw [if_pos e,List.filter_cons_of_pos (by simpa using e)];simp;rfl
   ·rw [if_neg e,List.filter_cons_of_neg (by simpa using e)];rfl
  refine ⟨?_,fun j y hy hF=>z2 j y hy (by rw [← inO s t c y (g.gB j y hy)];exact hF),fun k y hy hF=>?_⟩
  ·rw [eA,Yy L (fun n _=>eB (R n)),eF,← z1]
   have eS2:(S'.getD s []).filter (inF (list++[p]) s t c)=(x.2.2.2.2.2.1.getD s []).filter (inF list s t c)++(if isFlow s t c p then flitsOf x.1.1 x.1.2.1 p else []):=by
    by_cases e:s=p.2.1.toNat
    ·subst e
     rw [at1,List.filter_append,eO]
     congr 1
     by_cases e2:isFlow (p.2.1.toNat:Nat) t c p
     ·rw [if_pos e2,List.filter_eq_self.2]
      intro y hy
      rw [inP _ _ _ y hy];simpa using e2
     ·rw [if_neg e2,List.filter_eq_nil_iff.2]
      intro y hy
      rw [inP _ _ _ y hy];simpa using e2
    ·rw [at2 s e,eO,if_neg,List.append_nil]
     intro e2
     have:=e2.1
     omega
   rw [eS2]
   simp only [List.append_assoc]
  ·by_cases e:k=p.2.1.toNat
   ·subst e
    rw [at1] at hy
    rcases List.mem_append.1 hy with hy|hy
    ·exact z3 _ y hy (by rw [← inO s t c y (g.gS _ y hy)];exact hF)
    ·rw [inP s t c y hy] at hF
     have:=(of_decide_eq_true hF).1
     omega
   ·rw [at2 k e] at hy
    exact z3 k y hy (by rw [← inO s t c y (g.gS _ y hy)];exact hF)
def GoodC (a:ChipD):Prop:=chipOk a∧GoodN a.1 a.2
theorem Ta {x:NetD} {list:List PkD} (hn:netOk x) (hl:list.length≤200) (hs:sentOk x.1.1 x.1.2.1 list) (g:GoodN x list):GoodC (x,list):=
 ⟨⟨hn,hl,hs,Ag hn (S5 hs) g⟩,g⟩
theorem Pz {a:ChipD} (h:GoodC a) (p q r s:Int):GoodC (chipSend a p q r s):=by
 unfold chipSend
 split
 ·rename_i k
  obtain ⟨⟨h1,h2,h3,h4⟩,g⟩:=h
  obtain ⟨_,k2,k3⟩:=k
  have hk:=Dy h1 (nextP a p q r s)
  have e:sendP a.1 (nextP a p q r s)=sendNet a.1 (nextP a p q r s):=if_pos ⟨h1,k3⟩
  rw [e] at hk
  refine Ta hk.ok (by rw [List.length_append];show a.2.length+1≤200;omega) ?_ (D1 h1 h3 k3.1 rfl g)
  have em:=hk.m
  show sentOk (sendNet a.1 _).1.1 (sendNet a.1 _).1.2.1 _
  rw [em]
  intro i hi
  simp at hi
  by_cases e:i<a.2.length
  ·have e2:(a.2++[nextP a p q r s]).getD i pk0=a.2.getD i pk0:=by simp only [List.getD_eq_getElem?_getD];rw [List.getElem?_append_left e]
   rw [e2];exact h3 i e
  ·have e3:i=a.2.length:=by omega
   subst e3
   have e2:(a.2++[nextP a p q r s]).getD a.2.length pk0=nextP a p q r s:=by simp [List.getD_eq_getElem?_getD]
   rw [e2];exact ⟨k3.1,rfl⟩
 ·exact h
theorem Rn {a:ChipD} (h:GoodC a) {k:Nat} (hk:a.1.2.2.2.2.2.2.2+k≤1000000):GoodC (runN a.1 k,a.2):=by
 obtain ⟨⟨h1,h2,h3,h4⟩,g⟩:=h
 obtain ⟨e,g'⟩:=Li h1.1 (S5 h3) g k
 have e1':(stat (runN a.1 k)).1=(stat a.1).1:=by rw [e]
 have e1:(runN a.1 k).1=a.1.1:=e1'
 exact Ta (Oy h1 k hk) h2 (by show sentOk (runN a.1 k).1.1 (runN a.1 k).1.2.1 a.2;rw [e1];exact h3) g'
theorem Sf {a:ChipD} (h:GoodC a) (hi:idle a.1) {m:MeshD} {t:ClassesD} (hm:m.1=a.1.1.1∧m.2.1=a.1.1.2.1) (hc:classesOk m.1 m.2.1 m.2.2 t.1 t.2):GoodC (fresh a.1 m t,a.2):=by
 obtain ⟨⟨h1,h2,h3,h4⟩,g⟩:=h
 have h1':=h1
 obtain ⟨_,⟨s1,s2,s3,s4,s5⟩,b3,b4,b5,b6,b7⟩:=h1
 have hn:netOk (fresh a.1 m t):=by
  refine ⟨hc,⟨?_,?_,?_,?_,?_⟩,?_,?_,fun o ho=>?_,fun o ho=>?_,b7⟩
  ·show ((a.1.2.2.1.length:Nat):Int)=10*cnt m.1 m.2.1
   rw [hm.1,hm.2];exact s1
  ·show ((List.replicate _ _).length:Int)=10*cnt m.1 m.2.1
   rw [List.length_replicate,hm.1,hm.2];exact s2
  ·show ((List.replicate _ _).length:Int)=5*cnt m.1 m.2.1
   rw [List.length_replicate,hm.1,hm.2];exact s3
  ·show ((a.1.2.2.2.2.2.1.length:Nat):Int)=cnt m.1 m.2.1
   rw [hm.1,hm.2];exact s4
  ·show ((a.1.2.2.2.2.2.2.1.length:Nat):Int)=cnt m.1 m.2.1
   rw [hm.1,hm.2];exact s5
  ·show ∀i,i<a.1.2.2.1.length→bufOk m.1 m.2.1 (a.1.2.2.1.getD i []) ((i:Int)%2)
   rw [hm.1,hm.2];exact b3
  ·show ∀l∈a.1.2.2.2.2.2.1,srcOk m.1 m.2.1 l
   rw [hm.1,hm.2];exact b4
  ·have:=List.eq_of_mem_replicate ho;subst this;unfold inR;omega
  ·have:=List.eq_of_mem_replicate ho;subst this;unfold inR;omega
 exact Ta hn h2 (by show sentOk m.1 m.2.1 a.2;rw [hm.1,hm.2];exact h3) (Gk h1' hi hm (S5 h3) g)
theorem Bj {a:ChipD} (h:GoodC a) (k p q r s:Int):GoodC (doAct a k p q r s).1:=by
 unfold doAct
 split
 ·unfold actN
  split
  ·exact Pz h p q r s
  ·split
   ·show GoodC (chipRun a p)
    unfold chipRun
    rw [if_pos h.1]
    unfold runNet
    split
    ·rename_i g
     have g1:=g.2.1
     have g2:=g.2.2
     unfold inR at g1
     exact Rn h (by omega)
    ·exact h
   ·split
    ·show GoodC (idled a.1,a.2)
     unfold idled
     split
     ·rcases Ve a.1 with e|⟨e0,e1,e2⟩
      ·omega
      ·have:=e2.2.2;exact Rn h (by omega)
     ·exact h
    ·split
     ·show GoodC (brk a.1 p,a.2)
      unfold brk
      split
      ·rename_i g
       exact Sf h g.1.2 ⟨rfl,rfl⟩ (Ca g.2.2)
      ·exact h
     ·show GoodC (ruledN a.1 p q,a.2)
      unfold ruledN
      split
      ·exact h
      ·unfold repl
       split
       ·rename_i g
        exact Sf h g.1.2 ⟨rfl,rfl⟩ g.2
       ·exact h
 ·exact h
theorem Nc {a:ChipD} (h:GoodC a) (l:List PkD):∀i,i≤l.length→GoodC (actsAt a l i).1
 | 0,_=>h
 | i+1,hi=>by
  rw [Yn (by omega)]
  exact Bj (Nc h l i (by omega)) _ _ _ _ _
theorem Ky {w h:Int} (g:okG w h):GoodC (chipNew w h):=by
 have hc:=V8 g
 have e:chipNew w h=(netNew (w,h,[]) (splitT w h),[]):=if_pos g
 rw [e]
 obtain ⟨hn,k2,_,_⟩:=Nd (m:=(w,h,[])) (t:=splitT w h) hc
 have e2:netNew (w,h,[]) (splitT w h)=((w,h,[]),splitT w h,List.replicate (10*(cnt w h).toNat) [],List.replicate (10*(cnt w h).toNat) (-1),List.replicate (5*(cnt w h).toNat) 0,List.replicate (cnt w h).toNat [],List.replicate (cnt w h).toNat [],0):=by
  unfold netNew;rw [if_pos hc]
 have rep:∀n j,(List.replicate n ([]:List FlitD)).getD j []=[]:=fun n j=>by
  rw [List.getD_eq_getElem?_getD,List.getElem?_replicate]
  split<;>rfl
 refine Ta hn (by simp) (fun i hi=>by simp at hi) ?_
 rw [e2]
 unfold GoodN
 refine Good.still ?_ ?_ ?_ ?_ (rep _) (rep _) (fun o ho=>List.eq_of_mem_replicate ho) (fun t y hy=>?_) (fun t c _ _=>?_) (fun s t c _ _ _=>?_)
 ·show (List.replicate _ _).length=_;rw [List.length_replicate];rfl
 ·show (List.replicate _ _).length=_;rw [List.length_replicate];rfl
 ·show (List.replicate _ _).length=_;rw [List.length_replicate];rfl
 ·show (List.replicate _ _).length=_;rw [List.length_replicate];rfl
 ·have hy:y∈(List.replicate (cnt w h).toNat ([]:List FlitD)).getD t []:=hy
  rw [rep] at hy;simp at hy
 ·show Str none (((List.replicate (cnt w h).toNat ([]:List FlitD)).getD t []).filter _) none
  rw [rep];rfl
 ·show ((List.replicate (cnt w h).toNat ([]:List FlitD)).getD t []).filter _=_
  rw [rep];rfl
end Go.Proofs.YtdhjhjbfplajfaaGreat.V
set_option linter.all false
namespace Go.Proofs.YtdhjhjbfplajfaaGreat.V
open Go Go.VM Go.Proofs
set_option maxRecDepth 10000
variable {frz:Nat} {H:Heap}
theorem xj {v:Value} {xs:List Int} {e:TypeId} (o:Ow Fl.int e H v xs) {i:Nat} (h1:i<xs.length):vindexAddr Tryz.prog H 26 v (.int .i64 (i:Nat))=some (elp v i)∧vload Tryz.prog H 3 (elp v i)=some (.int .i64 xs[i]):=by
 have h2:=o.rd.isI.idx (P:=Tryz.prog) (ty:=26) (e:=3) (by simp) (i:=(i:Int)) (by omega) (by omega)
 have h3:=(o.rd.isI.load (P:=Tryz.prog) (e:=3) (by simp) h1).trans (by rw [Qw _ _ h1])
 exact ⟨by simpa using h2,h3⟩
theorem F9 {w h:Int} (g:okG w h) (L:Nat):allL L (chipNew w h).1.2.2.2.2.2.2.1:=fun l hl=>by
 have hc:=V8 g
 have e:chipNew w h=(netNew (w,h,[]) (splitT w h),[]):=if_pos g
 rw [e] at hl
 unfold netNew at hl
 rw [if_pos hc] at hl
 have hl:l∈List.replicate (cnt w h).toNat ([]:List FlitD):=hl
 rw [List.eq_of_mem_replicate hl];simp
theorem Et (l:List PkD):∀(a:ChipD) (xs:List Int),l.foldl actF (a,xs)=((l.foldl actF (a,[])).1,xs++(l.foldl actF (a,[])).2):=by
 induction l with
 | nil=>intro a xs;simp
 | cons c l ih=>
  intro a xs
  rw [List.foldl_cons,List.foldl_cons]
  have e:∀ys,actF (a,ys) c=((doAct a c.1 c.2.1 c.2.2.1 c.2.2.2.1 c.2.2.2.2).1,ys++[(doAct a c.1 c.2.1 c.2.2.1 c.2.2.2.1 c.2.2.2.2).2]):=fun _=>rfl
  rw [e,e,ih,ih _ ([]++_)]
  simp
theorem Mw {a:ChipD} {l:List PkD} (h:canAct a l):(runActs a l).2.length=l.length:=by
 rw [← Zm h];exact Zg a l l.length (Nat.le_refl _)
theorem Mj {a:ChipD} {l:List PkD} (h:GoodC a):GoodC (runActs a l).1:=by
 by_cases k:canAct a l
 ·rw [← Zm k];exact Nc h l l.length (Nat.le_refl _)
 ·unfold runActs;rw [if_neg k];exact h
theorem K9 {a:ChipD} {l:List PkD} {L:Nat} (hL:1000≤L) (h:allL L a.1.2.2.2.2.2.2.1):allL (L+38400*l.length) (runActs a l).1.1.2.2.2.2.2.2.1:=by
 by_cases k:canAct a l
 ·rw [← Zm k];exact Vc l hL h l.length (Nat.le_refl _)
 ·unfold runActs;rw [if_neg k];exact Q6 h (by omega)
theorem Od {a:ChipD} {l:List PkD} (h:GoodC a) (hl:l.length≤30) (k:Nat) :
 (runActs (runActs a (l.take k)).1 (l.drop k)).1=(runActs a l).1∧(runActs a l).2=(runActs a (l.take k)).2++(runActs (runActs a (l.take k)).1 (l.drop k)).2:=by
 have c0:canAct a l:=⟨h.1,hl⟩
 have c1:canAct a (l.take k):=⟨h.1,by rw [List.length_take];omega⟩
 have c2:canAct (runActs a (l.take k)).1 (l.drop k):=⟨(Mj h).1,by rw [List.length_drop];omega⟩
 have e2:runActs (runActs a (l.take k)).1 (l.drop k)=(l.drop k).foldl actF ((runActs a (l.take k)).1,[]):=if_pos c2
 have e1:runActs a (l.take k)=(l.take k).foldl actF (a,[]):=if_pos c1
 have e0:runActs a l=(l.drop k).foldl actF ((l.take k).foldl actF (a,[])):=by
  rw [← List.foldl_append,List.take_append_drop];exact if_pos c0
 rw [e2,e0,e1]
 generalize (l.take k).foldl actF (a,[])=z
 have:=Et (l.drop k) z.1 z.2
 rw [show (z.1,z.2)=z from rfl] at this
 rw [this]
 exact ⟨rfl,rfl⟩
theorem law_FnActParts_w {a0:List Int} {u0:Value} (s0:IsS (Kn.int .u8) H u0 a0)
 (w0:a0.length≤maxLen∧∀x1∈a0,(Lit.int .u8 x1).wf=true) :
 wp (vcall C frz 4 [u0] H) (fun r _=>r=.bool true):=by
 have r0:=Dq s0
 rw [Qb (fn:=Tryz.f4) Tryz.func4 rfl (by kernel_rfl) rfl]
 simp [Qbk _ _ r0]
 refine Qd ?_ ?_<;>intro g0
 ·simp
 simp
 refine Qc (Ib u0 a0 r0 (by omega)) ?_
 rintro _ H1 ⟨w,h,v,lv,l,rfl,hg,ov,mv,nv,ol,hl,ml,c1⟩
 have can:canAct (chipNew w h) l:=⟨(Ky hg).1,by omega⟩
 have h9:=F9 hg 1048576
 have h1k:=F9 hg 1000
 obtain ⟨a,ha⟩:∃a,a=chipNew w h:=⟨_,rfl⟩
 have gd:=Ky hg
 rw [← ha] at ov can h9 h1k gd
 have one:=Qs ov
 have o1:=one.1
 have o2:=one.2
 have onl:VM.one lv=true∧lv.cells=#[lv]:=⟨ol.1.rd.one',ol.1.rd.cells⟩
 have hF1:=c1.1
 obtain ⟨H2,hH2⟩:∃H2,H2=H1++[⟨chipCells v a,0,38⟩]:=⟨_,rfl⟩
 have c12:Chg H1 H2 []:=by rw [hH2];exact Chg.app _
 have l2:H2.length=H1.length+1:=by rw [hH2];simp
 have b2:H2[H1.length]? = some ⟨chipCells v a,0,38⟩:=by rw [hH2];simp
 have ov2:=Dt.chg (T:=dChip) ov c12 (by simp)
 have ol2:=Dt.chg (T:=dAct) ol c12 (by simp)
 have hHs:=hH2.symm
 have b2':=b2
 unfold chipCells netCells at hHs b2'
 simp only [List.cons_append,List.nil_append] at hHs b2'
 simp [Qj,← ha,o1,o2,onl,hF1]
 rw [hHs]
 clear hH2 hHs
 refine Qc (Mg u0 a0 (r0.chg (c1.trans c12) (by simp)) (by omega)) ?_
 rintro up H3 ⟨ps,op,hx,hr,nup,c3⟩
 have l3:=c3.1
 have e0:=hr ps[0] (List.getElem_mem (by omega))
 have p0:=xj op (i:=0) (by omega)
 simp only [Int.natCast_zero] at p0
 have ov3:=Dt.chg (T:=dChip) ov2 c3 (by simp)
 have ol3:=Dt.chg (T:=dAct) ol2 c3 (by simp)
 have b3:=Qa b2 c3 (by simp)
 have b3':=b3
 unfold chipCells netCells at b3'
 simp only [List.cons_append,List.nil_append] at b3'
 have la3:=ol3.1.rd.len (P:=Tryz.prog) (ty:=39) (by simp)
 obtain ⟨X,hX⟩:∃X:Nat,ps[0]=(X:Int):=⟨ps[0].toNat,by omega⟩
 rw [hX] at p0 e0
 obtain ⟨k,hk⟩:∃k,k=X%(l.length+1):=⟨_,rfl⟩
 have hkl:k≤l.length:=by have:=Nat.mod_lt X (show 0<l.length+1 by omega);omega
 have ew:∀[Inhabited Unit],IntKind.i64.wrap ((l.length:Int)+1)=((l.length+1:Nat):Int):=by intro _;rw [w64 (by omega) (by omega)];omega
 have em:(X:Int).tmod ((l.length:Int)+1)=(k:Int):=by rw [hk,show (l.length:Int)+1=((l.length+1:Nat):Int) by omega,Int.tmod_eq_emod_of_nonneg (by omega)];rfl
 have ek:∀[Inhabited Unit],IntKind.i64.wrap (k:Int)=(k:Int):=by intro _;exact w64 (by omega) (by omega)
 have hz:¬((l.length+1:Nat):Int)=0:=by omega
 have p01:=p0.1
 have p02:=p0.2
 have oz:∀[Inhabited Unit],¬IntKind.i64.wrap ((l.length:Int)+1)=0:=by intro _;rw [ew];omega
 simp [p01,p02,la3,oz,ew,em,ek,VM.look,b3',o1,o2]
 have rn:=Tj (frz:=H.length) ov3 ol3 h9
 simp only [Qj] at rn
 refine Qc rn ?_
 rintro _ H4 ⟨va,vi,rfl,oa,oi,c4,ma,na,mi,ni,xa⟩
 have l4:=c4.1
 have parts:=Od gd (by omega:l.length≤30) k
 obtain ⟨y,hy⟩:∃y,y=runActs a l:=⟨_,rfl⟩
 rw [← hy] at oa oi parts
 have onea:=Qs oa
 have q1:=onea.1
 have q2:=onea.2
 have b4:=Qa b3 c4 (by simp)
 have ov4:=Dt.chg (T:=dChip) ov3 c4 (by simp)
 have ol4:=Dt.chg (T:=dAct) ol3 c4 (by simp)
 have hF4:H.length≤H4.length:=by omega
 obtain ⟨H5,hH5⟩:∃H5,H5=H4++[⟨chipCells va y.1,0,38⟩]:=⟨_,rfl⟩
 have c45:Chg H4 H5 []:=by rw [hH5];exact Chg.app _
 have l5:H5.length=H4.length+1:=by rw [hH5];simp
 have bA:H5[H4.length]? = some ⟨chipCells va y.1,0,38⟩:=by rw [hH5];simp
 have b5:=Qa b4 c45 (by simp)
 have ov5:=Dt.chg (T:=dChip) ov4 c45 (by simp)
 have ol5:=Dt.chg (T:=dAct) ol4 c45 (by simp)
 have oi5:=Dt.chg (T:=dIntS) oi c45 (by simp)
 have oa5:=Dt.chg (T:=dChip) oa c45 (by simp)
 have oni:VM.one vi=true∧vi.cells=#[vi]:=⟨oi.1.rd.one',oi.1.rd.cells⟩
 have hHs:=hH5.symm
 have b5':=b5
 unfold chipCells netCells at hHs b5'
 simp only [List.cons_append,List.nil_append] at hHs b5'
 simp [Qj,← hy,q1,q2,oni,hF4]
 rw [hHs]
 clear hH5 hHs
 obtain ⟨lv1,hs1,ol1,id1⟩:=ol5.1.slice (P:=Tryz.prog) (ty:=39) (by simp) (lo:=none) (hi:=some (.int .i64 (k:Int))) (l:=0) (u:=k) rfl rfl (by omega) hkl
 simp only [List.drop_zero,Nat.sub_zero] at ol1
 have onl1:VM.one lv1=true∧lv1.cells=#[lv1]:=⟨ol1.rd.one',ol1.rd.cells⟩
 rw [Qf (h:=by kernel_rfl)]
 have rn1:=Tj (frz:=H.length) (l:=l.take k) ov5 ⟨ol1,by rw [List.length_take];have:=ol5.2;omega⟩ h9
 have arr1:=K9 (l:=l.take k) (Nat.le_refl 1000) h1k
 have hk9:1000+38400*(l.take k).length≤1048576:=by rw [List.length_take];omega
 have arr1:=Q6 arr1 hk9
 simp only [Qj] at rn1
 simp [VM.look,b5',o1,o2,hs1,onl1]
 refine Qc rn1 ?_
 rintro _ H6 ⟨vb,vj,rfl,ob,oj,c6,mb,nb,mj,nj,xb⟩
 have l6:=c6.1
 obtain ⟨y1,hy1⟩:∃y1,y1=runActs a (l.take k):=⟨_,rfl⟩
 rw [← hy1] at ob oj parts arr1
 have oneb:=Qs ob
 have q3:=oneb.1
 have q4:=oneb.2
 have b6:=Qa b5 c6 (by simp)
 have bA6:=Qa bA c6 (by simp)
 have ol6:=Dt.chg (T:=dAct) ol5 c6 (by simp)
 have oi6:=Dt.chg (T:=dIntS) oi5 c6 (by simp)
 have oa6:=Dt.chg (T:=dChip) oa5 c6 (by simp)
 have hF6:H.length≤H6.length:=by omega
 obtain ⟨H7,hH7⟩:∃H7,H7=H6++[⟨chipCells vb y1.1,0,38⟩]:=⟨_,rfl⟩
 have c67:Chg H6 H7 []:=by rw [hH7];exact Chg.app _
 have l7:H7.length=H6.length+1:=by rw [hH7];simp
 have bB:H7[H6.length]? = some ⟨chipCells vb y1.1,0,38⟩:=by rw [hH7];simp
 have bA7:=Qa bA6 c67 (by simp)
 have ol7:=Dt.chg (T:=dAct) ol6 c67 (by simp)
 have oi7:=Dt.chg (T:=dIntS) oi6 c67 (by simp)
 have oa7:=Dt.chg (T:=dChip) oa6 c67 (by simp)
 have ob7:=Dt.chg (T:=dChip) ob c67 (by simp)
 have oj7:=Dt.chg (T:=dIntS) oj c67 (by simp)
 have onj:VM.one vj=true∧vj.cells=#[vj]:=⟨oj.1.rd.one',oj.1.rd.cells⟩
 have hHs:=hH7.symm
 have bB':=bB
 unfold chipCells netCells at hHs bB'
 simp only [List.cons_append,List.nil_append] at hHs bB'
 simp [Qj,← hy1,q3,q4,onj,hF6]
 rw [hHs]
 clear hH7 hHs
 obtain ⟨lv2,hs2,ol2',id2⟩:=ol7.1.slice (P:=Tryz.prog) (ty:=39) (by simp) (lo:=some (.int .i64 (k:Int))) (hi:=none) (l:=k) (u:=l.length) rfl rfl hkl (Nat.le_refl _)
 have etk:(l.drop k).take (l.length-k)=l.drop k:=List.take_of_length_le (by rw [List.length_drop];omega)
 rw [etk] at ol2'
 have onl2:VM.one lv2=true∧lv2.cells=#[lv2]:=⟨ol2'.rd.one',ol2'.rd.cells⟩
 rw [Qf (h:=by kernel_rfl)]
 have rn2:=Tj (frz:=H.length) (l:=l.drop k) ob7 ⟨ol2',by rw [List.length_drop];have:=ol7.2;omega⟩ arr1
 simp only [Qj] at rn2
 simp [VM.look,bB',q3,q4,hs2,onl2]
 refine Qc rn2 ?_
 rintro _ H8 ⟨vd,vk,rfl,od,ok,c8,md,nd,mk,nk,xd⟩
 have l8:=c8.1
 obtain ⟨y2,hy2⟩:∃y2,y2=runActs y1.1 (l.drop k):=⟨_,rfl⟩
 rw [← hy2] at od ok parts
 have oned:=Qs od
 have q5:=oned.1
 have q6:=oned.2
 have bA8:=Qa bA7 c8 (by simp)
 have oi8:=Dt.chg (T:=dIntS) oi7 c8 (by simp)
 have oj8:=Dt.chg (T:=dIntS) oj7 c8 (by simp)
 have oa8:=Dt.chg (T:=dChip) oa7 c8 (by simp)
 have hF8:H.length≤H8.length:=by omega
 obtain ⟨H9,hH9⟩:∃H9,H9=H8++[⟨chipCells vd y2.1,0,38⟩]:=⟨_,rfl⟩
 have c89:Chg H8 H9 []:=by rw [hH9];exact Chg.app _
 have l9:H9.length=H8.length+1:=by rw [hH9];simp
 have bD:H9[H8.length]? = some ⟨chipCells vd y2.1,0,38⟩:=by rw [hH9];simp
 have bA9:=Qa bA8 c89 (by simp)
 have oi9:=Dt.chg (T:=dIntS) oi8 c89 (by simp)
 have oj9:=Dt.chg (T:=dIntS) oj8 c89 (by simp)
 have ok9:=Dt.chg (T:=dIntS) ok c89 (by simp)
 have oa9:=Dt.chg (T:=dChip) oa8 c89 (by simp)
 have od9:=Dt.chg (T:=dChip) od c89 (by simp)
 have onk:VM.one vk=true∧vk.cells=#[vk]:=⟨ok.1.rd.one',ok.1.rd.cells⟩
 have hHs:=hH9.symm
 have bD':=bD
 have bA9':=bA9
 unfold chipCells netCells at hHs bD' bA9'
 simp only [List.cons_append,List.nil_append] at hHs bD' bA9'
 simp [Qj,← hy2,q5,q6,onk,hF8]
 rw [hHs]
 clear hH9 hHs
 have sc:=fun F=>Ic (frz:=F) oa9 od9
 simp only [Qj] at sc
 simp only [parts.1] at sc
 obtain ⟨H10,hH10⟩:∃H10:Heap,H10=H9++[⟨[],0,3⟩]:=⟨_,rfl⟩
 have c910:Chg H9 H10 []:=by rw [hH10];exact Chg.app _
 have l10:H10.length=H9.length+1:=by rw [hH10];simp
 have o10:Ow Fl.int 3 H10 (.slice (some ⟨H9.length,0,some 0⟩) 0 0) []:=by rw [hH10];exact Ow.new0 (D:=Fl.int) (xs:=[]) rfl rfl rfl rfl
 have oi10:=Dt.chg (T:=dIntS) oi9 c910 (by simp)
 have oj10:=Dt.chg (T:=dIntS) oj9 c910 (by simp)
 have ok10:=Dt.chg (T:=dIntS) ok9 c910 (by simp)
 have yl:y.2.length=l.length:=by rw [hy];exact Mw can
 have yl2:y.2.length=y1.2.length+y2.2.length:=by rw [parts.2,List.length_append]
 obtain ⟨v1,H11,ap1,ow1,cc1,nn1⟩:=o10.append (P:=Tryz.prog) (frz:=H.length) (ty:=26) oj10.1.rd (by simp) (Y6 _) (by simp;omega) (fun i hi=>by simp at hi;omega)
 have oi11:=oi10.1.rd.chg cc1 (fun i hi hh=>by have:=dIntS.lt oi i hi;simp at hh;omega)
 have ok11:=ok10.1.rd.chg cc1 (fun i hi hh=>by have:=dIntS.lt ok i hi;simp at hh;omega)
 obtain ⟨v2,H12,ap2,ow2,cc2,nn2⟩:=ow1.append (P:=Tryz.prog) (frz:=H.length) (ty:=26) ok11 (by simp) (Y6 _) (by simp;omega) (fun i hi=>by
  rcases nn1 i hi with h|h
  ·simp at h;omega
  ·omega)
 have oi12:=oi11.chg cc2 (fun i hi hh=>by
  have:=dIntS.lt oi i hi
  rcases nn1 i hh with h|h
  ·simp at h;omega
  ·omega)
 have si:=fun F=>Gf (frz:=F) (H:=H12) vi v2 y.2 (([]++y1.2)++y2.2) oi12.isI ow2.rd.isI (by omega)
 have one1:VM.one v1=true∧v1.cells=#[v1]:=⟨ow1.rd.one',ow1.rd.cells⟩
 have one2:VM.one v2=true∧v2.cells=#[v2]:=⟨ow2.rd.one',ow2.rd.cells⟩
 have hHs:=hH10.symm
 simp [-Qo,-Qy,VM.look,bA9',bD',q1,q2,q5,q6,sc,parts.1,hHs,ap1,ap2,one1,one2]
 rw [si]
 simp [parts.2]
theorem law_FnActParts {a0:List Int} {u0:Value} (s0:IsS (Kn.int .u8) H u0 a0)
 (w0:a0.length≤maxLen∧∀x1∈a0,(Lit.int .u8 x1).wf=true) :
 vcall C frz 4 [u0] H=some (.bool true,H):=(law_FnActParts_w s0 w0).exact (by simp) rfl
end Go.Proofs.YtdhjhjbfplajfaaGreat.V
