/- Texts of a proof, joined. -/
import Derived.Test.YtjgochodhiekeaaGreatKM0
import Derived.Test.YtjgochodhiekeaaGreatKM1
import Derived.Test.YtjgochodhiekeaaGreatKFnReplyTimes0
import Derived.Test.YtjgochodhiekeaaGreatKFnReplyTimes1
import Derived.Test.YtjgochodhiekeaaGreatKFnReplyTimes2
set_option linter.all false
namespace Go.Proofs.YtjgochodhiekeaaGreat.V
open Go Go.VM Go.Proofs
set_option maxRecDepth 10000
variable {frz:Nat} {H:Heap} {vb:Value} {code:List Int}
def TrafD (H:Heap) (u:Value) (H':Heap):Prop:=∃(w h:Int) (vc:Value×Value) (t:ClassesD) (lv:Value) (xs:List PkD),u=.tuple #[.agg #[.int .i64 w,.int .i64 h,.slice none 0 0],.agg #[vc.1,vc.2],lv]∧okG w h∧classesOk w h [] t.1 t.2∧dClasses.Ow H' vc t∧Ow pkF 38 H' lv xs∧(xs.length≤7∧∀q∈xs,packetOk w h q)∧Chg H H' []
theorem Pb (vb:Value) (code:List Int) (hb:Rd Fl.u8 H vb code) (hl:code.length≤1073741824):wp (vcall C frz 5 [vb] H) (fun u H'=>TrafD H u H'):=by
 rw [Qb (fn:=Tryz.f5) Tryz.func5 rfl (by kernel_rfl) rfl]
 simp
 refine Qf (Mz vb code hb.app hl) ?_
 rintro _ J ⟨r,rfl,hr,c,ch⟩
 have cJ:Chg H J []:=(Chg.app []).trans ch
 have bR:J[H.length]? = some ⟨[.int .i64 0,.int .i64 0,.slice none 0 0],0,28⟩:=Qa (by simp) ch (by simp)
 have bS:J[H.length+1]? = some ⟨[.slice none 0 0,.slice none 0 0],0,32⟩:=Qa (by simp) ch (by simp)
 simp at hr
 have lt:=c.lt
 have vlt:=c.vlt
 have hfr:H.length≤r:=by omega
 simp
 refine Qf (G8 c hfr) ?_
 rintro _ K ⟨⟨w,h,rfl,hg,h2⟩,c1,d1⟩
 have cK:Chg J K [r]:=c1
 have lJ:=cJ.1
 have lK:=c1.1
 have bR:=Qa bR c1 (by simp;omega)
 have bS:=Qa bS c1 (by simp;omega)
 have hFK:H.length≤K.length:=by omega
 obtain ⟨K1,hK1⟩:∃K1,K1=K++[⟨[.int .i64 w,.int .i64 h],0,25⟩]:=⟨_,rfl⟩
 have cK1:Chg K K1 []:=by rw [hK1];exact Chg.app _
 have l1:K1.length=K.length+1:=by rw [hK1];simp
 have bG:K1[K.length]? = some ⟨[.int .i64 w,.int .i64 h],0,25⟩:=by rw [hK1];simp
 have bR:=Qa bR cK1 (by simp)
 have bS:=Qa bS cK1 (by simp)
 have d1:=d1.chg0 cK1
 have hKs:=hK1.symm
 simp [hFK]
 rw [hKs]
 clear hK1 hKs
 obtain ⟨N,hN⟩:∃N:Nat,cnt w h=N:=⟨(cnt w h).toNat,by have:=Qg w h;omega⟩
 have lvG:∀J:Heap,VM.live J (.agg #[.int .i64 w,.int .i64 h]):=fun J c hc=>by simp at hc;rcases hc with rfl|rfl<;>trivial
 rw [Fw (fl:=([0,2,4],[12])) (pl:=[0,1,5,6,11,2,3,4,7,8,9,10,12]) (h:=⟨by kernel_rfl,by kernel_rfl,by kernel_rfl,by kernel_rfl,by kernel_rfl,by kernel_rfl⟩)]
 have bGL:=fun L=>Qx bG L
 simp [permA,renO,emps,empOp,empB,VM.look,bG,bGL,lvG]
 obtain ⟨K0,hK0⟩:∃K0,K0=K1++[⟨[.slice none 0 0,.slice none 0 0],0,32⟩]:=⟨_,rfl⟩
 have c0:Chg K1 K0 []:=by rw [hK0];exact Chg.app _
 have l0:K0.length=K1.length+1:=by rw [hK0];simp
 have bC:K0[K1.length]? = some ⟨[.slice none 0 0,.slice none 0 0],0,32⟩:=by rw [hK0];simp
 have bG:=Qa bG c0 (by simp)
 have bR:=Qa bR c0 (by simp)
 have bS:=Qa bS c0 (by simp)
 have d1:=d1.chg0 c0
 have hKs:=hK0.symm
 try rw [hKs]
 clear hK0 hKs
 have bl:=Wp (frz:=H.length) d1 hfr 4 (by decide) (by decide)
 refine Ub (by simpa using bl) ?_
 rintro _ K2 ⟨⟨x,rfl,hx⟩,c2,d2⟩
 have e1:=@w6 (1+(x:Int)) (by omega)
 have bG:=Qa bG c2 (by simp;omega)
 have bR:=Qa bR c2 (by simp;omega)
 have bS:=Qa bS c2 (by simp;omega)
 have bC:=Qa bC c2 (by simp;omega)
 refine ⟨by simp [VM.look,bG,bC,lvG],?_⟩
 simp [e1]
 refine Ub (Oc w h (1+x) N (by omega) hg hN) ?_
 rintro _ K3 ⟨v1,rfl,o1,c3,m1,n1⟩
 have d3:=d2.chg0 c3
 have q1:=Xj o1
 have bG:=Qa bG c3 (by simp)
 have bR:=Qa bR c3 (by simp)
 have bS:=Qa bS c3 (by simp)
 have bC:=Qa bC c3 (by simp)
 refine ⟨by simp [VM.look,bG,bC,lvG],?_⟩
 have l2:=c2.1
 have l3:=c3.1
 simp [Xm,VM.look,bG,lvG]
 have bl:=Wp (frz:=H.length) d3 hfr 4 (by decide) (by decide)
 refine Ub (by simpa using bl) ?_
 rintro _ K4 ⟨⟨y,rfl,hy⟩,c4,d4⟩
 have e2:=@w6 (1+(y:Int)) (by omega)
 have bG:=Qa bG c4 (by simp;omega)
 have bR:=Qa bR c4 (by simp;omega)
 have bS:=Qa bS c4 (by simp;omega)
 have bC:=Qa bC c4 (by simp;omega)
 refine ⟨by simp [VM.look,bG,bC,lvG],?_⟩
 have o1:=Dt.chg (T:=dTable) o1 c4 (fun i hi hh=>by have:=m1 i hi;simp at hh;omega)
 simp [e2]
 refine Ub (Oc w h (1+y) N (by omega) hg hN) ?_
 rintro _ K5 ⟨v2,rfl,o2,c5,m2,n2⟩
 have d5:=d4.chg0 c5
 have q2:=Xj o2
 have bG:=Qa bG c5 (by simp)
 have bR:=Qa bR c5 (by simp)
 have bS:=Qa bS c5 (by simp)
 have bC:=Qa bC c5 (by simp)
 refine ⟨by simp [VM.look,bG,bC,lvG],?_⟩
 have o1:=Dt.chg (T:=dTable) o1 c5 (by simp)
 have l4:=c4.1
 have l5:=c5.1
 have hFK1:H.length≤K1.length:=by omega
 have bG5:=bG
 have bC5:=bC
 have gC5:=Qn (r':=⟨[v1,v2],0,32⟩) bC
 obtain ⟨K6,hK6⟩:∃K6,K6=K5.set K1.length ⟨[v1,v2],0,32⟩:=⟨_,rfl⟩
 have c56:Chg K5 K6 [K1.length]:=by rw [hK6];exact Qj _ _
 have l6:K6.length=K5.length:=by rw [hK6];simp
 have bC:K6[K1.length]? = some ⟨[v1,v2],0,32⟩:=by rw [hK6];exact gC5
 have bG:=Qa bG c56 (by simp;omega)
 have bR:=Qa bR c56 (by simp;omega)
 have bS:=Qa bS c56 (by simp;omega)
 have d6:=d5.chg c56 (by simp;omega) (fun i hi hh=>by have:=vlt i hi;simp at hh;omega)
 have oc:dClasses.Ow K6 (v1,v2) (stdTab w (1+x) N,stdTab w (1+y) N):=⟨Dt.chg (T:=dTable) o1 c56 (fun i hi hh=>by have:=m1 i hi;simp at hh;omega),Dt.chg (T:=dTable) o2 c56 (fun i hi hh=>by have:=m2 i hi;simp at hh;omega)⟩
 have cK6:Chg J K6 [r]:=(((((((cK.trans (cK1.mono (fun _ h=>by cases h))).trans (c0.mono (fun _ h=>by cases h))).trans c2).trans (c3.mono (fun _ h=>by cases h))).trans c4).trans (c5.mono (fun _ h=>by cases h)))).trans' c56 (fun i hi=>.inr (by simp at hi;omega))
 have hKs:=hK6.symm
 simp [Xm,q1,q2,hFK1,VM.look,bG5,bC5,lvG]
 rw [hKs]
 clear hK6 hKs
 have onc:=Qq oc
 have hcl:classesOk w h [] (stdTab w (1+x) N) (stdTab w (1+y) N):=⟨E2 (by omega) hg hN,E2 (by omega) hg hN⟩
 have lvC:∀M t,dClasses.Ow M (v1,v2) t→VM.live M (.agg #[v1,v2]):=fun M t o=>by
  have a2:=Sx o.1.1
  have a3:=Sx o.2.1
  intro c hc
  simp at hc
  rcases hc with rfl|rfl<;>assumption
 have lc6:=lvC _ _ oc
 have one1:=onc.1
 have one2:=onc.2
 try simp
 rw [Xr (fl:=([0,2],[7])) (h:=⟨by kernel_rfl,by kernel_rfl,by kernel_rfl,by kernel_rfl⟩)]
 simp [emps,empOp,empB,VM.look,bG,bC,lvG,lc6,one1,one2]
 refine Ub (Pd (frz:=H.length) hg h2 d6 hfr) ?_
 rintro lp K9 ⟨ps,op,hps,mp,c9,d9⟩
 have l9:=c9.1
 have bG9:=Qa bG c9 (by simp;omega)
 have bC9:=Qa bC c9 (by simp;omega)
 have bR9:=Qa bR c9 (by simp;omega)
 have bS9:=Qa bS c9 (by simp;omega)
 have oc9:=Dt.chg (T:=dClasses) oc c9 (fun i hi hh=>by
  simp at hh
  rcases List.mem_append.1 hi with g|g
  ·have:=m1 i g;omega
  ·have:=m2 i g;omega)
 have lc9:=lvC _ _ oc9
 have lvp:=Sx op
 have onp:VM.one lp=true∧lp.cells=#[lp]:=⟨op.rd.one',op.rd.cells⟩
 refine ⟨by simp [VM.look,bG9,bC9,lvG,lc9,one1,one2],?_⟩
 have gR:=Qn (r':=⟨[.int .i64 w,.int .i64 h,.slice none 0 0],0,28⟩) bR9
 have cA:Chg K9 (K9.set H.length ⟨[.int .i64 w,.int .i64 h,.slice none 0 0],0,28⟩) [H.length]:=Qj _ _
 have bS10:=Qa bS9 cA (by simp)
 have gS:=Qn (r':=⟨[v1,v2],0,32⟩) bS10
 have cB:Chg (K9.set H.length ⟨[.int .i64 w,.int .i64 h,.slice none 0 0],0,28⟩) ((K9.set H.length ⟨[.int .i64 w,.int .i64 h,.slice none 0 0],0,28⟩).set (H.length+1) ⟨[v1,v2],0,32⟩) [H.length+1]:=Qj _ _
 have gR2:=Qa gR cB (by simp)
 have bG10:=Qa bG9 cA (by simp;omega)
 have bC10:=Qa bC9 cA (by simp;omega)
 have oc10:=Dt.chg (T:=dClasses) oc9 cA (fun i hi hh=>by
  simp at hh
  rcases List.mem_append.1 hi with g|g
  ·have:=m1 i g;omega
  ·have:=m2 i g;omega)
 have lc10:=lvC _ _ oc10
 have oc11:=Dt.chg (T:=dClasses) oc10 cB (fun i hi hh=>by
  simp at hh
  rcases List.mem_append.1 hi with g|g
  ·have:=m1 i g;omega
  ·have:=m2 i g;omega)
 have op11:=(op.chg cA (fun i hi hh=>by have:=mp i hi;simp at hh;omega)).chg cB (fun i hi hh=>by have:=mp i hi;simp at hh;omega)
 have cE:Chg H ((K9.set H.length ⟨[.int .i64 w,.int .i64 h,.slice none 0 0],0,28⟩).set (H.length+1) ⟨[v1,v2],0,32⟩) []:=(((cJ.trans' cK6 (fun i hi=>.inr (by simp at hi;omega))).trans' c9 (fun i hi=>.inr (by simp at hi;omega))).trans' cA (fun i hi=>.inr (by simp at hi;omega))).trans' cB (fun i hi=>.inr (by simp at hi;omega))
 have hM:TrafD H (.tuple #[.agg #[.int .i64 w,.int .i64 h,.slice none 0 0],.agg #[v1,v2],lp]) ((K9.set H.length ⟨[.int .i64 w,.int .i64 h,.slice none 0 0],0,28⟩).set (H.length+1) ⟨[v1,v2],0,32⟩):=
  ⟨w,h,(v1,v2),(stdTab w (1+x) N,stdTab w (1+y) N),lp,ps,rfl,hg,hcl,oc11,op11,hps,cE⟩
 simp [VM.look,bR9,gR,bS10,gS,gR2,one1,one2,onp,bG9,bC9,lvG,lc9,lvp,bG10,bC10,lc10]
 exact hM
end Go.Proofs.YtjgochodhiekeaaGreat.V
set_option linter.all false
namespace Go.Proofs.YtjgochodhiekeaaGreat.V
open Go Go.VM Go.Proofs
set_option maxRecDepth 10000
variable {frz:Nat} {H:Heap}
theorem Cq {v:Value} {xs:List Int} {e:TypeId} (o:Ow Fl.int e H v xs) {i:Nat} (h1:i<xs.length):vindexAddr Tryz.prog H 26 v (.int .i64 (i:Nat))=some (elp v i)∧vload Tryz.prog H 3 (elp v i)=some (.int .i64 xs[i]):=by
 have h2:=o.rd.isI.idx (P:=Tryz.prog) (ty:=26) (e:=3) (by simp) (i:=(i:Int)) (by omega) (by omega)
 have h3:=(o.rd.isI.load (P:=Tryz.prog) (e:=3) (by simp) h1).trans (by rw [Q1 _ _ h1])
 exact ⟨by simpa using h2,h3⟩
theorem Pn {w h:Int} {t:ClassesD} {p:PkD} (hc:classesOk w h [] t.1 t.2) (hp:packetOk w h p):idleAt (solo (w,h,[]) t p)=zeroLoad w h [] t.1 t.2 p:=by
 obtain ⟨k1,_⟩:=Yy (m:=(w,h,[])) hc hp
 exact k1.trans (if_pos ⟨hc,hp⟩).symm
theorem law_FnReplyTimes_w {a0:List Int} {u0:Value} (s0:IsS (Kn.int .u8) H u0 a0)
 (w0:a0.length≤maxLen∧∀x1∈a0,(Lit.int .u8 x1).wf=true) :
 wp (vcall C frz 3 [u0] H) (fun r _=>r=.bool true):=by
 have r0:=Gy s0
 rw [Qb (fn:=Tryz.f3) Tryz.func3 rfl (by kernel_rfl) rfl]
 simp [yy _ _ r0]
 refine Qh ?_ ?_<;>intro g0
 ·simp
 simp
 refine Qf (Pb u0 a0 r0 (by omega)) ?_
 rintro _ H1 ⟨w,h,vc,t,lv,xs,rfl,hg,hc,oc,ol,⟨hx,hq⟩,c1⟩
 have onc:=Qq oc
 have onl:VM.one lv=true∧lv.cells=#[lv]:=⟨ol.rd.one',ol.rd.cells⟩
 have hF1:=c1.1
 obtain ⟨H2,hH2⟩:∃H2,H2=H1++[⟨[.int .i64 w,.int .i64 h,.slice none 0 0],0,28⟩,⟨[vc.1,vc.2],0,32⟩]:=⟨_,rfl⟩
 have c12:Chg H1 H2 []:=by rw [hH2];exact Chg.app _
 have l2:H2.length=H1.length+2:=by rw [hH2];simp
 have bM:H2[H1.length]? = some ⟨[.int .i64 w,.int .i64 h,.slice none 0 0],0,28⟩:=by rw [hH2];simp
 have bC:H2[H1.length+1]? = some ⟨[vc.1,vc.2],0,32⟩:=by rw [hH2];simp
 have oc2:=Dt.chg (T:=dClasses) oc c12 (by simp)
 have ol2:=ol.chg c12 (by simp)
 have hHs:=hH2.symm
 have hF2:H.length≤H1.length+1:=by omega
 simp [onc,onl,hF1,hF2]
 rw [hHs]
 clear hH2 hHs
 refine Qf (Nm u0 a0 (r0.chg (c1.trans c12) (by simp)) (by omega)) ?_
 rintro up H3 ⟨ps,op,hps,hr,nup,c3⟩
 have l3:=c3.1
 have e0:=hr ps[0] (List.getElem_mem (by omega))
 have p0:=Cq op (i:=0) (by omega)
 simp only [Int.natCast_zero] at p0
 have bM:=Qa bM c3 (by simp)
 have bC:=Qa bC c3 (by simp)
 have oc3:=Dt.chg (T:=dClasses) oc2 c3 (by simp)
 have ol3:=ol2.chg c3 (by simp)
 obtain ⟨X,hX⟩:∃X:Nat,ps[0]=(X:Int):=⟨ps[0].toNat,by omega⟩
 rw [hX] at p0 e0
 obtain ⟨D,hD⟩:∃D,D=X%5:=⟨_,rfl⟩
 have lD:D<5:=by omega
 have tD:(X:Int).tmod 5=(D:Int):=by rw [hD,Int.tmod_eq_emod_of_nonneg (by omega)];rfl
 have wD:∀[Inhabited Unit],IntKind.i64.wrap (D:Int)=(D:Int):=by intro _;exact w64 (by omega) (by omega)
 have wD1:=@w6 (1+(D:Int)) (by omega)
 have p01:=p0.1
 have p02:=p0.2
 simp [p01,p02,tD,wD,wD1]
 have cH3:Chg H H3 []:=(c1.trans c12).trans c3
 refine Qk (fun q s J=>∃i:Nat,q=xs.length-i∧i≤xs.length∧s 3=.pointer (some ⟨H1.length,0,some 0⟩)∧s 4=.pointer (some ⟨H1.length+1,0,some 0⟩)∧s 5=lv∧s 7=.int .i64 (1+(D:Int))∧s 8=.int .i64 i∧Chg H3 J []) ?_ (n:=xs.length)
  ⟨0,rfl,by omega,by simp,by simp,by simp,by simp,by simp,Chg.refl _⟩
 rintro q s J ⟨i,rfl,hi,s3,s4,s5,s7,s8,cJ⟩ ih
 have rd:=ol3.rd.chg cJ (by simp)
 have ll:=rd.len (P:=Tryz.prog) (ty:=33) (by simp)
 simp [s3,s4,s5,s7,s8,ll]
 refine Qh ?_ ?_<;>intro g
 ·have hi':i<xs.length:=by omega
  have q1:=rd.idx (P:=Tryz.prog) (ty:=33) (e:=38) (by simp) (i:=(i:Int)) (by omega) (by omega)
  have q2:=rd.load (P:=Tryz.prog) (e:=38) (by simp) hi'
  simp only [Int.toNat_natCast,Tl] at q1 q2
  have hp:=hq xs[i] (List.getElem_mem hi')
  obtain ⟨p,hpx⟩:∃p,p=xs[i]:=⟨_,rfl⟩
  rw [← hpx] at q2 hp
  obtain ⟨p1,p2,p3,p4,p5⟩:=p
  simp only [Ui] at q2
  have hp':=hp
  obtain ⟨⟨a1,a2⟩,⟨b1,b2⟩,⟨c1',c2'⟩,hne,⟨d1,d2⟩,⟨f1,f2⟩⟩:=hp'
  have hF3:H.length≤J.length:=Nat.le_trans cH3.1 cJ.1
  have wc:IntKind.i64.wrap (1-p4)=1-p4:=w64 (by have:0≤p4:=d1;have:p4≤1:=d2;omega) (by have:0≤p4:=d1;omega)
  have wc':∀[Inhabited Unit],IntKind.i64.wrap (1-p4)=1-p4:=by intro _;exact wc
  have hb:packetOk w h (1,p3,p2,1-p4,1+(D:Int)):=
   ⟨⟨by omega,by omega⟩,⟨c1',c2'⟩,⟨b1,b2⟩,fun e=>hne e.symm,⟨by have:p4≤1:=d2;show (0:Int)≤1-p4;omega,by have:0≤p4:=d1;show 1-p4≤1;omega⟩,⟨by show (1:Int)≤1+D;omega,by show 1+(D:Int)≤5;omega⟩⟩
  obtain ⟨J2,hJ2⟩:∃J2,J2=J++[⟨[.int .i64 p1,.int .i64 p2,.int .i64 p3,.int .i64 p4,.int .i64 p5],0,38⟩,⟨[.int .i64 1,.int .i64 p3,.int .i64 p2,.int .i64 (1-p4),.int .i64 (1+(D:Int))],0,38⟩]:=⟨_,rfl⟩
  have cJ2:Chg J J2 []:=by rw [hJ2];exact Chg.app _
  have bP2:J2[J.length]? = some ⟨[.int .i64 p1,.int .i64 p2,.int .i64 p3,.int .i64 p4,.int .i64 p5],0,38⟩:=by rw [hJ2];simp
  have bQ:J2[J.length+1]? = some ⟨[.int .i64 1,.int .i64 p3,.int .i64 p2,.int .i64 (1-p4),.int .i64 (1+(D:Int))],0,38⟩:=by rw [hJ2];simp
  have cJ3:=cJ.trans cJ2
  have bM3:=Qa bM cJ3 (by simp)
  have bC3:=Qa bC cJ3 (by simp)
  have ocJ:=Dt.chg (T:=dClasses) oc3 cJ3 (by simp)
  have oncJ:=Qq ocJ
  have om:dMesh.Ow J2 (.slice none 0 0) (w,h,[]):=⟨.inl ⟨rfl,rfl⟩,by simp⟩
  have hJs2:=hJ2.symm
  have iS:=fun F=>S1 (frz:=F) (p:=(p1,p2,p3,p4,p5)) om ocJ hc hp
  have sS:=fun F=>Le (frz:=F) (p:=(p1,p2,p3,p4,p5)) om ocJ hc hp
  have iB:=fun F=>S1 (frz:=F) (p:=(1,p3,p2,1-p4,1+(D:Int))) om ocJ hc hb
  have rT:=fun F=>Lt (frz:=F) (i:=p1) (a:=p2) (c:=p3) (k:=p4) (l:=p5) (n:=1+(D:Int)) om (A:=t.1) (B:=t.2) ocJ
  have z1:=Pn (t:=t) hc hp
  have z2:=Pn (t:=t) hc hb
  have zid:=Nw (w:=w) (h:=h) (b:=[]) (A:=t.1) (B:=t.2) (i:=p1) (j:=1) (a:=p3) (c:=p2) (k:=1-p4) (l:=1+(D:Int)) ⟨a1,a2⟩ ⟨by omega,by omega⟩
  have g1:0≤idleAt (solo (w,h,[]) t (p1,p2,p3,p4,p5)):=(Yy (m:=(w,h,[])) hc hp).2.1
  have g2:0≤idleAt (solo (w,h,[]) t (1,p3,p2,1-p4,1+(D:Int))):=(Yy (m:=(w,h,[])) hc hb).2.1
  have rg1:=W9 w h [] t.1 t.2 (p1,p2,p3,p4,p5)
  have rg2:=W9 w h [] t.1 t.2 (1,p3,p2,1-p4,1+(D:Int))
  rw [z1] at g1
  rw [z2] at g2
  have rv:replyTime w h [] t.1 t.2 (p1,p2,p3,p4,p5) (1+(D:Int))=zeroLoad w h [] t.1 t.2 (p1,p2,p3,p4,p5)+zeroLoad w h [] t.1 t.2 (1,p3,p2,1-p4,1+(D:Int)):=by
   unfold replyTime
   simp only
   rw [wc,zid,if_neg (by omega)]
  simp only [z1] at iS sS
  simp only [z2] at iB
  simp only [rv] at rT
  generalize zeroLoad w h [] t.1 t.2 (p1,p2,p3,p4,p5)=Z1 at *
  generalize zeroLoad w h [] t.1 t.2 (1,p3,p2,1-p4,1+(D:Int))=Z2 at *
  have wz:=@w6 (Z1+Z2) (by omega)
  simp only [We,Qy,pkV] at iS sS iB rT
  have hF4:H.length≤J.length+1:=by omega
  simp [s3,s4,s5,s7,s8,q1,q2,hF3,hF4,wc']
  rw [hJs2]
  clear hJ2 hJs2
  rw [Qo (h:=by kernel_rfl)]
  simp [s3,s4,s5,s7,s8,VM.look,bM3,bC3,bP2,bQ,oncJ,iS,sS,iB,rT,wz]
  refine ih (xs.length-(i+1)) _ _ ⟨i+1,rfl,by omega,by simp [s3],by simp [s4],by simp [s5],by simp [s7],?_,cJ3⟩ (by omega)
  simp [s8]
  rw [w64 (by omega) (by omega)]
 ·simp
theorem law_FnReplyTimes {a0:List Int} {u0:Value} (s0:IsS (Kn.int .u8) H u0 a0)
 (w0:a0.length≤maxLen∧∀x1∈a0,(Lit.int .u8 x1).wf=true) :
 vcall C frz 3 [u0] H=some (.bool true,H):=(law_FnReplyTimes_w s0 w0).exact (by simp) rfl
end Go.Proofs.YtjgochodhiekeaaGreat.V
