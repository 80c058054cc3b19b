/- Texts of a proof, joined. -/
import Derived.Test.YtaldglgobgjeaaaGreatKM0
import Derived.Test.YtaldglgobgjeaaaGreatKM1
import Derived.Test.YtaldglgobgjeaaaGreatKFnBreaks0
import Derived.Test.YtaldglgobgjeaaaGreatKFnBreaks1
import Derived.Test.YtaldglgobgjeaaaGreatKFnBreaks2
import Derived.Test.YtaldglgobgjeaaaGreatKFnBreaks3
set_option linter.all false
namespace Go.Proofs.YtaldglgobgjeaaaGreat.V
open Go Go.VM Go.Proofs
set_option maxRecDepth 10000
def hbOf (k:Nat):Nat:=if k=0 then 6 else if k=1 then 8 else if k≤3 then 10 else 16
theorem Bi {x:NetD} {hb:Nat} (hh:∀s t c:Nat,s<nC x→t<nC x→c<2→hop (stat x) c s t≤hb) (hn:netOk x) {p:PkD} (hp:packetOk x.1.1 x.1.2.1 p):phi (sendNet x p)≤phi x+5*(hb+2):=by
 have hnn:=Yj x
 have hp':=hp
 obtain ⟨_,⟨q1,q2⟩,⟨q3,q4⟩,_,q5,q6⟩:=hp'
 have q2':p.2.1<cnt x.1.1 x.1.2.1:=q2
 have q4':p.2.2.1<cnt x.1.1 x.1.2.1:=q4
 unfold inR at q5 q6
 have lS:x.2.2.2.2.2.1.length=nC x:=by have:=hn.2.1.2.2.2.1;omega
 have hop6:hop (stat x) p.2.2.2.1.toNat p.2.1 p.2.2.1≤hb:=by
  have:=hh p.2.1.toNat p.2.2.1.toNat p.2.2.2.1.toNat (by omega) (by omega) (by omega)
  rw [show ((p.2.1.toNat:Nat):Int)=p.2.1 by omega,show ((p.2.2.1.toNat:Nat):Int)=p.2.2.1 by omega] at this
  exact this
 have e:phi (sendNet x p)=sumS (wb (stat x)) x.2.2.1+sumS (ws (stat x)) (upd x.2.2.2.2.2.1 p.2.1.toNat (·++flitsOf x.1.1 x.1.2.1 p)):=rfl
 have e2:phi x=sumS (wb (stat x)) x.2.2.1+sumS (ws (stat x)) x.2.2.2.2.2.1:=rfl
 have s1:=Oj (ws (stat x)) (S:=x.2.2.2.2.2.1) (k:=p.2.1.toNat) (·++flitsOf x.1.1 x.1.2.1 p) (by omega)
 rw [wx] at s1
 have s2:=Ci (f:=ws (stat x)) (k:=p.2.1.toNat) (b:=hb+2) (flitsOf x.1.1 x.1.2.1 p) fun y hy=>by
  obtain ⟨_,f2,f3⟩:=Un hy
  unfold ws
  rw [← f2,← f3,show ((p.2.1.toNat:Nat):Int)=p.2.1 by omega]
  omega
 have s3:=Z3 hp
 have s4:(flitsOf x.1.1 x.1.2.1 p).length≤5:=by omega
 have:(hb+2)*(flitsOf x.1.1 x.1.2.1 p).length≤(hb+2)*5:=Nat.mul_le_mul_left _ s4
 omega
structure Scn (a:ChipD) (S k:Nat):Prop where
 good:GoodC a
 len:a.1.1.2.2.length=k
 aA:Acyc (depsOf a.1.1.1 a.1.1.2.1 a.1.1.2.2 a.1.2.1.1)
 aB:Acyc (depsOf a.1.1.1 a.1.1.2.1 a.1.1.2.2 a.1.2.1.2)
 hop:∀s t c:Nat,s<nC a.1→t<nC a.1→c<2→hop (stat a.1) c s t≤hbOf k
 ph:phi a.1≤5*(hbOf k+2)*S
theorem Scn.run {a:ChipD} {S k:Nat} (i:Scn a S k) {n:Nat} (ht:a.1.2.2.2.2.2.2.2+n≤1000000):Scn (runN a.1 n,a.2) S k:=by
 have hn:=i.good.1.1
 have hs:=Vl i.good.1.2.2.1
 obtain ⟨s1,s2⟩:=yw hn.1 hs i.good.2 n
 have e:stat (runN a.1 n)=stat a.1:=(Zl hn.1 hs i.good.2 n).1
 have en:nC (runN a.1 n)=nC a.1:=by unfold nC;rw [s1]
 refine ⟨E8 i.good (by omega),?_,?_,?_,?_,?_⟩
 ·show (runN a.1 n).1.2.2.length=k;rw [s1];exact i.len
 ·show Acyc (depsOf (runN a.1 n).1.1 (runN a.1 n).1.2.1 (runN a.1 n).1.2.2 (runN a.1 n).2.1.1);rw [s1,s2];exact i.aA
 ·show Acyc (depsOf (runN a.1 n).1.1 (runN a.1 n).1.2.1 (runN a.1 n).1.2.2 (runN a.1 n).2.1.2);rw [s1,s2];exact i.aB
 ·intro s t c hs ht hc
  show V.hop (stat (runN a.1 n)) c s t≤_
  rw [e]
  exact i.hop s t c (by rw [← en];exact hs) (by rw [← en];exact ht) hc
 ·exact Nat.le_trans (Ck hn hs i.good.2 n (by omega)) i.ph
theorem Scn.send {a:ChipD} {S k:Nat} (i:Scn a S k) (p q r s:Int):Scn (chipSend a p q r s) (S+1) k:=by
 have hg:=Nx i.good p q r s
 unfold chipSend at hg ⊢
 split
 ·rename_i kk
  rw [if_pos kk] at hg
  obtain ⟨_,k2,k3⟩:=kk
  refine ⟨hg,i.len,i.aA,i.aB,i.hop,?_⟩
  have h1:=Bi i.hop i.good.1.1 k3.1
  have h2:=i.ph
  show phi (sendNet a.1 _)≤_
  rw [Nat.mul_succ]
  omega
 ·refine ⟨i.good,i.len,i.aA,i.aB,i.hop,?_⟩
  have h2:=i.ph
  rw [Nat.mul_succ]
  omega
theorem Qai {w h:Int} {b:List Int} {r:Int} (hc:conn w h b) (hr:r=bestRoot w h b) (h0:b≠[]) {s t:Nat} (hs:s<(cnt w h).toNat) (ht:t<(cnt w h).toNat):(walk w h b (treeTab w h b r) s t).length≤hbOf b.length:=by
 have ir:=zp hc
 rw [← hr] at ir
 have ok:=Vb hc ir
 by_cases hne:s=t
 ·subst hne
  rw [Fz ok hs];simp
 ·have l:=Bk hc ir hs ht hne
  have l2:=S0 w h b (treeTab w h b r) t (cnt w h).toNat s []
  have hcn:=Qe w h
  obtain ⟨r1,r2⟩:=radius hc h0
  rw [← hr] at r1 r2
  have hp:b.length≠0:=fun e=>h0 (List.length_eq_zero_iff.1 e)
  unfold hbOf
  rw [if_neg hp]
  split
  ·rename_i e;have:=r1 e;omega
  ·split
   ·rename_i e;have:=r2 e;omega
   ·have e:walk w h b (treeTab w h b r) s t=walkN w h b (treeTab w h b r) t (cnt w h).toNat s []:=rfl
    rw [e]
    simp at l2
    omega
theorem Scn.brk {a:ChipD} {S k:Nat} (i:Scn a S k) (c:Int):∃k',Scn (V.brk a.1 c,a.2) S k'∧k'≤k+1∧(V.brk a.1 c).2.2.2.2.2.2.2=a.1.2.2.2.2.2.2.2:=by
 unfold V.brk
 split
 ·rename_i g
  obtain ⟨g1,g2,g3⟩:=g
  have hg:=Gg i.good g1.2 (m:=(a.1.1.1,a.1.1.2.1,withBroken a.1.1.1 a.1.1.2.1 a.1.1.2.2 c)) ⟨rfl,rfl⟩ (qf g3)
  obtain ⟨b',hb'⟩:∃b',b'=withBroken a.1.1.1 a.1.1.2.1 a.1.1.2.2 c:=⟨_,rfl⟩
  rw [← hb'] at hg g3 ⊢
  have hk:treeOk a.1.1.1 a.1.1.2.1 b' (bestRoot a.1.1.1 a.1.1.2.1 b'):=by simpa [repairOk] using g3
  have hc:=hk.1
  have eT:repair a.1.1.1 a.1.1.2.1 b'=(treeTab a.1.1.1 a.1.1.2.1 b' (bestRoot a.1.1.1 a.1.1.2.1 b'),treeTab a.1.1.1 a.1.1.2.1 b' (bestRoot a.1.1.1 a.1.1.2.1 b')):=by
   unfold repair treeTable;rw [if_pos hk]
  rw [eT] at hg ⊢
  have lb:b'.length=k+1:=by
   rw [hb'];unfold withBroken;rw [if_pos g2];unfold broke;rw [Mb,List.length_append,i.len];rfl
  have h0:b'≠[]:=fun e=>by rw [e] at lb;simp at lb
  have z:=And.intro (W5 g1.2.1) (W5 g1.2.2)
  refine ⟨k+1,⟨hg,lb,Mp hc hk.2,Mp hc hk.2,fun s t c hs ht hc2=>?_,?_⟩,Nat.le_refl _,rfl⟩
  ·have:=Qai hc rfl h0 (s:=s) (t:=t) hs ht
   rw [lb] at this
   refine Nat.le_trans (Nat.le_of_eq ?_) this
   unfold V.hop
   congr 1
   show walk _ _ _ (tabC _ c) s t=_
   unfold tabC
   split<;>rfl
  ·refine Nat.le_trans (Nat.le_of_eq (Ps ?_ ?_)) (Nat.zero_le _)
   ·exact z.1
   ·exact z.2
 ·exact ⟨k,i,by omega,rfl⟩
theorem Scn.act {a:ChipD} {S k:Nat} (i:Scn a S k) (c p q r s:Int) (h5:c≠5):∃S' k',Scn (doAct a c p q r s).1 S' k'∧S'+k'≤S+k+1∧(doAct a c p q r s).1.1.2.2.2.2.2.2.2≤a.1.2.2.2.2.2.2.2+400:=by
 unfold doAct
 split
 ·rename_i ha
  have hk:=ha.2
  unfold actN
  split
  ·refine ⟨S+1,k,i.send p q r s,by omega,?_⟩
   show (chipSend a p q r s).1.2.2.2.2.2.2.2≤_
   unfold chipSend
   split
   ·show a.1.2.2.2.2.2.2.2≤_;omega
   ·omega
  ·split
   ·show ∃S' k',Scn (chipRun a p) S' k'∧_∧(chipRun a p).1.2.2.2.2.2.2.2≤_
    unfold chipRun
    rw [if_pos i.good.1]
    unfold runNet
    split
    ·rename_i g
     have g1:=g.2.1
     have g2:=g.2.2
     unfold inR at g1
     refine ⟨S,k,i.run (by omega),by omega,?_⟩
     show (runN a.1 p.toNat).2.2.2.2.2.2.2≤_
     rw [Uy];omega
    ·exact ⟨S,k,⟨i.good,i.len,i.aA,i.aB,i.hop,i.ph⟩,by omega,by show a.1.2.2.2.2.2.2.2≤_;omega⟩
   ·split
    ·show ∃S' k',Scn (idled a.1,a.2) S' k'∧_∧(idled a.1).2.2.2.2.2.2.2≤_
     unfold idled
     split
     ·rcases Kh a.1 with e|⟨e0,e1,e2⟩
      ·omega
      ·have:=e2.2.2
       refine ⟨S,k,i.run (by omega),by omega,?_⟩
       rw [Uy];omega
     ·exact ⟨S,k,i,by omega,by omega⟩
    ·split
     ·obtain ⟨k',j1,j2,j3⟩:=i.brk p
      exact ⟨S,k',j1,by omega,by show (V.brk a.1 p).2.2.2.2.2.2.2≤_;omega⟩
     ·rename_i n1 n2 n3 n4
      exfalso
      unfold actOk at hk
      rw [if_neg n1,if_neg n2,if_neg n3,if_neg n4] at hk
      exact h5 hk.1
 ·exact ⟨S,k,i,by omega,by show a.1.2.2.2.2.2.2.2≤_;omega⟩
theorem Scn.acts {a:ChipD} {S k:Nat} (i:Scn a S k):∀(l:List PkD),(∀c∈l,c.1≠5)→∃S' k',Scn (l.foldl actF (a,[])).1 S' k'∧S'+k'≤S+k+l.length∧(l.foldl actF (a,[])).1.1.2.2.2.2.2.2.2≤a.1.2.2.2.2.2.2.2+400*l.length:=by
 intro l
 induction l generalizing a S k with
 | nil=>exact fun _=>⟨S,k,i,by simp,by simp⟩
 | cons c l ih=>
  intro hl
  obtain ⟨S1,k1,j1,j2,j3⟩:=i.act c.1 c.2.1 c.2.2.1 c.2.2.2.1 c.2.2.2.2 (hl c (by simp))
  obtain ⟨S2,k2,m1,m2,m3⟩:=ih j1 fun d hd=>hl d (List.mem_cons_of_mem _ hd)
  rw [List.foldl_cons]
  have e:actF (a,[]) c=((doAct a c.1 c.2.1 c.2.2.1 c.2.2.2.1 c.2.2.2.2).1,[]++[(doAct a c.1 c.2.1 c.2.2.1 c.2.2.2.1 c.2.2.2.2).2]):=rfl
  rw [e,B7]
  refine ⟨S2,k2,m1,by simp only [List.length_cons];omega,?_⟩
  simp only [List.length_cons]
  show (l.foldl actF ((doAct a c.1 c.2.1 c.2.2.1 c.2.2.2.1 c.2.2.2.2).1,[])).1.1.2.2.2.2.2.2.2≤_
  omega
theorem yi {S k:Nat} (h:S+k≤8):5*(hbOf k+2)*S<400:=by
 have:S≤8-k:=by omega
 refine Nat.lt_of_le_of_lt (Nat.mul_le_mul_left _ this) ?_
 rcases (show k=0∨k=1∨k=2∨k=3∨k=4∨k=5∨k=6∨k=7∨k=8 by omega) with rfl|rfl|rfl|rfl|rfl|rfl|rfl|rfl|rfl<;>decide
theorem Scn.idle400 {a:ChipD} {S k:Nat} (i:Scn a S k) (h:S+k≤8) (ht:a.1.2.2.2.2.2.2.2+400≤1000000):idle (runN a.1 400):=by
 have hn:=i.good.1.1
 have tk:tabsOk (stat a.1):=W9 (x:=stat a.1) hn.1
 obtain ⟨ρ,rk⟩:=Gq (x:=stat a.1) tk i.aA i.aB
 rcases Ii hn (Vl i.good.1.2.2.1) i.good.2 rk 400 (by omega) with h1|h1
 ·exact h1
 ·have:=i.ph;have:=yi h;omega
theorem Scn.safe {a:ChipD} {S k:Nat} (i:Scn a S k):classesOk a.1.1.1 a.1.1.2.1 a.1.1.2.2 a.1.2.1.1 a.1.2.1.2∧dOk (classDeps a.1.1.1 a.1.1.2.1 a.1.1.2.2 a.1.2.1.1 a.1.2.1.2)∧orderOk (prs (classDeps a.1.1.1 a.1.1.2.1 a.1.1.2.2 a.1.2.1.1 a.1.2.1.2)):=
 ⟨i.good.1.1.1,Fm i.good.1.1.1 i.aA i.aB⟩
theorem Scn.new {w h:Int} (g:okG w h):Scn (chipNew w h) 0 0∧(chipNew w h).1.2.2.2.2.2.2.2=0:=by
 have c:=Bp g
 have hcn:=Qe w h
 obtain ⟨N,hN⟩:∃N:Nat,cnt w h=N:=⟨(cnt w h).toNat,by omega⟩
 have e1:(chipNew w h).1.1=(w,h,[]):=c.sp.1
 have e2:(chipNew w h).1.2.1=splitT w h:=c.sp.2
 refine ⟨⟨c.good,by rw [e1];rfl,?_,?_,fun s t cc hs ht hc=>?_,?_⟩,?_⟩
 ·rw [e1,e2];unfold splitT;rw [if_pos g];exact Tw (w:=w) (h:=h) (r:=1) (n:=(cnt w h).toNat) ⟨by omega,by omega⟩ g (by omega)
 ·rw [e1,e2];unfold splitT;rw [if_pos g];exact Tw (w:=w) (h:=h) (r:=2) (n:=(cnt w h).toNat) ⟨by omega,by omega⟩ g (by omega)
 ·exact B3 (x:=stat (chipNew w h).1) g ⟨e1,e2⟩ (W9 (x:=stat (chipNew w h).1) c.good.1.1.1) hs ht hc
 ·have:=c.ph
  have e:(chipNew w h).2=[]:=by unfold chipNew;split<;>rfl
  rw [e] at this
  simpa using this
 ·unfold chipNew;rw [if_pos g]
  unfold netNew;rw [if_pos (Oi g)]
def rTabs (w h ra rb:Int):ClassesD:=(stdTab w ra (cnt w h).toNat,stdTab w rb (cnt w h).toNat)
section
variable {w h ra rb:Int} (g:okG w h) (ha:1≤ra∧ra≤3) (hb:1≤rb∧rb≤3)
include g ha hb
theorem Om:classesOk w h [] (rTabs w h ra rb).1 (rTabs w h ra rb).2:=by
 have hn:cnt w h=((cnt w h).toNat:Int):=by have:=Qe w h;omega
 exact ⟨V6 ⟨by omega,by omega⟩ g hn,V6 ⟨by omega,by omega⟩ g hn⟩
theorem traf0:Scn (netNew (w,h,[]) (rTabs w h ra rb),[]) 0 0:=by
 have hc:=Om g ha hb
 have hn:cnt w h=((cnt w h).toNat:Int):=by have:=Qe w h;omega
 obtain ⟨k1,k2,k3,k4⟩:=Vc (m:=(w,h,[])) (t:=rTabs w h ra rb) hc
 have e:netNew (w,h,[]) (rTabs w h ra rb)=((w,h,[]),rTabs w h ra rb,List.replicate (10*(cnt w h).toNat) [],List.replicate (10*(cnt w h).toNat) (-1),List.replicate (5*(cnt w h).toNat) 0,List.replicate (cnt w h).toNat [],List.replicate (cnt w h).toNat [],0):=by
  unfold netNew;rw [if_pos hc]
 have rep:∀n j,(List.replicate n ([]:List FlitD)).getD j []=[]:=fun n j=>by
  rw [List.getD_eq_getElem?_getD,List.getElem?_replicate]
  split<;>rfl
 refine ⟨Ut k1 (by simp) (fun i hi=>by simp at hi) (we (m:=(w,h,[])) (t:=rTabs w h ra rb) hc),?_,?_,?_,fun s t c hs ht hc2=>?_,?_⟩
 ·show (netNew (w,h,[]) (rTabs w h ra rb)).1.2.2.length=0;rw [k2];rfl
 ·show Acyc (depsOf (netNew (w,h,[]) (rTabs w h ra rb)).1.1 _ _ _);rw [e];exact Tw (w:=w) (h:=h) (r:=ra) (n:=(cnt w h).toNat) ha g hn
 ·show Acyc (depsOf (netNew (w,h,[]) (rTabs w h ra rb)).1.1 _ _ _);rw [e];exact Tw (w:=w) (h:=h) (r:=rb) (n:=(cnt w h).toNat) hb g hn
 ·rw [e] at hs ht ⊢
  have ns:s<(cnt w h).toNat:=hs
  have nt:t<(cnt w h).toNat:=ht
  unfold V.hop
  show (walk w h [] (tabC _ c) s t).length≤6
  unfold tabC
  split
  ·exact (Pi (n:=(cnt w h).toNat) hb g hn (Q9 ns) (Q9 nt)).1
  ·exact (Pi (n:=(cnt w h).toNat) ha g hn (Q9 ns) (Q9 nt)).1
 ·show phi (netNew (w,h,[]) (rTabs w h ra rb))≤_
  rw [e,Ps (rep _) (rep _)];omega
theorem traf {ps:List PkD} (hl:ps.length≤7) (hp:∀q∈ps,packetOk w h q) (hi:∀j,j<ps.length→(ps.getD j pk0).1=(j:Int)+1):∀i,i≤ps.length→
 Scn ((ps.take i).foldl sendP (netNew (w,h,[]) (rTabs w h ra rb)),ps.take i) i 0∧(∀k,(((ps.take i).foldl sendP (netNew (w,h,[]) (rTabs w h ra rb))).2.2.2.2.2.1.getD k []).length≤5*i)∧(∀hlt:i<ps.length,sendOk ((ps.take i).foldl sendP (netNew (w,h,[]) (rTabs w h ra rb))) ps[i]):=by
 have hc:=Om g ha hb
 obtain ⟨n1,n2,n3,n4⟩:=Vc (m:=(w,h,[])) (t:=rTabs w h ra rb) hc
 have kp:=fun i=>Te n1 (ps.take i)
 have ok:∀i,i<ps.length→(∀k,(((ps.take i).foldl sendP (netNew (w,h,[]) (rTabs w h ra rb))).2.2.2.2.2.1.getD k []).length≤5*i)→(hlt:i<ps.length)→sendOk ((ps.take i).foldl sendP (netNew (w,h,[]) (rTabs w h ra rb))) ps[i]:=fun i hi2 hs hlt=>by
  have hq:=hp _ (List.getElem_mem hlt)
  have:=hq.2.2.2.2.2
  unfold inR at this
  refine ⟨by rw [(kp i).m,n2];exact hq,?_⟩
  have:=hs (ps[i]).2.1.toNat
  omega
 intro i
 induction i with
 | zero=>
  intro _
  have e:netNew (w,h,[]) (rTabs w h ra rb)=((w,h,[]),rTabs w h ra rb,List.replicate (10*(cnt w h).toNat) [],List.replicate (10*(cnt w h).toNat) (-1),List.replicate (5*(cnt w h).toNat) 0,List.replicate (cnt w h).toNat [],List.replicate (cnt w h).toNat [],0):=by
   unfold netNew;rw [if_pos hc]
  have s0:∀k,(((ps.take 0).foldl sendP (netNew (w,h,[]) (rTabs w h ra rb))).2.2.2.2.2.1.getD k []).length≤5*0:=fun k=>by
   show ((netNew (w,h,[]) (rTabs w h ra rb)).2.2.2.2.2.1.getD k []).length≤0
   rw [e,List.getD_eq_getElem?_getD,List.getElem?_replicate]
   split<;>simp
  exact ⟨traf0 g ha hb,s0,fun hlt=>ok 0 hlt s0 hlt⟩
 | succ i ih=>
  intro hle
  obtain ⟨j1,j2,j3⟩:=ih (by omega)
  have hlt:i<ps.length:=by omega
  have so:=j3 hlt
  obtain ⟨X,hX⟩:∃X,X=(ps.take i).foldl sendP (netNew (w,h,[]) (rTabs w h ra rb)):=⟨_,rfl⟩
  have Xk:netOk X:=by rw [hX];exact (kp i).ok
  rw [← hX] at j1 j2 so
  obtain ⟨p,hpp⟩:∃p,p=ps[i]:=⟨_,rfl⟩
  rw [← hpp] at so
  have st:(ps.take (i+1)).foldl sendP (netNew (w,h,[]) (rTabs w h ra rb))=sendNet X p:=by
   rw [List.take_succ_eq_append_getElem hlt,List.foldl_append,← hX,← hpp]
   show sendP X p=_
   unfold sendP;rw [if_pos ⟨Xk,so⟩]
  have tk:ps.take (i+1)=ps.take i++[p]:=by rw [List.take_succ_eq_append_getElem hlt,hpp]
  have id:p.1=(i:Int)+1:=by
   have:=hi i hlt
   rw [List.getD_eq_getElem?_getD,List.getElem?_eq_getElem hlt] at this
   rw [hpp];exact this
  have tl:(ps.take i).length=i:=by simp;omega
  have np:nextP (X,ps.take i) p.2.1 p.2.2.1 p.2.2.2.1 p.2.2.2.2=p:=by
   unfold nextP
   show ((((ps.take i).length:Nat):Int)+1,_)=p
   rw [tl,← id]
  have sd:=j1.send p.2.1 p.2.2.1 p.2.2.2.1 p.2.2.2.2
  have cs:chipSend (X,ps.take i) p.2.1 p.2.2.1 p.2.2.2.1 p.2.2.2.2=(sendNet X p,ps.take i++[p]):=by
   unfold chipSend
   rw [np,if_pos]
   exact ⟨j1.good.1,by show (ps.take i).length≠200;omega,so⟩
  rw [cs] at sd
  have s1:∀k,((sendNet X p).2.2.2.2.2.1.getD k []).length≤5*(i+1):=fun k=>by
   show ((X.2.2.2.2.2.1.set p.2.1.toNat (X.2.2.2.2.2.1.getD p.2.1.toNat []++flitsOf X.1.1 X.1.2.1 p)).getD k []).length≤_
   have f1:=Z3 so.1
   have f2:=so.1.2.2.2.2.2
   unfold inR at f2
   have a1:=j2 k
   have a2:=j2 p.2.1.toNat
   rw [List.getD_eq_getElem?_getD,List.getElem?_set]
   split
   ·split
    ·rw [Option.getD_some,List.length_append];omega
    ·simp
   ·rw [← List.getD_eq_getElem?_getD];omega
  rw [st,tk]
  refine ⟨sd,s1,fun hlt2=>?_⟩
  have:=ok (i+1) hlt2 (by rw [st];exact s1) hlt2
  rw [st] at this
  exact this
end
theorem Scn.toIdle {a:ChipD} {S k:Nat} (i:Scn a S k) (h:S+k≤8) (ht:a.1.2.2.2.2.2.2.2+400≤1000000):0≤idleAt a.1∧V.idle (idled a.1)∧Scn (idled a.1,a.2) S k:=by
 have h400:=i.idle400 h ht
 have hr:runs a.1 400:=⟨i.good.1.1,⟨by omega,by omega⟩,by omega⟩
 have hi:0≤idleAt a.1∧V.idle (runN a.1 (idleAt a.1).toNat)∧idleAt a.1≤400:=by
  unfold idleAt
  rw [if_pos hr]
  cases hf:(List.range 401).find? fun j=>decide (V.idle (runN a.1 j)) with
  | none=>
   have:=List.find?_eq_none.1 hf 400 (List.mem_range.2 (by omega))
   simp [h400] at this
  | some j=>
   have h1:=List.find?_some hf
   have h2:=List.mem_range.1 (List.mem_of_find?_eq_some hf)
   simp only [decide_eq_true_eq] at h1
   refine ⟨by simp,?_,by simp;omega⟩
   simpa using h1
 have e2:idled a.1=runN a.1 (idleAt a.1).toNat:=by unfold idled;rw [if_pos hi.1]
 rw [e2]
 exact ⟨hi.1,hi.2.1,i.run (n:=(idleAt a.1).toNat) (by omega)⟩
end Go.Proofs.YtaldglgobgjeaaaGreat.V
set_option linter.all false
namespace Go.Proofs.YtaldglgobgjeaaaGreat.V
open Go Go.VM Go.Proofs
set_option maxRecDepth 10000
variable {frz:Nat} {H:Heap}
theorem yq {v:NetV} {x:NetD} (o:dNet.Ow H v x) (hn:netOk x) (hb:x.1.2.2.length≤64) (hs:dOk (classDeps x.1.1 x.1.2.1 x.1.2.2 x.2.1.1 x.2.1.2)∧orderOk (prs (classDeps x.1.1 x.1.2.1 x.1.2.2 x.2.1.1 x.2.1.2))) :
 vcall C frz 14 [dNet.val v x] H=some (.bool true,H):=by
 have nk:=fun F L=>Sd (frz:=F) (H:=H++L) (v:=v) (x:=x) (Dt.app (T:=dNet) o)
 have ones:=Qk o
 have hc:=hn.1
 obtain ⟨u2,⟨u3,u4⟩,⟨u5,h5⟩,u6,u7,⟨u8,h8⟩,⟨u9,h9⟩,_⟩:=v
 obtain ⟨⟨w,h,b⟩,⟨A,B⟩,buf,own,turn,src,arr,tm⟩:=x
 obtain ⟨o2,o3,o5,o6,o7,o8,o9,_⟩:=o
 simp only at o2 o3 o5 o6 o7 o8 o9 ones hb hs hc
 rw [Ql]
 simp only [Ql] at nk
 refine wp.exact (by simp) ?_ rfl
 rw [Qa (fn:=Tryz.f14) Tryz.func14 rfl (by kernel_rfl) rfl]
 have i2:IsI H u2 b:=o2.1.rd.isI
 have i3:IsI H u3 A:=o3.1.1.rd.isI
 have i4:IsI H u4 B:=o3.2.1.rd.isI
 have cc:=fun F L=>O5 (frz:=F) w h u2 u3 u4 b A B (i2.app L) (i3.app L) (i4.app L) (by omega) hc hs
 simp [ones,nk,hn]
 refine Qd (cc _ _) ?_
 rintro _ H2 ⟨z,y,rk,cy,rfl,rz,ry,c2,nz,ny⟩
 simp
theorem Jn {v:NetV} {x:NetD} {lv:Value} {xs:List PkD} (hx:netOk x) (hall:∀i,(hi:i<xs.length)→sendOk ((xs.take i).foldl sendP x) xs[i]) (o:dNet.Ow H v x) (hl:Rd pkF H lv xs) (hn:xs.length≤40) :
 wp (vcall C frz 8 [dNet.val v x,lv] H) (fun u H'=>∃n,u=.tuple #[n,.int .i64 xs.length]∧dNet.Made H (xs.foldl sendP x) n H'):=by
 have ones:=Qk o
 have ecopy:=fun L=>Vr (frz:=H.length) (H:=H++L) (v:=v) (x:=x) (Dt.app (T:=dNet) o)
 have nk:=fun F K (c:Chg H K [])=>Sd (frz:=F) (H:=K) (v:=v) (x:=x) (Dt.chg (T:=dNet) o c (by simp))
 simp only [Ql] at ecopy nk ⊢
 rw [Qa (fn:=Tryz.f8) Tryz.func8 rfl (by kernel_rfl) rfl]
 simp [ones]
 refine Qd (ecopy _) ?_
 rintro _ K ⟨n,rfl,on,cn,mn,dn⟩
 simp at mn
 have qn:=Qk on
 have lK:=cn.1
 simp at lK
 have hF:H.length≤K.length:=by omega
 have ltn:∀i∈dNet.ids n,i<K.length:=fun i hi=>dNet.lt on i hi
 simp [Ql,qn,VM.look,hF]
 obtain ⟨K1,hK1⟩:∃K1,K1=K++[⟨netCells n x,0,38⟩]:=⟨_,rfl⟩
 have c1:Chg K K1 []:=by rw [hK1];exact Chg.app _
 have cK:Chg H K []:=(Chg.app _).trans cn
 have cK1:=cK.trans c1
 have l1:K1.length=K.length+1:=by rw [hK1];simp
 have b1:K1[H.length]? = some ⟨netCells v x,0,38⟩:=Qb (Qb (by simp [netCells]) cn (by simp)) c1 (by simp)
 have bR:K1[H.length+1]? = some ⟨zNet0,0,38⟩:=Qb (Qb (by simp [zNet0]) cn (by simp)) c1 (by simp)
 have b3:K1[K.length]? = some ⟨netCells n x,0,38⟩:=by rw [hK1];simp
 have on1:=Dt.chg (T:=dNet) on c1 (by simp)
 have hKs:K++[⟨netCells n x,0,38⟩]=K1:=hK1.symm
 have b1':=b1
 unfold netCells at hKs b1'
 rw [hKs]
 clear hK1 hKs
 have nk':=fun F=>nk F K1 cK1
 have hF1:H.length≤H.length+1:=by omega
 have hl1:=hl.chg cK1 (by simp)
 have lv1:=hl1.len (P:=Tryz.prog) (ty:=33) (by simp)
 have h40:¬(40:Int)<xs.length:=by omega
 have one1:=And.intro hl1.one' hl1.cells
 have h40':¬40<xs.length:=by omega
 simp [VM.look,b1',ones,nk',hx,lv1,h40,h40']
 have insrc:=fun n=>Zk (n:=n)
 refine Qg (fun q t J=>∃(i:Nat) (w:NetV),q=xs.length-i∧i≤xs.length∧t 4=.pointer (some ⟨H.length+1,0,some 0⟩)∧t 6=.pointer (some ⟨K.length,0,some 0⟩)∧t 21=lv∧t 22=.int .i64 xs.length∧t 7=.int .i64 i∧t 23=.int .i64 i∧
  J[K.length]? = some ⟨netCells w ((xs.take i).foldl sendP x),0,38⟩∧dNet.Ow J w ((xs.take i).foldl sendP x)∧(dNet.ids w).Nodup∧(∀j∈dNet.ids w,H.length+2≤j∧j≠K.length)∧J[H.length+1]? = some ⟨zNet0,0,38⟩∧Chg H J []) ?_ (n:=xs.length)
  ⟨0,n,rfl,by omega,by simp,by simp,by simp,by simp,by simp,by simp,b3,on1,dn,fun j hj=>by have:=mn j hj;have:=ltn j hj;omega,bR,cK1⟩
 rintro q t J ⟨i,w,rfl,hi,t4,t6,t21,t22,t7,t23,bJ,oJ,dJ,mJ,bRJ,cJ⟩ ih
 obtain ⟨X,hX⟩:∃X,X=(xs.take i).foldl sendP x:=⟨_,rfl⟩
 have hXk:netOk X:=by rw [hX];exact (Te hx (xs.take i)).ok
 rw [← hX] at bJ oJ
 simp [t4,t6,t7,t21,t22,t23]
 have lK':=Qu b3
 refine Qc ?_ ?_<;>intro hlt
 ·have so:=hall i (by omega)
  rw [← hX] at so
  have hl1:=hl.chg cJ (by simp)
  have q1:=hl1.idx (P:=Tryz.prog) (ty:=33) (e:=73) (by simp) (i:=(i:Int)) (by omega) (by omega)
  have q2:=hl1.load (P:=Tryz.prog) (e:=73) (by simp) (j:=i) (by omega)
  have step:(xs.take (i+1)).foldl sendP x=sendNet X (xs[i]'(by omega)):=by
   rw [List.take_succ_eq_append_getElem (by omega),List.foldl_append,← hX]
   show sendP X _=_
   unfold sendP;rw [if_pos ⟨hXk,so⟩]
  obtain ⟨p,hp⟩:∃p,p=xs[i]'(by omega):=⟨_,rfl⟩
  rw [← hp] at so q2 step
  simp only [Qel,Int.toNat_natCast] at q1 q2
  obtain ⟨p1,p2,p3,p4,p5⟩:=p
  obtain ⟨K2,hK2⟩:∃K2,K2=J++[⟨[.int .i64 p1,.int .i64 p2,.int .i64 p3,.int .i64 p4,.int .i64 p5],0,73⟩]:=⟨_,rfl⟩
  have c2:Chg J K2 []:=by rw [hK2];exact Chg.app _
  have bP:K2[J.length]? = some ⟨[.int .i64 p1,.int .i64 p2,.int .i64 p3,.int .i64 p4,.int .i64 p5],0,73⟩:=by rw [hK2];simp
  have b32:=Qb bJ c2 (by simp)
  have bR2:=Qb bRJ c2 (by simp)
  have on2:=Dt.chg (T:=dNet) oJ c2 (by simp)
  have hKs:=hK2.symm
  have l1':=cJ.1
  have hFK1:H.length≤J.length:=by omega
  have sw:=Qbs (frz:=H.length) (H:=K2) (v:=w) (x:=X) (p:=(p1,p2,p3,p4,p5)) (id:=K.length) (e:=38) (tail:=[]) (by rw [List.append_nil];exact b32) on2 dJ (fun i hi=>by have:=mJ i hi;omega) (fun hh=>(mJ _ hh).2 rfl) hXk.2.1.2.2.2.1 (fun l hl=>(hXk.2.2.2.1 l hl).1)
  rw [decide_eq_true so] at sw
  simp only [if_pos so,pkV] at sw
  have w1:∀[Inhabited Unit],IntKind.i64.wrap ((i:Int)+1)=((i+1:Nat):Int):=by intro _;rw [w64 (by omega) (by omega)];omega
  simp [t4,t6,t7,t21,t22,t23,q1,q2,jb,hFK1]
  rw [hKs]
  clear hK2 hKs
  try simp [t4,t6,t7,t21,t22,t23,VM.look,bP]
  refine Qd sw ?_
  rintro _ K3 ⟨rfl,hs',o3,d3,i3,c3⟩
  have b33:=Qb b32 c3 (fun hh=>(mJ _ (insrc w _ hh)).2 rfl)
  have bR3:=Qb bR2 c3 (fun hh=>by have:=(mJ _ (insrc w _ hh)).1;omega)
  have l2:=c2.1
  have lJ:=Qu bJ
  simp [t4,t6,t7,t21,t22,t23,w1]
  refine ih (xs.length-(i+1)) _ _ ⟨i+1,putSrc w (w.2.2.2.2.2.1.1,hs'),rfl,by omega,by simp [t4],by simp [t6],by simp [t21],by simp [t22],by simp,by simp,?_,?_,d3,fun j hj=>?_,bR3,((cJ.trans c2).trans' c3 (fun i hi=>.inr (by have:=(mJ _ (insrc w _ hi)).1;omega)))⟩ (by omega)
  ·rw [step];exact b33
  ·rw [step];exact o3
  ·rcases i3 j hj with g|g
   ·exact mJ j g
   ·omega
 ·have e:i=xs.length:=by omega
  rw [e,List.take_length] at hX
  have oneJ:=Qk oJ
  have gR:=Qo (r':=⟨netCells w X,0,38⟩) bRJ
  unfold zNet0 at bRJ
  unfold netCells at bJ gR
  rw [← hX,e]
  simp [t4,t6,t7,t21,t22,t23,VM.look,bJ,bRJ,gR,oneJ,hF1]
  refine ⟨_,⟨rfl,by omega⟩,w,rfl,Dt.chg (T:=dNet) oJ (Qh _ _) (fun j hj hh=>by have:=mJ j hj;simp at hh;omega),cJ.trans' (Qh _ _) (fun j hj=>.inr (by simp at hj;omega)),fun j hj=>by have:=mJ j hj;omega,dJ⟩
end Go.Proofs.YtaldglgobgjeaaaGreat.V
set_option linter.all false
namespace Go.Proofs.YtaldglgobgjeaaaGreat.V
open Go Go.VM Go.Proofs
set_option maxRecDepth 10000
variable {frz:Nat} {H:Heap} {r:Nat} {vb:Value} {code:List Int}
theorem Cur.chg0 {J K:Heap} (c:Cur J r vb code) (h:Chg J K []):Cur K r vb code:=c.chg h (by simp) (by simp)
theorem Od {α:Type} {D:Fl α} {e:TypeId} {v:Value} {xs:List α} (h:Ow D e H v xs):live1 H v:=by
 rcases h with ⟨rfl,_⟩|⟨id,off,r,rfl,h2,_⟩
 ·trivial
 ·show VM.look H ⟨id,off,some r.gen⟩≠none
  simp [VM.look,h2]
end Go.Proofs.YtaldglgobgjeaaaGreat.V
set_option linter.all false
namespace Go.Proofs.YtaldglgobgjeaaaGreat.V
open Go Go.VM Go.Proofs
set_option maxRecDepth 10000
variable {frz:Nat} {H:Heap} {vb:Value} {code:List Int}
def TrafS (H:Heap) (u:Value) (H':Heap):Prop:=∃(w h ra rb:Int) (vc:Value×Value) (lv:Value) (xs:List PkD),u=.tuple #[.agg #[.int .i64 w,.int .i64 h,.slice none 0 0],.agg #[vc.1,vc.2],lv]∧okG w h∧(1≤ra∧ra≤3)∧(1≤rb∧rb≤3)∧2≤cnt w h∧dClasses.Ow H' vc (stdTab w ra (cnt w h).toNat,stdTab w rb (cnt w h).toNat)∧Ow pkF 73 H' lv xs∧(xs.length≤7∧(∀q∈xs,packetOk w h q)∧∀j,j<xs.length→(xs.getD j pk0).1=(j:Int)+1)∧Chg H H' []
theorem Eg (vb:Value) (code:List Int) (hb:Rd Fl.u8 H vb code) (hl:code.length≤1073741824):wp (vcall C frz 6 [vb] H) (fun u H'=>TrafS H u H'):=by
 rw [Qa (fn:=Tryz.f6) Tryz.func6 rfl (by kernel_rfl) rfl]
 simp
 refine Qd (Js vb code hb.app hl) ?_
 rintro _ J ⟨r,rfl,hr,c,ch⟩
 have cJ:Chg H J []:=(Chg.app []).trans ch
 have bR:J[H.length]? = some ⟨[.int .i64 0,.int .i64 0,.slice none 0 0],0,28⟩:=Qb (by simp) ch (by simp)
 have bS:J[H.length+1]? = some ⟨[.slice none 0 0,.slice none 0 0],0,32⟩:=Qb (by simp) ch (by simp)
 simp at hr
 have lt:=c.lt
 have vlt:=c.vlt
 have hfr:H.length≤r:=by omega
 simp
 refine Qd (B5 c hfr) ?_
 rintro _ K ⟨⟨w,h,rfl,hg,h2⟩,c1,d1⟩
 have cK:Chg J K [r]:=c1
 have lJ:=cJ.1
 have lK:=c1.1
 have bR:=Qb bR c1 (by simp;omega)
 have bS:=Qb bS c1 (by simp;omega)
 have hFK:H.length≤K.length:=by omega
 obtain ⟨K1,hK1⟩:∃K1,K1=K++[⟨[.int .i64 w,.int .i64 h],0,25⟩]:=⟨_,rfl⟩
 have cK1:Chg K K1 []:=by rw [hK1];exact Chg.app _
 have l1:K1.length=K.length+1:=by rw [hK1];simp
 have bG:K1[K.length]? = some ⟨[.int .i64 w,.int .i64 h],0,25⟩:=by rw [hK1];simp
 have bR:=Qb bR cK1 (by simp)
 have bS:=Qb bS cK1 (by simp)
 have d1:=d1.chg0 cK1
 have hKs:=hK1.symm
 simp [hFK]
 rw [hKs]
 clear hK1 hKs
 obtain ⟨N,hN⟩:∃N:Nat,cnt w h=N:=⟨(cnt w h).toNat,by have:=Qe w h;omega⟩
 have lvG:∀J:Heap,VM.live J (.agg #[.int .i64 w,.int .i64 h]):=fun J c hc=>by simp at hc;rcases hc with rfl|rfl<;>trivial
 rw [zb (fl:=([0,2,4],[12])) (pl:=[0,1,5,6,11,2,3,4,7,8,9,10,12]) (h:=⟨by kernel_rfl,by kernel_rfl,by kernel_rfl,by kernel_rfl,by kernel_rfl,by kernel_rfl⟩)]
 have bGL:=fun L=>Qn bG L
 simp [permA,renO,emps,empOp,empB,VM.look,bG,bGL,lvG]
 obtain ⟨K0,hK0⟩:∃K0,K0=K1++[⟨[.slice none 0 0,.slice none 0 0],0,32⟩]:=⟨_,rfl⟩
 have c0:Chg K1 K0 []:=by rw [hK0];exact Chg.app _
 have l0:K0.length=K1.length+1:=by rw [hK0];simp
 have bC:K0[K1.length]? = some ⟨[.slice none 0 0,.slice none 0 0],0,32⟩:=by rw [hK0];simp
 have bG:=Qb bG c0 (by simp)
 have bR:=Qb bR c0 (by simp)
 have bS:=Qb bS c0 (by simp)
 have d1:=d1.chg0 c0
 have hKs:=hK0.symm
 try rw [hKs]
 clear hK0 hKs
 have bl:=Wu (frz:=H.length) d1 hfr 3 (by decide) (by decide)
 refine T8 (by simpa using bl) ?_
 rintro _ K2 ⟨⟨x,rfl,hx⟩,c2,d2⟩
 have e1:=@w6 (1+(x:Int)) (by omega)
 have bG:=Qb bG c2 (by simp;omega)
 have bR:=Qb bR c2 (by simp;omega)
 have bS:=Qb bS c2 (by simp;omega)
 have bC:=Qb bC c2 (by simp;omega)
 refine ⟨by simp [VM.look,bG,bC,lvG],?_⟩
 simp [e1]
 refine T8 (M9 w h (1+x) N (by omega) hg hN) ?_
 rintro _ K3 ⟨v1,rfl,o1,c3,m1,n1⟩
 have d3:=d2.chg0 c3
 have q1:=X5 o1
 have bG:=Qb bG c3 (by simp)
 have bR:=Qb bR c3 (by simp)
 have bS:=Qb bS c3 (by simp)
 have bC:=Qb bC c3 (by simp)
 refine ⟨by simp [VM.look,bG,bC,lvG],?_⟩
 have l2:=c2.1
 have l3:=c3.1
 simp [X3,VM.look,bG,lvG]
 have bl:=Wu (frz:=H.length) d3 hfr 3 (by decide) (by decide)
 refine T8 (by simpa using bl) ?_
 rintro _ K4 ⟨⟨y,rfl,hy⟩,c4,d4⟩
 have e2:=@w6 (1+(y:Int)) (by omega)
 have bG:=Qb bG c4 (by simp;omega)
 have bR:=Qb bR c4 (by simp;omega)
 have bS:=Qb bS c4 (by simp;omega)
 have bC:=Qb bC c4 (by simp;omega)
 refine ⟨by simp [VM.look,bG,bC,lvG],?_⟩
 have o1:=Dt.chg (T:=dTable) o1 c4 (fun i hi hh=>by have:=m1 i hi;simp at hh;omega)
 simp [e2]
 refine T8 (M9 w h (1+y) N (by omega) hg hN) ?_
 rintro _ K5 ⟨v2,rfl,o2,c5,m2,n2⟩
 have d5:=d4.chg0 c5
 have q2:=X5 o2
 have bG:=Qb bG c5 (by simp)
 have bR:=Qb bR c5 (by simp)
 have bS:=Qb bS c5 (by simp)
 have bC:=Qb bC c5 (by simp)
 refine ⟨by simp [VM.look,bG,bC,lvG],?_⟩
 have o1:=Dt.chg (T:=dTable) o1 c5 (by simp)
 have l4:=c4.1
 have l5:=c5.1
 have hFK1:H.length≤K1.length:=by omega
 have bG5:=bG
 have bC5:=bC
 have gC5:=Qo (r':=⟨[v1,v2],0,32⟩) bC
 obtain ⟨K6,hK6⟩:∃K6,K6=K5.set K1.length ⟨[v1,v2],0,32⟩:=⟨_,rfl⟩
 have c56:Chg K5 K6 [K1.length]:=by rw [hK6];exact Qh _ _
 have l6:K6.length=K5.length:=by rw [hK6];simp
 have bC:K6[K1.length]? = some ⟨[v1,v2],0,32⟩:=by rw [hK6];exact gC5
 have bG:=Qb bG c56 (by simp;omega)
 have bR:=Qb bR c56 (by simp;omega)
 have bS:=Qb bS c56 (by simp;omega)
 have d6:=d5.chg c56 (by simp;omega) (fun i hi hh=>by have:=vlt i hi;simp at hh;omega)
 have oc:dClasses.Ow K6 (v1,v2) (stdTab w (1+x) N,stdTab w (1+y) N):=⟨Dt.chg (T:=dTable) o1 c56 (fun i hi hh=>by have:=m1 i hi;simp at hh;omega),Dt.chg (T:=dTable) o2 c56 (fun i hi hh=>by have:=m2 i hi;simp at hh;omega)⟩
 have cK6:Chg J K6 [r]:=(((((((cK.trans (cK1.mono (fun _ h=>by cases h))).trans (c0.mono (fun _ h=>by cases h))).trans c2).trans (c3.mono (fun _ h=>by cases h))).trans c4).trans (c5.mono (fun _ h=>by cases h)))).trans' c56 (fun i hi=>.inr (by simp at hi;omega))
 have hKs:=hK6.symm
 simp [X3,q1,q2,hFK1,VM.look,bG5,bC5,lvG]
 rw [hKs]
 clear hK6 hKs
 have onc:=Q5 oc
 have hcl:classesOk w h [] (stdTab w (1+x) N) (stdTab w (1+y) N):=⟨V6 (by omega) hg hN,V6 (by omega) hg hN⟩
 have lvC:∀M t,dClasses.Ow M (v1,v2) t→VM.live M (.agg #[v1,v2]):=fun M t o=>by
  have a2:=Od o.1.1
  have a3:=Od o.2.1
  intro c hc
  simp at hc
  rcases hc with rfl|rfl<;>assumption
 have lc6:=lvC _ _ oc
 have one1:=onc.1
 have one2:=onc.2
 try simp
 rw [Tl (fl:=([0,2],[7])) (h:=⟨by kernel_rfl,by kernel_rfl,by kernel_rfl,by kernel_rfl⟩)]
 simp [emps,empOp,empB,VM.look,bG,bC,lvG,lc6,one1,one2]
 refine T8 (Nr (frz:=H.length) hg h2 d6 hfr) ?_
 rintro lp K9 ⟨ps,op,hps,mp,c9,d9⟩
 have l9:=c9.1
 have bG9:=Qb bG c9 (by simp;omega)
 have bC9:=Qb bC c9 (by simp;omega)
 have bR9:=Qb bR c9 (by simp;omega)
 have bS9:=Qb bS c9 (by simp;omega)
 have oc9:=Dt.chg (T:=dClasses) oc c9 (fun i hi hh=>by
  simp at hh
  rcases List.mem_append.1 hi with g|g
  ·have:=m1 i g;omega
  ·have:=m2 i g;omega)
 have lc9:=lvC _ _ oc9
 have lvp:=Od op
 have onp:VM.one lp=true∧lp.cells=#[lp]:=⟨op.rd.one',op.rd.cells⟩
 refine ⟨by simp [VM.look,bG9,bC9,lvG,lc9,one1,one2],?_⟩
 have gR:=Qo (r':=⟨[.int .i64 w,.int .i64 h,.slice none 0 0],0,28⟩) bR9
 have cA:Chg K9 (K9.set H.length ⟨[.int .i64 w,.int .i64 h,.slice none 0 0],0,28⟩) [H.length]:=Qh _ _
 have bS10:=Qb bS9 cA (by simp)
 have gS:=Qo (r':=⟨[v1,v2],0,32⟩) bS10
 have cB:Chg (K9.set H.length ⟨[.int .i64 w,.int .i64 h,.slice none 0 0],0,28⟩) ((K9.set H.length ⟨[.int .i64 w,.int .i64 h,.slice none 0 0],0,28⟩).set (H.length+1) ⟨[v1,v2],0,32⟩) [H.length+1]:=Qh _ _
 have gR2:=Qb gR cB (by simp)
 have bG10:=Qb bG9 cA (by simp;omega)
 have bC10:=Qb bC9 cA (by simp;omega)
 have oc10:=Dt.chg (T:=dClasses) oc9 cA (fun i hi hh=>by
  simp at hh
  rcases List.mem_append.1 hi with g|g
  ·have:=m1 i g;omega
  ·have:=m2 i g;omega)
 have lc10:=lvC _ _ oc10
 have oc11:=Dt.chg (T:=dClasses) oc10 cB (fun i hi hh=>by
  simp at hh
  rcases List.mem_append.1 hi with g|g
  ·have:=m1 i g;omega
  ·have:=m2 i g;omega)
 have op11:=(op.chg cA (fun i hi hh=>by have:=mp i hi;simp at hh;omega)).chg cB (fun i hi hh=>by have:=mp i hi;simp at hh;omega)
 have cE:Chg H ((K9.set H.length ⟨[.int .i64 w,.int .i64 h,.slice none 0 0],0,28⟩).set (H.length+1) ⟨[v1,v2],0,32⟩) []:=(((cJ.trans' cK6 (fun i hi=>.inr (by simp at hi;omega))).trans' c9 (fun i hi=>.inr (by simp at hi;omega))).trans' cA (fun i hi=>.inr (by simp at hi;omega))).trans' cB (fun i hi=>.inr (by simp at hi;omega))
 have hM:TrafS H (.tuple #[.agg #[.int .i64 w,.int .i64 h,.slice none 0 0],.agg #[v1,v2],lp]) ((K9.set H.length ⟨[.int .i64 w,.int .i64 h,.slice none 0 0],0,28⟩).set (H.length+1) ⟨[v1,v2],0,32⟩):=
  ⟨w,h,1+x,1+y,(v1,v2),lp,ps,rfl,hg,⟨by omega,by omega⟩,⟨by omega,by omega⟩,h2,by rw [hN];exact oc11,op11,hps,cE⟩
 simp [VM.look,bR9,gR,bS10,gS,gR2,one1,one2,onp,bG9,bC9,lvG,lc9,lvp,bG10,bC10,lc10]
 exact hM
end Go.Proofs.YtaldglgobgjeaaaGreat.V
set_option linter.all false
namespace Go.Proofs.YtaldglgobgjeaaaGreat.V
open Go Go.VM Go.Proofs
set_option maxRecDepth 10000
variable {frz:Nat} {H:Heap}
theorem I9 (a b:Value) (xs ys:List FlitD) (ha:Rd flF H a xs) (hb:Rd flF H b ys) (hl:xs.length≤1073741824) :
 vcall C frz 75 [a,b] H=some (.bool (decide (xs=ys)),H):=by
 rw [Qa (fn:=Tryz.f75) Tryz.func75 rfl (by kernel_rfl) rfl]
 simp [jt a b xs ys ha hb hl]
theorem Gm (a b:Value) (hs gs:List Value) (xs ys:SSD) (ha:RdL flF H a hs xs) (hb:RdL flF H b gs ys) (hl:xs.length≤1073741824) (hl2:∀l∈xs,l.length≤1073741824) :
 vcall C frz 74 [a,b,.func (.func 75) #[] #[]] H=some (.bool (decide (xs=ys)),H):=by
 refine wp.exact (by simp) ?_ rfl
 rw [Qa (fn:=Tryz.f74) Tryz.func74 rfl (by kernel_rfl) rfl]
 generalize hY:decide (xs=ys)=Y
 have la:=ha.1.len (P:=Tryz.prog) (ty:=36) (by simp)
 have lb:=hb.1.len (P:=Tryz.prog) (ty:=36) (by simp)
 have ea:=ha.2.1
 have eb:=hb.2.1
 have no:¬xs=ys→Y=false:=fun hh=>by rw [← hY];exact decide_eq_false hh
 simp [la,lb,ea,eb]
 refine Qc ?_ ?_<;>intro h0
 ·have h0':xs.length=ys.length:=by omega
  simp [la,ea]
  refine Qg (fun n t H'=>∃i:Nat,n=xs.length-i∧i≤xs.length∧t 1=b∧t 2=.func (.func 75) #[] #[]∧t 15=a∧t 16=.int .i64 xs.length∧t 17=.int .i64 i∧H'=H∧xs.take i=ys.take i) ?_ (n:=xs.length) ⟨0,rfl,by omega,by simp,by simp,by simp,by simp,by simp,rfl,by simp⟩
  rintro n t H' ⟨i,rfl,hi,t1,t2,t15,t16,t17,rfl,h4⟩ ih
  simp [t1,t2,t15,t16,t17]
  refine Qc ?_ ?_<;>intro h
  ·have hx:i<xs.length:=by omega
   have hy:i<ys.length:=by omega
   obtain ⟨p,_,a2,a3,a4⟩:=Xi ha (ty:=36) (e:=109) (by simp) (by simp) hx
   obtain ⟨q,_,b2,b3,b4⟩:=Xi hb (ty:=36) (e:=109) (by simp) (by simp) hy
   have eq:=fun F=>I9 (frz:=F) p q xs[i] ys[i] a4 b4 (hl2 _ (List.getElem_mem hx))
   simp [t1,t2,t15,t16,t17,a2,a3,b2,b3,eq]
   refine Qc ?_ ?_<;>intro h5
   ·simp [t1,t2,t15,t16,t17]
    refine ih (xs.length-(i+1)) _ _ ⟨i+1,rfl,by omega,by simp [t1],by simp [t2],by simp [t15],by simp [t16],?_,rfl,?_⟩ (by omega)
    ·simp;rw [w64 (by omega) (by omega)]
    ·rw [List.take_succ_eq_append_getElem hx,List.take_succ_eq_append_getElem hy,h4,h5]
   ·simp [t1,t2,t15,t16,t17]
    exact no (fun hh=>h5 (by subst hh;rfl))
  ·have:i=xs.length:=by omega
   subst this
   rw [List.take_length,List.take_of_length_le (by omega)] at h4
   simp [t1,t2,t15,t16,t17]
   rw [← hY];exact decide_eq_true h4
 ·simp
  exact no (fun hh=>h0 (by rw [hh]))
theorem Fg (a b:Value) (hs gs:List Value) (xs ys:SSD) (ha:RdL flF H a hs xs) (hb:RdL flF H b gs ys) (hl:xs.length≤1073741824) (hl2:∀l∈xs,l.length≤1073741824) :
 vcall C frz 41 [a,b] H=some (.bool (decide (xs=ys)),H):=by
 rw [Qa (fn:=Tryz.f41) Tryz.func41 rfl (by kernel_rfl) rfl]
 simp [Gm a b hs gs xs ys ha hb hl hl2]
theorem Ur {a b:SSV} {x y:SSD} (ha:dSS.Ow H a x) (hb:dSS.Ow H b y):vcall C frz 41 [a.1,b.1] H=some (.bool (decide (x=y)),H):=
 Fg a.1 b.1 a.2 b.2 x y ha.1.rd hb.1.rd (by have:=ha.2.1;omega) (fun l hl=>by have:=ha.2.2 l hl;omega)
theorem Uu {a b:Value} {x y:List Int} (ha:dIntS.Ow H a x) (hb:dIntS.Ow H b y):vcall C frz 42 [a,b] H=some (.bool (decide (x=y)),H):=
 wr a b x y ha.1.rd hb.1.rd ha.2
theorem E3 {a b:Value} {w h w' h':Int} {x y:List Int} (ha:dMesh.Ow H a (w,h,x)) (hb:dMesh.Ow H b (w',h',y)) :
 vcall C frz 39 [.agg #[.int .i64 w,.int .i64 h,a],.agg #[.int .i64 w',.int .i64 h',b]] H=some (.bool ((w == w'&&h == h')&&decide (x=y)),H):=by
 rw [Qa (fn:=Tryz.f39) Tryz.func39 rfl (by kernel_rfl) rfl]
 have oa:=Xb ha
 have ob:=Xb hb
 have e:=fun F L=>Uu (frz:=F) (H:=H++L) (Dt.app (T:=dIntS) ha) (Dt.app (T:=dIntS) hb)
 simp only at e oa ob
 generalize decide (x=y)=Q at *
 simp [oa,ob]
 cases hP:(w == w')<;>cases hP2:(h == h')<;>simp [oa,ob,e]
theorem N0 {a b:Value×Value} {x y:ClassesD} (ha:dClasses.Ow H a x) (hb:dClasses.Ow H b y) :
 vcall C frz 40 [.agg #[a.1,a.2],.agg #[b.1,b.2]] H=some (.bool (decide (x.1=y.1)&&decide (x.2=y.2)),H):=by
 rw [Qa (fn:=Tryz.f40) Tryz.func40 rfl (by kernel_rfl) rfl]
 have oa:=Q5 ha
 have ob:=Q5 hb
 have e1:=fun F L=>Uu (frz:=F) (H:=H++L) (Dt.app (T:=dIntS) ha.1) (Dt.app (T:=dIntS) hb.1)
 have e2:=fun F L=>Uu (frz:=F) (H:=H++L) (Dt.app (T:=dIntS) ha.2) (Dt.app (T:=dIntS) hb.2)
 generalize decide (x.1=y.1)=Q1 at *
 generalize decide (x.2=y.2)=Q2 at *
 simp [oa,ob,e1]
 cases Q1<;>simp [oa,ob,e2]
theorem Bu {a b:NetV} {x y:NetD} (ha:dNet.Ow H a x) (hb:dNet.Ow H b y):vcall C frz 13 [dNet.val a x,dNet.val b y] H=some (.bool (decide (x=y)),H):=by
 have oa:=Qk ha
 have ob:=Qk hb
 obtain ⟨a1,⟨a2,a3⟩,⟨a4,ha4⟩,a5,a6,⟨a7,ha7⟩,⟨a8,ha8⟩,_⟩:=a
 obtain ⟨b1,⟨b2,b3⟩,⟨b4,hb4⟩,b5,b6,⟨b7,hb7⟩,⟨b8,hb8⟩,_⟩:=b
 obtain ⟨⟨w,h,x1⟩,⟨x2,x3⟩,x4,x5,x6,x7,x8,tm⟩:=x
 obtain ⟨⟨w',h',y1⟩,⟨y2,y3⟩,y4,y5,y6,y7,y8,tm'⟩:=y
 obtain ⟨h1,h2,h3,h4,h5,h6,h7,_⟩:=ha
 obtain ⟨k1,k2,k3,k4,k5,k6,k7,_⟩:=hb
 simp only at h1 h2 h3 h4 h5 h6 h7 k1 k2 k3 k4 k5 k6 k7 oa ob
 have e1:=fun F L=>E3 (frz:=F) (H:=H++L) (Dt.app h1) (Dt.app k1)
 have e2:=fun F L=>N0 (frz:=F) (H:=H++L) (Dt.app h2) (Dt.app k2)
 have e3:=fun F L=>Ur (frz:=F) (H:=H++L) (Dt.app h3) (Dt.app k3)
 have e4:=fun F L=>Uu (frz:=F) (H:=H++L) (Dt.app h4) (Dt.app k4)
 have e5:=fun F L=>Uu (frz:=F) (H:=H++L) (Dt.app h5) (Dt.app k5)
 have e6:=fun F L=>Ur (frz:=F) (H:=H++L) (Dt.app h6) (Dt.app k6)
 have e7:=fun F L=>Ur (frz:=F) (H:=H++L) (Dt.app h7) (Dt.app k7)
 simp only at e2 e3 e6 e7
 rw [Ql,Ql]
 refine wp.exact (by simp) ?_ rfl
 rw [Qa (fn:=Tryz.f13) Tryz.func13 rfl (by kernel_rfl) rfl]
 have hY:decide ((((w,h,x1),(x2,x3),x4,x5,x6,x7,x8,tm):NetD)=((w',h',y1),(y2,y3),y4,y5,y6,y7,y8,tm')) =
  (((w == w'&&h == h')&&decide (x1=y1))&&((decide (x2=y2)&&decide (x3=y3))&&(decide (x4=y4)&&(decide (x5=y5)&&(decide (x6=y6)&&(decide (x7=y7)&&(decide (x8=y8)&&decide (tm=tm')))))))):=by
  rw [Bool.eq_iff_iff];simp only [decide_eq_true_eq,Bool.and_eq_true,Prod.mk.injEq,beq_iff_eq,and_assoc]
 generalize decide ((((w,h,x1),(x2,x3),x4,x5,x6,x7,x8,tm):NetD)=((w',h',y1),(y2,y3),y4,y5,y6,y7,y8,tm'))=Y at *
 generalize ((w == w'&&h == h')&&decide (x1=y1))=P1 at *
 generalize (decide (x2=y2)&&decide (x3=y3))=P2 at *
 generalize decide (x4=y4)=P3 at *
 generalize decide (x5=y5)=P4 at *
 generalize decide (x6=y6)=P5 at *
 generalize decide (x7=y7)=P6 at *
 generalize decide (x8=y8)=P7 at *
 simp [oa,ob,e1]
 cases P1
 ·simp [hY]
 simp [oa,ob,e2]
 cases P2
 ·simp [hY]
 simp [oa,ob,e3]
 cases P3
 ·simp [hY]
 simp [oa,ob,e4]
 cases P4
 ·simp [hY]
 simp [oa,ob,e5]
 cases P5
 ·simp [hY]
 simp [oa,ob,e6]
 cases P6
 ·simp [hY]
 simp [oa,ob,e7]
 cases P7
 ·simp [hY]
 simp [oa,ob,hY]
def freeOk (x:NetD):Prop:=netOk x∧∀o∈x.2.2.2.1,inR (-1) o (-1)
instance (x:NetD):Decidable (freeOk x):=inferInstanceAs (Decidable (_∧_))
theorem Ah {v:NetV} {x:NetD} (o:dNet.Ow H v x):vcall C frz 16 [dNet.val v x] H=some (.bool (decide (freeOk x)),H):=by
 have ones:=Qk o
 have nk:=fun F L=>Sd (frz:=F) (H:=H++L) (v:=v) (x:=x) (Dt.app (T:=dNet) o)
 obtain ⟨_,_,_,o6,_⟩:=o
 have ai:=fun F L=>Y4 (frz:=F) (H:=H++L) v.2.2.2.1 x.2.2.2.1 (-1) (-1) (Rd.isI o6.1.rd.app) (by have:=o6.2;omega)
 simp only [Ql] at nk ⊢
 refine wp.exact (by simp) ?_ rfl
 rw [Qa (fn:=Tryz.f16) Tryz.func16 rfl (by kernel_rfl) rfl]
 have hY:decide (freeOk x)=(decide (netOk x)&&decide (∀o∈x.2.2.2.1,inR (-1) o (-1))):=by
  rw [Bool.eq_iff_iff];simp only [decide_eq_true_eq,Bool.and_eq_true];exact Iff.rfl
 generalize decide (freeOk x)=Y at *
 generalize decide (netOk x)=P1 at *
 generalize decide (∀o∈x.2.2.2.1,inR (-1) o (-1))=P2 at *
 simp [ones,nk]
 cases P1<;>cases P2<;>simp [ones,ai,hY]
theorem E5 {v:NetV} {x:NetD} (o:dNet.Ow H v x) (h9:allL 66000000 x.2.2.2.2.2.2.1) :
 wp (vcall C frz 9 [dNet.val v x] H) (Made2 dNet H (idled x) (decide (0≤idleAt x))):=by
 have ones:=Qk o
 have ti:=fun L=>xx (frz:=H.length) (H:=H++L) (v:=v) (x:=x) (Dt.app (T:=dNet) o) h9
 simp only [Ql] at ti ⊢
 rw [Qa (fn:=Tryz.f9) Tryz.func9 rfl (by kernel_rfl) rfl]
 simp [ones,VM.look]
 refine Qd (ti _) ?_
 rintro _ K ⟨_,rfl,n,rfl,on,cn,mn,dn⟩
 simp at mn
 have qn:=Qk on
 have cK:Chg H K []:=(Chg.app _).trans cn
 have lK:=cn.1
 simp at lK
 have hF:H.length≤K.length:=by omega
 have hF1:H.length≤H.length+1:=by omega
 have bR:K[H.length+1]? = some ⟨[.int .i64 0,.int .i64 0,.slice none 0 0,.slice none 0 0,.slice none 0 0,.slice none 0 0,.slice none 0 0,.slice none 0 0,.slice none 0 0,.slice none 0 0,.int .i64 0],0,38⟩:=Qb (by simp) cn (by simp)
 obtain ⟨y,hy⟩:∃y,y=idled x:=⟨_,rfl⟩
 rw [← hy] at on ⊢
 obtain ⟨K1,hK1⟩:∃K1,K1=K++[⟨netCells n y,0,38⟩]:=⟨_,rfl⟩
 have c1:Chg K K1 []:=by rw [hK1];exact Chg.app _
 have bY:K1[K.length]? = some ⟨netCells n y,0,38⟩:=by rw [hK1];simp
 have bR1:=Qb bR c1 (by simp)
 have on1:=Dt.chg (T:=dNet) on c1 (by simp)
 have l1:=c1.1
 have hKs:=hK1.symm
 have bY':=bY
 unfold netCells at hKs bY'
 have gR:=Qo (r':=⟨netCells n y,0,38⟩) bR1
 have gR':=gR
 unfold netCells at gR'
 simp [Ql,← hy,qn,VM.look,hF]
 rw [hKs]
 clear hK1 hKs
 simp [VM.look,bY',bR1,qn,hF1,gR']
 refine ⟨_,rfl,n,rfl,Dt.chg (T:=dNet) on1 (Qh _ _) (fun j hj hh=>by have:=mn j hj;simp at hh;omega),(cK.trans c1).trans' (Qh _ _) (fun j hj=>.inr (by simp at hj;omega)),fun j hj=>by have:=mn j hj;omega,dn⟩
theorem A8:∀W,W<4→∀H,H<4→2≤(W+1)*(H+1)→chans ((W+1:Nat):Int) ((H+1:Nat):Int) []≠[]:=by decide +kernel
theorem Eo {w h:Int} (g:okG w h) (h2:2≤cnt w h):0<(chans w h []).length:=by
 obtain ⟨W,H,e1,e2,hW,hH,e3,e4⟩:=dims (b:=[]) ⟨by simp,g⟩
 have:=A8 W hW H hH (by omega)
 rw [← e1,← e2] at this
 exact List.length_pos_iff.2 this
theorem law_FnBreaks_w {a0:List Int} {u0:Value} (s0:IsS (Kn.int .u8) H u0 a0)
 (w0:a0.length≤maxLen∧∀x1∈a0,(Lit.int .u8 x1).wf=true) :
 wp (vcall C frz 3 [u0] H) (fun r _=>r=.bool true):=by
 have r0:=A2 s0
 rw [Qa (fn:=Tryz.f3) Tryz.func3 rfl (by kernel_rfl) rfl]
 simp [Qe1 _ _ r0]
 refine Qc ?_ ?_<;>intro g0
 ·simp
 simp
 refine Qd (Eg u0 a0 r0 (by omega)) ?_
 rintro _ H1 ⟨w,h,ra,rb,vc,lv,ps,rfl,hg,hra,hrb,hcnt,oc,op,⟨hpl,hpk,hpi⟩,c1⟩
 have hF1:=c1.1
 have onc:=Q5 oc
 have onp:VM.one lv=true∧lv.cells=#[lv]:=⟨op.rd.one',op.rd.cells⟩
 obtain ⟨T,hT⟩:∃T:ClassesD,T=rTabs w h ra rb:=⟨_,rfl⟩
 have oc:dClasses.Ow H1 vc T:=by rw [hT];exact oc
 have hc:classesOk w h [] T.1 T.2:=by rw [hT];exact Om hg hra hrb
 obtain ⟨H2,hH2⟩:∃H2,H2=H1++[⟨[.int .i64 w,.int .i64 h,.slice none 0 0],0,28⟩,⟨[vc.1,vc.2],0,32⟩]:=⟨_,rfl⟩
 have c12:Chg H1 H2 []:=by rw [hH2];exact Chg.app _
 have l2:H2.length=H1.length+2:=by rw [hH2];simp
 have bM:H2[H1.length]? = some ⟨[.int .i64 w,.int .i64 h,.slice none 0 0],0,28⟩:=by rw [hH2];simp
 have bC:H2[H1.length+1]? = some ⟨[vc.1,vc.2],0,32⟩:=by rw [hH2];simp
 have oc2:=Dt.chg (T:=dClasses) oc c12 (by simp)
 have op2:=op.chg c12 (by simp)
 have om2:dMesh.Ow H2 (.slice none 0 0) ((w,h,[]):MeshD):=⟨.inl ⟨rfl,rfl⟩,by simp⟩
 have hHs:=hH2.symm
 simp [onc,onp,hF1]
 have hFa:H.length≤H1.length+1:=by omega
 try simp [hFa,VM.look]
 try rw [hHs]
 clear hH2 hHs
 have nn:=wo (frz:=H.length) om2 oc2
 rw [decide_eq_true hc] at nn
 simp only [W1,Xd] at nn
 refine Qd nn ?_
 rintro _ H3 ⟨_,rfl,n0,rfl,on0,c3,m0,d0⟩
 obtain ⟨x0,hx0⟩:∃x0,x0=netNew (w,h,[]) T:=⟨_,rfl⟩
 rw [← hx0] at on0
 obtain ⟨e1,e2,e3,e4⟩:=Vc (m:=(w,h,[])) (t:=T) hc
 rw [← hx0] at e1 e2 e3 e4
 have q0:=Qk on0
 have l3:=c3.1
 have hF3:H.length≤H3.length:=by omega
 have bM3:=Qb bM c3 (by simp)
 have op3:=op2.chg c3 (by simp)
 obtain ⟨H4,hH4⟩:∃H4,H4=H3++[⟨netCells n0 x0,0,38⟩]:=⟨_,rfl⟩
 have c4:Chg H3 H4 []:=by rw [hH4];exact Chg.app _
 have b4:H4[H3.length]? = some ⟨netCells n0 x0,0,38⟩:=by rw [hH4];simp
 have bM4:=Qb bM3 c4 (by simp)
 have op4:=op3.chg c4 (by simp)
 have on4:=Dt.chg (T:=dNet) on0 c4 (by simp)
 have hHs:=hH4.symm
 have b4':=b4
 unfold netCells at hHs b4'
 simp [Ql,← hx0,q0,hF3]
 rw [hHs]
 clear hH4 hHs
 -- the packets are sent
 have tr:=traf (ra:=ra) (rb:=rb) hg hra hrb hpl hpk hpi
 rw [← hT,← hx0] at tr
 have sa:=Jn (frz:=H.length) e1 (fun i hi=>(tr i (by omega)).2.2 hi) on4 op4.rd (by omega)
 simp only [Ql] at sa
 try simp [VM.look,b4',q0]
 refine Qd sa ?_
 rintro _ H5 ⟨_,rfl,n1,rfl,on1,c5,m1,d1⟩
 have sc:=(tr ps.length (Nat.le_refl _)).1
 rw [List.take_length] at sc
 have kp:=Te e1 ps
 obtain ⟨x1,hx1⟩:∃x1,x1=ps.foldl sendP x0:=⟨_,rfl⟩
 rw [← hx1] at on1 sc kp
 have q1:=Qk on1
 have l5:=c5.1
 have l4:=c4.1
 have hF5:H.length≤H5.length:=by omega
 have bM5:=Qb bM4 c5 (by simp)
 have op5:=op4.chg c5 (by simp)
 obtain ⟨H6,hH6⟩:∃H6,H6=H5++[⟨netCells n1 x1,0,38⟩]:=⟨_,rfl⟩
 have c6:Chg H5 H6 []:=by rw [hH6];exact Chg.app _
 have b6:H6[H5.length]? = some ⟨netCells n1 x1,0,38⟩:=by rw [hH6];simp
 have bM6:=Qb bM5 c6 (by simp)
 have op6:=op5.chg c6 (by simp)
 have on6:=Dt.chg (T:=dNet) on1 c6 (by simp)
 have hHs:=hH6.symm
 have b6':=b6
 unfold netCells at hHs b6'
 simp [Ql,← hx1,q1,hF5]
 rw [hHs]
 clear hH6 hHs
 -- the network runs until it is idle
 have ri:=E5 (frz:=H.length) on6 (by rw [kp.a];exact e3)
 obtain ⟨i1,i2,i3⟩:=sc.toIdle (by omega) (by show x1.2.2.2.2.2.2.2+400≤_;rw [kp.tm,e4];omega)
 have i1:0≤idleAt x1:=i1
 have i2:idle (idled x1):=i2
 have i3:Scn (idled x1,ps) ps.length 0:=i3
 rw [decide_eq_true i1] at ri
 simp only [Ql] at ri
 try simp [VM.look,b6',q1]
 refine Qd ri ?_
 rintro _ H7 ⟨_,rfl,n2,rfl,on2,c7,m2,d2⟩
 obtain ⟨y,hy⟩:∃y,y=idled x1:=⟨_,rfl⟩
 rw [← hy] at on2 i2 i3
 have q2:=Qk on2
 have l6:=c6.1
 have l7:=c7.1
 have hF7:H.length≤H7.length:=by omega
 have bM7:=Qb bM6 c7 (by simp)
 have op7:=op6.chg c7 (by simp)
 obtain ⟨H8,hH8⟩:∃H8,H8=H7++[⟨netCells n2 y,0,38⟩]:=⟨_,rfl⟩
 have c8:Chg H7 H8 []:=by rw [hH8];exact Chg.app _
 have b8:H8[H7.length]? = some ⟨netCells n2 y,0,38⟩:=by rw [hH8];simp
 have bM8:=Qb bM7 c8 (by simp)
 have op8:=op7.chg c8 (by simp)
 have on8:=Dt.chg (T:=dNet) on2 c8 (by simp)
 have l8:=c8.1
 have hHs:=hH8.symm
 unfold netCells at hHs
 simp [Ql,← hy,q2,hF7]
 rw [hHs]
 clear hH8 hHs
 have cT:Chg H H8 []:=(((((((c1.trans c12).trans c3).trans c4).trans c5).trans c6).trans c7).trans c8)
 refine Qd (Kk u0 a0 (r0.chg cT (by simp)) (by omega)) ?_
 rintro up H9 ⟨xs,ox,hxl,hxr,nup,c9⟩
 have bM9:=Qb bM8 c9 (by simp)
 have op9:=op8.chg c9 (by simp)
 have on9:=Dt.chg (T:=dNet) on8 c9 (by simp)
 have b9:=Qb b8 c9 (by simp)
 simp [VM.look,bM9]
 have iM9:IsI H9 (.slice none 0 0) []:=.inl ⟨rfl,rfl⟩
 refine Qd (F0 w h _ [] iM9 (by simp)) ?_
 rintro uc HA ⟨och,nch,cA⟩
 have bA:=Qb b9 cA (by simp)
 have opA:=op9.chg cA (by simp)
 have onA:=Dt.chg (T:=dNet) on9 cA (by simp)
 have oxA:=ox.chg cA (by simp)
 have cpos:=Eo hg hcnt
 have clen:=Bv w h []
 have hmem:=fun k (hk:k<(chans w h []).length)=>Aw (List.getElem_mem hk)
 obtain ⟨CH,hCH⟩:∃CH,CH=chans w h []:=⟨_,rfl⟩
 rw [← hCH] at och cpos clen
 have hmem:∀k,(hk:k<CH.length)→breakOk w h [] CH[k]:=by rw [hCH];exact hmem
 clear hCH
 have lch:=och.rd.len (P:=Tryz.prog) (ty:=26) (by simp)
 have lps:=opA.rd.len (P:=Tryz.prog) (ty:=33) (by simp)
 have cne:¬CH.length=0:=by omega
 have cne':¬CH=[]:=fun e=>by rw [e] at cpos;simp at cpos
 have p0:=hxr xs[0] (List.getElem_mem (by omega))
 obtain ⟨k,hk⟩:∃k:Nat,xs[0]%(CH.length:Int)=k:=⟨(xs[0]%(CH.length:Int)).toNat,(Int.toNat_of_nonneg (Int.emod_nonneg _ (by omega))).symm⟩
 have hkl:k<CH.length:=by have:=Int.emod_lt_of_pos xs[0] (show (0:Int)<CH.length by omega);omega
 have t0:(xs[0]).tmod (CH.length:Int)=(k:Int):=by rw [Int.tmod_eq_emod_of_nonneg p0.1];exact hk
 have f0:∀[Inhabited Unit],IntKind.i64.wrap (k:Int)=(k:Int):=by intro _;exact w64 (by omega) (by omega)
 have q0x:=wh oxA (i:=0) (by omega)
 simp only [Int.natCast_zero] at q0x
 have q0a:=q0x.1
 have q0b:=q0x.2
 have qc:=wh och hkl
 have qca:=qc.1
 have qcb:=qc.2
 obtain ⟨K,hK⟩:∃K,K=CH[k]:=⟨_,rfl⟩
 rw [← hK] at qcb
 have bA':=bA
 unfold netCells at bA'
 simp [lch,lps,cne,cne',q0a,q0b,t0,f0,qca,qcb,VM.look,bA',q2]
 have bc:=B2 (frz:=H.length) (c:=K) onA
 simp only [Ql] at bc
 refine Qd bc ?_
 rintro _ HB ⟨_,rfl,n3,rfl,on3,cB,m3,d3⟩
 obtain ⟨z,hz⟩:∃z,z=brk y K:=⟨_,rfl⟩
 rw [← hz] at on3
 have q3:=Qk on3
 have l9:=c9.1
 have lA:=cA.1
 have lB:=cB.1
 have hFB:H.length≤HB.length:=by have:=cT.1;omega
 have bB:=Qb bA cB (by simp)
 have onB:=Dt.chg (T:=dNet) onA cB (by simp)
 obtain ⟨HC,hHC⟩:∃HC,HC=HB++[⟨netCells n3 z,0,38⟩]:=⟨_,rfl⟩
 have cC:Chg HB HC []:=by rw [hHC];exact Chg.app _
 have bz:HC[HB.length]? = some ⟨netCells n3 z,0,38⟩:=by rw [hHC];simp
 have by':=Qb bB cC (by simp)
 have onC:=Dt.chg (T:=dNet) on3 cC (by simp)
 have onY:=Dt.chg (T:=dNet) onB cC (by simp)
 have hHs:=hHC.symm
 have bz':=bz
 unfold netCells at hHs bz' by'
 simp [Ql,← hz,q3,hFB]
 rw [hHs]
 clear hHC hHs
 refine Qc ?_ ?_<;>intro gb
 ·-- the channel has been broken
  obtain ⟨k',j1,_,_⟩:=i3.brk K
  have j1:Scn (z,ps) ps.length k':=by rw [hz];exact j1
  have hzk:netOk z:=j1.good.1.1
  have hbl:z.1.2.2.length≤64:=by have:=Ca hzk.1.1.1.1;omega
  have sf:=fun F=>yq (frz:=F) onC hzk hbl j1.safe.2
  have ez:z=fresh y (y.1.1,y.1.2.1,withBroken y.1.1 y.1.2.1 y.1.2.2 K) (repair y.1.1 y.1.2.1 (withBroken y.1.1 y.1.2.1 y.1.2.2 K)):=by rw [hz];unfold brk;rw [if_pos gb]
  have hK1:K∈z.1.2.2:=by
   rw [ez]
   show K∈withBroken y.1.1 y.1.2.1 y.1.2.2 K
   unfold withBroken;rw [if_pos gb.2.1]
   unfold broke
   exact (Tf _).mem_iff.2 (by simp)
  have hfr:freeOk z:=⟨hzk,fun o ho=>by
   rw [ez] at ho
   have:=List.eq_of_mem_replicate (show o∈List.replicate y.2.2.2.1.length (-1) from ho)
   subst this;unfold inR;omega⟩
  have hid:idleOk z:=⟨hzk,by rw [ez];exact i2⟩
  have hs:=fun F=>Qb2 (frz:=F) n3.1 z.1.2.2 K onC.1.1.rd.isI (by omega)
  have fr:=fun F=>Ah (frz:=F) onC
  have idl:=fun F=>Jb (frz:=F) onC
  simp only [Ql] at sf fr idl
  simp [VM.look,bz',q3,sf,hs,hK1,fr,hfr,idl,hid]
 ·have ez:z=y:=by rw [hz];unfold brk;rw [if_neg gb]
  rw [ez] at onC
  have sn:=fun F=>Bu (frz:=F) onC onY
  simp only [Ql] at sn
  simp [VM.look,bz',by',q3,q2,ez,sn]
theorem law_FnBreaks {a0:List Int} {u0:Value} (s0:IsS (Kn.int .u8) H u0 a0)
 (w0:a0.length≤maxLen∧∀x1∈a0,(Lit.int .u8 x1).wf=true) :
 vcall C frz 3 [u0] H=some (.bool true,H):=(law_FnBreaks_w s0 w0).exact (by simp) rfl
end Go.Proofs.YtaldglgobgjeaaaGreat.V
