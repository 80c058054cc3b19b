/- Texts of a proof, joined. -/
import Derived.Test.YtmddnnecgnpccaaGreatKM0
import Derived.Test.YtmddnnecgnpccaaGreatKM1
import Derived.Test.YtmddnnecgnpccaaGreatKFnChipSends0
import Derived.Test.YtmddnnecgnpccaaGreatKFnChipSends1
set_option linter.all false
namespace Go.Proofs.YtmddnnecgnpccaaGreat.V
open Go Go.VM Go.Proofs
set_option maxRecDepth 10000
variable {frz:Nat} {H:Heap}
theorem Ee (w h r:Int) (n:Nat) (hr:1≤r∧r≤4) (hg:okG w h) (hn:cnt w h=n) :
 wp (vcall C frz 71 [.agg #[.int .i64 w,.int .i64 h],.int .i64 r] H) (dTable.Made H (stdTab w r n)):=by
 rw [Qb (fn:=Tryz.f71) Tryz.func71 rfl (by kernel_rfl) rfl]
 have hc:=Qg w h
 have hn2:n*n≤256:=Nat.mul_le_mul (show n≤16 by omega) (show n≤16 by omega)
 have hn2':(n:Int)*(n:Int)≤256:=by
  have:((n*n:Nat):Int)≤256:=by omega
  rwa [Int.natCast_mul] at this
 obtain ⟨M,hM⟩:∃M:Nat,M=n*n:=⟨_,rfl⟩
 have eM:∀[Inhabited Unit],IntKind.i64.wrap ((n:Int)*n)=(M:Int):=by intro _;rw [hM,Int.natCast_mul];exact w64 (by have:=Int.natCast_nonneg (n*n);rw [Int.natCast_mul] at this;omega) (by omega)
 simp [Qx,hn]
 refine Qm (fun m t H'=>∃(i:Nat) (vo:Value) (o:List Int),m=M-i∧i≤M∧o=(List.range i).map (fun i=>stdPort w r (i/n:Nat) (i%n:Nat))∧
  t 1=.int .i64 r∧t 2=.pointer (some ⟨H.length,0,some 0⟩)∧t 4=.pointer (some ⟨H.length+1,0,some 0⟩)∧t 5=.pointer (some ⟨H.length+2,0,some 0⟩)∧t 6=.int .i64 n∧t 7=.int .i64 i∧
  Chg H H' []∧H'[H.length]? = some ⟨[.int .i64 w,.int .i64 h],0,25⟩∧H'[H.length+1]? = some ⟨[.slice none 0 0],0,30⟩∧H'[H.length+2]? = some ⟨[vo],0,30⟩∧
  Ow Fl.int 3 H' vo o∧(∀i∈ids vo,H.length+2<i)) ?_ (n:=M) ⟨0,.slice none 0 0,[],by simp,by omega,by simp,by simp,by simp,by simp,by simp,by simp,by simp,Chg.app _,by simp,by simp,by simp,.inl ⟨rfl,rfl⟩,by simp⟩
 rintro m t H' ⟨i,vo,o,rfl,hi,ho,h1,h2,h4,h5,h6,h7,c0,b2,b4,b6,oo,no⟩ ih
 simp [h1,h2,h4,h5,h6,h7,eM]
 refine Qf ?_ ?_<;>intro hin
 ·have hin':i<M:=by omega
  have hn0:0<n:=by
   rcases Nat.eq_zero_or_pos n with h0|h0
   ·rw [h0] at hM;omega
   ·exact h0
  have hol:o.length=i:=by rw [ho];simp
  have q1:i/n<n:=by rw [Nat.div_lt_iff_lt_mul hn0];omega
  have q2:i%n<n:=Nat.mod_lt _ hn0
  have d1:∀[Inhabited Unit],IntKind.i64.wrap ((i:Int)/(n:Int))=((i/n:Nat):Int):=by intro _;rw [← Int.natCast_ediv];exact w64 (by have:=Int.natCast_nonneg (i/n);omega) (by have:=Int.ofNat_lt.2 q1;omega)
  have d2:(i:Int).tmod n=((i%n:Nat):Int):=by rw [Int.tmod_eq_emod_of_nonneg (by omega)];rfl
  have d3:(i:Int).tdiv n=(i:Int)/n:=Int.tdiv_eq_ediv_of_nonneg (by omega)
  have nz:¬(n:Int)=0:=by omega
  have nz':¬n=0:=by omega
  have sp:=fun F=>Fo (frz:=F) (H:=H') w h r ((i/n:Nat):Int) ((i%n:Nat):Int) hr ⟨Int.natCast_nonneg _,by rw [hn];exact Int.ofNat_lt.2 q1⟩ ⟨Int.natCast_nonneg _,by rw [hn];exact Int.ofNat_lt.2 q2⟩
  obtain ⟨X,hX⟩:∃X,X=((i/n:Nat):Int):=⟨_,rfl⟩
  obtain ⟨Y,hY⟩:∃Y,Y=((i%n:Nat):Int):=⟨_,rfl⟩
  rw [← hX] at d1
  rw [← hY] at d2
  rw [← hX,← hY] at sp
  simp
  rw [Qp (h:=by kernel_rfl)]
  obtain ⟨vo',H3,e3,oo3,c3,n3⟩:=oo.push (P:=Tryz.prog) (frz:=H.length) (ty:=26) (a:=stdPort w r X Y) (by simp) rfl (by omega) (fun i hi=>by have:=no i hi;omega)
  simp only [Fl.int_f] at e3
  have lc:=Q0 b6
  have b2':=Qa b2 c3 (fun hh=>by have:=no _ hh;omega)
  have b4':=Qa b4 c3 (fun hh=>by have:=no _ hh;omega)
  have b6':=Qa b6 c3 (fun hh=>by have:=no _ hh;omega)
  have no3:∀i∈ids vo',H.length+2<i:=fun i hi=>by rcases n3 i hi with h|h;exact no i h;omega
  have one:=And.intro oo.rd.one' oo.rd.cells
  have one3:=And.intro oo3.rd.one' oo3.rd.cells
  have hF:H.length≤H.length+2:=by omega
  simp [-Qe,-Qq,VM.look,b2,b6,sp,one,e3,b6',one3,h1,h2,h4,h5,h6,h7,d1,d2,d3,nz,nz',hF]
  refine ih (M-(i+1)) _ _ ⟨i+1,vo',o++[stdPort w r X Y],rfl,by omega,?_,by simp [h1],by simp [h2],by simp [h4],by simp [h5],by simp [h6],?_,
   (c0.trans' c3 (fun i hi=>.inr (by have:=no i hi;omega))).trans' (Ql _ _) (fun i hi=>.inr (by simp at hi;omega)),Qa b2' (Ql _ _) (by simp),Qa b4' (Ql _ _) (by simp),Qi b6',
   oo3.chg (Ql _ _) (fun i hi hh=>by have:=no3 i hi;simp at hh;omega),no3⟩ (by omega)
  ·rw [List.range_succ,List.map_append,← ho];simp only [List.map_cons,List.map_nil,hX,hY]
  ·simp [h7];rw [w64 (by omega) (by omega)]
 ·have:i=M:=by omega
  subst this
  have lc:=Q0 b6
  have one:=And.intro oo.rd.one' oo.rd.cells
  have g4:=Qi (r':=⟨[vo],0,30⟩) b4
  have hol:o.length=i:=by rw [ho];simp
  have hF:H.length≤H.length+1:=by omega
  simp [h1,h2,h4,h5,h6,h7,VM.look,b6,b4,one,g4,hF]
  exact ⟨vo,rfl,⟨(by rw [show stdTab w r n=o from by rw [ho,hM];rfl];exact oo.chg (Ql _ _) (fun i hi hh=>by have:=no i hi;simp at hh;omega)),by rw [Pj];omega⟩,c0.trans' (Ql _ _) (fun i hi=>.inr (by simp at hi;omega)),fun i hi=>by have:=no i hi;omega,Qw vo⟩
def splitT (w h:Int):ClassesD:=if okG w h then (stdTab w 1 (cnt w h).toNat,stdTab w 2 (cnt w h).toNat) else ([],[])
theorem Dl (w h:Int) :
 wp (vcall C frz 49 [.agg #[.int .i64 w,.int .i64 h]] H) (Made2 dClasses H (splitT w h) (decide (okG w h))):=by
 rw [Qb (fn:=Tryz.f49) Tryz.func49 rfl (by kernel_rfl) rfl]
 simp [Ul]
 by_cases g:okG w h
 rotate_left
 ·simp [g,splitT]
  exact ⟨_,rfl,(.slice none 0 0,.slice none 0 0),rfl,⟨⟨.inl ⟨rfl,rfl⟩,by simp⟩,⟨.inl ⟨rfl,rfl⟩,by simp⟩⟩,Chg.app _,by simp [dClasses,dAnd,dTable,dIntS,dFlat,ids],by simp [dClasses,dAnd,dTable,dIntS,dFlat,ids]⟩
 have st:=fun K r hr=>Ee (frz:=H.length) (H:=K) w h r (cnt w h).toNat hr g (by have:=Qg w h;omega)
 have e:splitT w h=(stdTab w 1 (cnt w h).toNat,stdTab w 2 (cnt w h).toNat):=if_pos g
 rw [e]
 simp only [g,decide_true]
 have st1:=fun K=>st K 1 (by omega)
 have st2:=fun K=>st K 2 (by omega)
 clear st e
 generalize stdTab w 1 (cnt w h).toNat=T1 at *
 generalize stdTab w 2 (cnt w h).toNat=T2 at *
 simp
 rw [Qp (h:=by kernel_rfl)]
 simp [VM.look]
 refine Qd (st1 _) ?_
 rintro _ K1 ⟨v1,rfl,o1,c1,m1,d1⟩
 have cH:Chg H K1 []:=(Chg.app _).trans c1
 have bG:K1[H.length]? = some ⟨[.int .i64 w,.int .i64 h],0,25⟩:=Qa (by simp) c1 (by simp)
 have bR:K1[H.length+1]? = some ⟨[.slice none 0 0,.slice none 0 0],0,32⟩:=Qa (by simp) c1 (by simp)
 have q1:=Xh o1
 have l1:=cH.1
 have lR:=Q0 bR
 simp [Xk,q1,VM.look,l1,bG]
 refine Qd (st2 _) ?_
 rintro _ K2 ⟨v2,rfl,o2,c2,m2,d2⟩
 have o1':=Dt.chg (T:=dTable) o1 c2 (by simp)
 have bR:=Qa bR c2 (by simp)
 have cH2:Chg H K2 []:=cH.trans c2
 have q2:=Xh o2
 have l2:=cH2.1
 have gR:=Qi (r':=⟨[v1,v2],0,32⟩) bR
 have hF:H.length≤H.length+1:=by omega
 simp [Xk,q1,q2,VM.look,l2,bR,gR,hF]
 have eR:Chg K2 (K2.set (H.length+1) ⟨[v1,v2],0,32⟩) [H.length+1]:=Ql _ _
 have lt1:=dTable.lt o1
 have m1':∀i∈dTable.ids v1,H.length+2≤i:=fun i hi=>by have:=m1 i hi;simpa using this
 refine ⟨_,rfl,(v1,v2),rfl,⟨Dt.chg (T:=dTable) o1' eR (fun i hi hh=>by have:=m1' i hi;simp at hh;omega),Dt.chg (T:=dTable) o2 eR (fun i hi hh=>by have:=m2 i hi;simp at hh this;omega)⟩,cH2.trans' eR (fun i hi=>.inr (by simp at hi;omega)),fun i hi=>?_,?_⟩
 ·rcases List.mem_append.1 hi with hi|hi
  ·have:=m1' i hi;omega
  ·have:=m2 i hi;omega
 ·exact List.nodup_append.2 ⟨d1,d2,fun a ha b hb e=>by have:=lt1 a ha;have:=m2 b hb;omega⟩
theorem front {K:Heap} {u:Value} {xs:List FlitD} (rd:Rd flF K u xs) (h:xs≠[]) :
 vindexAddr Tryz.prog K 75 u (.int .i64 0)=some (elp u 0)∧vfieldAddr Tryz.prog K 102 1 (elp u 0)=some (elp u 1)∧vfieldAddr Tryz.prog K 102 2 (elp u 0)=some (elp u 2)∧
 vfieldAddr Tryz.prog K 102 3 (elp u 0)=some (elp u 3)∧vload Tryz.prog K 3 (elp u 1)=some (.int .i64 (headL xs).2.1)∧vload Tryz.prog K 3 (elp u 2)=some (.int .i64 (headL xs).2.2.1)∧
 vload Tryz.prog K 4 (elp u 3)=some (.bool (headL xs).2.2.2.1)∧vload Tryz.prog K 102 (elp u 0)=some (.agg (flF.f (headL xs)).toArray):=by
 have h0:0<xs.length:=List.length_pos_iff.2 h
 have z0:=rd.idx (P:=Tryz.prog) (ty:=75) (e:=102) (by simp) (i:=0) (by omega) (by omega)
 have f1:=rd.field (P:=Tryz.prog) (s:=102) (f:=1) (o:=1) (n:=1) (ag:=false) (by simp) (j:=0) h0
 have f2:=rd.field (P:=Tryz.prog) (s:=102) (f:=2) (o:=2) (n:=1) (ag:=false) (by simp) (j:=0) h0
 have f3:=rd.field (P:=Tryz.prog) (s:=102) (f:=3) (o:=3) (n:=1) (ag:=false) (by simp) (j:=0) h0
 have c1:=rd.cell (P:=Tryz.prog) (e:=3) (by simp) h0 (c:=1) (by decide)
 have c2:=rd.cell (P:=Tryz.prog) (e:=3) (by simp) h0 (c:=2) (by decide)
 have c3:=rd.cell (P:=Tryz.prog) (e:=4) (by simp) h0 (c:=3) (by decide)
 have q2:=rd.load (P:=Tryz.prog) (e:=102) (by simp) h0
 have e:headL xs=xs[0]:=by cases xs with
  | nil=>exact absurd rfl h
  | cons a l=>rfl
 rw [e]
 simp only [Int.toNat_natCast,Y4,Int.toNat_zero,Nat.zero_mul,Nat.zero_add,Nat.add_zero] at z0 f1 f2 f3 c1 c2 c3 q2
 simp only [Wb] at c1 c2 c3
 simp at c1 c2 c3
 exact ⟨z0,f1,f2,f3,c1,c2,c3,q2⟩
theorem Pi {P:Nat→Bool} {n p:Nat} (hp:p<n) (h:P p=true) (hn:∀q,q<p→P q=false):(List.range n).find? P=some p:=by
 rw [List.find?_eq_some_iff_append]
 refine ⟨h,List.range p,(List.range' (p+1) (n-(p+1))),?_,fun q hq=>by simpa using hn q (List.mem_range.1 hq)⟩
 rw [List.range_eq_range',List.range_eq_range']
 have e:n=p+(1+(n-(p+1))):=by omega
 conv=>lhs;rw [e,← List.range'_append_1]
 rw [Nat.add_comm 1,List.range'_succ];simp
theorem Zo {P:Nat→Bool} {n:Nat} (hn:∀q,q<n→P q=false):(List.range n).find? P=none:=by
 rw [List.find?_eq_none];intro q hq;simp [hn q (List.mem_range.1 hq)]
theorem Zh (n p c:Int):vcall C frz 61 [.int .i64 n,.int .i64 p,.int .i64 c] H=some (.int .i64 (if inR 0 n 15∧inR 0 p 4∧inR 0 c 1 then 10*n+2*p+c else -1),H):=by
 rw [Qb (fn:=Tryz.f61) Tryz.func61 rfl (by kernel_rfl) rfl]
 by_cases h1:inR 0 n 15
 ·by_cases h2:inR 0 p 4
  ·by_cases h3:inR 0 c 1
   ·simp [Qv,h1,h2,h3]
    unfold inR at h1 h2 h3
    have e1:=@w6 (5*n) (by omega)
    have e2:=@w6 (5*n+p) (by omega)
    have e3:∀[Inhabited Unit],IntKind.i64.wrap ((5*n+p)*2)=10*n+2*p:=by intro _;rw [w64 (by omega) (by omega)];omega
    have e4:=@w6 (10*n+2*p+c) (by omega)
    simp [e1,e2,e3,e4]
   ·simp [Qv,h1,h2,h3]
  ·simp [Qv,h1,h2]
 ·simp [Qv,h1]
theorem U7 {n p c:Nat} (h1:n<16) (h2:p<5) (h3:c<2):vcall C frz 61 [.int .i64 (n:Int),.int .i64 (p:Int),.int .i64 (c:Int)] H=some (.int .i64 (outAt n p c:Nat),H):=by
 rw [Zh,if_pos ⟨⟨by omega,by omega⟩,⟨by omega,by omega⟩,⟨by omega,by omega⟩⟩]
 congr 3
theorem qw (w h:Int) (v:Value) (b:List Int) (c:Int) (hI:IsI H v b) (hl:b.length≤1073741824) :
 vcall C frz 84 [.agg #[.int .i64 w,.int .i64 h,v],.int .i64 c] H=some (.bool (decide (has w h b c)),H):=by
 rw [Qb (fn:=Tryz.f84) Tryz.func84 rfl (by kernel_rfl) rfl]
 simp [hI.one',hI.cells,Mc]
 refine We _ _ ?_ ?_<;>intro h2<;>simp [h2,has,U2 _ _ _ (hI.app _) hl,-Bool.decide_and]
theorem L6 {v:NetV} {x:NetD} {id a p c:Nat} {e:TypeId} {tail:List Value} (hr:H[id]? = some ⟨netCells v x++tail,0,e⟩) (o:dNet.Ow H v x) (ha:(a:Int)<cnt x.1.1 x.1.2.1) (hp:p<5) (hc:c<2) :
 vcall C frz 60 [.pointer (some ⟨id,0,some 0⟩),.int .i64 a,.int .i64 p,.int .i64 c] H=some (.int .i64 (if p≠4∧has x.1.1 x.1.2.1 x.1.2.2 (4*(a:Int)+p) then (tgt x a p c:Int) else -1),H):=by
 have ones:=Qh o
 have hl:=o.1.2
 have hI:=Rd.isI o.1.1.rd
 have cr:=Qg x.1.1 x.1.2.1
 rw [Qb (fn:=Tryz.f60) Tryz.func60 rfl (by kernel_rfl) rfl]
 unfold netCells at hr
 simp only [List.cons_append,List.nil_append] at hr
 have e1:=@w6 (4*(a:Int)) (by omega)
 have e2:∀[Inhabited Unit],IntKind.i64.wrap (4*(a:Int)+(p:Int))=4*(a:Int)+p:=by intro _;exact w64 (by omega) (by omega)
 have lv:=fun F=>qw (frz:=F) (H:=H) x.1.1 x.1.2.1 v.1 x.1.2.2 (4*(a:Int)+p) hI hl
 by_cases h4:p=4
 ·subst h4;simp
 have h4':¬(p:Int)=4:=by omega
 by_cases hh:has x.1.1 x.1.2.1 x.1.2.2 (4*(a:Int)+p)
 ·obtain ⟨t1,t2⟩:=X9 (w:=x.1.1) (h:=x.1.2.1) (a:=a) (p:=p) (b:=x.1.2.2) ⟨by omega,by omega⟩ hh
  obtain ⟨t2,t3⟩:=t2
  obtain ⟨u1,u2,u3⟩:=Xn (c:=c) hh (by omega) hc
  obtain ⟨s1,s2,s3⟩:=Zu (c:=c) hh (by omega)
  have en:=fun F=>Gm (frz:=F) (H:=H) x.1.1 x.1.2.1 v.1 x.1.2.2 (4*(a:Int)+p) hI hh.1
  rw [t1,t2] at en
  have ex:(10*next x.1.1 x.1.2.1 a p+2*opp p+c)=(tgt x a p c:Int):=u1.symm
  have hin:inR 0 (next x.1.1 x.1.2.1 a p) 15∧inR 0 (opp p) 4∧inR 0 (c:Int) 1:=⟨⟨s1.1,by have:=s1.2;omega⟩,⟨s2,by omega⟩,⟨by omega,by omega⟩⟩
  simp [VM.look,VM.vnil,hr,ones,e1,e2,lv,hh,h4,h4',en,Jb,Zh,hin,ex]
 ·simp [VM.look,VM.vnil,hr,ones,e1,e2,lv,hh,h4,h4']
theorem Fp {v:NetV} {x:NetD} {id a p c:Nat} {e:TypeId} {tail:List Value} (hr:H[id]? = some ⟨netCells v x++tail,0,e⟩) (o:dNet.Ow H v x) (hx:runOk x) (ha:(a:Int)<cnt x.1.1 x.1.2.1) (hp:p<5) (hc:c<2) :
 vcall C frz 133 [.pointer (some ⟨id,0,some 0⟩),.int .i64 a,.int .i64 p,.int .i64 c] H=some (.bool (decide (roomN x a p c)),H):=by
 have ones:=Qh o
 have bh:=fun F=>L6 (frz:=F) hr o ha hp hc
 rw [Qb (fn:=Tryz.f133) Tryz.func133 rfl (by kernel_rfl) rfl]
 unfold netCells at hr
 simp only [List.cons_append,List.nil_append] at hr
 by_cases h4:p=4
 ·subst h4;simp [roomN]
 have h4':¬(p:Int)=4:=by omega
 by_cases hh:has x.1.1 x.1.2.1 x.1.2.2 (4*(a:Int)+p)
 ·obtain ⟨u1,u2,u3⟩:=Xn (c:=c) hh (by omega) hc
  have hl:tgt x a p c<x.2.2.1.length:=by have:=hx.2.1.1;omega
  obtain ⟨u,a1,a2,a3,a4⟩:=Q9 o.2.2.1.1.rd (ty:=33) (e:=75) (by simp) (by simp) hl
  have la:=a4.len (P:=Tryz.prog) (ty:=75) (by simp)
  have hgd:x.2.2.1[tgt x a p c]?.getD []=x.2.2.1[tgt x a p c]:=by simp [hl]
  simp [VM.look,VM.vnil,hr,ones,h4,h4',bh,hh,a2,a3,la,roomN,hgd]
  try omega
 ·simp [VM.look,VM.vnil,hr,ones,h4,h4',bh,hh,roomN]
theorem Mz (u1 u2:Value) (A B:List Int) (c:Int) (h1:IsI H u1 A) (h2:IsI H u2 B) :
 wp (vcall C frz 138 [.agg #[u1,u2],.int .i64 c] H) (fun r H'=>r=.agg #[if c=1 then u2 else u1]∧∃L,H'=H++L):=by
 rw [Qb (fn:=Tryz.f138) Tryz.func138 rfl (by kernel_rfl) rfl]
 have one:=And.intro (And.intro h1.one' h1.cells) (And.intro h2.one' h2.cells)
 simp [one]
 refine Qf ?_ ?_<;>intro g<;>simp [g,one]
theorem Dn {v:NetV} {x:NetD} {id a i:Nat} {e:TypeId} {tail:List Value} (hr:H[id]? = some ⟨netCells v x++tail,0,e⟩) (o:dNet.Ow H v x) (hx:runOk x) (ha:(a:Int)<cnt x.1.1 x.1.2.1) (hi:i<10) :
 vcall C frz 132 [.pointer (some ⟨id,0,some 0⟩),.int .i64 a,.int .i64 i] H=some (.int .i64 (wantedN x a i),H):=by
 refine wp.exact (by simp) ?_ rfl
 have ones:=Qh o
 have cr:=Qg x.1.1 x.1.2.1
 rw [Qb (fn:=Tryz.f132) Tryz.func132 rfl (by kernel_rfl) rfl]
 unfold netCells at hr
 simp only [List.cons_append,List.nil_append] at hr
 obtain ⟨d,hd⟩:∃d,d=10*a+i:=⟨_,rfl⟩
 obtain ⟨c,hc⟩:∃c,c=i%2:=⟨_,rfl⟩
 obtain ⟨q,hq⟩:∃q,q=i/2:=⟨_,rfl⟩
 generalize hY:wantedN x a i=Y
 unfold wantedN at hY
 rw [← hd,← hc,← hq] at hY
 have e1:=@w6 (10*(a:Int)) (by omega)
 have e2:∀[Inhabited Unit],IntKind.i64.wrap (10*(a:Int)+(i:Int))=(d:Int):=by intro _;rw [w64 (by omega) (by omega)];omega
 have e3:∀[Inhabited Unit],(i:Int).tmod 2=(c:Int):=by intro _;rw [tmod2];omega
 have e4:∀[Inhabited Unit],IntKind.i64.wrap ((i:Int)/2)=(q:Int):=by intro _;rw [w64 (by omega) (by omega)];omega
 have hl:d<x.2.2.1.length:=by have:=hx.2.1.1;omega
 obtain ⟨u,a1,a2,a3,a4⟩:=Q9 o.2.2.1.1.rd (ty:=33) (e:=75) (by simp) (by simp) hl
 have la:=a4.len (P:=Tryz.prog) (ty:=75) (by simp)
 have hgd:x.2.2.1.getD d []=x.2.2.1[d]:=by simp [List.getD_eq_getElem?_getD,hl]
 have hho:headOf x d=headL x.2.2.1[d]:=by unfold headOf;rw [hgd]
 have qa:VM.one u=true∧u.cells=#[u]:=⟨a4.one',a4.cells⟩
 simp [VM.look,VM.vnil,hr,ones,e1,e2,a2,a3,la]
 rw [hgd,hho] at hY
 by_cases g0:x.2.2.1[d]=[]
 ·rw [if_pos g0] at hY
  simp [g0,hY]
 rw [if_neg g0] at hY
 have g0':¬(x.2.2.1[d].length:Int)=0:=by
  have:=List.length_pos_iff.2 g0;omega
 have g0n:¬x.2.2.1[d].length=0:=by omega
 have fr:=fun L=>front (a4.app (L:=L)) g0
 have zL:=fun L=>(fr L).1
 have fL:=fun L=>(fr L).2.1
 have cL:=fun L=>(fr L).2.2.2.2.1
 clear fr
 obtain ⟨z0,f1,f2,f3,c1,c2,c3,_⟩:=front a4 g0
 obtain ⟨k1,k2⟩:=hx.2.2.1 d _ (by rw [hgd];exact Uq g0)
 generalize headL x.2.2.1[d]=f at *
 simp [-vfieldAddr,Qs,g0',g0n,g0,z0,f3,c3]
 by_cases g1:f.2.2.2.1=true
 ·rw [if_pos g1] at hY
  simp only [g1]
  simp
  rw [Qp (h:=by kernel_rfl)]
  have hcl:f.2.2.1=(c:Int):=by rw [k1];omega
  have hi1:IsI H v.2.1.1 x.2.1.1:=Rd.isI o.2.1.1.1.rd
  have hi2:IsI H v.2.1.2 x.2.1.2:=Rd.isI o.2.1.2.1.rd
  simp [-vfieldAddr,Qs,VM.look,VM.vnil,hr,ones,z0,f1,f2,c1,c2,hcl]
  refine Qd (Mz v.2.1.1 v.2.1.2 x.2.1.1 x.2.1.2 (c:Int) hi1 hi2) ?_
  rintro _ K ⟨rfl,L,rfl⟩
  have hT:IsI H (if (c:Int)=1 then v.2.1.2 else v.2.1.1) (if c=1 then x.2.1.2 else x.2.1.1):=by
   by_cases h1:c=1
   ·simp [h1,hi2]
   ·rw [if_neg (by omega),if_neg h1];exact hi1
  have hok:tableOk x.1.1 x.1.2.1 x.1.2.2 (if c=1 then x.2.1.2 else x.2.1.1):=by split;exact hx.1.2;exact hx.1.1
  have hin:=I3 hok (a:=a) (c:=f.2.1) ⟨by omega,ha⟩ k2.1
  generalize (if (c:Int)=1 then v.2.1.2 else v.2.1.1)=uT at *
  generalize (if c=1 then x.2.1.2 else x.2.1.1)=T at *
  have pt:=fun F=>Ka (frz:=F) (H:=H++L) x.1.1 x.1.2.1 v.1 uT x.1.2.2 T a f.2.1 (Rd.isI o.1.1.rd.app) (hT.app _) o.1.2 hok.1 ⟨by omega,ha⟩ k2.1
  rw [hY,if_pos (hY▸hin)] at pt
  simp [-vfieldAddr,Qs,ones,hT.one',hT.cells,pt,zL,fL,cL]
 ·rw [if_neg g1] at hY
  simp only [g1]
  simp
  refine Qm (fun n t H'=>∃p:Nat,n=5-p∧p≤5∧t 0=.pointer (some ⟨id,0,some 0⟩)∧t 1=.int .i64 a∧t 2=.int .i64 i∧t 8=.int .i64 p∧H'=H∧∀r,r<p→decide (x.2.2.2.1.getD (outAt a r c) 0=(q:Int))=false) ?_ (n:=5) ⟨0,by simp,by omega,by simp,by simp,by simp,by simp,rfl,by omega⟩
  rintro n t H' ⟨p,rfl,hp,t0,t1,t2,t8,rfl,hk⟩ ih
  simp [t0,t1,t2,t8]
  refine Qf ?_ ?_<;>intro g
  ·have hp':p<5:=by omega
   have bA:=fun F=>U7 (frz:=F) (H:=H') (n:=a) (p:=p) (c:=c) (by omega) hp' (by omega)
   have hz:outAt a p c<x.2.2.2.1.length:=by have:=hx.2.1.2.1;unfold outAt;omega
   have hgo:x.2.2.2.1.getD (outAt a p c) 0=x.2.2.2.1[outAt a p c]:=by simp [List.getD_eq_getElem?_getD,hz]
   have hk2:=hk
   generalize hzz:outAt a p c=z at *
   have rd:=Rd.isI o.2.2.2.1.1.rd
   have q1:=rd.idx (P:=Tryz.prog) (ty:=26) (e:=3) (by simp) (i:=(z:Int)) (by omega) (by omega)
   have q2:=rd.load (P:=Tryz.prog) (e:=3) (by simp) hz
   simp only [Int.toNat_natCast] at q1 q2
   rw [hgo] at q2
   simp [t0,t1,t2,t8]
   rw [Qp (h:=by kernel_rfl)]
   simp [VM.look,VM.vnil,hr,ones,t0,t1,t2,t8,e3,e4,bA,q1,q2]
   refine Qf ?_ ?_<;>intro g2
   ·simp [t0,t1,t2,t8]
    rw [Pi hp' (by rw [hzz,hgo];exact decide_eq_true g2) hk] at hY
    exact hY
   ·simp [t0,t1,t2,t8]
    refine ih (5-(p+1)) _ _ ⟨p+1,rfl,by omega,by simp [t0],by simp [t1],by simp [t2],?_,rfl,fun r hr'=>?_⟩ (by omega)
    ·simp;rw [w64 (by omega) (by omega)]
    ·by_cases hrp:r<p
     ·exact hk r hrp
     ·have:r=p:=by omega
      subst this
      rw [hzz,hgo];exact decide_eq_false g2
  ·have:p=5:=by omega
   subst this
   rw [Zo hk] at hY
   simp [t0,t1,t2,t8,hY]
theorem Ke {v:NetV} {x:NetD} {id a i p:Nat} {e:TypeId} {tail:List Value} (hr:H[id]? = some ⟨netCells v x++tail,0,e⟩) (o:dNet.Ow H v x) (hx:runOk x) (ha:(a:Int)<cnt x.1.1 x.1.2.1) (hi:i<10) (hp:p<5) :
 vcall C frz 125 [.pointer (some ⟨id,0,some 0⟩),.int .i64 a,.int .i64 i,.int .i64 p] H=some (.bool (decide (reqN x a i p)),H):=by
 refine wp.exact (by simp) ?_ rfl
 have ones:=Qh o
 have cr:=Qg x.1.1 x.1.2.1
 obtain ⟨d,hd⟩:∃d,d=10*a+i:=⟨_,rfl⟩
 obtain ⟨c,hc⟩:∃c,c=i%2:=⟨_,rfl⟩
 obtain ⟨q,hq⟩:∃q,q=i/2:=⟨_,rfl⟩
 have wn:=fun F=>Dn (frz:=F) hr o hx ha hi
 have rm:=fun F=>Fp (frz:=F) (c:=c) hr o hx ha hp (by omega)
 have bA:=fun F=>U7 (frz:=F) (H:=H) (n:=a) (p:=p) (c:=c) (by omega) hp (by omega)
 rw [Qb (fn:=Tryz.f125) Tryz.func125 rfl (by kernel_rfl) rfl]
 unfold netCells at hr
 simp only [List.cons_append,List.nil_append] at hr
 generalize hY:decide (reqN x a i p)=Y
 have no:¬reqN x a i p→Y=false:=fun hh=>by rw [← hY];exact decide_eq_false hh
 have e0:¬(p:Int)<0:=by omega
 have e1:=@w6 (10*(a:Int)) (by omega)
 have e2:∀[Inhabited Unit],IntKind.i64.wrap (10*(a:Int)+(i:Int))=(d:Int):=by intro _;rw [w64 (by omega) (by omega)];omega
 have e3:∀[Inhabited Unit],(i:Int).tmod 2=(c:Int):=by intro _;rw [tmod2];omega
 have e4:∀[Inhabited Unit],IntKind.i64.wrap ((i:Int)/2)=(q:Int):=by intro _;rw [w64 (by omega) (by omega)];omega
 by_cases g1:wantedN x a i=(p:Int)
 rotate_left
 ·simp [e0,wn,g1];exact no (fun k=>g1 k.1)
 by_cases g2:roomN x a p c
 rotate_left
 ·simp [e0,wn,g1,e3,rm,g2];exact no (fun k=>g2 (hc▸k.2.1))
 have hl:d<x.2.2.1.length:=by have:=hx.2.1.1;omega
 obtain ⟨u,a1,a2,a3,a4⟩:=Q9 o.2.2.1.1.rd (ty:=33) (e:=75) (by simp) (by simp) hl
 have hgd:x.2.2.1.getD d []=x.2.2.1[d]:=by simp [List.getD_eq_getElem?_getD,hl]
 have hho:headOf x d=headL x.2.2.1[d]:=by unfold headOf;rw [hgd]
 have g0:x.2.2.1[d]≠[]:=fun hh=>by
  unfold wantedN at g1
  rw [← hd,hgd,if_pos hh] at g1
  omega
 obtain ⟨z0,f1,f2,f3,c1,c2,c3,_⟩:=front a4 g0
 have hz:outAt a p c<x.2.2.2.1.length:=by have:=hx.2.1.2.1;unfold outAt;omega
 have hgo:x.2.2.2.1.getD (outAt a p c) 0=x.2.2.2.1[outAt a p c]:=by simp [List.getD_eq_getElem?_getD,hz]
 have key:reqN x a i p↔x.2.2.2.1[outAt a p c]=if (headL x.2.2.1[d]).2.2.2.1 then -1 else (q:Int):=by
  unfold reqN;rw [← hd,← hc,← hq,hgo,hho]
  exact ⟨fun k=>k.2.2,fun k=>⟨g1,g2,k⟩⟩
 generalize hzz:outAt a p c=z at *
 generalize headL x.2.2.1[d]=f at *
 have rd:=Rd.isI o.2.2.2.1.1.rd
 have q1:=rd.idx (P:=Tryz.prog) (ty:=26) (e:=3) (by simp) (i:=(z:Int)) (by omega) (by omega)
 have q2:=rd.load (P:=Tryz.prog) (e:=3) (by simp) hz
 simp only [Int.toNat_natCast] at q1 q2
 rw [hgo] at q2
 have qa:VM.one u=true∧u.cells=#[u]:=⟨a4.one',a4.cells⟩
 simp [e0,wn,g1,e3,rm,g2]
 rw [Qp (h:=by kernel_rfl)]
 simp [VM.look,VM.vnil,hr,ones,e3,bA,q1,q2]
 simp [-vfieldAddr,Qs,VM.look,VM.vnil,hr,ones,e1,e2,a2,a3,z0,f3,c3]
 by_cases g3:f.2.2.2.1=true
 ·simp only [g3,if_true] at key ⊢
  simp [e4]
  rw [← hY];simp only [key]
 ·simp only [g3,if_false] at key ⊢
  simp [e4]
  rw [← hY];simp only [key]
  try simp
theorem Jt {v:NetV} {x:NetD} {id a p:Nat} {e:TypeId} {tail:List Value} (hr:H[id]? = some ⟨netCells v x++tail,0,e⟩) (o:dNet.Ow H v x) (hx:runOk x) (ha:(a:Int)<cnt x.1.1 x.1.2.1) (hp:p<5) :
 wp (vcall C frz 106 [.pointer (some ⟨id,0,some 0⟩),.int .i64 a,.int .i64 p] H) (fun r H'=>Ow Fl.int 3 H' r ((reqsN x a p).map Int.ofNat)∧(∀i∈ids r,H.length≤i)∧Chg H H' []):=by
 rw [Qb (fn:=Tryz.f106) Tryz.func106 rfl (by kernel_rfl) rfl]
 simp
 refine Qm (fun n t H'=>∃(i:Nat) (r:Value),n=10-i∧i≤10∧t 0=.pointer (some ⟨id,0,some 0⟩)∧t 1=.int .i64 a∧t 2=.int .i64 p∧t 7=r∧t 10=.int .i64 i∧Chg H H' []∧Ow Fl.int 3 H' r (((List.range i).filter fun i=>reqN x a i p).map Int.ofNat)∧(∀j∈ids r,H.length≤j)) ?_ (n:=10)
  ⟨0,.slice (some ⟨H.length,0,some 0⟩) 0 0,rfl,by omega,by simp,by simp,by simp,by simp,by simp,Chg.app _,Ow.new0 (D:=Fl.int) (xs:=[]) rfl rfl rfl rfl,by simp⟩
 rintro n t H' ⟨i,r,rfl,hi,t0,t1,t2,t7,t10,ch,oo,nr⟩ ih
 simp [t0,t1,t2,t7,t10]
 refine Qf ?_ ?_<;>intro g
 ·have hi':i<10:=by omega
  have rq:=fun F=>Ke (frz:=F) (i:=i) (Qa hr ch (by simp)) (Dt.chg (T:=dNet) o ch (by simp)) hx ha hi' hp
  have hfl:=List.length_filter_le (fun i=>decide (reqN x a i p)) (List.range i)
  rw [List.length_range] at hfl
  simp [t0,t1,t2,t7,t10,rq]
  refine Qf ?_ ?_<;>intro g1
  ·obtain ⟨r',H2,hap,o2,c2,n2⟩:=oo.push (P:=Tryz.prog) (frz:=H.length) (ty:=26) (a:=(i:Int)) (by simp) rfl (by simp;omega) nr
   simp only [Fl.int_f] at hap
   have l0:=ch.1
   simp [t0,t1,t2,t7,t10,hap]
   refine ih (10-(i+1)) _ _ ⟨i+1,r',rfl,by omega,by simp [t0],by simp [t1],by simp [t2],by simp,?_,ch.trans' c2 (fun j hj=>.inr (nr j hj)),?_,fun j hj=>?_⟩ (by omega)
   ·simp [t10];rw [w64 (by omega) (by omega)]
   ·rw [List.range_succ,List.filter_append,List.map_append];simpa [g1] using o2
   ·rcases n2 j hj with h1|h1
    ·exact nr j h1
    ·have:=ch.1;omega
  ·simp [t0,t1,t2,t7,t10]
   refine ih (10-(i+1)) _ _ ⟨i+1,r,rfl,by omega,by simp [t0],by simp [t1],by simp [t2],by simp [t7],?_,ch,?_,nr⟩ (by omega)
   ·simp [t10];rw [w64 (by omega) (by omega)]
   ·rw [List.range_succ,List.filter_append,List.map_append];simpa [g1] using oo
 ·have:i=10:=by omega
  subst this
  simp [t0,t1,t2,t7,t10]
  exact ⟨oo,nr,ch⟩
theorem Vu {y t:Int} (h1:inR 0 y 9) (h2:inR 0 t 9):∀[Inhabited Unit],(IntKind.i64.wrap (IntKind.i64.wrap (y-t)+10)).tmod 10=(y-t+10)%10:=by
 intro _
 unfold inR at h1 h2
 rw [w64 (x:=y-t) (by omega) (by omega),w64 (by omega) (by omega),Int.tmod_eq_emod_of_nonneg (by omega)]
def firstTo (t:Int) (l:List Int) (i:Nat):Int:=firstF t (l.take i)
theorem Vx (t:Int) {l:List Int} {i:Nat} (h:i<l.length):firstTo t l (i+1)=if firstTo t l i<0∨(l[i]-t+10)%10<(firstTo t l i-t+10)%10 then l[i] else firstTo t l i:=by
 unfold firstTo firstF
 rw [List.take_succ_eq_append_getElem h,List.foldl_append];rfl
theorem Rz {t:Int} {l:List Int} {i:Nat} (h:∀y∈l,inR 0 y 9):firstTo t l i=-1∨inR 0 (firstTo t l i) 9:=by
 rcases Ug t (l.take i) (-1) with g|g
 ·exact .inl g
 ·exact .inr (h _ (List.mem_of_mem_take g))
theorem Ki (v:Value) (l:List Int) (k:Int) (hI:IsI H v l) (hl:l.length≤1073741824) (h1:∀y∈l,inR 0 y 9) (h2:inR 0 k 9) :
 vcall C frz 108 [v,.int .i64 k] H=some (.int .i64 (firstF k l),H):=by
 refine wp.exact (by simp) ?_ rfl
 rw [Qb (fn:=Tryz.f108) Tryz.func108 rfl (by kernel_rfl) rfl]
 have ai:∀F,vcall C F 40 [v,.int .i64 0,.int .i64 9] H=some (.bool true,H):=fun F=>by rw [Z3 v l 0 9 hI hl,decide_eq_true h1]
 simp [ai,Qv,h1,h2,hI.len]
 refine Qm (fun n t H'=>∃i:Nat,n=l.length-i∧i≤l.length∧t 1=.int .i64 k∧t 5=.int .i64 (firstTo k l i)∧t 16=v∧t 17=.int .i64 l.length∧t 18=.int .i64 i∧H'=H) ?_ (n:=l.length)
  ⟨0,rfl,by omega,by simp,by simp [firstTo,firstF],by simp,by simp,by simp,rfl⟩
 rintro n t H' ⟨i,rfl,hi,t1,t5,t16,t17,t18,rfl⟩ ih
 simp [t1,t5,t16,t17,t18]
 refine Qf ?_ ?_<;>intro g
 ·have hi':i<l.length:=by omega
  have hs:=Vx k hi'
  have hy:=h1 _ (List.getElem_mem hi')
  have tv:=Vu hy h2
  simp [t1,t5,t16,t17,t18,hI.idx,hI.load,Q6,hi']
  rcases Rz (t:=k) (i:=i) h1 with g1|g1
  ·rw [g1] at hs
   simp [g1] at hs
   simp [t1,t5,t16,t17,t18,g1]
   refine ih (l.length-(i+1)) _ _ ⟨i+1,rfl,by omega,by simp [t1],by simp [hs],by simp [t16],by simp [t17],?_,rfl⟩ (by omega)
   simp [t18];rw [w64 (by omega) (by omega)]
  ·have tb:=Vu g1 h2
   have g2:¬firstTo k l i<0:=by unfold inR at g1;omega
   simp [t1,t5,t16,t17,t18,g2,tv,tb]
   refine Qf ?_ ?_<;>intro g3
   ·rw [if_pos (.inr (by omega))] at hs
    simp [t1,t5,t16,t17,t18]
    refine ih (l.length-(i+1)) _ _ ⟨i+1,rfl,by omega,by simp [t1],by simp [hs],by simp [t16],by simp [t17],?_,rfl⟩ (by omega)
    simp [t18];rw [w64 (by omega) (by omega)]
   ·rw [if_neg (by omega)] at hs
    simp [t1,t5,t16,t17,t18]
    refine ih (l.length-(i+1)) _ _ ⟨i+1,rfl,by omega,by simp [t1],by simp [hs,t5],by simp [t16],by simp [t17],?_,rfl⟩ (by omega)
    simp [t18];rw [w64 (by omega) (by omega)]
 ·have:i=l.length:=by omega
  subst this
  simp [t1,t5,t16,t17,t18,firstTo]
theorem Nd (v:Value) (l:List Int) (k:Int) (hI:IsI H v l) (hl:l.length≤1073741824) (h1:∀y∈l,inR 0 y 9) (h2:inR 0 k 9) :
 vcall C frz 137 [v,.int .i64 k] H=some (.int .i64 (firstF k l),H):=by
 refine wp.exact (by simp) ?_ rfl
 rw [Qb (fn:=Tryz.f137) Tryz.func137 rfl (by kernel_rfl) rfl]
 simp
 refine Qm (fun n t H'=>∃i:Nat,n=l.length-i∧i≤l.length∧t 0=v∧t 1=.int .i64 k∧t 5=.int .i64 (firstTo k l i)∧t 6=.int .i64 i∧H'=H) ?_ (n:=l.length)
  ⟨0,rfl,by omega,by simp,by simp,by simp [firstTo,firstF],by simp,rfl⟩
 rintro n t H' ⟨i,rfl,hi,t0,t1,t5,t6,rfl⟩ ih
 simp [t0,t1,t5,t6,hI.len]
 refine Qf ?_ ?_<;>intro g
 ·have hi':i<l.length:=by omega
  have hs:=Vx k hi'
  have hy:=h1 _ (List.getElem_mem hi')
  have tv:=Vu hy h2
  simp [t0,t1,t5,t6,hI.idx,hI.load,Q6,hi',Q4,hy,h2]
  rcases Rz (t:=k) (i:=i) h1 with g1|g1
  ·rw [g1] at hs
   simp [g1] at hs
   simp [t0,t1,t5,t6,g1,hI.idx,hI.load,Q6,hi']
   refine ih (l.length-(i+1)) _ _ ⟨i+1,rfl,by omega,by simp [t0],by simp [t1],by simp [hs],?_,rfl⟩ (by omega)
   simp [t6];rw [w64 (by omega) (by omega)]
  ·have tb:=Vu g1 h2
   have g2:¬firstTo k l i<0:=by unfold inR at g1;omega
   simp [t0,t1,t5,t6,g2,tv,tb,hI.idx,hI.load,Q6,hi']
   refine Qf ?_ ?_<;>intro g3
   ·rw [if_pos (.inr (by omega))] at hs
    simp [t0,t1,t5,t6,hI.idx,hI.load,Q6,hi']
    refine ih (l.length-(i+1)) _ _ ⟨i+1,rfl,by omega,by simp [t0],by simp [t1],by simp [hs],?_,rfl⟩ (by omega)
    simp [t6];rw [w64 (by omega) (by omega)]
   ·rw [if_neg (by omega)] at hs
    simp [t0,t1,t5,t6]
    refine ih (l.length-(i+1)) _ _ ⟨i+1,rfl,by omega,by simp [t0],by simp [t1],by simp [hs,t5],?_,rfl⟩ (by omega)
    simp [t6];rw [w64 (by omega) (by omega)]
 ·have:i=l.length:=by omega
  subst this
  simp [t0,t1,t5,t6,firstTo]
end Go.Proofs.YtmddnnecgnpccaaGreat.V
set_option linter.all false
namespace Go.Proofs.YtmddnnecgnpccaaGreat.V
open Go Go.VM Go.Proofs
def G (xs:List Int) (i:Nat):Int:=xs.getD i 0
theorem Cb {xs:List Int} {i:Nat} (h:i<xs.length):G xs i=xs[i]:=by simp [G,List.getD_eq_getElem?_getD,h]
def swp (xs:List Int) (i j:Nat):List Int:=(xs.set i (G xs j)).set j (G xs i)
@[simp] theorem Bl (xs:List Int) (i j:Nat):(swp xs i j).length=xs.length:=by simp [swp]
theorem T6 {xs:List Int} {i j:Nat} (hi:i<xs.length) (hj:j<xs.length) (k:Nat):G (swp xs i j) k=if k=j then G xs i else if k=i then G xs j else G xs k:=by
 unfold swp
 by_cases hk:k<xs.length
 ·rw [Cb (by simpa using hk),List.getElem_set,List.getElem_set]
  by_cases h1:k=j
  ·rw [if_pos h1.symm,if_pos h1]
  ·rw [if_neg (Ne.symm h1),if_neg h1]
   by_cases h2:k=i
   ·rw [if_pos h2.symm,if_pos h2]
   ·rw [if_neg (Ne.symm h2),if_neg h2,Cb hk]
 ·rw [if_neg (by omega),if_neg (by omega)]
  simp [G,List.getD_eq_getElem?_getD,hk]
inductive Sw (a b:Nat) (xs:List Int):List Int→Prop
 | refl:Sw a b xs xs
 | step {ys:List Int} (i j:Nat) (h:Sw a b xs ys) (hi:a≤i∧i<b) (hj:a≤j∧j<b):Sw a b xs (swp ys i j)
variable {a b c d:Nat} {xs ys zs:List Int}
theorem Sw.len (h:Sw a b xs ys):ys.length=xs.length:=by
 induction h with
 | refl=>rfl
 | step i j _ _ _ ih=>rw [Bl,ih]
theorem Sw.trans (h:Sw a b xs ys) (h':Sw a b ys zs):Sw a b xs zs:=by
 induction h' with
 | refl=>exact h
 | step i j _ hi hj ih=>exact .step i j ih hi hj
theorem Sw.mono (h:Sw a b xs ys) (ha:c≤a) (hb:b≤d):Sw c d xs ys:=by
 induction h with
 | refl=>exact .refl
 | step i j _ hi hj ih=>exact .step i j ih (by omega) (by omega)
theorem Sw.out (h:Sw a b xs ys) (hb:b≤xs.length) {k:Nat} (hk:k<a∨b≤k):G ys k=G xs k:=by
 induction h with
 | refl=>rfl
 | step i j g hi hj ih=>rw [T6 (by rw [g.len];omega) (by rw [g.len];omega),if_neg (by omega),if_neg (by omega),ih]
theorem Sw.all (h:Sw a b xs ys) (hb:b≤xs.length) {p:Int→Prop} (hp:∀k,a≤k→k<b→p (G xs k)):∀k,a≤k→k<b→p (G ys k):=by
 induction h with
 | refl=>exact hp
 | step i j g hi hj ih=>
  intro k h1 h2
  rw [T6 (by rw [g.len];omega) (by rw [g.len];omega)]
  split
  ·exact ih i hi.1 hi.2
  ·split
   ·exact ih j hj.1 hj.2
   ·exact ih k h1 h2
theorem Sw.all' (h:Sw a b xs ys) (hb:b≤xs.length) {p:Int→Prop} (hc:c≤a) (hd:b≤d) (hp:∀k,c≤k→k<d→p (G xs k)):∀k,c≤k→k<d→p (G ys k):=by
 intro k h1 h2
 by_cases hk:a≤k∧k<b
 ·exact h.all hb (fun q g1 g2=>hp q (by omega) (by omega)) k hk.1 hk.2
 ·rw [h.out hb (by omega)];exact hp k h1 h2
def Srt (ys:List Int) (a b:Nat):Prop:=∀p q,a≤p→p<q→q<b→G ys p≤G ys q
theorem Srt.frame (h:Srt ys a b) (he:∀k,a≤k→k<b→G zs k=G ys k):Srt zs a b:=fun p q h1 h2 h3=>by
 rw [he p h1 (by omega),he q (by omega) h3];exact h p q h1 h2 h3
theorem Srt.join (h1:Srt ys a b) (h2:Srt ys b c) (h:∀p q,a≤p→p<b→b≤q→q<c→G ys p≤G ys q):Srt ys a c:=fun p q h3 h4 h5=>by
 by_cases hq:q<b
 ·exact h1 p q h3 h4 hq
 ·by_cases hp:p<b
  ·exact h p q h3 hp (by omega) h5
  ·exact h2 p q (by omega) h4 h5
def Ins (ys:List Int) (a i j:Nat):Prop:=∀p q,a≤p→p<q→q≤i→q≠j→G ys p≤G ys q
theorem Ins.start (h:Srt ys a b):Ins ys a b b:=fun p q h1 h2 h3 h4=>h p q h1 h2 (by omega)
theorem Ins.step {i j:Nat} (h:Ins ys a i j) (hi:i<ys.length) (ha:a<j) (hj:j≤i) (hlt:G ys j<G ys (j-1)):Ins (swp ys j (j-1)) a i (j-1):=by
 intro p q h1 h2 h3 h4
 rw [T6 (by omega) (by omega),T6 (by omega) (by omega)]
 rw [if_neg h4]
 by_cases hp:p=j-1
 ·rw [if_pos hp]
  by_cases hq:q=j
  ·rw [if_pos hq];omega
  ·rw [if_neg hq];have:=h (j-1) q (by omega) (by omega) h3 hq;omega
 ·rw [if_neg hp]
  by_cases hpj:p=j
  ·rw [if_pos hpj]
   rw [if_neg (by omega)]
   exact h (j-1) q (by omega) (by omega) h3 (by omega)
  ·rw [if_neg hpj]
   by_cases hq:q=j
   ·rw [if_pos hq];exact h p (j-1) h1 (by omega) (by omega) (by omega)
   ·rw [if_neg hq];exact h p q h1 h2 h3 hq
theorem Ins.done {i j:Nat} (h:Ins ys a i j) (hj:j=a∨(a<j∧G ys (j-1)≤G ys j)):Srt ys a (i+1):=by
 intro p q h1 h2 h3
 by_cases hq:q=j
 ·subst hq
  rcases hj with hj|⟨hj,hle⟩
  ·omega
  ·by_cases hp:p=q-1
   ·rw [hp];exact hle
   ·have:=h p (q-1) h1 (by omega) (by omega) (by omega);omega
 ·exact h p q h1 h2 (by omega) hq
def Hp (ys:List Int) (f lo n:Nat):Prop:=∀r c,lo≤r→(c=2*r+1∨c=2*r+2)→c<n→G ys (f+c)≤G ys (f+r)
def HpB (ys:List Int) (f lo n r:Nat):Prop:=
 (∀s c,lo≤s→s≠r→(c=2*s+1∨c=2*s+2)→c<n→G ys (f+c)≤G ys (f+s))∧
 (∀s c,lo≤s→(r=2*s+1∨r=2*s+2)→(c=2*r+1∨c=2*r+2)→c<n→G ys (f+c)≤G ys (f+s))
theorem HpB.start {f lo n:Nat} (h:Hp ys f (lo+1) n):HpB ys f lo n lo:=
 ⟨fun s c h1 h2 h3 h4=>h s c (by omega) h3 h4,fun s c h1 h2=>by omega⟩
theorem HpB.done {f lo n r:Nat} (h:HpB ys f lo n r) (hd:∀c,(c=2*r+1∨c=2*r+2)→c<n→G ys (f+c)≤G ys (f+r)):Hp ys f lo n:=fun s c h1 h2 h3=>by
 by_cases hs:s=r
 ·subst hs;exact hd c h2 h3
 ·exact h.1 s c h1 hs h2 h3
theorem HpB.step {f lo n r c:Nat} (h:HpB ys f lo n r) (hl:f+n≤ys.length) (hlo:lo≤r) (hc:c=2*r+1∨c=2*r+2) (hn:c<n) (hlt:G ys (f+r)<G ys (f+c))
 (hbig:∀q,(q=2*r+1∨q=2*r+2)→q<n→G ys (f+q)≤G ys (f+c)):HpB (swp ys (f+r) (f+c)) f lo n c:=by
 have gc:G (swp ys (f+r) (f+c)) (f+c)=G ys (f+r):=by rw [T6 (by omega) (by omega),if_pos rfl]
 have gr:G (swp ys (f+r) (f+c)) (f+r)=G ys (f+c):=by rw [T6 (by omega) (by omega),if_neg (by omega),if_pos rfl]
 have go:∀k,k≠c→k≠r→G (swp ys (f+r) (f+c)) (f+k)=G ys (f+k):=fun k h1 h2=>by rw [T6 (by omega) (by omega),if_neg (by omega),if_neg (by omega)]
 refine ⟨fun s q h1 h2 h3 h4=>?_,fun s q h1 h2 h3 h4=>?_⟩
 ·by_cases hq:q=c
  ·have hs:s=r:=by omega
   subst hq hs
   rw [gc,gr];omega
  ·by_cases hs:s=r
   ·subst hs
    rw [gr,go q hq (by omega)]
    exact hbig q h3 h4
   ·by_cases hqr:q=r
    ·subst hqr
     rw [gr,go s h2 hs]
     exact h.2 s c h1 h3 hc hn
    ·rw [go q hq hqr,go s h2 hs];exact h.1 s q h1 hs h3 h4
 ·have hs:s=r:=by omega
  subst hs
  rw [gr,go q (by omega) (by omega)]
  exact h.1 c q (by omega) (by omega) h3 h4
theorem Hp.frame {f lo n:Nat} (h:Hp ys f lo n) (he:∀k,lo≤k→k<n→G zs (f+k)=G ys (f+k)):Hp zs f lo n:=fun r c h1 h2 h3=>by
 rw [he c (by omega) h3,he r h1 (by omega)];exact h r c h1 h2 h3
end Go.Proofs.YtmddnnecgnpccaaGreat.V
set_option linter.all false
namespace Go.Proofs.YtmddnnecgnpccaaGreat.V
open Go Go.VM Go.Proofs
set_option maxRecDepth 10000
variable {frz:Nat} {H:Heap} {v:Value} {xs:List Int} {e:TypeId}
theorem At (o:Ow Fl.int e H v xs) {i:Nat} (h1:i<xs.length):vindexAddr Tryz.prog H 26 v (.int .i64 i)=some (elp v i):=by
 have:=o.rd.isI.idx (P:=Tryz.prog) (ty:=26) (e:=3) (by simp) (i:=(i:Int)) (by omega) (by omega)
 simpa using this
theorem zr (o:Ow Fl.int e H v xs) {i:Nat} (h1:i<xs.length):vload Tryz.prog H 3 (elp v i)=some (.int .i64 (G xs i)):=
 o.rd.isI.load (P:=Tryz.prog) (e:=3) (by simp) h1
def Pt (ys:List Int) (a b:Nat) (x:Int) (P:Int→Prop) (i j:Nat):Prop:=G ys a=x∧(∀k,a<k→k<i→P (G ys k))∧∀k,j<k→k<b→¬P (G ys k)
section
variable {ys:List Int} {a b i j:Nat} {x:Int} {P:Int→Prop}
theorem Pt.fin (h:Pt ys a b x P i j) (hij:i=j+1) (ha:a<i) (hj:j<b) (hb:b≤ys.length):G (swp ys j a) j=x∧(∀k,a≤k→k<j→P (G (swp ys j a) k))∧∀k,j<k→k<b→¬P (G (swp ys j a) k):=by
 have g:=fun k=>T6 (xs:=ys) (i:=j) (j:=a) (by omega) (by omega) k
 refine ⟨?_,fun k h1 h2=>?_,fun k h1 h2=>?_⟩
 ·rw [g]
  split
  ·rename_i e;rw [e];exact h.1
  ·rw [if_pos rfl];exact h.1
 ·rw [g]
  split
  ·exact h.2.1 j (by omega) (by omega)
  ·rw [if_neg (by omega)];exact h.2.1 k (by omega) (by omega)
 ·rw [g,if_neg (by omega),if_neg (by omega)];exact h.2.2 k h1 h2
end
theorem Srt.snoc {ys:List Int} {a i:Nat} (h:Srt ys a i) (hi:a<i→G ys (i-1)≤G ys i):Srt ys a (i+1):=fun p q h1 h2 h3=>by
 by_cases hq:q=i
 ·rw [hq]
  have hlt:a<i:=by omega
  have:=hi hlt
  by_cases hp:p=i-1
  ·rw [hp];exact this
  ·have:=h p (i-1) h1 (by omega) (by omega);omega
 ·exact h p q h1 h2 (by omega)
structure Pq (ys:List Int) (A B a b:Nat):Prop where
 le:A≤a∧a≤b∧b≤B
 left:Srt ys A a
 right:Srt ys b B
 lo:∀p q,A≤p→p<a→a≤q→q<B→G ys p≤G ys q
 hi:∀p q,A≤p→p<b→b≤q→q<B→G ys p≤G ys q
 low:0<A→∀k,A≤k→k<B→G ys (A-1)≤G ys k
section
variable {ys zs:List Int} {A B a b m:Nat}
theorem Pq.below (h:Pq ys A B a b) (ha:0<a):∀k,a≤k→k<B→G ys (a-1)≤G ys k:=fun k h1 h2=>by
 obtain ⟨l1,l2,l3⟩:=h.le
 by_cases hA:a=A
 ·have:=h.low (by omega) k (by omega) h2;rw [hA];exact this
 ·exact h.lo (a-1) k (by omega) (by omega) h1 h2
theorem Pq.sw (h:Pq ys A B a b) (s:Sw a b ys zs) (hB:B≤ys.length):Pq zs A B a b:=by
 obtain ⟨l1,l2,l3⟩:=h.le
 have hb:b≤ys.length:=by omega
 have out:=fun k (hk:k<a∨b≤k)=>s.out hb hk
 refine ⟨h.le,h.left.frame (fun k h1 h2=>out k (.inl h2)),h.right.frame (fun k h1 h2=>out k (.inr h1)),fun p q h1 h2 h3 h4=>?_,fun p q h1 h2 h3 h4=>?_,fun h0 k h1 h2=>?_⟩
 ·rw [out p (.inl h2)]
  exact s.all' hb (p:=fun y=>G ys p≤y) (Nat.le_refl a) l3 (fun k k1 k2=>h.lo p k h1 h2 k1 k2) q h3 h4
 ·rw [out q (.inr h3)]
  exact s.all' hb (p:=fun y=>y≤G ys q) l1 (Nat.le_refl b) (fun k k1 k2=>h.hi k q k1 k2 h3 h4) p h1 h2
 ·rw [out (A-1) (.inl (by omega))]
  exact s.all' hb (p:=fun y=>G ys (A-1)≤y) l1 l3 (fun k k1 k2=>h.low h0 k k1 k2) k h1 h2
theorem Pq.done (h:Pq ys A B a b) (s:Srt ys a b):Srt ys A B:=by
 obtain ⟨l1,l2,l3⟩:=h.le
 exact (h.left.join (s.join h.right (fun p q h1 h2 h3 h4=>h.hi p q (by omega) h2 h3 h4)) h.lo)
theorem Pq.eq {x:Int} (h:Pq ys A B a b) (hm:a<m∧m≤b) (hx:∀k,a≤k→k<b→x≤G ys k) (h1:∀k,a≤k→k<m→¬x<G ys k) (h2:∀k,m≤k→k<b→x<G ys k):Pq ys A B m b:=by
 obtain ⟨l1,l2,l3⟩:=h.le
 refine ⟨by omega,h.left.join (fun p q q1 q2 q3=>?_) (fun p q q1 q2 q3 q4=>h.lo p q q1 q2 q3 (by omega)),h.right,fun p q q1 q2 q3 q4=>?_,h.hi,h.low⟩
 ·have:=h1 p q1 (by omega);have:=hx q (by omega) (by omega);omega
 ·by_cases hp:p<a
  ·exact h.lo p q q1 hp (by omega) q4
  ·by_cases hq:q<b
   ·have:=h1 p (by omega) q2;have:=h2 q q3 hq;omega
   ·exact h.hi p q q1 (by omega) (by omega) q4
end
end Go.Proofs.YtmddnnecgnpccaaGreat.V
set_option linter.all false
namespace Go.Proofs.YtmddnnecgnpccaaGreat.V
open Go Go.VM Go.Proofs
set_option maxRecDepth 10000
variable {frz:Nat} {H:Heap} {v:Value} {xs ys:List Int} {e:TypeId}
theorem B7 (o:Ow Fl.int 3 H v xs) (h0:0<xs.length) {l:Nat} (hl:l≤xs.length):∃z,∀(H':Heap) (ys:List Int),Ow Fl.int 3 H' v ys→ys.length=xs.length→
 vslice Tryz.prog H' 26 (some (.int .i64 (l:Nat))) none v=some z∧Ow Fl.int 3 H' z (ys.drop l)∧ids z=ids v:=by
 rcases o with ⟨_,rfl⟩|⟨id,off,r,rfl,k2,k3,k4,k5,k6⟩
 ·simp at h0
 ·refine ⟨.slice (some ⟨id,off+l*1,some r.gen⟩) (xs.length-l) 0,fun H' ys o' hlen=>?_⟩
  obtain ⟨z',h1,h2,h3⟩:=o'.slice (P:=Tryz.prog) (ty:=26) (lo:=some (.int .i64 (l:Int))) (hi:=none) (l:=l) (u:=ys.length) (by simp) rfl rfl (by omega) (Nat.le_refl _)
  have e:(ys.drop l).take (ys.length-l)=ys.drop l:=List.take_of_length_le (by simp)
  rw [e] at h2
  have hz:z'=.slice (some ⟨id,off+l*1,some r.gen⟩) (xs.length-l) 0:=by
   rcases o' with ⟨hv,_⟩|⟨id',off',r',hv,q2,q3,q4,q5,q6⟩
   ·cases hv
   ·injection hv with hv1 hv2
    injection hv1 with hv1
    injection hv1 with i1 i2 i3
    injection i3 with i3
    subst i1 i2
    have hle:(l:Int)≤(xs.length:Int):=by omega
    simp [vslice,VM.look,q2,i3,vbound,q5,hle] at h1
    simp [← h1,i3]
  rw [← hz]
  exact ⟨h1,h2,h3⟩
theorem Dg (o:Ow Fl.int 3 H v ys) (h0:0<ys.length) {l:Nat} (hl:l≤ys.length) {z:Value} (hz:vslice Tryz.prog H 26 (some (.int .i64 (l:Nat))) none v=some z) (hf:∀i∈ids v,frz≤i) :
 ∃H' zs,vclear Tryz.prog frz H 26 z=some (undef,H')∧zs.length=ys.length∧zs.take l=ys.take l∧Ow Fl.int 3 H' v zs∧Chg H H' (ids v):=by
 rcases o with ⟨_,rfl⟩|⟨id,off,r,rfl,k2,k3,k4,k5,k6⟩
 ·simp at h0
 ·have hle:(l:Int)≤(ys.length:Int):=by omega
  simp [vslice,VM.look,k2,vbound,k5,hle] at hz
  subst hz
  have hfr:frz≤id:=hf id (by simp)
  have hn:Fl.int.n=1:=rfl
  rw [hn] at k3 k4
  have hroom:off+l+(ys.length-l)≤r.cells.length:=by omega
  refine ⟨H.set id { r with cells:=VM.splice r.cells (off+l) (List.replicate (ys.length-l) [Value.int .i64 0]).flatten },ys.take l++List.replicate (ys.length-l) 0,?_,by simp;omega,by rw [List.take_append_of_le_length (by simp;omega),List.take_take,Nat.min_self],?_,Ql _ _⟩
  ·simp [vclear,VM.look,k2,hfr,hroom,ones,VM.one]
  ·have hcl:((List.replicate (ys.length-l) [Value.int .i64 0]).flatten).length=ys.length-l:=by simp
   have hlt:id<H.length:=Q0 k2
   have hzl:(ys.take l++List.replicate (ys.length-l) (0:Int)).length=ys.length:=by simp;omega
   refine .inr ⟨id,off,{ r with cells:=VM.splice r.cells (off+l) (List.replicate (ys.length-l) [Value.int .i64 0]).flatten },by rw [hzl],by simp [hlt],?_,?_,k5,Z9 k6 (by simp [ones,VM.one])⟩
   ·rw [hzl,hn,Yo k3 k4 (by rw [hcl];omega),Wh,Wh]
    unfold VM.splice
    rw [hcl]
    have e1:(List.map (Value.int .i64) ys).drop (l+(ys.length-l))=[]:=by rw [List.drop_eq_nil_iff];simp;omega
    rw [e1,List.append_nil,List.map_append,List.map_take]
    simp
   ·rw [hzl,hn,Zj (by rw [hcl];omega)];exact k4
end Go.Proofs.YtmddnnecgnpccaaGreat.V
set_option linter.all false
namespace Go.Proofs.YtmddnnecgnpccaaGreat.V
open Go Go.VM Go.Proofs
set_option maxRecDepth 10000
variable {frz:Nat} {H:Heap}
def placeP (p:Int→Bool) (b:List Int):Int:=if b.any p then b.findIdx p else -1
theorem Fd {p:Int→Bool} {b:List Int} {i:Nat} (h:i<b.length) (h1:∀x∈b.take i,p x=false) (h2:p b[i]=true):placeP p b=i:=by
 unfold placeP
 rw [if_pos (List.any_eq_true.2 ⟨b[i],List.getElem_mem h,h2⟩)]
 congr 1
 rw [List.findIdx_eq h]
 refine ⟨h2,fun j hj=>?_⟩
 refine Bool.eq_false_iff.1 ?_ |> fun hh=>by simpa using hh
 exact h1 _ (by rw [List.mem_take_iff_getElem];exact ⟨j,by omega,rfl⟩)
theorem Mw (v f:Value) (p:Int→Bool) (b:List Int) (hI:IsI H v b) (hl:b.length≤1073741824)
 (hf:∀x∈b,vclos (vcall C H.length) f [.int .i64 x] H=some (.bool (p x),H)) :
 vcall C frz 124 [v,f] H=some (.int .i64 (placeP p b),H):=by
 rw [Qb (fn:=Tryz.f124) Tryz.func124 rfl (by kernel_rfl) rfl]
 simp [hI.len]
 refine Yp (fun n t H'=>∃i:Nat,n=b.length-i∧i≤b.length∧t 0=v∧t 1=f∧t 6=v∧t 7=.int .i64 b.length∧t 8=.int .i64 i∧H'=H∧∀x∈b.take i,p x=false) ?_ (n:=b.length) ⟨0,by simp⟩
 rintro n t H' ⟨i,rfl,hi,h0,h1,h2,h3,h4,rfl,hj⟩ ih
 simp [h0,h1,h2,h3,h4,hI.len]
 refine Qr _ ?_ ?_<;>intro h5
 ·simp [h0,h1,h2,h3,h4,h5,hI.idx,hI.load,Q6,hf]
  refine jr _ ?_ ?_<;>intro h6<;>simp [h0,h1,h2,h3,h4,h6]
  ·rw [Fd h5 hj h6]
  ·refine ih (b.length-(i+1)) _ _ ⟨i+1,rfl,by omega,by simp [h0],by simp [h1],by simp [h2],by simp [h3],?_,rfl,?_⟩ (by omega)
   ·simp;rw [w64 (by omega) (by omega)]
   ·rw [List.take_succ_eq_append_getElem h5]
    intro x hx
    rcases List.mem_append.1 hx with hx|hx
    ·exact hj x hx
    ·rw [List.mem_singleton.1 hx];exact h6
 ·have:i=b.length:=by omega
  subst this
  simp [h0,h1,h2,h3]
  rw [List.take_length] at hj
  rw [placeP,if_neg]
  rw [List.any_eq_true]
  rintro ⟨x,hx,hp⟩
  rw [hj x hx] at hp;cases hp
end Go.Proofs.YtmddnnecgnpccaaGreat.V
set_option linter.all false
namespace Go.Proofs.YtmddnnecgnpccaaGreat.V
open Go Go.VM Go.Proofs
set_option maxRecDepth 10000
variable {frz:Nat} {H:Heap} {v:Value} {xs:List Int}
theorem M9 {p:Int→Bool} {l:List Int} (h:l.any p=false):l.filter (fun x=>!p x)=l:=by
 rw [List.filter_eq_self]
 intro x hx
 cases hp:p x with
 | false=>rfl
 | true=>rw [List.any_eq_true.2 ⟨x,hx,hp⟩] at h;cases h
theorem Ny {p:Int→Bool} {b:List Int} (h:b.any p=true):∃i:Nat,placeP p b=i∧i<b.length∧(∀x∈b.take i,p x=false)∧∀(hi:i<b.length),p b[i]=true:=by
 have hl:b.findIdx p<b.length:=by
  obtain ⟨x,hx,hp⟩:=List.any_eq_true.1 h
  exact List.findIdx_lt_length_of_exists ⟨x,hx,hp⟩
 refine ⟨b.findIdx p,by rw [placeP,if_pos h],hl,fun x hx=>?_,fun hi=>List.findIdx_getElem⟩
 obtain ⟨j,hj,rfl⟩:=List.mem_iff_getElem.1 hx
 rw [List.length_take] at hj
 rw [List.getElem_take]
 have:=List.not_of_lt_findIdx (p:=p) (xs:=b) (i:=j) (by omega)
 simpa using this
theorem Nq (v f:Value) (p:Int→Bool) (xs:List Int) (h:Ow Fl.int 3 H v xs) (hl:xs.length≤1073741824) (hf:∀i∈ids v,frz≤i)
 (hc:∀K,Chg H K (ids v)→∀F,∀x∈xs,vclos (vcall C F) f [.int .i64 x] K=some (.bool (p x),K)) :
 wp (vcall C frz 105 [v,f] H) (fun u H'=>Ow Fl.int 3 H' u (xs.filter fun x=>!p x)∧(∀i∈ids u,i∈ids v)∧Chg H H' (ids v)):=by
 rw [Qb (fn:=Tryz.f105) Tryz.func105 rfl (by kernel_rfl) rfl]
 have ix:=fun F=>Mw (frz:=F) v f p xs h.rd.isI hl (fun x hx=>hc H (Chg.refl _) _ x hx)
 simp [ix]
 by_cases g0:xs.any p=true
 rotate_left
 ·have g0':xs.any p=false:=by simpa using g0
  have e:placeP p xs=-1:=by rw [placeP,if_neg g0]
  simp [e]
  rw [M9 g0']
  exact ⟨h,Chg.refl _⟩
 obtain ⟨k0,e,hk0,hb,hat⟩:=Ny g0
 have e':¬((k0:Int)=-1):=by omega
 have w1:∀[Inhabited Unit],IntKind.i64.wrap ((k0:Int)+1)=((k0+1:Nat):Int):=by intro _;rw [w64 (by omega) (by omega)];omega
 have f0:(xs.take (k0+1)).filter (fun x=>!p x)=xs.take k0:=by
  rw [List.take_succ_eq_append_getElem hk0,List.filter_append,List.filter_eq_self.2 (fun x hx=>by rw [hb x hx];rfl)]
  simp [hat hk0]
 simp [e,e']
 refine Qm (fun n t H'=>∃(k j:Nat) (ys:List Int),n=xs.length-j∧j≤xs.length∧k<j∧t 0=v∧t 1=f∧t 5=.int .i64 k∧t 6=.int .i64 j∧ys.length=xs.length∧ys.take k=(xs.take j).filter (fun x=>!p x)∧(∀m,j≤m→G ys m=G xs m)∧
  Ow Fl.int 3 H' v ys∧Chg H H' (ids v)) ?_ (n:=xs.length-(k0+1))
  ⟨k0,k0+1,xs,rfl,by omega,by omega,by simp,by simp,by simp,by simp [w1],rfl,f0.symm,fun m hm=>rfl,h,Chg.refl _⟩
 rintro n t H' ⟨k,j,ys,rfl,hj,hk,t0,t1,t5,t6,hlen,htk,hG,o,ch⟩ ih
 have lz:=o.rd.len (P:=Tryz.prog) (ty:=26) (by simp)
 simp [t0,t1,t5,t6,lz,hlen]
 refine Qf ?_ ?_<;>intro g
 ·have hj':j<xs.length:=by omega
  have hjy:j<ys.length:=by omega
  have hkl:k<ys.length:=by omega
  have e3:∀[Inhabited Unit],IntKind.i64.wrap ((j:Int)+1)=((j+1:Nat):Int):=by intro _;rw [w64 (by omega) (by omega)];omega
  have e4:∀[Inhabited Unit],IntKind.i64.wrap ((k:Int)+1)=((k+1:Nat):Int):=by intro _;rw [w64 (by omega) (by omega)];omega
  have hGx:G xs j=xs[j]:=Cb hj'
  have cl:=fun F=>hc H' ch F (G xs j) (by rw [hGx];exact List.getElem_mem hj')
  have hts:(xs.take (j+1)).filter (fun x=>!p x)=(xs.take j).filter (fun x=>!p x)++(if p (G xs j)=true then [] else [G xs j]):=by
   rw [List.take_succ_eq_append_getElem hj',List.filter_append,hGx]
   cases hpj:p xs[j]<;>simp [hpj]
  generalize hX:G xs j=X at *
  simp [t0,t1,t5,t6,At o hjy,zr o hjy,hG j (Nat.le_refl _),hX,cl]
  cases hp:p X with
  | true=>
   rw [if_pos hp] at hts
   simp [t0,t1,t5,t6]
   refine ih (xs.length-(j+1)) _ _ ⟨k,j+1,ys,rfl,by omega,by omega,by simp [t0],by simp [t1],by simp [t5],by simp [e3],hlen,by rw [hts,List.append_nil];exact htk,fun m hm=>hG m (by omega),o,ch⟩ (by omega)
  | false=>
   rw [if_neg (by rw [hp];simp)] at hts
   obtain ⟨H2,s2,o2,c2,l2⟩:=o.put1 (P:=Tryz.prog) (frz:=frz) rfl (et:=3) (ag:=false) (by simp) hkl (x:=.int .i64 X) (y:=X) rfl rfl rfl hf
   simp [t0,t1,t5,t6,At o hkl,s2]
   refine ih (xs.length-(j+1)) _ _ ⟨k+1,j+1,ys.set k X,rfl,by omega,by omega,by simp [t0],by simp [t1],by simp [e4],by simp [e3],by simp [hlen],?_,fun m hm=>?_,o2,ch.trans c2⟩ (by omega)
   ·rw [hts,← htk,List.take_succ_eq_append_getElem (by simpa using hkl),List.getElem_set_self]
    simp [List.take_set_of_le]
   ·have hmk:m≠k:=by omega
    have:G (ys.set k X) m=G ys m:=by simp [G,List.getD_eq_getElem?_getD,List.getElem?_set_ne (Ne.symm hmk)]
    rw [this];exact hG m (by omega)
 ·have hjl:j=xs.length:=by omega
  have hkl:k≤ys.length:=by omega
  have hn:0<ys.length:=by omega
  obtain ⟨y,hy⟩:=B7 o hn (l:=k) hkl
  obtain ⟨y1,_,_⟩:=hy H' ys o rfl
  obtain ⟨H2,zs,cl,zl,zt,oz2,c2⟩:=Dg o hn hkl y1 hf
  obtain ⟨q,q1,q2,q3⟩:=oz2.slice (P:=Tryz.prog) (ty:=26) (lo:=none) (hi:=some (.int .i64 (k:Int))) (l:=0) (u:=k) (by simp) rfl rfl (Nat.zero_le _) (by omega)
  simp [t0,t1,t5,t6,y1,cl,q1]
  simp only [List.drop_zero,Nat.sub_zero,zt,htk,hjl,List.take_length] at q2
  exact ⟨q2,by rw [q3];exact fun i hi=>hi,ch.trans c2⟩
end Go.Proofs.YtmddnnecgnpccaaGreat.V
set_option linter.all false
namespace Go.Proofs.YtmddnnecgnpccaaGreat.V
open Go Go.VM Go.Proofs
set_option maxRecDepth 10000
variable {frz:Nat} {H:Heap}
theorem My {v:NetV} {x:NetD} {a i:Nat} (o':dNet.Ow H v x) (hx:runOk x) (ha:(a:Int)<cnt x.1.1 x.1.2.1) (hi:i<10) :
 vcall C frz 139 [dNet.val v x,.int .i64 a,.int .i64 i] H=some (.int .i64 (wantedN x a i),H):=by
 refine wp.exact (by simp) ?_ rfl
 have ones:=Qh o'
 have cr:=Qg x.1.1 x.1.2.1
 simp only [Qc]
 rw [Qb (fn:=Tryz.f139) Tryz.func139 rfl (by kernel_rfl) rfl]
 obtain ⟨d,hd⟩:∃d,d=10*a+i:=⟨_,rfl⟩
 obtain ⟨c,hc⟩:∃c,c=i%2:=⟨_,rfl⟩
 obtain ⟨q,hq⟩:∃q,q=i/2:=⟨_,rfl⟩
 generalize hY:wantedN x a i=Y
 unfold wantedN at hY
 rw [← hd,← hc,← hq] at hY
 have e1:=@w6 (10*(a:Int)) (by omega)
 have e2:∀[Inhabited Unit],IntKind.i64.wrap (10*(a:Int)+(i:Int))=(d:Int):=by intro _;rw [w64 (by omega) (by omega)];omega
 have e3:∀[Inhabited Unit],(i:Int).tmod 2=(c:Int):=by intro _;rw [tmod2];omega
 have e3':∀[Inhabited Unit],(i:Int)%2=(c:Int):=by intro _;omega
 have e4:∀[Inhabited Unit],IntKind.i64.wrap ((i:Int)/2)=(q:Int):=by intro _;rw [w64 (by omega) (by omega)];omega
 obtain ⟨G,hG⟩:∃G,G=H++[⟨netCells v x,0,35⟩]:=⟨_,rfl⟩
 have o:dNet.Ow G v x:=hG▸Dt.app (T:=dNet) o'
 have hr:G[H.length]? = some ⟨netCells v x,0,35⟩:=by rw [hG];simp
 have hGs:H++[⟨netCells v x,0,35⟩]=G:=hG.symm
 unfold netCells at hr hGs
 have hl:d<x.2.2.1.length:=by have:=hx.2.1.1;omega
 obtain ⟨u,a1,a2,a3,a4⟩:=Q9 o.2.2.1.1.rd (ty:=33) (e:=75) (by simp) (by simp) hl
 have la:=a4.len (P:=Tryz.prog) (ty:=75) (by simp)
 have hgd:x.2.2.1.getD d []=x.2.2.1[d]:=by simp [List.getD_eq_getElem?_getD,hl]
 have hho:headOf x d=headL x.2.2.1[d]:=by unfold headOf;rw [hgd]
 have qa:VM.one u=true∧u.cells=#[u]:=⟨a4.one',a4.cells⟩
 simp [ones]
 rw [hGs]
 simp [VM.look,hr,ones,e1,e2,e3,e3',a2,a3,la]
 rw [hgd,hho] at hY
 by_cases g0:x.2.2.1[d]=[]
 ·rw [if_pos g0] at hY
  simp [g0,hY]
 rw [if_neg g0] at hY
 have g0':¬(x.2.2.1[d].length:Int)=0:=by
  have:=List.length_pos_iff.2 g0;omega
 have g0n:¬x.2.2.1[d].length=0:=by omega
 obtain ⟨z0,f1,f2,f3,c1,c2,c3,_⟩:=front a4 g0
 obtain ⟨k1,k2⟩:=hx.2.2.1 d _ (by rw [hgd];exact Uq g0)
 generalize headL x.2.2.1[d]=f at *
 simp [-vfieldAddr,Qs,g0',g0n,g0,z0,f3,c3]
 by_cases g1:f.2.2.2.1=true
 ·rw [if_pos g1] at hY
  simp only [g1]
  have ha':isN x.1.1 x.1.2.1 a:=⟨by omega,ha⟩
  obtain ⟨k0,k0',k3,k4⟩:=Ua ha' k2.1
  obtain ⟨N,hN⟩:∃N,N=cnt x.1.1 x.1.2.1:=⟨_,rfl⟩
  have e5:∀[Inhabited Unit],IntKind.i64.wrap ((a:Int)*N)=a*N:=by intro _;rw [hN];exact w64 (by omega) (by omega)
  have e6:∀[Inhabited Unit],IntKind.i64.wrap ((a:Int)*N+f.2.1)=a*N+f.2.1:=by intro _;rw [hN];exact w64 (by omega) (by have:=k2.1.2;omega)
  have nc:=fun F=>Qx (frz:=F) (H:=G) x.1.1 x.1.2.1
  rw [← hN] at nc
  simp [VM.look,hr,ones,nc]
  by_cases g2:c=1
  ·rw [if_pos g2] at hY
   have hT:=Rd.isI o.2.1.2.1.rd
   have hs:=hx.1.2.1.2
   have q1:vindexAddr Tryz.prog G 26 v.2.1.2 (.int .i64 (a*N+f.2.1))=some (elp v.2.1.2 (a*N+f.2.1).toNat):=by rw [hN];exact hT.idx (e:=3) (by simp) k0 (by omega)
   have q2:vload Tryz.prog G 3 (elp v.2.1.2 (a*N+f.2.1).toNat)=some (.int .i64 Y):=by rw [← hY];unfold portOf rd;rw [hN];exact hT.load (by simp) (by omega)
   subst g2
   simp
   rw [Qp (h:=by kernel_rfl)]
   simp [-vfieldAddr,Qs,VM.look,hr,ones,e5,e6,z0,f1,c1,q1,q2]
  ·rw [if_neg g2] at hY
   have hT:=Rd.isI o.2.1.1.1.rd
   have hs:=hx.1.1.1.2
   have q1:vindexAddr Tryz.prog G 26 v.2.1.1 (.int .i64 (a*N+f.2.1))=some (elp v.2.1.1 (a*N+f.2.1).toNat):=by rw [hN];exact hT.idx (e:=3) (by simp) k0 (by omega)
   have q2:vload Tryz.prog G 3 (elp v.2.1.1 (a*N+f.2.1).toNat)=some (.int .i64 Y):=by rw [← hY];unfold portOf rd;rw [hN];exact hT.load (by simp) (by omega)
   have g2':¬(c:Int)=1:=by omega
   simp [g2,g2']
   rw [Qp (h:=by kernel_rfl)]
   simp [-vfieldAddr,Qs,VM.look,hr,ones,e5,e6,z0,f1,c1,q1,q2]
 ·rw [if_neg g1] at hY
  simp only [g1]
  simp
  refine Qm (fun n t H'=>∃p:Nat,n=5-p∧p≤5∧t 1=.int .i64 a∧t 2=.int .i64 i∧t 3=.pointer (some ⟨H.length,0,some 0⟩)∧t 8=.int .i64 c∧t 10=.int .i64 p∧H'=G∧∀r,r<p→decide (x.2.2.2.1.getD (outAt a r c) 0=(q:Int))=false) ?_ (n:=5) ⟨0,by simp,by omega,by simp,by simp,by simp,by simp [e3,e3'],by simp,rfl,by omega⟩
  rintro n t H' ⟨p,rfl,hp,t1,t2,t3,t8,t10,rfl,hk⟩ ih
  simp [t1,t2,t3,t8,t10]
  refine Qf ?_ ?_<;>intro g
  ·have hp':p<5:=by omega
   have e7:=@w6 (2*(p:Int)) (by omega)
   have e8:=@w6 (10*(a:Int)+2*(p:Int)) (by omega)
   have hz:outAt a p c<x.2.2.2.1.length:=by have:=hx.2.1.2.1;unfold outAt;omega
   have e9:∀[Inhabited Unit],IntKind.i64.wrap (10*(a:Int)+2*(p:Int)+(c:Int))=(outAt a p c:Nat):=by intro _;unfold outAt;rw [w64 (by omega) (by omega)];omega
   have hgo:x.2.2.2.1.getD (outAt a p c) 0=x.2.2.2.1[outAt a p c]:=by simp [List.getD_eq_getElem?_getD,hz]
   generalize hzz:outAt a p c=z at *
   have rd:=Rd.isI o.2.2.2.1.1.rd
   have q1:=rd.idx (P:=Tryz.prog) (ty:=26) (e:=3) (by simp) (i:=(z:Int)) (by omega) (by omega)
   have q2:=rd.load (P:=Tryz.prog) (e:=3) (by simp) hz
   simp only [Int.toNat_natCast] at q1 q2
   rw [hgo] at q2
   simp [VM.look,hr,ones,t1,t2,t3,t8,t10,e1,e4,e7,e8,e9,q1,q2]
   refine Qf ?_ ?_<;>intro g2
   ·simp [t1,t2,t3,t8,t10]
    rw [Pi hp' (by rw [hzz,hgo];exact decide_eq_true g2) hk] at hY
    exact hY
   ·simp [t1,t2,t3,t8,t10]
    refine ih (5-(p+1)) _ _ ⟨p+1,rfl,by omega,by simp [t1],by simp [t2],by simp [t3],by simp [t8],?_,rfl,fun r hr'=>?_⟩ (by omega)
    ·simp;rw [w64 (by omega) (by omega)]
    ·by_cases hrp:r<p
     ·exact hk r hrp
     ·have:r=p:=by omega
      subst this
      rw [hzz,hgo];exact decide_eq_false g2
  ·have:p=5:=by omega
   subst this
   rw [Zo hk] at hY
   simp [t1,t2,t3,t8,t10,hY]
theorem Fz {v:NetV} {x:NetD} {a p c:Nat} (o':dNet.Ow H v x) (hx:runOk x) (ha:(a:Int)<cnt x.1.1 x.1.2.1) (hp:p<5) (hc:c<2) :
 vcall C frz 140 [dNet.val v x,.int .i64 a,.int .i64 p,.int .i64 c] H=some (.bool (decide (roomN x a p c)),H):=by
 refine wp.exact (by simp) ?_ rfl
 have ones:=Qh o'
 have cr:=Qg x.1.1 x.1.2.1
 simp only [Qc]
 rw [Qb (fn:=Tryz.f140) Tryz.func140 rfl (by kernel_rfl) rfl]
 obtain ⟨G,hG⟩:∃G,G=H++[⟨netCells v x,0,35⟩]:=⟨_,rfl⟩
 have o:dNet.Ow G v x:=hG▸Dt.app (T:=dNet) o'
 have hr:G[H.length]? = some ⟨netCells v x,0,35⟩:=by rw [hG];simp
 have hGs:H++[⟨netCells v x,0,35⟩]=G:=hG.symm
 unfold netCells at hr hGs
 simp [ones]
 rw [hGs]
 by_cases h4:p=4
 ·subst h4;simp [roomN]
 have h4':¬(p:Int)=4:=by omega
 have e1:=@w6 (4*(a:Int)) (by omega)
 have e2:∀[Inhabited Unit],IntKind.i64.wrap (4*(a:Int)+(p:Int))=4*(a:Int)+p:=by intro _;exact w64 (by omega) (by omega)
 have lv:=fun F=>M4 (frz:=F) (H:=G) x.1.1 x.1.2.1 v.1 x.1.2.2 (4*(a:Int)+p) (Rd.isI o.1.1.rd) o.1.2
 by_cases hh:has x.1.1 x.1.2.1 x.1.2.2 (4*(a:Int)+p)
 rotate_left
 ·simp [VM.look,hr,ones,e1,e2,lv,hh,h4,h4',roomN]
 obtain ⟨u1,u2,u3⟩:=Xn (c:=c) hh (by omega) hc
 obtain ⟨s1,s2,s3⟩:=Zu (c:=c) hh (by omega)
 have hl:tgt x a p c<x.2.2.1.length:=by have:=hx.2.1.1;omega
 have hgd:x.2.2.1[tgt x a p c]?.getD []=x.2.2.1[tgt x a p c]:=by simp [hl]
 have key:roomN x a p c↔(x.2.2.1[tgt x a p c].length:Int)<3:=by
  unfold roomN;rw [List.getD_eq_getElem?_getD,hgd]
  exact ⟨fun k=>by rcases k with k|k;exact absurd k h4;have:=k.2;omega,fun k=>.inr ⟨hh,by omega⟩⟩
 generalize htt:tgt x a p c=z at *
 have nn:=fun F=>Ym (frz:=F) (H:=G) x.1.1 x.1.2.1 a p
 have so:=fun F=>T9 (frz:=F) (H:=G) p
 obtain ⟨s4,s5⟩:=s1
 generalize next x.1.1 x.1.2.1 a p=N at *
 generalize opp (p:Int)=O at *
 have e3:=@w6 (10*N) (by omega)
 have e4:=@w6 (2*O) (by omega)
 have e5:=@w6 (10*N+2*O) (by omega)
 have e6:∀[Inhabited Unit],IntKind.i64.wrap (10*N+2*O+(c:Int))=(z:Int):=by intro _;rw [w64 (by omega) (by omega)];omega
 obtain ⟨u,a1,a2,a3,a4⟩:=Q9 o.2.2.1.1.rd (ty:=33) (e:=75) (by simp) (by simp) hl
 have la:=a4.len (P:=Tryz.prog) (ty:=75) (by simp)
 simp [VM.look,hr,ones,e1,e2,lv,hh,h4,h4',nn]
 rw [Qp (h:=by kernel_rfl)]
 simp [VM.look,hr,ones,e3,e4,e5,e6,so,a2,a3,la,key]
theorem Nw {v:NetV} {x:NetD} {a i p:Nat} (o':dNet.Ow H v x) (hx:runOk x) (ha:(a:Int)<cnt x.1.1 x.1.2.1) (hi:i<10) (hp:p<5) :
 vcall C frz 136 [dNet.val v x,.int .i64 a,.int .i64 i,.int .i64 p] H=some (.bool (decide (reqN x a i p)),H):=by
 refine wp.exact (by simp) ?_ rfl
 have ones:=Qh o'
 have cr:=Qg x.1.1 x.1.2.1
 simp only [Qc]
 rw [Qb (fn:=Tryz.f136) Tryz.func136 rfl (by kernel_rfl) rfl]
 obtain ⟨d,hd⟩:∃d,d=10*a+i:=⟨_,rfl⟩
 obtain ⟨c,hc⟩:∃c,c=i%2:=⟨_,rfl⟩
 obtain ⟨q,hq⟩:∃q,q=i/2:=⟨_,rfl⟩
 obtain ⟨G,hG⟩:∃G,G=H++[⟨netCells v x,0,35⟩]:=⟨_,rfl⟩
 have o:dNet.Ow G v x:=hG▸Dt.app (T:=dNet) o'
 have hr:G[H.length]? = some ⟨netCells v x,0,35⟩:=by rw [hG];simp
 have hGs:H++[⟨netCells v x,0,35⟩]=G:=hG.symm
 unfold netCells at hr hGs
 have wn:=fun F=>My (frz:=F) (H:=G) o hx ha hi
 have rm:=fun F=>Fz (frz:=F) (H:=G) (c:=c) o hx ha hp (by omega)
 simp only [Qc] at wn rm
 generalize hY:decide (reqN x a i p)=Y
 have no:¬reqN x a i p→Y=false:=fun hh=>by rw [← hY];exact decide_eq_false hh
 have e1:=@w6 (10*(a:Int)) (by omega)
 have e2:∀[Inhabited Unit],IntKind.i64.wrap (10*(a:Int)+(i:Int))=(d:Int):=by intro _;rw [w64 (by omega) (by omega)];omega
 have e3:∀[Inhabited Unit],(i:Int).tmod 2=(c:Int):=by intro _;rw [tmod2];omega
 have e3':∀[Inhabited Unit],(i:Int)%2=(c:Int):=by intro _;omega
 have e4:∀[Inhabited Unit],IntKind.i64.wrap ((i:Int)/2)=(q:Int):=by intro _;rw [w64 (by omega) (by omega)];omega
 have e7:=@w6 (2*(p:Int)) (by omega)
 have e8:=@w6 (10*(a:Int)+2*(p:Int)) (by omega)
 have e9:∀[Inhabited Unit],IntKind.i64.wrap (10*(a:Int)+2*(p:Int)+(c:Int))=(outAt a p c:Nat):=by intro _;unfold outAt;rw [w64 (by omega) (by omega)];omega
 simp [ones]
 rw [hGs]
 by_cases g1:wantedN x a i=(p:Int)
 rotate_left
 ·simp [VM.look,hr,ones,wn,g1,e3,e3'];exact no (fun k=>g1 k.1)
 by_cases g2:roomN x a p c
 rotate_left
 ·simp [VM.look,hr,ones,wn,g1,e3,e3',rm,g2];exact no (fun k=>g2 (hc▸k.2.1))
 have hl:d<x.2.2.1.length:=by have:=hx.2.1.1;omega
 obtain ⟨u,a1,a2,a3,a4⟩:=Q9 o.2.2.1.1.rd (ty:=33) (e:=75) (by simp) (by simp) hl
 have hgd:x.2.2.1.getD d []=x.2.2.1[d]:=by simp [List.getD_eq_getElem?_getD,hl]
 have hho:headOf x d=headL x.2.2.1[d]:=by unfold headOf;rw [hgd]
 have g0:x.2.2.1[d]≠[]:=fun hh=>by
  unfold wantedN at g1
  rw [← hd,hgd,if_pos hh] at g1
  omega
 obtain ⟨z0,f1,f2,f3,c1,c2,c3,_⟩:=front a4 g0
 have hz:outAt a p c<x.2.2.2.1.length:=by have:=hx.2.1.2.1;unfold outAt;omega
 have hgo:x.2.2.2.1.getD (outAt a p c) 0=x.2.2.2.1[outAt a p c]:=by simp [List.getD_eq_getElem?_getD,hz]
 have key:reqN x a i p↔x.2.2.2.1[outAt a p c]=if (headL x.2.2.1[d]).2.2.2.1 then -1 else (q:Int):=by
  unfold reqN;rw [← hd,← hc,← hq,hgo,hho]
  exact ⟨fun k=>k.2.2,fun k=>⟨g1,g2,k⟩⟩
 generalize hzz:outAt a p c=z at *
 generalize headL x.2.2.1[d]=f at *
 have rd:=Rd.isI o.2.2.2.1.1.rd
 have q1:=rd.idx (P:=Tryz.prog) (ty:=26) (e:=3) (by simp) (i:=(z:Int)) (by omega) (by omega)
 have q2:=rd.load (P:=Tryz.prog) (e:=3) (by simp) hz
 simp only [Int.toNat_natCast] at q1 q2
 rw [hgo] at q2
 have qa:VM.one u=true∧u.cells=#[u]:=⟨a4.one',a4.cells⟩
 simp [VM.look,hr,ones,wn,g1,e3,e3',rm,g2,e1,e7,e8,e9,q1,q2]
 simp [-vfieldAddr,Qs,VM.look,hr,ones,e1,e2,a2,a3,z0,f3,c3]
 by_cases g3:f.2.2.2.1=true
 ·simp only [g3,if_true] at key ⊢
  simp [e4]
  rw [← hY];simp only [key]
 ·simp only [g3,if_false] at key ⊢
  simp [e4]
  rw [← hY];simp only [key]
  try simp
def grF:Fl GrD:=⟨3,fun a=>[.int .i64 a.1,.int .i64 a.2.1,.int .i64 a.2.2],fun _=>rfl⟩
@[simp] theorem zc:grF.n=3:=rfl
theorem Vs (a:GrD):grF.f a=[.int .i64 a.1,.int .i64 a.2.1,.int .i64 a.2.2]:=rfl
theorem Mp (xs:List GrD):ones (cellsOf grF xs)=true:=by
 induction xs with
 | nil=>rfl
 | cons a l ih=>rw [Wg];simp [ih,Vs]
theorem Ay {K:Heap} {e:TypeId} {v:Value} {u:List Bool} (o:Ow Fl.bool e K v u) {j:Nat} (hj:j<u.length):vload Tryz.prog K 4 (elp v j)=some (.bool (u.getD j false)):=by
 rw [o.rd.cell1 (P:=Tryz.prog) rfl (by simp) hj]
 simp [List.getD_eq_getElem?_getD,hj]
theorem E9 {x:NetD} {a p:Nat} {u:List Bool}:((reqsN x a p).map Int.ofNat).filter (fun y=>!u.getD (y/2).toNat false)=(freeN x a p u).map Int.ofNat:=by
 rw [List.filter_map]
 unfold freeN
 congr 1
theorem Gx {x:NetD} {a p:Nat} {u:List Bool}:∀y∈(freeN x a p u).map Int.ofNat,inR 0 y 9:=fun y hy=>by
 obtain ⟨i,hi,rfl⟩:=List.mem_map.1 hy
 have:=(Pe hi).1
 unfold inR;show (0:Int)≤(i:Int)∧(i:Int)≤9;omega
theorem Lm {x:NetD} {a p:Nat} {u:List Bool}:((freeN x a p u).map Int.ofNat).length≤10:=by
 rw [List.length_map]
 have h1:=List.length_filter_le (fun i=>!u.getD (i/2) false) (reqsN x a p)
 have h2:=List.length_filter_le (fun i=>decide (reqN x a i p)) (List.range 10)
 rw [List.length_range] at h2
 unfold freeN;unfold reqsN at h1 ⊢;omega
theorem Gh {x:NetD} {a p:Nat} {u:List Bool} (h:0≤pickN x a p u):∃k:Nat,pickN x a p u=k∧k<10:=by
 have:=(Pe (Lx h)).1
 exact ⟨(pickN x a p u).toNat,by omega,this⟩
theorem Cz {K:Heap} {e:TypeId} {R:Nat} {u:List Bool} (o:Ow Fl.bool e K (.slice (some ⟨R,0,some 0⟩) 5 0) u) {j:Nat} (hj:j<5):vindexAddr Tryz.prog K 126 (.pointer (some ⟨R,0,some 0⟩)) (.int .i64 (j:Int))=some (elp (.slice (some ⟨R,0,some 0⟩) 5 0) j):=by
 have hl:=Wa o
 have hj':(j:Int)<5:=by omega
 simp only [VM.live] at hl
 unfold vindexAddr
 cases hh:VM.look K ⟨R,0,some 0⟩ with
 | none=>exact absurd hh hl
 | some r=>simp [elp,hj',hh]
theorem F3 {K:Heap} {e:TypeId} {R i:Nat} {u:List Bool} (o:Ow Fl.bool e K (.slice (some ⟨R,0,some 0⟩) 5 0) u) (hl:u.length=5) (hi:i<10) :
 vcall C frz 107 [.int .i64 (i:Int),.pointer (some ⟨R,0,some 0⟩)] K=some (.bool (u.getD (i/2) false),K):=by
 rw [Qb (fn:=Tryz.f107) Tryz.func107 rfl (by kernel_rfl) rfl]
 obtain ⟨q,hq⟩:∃q,q=i/2:=⟨_,rfl⟩
 rw [← hq]
 have e4:∀[Inhabited Unit],IntKind.i64.wrap ((i:Int)/2)=(q:Int):=by intro _;rw [w64 (by omega) (by omega)];omega
 have q1:=Cz o (j:=q) (by omega)
 have q2:=Ay o (j:=q) (by omega)
 simp [e4,q1,q2]
theorem Da {v:NetV} {x:NetD} {id a:Nat} {e:TypeId} {tail:List Value} (hr:H[id]? = some ⟨netCells v x++tail,0,e⟩) (o:dNet.Ow H v x) (hx:runOk x) (ha:(a:Int)<cnt x.1.1 x.1.2.1) :
 wp (vcall C frz 83 [.pointer (some ⟨id,0,some 0⟩),.int .i64 a] H) (fun r H'=>Ow grF 98 H' r (grN x a)∧(∀i∈ids r,H.length≤i)∧Chg H H' []):=by
 have ones:=Qh o
 have cr:=Qg x.1.1 x.1.2.1
 have hidl:=Q0 hr
 rw [Qb (fn:=Tryz.f83) Tryz.func83 rfl (by kernel_rfl) rfl]
 have oB0:Ow Fl.bool 126 (H++[⟨[],0,98⟩,⟨[.bool false,.bool false,.bool false,.bool false,.bool false],0,126⟩]) (.slice (some ⟨H.length+1,0,some 0⟩) 5 0) (List.replicate 5 false):=Ow.new (D:=Fl.bool) (xs:=List.replicate 5 false) (k:=1) rfl rfl rfl rfl
 have oG0:Ow grF 98 (H++[⟨[],0,98⟩,⟨[.bool false,.bool false,.bool false,.bool false,.bool false],0,126⟩]) (.slice (some ⟨H.length,0,some 0⟩) 0 0) []:=Ow.new0 (D:=grF) (xs:=[]) rfl rfl rfl rfl
 have bp:bplaces Tryz.prog 126=some [(0,1),(1,1),(2,1),(3,1),(4,1)]:=by kernel_rfl
 simp [bp]
 refine Qm (fun n t H'=>∃(p:Nat) (r:Value),n=5-p∧p≤5∧t 0=.pointer (some ⟨id,0,some 0⟩)∧t 1=.int .i64 a∧t 5=r∧t 6=.pointer (some ⟨H.length+1,0,some 0⟩)∧t 7=.int .i64 p∧Chg H H' []∧
  Ow Fl.bool 126 H' (.slice (some ⟨H.length+1,0,some 0⟩) 5 0) (grTo x a p).2∧Ow grF 98 H' r (grTo x a p).1∧(∀j∈ids r,H.length≤j∧j≠H.length+1)) ?_ (n:=5)
  ⟨0,.slice (some ⟨H.length,0,some 0⟩) 0 0,rfl,by omega,by simp,by simp,by simp,by simp,by simp,Chg.app _,oB0,oG0,by simp⟩
 rintro n t H' ⟨p,r,rfl,hp,t0,t1,t5,t6,t7,ch,oB,oG,nG⟩ ih
 simp [t0,t1,t5,t6,t7]
 refine Qf ?_ ?_<;>intro g
 ·have hp':p<5:=by omega
  obtain ⟨l5,gat,gnd,gle⟩:=Y8 x a p hp
  have gs:=X8 x a p
  unfold grStep at gs
  have r1:=Qa hr ch (by simp)
  have o1:=Dt.chg (T:=dNet) o ch (by simp)
  have hbl:H.length+1<H'.length:=oB.lt _ (by simp)
  generalize grTo x a p=st at *
  simp [t0,t1,t5,t6,t7]
  refine Qd (Jt r1 o1 hx ha hp') ?_
  rintro L H1 ⟨oL,nL,cL⟩
  have oB1:=oB.chg cL (by simp)
  have oG1:=oG.chg cL (by simp)
  have c1:=ch.trans cL
  simp [t0,t1,t5,t6,t7]
  have hrl:((reqsN x a p).map Int.ofNat).length≤10:=by
   rw [List.length_map]
   have h2:=List.length_filter_le (fun i=>decide (reqN x a i p)) (List.range 10)
   rw [List.length_range] at h2
   exact h2
  refine Qd (Nq L _ (fun y=>st.2.getD (y/2).toNat false) _ oL (by omega) (fun i hi=>by have:=nL i hi;have:=ch.1;omega) (fun K hK F y hy=>?_)) ?_
  ·obtain ⟨i,hi,rfl⟩:=List.mem_map.1 hy
   have hi10:i<10:=List.mem_range.1 (List.mem_filter.1 hi).1
   have:=F3 (frz:=F) (i:=i) (oB1.chg hK (fun j hj hh=>by have:=nL j hh;simp at hj;omega)) l5 hi10
   simp
   exact this
  rintro U H2 ⟨oU,nU,cU⟩
  have fm:((reqsN x a p).map Int.ofNat).filter (fun y=>!(fun y=>st.2.getD (y/2).toNat false) y)=(freeN x a p st.2).map Int.ofNat:=E9
  rw [fm] at oU
  have c2:=c1.trans' cU (fun i hi=>.inr (by have:=nL i hi;have:=ch.1;omega))
  have oB2:=oB1.chg cU (fun j hj hh=>by have:=nL j hh;simp at hj;omega)
  have lG:=oG.lt
  have oG2:=oG1.chg cU (fun j hj hh=>by have:=nL j hh;have:=lG j hj;omega)
  have r2:=Qa hr c2 (by simp)
  have o2:=Dt.chg (T:=dNet) o c2 (by simp)
  unfold netCells at r2
  simp only [List.cons_append,List.nil_append] at r2
  obtain ⟨z,hz⟩:∃z,z=5*a+p:=⟨_,rfl⟩
  have hzl:z<x.2.2.2.2.1.length:=by have:=hx.2.1.2.2.1;omega
  have e1:=@w6 (5*(a:Int)) (by omega)
  have e2:∀[Inhabited Unit],IntKind.i64.wrap (5*(a:Int)+(p:Int))=(z:Int):=by intro _;rw [w64 (by omega) (by omega)];omega
  have rd:=Rd.isI o2.2.2.2.2.1.1.rd
  have q1:=rd.idx (P:=Tryz.prog) (ty:=26) (e:=3) (by simp) (i:=(z:Int)) (by omega) (by omega)
  have q2:=rd.load (P:=Tryz.prog) (e:=3) (by simp) hzl
  simp only [Int.toNat_natCast] at q1 q2
  have hti:inR 0 (x.2.2.2.2.1.getD z 0) 9:=by
   have:x.2.2.2.2.1.getD z 0=x.2.2.2.2.1[z]:=by simp [List.getD_eq_getElem?_getD,hzl]
   rw [this];exact hx.2.2.2.2 _ (List.getElem_mem hzl)
  have ff:=fun F=>Ki (frz:=F) (H:=H2) U _ _ oU.rd.isI (by have:=Lm (x:=x) (a:=a) (p:=p) (u:=st.2);omega) Gx hti
  have hpk:firstF (x.2.2.2.2.1.getD z 0) ((freeN x a p st.2).map Int.ofNat)=pickN x a p st.2:=by rw [hz];rfl
  rw [hpk] at ff
  generalize x.2.2.2.2.1.getD z 0=T at *
  simp [t0,t1,t5,t6,t7,VM.look,VM.vnil,r2,ones,e1,e2,q1,q2,ff]
  by_cases g2:0≤pickN x a p st.2
  rotate_left
  ·rw [if_neg g2] at gs
   simp [t0,t1,t5,t6,t7,g2]
   refine ih (5-(p+1)) _ _ ⟨p+1,r,rfl,by omega,by simp [t0],by simp [t1],by simp [t5],by simp [t6],?_,c2,by rw [gs];exact oB2,by rw [gs];exact oG2,nG⟩ (by omega)
   simp [t7];rw [w64 (by omega) (by omega)]
  rw [if_pos g2] at gs
  obtain ⟨k,hk,hk10⟩:=Gh g2
  rw [hk,Int.toNat_natCast] at gs
  obtain ⟨q,hq⟩:∃q,q=k/2:=⟨_,rfl⟩
  rw [← hq] at gs
  have e4:∀[Inhabited Unit],IntKind.i64.wrap ((k:Int)/2)=(q:Int):=by intro _;rw [w64 (by omega) (by omega)];omega
  have ai:=Cz oB2 (j:=q) (by omega)
  obtain ⟨H3,s3,oB3,c3,l3⟩:=oB2.put1 (P:=Tryz.prog) (frz:=H.length) rfl (et:=4) (ag:=false) (by simp) (j:=q) (x:=.bool true) (y:=true) (by omega) rfl rfl rfl (fun i hi=>by simp at hi;omega)
  have c03:=c2.trans' c3 (fun i hi=>.inr (by simp at hi;omega))
  have oG3:=oG2.chg c3 (fun j hj hh=>(nG j hj).2 (by simpa using hh))
  have l03:=c03.1
  obtain ⟨r',H4,hap,oG4,c4,n4⟩:=oG3.push (P:=Tryz.prog) (frz:=H.length) (ty:=94) (a:=(a,p,k)) (by simp) rfl (by omega) (fun i hi=>(nG i hi).1)
  simp only [Vs] at hap
  have oB4:=oB3.chg c4 (fun j hj hh=>by simp at hj;exact (nG j hh).2 hj)
  have l2:=c2.1
  have l13:=ch.1
  have lcU:=cU.1
  have lcL:=cL.1
  simp [-Qe,-Qq,t0,t1,t5,t6,t7,hk,e4,ai,s3,hap]
  refine ih (5-(p+1)) _ _ ⟨p+1,r',rfl,by omega,by simp [t0],by simp [t1],by simp,by simp [t6],?_,c03.trans' c4 (fun i hi=>.inr (nG i hi).1),by rw [gs];exact oB4,by rw [gs];exact oG4,fun j hj=>?_⟩ (by omega)
  ·simp [t7];rw [w64 (by omega) (by omega)]
  ·rcases n4 j hj with h1|h1
   ·exact nG j h1
   ·omega
 ·have:p=5:=by omega
  subst this
  simp [t0,t1,t5,t6,t7]
  exact ⟨oG,fun i hi=>(nG i hi).1,ch⟩
theorem P9 (x:NetD) (n:Nat):(allTo x n).length≤5*n:=(Yx x n).2.2
noncomputable def enterTo (x:NetD) (n:Nat):List Nat:=(List.range n).filter fun k=>entersN x k
theorem Vj (x:NetD) (n:Nat):enterTo x (n+1)=if entersN x n then enterTo x n++[n] else enterTo x n:=by
 unfold enterTo;rw [List.range_succ,List.filter_append]
 by_cases h:entersN x n<;>simp [h]
theorem Tw (x:NetD) (n:Nat):(enterTo x n).length≤n:=by
 have:=List.length_filter_le (fun k=>decide (entersN x k)) (List.range n)
 rw [List.length_range] at this;exact this
theorem Li {v:NetV} {x:NetD} {id:Nat} {e:TypeId} {tail:List Value} (hr:H[id]? = some ⟨netCells v x++tail,0,e⟩) (o:dNet.Ow H v x) (hx:runOk x) :
 wp (vcall C frz 58 [.pointer (some ⟨id,0,some 0⟩)] H) (fun r H'=>Ow grF 98 H' r (allN x)∧(∀i∈ids r,H.length≤i)∧Chg H H' []):=by
 have ones:=Qh o
 obtain ⟨N,hN⟩:∃N:Nat,cnt x.1.1 x.1.2.1=N:=⟨(cnt x.1.1 x.1.2.1).toNat,by have:=Qg x.1.1 x.1.2.1;omega⟩
 have hN2:N≤16:=by have:=Qg x.1.1 x.1.2.1;omega
 have hall:allN x=allTo x N:=by unfold allN;rw [hN,Int.toNat_natCast]
 have hidl:=Q0 hr
 rw [Qb (fn:=Tryz.f58) Tryz.func58 rfl (by kernel_rfl) rfl]
 have hr':=hr
 unfold netCells at hr'
 simp only [List.cons_append,List.nil_append] at hr'
 have rd:=(RdL.app (L:=[⟨[],0,98⟩]) o.2.2.2.2.2.1.1.rd)
 have ll:=rd.1.len (P:=Tryz.prog) (ty:=33) (by simp)
 rw [rd.2.1] at ll
 have hsl:x.2.2.2.2.2.1.length=N:=by have:=hx.2.1.2.2.2.1;omega
 rw [hsl] at ll
 rw [hall]
 simp [VM.look,VM.vnil,hr',Qo hr',ones,ll]
 refine Qm (fun n t H'=>∃(i:Nat) (r:Value),n=N-i∧i≤N∧t 0=.pointer (some ⟨id,0,some 0⟩)∧t 3=r∧t 10=.int .i64 N∧t 11=.int .i64 i∧Chg H H' []∧Ow grF 98 H' r (allTo x i)∧(∀j∈ids r,H.length≤j)) ?_ (n:=N)
  ⟨0,.slice (some ⟨H.length,0,some 0⟩) 0 0,rfl,by omega,by simp,by simp,by simp,by simp,Chg.app _,Ow.new0 (D:=grF) (xs:=[]) rfl rfl rfl rfl,by simp⟩
 rintro n t H' ⟨i,r,rfl,hi,t0,t3,t10,t11,ch,oo,nr⟩ ih
 simp [t0,t3,t10,t11]
 refine Qf ?_ ?_<;>intro g
 ·have hi':i<N:=by omega
  have r1:=Qa hr ch (by simp)
  have o1:=Dt.chg (T:=dNet) o ch (by simp)
  simp [t0,t3,t10,t11]
  refine Qd (Da r1 o1 hx (a:=i) (by omega)) ?_
  rintro L H1 ⟨oL,nL,cL⟩
  have l1:=ch.1
  have l2:=cL.1
  have al:=P9 x i
  have gl:=I9 x i
  obtain ⟨r',H2,hap,o2,c2,n2⟩:=(oo.chg cL (by simp)).append (P:=Tryz.prog) (frz:=H.length) (ty:=94) oL.rd (by simp) (Mp _) (by omega) nr
  have asu:=Za x i
  simp [-Qe,-Qq,t0,t3,t10,t11,hap]
  refine ih (N-(i+1)) _ _ ⟨i+1,r',rfl,by omega,by simp [t0],by simp,by simp [t10],?_,(ch.trans cL).trans' c2 (fun j hj=>.inr (nr j hj)),by rw [asu];exact o2,fun j hj=>?_⟩ (by omega)
  ·simp [t11];rw [w64 (by omega) (by omega)]
  ·rcases n2 j hj with h1|h1
   ·exact nr j h1
   ·omega
 ·have:i=N:=by omega
  subst this
  simp [t0,t3,t10,t11]
  exact ⟨oo,nr,ch⟩
theorem Ku {v:NetV} {x:NetD} {id:Nat} {e:TypeId} {tail:List Value} (hr:H[id]? = some ⟨netCells v x++tail,0,e⟩) (o:dNet.Ow H v x) (hx:runOk x) :
 wp (vcall C frz 59 [.pointer (some ⟨id,0,some 0⟩)] H) (fun r H'=>Ow Fl.int 3 H' r ((enterN x).map Int.ofNat)∧(∀i∈ids r,H.length≤i)∧Chg H H' []):=by
 have ones:=Qh o
 obtain ⟨N,hN⟩:∃N:Nat,cnt x.1.1 x.1.2.1=N:=⟨(cnt x.1.1 x.1.2.1).toNat,by have:=Qg x.1.1 x.1.2.1;omega⟩
 have hN2:N≤16:=by have:=Qg x.1.1 x.1.2.1;omega
 have hall:enterN x=enterTo x N:=by unfold enterN enterTo;rw [hN,Int.toNat_natCast]
 have hidl:=Q0 hr
 rw [Qb (fn:=Tryz.f59) Tryz.func59 rfl (by kernel_rfl) rfl]
 unfold netCells at hr
 simp only [List.cons_append,List.nil_append] at hr
 have rd:=(RdL.app (L:=[⟨[],0,3⟩]) o.2.2.2.2.2.1.1.rd)
 have ll:=rd.1.len (P:=Tryz.prog) (ty:=33) (by simp)
 rw [rd.2.1] at ll
 have hsl:x.2.2.2.2.2.1.length=N:=by have:=hx.2.1.2.2.2.1;omega
 have hbl:x.2.2.1.length=10*N:=by have:=hx.2.1.1;omega
 rw [hsl] at ll
 rw [hall]
 simp [VM.look,VM.vnil,hr,Qo hr,ones,ll]
 refine Qm (fun n t H'=>∃(i:Nat) (r:Value),n=N-i∧i≤N∧t 0=.pointer (some ⟨id,0,some 0⟩)∧t 3=r∧t 10=v.2.2.2.2.2.1.1∧t 11=.int .i64 N∧t 12=.int .i64 i∧Chg H H' []∧Ow Fl.int 3 H' r ((enterTo x i).map Int.ofNat)∧(∀j∈ids r,H.length≤j)) ?_ (n:=N)
  ⟨0,.slice (some ⟨H.length,0,some 0⟩) 0 0,rfl,by omega,by simp,by simp,by simp,by simp,by simp,Chg.app _,Ow.new0 (D:=Fl.int) (xs:=[]) rfl rfl rfl rfl,by simp⟩
 rintro n t H' ⟨i,r,rfl,hi,t0,t3,t10,t11,t12,ch,oo,nr⟩ ih
 simp [t0,t3,t10,t11,t12]
 refine Qf ?_ ?_<;>intro g
 rotate_left
 ·have:i=N:=by omega
  subst this
  simp [t0,t3,t10,t11,t12]
  exact ⟨oo,nr,ch⟩
 have hi':i<N:=by omega
 have r1:=Qa hr ch (by simp)
 have o1:=Dt.chg (T:=dNet) o ch (by simp)
 have his:i<x.2.2.2.2.2.1.length:=by omega
 obtain ⟨u,a1,a2,a3,a4⟩:=Q9 o1.2.2.2.2.2.1.1.rd (ty:=33) (e:=75) (by simp) (by simp) his
 have la:=a4.len (P:=Tryz.prog) (ty:=75) (by simp)
 have qa:VM.one u=true∧u.cells=#[u]:=⟨a4.one',a4.cells⟩
 have hgd:x.2.2.2.2.2.1.getD i []=x.2.2.2.2.2.1[i]:=by simp [List.getD_eq_getElem?_getD,his]
 have hes:=Vj x i
 have hel:=Tw x i
 simp [t0,t3,t10,t11,t12,a2,a3]
 rw [Qp (h:=by kernel_rfl)]
 by_cases g0:x.2.2.2.2.2.1[i]=[]
 ·have hne:¬entersN x i:=fun k=>k.1 (by rw [hgd];exact g0)
  rw [if_neg hne] at hes
  rw [g0] at la
  simp [t0,t3,t10,t11,t12,la]
  refine ih (N-(i+1)) _ _ ⟨i+1,r,rfl,by omega,by simp [t0],by simp [t3],by simp [t10],by simp [t11],?_,ch,by rw [hes];exact oo,nr⟩ (by omega)
  simp [t12];rw [w64 (by omega) (by omega)]
 have g0':0<x.2.2.2.2.2.1[i].length:=List.length_pos_iff.2 g0
 obtain ⟨z0,f1,f2,f3,c1,c2,c3,_⟩:=front a4 g0
 obtain ⟨en1,en2,en3⟩:=Zx hx (k:=i) (by rw [hgd];exact g0)
 have hsh:srcHead x i=headL x.2.2.2.2.2.1[i]:=by unfold srcHead;rw [hgd]
 have hcl:=en1.2
 rw [hsh] at en2 hcl
 generalize headL x.2.2.2.2.2.1[i]=f at *
 have bA:∀F,vcall C F 61 [.int .i64 (i:Int),.int .i64 4,.int .i64 f.2.2.1] H'=some (.int .i64 (entAt x i:Int),H'):=fun F=>by
  rw [Zh,if_pos ⟨⟨by omega,by omega⟩,⟨by omega,by omega⟩,hcl⟩,en2];congr 3
 have key:entersN x i↔(x.2.2.1.getD (entAt x i) []).length<3:=⟨fun k=>k.2,fun k=>⟨by rw [hgd];exact g0,k⟩⟩
 have hzl:entAt x i<x.2.2.1.length:=by unfold inR at hcl;omega
 generalize entAt x i=z at *
 obtain ⟨u',b1,b2,b3,b4⟩:=Q9 o1.2.2.1.1.rd (ty:=33) (e:=75) (by simp) (by simp) hzl
 have lb:=b4.len (P:=Tryz.prog) (ty:=75) (by simp)
 have hgz:x.2.2.1.getD z []=x.2.2.1[z]:=by simp [List.getD_eq_getElem?_getD,hzl]
 have qb:VM.one u'=true∧u'.cells=#[u']:=⟨b4.one',b4.cells⟩
 rw [hgz] at key
 simp [-vfieldAddr,Qs,t0,t3,t10,t11,t12,la,g0',VM.look,VM.vnil,r1,ones,z0,f2,c2,bA,b2,b3,lb]
 refine Qf ?_ ?_<;>intro g1
 ·rw [if_pos (key.2 (by omega))] at hes
  obtain ⟨r',H2,hap,o2,c2',n2⟩:=oo.push (P:=Tryz.prog) (frz:=H.length) (ty:=26) (a:=(i:Int)) (by simp) rfl (by simp;omega) nr
  simp only [Fl.int_f] at hap
  have l0:=ch.1
  simp [t0,t3,t10,t11,t12,hap]
  refine ih (N-(i+1)) _ _ ⟨i+1,r',rfl,by omega,by simp [t0],by simp,by simp [t10],by simp [t11],?_,ch.trans' c2' (fun j hj=>.inr (nr j hj)),?_,fun j hj=>?_⟩ (by omega)
  ·simp [t12];rw [w64 (by omega) (by omega)]
  ·rw [hes,List.map_append];exact o2
  ·rcases n2 j hj with h1|h1
   ·exact nr j h1
   ·omega
 ·rw [if_neg (fun k=>by have:=key.1 k;omega)] at hes
  simp [t0,t3,t10,t11,t12]
  refine ih (N-(i+1)) _ _ ⟨i+1,r,rfl,by omega,by simp [t0],by simp [t3],by simp [t10],by simp [t11],?_,ch,by rw [hes];exact oo,nr⟩ (by omega)
  simp [t12];rw [w64 (by omega) (by omega)]
noncomputable def freeTo (x:NetD) (a p:Nat) (u:List Bool) (n:Nat):List Nat:=(List.range n).filter fun i=>!u.getD (i/2) false&&decide (reqN x a i p)
theorem Jx (x:NetD) (a p:Nat) (u:List Bool):freeTo x a p u 10=freeN x a p u:=by
 unfold freeTo freeN reqsN;rw [List.filter_filter]
theorem Mo (x:NetD) (a p:Nat) (u:List Bool) (n:Nat):freeTo x a p u (n+1)=if u.getD (n/2) false=false∧reqN x a n p then freeTo x a p u n++[n] else freeTo x a p u n:=by
 unfold freeTo;rw [List.range_succ,List.filter_append]
 by_cases h:u.getD (n/2) false=false
 ·by_cases h2:reqN x a n p
  ·rw [if_pos ⟨h,h2⟩];simp only [List.filter_cons,h,h2];simp
  ·rw [if_neg (fun k=>h2 k.2)];simp only [List.filter_cons,h,h2];simp
 ·rw [if_neg (fun k=>h k.1)]
  have h':u.getD (n/2) false=true:=by simpa using h
  simp only [List.filter_cons,h'];simp
theorem Kx (x:NetD) (a p:Nat) (u:List Bool) (n:Nat):(freeTo x a p u n).length≤n:=by
 have:=List.length_filter_le (fun i=>!u.getD (i/2) false&&decide (reqN x a i p)) (List.range n)
 rw [List.length_range] at this;exact this
theorem Ar {K:Heap} {e:TypeId} {v:Value} {u:List Bool} (o:Ow Fl.bool e K v u) {j:Nat} (hj:j<u.length):vindexAddr Tryz.prog K 138 v (.int .i64 (j:Int))=some (elp v j):=by
 have:=o.rd.idx (P:=Tryz.prog) (ty:=138) (e:=4) (by simp) (i:=(j:Int)) (by omega) (by omega)
 simpa using this
theorem Kg {v:NetV} {x:NetD} {a:Nat} (o:dNet.Ow H v x) (hx:runOk x) (ha:(a:Int)<cnt x.1.1 x.1.2.1) :
 wp (vcall C frz 130 [dNet.val v x,.int .i64 a] H) (fun r H'=>Ow grF 98 H' r (grN x a)∧(∀i∈ids r,H.length≤i)∧Chg H H' []):=by
 have ones:=Qh o
 have cr:=Qg x.1.1 x.1.2.1
 simp only [Qc]
 rw [Qb (fn:=Tryz.f130) Tryz.func130 rfl (by kernel_rfl) rfl]
 obtain ⟨G,hG⟩:∃G,G=H++[⟨netCells v x,0,35⟩,⟨[],0,98⟩,⟨[.bool false,.bool false,.bool false,.bool false,.bool false],0,4⟩]:=⟨_,rfl⟩
 have oB0:Ow Fl.bool 4 G (.slice (some ⟨H.length+2,0,some 0⟩) 5 0) (List.replicate 5 false):=by rw [hG];exact Ow.new (D:=Fl.bool) (xs:=List.replicate 5 false) (k:=2) rfl rfl rfl rfl
 have oG0:Ow grF 98 G (.slice (some ⟨H.length+1,0,some 0⟩) 0 0) []:=by rw [hG];exact Ow.new (D:=grF) (xs:=[]) (k:=1) rfl rfl rfl rfl
 have cG:Chg H G []:=by rw [hG];exact Chg.app _
 have hr:G[H.length]? = some ⟨netCells v x,0,35⟩:=by rw [hG];simp
 have hGs:H++[⟨netCells v x,0,35⟩,⟨[],0,98⟩,⟨[.bool false,.bool false,.bool false,.bool false,.bool false],0,4⟩]=G:=hG.symm
 have lG0:G.length=H.length+3:=by rw [hG];simp
 unfold netCells at hr hGs
 simp [ones]
 rw [hGs]
 clear hG hGs
 refine Qm (fun n t H'=>∃(p:Nat) (r:Value),n=5-p∧p≤5∧t 1=.int .i64 a∧t 2=.pointer (some ⟨H.length,0,some 0⟩)∧t 5=r∧t 6=.slice (some ⟨H.length+2,0,some 0⟩) 5 0∧t 7=.int .i64 p∧Chg H H' []∧H'[H.length]? = some ⟨netCells v x,0,35⟩∧
  Ow Fl.bool 4 H' (.slice (some ⟨H.length+2,0,some 0⟩) 5 0) (grTo x a p).2∧Ow grF 98 H' r (grTo x a p).1∧(∀j∈ids r,H.length+1≤j∧j≠H.length+2)) ?_ (n:=5)
  ⟨0,.slice (some ⟨H.length+1,0,some 0⟩) 0 0,rfl,by omega,by simp,by simp,by simp,by simp,by simp,cG,by unfold netCells;exact hr,oB0,oG0,by simp⟩
 rintro n t H' ⟨p,r,rfl,hp,t1,t2,t5,t6,t7,ch,b0,oB,oG,nG⟩ ih
 simp [t1,t2,t5,t6,t7]
 refine Qf ?_ ?_<;>intro g
 rotate_left
 ·have:p=5:=by omega
  subst this
  simp [t1,t2,t5,t6,t7]
  exact ⟨oG,fun i hi=>by have:=(nG i hi).1;omega,ch⟩
 have hp':p<5:=by omega
 obtain ⟨l5,gat,gnd,gle⟩:=Y8 x a p hp
 have gs:=X8 x a p
 unfold grStep at gs
 have hbl:H.length+2<H'.length:=oB.lt _ (by simp)
 have lGr:=oG.lt
 generalize grTo x a p=st at *
 simp [t1,t2,t5,t6,t7]
 refine Qm (fun n t1' H1=>∃(i:Nat) (f:Value),n=10-i∧i≤10∧t1' 1=.int .i64 a∧t1' 2=.pointer (some ⟨H.length,0,some 0⟩)∧t1' 5=r∧t1' 6=.slice (some ⟨H.length+2,0,some 0⟩) 5 0∧t1' 7=.int .i64 p∧t1' 8=f∧t1' 9=.int .i64 i∧Chg H' H1 []∧
  Ow Fl.int 3 H1 f ((freeTo x a p st.2 i).map Int.ofNat)∧(∀j∈ids f,H'.length≤j)) ?_ (n:=10)
  ⟨0,.slice (some ⟨H'.length,0,some 0⟩) 0 0,rfl,by omega,by simp [t1],by simp [t2],by simp [t5],by simp [t6],by simp [t7],by simp,by simp,Chg.app _,Ow.new0 (D:=Fl.int) (xs:=[]) rfl rfl rfl rfl,by simp⟩
 clear t1 t2 t5 t6 t7
 rintro n t H1 ⟨i,f,rfl,hi,t1,t2,t5,t6,t7,t8,t9,c1,oF,nF⟩ ih2
 have c01:=ch.trans c1
 have b1:=Qa b0 c1 (by simp)
 have o1:=Dt.chg (T:=dNet) o c01 (by simp)
 have oB1:=oB.chg c1 (by simp)
 unfold netCells at b1
 have l1:=c1.1
 simp [t1,t2,t5,t6,t7,t8,t9]
 refine Qf ?_ ?_<;>intro g1
 ·have hi':i<10:=by omega
  obtain ⟨q,hq⟩:∃q,q=i/2:=⟨_,rfl⟩
  have e4:∀[Inhabited Unit],IntKind.i64.wrap ((i:Int)/2)=(q:Int):=by intro _;rw [w64 (by omega) (by omega)];omega
  have fs:=Mo x a p st.2 i
  have fl:=Kx x a p st.2 i
  rw [← hq] at fs
  have q1:=Ar oB1 (j:=q) (by omega)
  have q2:=Ay oB1 (j:=q) (by omega)
  have rq:=fun F=>Nw (frz:=F) (H:=H1) (i:=i) o1 hx ha hi' hp'
  simp only [Qc] at rq
  generalize st.2.getD q false=B at *
  simp [t1,t2,t5,t6,t7,t8,t9,e4,q1,q2]
  cases B with
  | true=>
   rw [if_neg (by simp)] at fs
   simp [t1,t2,t5,t6,t7,t8,t9]
   refine ih2 (10-(i+1)) _ _ ⟨i+1,f,rfl,by omega,by simp [t1],by simp [t2],by simp [t5],by simp [t6],by simp [t7],by simp [t8],?_,c1,by rw [fs];exact oF,nF⟩ (by omega)
   simp [t9];rw [w64 (by omega) (by omega)]
  | false=>
   simp [t1,t2,t5,t6,t7,t8,t9,VM.look,b1,ones,rq]
   by_cases g2:reqN x a i p
   ·rw [if_pos ⟨rfl,g2⟩] at fs
    obtain ⟨f',H2,hap,o2,c2,n2⟩:=oF.push (P:=Tryz.prog) (frz:=H.length) (ty:=26) (a:=(i:Int)) (by simp) rfl (by simp;omega) (fun j hj=>by have:=nF j hj;omega)
    simp only [Fl.int_f] at hap
    have hF1:H.length≤H1.length:=by omega
    simp [t1,t2,t5,t6,t7,t8,t9,g2,hap,hF1]
    refine ih2 (10-(i+1)) _ _ ⟨i+1,f',rfl,by omega,by simp [t1],by simp [t2],by simp [t5],by simp [t6],by simp [t7],by simp,?_,c1.trans' c2 (fun j hj=>.inr (nF j hj)),?_,fun j hj=>?_⟩ (by omega)
    ·simp [t9];rw [w64 (by omega) (by omega)]
    ·rw [fs,List.map_append];exact o2
    ·rcases n2 j hj with h1|h1
     ·exact nF j h1
     ·omega
   ·rw [if_neg (fun k=>g2 k.2)] at fs
    simp [t1,t2,t5,t6,t7,t8,t9,g2]
    refine ih2 (10-(i+1)) _ _ ⟨i+1,f,rfl,by omega,by simp [t1],by simp [t2],by simp [t5],by simp [t6],by simp [t7],by simp [t8],?_,c1,by rw [fs];exact oF,nF⟩ (by omega)
    simp [t9];rw [w64 (by omega) (by omega)]
 have hi10:i=10:=by omega
 subst hi10
 clear ih2
 rw [Jx] at oF
 obtain ⟨z,hz⟩:∃z,z=5*a+p:=⟨_,rfl⟩
 have hzl:z<x.2.2.2.2.1.length:=by have:=hx.2.1.2.2.1;omega
 have e1:=@w6 (5*(a:Int)) (by omega)
 have e2:∀[Inhabited Unit],IntKind.i64.wrap (5*(a:Int)+(p:Int))=(z:Int):=by intro _;rw [w64 (by omega) (by omega)];omega
 have rd:=Rd.isI o1.2.2.2.2.1.1.rd
 have q1:=rd.idx (P:=Tryz.prog) (ty:=26) (e:=3) (by simp) (i:=(z:Int)) (by omega) (by omega)
 have q2:=rd.load (P:=Tryz.prog) (e:=3) (by simp) hzl
 simp only [Int.toNat_natCast] at q1 q2
 have hti:inR 0 (x.2.2.2.2.1.getD z 0) 9:=by
  have:x.2.2.2.2.1.getD z 0=x.2.2.2.2.1[z]:=by simp [List.getD_eq_getElem?_getD,hzl]
  rw [this];exact hx.2.2.2.2 _ (List.getElem_mem hzl)
 have ff:=fun F=>Nd (frz:=F) (H:=H1) f _ _ oF.rd.isI (by have:=Lm (x:=x) (a:=a) (p:=p) (u:=st.2);omega) Gx hti
 have hpk:firstF (x.2.2.2.2.1.getD z 0) ((freeN x a p st.2).map Int.ofNat)=pickN x a p st.2:=by rw [hz];rfl
 rw [hpk] at ff
 have oG1:=oG.chg c1 (by simp)
 generalize x.2.2.2.2.1.getD z 0=T at *
 simp [t1,t2,t5,t6,t7,t8,t9,VM.look,b1,ones,e1,e2,q1,q2,ff]
 by_cases g2:0≤pickN x a p st.2
 rotate_left
 ·rw [if_neg g2] at gs
  simp [t1,t2,t5,t6,t7,g2]
  refine ih (5-(p+1)) _ _ ⟨p+1,r,rfl,by omega,by simp [t1],by simp [t2],by simp [t5],by simp [t6],?_,ch.trans c1,by unfold netCells;exact b1,by rw [gs];exact oB1,by rw [gs];exact oG1,nG⟩ (by omega)
  simp [t7];rw [w64 (by omega) (by omega)]
 rw [if_pos g2] at gs
 obtain ⟨k,hk,hk10⟩:=Gh g2
 rw [hk,Int.toNat_natCast] at gs
 obtain ⟨q,hq⟩:∃q,q=k/2:=⟨_,rfl⟩
 rw [← hq] at gs
 have e4:∀[Inhabited Unit],IntKind.i64.wrap ((k:Int)/2)=(q:Int):=by intro _;rw [w64 (by omega) (by omega)];omega
 have ai:=Ar oB1 (j:=q) (by omega)
 obtain ⟨H3,s3,oB3,c3,l3⟩:=oB1.put1 (P:=Tryz.prog) (frz:=H.length) rfl (et:=4) (ag:=false) (by simp) (j:=q) (x:=.bool true) (y:=true) (by omega) rfl rfl rfl (fun i hi=>by simp at hi;omega)
 have c13:=(ch.trans c1).trans' c3 (fun i hi=>.inr (by simp at hi;omega))
 have oG3:=oG1.chg c3 (fun j hj hh=>(nG j hj).2 (by simpa using hh))
 have b3:=Qa b1 c3 (by simp)
 obtain ⟨r',H4,hap,oG4,c4,n4⟩:=oG3.push (P:=Tryz.prog) (frz:=H.length) (ty:=94) (a:=(a,p,k)) (by simp) rfl (by omega) (fun i hi=>by have:=(nG i hi).1;omega)
 simp only [Vs] at hap
 have oB4:=oB3.chg c4 (fun j hj hh=>by simp at hj;exact (nG j hh).2 hj)
 have b4:=Qa b3 c4 (fun hh=>by have:=(nG _ hh).1;omega)
 simp [-Qe,-Qq,t1,t2,t5,t6,t7,hk,e4,ai,s3,hap]
 refine ih (5-(p+1)) _ _ ⟨p+1,r',rfl,by omega,by simp [t1],by simp [t2],by simp,by simp [t6],?_,c13.trans' c4 (fun i hi=>.inr (by have:=(nG i hi).1;omega)),by unfold netCells;exact b4,by rw [gs];exact oB4,by rw [gs];exact oG4,fun j hj=>?_⟩ (by omega)
 ·simp [t7];rw [w64 (by omega) (by omega)]
 ·rcases n4 j hj with h1|h1
  ·exact nG j h1
  ·have:=c3.1;omega
theorem Dw {v:NetV} {x:NetD} (o:dNet.Ow H v x) (hx:runOk x) :
 wp (vcall C frz 120 [dNet.val v x] H) (fun r H'=>Ow grF 98 H' r (allN x)∧(∀i∈ids r,H.length≤i)∧Chg H H' []):=by
 have ones:=Qh o
 obtain ⟨N,hN⟩:∃N:Nat,cnt x.1.1 x.1.2.1=N:=⟨(cnt x.1.1 x.1.2.1).toNat,by have:=Qg x.1.1 x.1.2.1;omega⟩
 have hN2:N≤16:=by have:=Qg x.1.1 x.1.2.1;omega
 have hall:allN x=allTo x N:=by unfold allN;rw [hN,Int.toNat_natCast]
 simp only [Qc]
 rw [Qb (fn:=Tryz.f120) Tryz.func120 rfl (by kernel_rfl) rfl]
 obtain ⟨G,hG⟩:∃G,G=H++[⟨netCells v x,0,35⟩,⟨[],0,98⟩]:=⟨_,rfl⟩
 have oG0:Ow grF 98 G (.slice (some ⟨H.length+1,0,some 0⟩) 0 0) []:=by rw [hG];exact Ow.new (D:=grF) (xs:=[]) (k:=1) rfl rfl rfl rfl
 have cG:Chg H G []:=by rw [hG];exact Chg.app _
 have hr:G[H.length]? = some ⟨netCells v x,0,35⟩:=by rw [hG];simp
 have hGs:H++[⟨netCells v x,0,35⟩,⟨[],0,98⟩]=G:=hG.symm
 have lG0:G.length=H.length+2:=by rw [hG];simp
 unfold netCells at hr hGs
 rw [hall]
 simp [ones]
 rw [hGs]
 clear hG hGs
 refine Qm (fun n t H'=>∃(i:Nat) (r:Value),n=N-i∧i≤N∧t 1=.pointer (some ⟨H.length,0,some 0⟩)∧t 3=r∧t 4=.int .i64 i∧Chg H H' []∧H'[H.length]? = some ⟨netCells v x,0,35⟩∧Ow grF 98 H' r (allTo x i)∧(∀j∈ids r,H.length+1≤j)) ?_ (n:=N)
  ⟨0,.slice (some ⟨H.length+1,0,some 0⟩) 0 0,rfl,by omega,by simp,by simp,by simp,cG,by unfold netCells;exact hr,oG0,by simp⟩
 rintro n t H' ⟨i,r,rfl,hi,t1,t3,t4,ch,b0,oo,nr⟩ ih
 have o1:=Dt.chg (T:=dNet) o ch (by simp)
 have b0':=b0
 unfold netCells at b0'
 have nc:=fun F=>Wk (frz:=F) (H:=H') x.1.1 x.1.2.1
 have nc2:=fun F=>Qx (frz:=F) (H:=H') x.1.1 x.1.2.1
 rw [hN] at nc nc2
 simp [t1,t3,t4,VM.look,b0',ones,nc,nc2]
 refine Qf ?_ ?_<;>intro g
 ·have hi':i<N:=by omega
  have gr:=Kg (frz:=H.length) (a:=i) o1 hx (by omega)
  simp only [Qc] at gr
  simp [t1,t3,t4,VM.look,b0',ones]
  refine Qd gr ?_
  rintro L H1 ⟨oL,nL,cL⟩
  have l1:=ch.1
  have l2:=cL.1
  have al:=P9 x i
  have gl:=I9 x i
  have b1:=Qa b0 cL (by simp)
  obtain ⟨r',H2,hap,o2,c2,n2⟩:=(oo.chg cL (by simp)).append (P:=Tryz.prog) (frz:=H.length) (ty:=94) oL.rd (by simp) (Mp _) (by omega) (fun j hj=>by have:=nr j hj;omega)
  have asu:=Za x i
  simp [-Qe,-Qq,t1,t3,t4,hap]
  refine ih (N-(i+1)) _ _ ⟨i+1,r',rfl,by omega,by simp [t1],by simp,?_,(ch.trans cL).trans' c2 (fun j hj=>.inr (by have:=nr j hj;omega)),Qa b1 c2 (fun hh=>by have:=nr _ hh;omega),by rw [asu];exact o2,fun j hj=>?_⟩ (by omega)
  ·simp [t4];rw [w64 (by omega) (by omega)]
  ·rcases n2 j hj with h1|h1
   ·exact nr j h1
   ·have:=Q0 b0;omega
 ·have:i=N:=by omega
  subst this
  simp [t1,t3,t4]
  exact ⟨oo,fun j hj=>by have:=nr j hj;omega,ch⟩
theorem Py {v:NetV} {x:NetD} (o:dNet.Ow H v x) (hx:runOk x) :
 wp (vcall C frz 123 [dNet.val v x] H) (fun r H'=>Ow Fl.int 3 H' r ((enterN x).map Int.ofNat)∧(∀i∈ids r,H.length≤i)∧Chg H H' []):=by
 have ones:=Qh o
 obtain ⟨N,hN⟩:∃N:Nat,cnt x.1.1 x.1.2.1=N:=⟨(cnt x.1.1 x.1.2.1).toNat,by have:=Qg x.1.1 x.1.2.1;omega⟩
 have hN2:N≤16:=by have:=Qg x.1.1 x.1.2.1;omega
 have hall:enterN x=enterTo x N:=by unfold enterN enterTo;rw [hN,Int.toNat_natCast]
 simp only [Qc]
 rw [Qb (fn:=Tryz.f123) Tryz.func123 rfl (by kernel_rfl) rfl]
 have hsl:x.2.2.2.2.2.1.length=N:=by have:=hx.2.1.2.2.2.1;omega
 have hbl:x.2.2.1.length=10*N:=by have:=hx.2.1.1;omega
 obtain ⟨G,hG⟩:∃G,G=H++[⟨netCells v x,0,35⟩,⟨[],0,3⟩]:=⟨_,rfl⟩
 have oG0:Ow Fl.int 3 G (.slice (some ⟨H.length+1,0,some 0⟩) 0 0) []:=by rw [hG];exact Ow.new (D:=Fl.int) (xs:=[]) (k:=1) rfl rfl rfl rfl
 have cG:Chg H G []:=by rw [hG];exact Chg.app _
 have hr:G[H.length]? = some ⟨netCells v x,0,35⟩:=by rw [hG];simp
 have hGs:H++[⟨netCells v x,0,35⟩,⟨[],0,3⟩]=G:=hG.symm
 unfold netCells at hr hGs
 rw [hall]
 simp [ones]
 rw [hGs]
 clear hG hGs
 refine Qm (fun n t H'=>∃(i:Nat) (r:Value),n=N-i∧i≤N∧t 1=.pointer (some ⟨H.length,0,some 0⟩)∧t 3=r∧t 4=.int .i64 i∧Chg H H' []∧H'[H.length]? = some ⟨netCells v x,0,35⟩∧Ow Fl.int 3 H' r ((enterTo x i).map Int.ofNat)∧(∀j∈ids r,H.length+1≤j)) ?_ (n:=N)
  ⟨0,.slice (some ⟨H.length+1,0,some 0⟩) 0 0,rfl,by omega,by simp,by simp,by simp,cG,by unfold netCells;exact hr,oG0,by simp⟩
 rintro n t H' ⟨i,r,rfl,hi,t1,t3,t4,ch,b0,oo,nr⟩ ih
 have r1:=b0
 unfold netCells at r1
 have o1:=Dt.chg (T:=dNet) o ch (by simp)
 have rd:=o1.2.2.2.2.2.1.1.rd
 have ll:=rd.1.len (P:=Tryz.prog) (ty:=33) (by simp)
 rw [rd.2.1,hsl] at ll
 simp [t1,t3,t4,VM.look,r1,ones,ll]
 refine Qf ?_ ?_<;>intro g
 rotate_left
 ·have:i=N:=by omega
  subst this
  simp [t1,t3,t4]
  exact ⟨oo,fun j hj=>by have:=nr j hj;omega,ch⟩
 have hi':i<N:=by omega
 have his:i<x.2.2.2.2.2.1.length:=by omega
 obtain ⟨u,a1,a2,a3,a4⟩:=Q9 o1.2.2.2.2.2.1.1.rd (ty:=33) (e:=75) (by simp) (by simp) his
 have la:=a4.len (P:=Tryz.prog) (ty:=75) (by simp)
 have qa:VM.one u=true∧u.cells=#[u]:=⟨a4.one',a4.cells⟩
 have hgd:x.2.2.2.2.2.1.getD i []=x.2.2.2.2.2.1[i]:=by simp [List.getD_eq_getElem?_getD,his]
 have hes:=Vj x i
 have hel:=Tw x i
 simp [t1,t3,t4]
 rw [Qp (h:=by kernel_rfl)]
 by_cases g0:x.2.2.2.2.2.1[i]=[]
 ·have hne:¬entersN x i:=fun k=>k.1 (by rw [hgd];exact g0)
  rw [if_neg hne] at hes
  rw [g0] at la
  simp [t1,t3,t4,VM.look,r1,ones,a2,a3,la]
  refine ih (N-(i+1)) _ _ ⟨i+1,r,rfl,by omega,by simp [t1],by simp [t3],?_,ch,b0,by rw [hes];exact oo,nr⟩ (by omega)
  simp [t4];rw [w64 (by omega) (by omega)]
 have g0':0<x.2.2.2.2.2.1[i].length:=List.length_pos_iff.2 g0
 obtain ⟨z0,f1,f2,f3,c1,c2,c3,_⟩:=front a4 g0
 obtain ⟨en1,en2,en3⟩:=Zx hx (k:=i) (by rw [hgd];exact g0)
 have hsh:srcHead x i=headL x.2.2.2.2.2.1[i]:=by unfold srcHead;rw [hgd]
 have hcl:=en1.2
 rw [hsh] at en2 hcl
 generalize headL x.2.2.2.2.2.1[i]=f at *
 have key:entersN x i↔(x.2.2.1.getD (entAt x i) []).length<3:=⟨fun k=>k.2,fun k=>⟨by rw [hgd];exact g0,k⟩⟩
 have hzl:entAt x i<x.2.2.1.length:=by unfold inR at hcl;omega
 unfold inR at hcl
 generalize entAt x i=z at *
 have e1:=@w6 (10*(i:Int)) (by omega)
 have e2:=@w6 (10*(i:Int)+8) (by omega)
 have e3:∀[Inhabited Unit],IntKind.i64.wrap (10*(i:Int)+8+f.2.2.1)=(z:Int):=by intro _;rw [w64 (by omega) (by omega)];omega
 obtain ⟨u',b1,b2,b3,b4⟩:=Q9 o1.2.2.1.1.rd (ty:=33) (e:=75) (by simp) (by simp) hzl
 have lb:=b4.len (P:=Tryz.prog) (ty:=75) (by simp)
 have hgz:x.2.2.1.getD z []=x.2.2.1[z]:=by simp [List.getD_eq_getElem?_getD,hzl]
 have qb:VM.one u'=true∧u'.cells=#[u']:=⟨b4.one',b4.cells⟩
 rw [hgz] at key
 simp [-vfieldAddr,Qs,t1,t3,t4,la,g0',VM.look,r1,ones,a2,a3,z0,f2,c2,e1,e2,e3,b2,b3,lb]
 refine Qf ?_ ?_<;>intro g1
 ·rw [if_pos (key.2 (by omega))] at hes
  obtain ⟨r',H2,hap,o2,c2',n2⟩:=oo.push (P:=Tryz.prog) (frz:=H.length) (ty:=26) (a:=(i:Int)) (by simp) rfl (by simp;omega) (fun j hj=>by have:=nr j hj;omega)
  simp only [Fl.int_f] at hap
  have l0:=ch.1
  simp [t1,t3,t4,hap]
  refine ih (N-(i+1)) _ _ ⟨i+1,r',rfl,by omega,by simp [t1],by simp,?_,ch.trans' c2' (fun j hj=>.inr (by have:=nr j hj;omega)),Qa b0 c2' (fun hh=>by have:=nr _ hh;omega),?_,fun j hj=>?_⟩ (by omega)
  ·simp [t4];rw [w64 (by omega) (by omega)]
  ·rw [hes,List.map_append];exact o2
  ·rcases n2 j hj with h1|h1
   ·exact nr j h1
   ·have:=Q0 b0;omega
 ·rw [if_neg (fun k=>by have:=key.1 k;omega)] at hes
  simp [t1,t3,t4]
  refine ih (N-(i+1)) _ _ ⟨i+1,r,rfl,by omega,by simp [t1],by simp [t3],?_,ch,b0,by rw [hes];exact oo,nr⟩ (by omega)
  simp [t4];rw [w64 (by omega) (by omega)]
theorem Ju {s:SSD} {j:Nat} (h:j<s.length) (f:List FlitD→List FlitD):upd s j f=s.set j (f s[j]):=by
 unfold upd;rw [List.getD_eq_getElem?_getD,List.getElem?_eq_getElem h];rfl
structure Put (K K3:Heap) (u u':SSV) (s':SSD):Prop where
 hd:u'.1=u.1
 ow:dSS.Ow K3 u' s'
 nd:(dSS.ids u').Nodup
 ids:∀i∈dSS.ids u',i∈dSS.ids u∨K.length≤i
 chg:Chg K K3 (dSS.ids u)
theorem Xv {K:Heap} {u:SSV} {s:SSD} (o:dSS.Ow K u s) {j:Nat} (hj:j<s.length) :
 ∃a,u.2[j]? = some a∧vindexAddr Tryz.prog K 33 u.1 (.int .i64 (j:Int))=some (elp u.1 j)∧vload Tryz.prog K 75 (elp u.1 j)=some a∧Ow flF 102 K a s[j]∧VM.one a=true∧a.cells=#[a]∧VM.live K u.1:=by
 obtain ⟨a,a1,a2,a3,a4⟩:=Q9 o.1.rd (ty:=33) (e:=75) (by simp) (by simp) hj
 have oa:=o.1.2.2 j a s[j] a1 (by simp [hj])
 exact ⟨a,a1,a2,a3,oa,a4.one',a4.cells,Wa o.1.1⟩
theorem Um {K:Heap} {u:SSV} {s:SSD} {j:Nat} {a:Value} (o:dSS.Ow K u s) (nd:(dSS.ids u).Nodup) (hj:j<s.length) (hb:s[j].length+1≤67108864) (hf:∀i∈dSS.ids u,frz≤i) (ha:u.2[j]? = some a) (y:FlitD) :
 ∃a' K2 K3,vappend Tryz.prog frz (K++[⟨flF.f y,0,102⟩]) 75 75 a (.slice (some ⟨K.length,0,some 0⟩) 1 0)=some (a',K2)∧vindexAddr Tryz.prog K2 33 u.1 (.int .i64 (j:Int))=some (elp u.1 j)∧
  vstore Tryz.prog frz K2 75 a' (elp u.1 j)=some K3∧VM.live K2 u.1∧VM.live K3 u.1∧VM.one a'=true∧a'.cells=#[a']∧Chg K K2 (ids a)∧Put K K3 u (u.1,u.2.set j a') (upd s j (·++[y])):=by
 have hj':j<u.2.length:=by rw [o.1.2.1];exact hj
 have ea:u.2[j]=a:=by rw [List.getElem?_eq_getElem hj'] at ha;exact Option.some.inj ha
 have oa:Ow flF 102 K a s[j]:=o.1.2.2 j a _ ha (by simp [hj])
 have hia:∀i∈ids a,i∈dSS.ids u:=fun i hi=>W9 ha hi
 obtain ⟨a',K2,hap,oa',c2,na'⟩:=oa.push (P:=Tryz.prog) (frz:=frz) (ty:=75) (a:=y) (by simp) rfl (by omega) (fun i hi=>hf i (hia i hi))
 have c2':Chg K K2 (ids u.2[j]):=by rw [ea];exact c2
 obtain ⟨K3,hst,oL,c3,ndL,idL,l3⟩:=Vo (frz:=frz) (et:=75) (ag:=false) o.1 nd hj' c2' oa' (by rw [ea];exact na') (fun i hi=>hf i hi) (by simp)
 have dav:∀i∈ids u.1,i∉ids a:=fun i hi hh=>(List.nodup_append.1 nd).2.2 i hi i (List.mem_flatMap.2 ⟨a,List.mem_of_getElem? ha,hh⟩) rfl
 have ol2:=o.1.1.chg c2 dav
 have hsl:=o.1.2.1
 have ix2:=ol2.rd.idx (P:=Tryz.prog) (ty:=33) (e:=75) (by simp) (i:=(j:Int)) (by omega) (by omega)
 simp only [Int.toNat_natCast,Nat.mul_one,show Fl.val.n=1 from rfl] at ix2
 have hup:=Ju hj (·++[y])
 refine ⟨a',K2,K3,hap,ix2,hst,Wa ol2,Wa oL.1,oa'.rd.one',oa'.rd.cells,c2,rfl,?_,ndL,idL,c3⟩
 rw [hup]
 exact Pk oL o.2.1 o.2.2 (by simp;omega)
theorem qd {K:Heap} {u:SSV} {s:SSD} {j:Nat} {a:Value} (o:dSS.Ow K u s) (nd:(dSS.ids u).Nodup) (hj:j<s.length) (hne:s[j]≠[]) (hf:∀i∈dSS.ids u,frz≤i) (hfK:frz≤K.length) (ha:u.2[j]? = some a) :
 ∃z a' K2 K3,vload Tryz.prog (K++[⟨[],0,102⟩]) 75 (elp u.1 j)=some a∧vindexAddr Tryz.prog (K++[⟨[],0,102⟩]) 33 u.1 (.int .i64 (j:Int))=some (elp u.1 j)∧
  vslice Tryz.prog (K++[⟨[],0,102⟩]) 75 (some (.int .i64 1)) none a=some z∧
  vappend Tryz.prog frz (K++[⟨[],0,102⟩]) 75 75 (.slice (some ⟨K.length,0,some 0⟩) 0 0) z=some (a',K2)∧vindexAddr Tryz.prog K2 33 u.1 (.int .i64 (j:Int))=some (elp u.1 j)∧
  vstore Tryz.prog frz K2 75 a' (elp u.1 j)=some K3∧VM.live (K++[⟨[],0,102⟩]) u.1∧VM.live K2 u.1∧VM.live K3 u.1∧VM.one a'=true∧a'.cells=#[a']∧Chg K K2 []∧Put K K3 u (u.1,u.2.set j a') (upd s j (List.drop 1)):=by
 have hj':j<u.2.length:=by rw [o.1.2.1];exact hj
 have ea:u.2[j]=a:=by rw [List.getElem?_eq_getElem hj'] at ha;exact Option.some.inj ha
 have o1:=Dt.app (T:=dSS) (L:=[⟨[],0,102⟩]) o
 obtain ⟨a1,h1,h2,h3,oa,h4,h5,h6⟩:=Xv o1 hj
 have e1:a1=a:=by rw [ha] at h1;exact (Option.some.inj h1).symm
 subst e1
 have hsl:=o.1.2.1
 have hpos:=List.length_pos_iff.2 hne
 obtain ⟨z,hz,oz,nz⟩:=oa.slice (P:=Tryz.prog) (ty:=75) (lo:=some (.int .i64 1)) (hi:=none) (l:=1) (u:=s[j].length) (by simp) rfl rfl (by omega) (Nat.le_refl _)
 have et:(s[j].drop 1).take (s[j].length-1)=s[j].drop 1:=List.take_of_length_le (by simp)
 rw [et] at oz
 have hlb:=o.2.2 _ (List.getElem_mem hj)
 have on:Ow flF 102 (K++[⟨[],0,102⟩]) (.slice (some ⟨K.length,0,some 0⟩) 0 0) []:=Ow.new0 (D:=flF) (xs:=[]) rfl rfl rfl rfl
 obtain ⟨a',K2,hap,oa',c2,na'⟩:=on.append (P:=Tryz.prog) (frz:=frz) (ty:=75) oz.rd (by simp) (Yr _) (by simp;omega) (fun i hi=>by simp at hi;omega)
 rw [List.nil_append] at oa'
 have c12:Chg K K2 []:=(Chg.app _).trans' c2 (fun i hi=>.inr (by simp at hi;omega))
 obtain ⟨K3,hst,oL,c3,ndL,idL,l3⟩:=Vo (frz:=frz) (et:=75) (ag:=false) o.1 nd hj' (c12.mono (fun _ h=>by cases h)) oa' (fun i hi=>by
  rcases na' i hi with g|g
  ·right;simp at g;omega
  ·right;simp at g;omega) (fun i hi=>hf i hi) (by simp)
 have ol2:=o.1.1.chg c12 (by simp)
 have ix2:=ol2.rd.idx (P:=Tryz.prog) (ty:=33) (e:=75) (by simp) (i:=(j:Int)) (by omega) (by omega)
 simp only [Int.toNat_natCast,Nat.mul_one,show Fl.val.n=1 from rfl] at ix2
 have hup:=Ju hj (List.drop 1)
 refine ⟨z,a',K2,K3,h3,h2,hz,hap,ix2,hst,h6,Wa ol2,Wa oL.1,oa'.rd.one',oa'.rd.cells,c12,rfl,?_,ndL,idL,c3⟩
 rw [hup]
 exact Pk oL o.2.1 o.2.2 (by simp;omega)
theorem N5 {K:Heap} {u:SSV} {s:SSD} {j:Nat} {a:Value} (o:dSS.Ow K u s) (nd:(dSS.ids u).Nodup) (hj:j<s.length) (hne:s[j]≠[]) (hf:∀i∈dSS.ids u,frz≤i) (ha:u.2[j]? = some a) :
 ∃z a' K2 K3,vslice Tryz.prog K 75 (some (.int .i64 1)) none a=some z∧
  vappend Tryz.prog frz K 75 75 (.slice none 0 0) z=some (a',K2)∧vindexAddr Tryz.prog K2 33 u.1 (.int .i64 (j:Int))=some (elp u.1 j)∧
  vstore Tryz.prog frz K2 75 a' (elp u.1 j)=some K3∧VM.live K2 u.1∧VM.live K3 u.1∧VM.one a'=true∧a'.cells=#[a']∧Chg K K2 []∧Put K K3 u (u.1,u.2.set j a') (upd s j (List.drop 1)):=by
 have hj':j<u.2.length:=by rw [o.1.2.1];exact hj
 obtain ⟨a1,h1,h2,h3,oa,h4,h5,h6⟩:=Xv o hj
 have e1:a1=a:=by rw [ha] at h1;exact (Option.some.inj h1).symm
 subst e1
 have hsl:=o.1.2.1
 have hpos:=List.length_pos_iff.2 hne
 obtain ⟨z,hz,oz,nz⟩:=oa.slice (P:=Tryz.prog) (ty:=75) (lo:=some (.int .i64 1)) (hi:=none) (l:=1) (u:=s[j].length) (by simp) rfl rfl (by omega) (Nat.le_refl _)
 have et:(s[j].drop 1).take (s[j].length-1)=s[j].drop 1:=List.take_of_length_le (by simp)
 rw [et] at oz
 have hlb:=o.2.2 _ (List.getElem_mem hj)
 have on:Ow flF 102 K (.slice none 0 0) []:=.inl ⟨rfl,rfl⟩
 obtain ⟨a',K2,hap,oa',c12,na'⟩:=on.append (P:=Tryz.prog) (frz:=frz) (ty:=75) oz.rd (by simp) (Yr _) (by simp;omega) (by simp)
 rw [List.nil_append] at oa'
 obtain ⟨K3,hst,oL,c3,ndL,idL,l3⟩:=Vo (frz:=frz) (et:=75) (ag:=false) o.1 nd hj' (c12.mono (fun i h=>by simp at h)) oa' (fun i hi=>by
  rcases na' i hi with g|g
  ·simp at g
  ·exact .inr g) (fun i hi=>hf i hi) (by simp)
 have c12':Chg K K2 []:=c12.mono (fun i h=>by simp at h)
 have ol2:=o.1.1.chg c12' (by simp)
 have ix2:=ol2.rd.idx (P:=Tryz.prog) (ty:=33) (e:=75) (by simp) (i:=(j:Int)) (by omega) (by omega)
 simp only [Int.toNat_natCast,Nat.mul_one,show Fl.val.n=1 from rfl] at ix2
 have hup:=Ju hj (List.drop 1)
 refine ⟨z,a',K2,K3,hz,hap,ix2,hst,Wa ol2,Wa oL.1,oa'.rd.one',oa'.rd.cells,c12',rfl,?_,ndL,idL,c3⟩
 rw [hup]
 exact Pk oL o.2.1 o.2.2 (by simp;omega)
theorem Cd {α:Type} {D:Fl α} {e:TypeId} {K:Heap} {v:Value} {xs:List α} (o:Ow D e K v xs) (h:0<xs.length) (j:Nat):VM.vnil K (elp v j)=some (elp v j):=by
 rcases o with ⟨_,rfl⟩|⟨id,off,r,rfl,h2,_⟩
 ·simp at h
 ·simp [elp,VM.vnil,VM.look,h2]
def vw (v:NetV) (h5 h8 h9:List Value):NetV:=(v.1,v.2.1,(v.2.2.1.1,h5),v.2.2.2.1,v.2.2.2.2.1,(v.2.2.2.2.2.1.1,h8),(v.2.2.2.2.2.2.1.1,h9),v.2.2.2.2.2.2.2)
structure NS (H K:Heap) (W:List Nat) (v:NetV) (y:NetD) (h5 h8 h9:List Value):Prop where
 ow:dNet.Ow K (vw v h5 h8 h9) y
 nd:(dNet.ids (vw v h5 h8 h9)).Nodup
 ids:∀i∈dNet.ids (vw v h5 h8 h9),i∈dNet.ids v∨H.length≤i
 chg:Chg H K (W++dNet.ids v)
theorem NS.start {v:NetV} {y:NetD} (W:List Nat) (o:dNet.Ow H v y) (nd:(dNet.ids v).Nodup):NS H H W v y v.2.2.1.2 v.2.2.2.2.2.1.2 v.2.2.2.2.2.2.1.2:=
 ⟨o,nd,fun i hi=>.inl hi,Chg.refl _⟩
theorem NS.other {K K':Heap} {W:List Nat} {v:NetV} {y:NetD} {h5 h8 h9:List Value} {I:List Nat} (n:NS H K W v y h5 h8 h9) (c:Chg K K' I) (hd:∀i∈dNet.ids (vw v h5 h8 h9),i∉I) (hI:∀i∈I,i∈W∨H.length≤i):NS H K' W v y h5 h8 h9:=
 ⟨Dt.chg (T:=dNet) n.ow c hd,n.nd,n.ids,n.chg.trans' c (fun i hi=>(hI i hi).imp (fun h=>List.mem_append_left _ h) id)⟩
theorem NS.step {K K':Heap} {W:List Nat} {v:NetV} {y y':NetD} {h5 h8 h9 h5' h8' h9':List Value} {I:List Nat} (n:NS H K W v y h5 h8 h9) (c:Chg K K' I) (hI:∀i∈I,i∈dNet.ids (vw v h5 h8 h9))
 (o:dNet.Ow K' (vw v h5' h8' h9') y') (nd:(dNet.ids (vw v h5' h8' h9')).Nodup) (hi:∀i∈dNet.ids (vw v h5' h8' h9'),i∈dNet.ids (vw v h5 h8 h9)∨K.length≤i):NS H K' W v y' h5' h8' h9':=
 ⟨o,nd,fun i h=>by
  rcases hi i h with g|g
  ·exact n.ids i g
  ·have:=n.chg.1;right;omega,n.chg.trans' c (fun i h=>(n.ids i (hI i h)).imp (fun h=>List.mem_append_right _ h) id)⟩
theorem NS.buf {K K':Heap} {W:List Nat} {v:NetV} {y:NetD} {h5 h8 h9 h5':List Value} {s':SSD} (n:NS H K W v y h5 h8 h9) (p:Put K K' (v.2.2.1.1,h5) (v.2.2.1.1,h5') s') :
 NS H K' W v (withBuf y s') h5' h8 h9∧(∀i∈dNet.ids (vw v h5' h8 h9),i∈dNet.ids (vw v h5 h8 h9)∨K.length≤i)∧Chg K K' (dNet.ids (vw v h5 h8 h9)):=by
 obtain ⟨a,b,c⟩:=Jr (n:=vw v h5 h8 h9) (u:=(v.2.2.1.1,h5')) n.ow n.nd p.chg p.ow p.nd p.ids
 exact ⟨n.step p.chg (fun i hi=>Wm (n:=vw v h5 h8 h9) i hi) a b c,c,p.chg.mono (fun i hi=>Wm (n:=vw v h5 h8 h9) i hi)⟩
theorem NS.src {K K':Heap} {W:List Nat} {v:NetV} {y:NetD} {h5 h8 h9 h8':List Value} {s':SSD} (n:NS H K W v y h5 h8 h9) (p:Put K K' (v.2.2.2.2.2.1.1,h8) (v.2.2.2.2.2.1.1,h8') s') :
 NS H K' W v (withSrc y s') h5 h8' h9∧(∀i∈dNet.ids (vw v h5 h8' h9),i∈dNet.ids (vw v h5 h8 h9)∨K.length≤i)∧Chg K K' (dNet.ids (vw v h5 h8 h9)):=by
 obtain ⟨a,b,c⟩:=Va (n:=vw v h5 h8 h9) (u:=(v.2.2.2.2.2.1.1,h8')) n.ow n.nd p.chg p.ow p.nd p.ids
 exact ⟨n.step p.chg (fun i hi=>Ya (n:=vw v h5 h8 h9) i hi) a b c,c,p.chg.mono (fun i hi=>Ya (n:=vw v h5 h8 h9) i hi)⟩
theorem NS.arr {K K':Heap} {W:List Nat} {v:NetV} {y:NetD} {h5 h8 h9 h9':List Value} {s':SSD} (n:NS H K W v y h5 h8 h9) (p:Put K K' (v.2.2.2.2.2.2.1.1,h9) (v.2.2.2.2.2.2.1.1,h9') s') :
 NS H K' W v (withArr y s') h5 h8 h9'∧(∀i∈dNet.ids (vw v h5 h8 h9'),i∈dNet.ids (vw v h5 h8 h9)∨K.length≤i)∧Chg K K' (dNet.ids (vw v h5 h8 h9)):=by
 obtain ⟨a,b,c⟩:=K8 (n:=vw v h5 h8 h9) (u:=(v.2.2.2.2.2.2.1.1,h9')) n.ow n.nd p.chg p.ow p.nd p.ids
 exact ⟨n.step p.chg (fun i hi=>Yy (n:=vw v h5 h8 h9) i hi) a b c,c,p.chg.mono (fun i hi=>Yy (n:=vw v h5 h8 h9) i hi)⟩
theorem NS.own {K:Heap} {W:List Nat} {v:NetV} {y:NetD} {h5 h8 h9:List Value} (n:NS H K W v y h5 h8 h9) (hf:∀i∈dNet.ids (vw v h5 h8 h9),frz≤i) {j:Nat} (hj:j<y.2.2.2.1.length) (z:Int) :
 ∃K',vstore Tryz.prog frz K 3 (.int .i64 z) (elp v.2.2.2.1 j)=some K'∧NS H K' W v (withOwn y (y.2.2.2.1.set j z)) h5 h8 h9∧Chg K K' (dNet.ids (vw v h5 h8 h9)):=by
 obtain ⟨K',s,o,c,l⟩:=n.ow.2.2.2.1.1.put1 (P:=Tryz.prog) (frz:=frz) rfl (et:=3) (ag:=false) (by simp) hj (x:=.int .i64 z) (y:=z) rfl rfl rfl (fun i hi=>hf i (Tl (n:=vw v h5 h8 h9) i hi))
 obtain ⟨a,b,c'⟩:=In (n:=vw v h5 h8 h9) (u:=v.2.2.2.1) (s:=y.2.2.2.1.set j z) n.ow n.nd c ⟨o,by have:=n.ow.2.2.2.1.2;simpa using this⟩ (Fu (n:=vw v h5 h8 h9) n.nd) (fun i hi=>.inl hi)
 exact ⟨K',s,n.step c (fun i hi=>Tl (n:=vw v h5 h8 h9) i hi) a b c',c.mono (fun i hi=>Tl (n:=vw v h5 h8 h9) i hi)⟩
theorem NS.turn {K:Heap} {W:List Nat} {v:NetV} {y:NetD} {h5 h8 h9:List Value} (n:NS H K W v y h5 h8 h9) (hf:∀i∈dNet.ids (vw v h5 h8 h9),frz≤i) {j:Nat} (hj:j<y.2.2.2.2.1.length) (z:Int) :
 ∃K',vstore Tryz.prog frz K 3 (.int .i64 z) (elp v.2.2.2.2.1 j)=some K'∧NS H K' W v (withTurn y (y.2.2.2.2.1.set j z)) h5 h8 h9∧Chg K K' (dNet.ids (vw v h5 h8 h9)):=by
 obtain ⟨K',s,o,c,l⟩:=n.ow.2.2.2.2.1.1.put1 (P:=Tryz.prog) (frz:=frz) rfl (et:=3) (ag:=false) (by simp) hj (x:=.int .i64 z) (y:=z) rfl rfl rfl (fun i hi=>hf i (U8 (n:=vw v h5 h8 h9) i hi))
 obtain ⟨a,b,c'⟩:=Kj (n:=vw v h5 h8 h9) (u:=v.2.2.2.2.1) (s:=y.2.2.2.2.1.set j z) n.ow n.nd c ⟨o,by have:=n.ow.2.2.2.2.1.2;simpa using this⟩ (Jn (n:=vw v h5 h8 h9) n.nd) (fun i hi=>.inl hi)
 exact ⟨K',s,n.step c (fun i hi=>U8 (n:=vw v h5 h8 h9) i hi) a b c',c.mono (fun i hi=>U8 (n:=vw v h5 h8 h9) i hi)⟩
noncomputable def nPop (x:NetD) (i:Nat):NetD:=withBuf x (((allN x).take i).foldl popS x.2.2.1)
noncomputable def nPush (x y:NetD) (i:Nat):NetD:=
 (y.1,y.2.1,((allN x).take i).foldl (pushS x) y.2.2.1,((allN x).take i).foldl (ownS x) y.2.2.2.1,((allN x).take i).foldl turnS y.2.2.2.2.1,y.2.2.2.2.2.1,((allN x).take i).foldl (arrS x) y.2.2.2.2.2.2.1,y.2.2.2.2.2.2.2)
noncomputable def nEnt (x y:NetD) (i:Nat):NetD:=
 (y.1,y.2.1,((enterN x).take i).foldl (entS x) y.2.2.1,y.2.2.2.1,y.2.2.2.2.1,((enterN x).take i).foldl srcS y.2.2.2.2.2.1,y.2.2.2.2.2.2.1,y.2.2.2.2.2.2.2)
theorem Ad (x:NetD):stepN x=older (nEnt x (nPush x (nPop x (allN x).length) (allN x).length) (enterN x).length) 1:=by
 unfold nEnt nPush nPop older withBuf
 simp only [List.take_length]
 rfl
def tgI (x:NetD) (g:GrD):Int:=if g.2.1=4 then -1 else (tgt x g.1 g.2.1 (g.2.2%2):Int)
theorem Nf {K:Heap} {e:TypeId} {v:Value} {l:List GrD} (o:Ow grF e K v l) {i:Nat} (hi:i<l.length) :
 vindexAddr Tryz.prog K 94 v (.int .i64 (i:Int))=some (elp v (i*3))∧vload Tryz.prog K 98 (elp v (i*3))=some (.agg (grF.f l[i]).toArray):=by
 have q1:=o.rd.idx (P:=Tryz.prog) (ty:=94) (e:=98) (by simp) (i:=(i:Int)) (by omega) (by omega)
 have q2:=o.rd.load (P:=Tryz.prog) (e:=98) (by simp) hi
 simp only [Int.toNat_natCast,zc] at q1 q2
 exact ⟨q1,q2⟩
def StepPost (H:Heap) (v:NetV) (y:NetD) (id:Nat) (e:TypeId) (tail:List Value) (_:Value) (H':Heap):Prop:=
 ∃v':NetV,H'[id]? = some ⟨netCells v' y++tail,0,e⟩∧dNet.Ow H' v' y∧(dNet.ids v').Nodup∧(∀i∈dNet.ids v',i∈dNet.ids v∨H.length≤i)∧Chg H H' (id::dNet.ids v)
theorem Xb {K:Heap} {w:Value} (h:VM.live K w) (hw:∃a n c,w=.slice (some a) n c) (j:Nat):VM.vnil K (elp w j)=some (elp w j):=by
 obtain ⟨a,n,c,rfl⟩:=hw
 simp only [VM.live,live1] at h
 show (match VM.look K a with|some _=>some (Value.pointer (some ⟨a.block,a.off+j,a.spot⟩))|none=>none)=_
 cases hh:VM.look K a with
 | none=>exact absurd hh h
 | some r=>rfl
theorem Nb {α:Type} {D:Fl α} {e:TypeId} {K:Heap} {v:Value} {xs:List α} (o:Ow D e K v xs) (h:0<xs.length):∃a n c,v=.slice (some a) n c:=by
 rcases o with ⟨_,rfl⟩|⟨id,off,r,rfl,h2,_⟩
 ·simp at h
 ·exact ⟨_,_,_,rfl⟩
theorem F2 {x:NetD} {i:Nat} (h:i<(allN x).length):nPop x (i+1)=withBuf (nPop x i) (upd (nPop x i).2.2.1 (frm (allN x)[i]) (List.drop 1)):=by
 unfold nPop;rw [W3 _ _ h];rfl
theorem Kl (x:NetD) (i:Nat):(nPop x i).2.2.1.length=x.2.2.1.length:=Q1 Mr _ _
theorem B3 {x:NetD} {i:Nat} (h:i<(allN x).length):(nPop x i).2.2.1.getD (frm (allN x)[i]) []=x.2.2.1.getD (frm (allN x)[i]) []:=Gw _ _ _ (Vk (Xz x) h)
theorem A1 {K:Heap} {e:TypeId} {v:Value} {l:List FlitD} (o:Ow flF e K v l) {i:Nat} (hi:i<l.length) :
 vindexAddr Tryz.prog K 75 v (.int .i64 (i:Int))=some (elp v (i*5))∧vload Tryz.prog K 102 (elp v (i*5))=some (.agg (flF.f l[i]).toArray)∧vfieldAddr Tryz.prog K 102 4 (elp v (i*5))=some (elp v (i*5+4))∧vload Tryz.prog K 4 (elp v (i*5+4))=some (.bool l[i].2.2.2.2):=by
 have q1:=o.rd.idx (P:=Tryz.prog) (ty:=75) (e:=102) (by simp) (i:=(i:Int)) (by omega) (by omega)
 have q2:=o.rd.load (P:=Tryz.prog) (e:=102) (by simp) hi
 have q3:=o.rd.field (P:=Tryz.prog) (s:=102) (f:=4) (o:=4) (n:=1) (ag:=false) (by simp) (j:=i*5) (by omega)
 have q4:=o.rd.cell (P:=Tryz.prog) (e:=4) (by simp) hi (c:=4) (by decide)
 simp only [Int.toNat_natCast,Y4] at q1 q2 q4
 simp only [Wb] at q4
 simp at q4
 exact ⟨q1,q2,q3,q4⟩
theorem Sx {K:Heap} {v:Value} {l:List Int} (h:IsI K v l) {i:Nat} (hi:i<l.length) :
 vindexAddr Tryz.prog K 26 v (.int .i64 (i:Int))=some (elp v i)∧vload Tryz.prog K 3 (elp v i)=some (.int .i64 l[i]):=by
 have q1:=h.idx (P:=Tryz.prog) (ty:=26) (e:=3) (by simp) (i:=(i:Int)) (by omega) (by omega)
 have q2:=h.load (P:=Tryz.prog) (e:=3) (by simp) hi
 simp only [Int.toNat_natCast] at q1
 rw [Q6 _ _ hi] at q2
 exact ⟨q1,q2⟩
theorem Ji {x y:NetD} {i:Nat} (h:i<(allN x).length):nPush x y (i+1)=withTurn (withOwn (withArr (withBuf (nPush x y i) (pushS x (nPush x y i).2.2.1 (allN x)[i])) (arrS x (nPush x y i).2.2.2.2.2.2.1 (allN x)[i])) (ownS x (nPush x y i).2.2.2.1 (allN x)[i])) (turnS (nPush x y i).2.2.2.2.1 (allN x)[i]):=by
 unfold nPush;simp only [W3 _ _ h];rfl
theorem O9 {x y:NetD} {i:Nat} (h:i<(enterN x).length):nEnt x y (i+1)=withSrc (withBuf (nEnt x y i) (entS x (nEnt x y i).2.2.1 (enterN x)[i])) (srcS (nEnt x y i).2.2.2.2.2.1 (enterN x)[i]):=by
 unfold nEnt;simp only [W3 _ _ h];rfl
theorem qf {v:NetV} {x:NetD} {id:Nat} {e:TypeId} {tail:List Value} (hr:H[id]? = some ⟨netCells v x++tail,0,e⟩) (o:dNet.Ow H v x) (nd:(dNet.ids v).Nodup) (hf:∀i∈dNet.ids v,frz≤i) (hfi:frz≤id) (hid:id∉dNet.ids v) (hfH:frz≤H.length) (hx:runOk x) (hb5:allL 67000000 x.2.2.1) (hb9:allL 67000000 x.2.2.2.2.2.2.1) (ht:inR 0 x.2.2.2.2.2.2.2 1000000) :
 wp (vcall C frz 31 [.pointer (some ⟨id,0,some 0⟩)] H) (StepPost H v (stepN x) id e tail):=by
 have ones:=Qh o
 have cr:=Qg x.1.1 x.1.2.1
 have hidl:=Q0 hr
 have hlt:=dNet.lt o
 rw [Qb (fn:=Tryz.f31) Tryz.func31 rfl (by kernel_rfl) rfl]
 simp
 refine Qd (Li hr o hx) ?_
 rintro gl H1 ⟨oG,nG,cG⟩
 simp
 refine Qd (Ku (Qa hr cG (by simp)) (Dt.chg (T:=dNet) o cG (by simp)) hx) ?_
 rintro el H2 ⟨oE,nE,cE⟩
 simp
 obtain ⟨G,hG⟩:∃G,G=H2++[⟨[],0,102⟩,⟨[],0,3⟩]:=⟨_,rfl⟩
 have oM0:Ow flF 102 G (.slice (some ⟨H2.length,0,some 0⟩) 0 0) []:=by rw [hG];exact Ow.new0 (D:=flF) (xs:=[]) rfl rfl rfl rfl
 have oT0:Ow Fl.int 3 G (.slice (some ⟨H2.length+1,0,some 0⟩) 0 0) []:=by rw [hG];exact Ow.new (D:=Fl.int) (xs:=[]) (k:=1) rfl rfl rfl rfl
 have c2G:Chg H2 G []:=by rw [hG];exact Chg.app _
 have lG:G.length=H2.length+2:=by rw [hG];simp
 have c0G:Chg H G []:=(cG.trans cE).trans c2G
 have l1:=cG.1
 have l2:=cE.1
 have oG1:=(oG.chg cE (by simp)).chg c2G (by simp)
 have oE1:=oE.chg c2G (by simp)
 have hGs:H2++[⟨[],0,102⟩,⟨[],0,3⟩]=G:=hG.symm
 have ltG:∀i∈ids gl,i<H1.length:=oG.lt
 have ltE:∀i∈ids el,i<H2.length:=oE.lt
 have hgl:=oG1.rd.len (P:=Tryz.prog) (ty:=94) (by simp)
 rw [hGs]
 clear hG hGs
 have hL:=Rw x
 have hat:=fun g (hg:g∈allN x)=>W4 hg
 have hnd:=Xz x
 simp [hgl]
 -- the targets
 refine Qm (fun n t H'=>∃(i:Nat) (r:Value),n=(allN x).length-i∧i≤(allN x).length∧t 0=.pointer (some ⟨id,0,some 0⟩)∧t 2=gl∧t 3=el∧t 4=.slice (some ⟨H2.length,0,some 0⟩) 0 0∧t 5=r∧t 25=gl∧t 26=.int .i64 (allN x).length∧t 27=.int .i64 i∧
  Chg G H' [H2.length+1]∧Ow Fl.int 3 H' r (((allN x).take i).map (tgI x))∧(∀j∈ids r,j=H2.length+1∨G.length≤j)) ?_ (n:=(allN x).length)
  ⟨0,.slice (some ⟨H2.length+1,0,some 0⟩) 0 0,rfl,by omega,by simp,by simp,by simp,by simp,by simp,by simp,by simp,by simp,Chg.refl _,oT0,by simp⟩
 rintro n t H' ⟨i,r,rfl,hi,t0,t2,t3,t4,t5,t25,t26,t27,ch,oT,nT⟩ ih
 simp [t0,t2,t3,t4,t5,t25,t26,t27]
 refine Qf ?_ ?_<;>intro g
 ·have hi':i<(allN x).length:=by omega
  have oG2:=oG1.chg ch (fun j hj hh=>by have:=ltG j hj;simp at hh;omega)
  obtain ⟨q1,q2⟩:=Nf oG2 hi'
  obtain ⟨m1,m2,m3,m4⟩:=hat _ (List.getElem_mem hi')
  have htk:(allN x).take (i+1)=(allN x).take i++[(allN x)[i]]:=List.take_succ_eq_append_getElem hi'
  generalize (allN x)[i]=gg at *
  have cH':Chg H H' []:=c0G.trans' ch (fun j hj=>.inr (by simp at hj;omega))
  obtain ⟨c,hc⟩:∃c,c=gg.2.2%2:=⟨_,rfl⟩
  have e3:∀[Inhabited Unit],(gg.2.2:Int).tmod 2=(c:Int):=by intro _;rw [tmod2];omega
  have e3':∀[Inhabited Unit],(gg.2.2:Int)%2=(c:Int):=by intro _;omega
  have bh:=fun F L=>L6 (frz:=F) (H:=H'++L) (a:=gg.1) (p:=gg.2.1) (c:=c) (Qo (Qa hr cH' (by simp)) L) (Dt.app (T:=dNet) (Dt.chg (T:=dNet) o cH' (by simp))) m1 m2 (by omega)
  have ht:(if gg.2.1≠4∧has x.1.1 x.1.2.1 x.1.2.2 (4*(gg.1:Int)+gg.2.1) then (tgt x gg.1 gg.2.1 c:Int) else -1)=tgI x gg:=by
   unfold tgI
   rw [← hc]
   by_cases h4:gg.2.1=4
   ·rw [if_neg (fun k=>k.1 h4),if_pos h4]
   ·rcases m4.2.1 with k|⟨k,_⟩
    ·exact absurd k h4
    ·rw [if_pos ⟨h4,k⟩,if_neg h4]
  rw [ht] at bh
  obtain ⟨T,hT⟩:∃T,T=tgI x gg:=⟨_,rfl⟩
  rw [← hT] at bh
  simp [t0,t2,t3,t4,t5,t25,t26,t27,q1,q2,Vs,VM.look,e3,e3',bh]
  have hF:frz≤H'.length:=by have:=cH'.1;omega
  have l3:=ch.1
  obtain ⟨r',H3,hap,oT3,c3,n3⟩:=(oT.app (L:=[⟨[.int .i64 (gg.1:Int),.int .i64 (gg.2.1:Int),.int .i64 (gg.2.2:Int)],0,98⟩])).push (P:=Tryz.prog) (frz:=frz) (ty:=26) (a:=T) (by simp) rfl (by simp;omega) (fun j hj=>by have:=nT j hj;omega)
  simp only [Fl.int_f,List.append_assoc,List.cons_append,List.nil_append,List.length_append,List.length_cons,List.length_nil] at hap
  simp [-Qe,-Qq,t0,t2,t3,t4,t5,t25,t26,t27,hF,hap]
  refine ih ((allN x).length-(i+1)) _ _ ⟨i+1,r',rfl,by omega,by simp [t0],by simp [t2],by simp [t3],by simp [t4],by simp,by simp [t25],by simp [t26],?_,?_,by rw [htk,List.map_append,List.map_cons,List.map_nil,← hT];exact oT3,fun j hj=>?_⟩ (by omega)
  ·simp [t27];rw [w64 (by omega) (by omega)]
  ·exact (ch.trans (Chg.app _)).trans' c3 (fun j hj=>(nT j hj).imp (fun h=>by simp [h]) _root_.id)
  ·rcases n3 j hj with h1|h1
   ·exact nT j h1
   ·simp at h1;omega
 ·have hil:i=(allN x).length:=by omega
  subst hil
  rw [List.take_length] at oT
  clear ih
  have cK0:Chg H H' []:=c0G.trans' ch (fun j hj=>.inr (by simp at hj;omega))
  have oG2:=oG1.chg ch (fun j hj hh=>by have:=ltG j hj;simp at hh;omega)
  have oE2:=oE1.chg ch (fun j hj hh=>by have:=ltE j hj;simp at hh;omega)
  have oM2:=oM0.chg ch (by simp)
  have hgl2:=oG2.rd.len (P:=Tryz.prog) (ty:=94) (by simp)
  have ltT:∀j∈ids r,j<H'.length:=oT.lt
  have nT':∀j∈ids r,H2.length<j:=fun j hj=>by rcases nT j hj with h|h<;>omega
  have hr0:=Qa hr cK0 (by simp)
  have ns0:NS H' H' [H2.length] v x _ _ _:=NS.start [H2.length] (Dt.chg (T:=dNet) o cK0 (by simp)) nd
  have lK0:H2.length+2≤H'.length:=by have:=ch.1;omega
  simp [t0,t2,t3,t4,t5,t25,t26,t27,hgl2]
  -- the pops
  clear ch oT0 oG1 oE1 oM0 hgl c2G
  refine Qm (fun n t K=>∃(i:Nat) (mv:Value) (h5:List Value),n=(allN x).length-i∧i≤(allN x).length∧t 0=.pointer (some ⟨id,0,some 0⟩)∧t 2=gl∧t 3=el∧t 4=mv∧t 5=r∧t 44=gl∧t 45=.int .i64 (allN x).length∧t 46=.int .i64 i∧
   NS H' K [H2.length] v (nPop x i) h5 v.2.2.2.2.2.1.2 v.2.2.2.2.2.2.1.2∧Ow flF 102 K mv (((allN x).take i).map fun g=>headOf x (frm g))∧(∀j∈ids mv,(j=H2.length∨H'.length≤j)∧j∉dNet.ids (vw v h5 v.2.2.2.2.2.1.2 v.2.2.2.2.2.2.1.2))) ?_ (n:=(allN x).length)
   ⟨0,.slice (some ⟨H2.length,0,some 0⟩) 0 0,v.2.2.1.2,rfl,by omega,by simp [t0],by simp [t2],by simp [t3],by simp [t4],by simp [t5],by simp,by simp,by simp,ns0,oM2,fun j hj=>⟨.inl (by simpa using hj),fun hh=>by have:=hlt j hh;simp at hj;omega⟩⟩
  clear t0 t2 t3 t4 t5 t25 t26 t27
  rintro n t K ⟨i,mv,h5,rfl,hi,t0,t2,t3,t4,t5,t44,t45,t46,ns,oM,nM⟩ ih
  simp [t0,t2,t3,t4,t5,t44,t45,t46]
  refine Qf ?_ ?_<;>intro g
  ·have hi':i<(allN x).length:=by omega
   have oG3:=oG2.chg ns.chg (fun j hj hh=>by
    have h1:=ltG j hj
    have h2:=nG j hj
    rcases List.mem_append.1 hh with hh|hh
    ·simp at hh;omega
    ·have:=hlt j hh;omega)
   obtain ⟨q1,q2⟩:=Nf oG3 hi'
   obtain ⟨m1,m2,m3,m4⟩:=hat _ (List.getElem_mem hi')
   have htk:(allN x).take (i+1)=(allN x).take i++[(allN x)[i]]:=List.take_succ_eq_append_getElem hi'
   have hps:=F2 hi'
   have hpa:=B3 hi'
   generalize (allN x)[i]=gg at *
   obtain ⟨j,hj⟩:∃j,j=frm gg:=⟨_,rfl⟩
   rw [← hj] at hps hpa
   have hjl:j<(nPop x i).2.2.1.length:=by rw [Kl];have:=hx.2.1.1;unfold frm at hj;omega
   have hgd:(nPop x i).2.2.1.getD j []=(nPop x i).2.2.1[j]:=by simp [List.getD_eq_getElem?_getD,hjl]
   have hne:(nPop x i).2.2.1[j]≠[]:=by rw [← hgd,hpa,hj];exact Yn m4
   have hhd:headL (nPop x i).2.2.1[j]=headOf x (frm gg):=by rw [← hgd,hpa,hj];rfl
   have e1:=@w6 (10*(gg.1:Int)) (by omega)
   have e2:∀[Inhabited Unit],IntKind.i64.wrap (10*(gg.1:Int)+(gg.2.2:Int))=(j:Int):=by intro _;unfold frm at hj;rw [w64 (by omega) (by omega)];omega
   have hrK:=Qa hr0 ns.chg (fun hh=>by
    rcases List.mem_append.1 hh with hh|hh
    ·simp at hh;omega
    ·exact hid hh)
   unfold netCells at hrK
   simp only [List.cons_append,List.nil_append] at hrK
   obtain ⟨A,hA⟩:∃A,A=K++[⟨[.int .i64 (gg.1:Int),.int .i64 (gg.2.1:Int),.int .i64 (gg.2.2:Int)],0,98⟩]:=⟨_,rfl⟩
   have cA:Chg K A []:=by rw [hA];exact Chg.app _
   have lA:A.length=K.length+1:=by rw [hA];simp
   have bx:A[K.length]? = some ⟨[.int .i64 (gg.1:Int),.int .i64 (gg.2.1:Int),.int .i64 (gg.2.2:Int)],0,98⟩:=by rw [hA];simp
   have nsA:=ns.other cA (by simp) (by simp)
   have oMA:=oM.chg cA (by simp)
   have hrA:=Qa hrK cA (by simp)
   obtain ⟨a,a1,a2,a3,oa,qa1,qa2,lvA⟩:=Xv (u:=(v.2.2.1.1,h5)) nsA.ow.2.2.1 hjl
   obtain ⟨z0,_,_,_,_,_,_,zw⟩:=front oa.rd hne
   rw [hhd] at zw
   have ltM:=oM.lt
   have lcK:=ns.chg.1
   obtain ⟨f,hfe⟩:∃f,f=headOf x (frm gg):=⟨_,rfl⟩
   rw [← hfe] at zw
   obtain ⟨mv',B,hap,oM',cB,nB⟩:=oMA.push (P:=Tryz.prog) (frz:=frz) (ty:=75) (a:=f) (by simp) rfl (by simp;omega) (fun k hk=>by have:=(nM k hk).1;omega)
   have nsB:=nsA.other cB (fun k hk hh=>(nM k hh).2 hk) (fun k hk=>(nM k hk).1.imp (fun h=>by simp [h]) _root_.id)
   have hfn:∀k∈dNet.ids (vw v h5 v.2.2.2.2.2.1.2 v.2.2.2.2.2.2.1.2),frz≤k:=fun k hk=>by
    rcases ns.ids k hk with g|g
    ·exact hf k g
    ·omega
   have lcB:=cB.1
   obtain ⟨z,a',K2,K3,p1,p2,p3,p4,p5,p6,lv1,lv2,lv3,qb1,qb2,c2,pt⟩:=qd (frz:=frz) (u:=(v.2.2.1.1,h5)) nsB.ow.2.2.1 (X7 (n:=vw v h5 v.2.2.2.2.2.1.2 v.2.2.2.2.2.2.1.2) nsB.nd) hjl hne (fun k hk=>hfn k (Wm (n:=vw v h5 v.2.2.2.2.2.1.2 v.2.2.2.2.2.2.1.2) k hk)) (by omega) a1
   simp only at a2 a3 lvA p1 p2 p5 p6 lv1 lv2 lv3
   obtain ⟨nsC,nC,cC⟩:=nsB.buf pt
   have hw:=Nb nsA.ow.2.2.1.1.1 (by show 0<h5.length;have:=nsA.ow.2.2.1.1.2.1;have h2:(vw v h5 v.2.2.2.2.2.1.2 v.2.2.2.2.2.2.1.2).2.2.1.2=h5:=rfl;rw [h2] at this;omega)
   have hw':∃a n c,v.2.2.1.1=.slice (some a) n c:=hw
   have vA:=Xb lvA hw' j
   have lvB:VM.live B v.2.2.1.1:=Wa nsB.ow.2.2.1.1.1
   have vB:=Xb lvB hw' j
   have v1:=Xb lv1 hw' j
   have v2:=Xb lv2 hw' j
   have aB:vload Tryz.prog B 75 (elp v.2.2.1.1 j)=some a:=by
    obtain ⟨ab,b1,b2,b3,_⟩:=Xv (u:=(v.2.2.1.1,h5)) nsB.ow.2.2.1 hjl
    rw [a1] at b1;cases b1;exact b3
   have hFK:frz≤K.length:=by omega
   have hFA:frz≤A.length:=by omega
   have hFB:frz≤B.length:=by omega
   simp only [Wb] at hap zw
   have hAs:K++[⟨[.int .i64 (gg.1:Int),.int .i64 (gg.2.1:Int),.int .i64 (gg.2.2:Int)],0,98⟩]=A:=hA.symm
   simp [t0,t2,t3,t4,t5,t44,t45,t46,q1,q2,Vs]
   rw [hAs]
   clear hA hAs
   rw [Qp (h:=by kernel_rfl)]
   have vI:VM.vnil A (.pointer (some ⟨id,0,some 0⟩))=some (.pointer (some ⟨id,0,some 0⟩)):=by simp [VM.vnil,VM.look,hrA]
   simp [-Qe,-Qq,t0,t2,t3,t4,t5,t44,t45,t46,VM.look,hrA,vI,bx,ones,e1,e2,a2,vA,a3,z0,zw,hFK,hFA,hap,hFB,vB,v1,v2,p1,p3,p4,p6,qa1,qa2,qb1,qb2]
   have ltN:∀k∈dNet.ids (vw v h5 v.2.2.2.2.2.1.2 v.2.2.2.2.2.2.1.2),k<K.length:=fun k hk=>dNet.lt ns.ow k hk
   have dMN:∀k∈ids mv',k∉dNet.ids (vw v h5 v.2.2.2.2.2.1.2 v.2.2.2.2.2.2.1.2):=fun k hk hh=>by
    rcases nB k hk with h|h
    ·exact (nM k h).2 hh
    ·have:=ltN k hh;omega
   have ltM':=oM'.lt
   refine ih ((allN x).length-(i+1)) _ _ ⟨i+1,mv',h5.set j a',rfl,by omega,by simp [t0],by simp [t2],by simp [t3],by simp,by simp [t5],by simp [t44],by simp [t45],?_,by rw [hps];exact nsC,?_,fun k hk=>⟨?_,fun hh=>?_⟩⟩ (by omega)
   ·simp [t46];rw [w64 (by omega) (by omega)]
   ·rw [htk,List.map_append,List.map_cons,List.map_nil,← hfe];exact oM'.chg cC dMN
   ·rcases nB k hk with h|h
    ·exact (nM k h).1
    ·right;omega
   ·rcases nC k hh with h|h
    ·exact dMN k hk h
    ·have:=ltM' k hk;omega
  ·have hil:i=(allN x).length:=by omega
   subst hil
   rw [List.take_length] at oM
   clear ih
   -- between the loops: the network w,y1
   have hrK:K[id]? = some ⟨netCells (vw v h5 v.2.2.2.2.2.1.2 v.2.2.2.2.2.2.1.2) (nPop x (allN x).length)++tail,0,e⟩:=Qa hr0 ns.chg (fun hh=>by
    rcases List.mem_append.1 hh with hh|hh
    ·simp at hh;omega
    ·exact hid hh)
   have hdn:∀k,H.length≤k→k<H2.length∨H2.length<k→k<H'.length→k∉[H2.length]++dNet.ids v:=fun k h1 h2 h3 hh=>by
    rcases List.mem_append.1 hh with hh|hh
    ·simp at hh;omega
    ·have:=hlt k hh;omega
   have lG1:H1.length≤H2.length:=cE.1
   have oG3:=oG2.chg ns.chg (fun k hk=>hdn k (nG k hk) (.inl (by have:=ltG k hk;omega)) (by have:=ltG k hk;omega))
   have oE3:=oE2.chg ns.chg (fun k hk=>hdn k (by have:=nE k hk;omega) (.inl (ltE k hk)) (by have:=ltE k hk;omega))
   have oT3:=oT.chg ns.chg (fun k hk=>hdn k (by have:=nT' k hk;omega) (.inr (nT' k hk)) (ltT k hk))
   have hfw:∀k∈dNet.ids (vw v h5 v.2.2.2.2.2.1.2 v.2.2.2.2.2.2.1.2),(k∈dNet.ids v∨H'.length≤k):=ns.ids
   have nM':=fun k hk=>(nM k hk).2
   have hgl3:=oG3.rd.len (P:=Tryz.prog) (ty:=94) (by simp)
   have c1K:=ns.chg
   have b5:allL 67000000 (nPop x (allN x).length).2.2.1:=Oq _ _ hb5
   have l5:(nPop x (allN x).length).2.2.1.length=x.2.2.1.length:=Kl x _
   have ns1:NS K K [] (vw v h5 v.2.2.2.2.2.1.2 v.2.2.2.2.2.2.1.2) (nPop x (allN x).length) _ _ _:=NS.start [] ns.ow ns.nd
   simp [t0,t2,t3,t4,t5,t44,t45,t46,hgl3]
   clear ns hr0 oG2 oE2 oM2 oT nM hgl2
   generalize hw:vw v h5 v.2.2.2.2.2.1.2 v.2.2.2.2.2.2.1.2=w at *
   obtain ⟨y1,hy1⟩:∃y1,y1=nPop x (allN x).length:=⟨_,rfl⟩
   rw [← hy1] at hrK b5 l5 ns1
   have ye:y1.1=x.1∧y1.2.1=x.2.1∧y1.2.2.2.1=x.2.2.2.1∧y1.2.2.2.2.1=x.2.2.2.2.1∧y1.2.2.2.2.2.1=x.2.2.2.2.2.1∧y1.2.2.2.2.2.2.1=x.2.2.2.2.2.2.1∧y1.2.2.2.2.2.2.2=x.2.2.2.2.2.2.2:=by rw [hy1];exact ⟨rfl,rfl,rfl,rfl,rfl,rfl,rfl⟩
   have lK1:H'.length≤K.length:=c1K.1
   have hidw:id∉dNet.ids w:=fun hh=>by
    rcases hfw _ hh with h|h
    ·exact hid h
    ·omega
   have hgw:∀k,H.length≤k→k<H'.length→k∉dNet.ids w:=fun k h1 h2 hh=>by
    rcases hfw k hh with h|h
    ·have:=hlt k h;omega
    ·omega
   have hff:∀k∈dNet.ids w,frz≤k:=fun k hk=>by
    rcases hfw k hk with h|h
    ·exact hf k h
    ·omega
   have onew:=Qh (v:=w) ns1.ow
   -- the pushes
   refine Qm (fun n t J=>∃(i:Nat) (g5 g9:List Value),n=(allN x).length-i∧i≤(allN x).length∧t 0=.pointer (some ⟨id,0,some 0⟩)∧t 3=el∧t 4=mv∧t 5=r∧t 78=gl∧t 79=.int .i64 (allN x).length∧t 80=.int .i64 i∧
    NS K J [] w (nPush x y1 i) g5 w.2.2.2.2.2.1.2 g9) ?_ (n:=(allN x).length)
    ⟨0,w.2.2.1.2,w.2.2.2.2.2.2.1.2,rfl,by omega,by simp [t0],by simp [t3],by simp [t4],by simp [t5],by simp,by simp,by simp,ns1⟩
   clear t0 t2 t3 t4 t5 t44 t45 t46
   rintro n t J ⟨i,g5,g9,rfl,hi,t0,t3,t4,t5,t78,t79,t80,ns⟩ ih
   simp [t0,t3,t4,t5,t78,t79,t80]
   refine Qf ?_ ?_<;>intro g
   ·have hi':i<(allN x).length:=by omega
    have oG4:=oG3.chg ns.chg (fun k hk hh=>by
     rw [List.nil_append] at hh
     exact hgw k (nG k hk) (by have:=ltG k hk;omega) hh)
    obtain ⟨q1,q2⟩:=Nf oG4 hi'
    obtain ⟨m1,m2,m3,m4⟩:=hat _ (List.getElem_mem hi')
    have hps:=Ji (y:=y1) hi'
    have lmv:i<((allN x).map fun g=>headOf x (frm g)).length:=by simpa using hi'
    have lti:i<((allN x).map (tgI x)).length:=by simpa using hi'
    have emv:((allN x).map fun g=>headOf x (frm g))[i]=headOf x (frm (allN x)[i]):=by simp
    have eti:((allN x).map (tgI x))[i]=tgI x (allN x)[i]:=by simp
    obtain ⟨J1,hJ1⟩:∃J1,J1=J++[⟨grF.f (allN x)[i],0,98⟩]:=⟨_,rfl⟩
    have cJ:Chg J J1 []:=by rw [hJ1];exact Chg.app _
    have lJ:J1.length=J.length+1:=by rw [hJ1];simp
    have bx:J1[J.length]? = some ⟨grF.f (allN x)[i],0,98⟩:=by rw [hJ1];simp
    have hJs:J++[⟨grF.f (allN x)[i],0,98⟩]=J1:=hJ1.symm
    generalize (allN x)[i]=gg at *
    simp only [Vs] at bx hJs
    have nsA:=ns.other cJ (by simp) (by simp)
    obtain ⟨c,hc⟩:∃c,c=gg.2.2%2:=⟨_,rfl⟩
    obtain ⟨q,hq⟩:∃q,q=gg.2.2/2:=⟨_,rfl⟩
    obtain ⟨f,hfe⟩:∃f,f=headOf x (frm gg):=⟨_,rfl⟩
    rw [← hfe] at emv
    have hFJ:frz≤J.length:=by have:=ns.chg.1;omega
    have rowA:∀J':Heap,Chg K J' ([]++dNet.ids w)→J'[id]? = some ⟨netCells w y1++tail,0,e⟩:=fun J' c=>Qa hrK c (by simpa using hidw)
    have mvA:∀J':Heap,Chg K J' ([]++dNet.ids w)→Ow flF 102 J' mv _:=fun J' c=>oM.chg c (fun k hk=>by simpa using nM' k hk)
    have tlA:∀J':Heap,Chg K J' ([]++dNet.ids w)→Ow Fl.int 3 J' r _:=fun J' c=>oT3.chg c (fun k hk hh=>by rw [List.nil_append] at hh;exact hgw k (by have:=nT' k hk;omega) (ltT k hk) hh)
    have e3:∀[Inhabited Unit],(gg.2.2:Int).tmod 2=(c:Int):=by intro _;rw [tmod2];omega
    have e3':∀[Inhabited Unit],(gg.2.2:Int)%2=(c:Int):=by intro _;omega
    have e4:∀[Inhabited Unit],IntKind.i64.wrap ((gg.2.2:Int)/2)=(q:Int):=by intro _;rw [w64 (by omega) (by omega)];omega
    have rA:=rowA J1 nsA.chg
    unfold netCells at rA
    simp only [List.cons_append,List.nil_append] at rA
    obtain ⟨u1,u2⟩:=Sx (tlA J1 nsA.chg).rd.isI lti
    rw [eti] at u2
    have hNx:(x.2.2.1.length:Int)=10*cnt x.1.1 x.1.2.1:=hx.2.1.1
    have l9:(nPush x y1 i).2.2.2.2.2.2.1.length=x.2.2.2.2.2.2.1.length:=by rw [← ye.2.2.2.2.2.1];exact Q1 (R3 x) _ _
    have l5':(nPush x y1 i).2.2.1.length=x.2.2.1.length:=by rw [← l5];exact Q1 (V6 x) _ _
    have h9l:gg.1<(nPush x y1 i).2.2.2.2.2.2.1.length:=by rw [l9];have:=hx.2.1.2.2.2.2;omega
    obtain ⟨a9,r1,r2,r3,r4,r5,r6,r7⟩:=Xv (u:=(w.2.2.2.2.2.2.1.1,g9)) nsA.ow.2.2.2.2.2.2.1 h9l
    simp only at r2 r3 r7
    have vI:∀J':Heap,J'[id]? = some ⟨netCells w y1++tail,0,e⟩→VM.vnil J' (.pointer (some ⟨id,0,some 0⟩))=some (.pointer (some ⟨id,0,some 0⟩)):=fun J' h=>by simp [VM.vnil,VM.look,h]
    have vI1:=vI J1 (rowA J1 nsA.chg)
    simp [t0,t3,t4,t5,t78,t79,t80,q1,q2,Vs]
    rw [hJs]
    clear hJ1 hJs
    rw [Qp (h:=by kernel_rfl)]
    have hlw:∀k∈dNet.ids (vw w g5 w.2.2.2.2.2.1.2 g9),k<J.length:=fun k hk=>dNet.lt ns.ow k hk
    have hfg:∀k∈dNet.ids (vw w g5 w.2.2.2.2.2.1.2 g9),frz≤k:=fun k hk=>by
     rcases ns.ids k hk with h|h
     ·exact hff k h
     ·omega
    have b5i:=Qu (Wj (Up x) ((allN x).take i) y1.2.2.1 67000000 b5) (show _≤67000080 by simp;omega)
    have b9i:=Qu (Wj (Pn x) ((allN x).take i) y1.2.2.2.2.2.2.1 67000000 (by rw [ye.2.2.2.2.2.1];exact hb9)) (show _≤67000080 by simp;omega)
    obtain ⟨w1,w2,w3,w4⟩:=A1 (mvA J1 nsA.chg) lmv
    rw [emv] at w2
    simp only [Wb] at w2
    have hJJ:([⟨[.int .i64 f.1,.int .i64 f.2.1,.int .i64 f.2.2.1,.bool f.2.2.2.1,.bool f.2.2.2.2],0,102⟩]:Heap)=[⟨flF.f f,0,102⟩]:=rfl
    have hFJ1:frz≤J1.length:=by omega
    have hF1:frz≤J.length+1:=by omega
    simp [t0,t3,t4,t5,t78,t79,t80,VM.look,rA,vI1,bx,onew,r2,u1,u2,hFJ]
    -- the flit is put
    refine Gf (F:=?FA1) (k:=?kA1) (Q:=?QA1) (fun t J2=>∃(g5' g9':List Value),t 0=.pointer (some ⟨id,0,some 0⟩)∧t 3=el∧t 4=mv∧t 5=r∧t 11=.int .i64 i∧t 12=.pointer (some ⟨J.length,0,some 0⟩)∧t 78=gl∧t 79=.int .i64 (allN x).length∧t 80=.int .i64 i∧
     J2[J.length]? = some ⟨[.int .i64 (gg.1:Int),.int .i64 (gg.2.1:Int),.int .i64 (gg.2.2:Int)],0,98⟩∧NS K J2 [] w (withArr (withBuf (nPush x y1 i) (pushS x (nPush x y1 i).2.2.1 gg)) (arrS x (nPush x y1 i).2.2.2.2.2.2.1 gg)) g5' w.2.2.2.2.2.1.2 g9'∧∀k∈dNet.ids (vw w g5' w.2.2.2.2.2.1.2 g9'),k≠J.length) ?main ?rest
    case main=>
     intro rest
     by_cases h4:gg.2.1=4
     ·have hT:tgI x gg=-1:=by unfold tgI;rw [if_pos h4]
      obtain ⟨a',K2,K3,hap,p5,p6,lv2,lv3,qb1,qb2,c2,pt⟩:=Um (frz:=frz) (u:=(w.2.2.2.2.2.2.1.1,g9)) nsA.ow.2.2.2.2.2.2.1 (Ot (n:=vw w g5 w.2.2.2.2.2.1.2 g9) nsA.nd) h9l (by have:=b9i _ (List.getElem_mem h9l);omega) (fun k hk=>hfg k (Yy (n:=vw w g5 w.2.2.2.2.2.1.2 g9) k hk)) r1 f
      simp only at p5 p6 lv2 lv3
      obtain ⟨nsC,nC,cC⟩:=nsA.arr pt
      have hwa:=Nb nsA.ow.2.2.2.2.2.2.1.1.1 (by show 0<g9.length;have:=nsA.ow.2.2.2.2.2.2.1.1.2.1;have h2:(vw w g5 w.2.2.2.2.2.1.2 g9).2.2.2.2.2.2.1.2=g9:=rfl;rw [h2] at this;omega)
      have v1:=Xb r7 hwa gg.1
      have v2:=Xb lv2 hwa gg.1
      have bx3:=Qa bx cC (fun hh=>by have:=hlw _ hh;omega)
      simp only [Wb] at hap
      simp [hT]
      rw [Qp (h:=by kernel_rfl)]
      simp [-Qe,-Qq,t0,t3,t4,t5,t78,t79,t80,VM.look,v1,r3,w1,w2,hap,v2,p6,r5,r6,qb1,qb2,hFJ1]
      refine rest _ _ ?_
      have e1:withArr (withBuf (nPush x y1 i) (pushS x (nPush x y1 i).2.2.1 gg)) (arrS x (nPush x y1 i).2.2.2.2.2.2.1 gg)=withArr (nPush x y1 i) (upd (nPush x y1 i).2.2.2.2.2.2.1 gg.1 (·++[f])):=by
       unfold pushS arrS;rw [if_pos h4,if_pos h4,hfe];rfl
      rw [e1]
      exact ⟨g5,g9.set gg.1 a',by simp [t0],by simp [t3],by simp [t4],by simp [t5],by simp,by simp,by simp [t78],by simp [t79],by simp [t80],bx3,nsC,fun k hk=>by rcases nC k hk with h|h;(have:=hlw k h;omega);omega⟩
     ·obtain ⟨hh,hroom⟩:=m4.2.1.resolve_left h4
      rw [← hc] at hroom
      obtain ⟨s1,s2,s3⟩:=Xn (c:=c) hh (by omega) (by omega)
      obtain ⟨z,hz⟩:∃z,z=tgt x gg.1 gg.2.1 c:=⟨_,rfl⟩
      rw [← hz] at s1 s2 s3
      have hT:tgI x gg=(z:Int):=by unfold tgI;rw [if_neg h4,← hc,hz]
      have hzl:z<(nPush x y1 i).2.2.1.length:=by rw [l5'];omega
      obtain ⟨az,d1,d2,d3,d4,d5,d6,d7⟩:=Xv (u:=(w.2.2.1.1,g5)) nsA.ow.2.2.1 hzl
      simp only at d2 d3 d7
      obtain ⟨a',K2,K3,hap,p5,p6,lv2,lv3,qb1,qb2,c2,pt⟩:=Um (frz:=frz) (u:=(w.2.2.1.1,g5)) nsA.ow.2.2.1 (X7 (n:=vw w g5 w.2.2.2.2.2.1.2 g9) nsA.nd) hzl (by have:=b5i _ (List.getElem_mem hzl);omega) (fun k hk=>hfg k (Wm (n:=vw w g5 w.2.2.2.2.2.1.2 g9) k hk)) d1 f
      simp only at p5 p6 lv2 lv3
      obtain ⟨nsC,nC,cC⟩:=nsA.buf pt
      have hwa:=Nb nsA.ow.2.2.1.1.1 (by show 0<g5.length;have:=nsA.ow.2.2.1.1.2.1;have h2:(vw w g5 w.2.2.2.2.2.1.2 g9).2.2.1.2=g5:=rfl;rw [h2] at this;omega)
      have v1:=Xb d7 hwa z
      have v2:=Xb lv2 hwa z
      have bx3:=Qa bx cC (fun hh=>by have:=hlw _ hh;omega)
      rw [hT] at u2
      simp only [Wb] at hap
      simp [hT]
      rw [Qp (h:=by kernel_rfl)]
      simp [t0,t3,t4,t5,t78,t79,t80,VM.look,rA,vI1,onew,u1,u2,d2]
      rw [Qp (h:=by kernel_rfl)]
      simp [-Qe,-Qq,t0,t3,t4,t5,t78,t79,t80,VM.look,v1,d3,w1,w2,hap,v2,p6,d5,d6,qb1,qb2,hFJ1]
      refine rest _ _ ?_
      have e1:withArr (withBuf (nPush x y1 i) (pushS x (nPush x y1 i).2.2.1 gg)) (arrS x (nPush x y1 i).2.2.2.2.2.2.1 gg)=withBuf (nPush x y1 i) (upd (nPush x y1 i).2.2.1 z (·++[f])):=by
       unfold pushS arrS;rw [if_neg h4,if_neg h4,hfe,hz,hc];rfl
      rw [e1]
      exact ⟨g5.set z a',g9,by simp [t0],by simp [t3],by simp [t4],by simp [t5],by simp,by simp,by simp [t78],by simp [t79],by simp [t80],bx3,nsC,fun k hk=>by rcases nC k hk with h|h;(have:=hlw k h;omega);omega⟩
    case rest=>
     rintro t J2 ⟨g5',g9',t0,t3,t4,t5,t11,t12,t78,t79,t80,bx2,ns2,hlw2⟩
     obtain ⟨s2,hs2⟩:∃s2,s2=withArr (withBuf (nPush x y1 i) (pushS x (nPush x y1 i).2.2.1 gg)) (arrS x (nPush x y1 i).2.2.2.2.2.2.1 gg):=⟨_,rfl⟩
     rw [← hs2] at hps ns2
     have own2:s2.2.2.2.1=(nPush x y1 i).2.2.2.1:=by rw [hs2];rfl
     have turn2:s2.2.2.2.2.1=(nPush x y1 i).2.2.2.2.1:=by rw [hs2];rfl
     have lown:s2.2.2.2.1.length=x.2.2.2.1.length:=by rw [own2,← ye.2.2.1];exact Q1 (Rt x) _ _
     have lturn:s2.2.2.2.2.1.length=x.2.2.2.2.1.length:=by rw [turn2,← ye.2.2.2.1];exact Q1 Tn _ _
     clear hs2
     have rA2:=rowA J2 ns2.chg
     have vI2:=vI J2 rA2
     unfold netCells at rA2
     simp only [List.cons_append,List.nil_append] at rA2
     obtain ⟨z,hz⟩:∃z,z=outAt gg.1 gg.2.1 c:=⟨_,rfl⟩
     have hzl:z<s2.2.2.2.1.length:=by rw [lown,hz];have:=hx.2.1.2.1;unfold outAt;omega
     have bA:=fun F=>U7 (frz:=F) (H:=J2) (n:=gg.1) (p:=gg.2.1) (c:=c) (by omega) m2 (by omega)
     rw [← hz] at bA
     obtain ⟨o1,_⟩:=Sx (Rd.isI ns2.ow.2.2.2.1.1.rd) hzl
     have o1':vindexAddr Tryz.prog J2 26 w.2.2.2.1 (.int .i64 (z:Int))=some (elp w.2.2.2.1 z):=o1
     have hfg2:∀k∈dNet.ids (vw w g5' w.2.2.2.2.2.1.2 g9'),frz≤k:=fun k hk=>by
      rcases ns2.ids k hk with h|h
      ·exact hff k h
      ·have:=ns2.chg.1;omega
     obtain ⟨J3,st3,ns3,c3⟩:=ns2.own (frz:=frz) hfg2 hzl (q:Int)
     have vo:=Cd ns2.ow.2.2.2.1.1 (by omega) z
     have vo':VM.vnil J2 (elp w.2.2.2.1 z)=some (elp w.2.2.2.1 z):=vo
     rw [Qp (h:=by kernel_rfl)]
     have hnot:J.length∉dNet.ids (vw w g5' w.2.2.2.2.2.1.2 g9'):=fun hh=>hlw2 _ hh rfl
     have bx3:=Qa bx2 c3 hnot
     obtain ⟨y1',y2',y3',y4'⟩:=A1 (mvA J3 ns3.chg) lmv
     rw [emv] at y4'
     have vo3:VM.vnil J3 (elp w.2.2.2.1 z)=some (elp w.2.2.2.1 z):=Cd (v:=w.2.2.2.1) ns3.ow.2.2.2.1.1 (by show 0<(s2.2.2.2.1.set z (q:Int)).length;simp;omega) z
     simp [-vfieldAddr,Qs,t0,t3,t4,t5,t11,t12,t78,t79,t80,VM.look,rA2,vI2,bx2,onew,e3,e3',bA,o1',e4,vo',st3,y1',y3',y4']
     have hos:ownS x s2.2.2.2.1 gg=s2.2.2.2.1.set z (if f.2.2.2.2 then -1 else (q:Int)):=by unfold ownS;rw [← hfe,hz,hc,hq]
     -- the owner
     refine Gf (F:=?FA2) (k:=?kA2) (Q:=?QA2) (fun t J4=>t 0=.pointer (some ⟨id,0,some 0⟩)∧t 3=el∧t 4=mv∧t 5=r∧t 12=.pointer (some ⟨J.length,0,some 0⟩)∧t 78=gl∧t 79=.int .i64 (allN x).length∧t 80=.int .i64 i∧
      J4[J.length]? = some ⟨[.int .i64 (gg.1:Int),.int .i64 (gg.2.1:Int),.int .i64 (gg.2.2:Int)],0,98⟩∧NS K J4 [] w (withOwn s2 (ownS x s2.2.2.2.1 gg)) g5' w.2.2.2.2.2.1.2 g9') ?main2 ?rest2
     case main2=>
      intro rest
      cases ht:f.2.2.2.2 with
      | false=>
       rw [ht,if_neg (by simp)] at hos
       simp
       refine rest _ _ ?_
       rw [hos]
       exact ⟨by simp [t0],by simp [t3],by simp [t4],by simp [t5],by simp [t12],by simp [t78],by simp [t79],by simp [t80],bx3,ns3⟩
      | true=>
       rw [ht,if_pos rfl] at hos
       obtain ⟨J4,st4,ns4,c4⟩:=ns3.own (frz:=frz) hfg2 (j:=z) (by show z<(s2.2.2.2.1.set z (q:Int)).length;simp;omega) (-1)
       have e1:withOwn (withOwn s2 (s2.2.2.2.1.set z (q:Int))) ((withOwn s2 (s2.2.2.2.1.set z (q:Int))).2.2.2.1.set z (-1))=withOwn s2 (s2.2.2.2.1.set z (-1)):=by
        show withOwn s2 ((s2.2.2.2.1.set z (q:Int)).set z (-1))=_
        rw [List.set_set]
       rw [e1] at ns4
       simp [t0,t3,t4,t5,t11,t12,t78,t79,t80,vo3,st4]
       refine rest _ _ ?_
       rw [hos]
       exact ⟨by simp [t0],by simp [t3],by simp [t4],by simp [t5],by simp [t12],by simp [t78],by simp [t79],by simp [t80],Qa bx3 c4 hnot,ns4⟩
     case rest2=>
      rintro t J4 ⟨t0,t3,t4,t5,t12,t78,t79,t80,bx4,ns4⟩
      have rA4:=rowA J4 ns4.chg
      have vI4:=vI J4 rA4
      unfold netCells at rA4
      simp only [List.cons_append,List.nil_append] at rA4
      obtain ⟨zt,hzt⟩:∃zt,zt=5*gg.1+gg.2.1:=⟨_,rfl⟩
      obtain ⟨d,hd⟩:∃d,d=(gg.2.2+1)%10:=⟨_,rfl⟩
      have hztl:zt<s2.2.2.2.2.1.length:=by rw [lturn,hzt];have:=hx.2.1.2.2.1;omega
      obtain ⟨o4,_⟩:=Sx (Rd.isI ns4.ow.2.2.2.2.1.1.rd) hztl
      have o4':vindexAddr Tryz.prog J4 26 w.2.2.2.2.1 (.int .i64 (zt:Int))=some (elp w.2.2.2.2.1 zt):=o4
      obtain ⟨J5,st5,ns5,c5⟩:=ns4.turn (frz:=frz) hfg2 (j:=zt) hztl (d:Int)
      have k1:=@w6 (5*(gg.1:Int)) (by omega)
      have k2:∀[Inhabited Unit],IntKind.i64.wrap (5*(gg.1:Int)+(gg.2.1:Int))=(zt:Int):=by intro _;rw [w64 (by omega) (by omega)];omega
      have k3:=@w6 ((gg.2.2:Int)+1) (by omega)
      have k4:∀[Inhabited Unit],((gg.2.2:Int)+1).tmod 10=(d:Int):=by intro _;rw [Int.tmod_eq_emod_of_nonneg (by omega)];omega
      have k4':∀[Inhabited Unit],((gg.2.2:Int)+1)%10=(d:Int):=by intro _;omega
      have hts:turnS s2.2.2.2.2.1 gg=s2.2.2.2.2.1.set zt (d:Int):=by unfold turnS;rw [hzt,hd]
      rw [← own2,← turn2,hts] at hps
      rw [Qp (h:=by kernel_rfl)]
      simp [t0,t3,t4,t5,t12,t78,t79,t80,VM.look,rA4,vI4,bx4,onew,k1,k2,k3,k4,k4',o4',st5]
      refine ih ((allN x).length-(i+1)) _ _ ⟨i+1,g5',g9',rfl,by omega,by simp [t0],by simp [t3],by simp [t4],by simp [t5],by simp [t78],by simp [t79],?_,by rw [hps];exact ns5⟩ (by omega)
      simp [t80];rw [w64 (by omega) (by omega)]
   ·have hil:i=(allN x).length:=by omega
    subst hil
    clear ih
    have oE4:=oE3.chg ns.chg (fun k hk hh=>by
     rw [List.nil_append] at hh
     exact hgw k (by have:=nE k hk;omega) (by have:=ltE k hk;omega) hh)
    have hel:=oE4.rd.len (P:=Tryz.prog) (ty:=26) (by simp)
    rw [List.length_map] at hel
    obtain ⟨y3,hy3⟩:∃y3,y3=nPush x y1 (allN x).length:=⟨_,rfl⟩
    rw [← hy3] at ns
    have ye3:y3.1=x.1∧y3.2.1=x.2.1∧y3.2.2.2.2.2.1=x.2.2.2.2.2.1∧y3.2.2.2.2.2.2.2=x.2.2.2.2.2.2.2:=by rw [hy3];exact ⟨ye.1,ye.2.1,ye.2.2.2.2.1,ye.2.2.2.2.2.2⟩
    have l53:y3.2.2.1.length=x.2.2.1.length:=by rw [hy3,← l5];exact Q1 (V6 x) _ _
    have b53:allL 67000080 y3.2.2.1:=by
     rw [hy3]
     refine Qu (Wj (Up x) ((allN x).take (allN x).length) y1.2.2.1 67000000 b5) ?_
     simp;omega
    have hE:=U0 x
    have hEat:=fun k (hk:k∈enterN x)=>Wu hk
    have hEnd:=Y6 x
    simp [t0,t3,t4,t5,t78,t79,t80,hel]
    -- what enters
    refine Qm (fun n t J=>∃(i:Nat) (g5 g8:List Value),n=(enterN x).length-i∧i≤(enterN x).length∧t 0=.pointer (some ⟨id,0,some 0⟩)∧t 158=el∧t 159=.int .i64 (enterN x).length∧t 160=.int .i64 i∧
     NS K J [] w (nEnt x y3 i) g5 g8 g9) ?_ (n:=(enterN x).length)
     ⟨0,g5,w.2.2.2.2.2.1.2,rfl,by omega,by simp [t0],by simp,by simp,by simp,ns⟩
    clear t0 t3 t4 t5 t78 t79 t80 oE4 hel ns
    rintro n t J ⟨i,g5,g8,rfl,hi,t0,t158,t159,t160,ns⟩ ih
    simp [t0,t158,t159,t160]
    refine Qf ?_ ?_<;>intro g
    ·have hi':i<(enterN x).length:=by omega
     have oE4:=oE3.chg ns.chg (fun k hk hh=>by
      rw [List.nil_append] at hh
      exact hgw k (by have:=nE k hk;omega) (by have:=ltE k hk;omega) hh)
     obtain ⟨u1,u2⟩:=Sx oE4.rd.isI (i:=i) (by simpa using hi')
     have eel:((enterN x).map Int.ofNat)[i]'(by simpa using hi')=((enterN x)[i]:Int):=by simp
     rw [eel] at u2
     obtain ⟨m1,m2⟩:=hEat _ (List.getElem_mem hi')
     have hps:=O9 (y:=y3) hi'
     have hsat:(nEnt x y3 i).2.2.2.2.2.1.getD (enterN x)[i] []=x.2.2.2.2.2.1.getD (enterN x)[i] []:=by
      rw [← ye3.2.2.1]
      have hnt:=Vk (f:=fun k:Nat=>k) (by simpa using hEnd) hi'
      exact Nn _ _ _ (by simpa using hnt)
     generalize (enterN x)[i]=k at *
     have hks:k<(nEnt x y3 i).2.2.2.2.2.1.length:=by
      have:(nEnt x y3 i).2.2.2.2.2.1.length=y3.2.2.2.2.2.1.length:=Q1 St _ _
      rw [this,ye3.2.2.1];have:=hx.2.1.2.2.2.1;omega
     have hgd:(nEnt x y3 i).2.2.2.2.2.1.getD k []=(nEnt x y3 i).2.2.2.2.2.1[k]:=by simp [List.getD_eq_getElem?_getD,hks]
     have hne:(nEnt x y3 i).2.2.2.2.2.1[k]≠[]:=by rw [← hgd,hsat];exact m2.1
     have hhd:headL (nEnt x y3 i).2.2.2.2.2.1[k]=srcHead x k:=by rw [← hgd,hsat];rfl
     obtain ⟨en1,en2,en3⟩:=Zx hx m2.1
     have hcl:=en1.2
     obtain ⟨f,hfe⟩:∃f,f=srcHead x k:=⟨_,rfl⟩
     obtain ⟨z,hz⟩:∃z,z=entAt x k:=⟨_,rfl⟩
     rw [← hfe,← hz] at en2
     rw [← hfe] at hhd hcl
     have hzl:z<(nEnt x y3 i).2.2.1.length:=by
      have:(nEnt x y3 i).2.2.1.length=y3.2.2.1.length:=Q1 (Ru x) _ _
      rw [this,l53];have:=hx.2.1.1;unfold inR at hcl;omega
     have b5i:=Qu (Wj (Ro x) ((enterN x).take i) y3.2.2.1 67000080 b53) (show _≤67000096 by simp;omega)
     have rA:∀J':Heap,Chg K J' ([]++dNet.ids w)→J'[id]? = some ⟨netCells w y1++tail,0,e⟩:=fun J' c=>Qa hrK c (by simpa using hidw)
     have vI:∀J':Heap,J'[id]? = some ⟨netCells w y1++tail,0,e⟩→VM.vnil J' (.pointer (some ⟨id,0,some 0⟩))=some (.pointer (some ⟨id,0,some 0⟩)):=fun J' h=>by simp [VM.vnil,VM.look,h]
     obtain ⟨J1,hJ1⟩:∃J1,J1=J++[⟨flF.f f,0,102⟩]:=⟨_,rfl⟩
     have cJ:Chg J J1 []:=by rw [hJ1];exact Chg.app _
     have lJ:J1.length=J.length+1:=by rw [hJ1];simp
     have bx:J1[J.length]? = some ⟨flF.f f,0,102⟩:=by rw [hJ1];simp
     have hJs:J++[⟨flF.f f,0,102⟩]=J1:=hJ1.symm
     simp only [Wb] at bx hJs
     have nsA:=ns.other cJ (by simp) (by simp)
     have hlw:∀l∈dNet.ids (vw w g5 g8 g9),l<J.length:=fun l hl=>dNet.lt ns.ow l hl
     have hFJ:frz≤J.length:=by have:=ns.chg.1;omega
     have hfg:∀l∈dNet.ids (vw w g5 g8 g9),frz≤l:=fun l hl=>by
      rcases ns.ids l hl with h|h
      ·exact hff l h
      ·omega
     obtain ⟨a8,r1,r2,r3,r4,r5,r6,r7⟩:=Xv (u:=(w.2.2.2.2.2.1.1,g8)) ns.ow.2.2.2.2.2.1 hks
     simp only at r2 r3 r7
     obtain ⟨z0,_,_,_,_,_,_,zw⟩:=front r4.rd hne
     rw [hhd] at zw
     simp only [Wb] at zw
     obtain ⟨az,d1,d2,d3,d4,d5,d6,d7⟩:=Xv (u:=(w.2.2.1.1,g5)) nsA.ow.2.2.1 hzl
     simp only at d2 d3 d7
     obtain ⟨a',K2,K3,hap,p5,p6,lv2,lv3,qb1,qb2,c2,pt⟩:=Um (frz:=frz) (u:=(w.2.2.1.1,g5)) nsA.ow.2.2.1 (X7 (n:=vw w g5 g8 g9) nsA.nd) hzl (by have:=b5i _ (List.getElem_mem hzl);omega) (fun l hl=>hfg l (Wm (n:=vw w g5 g8 g9) l hl)) d1 f
     simp only at p5 p6 lv2 lv3
     obtain ⟨nsB,nB,cB⟩:=nsA.buf pt
     simp only [Wb] at hap
     have hfg2:∀l∈dNet.ids (vw w (g5.set z a') g8 g9),frz≤l:=fun l hl=>by
      rcases nB l hl with h|h
      ·exact hfg l h
      ·omega
     have hFK3:frz≤K3.length:=by have:=cB.1;omega
     obtain ⟨a8',s1,s2,s3,s4,s5,s6,s7⟩:=Xv (u:=(w.2.2.2.2.2.1.1,g8)) nsB.ow.2.2.2.2.2.1 hks
     have ea8:a8'=a8:=by rw [r1] at s1;exact (Option.some.inj s1).symm
     subst ea8
     simp only at s2 s3 s7
     obtain ⟨zz,b',M2,M3,t3',t4',t5',t6',mv2,mv3,qc1,qc2,cc2,pt2⟩:=N5 (frz:=frz) (u:=(w.2.2.2.2.2.1.1,g8)) nsB.ow.2.2.2.2.2.1 (V8 (n:=vw w (g5.set z a') g8 g9) nsB.nd) hks hne (fun l hl=>hfg2 l (Ya (n:=vw w (g5.set z a') g8 g9) l hl)) s1
     simp only at t5' t6' mv2 mv3
     obtain ⟨nsC,nC,cC⟩:=nsB.src pt2
     have rJ:=rA J ns.chg
     have rJ1:=rA J1 nsA.chg
     have rK3:=rA K3 nsB.chg
     have vJ:=vI J rJ
     have vJ1:=vI J1 rJ1
     have vK3:=vI K3 rK3
     have hidg:id∉dNet.ids (vw w g5 g8 g9):=fun hh=>by
      rcases ns.ids _ hh with h|h
      ·exact hidw h
      ·have:=Q0 hrK;omega
     have rK2:K2[id]? = some ⟨netCells w y1++tail,0,e⟩:=Qa rJ1 c2 (fun hh=>hidg (Wm (n:=vw w g5 g8 g9) id (W9 d1 hh)))
     have rM2:M2[id]? = some ⟨netCells w y1++tail,0,e⟩:=Qa rK3 cc2 (by simp)
     have rM3:=rA M3 nsC.chg
     have rJL:=fun L=>Qo rJ1 L
     have lvL:∀L:Heap,VM.live (J1++L) w.2.2.1.1:=fun L=>Wa (v:=w.2.2.1.1) (Ow.app (L:=L) nsA.ow.2.2.1.1.1)
     have rM:∀L:Heap,(K3++L)[id]? = some ⟨netCells w y1++tail,0,e⟩:=fun L=>Qo rK3 L
     have vM:=fun L=>vI (K3++L) (rM L)
     unfold netCells at rJ rJ1 rK3 rM rK2 rM2 rM3 rJL
     simp only [List.cons_append,List.nil_append] at rJ rJ1 rK3 rM rK2 rM2 rM3 rJL
     have bA:∀F,vcall C F 61 [.int .i64 (k:Int),.int .i64 4,.int .i64 f.2.2.1] J1=some (.int .i64 (z:Int),J1):=fun F=>by
      rw [Zh,if_pos ⟨⟨by omega,by omega⟩,⟨by omega,by omega⟩,hcl⟩,en2];congr 3
     simp [t0,t158,t159,t160,u1,u2,VM.look,rJ,vJ,onew,r2,r3,r5,r6,z0,zw]
     rw [hJs]
     clear hJ1 hJs
     simp [t0,t158,t159,t160,VM.look,bx,bA]
     rw [Xo (fl:=([3],[16])) (h:=⟨by kernel_rfl,by kernel_rfl,by kernel_rfl,by kernel_rfl⟩)]
     simp [emps,empOp,empB,-Qe,-Qq,t0,t158,t159,t160,VM.look,rJ1,vJ1,onew,d2,d3,d5,d6,bx,hap,p5,p6,d7,lv2,lv3,qb1,qb2,hFJ,rJL,lvL,rK2,rK3]
     rw [Yg (h:=⟨by kernel_rfl,by kernel_rfl⟩)]
     simp [emps,empOp,empB,-Qe,-Qq,t0,t158,t159,t160,VM.look,rK3,vK3,onew,s2,s3,s5,s6,s7,rM,vM,t3',t4',t5',t6',rM2,rM3,mv2,mv3,qc1,qc2,hFK3]
     refine ih ((enterN x).length-(i+1)) _ _ ⟨i+1,g5.set z a',g8.set k b',rfl,by omega,by simp [t0],by simp [t158],by simp [t159],?_,?_⟩ (by omega)
     ·simp [t160];rw [w64 (by omega) (by omega)]
     ·rw [hps]
      have e1:entS x (nEnt x y3 i).2.2.1 k=upd (nEnt x y3 i).2.2.1 z (·++[f]):=by unfold entS;rw [← hz,← hfe]
      rw [e1]
      exact nsC
    ·have hil:i=(enterN x).length:=by omega
     subst hil
     clear ih
     have ec:netCells w y1=netCells w x:=by unfold netCells;rw [ye.1,ye.2.2.2.2.2.2]
     have rJ:J[id]? = some ⟨netCells w x++tail,0,e⟩:=by rw [← ec];exact Qa hrK ns.chg (by simpa using hidw)
     have hse:stepN x=older (nEnt x y3 (enterN x).length) 1:=by rw [Ad,← hy1,← hy3]
     have lJ:=ns.chg.1
     unfold netCells at rJ
     simp only [List.cons_append,List.nil_append] at rJ
     have vJ:VM.vnil J (.pointer (some ⟨id,0,some 0⟩))=some (.pointer (some ⟨id,0,some 0⟩)):=by simp [VM.vnil,VM.look,rJ]
     have et:∀[Inhabited Unit],IntKind.i64.wrap (x.2.2.2.2.2.2.2+1)=x.2.2.2.2.2.2.2+1:=by intro _;unfold inR at ht;exact w64 (by omega) (by omega)
     simp [t0,t158,t159,t160,VM.look,rJ,vJ,et,hfi]
     have hidg:id∉dNet.ids (vw w g5 g8 g9):=fun hh=>by
      rcases ns.ids _ hh with h|h
      ·exact hidw h
      ·have:=Q0 hrK;omega
     refine ⟨vw w g5 g8 g9,Qi rJ,?_,ns.nd,fun k hk=>?_,?_⟩
     ·rw [hse]
      exact Dt.chg (T:=dNet) ns.ow (Ql _ _) (fun k hk hh=>by simp at hh;exact hidg (hh▸hk))
     ·rcases ns.ids k hk with h|h
      ·rcases hfw k h with h|h
       ·exact .inl h
       ·exact .inr (by omega)
      ·exact .inr (by omega)
     ·have c1:Chg H K (id::dNet.ids v):=(cK0.mono (fun _ h=>by cases h)).trans' c1K (fun k hk=>by
       rcases List.mem_append.1 hk with h|h
       ·simp at h;exact .inr (by omega)
       ·exact .inl (List.mem_cons_of_mem _ h))
      refine (c1.trans' ns.chg (fun k hk=>?_)).trans (Chg.mono (Ql _ _) (fun k hk=>by simp at hk;rw [hk];exact List.mem_cons_self ..))
      rw [List.nil_append] at hk
      rcases hfw k hk with h|h
      ·exact .inl (List.mem_cons_of_mem _ h)
      ·exact .inr (by omega)
noncomputable def nBoth (x:NetD) (i:Nat):NetD:=
 (x.1,x.2.1,((allN x).take i).foldl (bothS x) x.2.2.1,((allN x).take i).foldl (ownS x) x.2.2.2.1,((allN x).take i).foldl turnS x.2.2.2.2.1,x.2.2.2.2.2.1,((allN x).take i).foldl (arrS x) x.2.2.2.2.2.2.1,x.2.2.2.2.2.2.2)
theorem Jg {x:NetD} {i:Nat} (h:i<(allN x).length):nBoth x (i+1)=withTurn (withOwn (withArr (withBuf (nBoth x i) (pushS x (upd (nBoth x i).2.2.1 (frm (allN x)[i]) (List.drop 1)) (allN x)[i])) (arrS x (nBoth x i).2.2.2.2.2.2.1 (allN x)[i])) (ownS x (nBoth x i).2.2.2.1 (allN x)[i])) (turnS (nBoth x i).2.2.2.2.1 (allN x)[i]):=by
 unfold nBoth;simp only [W3 _ _ h];rfl
theorem Og (x:NetD) (s:SSD) (g:GrD):(bothS x s g).length=s.length:=by unfold bothS;simp
theorem D3 {x:NetD} {i:Nat} (h:i<(allN x).length):(nBoth x i).2.2.1.getD (frm (allN x)[i]) []≠[]:=
 Gq x _ _ _ (Vk (Xz x) h) (Yn (W4 (List.getElem_mem h)).2.2.2)
theorem E8 (x:NetD):stepN x=older (nEnt x (nBoth x (allN x).length) (enterN x).length) 1:=by
 have e:=Sq x (allN x) x.2.2.1 (Xz x) (fun g hg=>Yn (W4 hg).2.2.2)
 unfold nEnt nBoth older
 simp only [List.take_length]
 rw [e]
 rfl
theorem Ec {v:NetV} {x:NetD} (o:dNet.Ow H v x) (hx:runOk x) (hb5:allL 67000000 x.2.2.1) (hb9:allL 67000000 x.2.2.2.2.2.2.1) (ht:inR 0 x.2.2.2.2.2.2.2 1000000) :
 wp (vcall C frz 104 [dNet.val v x] H) (dNet.Made H (stepN x)):=by
 have ones:=Qh o
 have cr:=Qg x.1.1 x.1.2.1
 have hlt:=dNet.lt o
 have ecopy:=fun L=>Y1 (frz:=H.length) (H:=H++L) (v:=v) (x:=x) (Dt.app (T:=dNet) o)
 simp only [Qc] at ecopy ⊢
 rw [Qb (fn:=Tryz.f104) Tryz.func104 rfl (by kernel_rfl) rfl]
 simp [ones]
 refine Qd (ecopy _) ?_
 rintro _ K ⟨n,rfl,on,cn,mn,dn⟩
 simp at mn
 have qn:=Qh on
 have lK:=cn.1
 simp at lK
 have hF:H.length≤K.length:=by omega
 simp [Qc,qn,VM.look,hF]
 obtain ⟨K1,hK1⟩:∃K1,K1=K++[⟨netCells n x,0,35⟩]:=⟨_,rfl⟩
 have c1:Chg K K1 []:=by rw [hK1];exact Chg.app _
 have l1:K1.length=K.length+1:=by rw [hK1];simp
 have cK:Chg H K []:=(Chg.app _).trans cn
 have cK1:=cK.trans c1
 have b1:K1[H.length]? = some ⟨netCells v x,0,35⟩:=Qa (Qa (by simp [netCells]) cn (by simp)) c1 (by simp)
 have bR:K1[H.length+1]? = some ⟨[.int .i64 0,.int .i64 0,.slice none 0 0,.slice none 0 0,.slice none 0 0,.slice none 0 0,.slice none 0 0,.slice none 0 0,.slice none 0 0,.slice none 0 0,.int .i64 0],0,35⟩:=Qa (Qa (by simp) cn (by simp)) c1 (by simp)
 have b3:K1[K.length]? = some ⟨netCells n x,0,35⟩:=by rw [hK1];simp
 have hKs:K++[⟨netCells n x,0,35⟩]=K1:=hK1.symm
 have o1:=Dt.chg (T:=dNet) o cK1 (by simp)
 have on1:=Dt.chg (T:=dNet) on c1 (by simp)
 have ltn:∀i∈dNet.ids n,i<K.length:=fun i hi=>dNet.lt on i hi
 have b1':=b1
 unfold netCells at hKs b1'
 rw [hKs]
 clear hK1 hKs
 have eal:=Dw (frz:=H.length) o1 hx
 simp only [Qc] at eal
 simp [VM.look,b1',ones]
 refine Qd eal ?_
 rintro gl K2 ⟨oG,nG,cG⟩
 have l2:=cG.1
 have b1:=Qa b1 cG (by simp)
 have bR:=Qa bR cG (by simp)
 have b3:=Qa b3 cG (by simp)
 have o2:=Dt.chg (T:=dNet) o1 cG (by simp)
 have on2:=Dt.chg (T:=dNet) on1 cG (by simp)
 have cK2:=cK1.trans cG
 have hidn:K.length∉dNet.ids n:=fun hh=>by have:=ltn _ hh;omega
 have ns0:NS K2 K2 [] n x _ _ _:=NS.start [] on2 dn
 have hL:=Rw x
 have hat:=fun g (hg:g∈allN x)=>W4 hg
 have ltG:=oG.lt
 have hmn:∀k∈dNet.ids n,H.length+2≤k:=mn
 have rowO:∀J:Heap,Chg K2 J ([]++dNet.ids n)→J[H.length]? = some ⟨netCells v x,0,35⟩:=fun J c=>Qa b1 c (fun hh=>by have:=hmn _ (by simpa using hh);omega)
 have rowR:=fun (J:Heap) (c:Chg K2 J ([]++dNet.ids n))=>Qa bR c (fun hh=>by have:=hmn _ (by simpa using hh);omega)
 have rowN:∀J:Heap,Chg K2 J ([]++dNet.ids n)→J[K.length]? = some ⟨netCells n x,0,35⟩:=fun J c=>Qa b3 c (by simpa using hidn)
 have cHJ:∀J:Heap,Chg K2 J ([]++dNet.ids n)→Chg H J []:=fun J c=>cK2.trans' c (fun k hk=>.inr (by have:=hmn k (by simpa using hk);omega))
 have glJ:∀J:Heap,Chg K2 J ([]++dNet.ids n)→Ow grF 98 J gl (allN x):=fun J c=>oG.chg c (fun k hk hh=>by have:=nG k hk;have:=ltn k (by simpa using hh);omega)
 have hNx:(x.2.2.1.length:Int)=10*cnt x.1.1 x.1.2.1:=hx.2.1.1
 simp
 -- the grants
 refine Qm (fun m t J=>∃(i:Nat) (g5 g9:List Value),m=(allN x).length-i∧i≤(allN x).length∧t 1=.pointer (some ⟨H.length,0,some 0⟩)∧t 2=.pointer (some ⟨H.length+1,0,some 0⟩)∧t 3=.pointer (some ⟨K.length,0,some 0⟩)∧t 4=gl∧t 5=.int .i64 i∧
  NS K2 J [] n (nBoth x i) g5 n.2.2.2.2.2.1.2 g9) ?_ (n:=(allN x).length)
  ⟨0,n.2.2.1.2,n.2.2.2.2.2.2.1.2,rfl,by omega,by simp,by simp,by simp,by simp,by simp,ns0⟩
 rintro m t J ⟨i,g5,g9,rfl,hi,t1,t2,t3,t4,t5,ns⟩ ih
 have hgl:=(glJ J ns.chg).rd.len (P:=Tryz.prog) (ty:=94) (by simp)
 simp [t1,t2,t3,t4,t5,hgl]
 refine Qf ?_ ?_<;>intro g
 ·have hi':i<(allN x).length:=by omega
  obtain ⟨q1,q2⟩:=Nf (glJ J ns.chg) hi'
  obtain ⟨m1,m2,m3,m4⟩:=hat _ (List.getElem_mem hi')
  have hps:=Jg hi'
  have hne0:=D3 hi'
  obtain ⟨J1,hJ1⟩:∃J1,J1=J++[⟨grF.f (allN x)[i],0,98⟩]:=⟨_,rfl⟩
  have cJ:Chg J J1 []:=by rw [hJ1];exact Chg.app _
  have lJ:J1.length=J.length+1:=by rw [hJ1];simp
  have bx1:J1[J.length]? = some ⟨grF.f (allN x)[i],0,98⟩:=by rw [hJ1];simp
  have hJs:J++[⟨grF.f (allN x)[i],0,98⟩]=J1:=hJ1.symm
  generalize (allN x)[i]=gg at *
  simp only [Vs] at bx1 hJs
  have nsA:=ns.other cJ (by simp) (by simp)
  obtain ⟨c,hc⟩:∃c,c=gg.2.2%2:=⟨_,rfl⟩
  obtain ⟨q,hq⟩:∃q,q=gg.2.2/2:=⟨_,rfl⟩
  obtain ⟨j,hj⟩:∃j,j=frm gg:=⟨_,rfl⟩
  obtain ⟨f,hfe⟩:∃f,f=headOf x (frm gg):=⟨_,rfl⟩
  have hjx:j<x.2.2.1.length:=by unfold frm at hj;omega
  have l5':(nBoth x i).2.2.1.length=x.2.2.1.length:=Q1 (Og x) _ _
  have l9':(nBoth x i).2.2.2.2.2.2.1.length=x.2.2.2.2.2.2.1.length:=Q1 (R3 x) _ _
  have hjl:j<(nBoth x i).2.2.1.length:=by omega
  rw [← hj] at hps hne0 hfe
  have hgd:(nBoth x i).2.2.1.getD j []=(nBoth x i).2.2.1[j]:=by simp [List.getD_eq_getElem?_getD,hjl]
  have hne:(nBoth x i).2.2.1[j]≠[]:=by rw [← hgd];exact hne0
  have hgx:x.2.2.1.getD j []=x.2.2.1[j]:=by simp [List.getD_eq_getElem?_getD,hjx]
  have hnx:x.2.2.1[j]≠[]:=by rw [← hgx,hj];exact Yn m4
  have hhd:headL x.2.2.1[j]=f:=by rw [← hgx,hfe];rfl
  have e1:=@w6 (10*(gg.1:Int)) (by omega)
  have e2:∀[Inhabited Unit],IntKind.i64.wrap (10*(gg.1:Int)+(gg.2.2:Int))=(j:Int):=by intro _;unfold frm at hj;rw [w64 (by omega) (by omega)];omega
  have e3:∀[Inhabited Unit],(gg.2.2:Int).tmod 2=(c:Int):=by intro _;rw [tmod2];omega
  have e3':∀[Inhabited Unit],(gg.2.2:Int)%2=(c:Int):=by intro _;omega
  have e4:∀[Inhabited Unit],IntKind.i64.wrap ((gg.2.2:Int)/2)=(q:Int):=by intro _;rw [w64 (by omega) (by omega)];omega
  have rO1:=rowO J1 nsA.chg
  unfold netCells at rO1
  obtain ⟨a0,z1,z2,z3,z4,z5,z6,z7⟩:=Xv (u:=v.2.2.1) (Dt.chg (T:=dNet) o (cHJ J1 nsA.chg) (by simp)).2.2.1 hjx
  obtain ⟨z0,_,_,_,_,_,_,zw⟩:=front z4.rd hnx
  rw [hhd] at zw
  obtain ⟨J2,hJ2⟩:∃J2,J2=J1++[⟨flF.f f,0,102⟩]:=⟨_,rfl⟩
  have cJ2:Chg J1 J2 []:=by rw [hJ2];exact Chg.app _
  have lJ2:J2.length=J1.length+1:=by rw [hJ2];simp
  have bx2:J2[J1.length]? = some ⟨flF.f f,0,102⟩:=by rw [hJ2];simp
  have hJ2s:J1++[⟨flF.f f,0,102⟩]=J2:=hJ2.symm
  simp only [Wb] at bx2 hJ2s zw
  have bx12:=Qa bx1 cJ2 (by simp)
  have nsB:=nsA.other cJ2 (by simp) (by simp)
  have hlw:∀k∈dNet.ids (vw n g5 n.2.2.2.2.2.1.2 g9),k<J.length:=fun k hk=>dNet.lt ns.ow k hk
  have hfg:∀k∈dNet.ids (vw n g5 n.2.2.2.2.2.1.2 g9),H.length≤k:=fun k hk=>by
   rcases ns.ids k hk with h|h
   ·have:=hmn k h;omega
   ·omega
  have hFJ:H.length≤J.length:=by have:=ns.chg.1;omega
  have hFJ1:H.length≤J1.length:=by omega
  have b5i:=Qu (Wj (Oh x) ((allN x).take i) x.2.2.1 67000000 hb5) (show _≤67000080 by simp;omega)
  have b9i:=Qu (Wj (Pn x) ((allN x).take i) x.2.2.2.2.2.2.1 67000000 hb9) (show _≤67000080 by simp;omega)
  -- out of the input
  obtain ⟨ab,r1,r2,r3,r4,r5,r6,r7⟩:=Xv (u:=(n.2.2.1.1,g5)) nsB.ow.2.2.1 hjl
  simp only at r2 r3 r7
  obtain ⟨z,a',M2,M3,p3,p4,p5,p6,lv2,lv3,qb1,qb2,c2,pt⟩:=N5 (frz:=H.length) (u:=(n.2.2.1.1,g5)) nsB.ow.2.2.1 (X7 (n:=vw n g5 n.2.2.2.2.2.1.2 g9) nsB.nd) hjl hne (fun k hk=>hfg k (Wm (n:=vw n g5 n.2.2.2.2.2.1.2 g9) k hk)) r1
  simp only at p5 p6 lv2 lv3
  obtain ⟨nsC,nC,cC⟩:=nsB.buf pt
  have bx13:=Qa bx12 cC (fun hh=>by have:=hlw _ hh;omega)
  have bx23:=Qa bx2 cC (fun hh=>by have:=hlw _ hh;omega)
  have rN2:=rowN J2 nsB.chg
  unfold netCells at rN2
  have lM3:=cC.1
  simp [t1,t2,t3,t4,t5,q1,q2,Vs,hFJ]
  rw [hJs]
  clear hJ1 hJs
  simp [t1,t2,t3,t4,t5,VM.look,bx1,rO1,ones,e1,e2,e3,e3',z2,z3,z5,z6,z0,zw,hFJ1]
  rw [hJ2s]
  clear hJ2 hJ2s
  rw [Yg (h:=⟨by kernel_rfl,by kernel_rfl⟩)]
  simp [emps,empOp,empB,-Qe,-Qq,t1,t2,t3,t4,t5,VM.look,rN2,qn,r2,r3,r5,r6,p3,p4,p5,p6,qb1,qb2,bx13,e4]
  have rN3:=rowN M3 nsC.chg
  have rO3:=rowO M3 nsC.chg
  have hlw2:∀k∈dNet.ids (vw n (g5.set j a') n.2.2.2.2.2.1.2 g9),k<J.length∨J2.length≤k:=fun k hk=>(nC k hk).imp (hlw k) _root_.id
  have hfg2:∀k∈dNet.ids (vw n (g5.set j a') n.2.2.2.2.2.1.2 g9),H.length≤k:=fun k hk=>by
   rcases nC k hk with h|h
   ·exact hfg k h
   ·omega
  have hidg:K.length∉dNet.ids (vw n (g5.set j a') n.2.2.2.2.2.1.2 g9):=fun hh=>by
   rcases nsC.ids _ hh with h|h
   ·exact hidn h
   ·omega
  have rNL:=fun L=>Qo rN3 L
  have bxL:=fun L=>Qo bx13 L
  have hFM3:H.length≤M3.length:=by omega
  unfold netCells at rO3
  -- into the output
  refine Du (F:=?FB1) (k1:=?kB1) (k2:=?kB2) (Q:=?QB1) (fun cc t J4=>∃(g5' g9':List Value),cc=.bool f.2.2.2.2∧t 1=.pointer (some ⟨H.length,0,some 0⟩)∧t 2=.pointer (some ⟨H.length+1,0,some 0⟩)∧t 3=.pointer (some ⟨K.length,0,some 0⟩)∧t 4=gl∧t 5=.int .i64 i∧
   t 6=.pointer (some ⟨J.length,0,some 0⟩)∧t 8=.int .i64 c∧t 11=.int .i64 q∧J4[J.length]? = some ⟨[.int .i64 (gg.1:Int),.int .i64 (gg.2.1:Int),.int .i64 (gg.2.2:Int)],0,98⟩∧
   NS K2 J4 [] n (withArr (withBuf (nBoth x i) (pushS x (upd (nBoth x i).2.2.1 j (List.drop 1)) gg)) (arrS x (nBoth x i).2.2.2.2.2.2.1 gg)) g5' n.2.2.2.2.2.1.2 g9'∧∀k∈dNet.ids (vw n g5' n.2.2.2.2.2.1.2 g9'),k≠J.length) ?mainB ?restB
  case mainB=>
   intro rest
   by_cases h4:gg.2.1=4
   ·have h4c:(gg.2.1:Int)=4:=by omega
    have h9l:gg.1<(nBoth x i).2.2.2.2.2.2.1.length:=by rw [l9'];have:=hx.2.1.2.2.2.2;omega
    obtain ⟨a9,d1,d2,d3,d4,d5,d6,d7⟩:=Xv (u:=(n.2.2.2.2.2.2.1.1,g9)) nsC.ow.2.2.2.2.2.2.1 h9l
    simp only at d2 d3 d7
    obtain ⟨b',Q2,Q3,hap,s5,s6,mv2,mv3,qc1,qc2,cc2,pt2⟩:=Um (frz:=H.length) (u:=(n.2.2.2.2.2.2.1.1,g9)) nsC.ow.2.2.2.2.2.2.1 (Ot (n:=vw n (g5.set j a') n.2.2.2.2.2.1.2 g9) nsC.nd) h9l (Nat.le_trans (Nat.succ_le_succ (b9i _ (List.getElem_mem h9l))) (by decide)) (fun k hk=>hfg2 k (Yy (n:=vw n (g5.set j a') n.2.2.2.2.2.1.2 g9) k hk)) d1 f
    simp only at s5 s6 mv2 mv3
    obtain ⟨nsD,nD,cD⟩:=nsC.arr pt2
    have hia:∀k∈ids a9,k∈dNet.ids (vw n (g5.set j a') n.2.2.2.2.2.1.2 g9):=fun k hk=>Yy (n:=vw n (g5.set j a') n.2.2.2.2.2.1.2 g9) k (W9 d1 hk)
    have rNQ2:=Qa rN3 cc2 (fun hh=>hidg (hia _ hh))
    have rNQ3:=rowN Q3 nsD.chg
    have bxQ2:=Qa bx13 cc2 (fun hh=>by have:=hlw2 _ (hia _ hh);omega)
    have bxQ3:=Qa bx13 cD (fun hh=>by have:=hlw2 _ hh;omega)
    have lvL:∀L:Heap,VM.live (M3++L) n.2.2.2.2.2.2.1.1:=fun L=>Wa (v:=n.2.2.2.2.2.2.1.1) (Ow.app (L:=L) nsC.ow.2.2.2.2.2.2.1.1.1)
    have bxfQ:=Qa bx23 cD (fun hh=>by have:=hlw2 _ hh;omega)
    unfold netCells at rN3 rNL rNQ2 rNQ3
    simp only [Wb] at hap
    simp [h4]
    rw [Xo (fl:=([1,3],[14])) (h:=⟨by kernel_rfl,by kernel_rfl,by kernel_rfl,by kernel_rfl⟩)]
    simp [emps,empOp,empB,-Qe,-Qq,t1,t2,t3,t4,t5,VM.look,rN3,qn,bx13,bx23,d2,d3,d5,d6,d7,hap,s5,s6,qc1,qc2,mv2,mv3,rNL,bxL,rNQ2,rNQ3,bxQ2,bxQ3,lvL,hFM3,e4,bxfQ]
    refine rest _ _ _ ?_
    have ea:withArr (withBuf (nBoth x i) (pushS x (upd (nBoth x i).2.2.1 j (List.drop 1)) gg)) (arrS x (nBoth x i).2.2.2.2.2.2.1 gg)=withArr (withBuf (nBoth x i) (upd (nBoth x i).2.2.1 j (List.drop 1))) (upd (nBoth x i).2.2.2.2.2.2.1 gg.1 (·++[f])):=by
     unfold pushS arrS;rw [if_pos h4,if_pos h4,hfe,hj]
    rw [ea]
    exact ⟨g5.set j a',g9.set gg.1 b',rfl,by simp [t1],by simp [t2],by simp [t3],by simp [t4],by simp [t5],by simp,by simp,by simp,bxQ3,nsD,fun k hk=>by rcases nD k hk with h|h;(have:=hlw2 k h;omega);omega⟩
   ·obtain ⟨hh,hroom⟩:=m4.2.1.resolve_left h4
    rw [← hc] at hroom
    have h4c:¬(gg.2.1:Int)=4:=by omega
    obtain ⟨s1,s2,s3⟩:=Xn (c:=c) hh (by omega) (by omega)
    obtain ⟨o1,o2,o3⟩:=Zu (c:=c) hh (by omega)
    obtain ⟨zt,hz⟩:∃zt,zt=tgt x gg.1 gg.2.1 c:=⟨_,rfl⟩
    rw [← hz] at s1 s2 s3
    have hzl:zt<(upd (nBoth x i).2.2.1 j (List.drop 1)).length:=by rw [Yj,l5'];omega
    have nn:=fun F=>Ym (frz:=F) (H:=M3) x.1.1 x.1.2.1 gg.1 gg.2.1
    have so:=fun F=>T9 (frz:=F) (H:=M3) gg.2.1
    obtain ⟨o4,o5⟩:=o1
    generalize next x.1.1 x.1.2.1 gg.1 gg.2.1=N at *
    generalize opp (gg.2.1:Int)=O at *
    have k3:=@w6 (10*N) (by omega)
    have k4:=@w6 (2*O) (by omega)
    have k5:=@w6 (10*N+2*O) (by omega)
    have k6:∀[Inhabited Unit],IntKind.i64.wrap (10*N+2*O+(c:Int))=(zt:Int):=by intro _;rw [w64 (by omega) (by omega)];omega
    have b5u:allL 67000080 (upd (nBoth x i).2.2.1 j (List.drop 1)):=Uf b5i
    obtain ⟨a9,d1,d2,d3,d4,d5,d6,d7⟩:=Xv (u:=(n.2.2.1.1,g5.set j a')) nsC.ow.2.2.1 hzl
    simp only at d2 d3 d7
    obtain ⟨b',Q2,Q3,hap,s5,s6,mv2,mv3,qc1,qc2,cc2,pt2⟩:=Um (frz:=H.length) (u:=(n.2.2.1.1,g5.set j a')) nsC.ow.2.2.1 (X7 (n:=vw n (g5.set j a') n.2.2.2.2.2.1.2 g9) nsC.nd) hzl (Nat.le_trans (Nat.succ_le_succ (b5u _ (List.getElem_mem hzl))) (by decide)) (fun k hk=>hfg2 k (Wm (n:=vw n (g5.set j a') n.2.2.2.2.2.1.2 g9) k hk)) d1 f
    simp only at s5 s6 mv2 mv3
    obtain ⟨nsD,nD,cD⟩:=nsC.buf pt2
    have hia:∀k∈ids a9,k∈dNet.ids (vw n (g5.set j a') n.2.2.2.2.2.1.2 g9):=fun k hk=>Wm (n:=vw n (g5.set j a') n.2.2.2.2.2.1.2 g9) k (W9 d1 hk)
    have rNQ2:=Qa rN3 cc2 (fun hh=>hidg (hia _ hh))
    have rNQ3:=rowN Q3 nsD.chg
    have bxQ2:=Qa bx13 cc2 (fun hh=>by have:=hlw2 _ (hia _ hh);omega)
    have bxQ3:=Qa bx13 cD (fun hh=>by have:=hlw2 _ hh;omega)
    have lvL:∀L:Heap,VM.live (M3++L) n.2.2.1.1:=fun L=>Wa (v:=n.2.2.1.1) (Ow.app (L:=L) nsC.ow.2.2.1.1.1)
    have bxfQ:=Qa bx23 cD (fun hh=>by have:=hlw2 _ hh;omega)
    unfold netCells at rN3 rNL rNQ2 rNQ3
    simp only [Wb] at hap
    simp [h4c]
    rw [Qp (h:=by kernel_rfl)]
    simp [t1,t2,t3,t4,t5,VM.look,rO3,ones,bx13,nn,so,k3,k4,k5,k6]
    rw [Xo (fl:=([1],[12])) (h:=⟨by kernel_rfl,by kernel_rfl,by kernel_rfl,by kernel_rfl⟩)]
    simp [emps,empOp,empB,-Qe,-Qq,t1,t2,t3,t4,t5,VM.look,rN3,qn,bx13,bx23,d2,d3,d5,d6,d7,hap,s5,s6,qc1,qc2,mv2,mv3,rNL,bxL,rNQ2,rNQ3,bxQ2,bxQ3,lvL,hFM3,e4,bxfQ]
    refine rest _ _ _ ?_
    have ea:withArr (withBuf (nBoth x i) (pushS x (upd (nBoth x i).2.2.1 j (List.drop 1)) gg)) (arrS x (nBoth x i).2.2.2.2.2.2.1 gg)=withBuf (nBoth x i) (upd (upd (nBoth x i).2.2.1 j (List.drop 1)) zt (·++[f])):=by
     unfold pushS arrS;rw [if_neg h4,if_neg h4,hfe,hj,hz,hc];rfl
    rw [ea]
    exact ⟨(g5.set j a').set zt b',g9,rfl,by simp [t1],by simp [t2],by simp [t3],by simp [t4],by simp [t5],by simp,by simp,by simp,bxQ3,nsD,fun k hk=>by rcases nD k hk with h|h;(have:=hlw2 k h;omega);omega⟩
  case restB=>
   rintro cc t J4 ⟨g5',g9',rfl,t1,t2,t3,t4,t5,t6,t8,t11,bx4,ns4,hnJ⟩
   obtain ⟨s2,hs2⟩:∃s2,s2=withArr (withBuf (nBoth x i) (pushS x (upd (nBoth x i).2.2.1 j (List.drop 1)) gg)) (arrS x (nBoth x i).2.2.2.2.2.2.1 gg):=⟨_,rfl⟩
   rw [← hs2] at hps ns4
   have own2:s2.2.2.2.1=(nBoth x i).2.2.2.1:=by rw [hs2];rfl
   have turn2:s2.2.2.2.2.1=(nBoth x i).2.2.2.2.1:=by rw [hs2];rfl
   have lown:s2.2.2.2.1.length=x.2.2.2.1.length:=by rw [own2];exact Q1 (Rt x) _ _
   have lturn:s2.2.2.2.2.1.length=x.2.2.2.2.1.length:=by rw [turn2];exact Q1 Tn _ _
   clear hs2
   obtain ⟨zo,hz⟩:∃zo,zo=outAt gg.1 gg.2.1 c:=⟨_,rfl⟩
   have hzl:zo<s2.2.2.2.1.length:=by rw [lown,hz];have:=hx.2.1.2.1;unfold outAt;omega
   have hfg4:∀k∈dNet.ids (vw n g5' n.2.2.2.2.2.1.2 g9'),H.length≤k:=fun k hk=>by
    rcases ns4.ids k hk with h|h
    ·have:=hmn k h;omega
    ·omega
   obtain ⟨V,hV⟩:∃V:Int,V=if f.2.2.2.2 then -1 else (q:Int):=⟨_,rfl⟩
   obtain ⟨J5,st5,ns5,c5⟩:=ns4.own (frz:=H.length) hfg4 hzl V
   have hnot:J.length∉dNet.ids (vw n g5' n.2.2.2.2.2.1.2 g9'):=fun hh=>hnJ _ hh rfl
   have bx5:=Qa bx4 c5 hnot
   obtain ⟨zt,hzt⟩:∃zt,zt=5*gg.1+gg.2.1:=⟨_,rfl⟩
   obtain ⟨d,hd⟩:∃d,d=(gg.2.2+1)%10:=⟨_,rfl⟩
   have hztl:zt<s2.2.2.2.2.1.length:=by rw [lturn,hzt];have:=hx.2.1.2.2.1;omega
   obtain ⟨o5,_⟩:=Sx (Rd.isI ns4.ow.2.2.2.1.1.rd) hzl
   have o5':vindexAddr Tryz.prog J4 26 n.2.2.2.1 (.int .i64 (zo:Int))=some (elp n.2.2.2.1 zo):=o5
   obtain ⟨o4,_⟩:=Sx (Rd.isI ns5.ow.2.2.2.2.1.1.rd) (l:=s2.2.2.2.2.1) hztl
   have o4':vindexAddr Tryz.prog J5 26 n.2.2.2.2.1 (.int .i64 (zt:Int))=some (elp n.2.2.2.2.1 zt):=o4
   obtain ⟨J6,st6,ns6,c6⟩:=ns5.turn (frz:=H.length) hfg4 (j:=zt) hztl (d:Int)
   have k1:=@w6 (5*(gg.1:Int)) (by omega)
   have k2:∀[Inhabited Unit],IntKind.i64.wrap (5*(gg.1:Int)+(gg.2.1:Int))=(zt:Int):=by intro _;rw [w64 (by omega) (by omega)];omega
   have k3:=@w6 ((gg.2.2:Int)+1) (by omega)
   have k4:∀[Inhabited Unit],((gg.2.2:Int)+1).tmod 10=(d:Int):=by intro _;rw [Int.tmod_eq_emod_of_nonneg (by omega)];omega
   have k4':∀[Inhabited Unit],((gg.2.2:Int)+1)%10=(d:Int):=by intro _;omega
   have k7:=@w6 (2*(gg.2.1:Int)) (by omega)
   have k8:=@w6 (10*(gg.1:Int)+2*(gg.2.1:Int)) (by omega)
   have k9:∀[Inhabited Unit],IntKind.i64.wrap (10*(gg.1:Int)+2*(gg.2.1:Int)+(c:Int))=(zo:Int):=by intro _;rw [hz];unfold outAt;rw [w64 (by omega) (by omega)];omega
   have hos:ownS x s2.2.2.2.1 gg=s2.2.2.2.1.set zo V:=by unfold ownS;rw [hV,hz,hc,hq,hfe,hj]
   have hts:turnS s2.2.2.2.2.1 gg=s2.2.2.2.2.1.set zt (d:Int):=by unfold turnS;rw [hzt,hd]
   rw [← own2,← turn2,hts,hos] at hps
   have rN4:=rowN J4 ns4.chg
   have rN5:=rowN J5 ns5.chg
   unfold netCells at rN4 rN5
   cases ht:f.2.2.2.2 with
   | false=>
    rw [ht,if_neg (by simp)] at hV
    subst hV
    simp [t1,t2,t3,t4,t5,t6,t8,t11,VM.look,rN4,rN5,qn,bx4,bx5,e1,k1,k2,k3,k4,k4',k7,k8,k9,o5',o4',st5,st6]
    refine ih ((allN x).length-(i+1)) _ _ ⟨i+1,g5',g9',rfl,by omega,by simp [t1],by simp [t2],by simp [t3],by simp [t4],?_,by rw [hps];exact ns6⟩ (by omega)
    simp [t5];rw [w64 (by omega) (by omega)]
   | true=>
    rw [ht,if_pos rfl] at hV
    subst hV
    simp [t1,t2,t3,t4,t5,t6,t8,t11,VM.look,rN4,rN5,qn,bx4,bx5,e1,k1,k2,k3,k4,k4',k7,k8,k9,o5',o4',st5,st6]
    refine ih ((allN x).length-(i+1)) _ _ ⟨i+1,g5',g9',rfl,by omega,by simp [t1],by simp [t2],by simp [t3],by simp [t4],?_,by rw [hps];exact ns6⟩ (by omega)
    simp [t5];rw [w64 (by omega) (by omega)]
 ·have hil:i=(allN x).length:=by omega
  subst hil
  clear ih
  have rO:=rowO J ns.chg
  have oJ:=Dt.chg (T:=dNet) o (cHJ J ns.chg) (by simp)
  have ent:=Py (frz:=H.length) oJ hx
  simp only [Qc] at ent
  have rO':=rO
  unfold netCells at rO'
  simp [t1,t2,t3,t4,t5,VM.look,rO',ones]
  refine Qd ent ?_
  rintro el J1 ⟨oE,nE,cE⟩
  have ltE:=oE.lt
  have lE:=cE.1
  have lJ:=ns.chg.1
  -- between the loops: the network w,y3
  obtain ⟨y3,hy3⟩:∃y3,y3=nBoth x (allN x).length:=⟨_,rfl⟩
  rw [← hy3] at ns
  have ye3:y3.1=x.1∧y3.2.1=x.2.1∧y3.2.2.2.2.2.1=x.2.2.2.2.2.1∧y3.2.2.2.2.2.2.2=x.2.2.2.2.2.2.2:=by rw [hy3];exact ⟨rfl,rfl,rfl,rfl⟩
  have l53:y3.2.2.1.length=x.2.2.1.length:=by rw [hy3];exact Q1 (Og x) _ _
  have b53:allL 67000080 y3.2.2.1:=by
   rw [hy3]
   refine Qu (Wj (Oh x) ((allN x).take (allN x).length) x.2.2.1 67000000 hb5) ?_
   simp;omega
  have hlw:∀k∈dNet.ids (vw n g5 n.2.2.2.2.2.1.2 g9),k<J.length:=fun k hk=>dNet.lt ns.ow k hk
  have hfw:∀k∈dNet.ids (vw n g5 n.2.2.2.2.2.1.2 g9),k∈dNet.ids n∨K2.length≤k:=ns.ids
  have rN1:J1[K.length]? = some ⟨netCells (vw n g5 n.2.2.2.2.2.1.2 g9) x,0,35⟩:=Qa (rowN J ns.chg) cE (by simp)
  have rO1:=Qa rO cE (by simp)
  have rR1:=Qa (rowR J ns.chg) cE (by simp)
  have ns1:NS J1 J1 [] (vw n g5 n.2.2.2.2.2.1.2 g9) y3 _ _ _:=NS.start [] (Dt.chg (T:=dNet) ns.ow cE (by simp)) ns.nd
  have cHJ1:Chg H J1 []:=(cHJ J ns.chg).trans cE
  clear rO' rO oJ ent
  generalize hw:vw n g5 n.2.2.2.2.2.1.2 g9=w at *
  have hidw:K.length∉dNet.ids w:=fun hh=>by
   rcases hfw _ hh with h|h
   ·exact hidn h
   ·omega
  have hmw:∀k∈dNet.ids w,H.length+2≤k:=fun k hk=>by
   rcases hfw k hk with h|h
   ·exact hmn k h
   ·omega
  have onew:=Qh (v:=w) ns1.ow
  have hE:=U0 x
  have hEat:=fun k (hk:k∈enterN x)=>Wu hk
  have hEnd:=Y6 x
  clear rowO rowR rowN cHJ glJ ns
  have rowO:∀J:Heap,Chg J1 J ([]++dNet.ids w)→J[H.length]? = some ⟨netCells v x,0,35⟩:=fun J c=>Qa rO1 c (fun hh=>by have:=hmw _ (by simpa using hh);omega)
  have rowR:=fun (J:Heap) (c:Chg J1 J ([]++dNet.ids w))=>Qa rR1 c (fun hh=>by have:=hmw _ (by simpa using hh);omega)
  have rowN:∀J:Heap,Chg J1 J ([]++dNet.ids w)→J[K.length]? = some ⟨netCells w x,0,35⟩:=fun J c=>Qa rN1 c (by simpa using hidw)
  have cHJ:∀J:Heap,Chg J1 J ([]++dNet.ids w)→Chg H J []:=fun J c=>cHJ1.trans' c (fun k hk=>.inr (by have:=hmw k (by simpa using hk);omega))
  have elJ:∀J':Heap,Chg J1 J' ([]++dNet.ids w)→Ow Fl.int 3 J' el ((enterN x).map Int.ofNat):=fun J' c=>oE.chg c (fun k hk hh=>by have:=nE k hk;have:=hlw k (by simpa using hh);omega)
  simp [t1,t2,t3,t4,t5]
  -- what enters
  refine Qm (fun m t J=>∃(i:Nat) (g5 g8:List Value),m=(enterN x).length-i∧i≤(enterN x).length∧t 1=.pointer (some ⟨H.length,0,some 0⟩)∧t 2=.pointer (some ⟨H.length+1,0,some 0⟩)∧t 3=.pointer (some ⟨K.length,0,some 0⟩)∧t 12=el∧t 13=.int .i64 i∧
   NS J1 J [] w (nEnt x y3 i) g5 g8 w.2.2.2.2.2.2.1.2) ?_ (n:=(enterN x).length)
   ⟨0,w.2.2.1.2,w.2.2.2.2.2.1.2,rfl,by omega,by simp [t1],by simp [t2],by simp [t3],by simp,by simp,ns1⟩
  clear t1 t2 t3 t4 t5
  rintro m t J ⟨i,g5,g8,rfl,hi,t1,t2,t3,t12,t13,ns⟩ ih
  have hel:=(elJ J ns.chg).rd.len (P:=Tryz.prog) (ty:=26) (by simp)
  rw [List.length_map] at hel
  simp [t1,t2,t3,t12,t13,hel]
  refine Qf ?_ ?_<;>intro g
  ·have hi':i<(enterN x).length:=by omega
   obtain ⟨u1,u2⟩:=Sx (elJ J ns.chg).rd.isI (i:=i) (by simpa using hi')
   have eel:((enterN x).map Int.ofNat)[i]'(by simpa using hi')=((enterN x)[i]:Int):=by simp
   rw [eel] at u2
   obtain ⟨m1,m2⟩:=hEat _ (List.getElem_mem hi')
   have hps:=O9 (y:=y3) hi'
   have hsat:(nEnt x y3 i).2.2.2.2.2.1.getD (enterN x)[i] []=x.2.2.2.2.2.1.getD (enterN x)[i] []:=by
    rw [← ye3.2.2.1]
    have hnt:=Vk (f:=fun k:Nat=>k) (by simpa using hEnd) hi'
    exact Nn _ _ _ (by simpa using hnt)
   generalize (enterN x)[i]=k at *
   have hkx:k<x.2.2.2.2.2.1.length:=by have:=hx.2.1.2.2.2.1;omega
   have hks:k<(nEnt x y3 i).2.2.2.2.2.1.length:=by
    have:(nEnt x y3 i).2.2.2.2.2.1.length=y3.2.2.2.2.2.1.length:=Q1 St _ _
    rw [this,ye3.2.2.1];exact hkx
   have hgd:(nEnt x y3 i).2.2.2.2.2.1.getD k []=(nEnt x y3 i).2.2.2.2.2.1[k]:=by simp [List.getD_eq_getElem?_getD,hks]
   have hne:(nEnt x y3 i).2.2.2.2.2.1[k]≠[]:=by rw [← hgd,hsat];exact m2.1
   have hgx:x.2.2.2.2.2.1.getD k []=x.2.2.2.2.2.1[k]:=by simp [List.getD_eq_getElem?_getD,hkx]
   have hnx:x.2.2.2.2.2.1[k]≠[]:=by rw [← hgx];exact m2.1
   obtain ⟨en1,en2,en3⟩:=Zx hx m2.1
   have hcl:=en1.2
   obtain ⟨f,hfe⟩:∃f,f=srcHead x k:=⟨_,rfl⟩
   have hhd:headL x.2.2.2.2.2.1[k]=f:=by rw [← hgx,hfe];rfl
   obtain ⟨z,hz⟩:∃z,z=entAt x k:=⟨_,rfl⟩
   rw [← hfe,← hz] at en2
   rw [← hfe] at hcl
   unfold inR at hcl
   have hzl:z<(nEnt x y3 i).2.2.1.length:=by
    have:(nEnt x y3 i).2.2.1.length=y3.2.2.1.length:=Q1 (Ru x) _ _
    rw [this,l53];have:=hx.2.1.1;omega
   have b5i:allL 67000096 (nEnt x y3 i).2.2.1:=Qu (Wj (Ro x) ((enterN x).take i) y3.2.2.1 67000080 b53) (show _≤67000096 by simp;omega)
   obtain ⟨J2,hJ2⟩:∃J2,J2=J++[⟨flF.f f,0,102⟩]:=⟨_,rfl⟩
   have cJ:Chg J J2 []:=by rw [hJ2];exact Chg.app _
   have lJ2:J2.length=J.length+1:=by rw [hJ2];simp
   have bx:J2[J.length]? = some ⟨flF.f f,0,102⟩:=by rw [hJ2];simp
   have hJs:J++[⟨flF.f f,0,102⟩]=J2:=hJ2.symm
   simp only [Wb] at bx hJs
   have nsA:=ns.other cJ (by simp) (by simp)
   have hlJ:∀l∈dNet.ids (vw w g5 g8 w.2.2.2.2.2.2.1.2),l<J.length:=fun l hl=>dNet.lt ns.ow l hl
   have hFJ:H.length≤J.length:=by have:=ns.chg.1;omega
   have hFJ2:H.length≤J2.length:=by omega
   have hfg:∀l∈dNet.ids (vw w g5 g8 w.2.2.2.2.2.2.1.2),H.length≤l:=fun l hl=>by
    rcases ns.ids l hl with h|h
    ·have:=hmw l h;omega
    ·omega
   obtain ⟨a0,z1,z2,z3,z4,z5,z6,z7⟩:=Xv (u:=v.2.2.2.2.2.1) (Dt.chg (T:=dNet) o (cHJ J ns.chg) (by simp)).2.2.2.2.2.1 hkx
   obtain ⟨z0,_,_,_,_,_,_,zw⟩:=front z4.rd hnx
   rw [hhd] at zw
   simp only [Wb] at zw
   obtain ⟨az,d1,d2,d3,d4,d5,d6,d7⟩:=Xv (u:=(w.2.2.1.1,g5)) nsA.ow.2.2.1 hzl
   simp only at d2 d3 d7
   obtain ⟨a',M2,M3,hap,p5,p6,lv2,lv3,qb1,qb2,c2,pt⟩:=Um (frz:=H.length) (u:=(w.2.2.1.1,g5)) nsA.ow.2.2.1 (X7 (n:=vw w g5 g8 w.2.2.2.2.2.2.1.2) nsA.nd) hzl (Nat.le_trans (Nat.succ_le_succ (b5i _ (List.getElem_mem hzl))) (by decide)) (fun l hl=>hfg l (Wm (n:=vw w g5 g8 w.2.2.2.2.2.2.1.2) l hl)) d1 f
   simp only at p5 p6 lv2 lv3
   obtain ⟨nsB,nB,cB⟩:=nsA.buf pt
   simp only [Wb] at hap
   have hfg2:∀l∈dNet.ids (vw w (g5.set z a') g8 w.2.2.2.2.2.2.1.2),H.length≤l:=fun l hl=>by
    rcases nB l hl with h|h
    ·exact hfg l h
    ·omega
   obtain ⟨a8,s1,s2,s3,s4,s5,s6,s7⟩:=Xv (u:=(w.2.2.2.2.2.1.1,g8)) nsB.ow.2.2.2.2.2.1 hks
   simp only at s2 s3 s7
   obtain ⟨zz,b',N2,N3,t3',t4',t5',t6',mv2,mv3,qc1,qc2,cc2,pt2⟩:=N5 (frz:=H.length) (u:=(w.2.2.2.2.2.1.1,g8)) nsB.ow.2.2.2.2.2.1 (V8 (n:=vw w (g5.set z a') g8 w.2.2.2.2.2.2.1.2) nsB.nd) hks hne (fun l hl=>hfg2 l (Ya (n:=vw w (g5.set z a') g8 w.2.2.2.2.2.2.1.2) l hl)) s1
   simp only at t5' t6' mv2 mv3
   obtain ⟨nsC,nC,cC⟩:=nsB.src pt2
   have hidg:K.length∉dNet.ids (vw w g5 g8 w.2.2.2.2.2.2.1.2):=fun hh=>by
    rcases ns.ids _ hh with h|h
    ·exact hidw h
    ·omega
   have hia:∀l∈ids az,l∈dNet.ids (vw w g5 g8 w.2.2.2.2.2.2.1.2):=fun l hl=>Wm (n:=vw w g5 g8 w.2.2.2.2.2.2.1.2) l (W9 d1 hl)
   have rO1:=rowO J ns.chg
   have rN2:=rowN J2 nsA.chg
   have rNL:=fun L=>Qo rN2 L
   have rNM2:=Qa rN2 c2 (fun hh=>hidg (hia _ hh))
   have rNM3:=rowN M3 nsB.chg
   have bxL:=fun L=>Qo bx L
   have lvL:∀L:Heap,VM.live (J2++L) w.2.2.1.1:=fun L=>Wa (v:=w.2.2.1.1) (Ow.app (L:=L) nsA.ow.2.2.1.1.1)
   unfold netCells at rO1 rN2 rNL rNM2 rNM3
   have k1:=@w6 (10*(k:Int)) (by omega)
   have k2:=@w6 (10*(k:Int)+8) (by omega)
   have k3:∀[Inhabited Unit],IntKind.i64.wrap (10*(k:Int)+8+f.2.2.1)=(z:Int):=by intro _;rw [w64 (by omega) (by omega)];omega
   simp [t1,t2,t3,t12,t13,u1,u2,VM.look,rO1,ones,z2,z3,z5,z6,z0,zw,hFJ]
   rw [hJs]
   clear hJ2 hJs
   simp [t1,t2,t3,t12,t13,VM.look,bx,k1,k2,k3]
   rw [Xo (fl:=([1],[12])) (h:=⟨by kernel_rfl,by kernel_rfl,by kernel_rfl,by kernel_rfl⟩)]
   simp [emps,empOp,empB,-Qe,-Qq,t1,t2,t3,t12,t13,VM.look,rN2,onew,d2,d3,d5,d6,d7,bx,hap,p5,p6,lv2,lv3,qb1,qb2,rNL,rNM2,rNM3,bxL,lvL,hFJ2]
   rw [Yg (h:=⟨by kernel_rfl,by kernel_rfl⟩)]
   simp [emps,empOp,empB,-Qe,-Qq,t1,t2,t3,t12,t13,VM.look,rNM3,onew,s2,s3,s5,s6,t3',t4',t5',t6',qc1,qc2]
   refine ih ((enterN x).length-(i+1)) _ _ ⟨i+1,g5.set z a',g8.set k b',rfl,by omega,by simp [t1],by simp [t2],by simp [t3],by simp [t12],?_,?_⟩ (by omega)
   ·simp [t13];rw [w64 (by omega) (by omega)]
   ·rw [hps]
    have e1:entS x (nEnt x y3 i).2.2.1 k=upd (nEnt x y3 i).2.2.1 z (·++[f]):=by unfold entS;rw [← hz,← hfe]
    rw [e1]
    exact nsC
  ·have hil:i=(enterN x).length:=by omega
   subst hil
   clear ih
   have hse:stepN x=older (nEnt x y3 (enterN x).length) 1:=by rw [E8,← hy3]
   have et:∀[Inhabited Unit],IntKind.i64.wrap (x.2.2.2.2.2.2.2+1)=x.2.2.2.2.2.2.2+1:=by intro _;unfold inR at ht;exact w64 (by omega) (by omega)
   have rO2:=rowO J ns.chg
   have rN2:=rowN J ns.chg
   have rR2:=rowR J ns.chg
   unfold netCells at rO2 rN2
   have gN:=Qi (r':=⟨[.int .i64 x.1.1,.int .i64 x.1.2.1,w.1,w.2.1.1,w.2.1.2,w.2.2.1.1,w.2.2.2.1,w.2.2.2.2.1,w.2.2.2.2.2.1.1,w.2.2.2.2.2.2.1.1,.int .i64 (x.2.2.2.2.2.2.2+1)],0,35⟩) rN2
   have cN:Chg J (J.set K.length ⟨[.int .i64 x.1.1,.int .i64 x.1.2.1,w.1,w.2.1.1,w.2.1.2,w.2.2.1.1,w.2.2.2.1,w.2.2.2.2.1,w.2.2.2.2.2.1.1,w.2.2.2.2.2.2.1.1,.int .i64 (x.2.2.2.2.2.2.2+1)],0,35⟩) [K.length]:=Ql _ _
   have rR3:=Qa rR2 cN (by simp;omega)
   have gR:=Qi (r':=⟨[.int .i64 x.1.1,.int .i64 x.1.2.1,w.1,w.2.1.1,w.2.1.2,w.2.2.1.1,w.2.2.2.1,w.2.2.2.2.1,w.2.2.2.2.2.1.1,w.2.2.2.2.2.2.1.1,.int .i64 (x.2.2.2.2.2.2.2+1)],0,35⟩) rR3
   have cR:Chg (J.set K.length ⟨[.int .i64 x.1.1,.int .i64 x.1.2.1,w.1,w.2.1.1,w.2.1.2,w.2.2.1.1,w.2.2.2.1,w.2.2.2.2.1,w.2.2.2.2.2.1.1,w.2.2.2.2.2.2.1.1,.int .i64 (x.2.2.2.2.2.2.2+1)],0,35⟩) ((J.set K.length ⟨[.int .i64 x.1.1,.int .i64 x.1.2.1,w.1,w.2.1.1,w.2.1.2,w.2.2.1.1,w.2.2.2.1,w.2.2.2.2.1,w.2.2.2.2.2.1.1,w.2.2.2.2.2.2.1.1,.int .i64 (x.2.2.2.2.2.2.2+1)],0,35⟩).set (H.length+1) ⟨[.int .i64 x.1.1,.int .i64 x.1.2.1,w.1,w.2.1.1,w.2.1.2,w.2.2.1.1,w.2.2.2.1,w.2.2.2.2.1,w.2.2.2.2.2.1.1,w.2.2.2.2.2.2.1.1,.int .i64 (x.2.2.2.2.2.2.2+1)],0,35⟩) [H.length+1]:=Ql _ _
   have hF1:H.length≤H.length+1:=by omega
   have hidg:K.length∉dNet.ids (vw w g5 g8 w.2.2.2.2.2.2.1.2):=fun hh=>by
    rcases ns.ids _ hh with h|h
    ·exact hidw h
    ·omega
   have hmg:∀k∈dNet.ids (vw w g5 g8 w.2.2.2.2.2.2.1.2),H.length+2≤k:=fun k hk=>by
    rcases ns.ids k hk with h|h
    ·exact hmw k h
    ·omega
   simp [t1,t2,t3,t12,t13,VM.look,rO2,rN2,ones,onew,et,hF,gN,rR3,gR,hF1]
   refine ⟨vw w g5 g8 w.2.2.2.2.2.2.1.2,rfl,?_,?_,fun k hk=>by have:=hmg k hk;omega,ns.nd⟩
   ·rw [hse]
    exact Dt.chg (T:=dNet) (Dt.chg (T:=dNet) ns.ow cN (fun k hk hh=>by simp at hh;exact hidg (hh▸hk))) cR (fun k hk hh=>by have:=hmg k hk;simp at hh;omega)
   ·exact ((cHJ J ns.chg).trans' cN (fun k hk=>.inr (by simp at hk;omega))).trans' cR (fun k hk=>.inr (by simp at hk;omega))
def runs (x:NetD) (k:Int):Prop:=netOk x∧inR 0 k 400∧x.2.2.2.2.2.2.2+k≤1000000
instance (x:NetD) (k:Int):Decidable (runs x k):=inferInstanceAs (Decidable (_∧_))
noncomputable def runNet (x:NetD) (k:Int):NetD:=if runs x k then runN x k.toNat else x
theorem Oy {x:NetD} (h:netOk x):allL 66000000 x.2.2.1:=fun l hl=>by
 obtain ⟨i,hi,rfl⟩:=List.getElem_of_mem hl
 have:=(h.2.2.1 i hi).1
 rw [Wx hi] at this
 omega
theorem Dx {x:NetD} (h:runOk x) (h5:allL 66000000 x.2.2.1) (h9:allL 66000000 x.2.2.2.2.2.2.1) {i:Nat} (hi:i≤400):runOk (runN x i)∧allL 67000000 (runN x i).2.2.1∧allL 67000000 (runN x i).2.2.2.2.2.2.1∧(runN x i).2.2.2.2.2.2.2=x.2.2.2.2.2.2.2+i:=by
 obtain ⟨a,b⟩:=Sy h5 h9 i
 exact ⟨D2 h i,Qu a (by omega),Qu b (by omega),Vl x i⟩
theorem Ck {v:NetV} {x:NetD} {k:Int} (o:dNet.Ow H v x):vcall C frz 30 [dNet.val v x,.int .i64 k] H=some (.bool (decide (runs x k)),H):=by
 refine wp.exact (by simp) ?_ rfl
 have ones:=Qh o
 have nk:=fun F L=>Sp (frz:=F) (H:=H++L) (v:=v) (x:=x) (Dt.app (T:=dNet) o)
 simp only [Qc] at nk ⊢
 rw [Qb (fn:=Tryz.f30) Tryz.func30 rfl (by kernel_rfl) rfl]
 generalize hY:decide (runs x k)=Y
 have no:¬runs x k→Y=false:=fun hh=>by rw [← hY];exact decide_eq_false hh
 by_cases h1:netOk x
 rotate_left
 ·simp [ones,VM.look,nk,h1];exact no (fun k=>h1 k.1)
 by_cases h2:inR 0 k 400
 rotate_left
 ·simp [ones,VM.look,nk,h1,Qv,h2];exact no (fun k=>h2 k.2.1)
 have ht:=h1.2.2.2.2.2.2
 unfold inR at ht
 have e1:∀[Inhabited Unit],IntKind.i64.wrap (x.2.2.2.2.2.2.2+k)=x.2.2.2.2.2.2.2+k:=by intro _;unfold inR at h2;exact w64 (by omega) (by omega)
 have key:runs x k↔x.2.2.2.2.2.2.2+k≤1000000:=⟨fun h=>h.2.2,fun h=>⟨h1,h2,h⟩⟩
 simp [ones,VM.look,nk,h1,Qv,h2,e1]
 rw [← hY];simp only [key]
theorem D9 {v:NetV} {x:NetD} {k:Int} (o:dNet.Ow H v x) (h9:allL 66000000 x.2.2.2.2.2.2.1) :
 wp (vcall C frz 16 [dNet.val v x,.int .i64 k] H) (Made2 dNet H (runNet x k) (decide (runs x k))):=by
 have ones:=Qh o
 have ecopy:=fun L=>O7 (frz:=H.length) (H:=H++L) (v:=v) (x:=x) (Dt.app (T:=dNet) o)
 have ck:=fun F K (c:Chg H K [])=>Ck (frz:=F) (H:=K) (v:=v) (x:=x) (k:=k) (Dt.chg (T:=dNet) o c (by simp))
 simp only [Qc] at ecopy ck ⊢
 rw [Qb (fn:=Tryz.f16) Tryz.func16 rfl (by kernel_rfl) rfl]
 simp [ones]
 refine Qd (ecopy _) ?_
 rintro _ K ⟨n,rfl,on,cn,mn,dn⟩
 simp at mn
 have qn:=Qh on
 have lK:=cn.1
 simp at lK
 have hF:H.length≤K.length:=by omega
 have ltn:∀i∈dNet.ids n,i<K.length:=fun i hi=>dNet.lt on i hi
 simp [Qc,qn,VM.look,hF]
 obtain ⟨K1,hK1⟩:∃K1,K1=K++[⟨netCells n x,0,35⟩]:=⟨_,rfl⟩
 have c1:Chg K K1 []:=by rw [hK1];exact Chg.app _
 have cK:Chg H K []:=(Chg.app _).trans cn
 have cK1:=cK.trans c1
 have l1:K1.length=K.length+1:=by rw [hK1];simp
 have b1:K1[H.length]? = some ⟨netCells v x,0,35⟩:=Qa (Qa (by simp [netCells]) cn (by simp)) c1 (by simp)
 have bR:K1[H.length+1]? = some ⟨[.int .i64 0,.int .i64 0,.slice none 0 0,.slice none 0 0,.slice none 0 0,.slice none 0 0,.slice none 0 0,.slice none 0 0,.slice none 0 0,.slice none 0 0,.int .i64 0],0,35⟩:=Qa (Qa (by simp) cn (by simp)) c1 (by simp)
 have b3:K1[K.length]? = some ⟨netCells n x,0,35⟩:=by rw [hK1];simp
 have on1:=Dt.chg (T:=dNet) on c1 (by simp)
 have hKs:K++[⟨netCells n x,0,35⟩]=K1:=hK1.symm
 have b1':=b1
 unfold netCells at hKs b1'
 rw [hKs]
 clear hK1 hKs
 have ck':=fun F=>ck F K1 cK1
 have hF1:H.length≤H.length+1:=by omega
 -- what is handed back
 have fin:∀(J:Heap) (w:NetV) (y:NetD) (b:Bool),Chg H J []→J[H.length+1]? = some ⟨[.int .i64 0,.int .i64 0,.slice none 0 0,.slice none 0 0,.slice none 0 0,.slice none 0 0,.slice none 0 0,.slice none 0 0,.slice none 0 0,.slice none 0 0,.int .i64 0],0,35⟩→
  dNet.Ow J w y→(dNet.ids w).Nodup→(∀i∈dNet.ids w,H.length+2≤i)→runNet x k=y→decide (runs x k)=b→Made2 dNet H (runNet x k) (decide (runs x k)) (.tuple #[dNet.val w y,.bool b]) (J.set (H.length+1) ⟨netCells w y,0,35⟩):=fun J w y b cJ bJ oJ dJ mJ e1 e2=>by
  rw [e1,e2]
  exact ⟨_,rfl,w,rfl,Dt.chg (T:=dNet) oJ (Ql _ _) (fun i hi hh=>by have:=mJ i hi;simp at hh;omega),cJ.trans' (Ql _ _) (fun i hi=>.inr (by simp at hi;omega)),fun i hi=>by have:=mJ i hi;omega,dJ⟩
 by_cases g0:runs x k
 rotate_left
 ·have gR:=Qi (r':=⟨netCells n x,0,35⟩) bR
  have hM:=fin K1 n x false cK1 bR on1 dn (fun i hi=>by have:=mn i hi;omega) (if_neg g0) (decide_eq_false g0)
  have b3':=b3
  unfold netCells at b3' gR
  simp [VM.look,b1',ones,ck',g0,b3',bR,gR,qn,hF1]
  simpa [g0,Qc,netCells] using hM
 obtain ⟨m,hm⟩:∃m:Nat,k=m:=⟨k.toNat,by have:=g0.2.1.1;omega⟩
 subst hm
 have hm4:m≤400:=by have:=g0.2.1.2;omega
 have ht:=g0.1.2.2.2.2.2.2
 have ht2:=g0.2.2
 unfold inR at ht
 have hro:=Zv g0.1
 have ra:=fun i (hi:i≤m)=>Dx (i:=i) hro (Oy g0.1) h9 (by omega)
 simp [VM.look,b1',ones,ck',g0]
 refine Qm (fun q t J=>∃(i:Nat) (w:NetV),q=m-i∧i≤m∧t 6=.pointer (some ⟨K.length,0,some 0⟩)∧t 4=.pointer (some ⟨H.length+1,0,some 0⟩)∧t 14=.int .i64 m∧t 15=.int .i64 i∧J[K.length]? = some ⟨netCells w (runN x i),0,35⟩∧dNet.Ow J w (runN x i)∧(dNet.ids w).Nodup∧(∀i∈dNet.ids w,H.length+2≤i∧i≠K.length)∧
  J[H.length+1]? = some ⟨[.int .i64 0,.int .i64 0,.slice none 0 0,.slice none 0 0,.slice none 0 0,.slice none 0 0,.slice none 0 0,.slice none 0 0,.slice none 0 0,.slice none 0 0,.int .i64 0],0,35⟩∧Chg H J []) ?_ (n:=m)
  ⟨0,n,rfl,by omega,by simp,by simp,by simp,by simp,b3,on1,dn,fun i hi=>⟨by have:=mn i hi;omega,by have:=ltn i hi;omega⟩,bR,cK1⟩
 rintro q t J ⟨i,w,rfl,hi,t6,t4,t14,t15,bJ,oJ,dJ,mJ,bRJ,cJ⟩ ih
 simp [t6,t4,t14,t15]
 refine Qf ?_ ?_<;>intro g
 ·have hi':i<m:=by omega
  obtain ⟨r1,r2,r3,r4⟩:=ra i (by omega)
  have lJ:=Q0 bJ
  have st:=qf (frz:=H.length) (id:=K.length) (tail:=[]) (e:=35) (by simpa using bJ) oJ dJ (fun i hi=>by have:=(mJ i hi).1;omega) hF (fun hh=>(mJ _ hh).2 rfl) cJ.1 r1 r2 r3 (by rw [r4];unfold inR;omega)
  simp [t6,t4,t14,t15]
  refine Qd st ?_
  rintro _ J2 ⟨w2,s1,s2,s3,s4,s5⟩
  rw [List.append_nil] at s1
  simp [t6,t4,t14,t15]
  refine ih (m-(i+1)) _ _ ⟨i+1,w2,rfl,by omega,by simp [t6],by simp [t4],by simp [t14],?_,s1,s2,s3,fun j hj=>?_,Qa bRJ s5 (fun hh=>?_),cJ.trans' s5 (fun j hj=>?_)⟩ (by omega)
  ·simp [t15];rw [w64 (by omega) (by omega)]
  ·rcases s4 j hj with h|h
   ·exact mJ j h
   ·exact ⟨by omega,by omega⟩
  ·rcases List.mem_cons.1 hh with h|h
   ·omega
   ·have:=(mJ _ h).1;omega
  ·right
   rcases List.mem_cons.1 hj with h|h
   ·omega
   ·have:=(mJ _ h).1;omega
 ·have:i=m:=by omega
  subst this
  have gR:=Qi (r':=⟨netCells w (runN x i),0,35⟩) bRJ
  have oneJ:=Qh oJ
  have hM:=fin J w (runN x i) true cJ bRJ oJ dJ (fun j hj=>(mJ j hj).1) (by unfold runNet;rw [if_pos g0,Int.toNat_natCast]) (decide_eq_true g0)
  unfold netCells at bJ gR
  simp [t6,t4,t14,t15,VM.look,bJ,bRJ,gR,oneJ,hF1]
  simpa [g0,Qc,netCells] using hM
def RunPost (H:Heap) (v:NetV) (y:NetD) (r:Value) (H':Heap):Prop:=
 ∃w:NetV,r=dNet.val w y∧dNet.Ow H' w y∧(dNet.ids w).Nodup∧(∀i∈dNet.ids w,i∈dNet.ids v∨H.length≤i)∧Chg H H' []
theorem Cq {v:NetV} {x:NetD} {m:Nat} (o:dNet.Ow H v x) (nd:(dNet.ids v).Nodup) (hm4:m≤400) (hx:runOk x) (h5:allL 66000000 x.2.2.1) (h9:allL 66000000 x.2.2.2.2.2.2.1) (ht:0≤x.2.2.2.2.2.2.2) (ht2:x.2.2.2.2.2.2.2+m≤1000000) :
 wp (vcall C frz 81 [dNet.val v x,.int .i64 m] H) (RunPost H v (runN x m)):=by
 have ones:=Qh o
 have hlt:=dNet.lt o
 have ra:=fun i (hi:i≤m)=>Dx (i:=i) hx h5 h9 (by omega)
 simp only [Qc]
 rw [Qb (fn:=Tryz.f81) Tryz.func81 rfl (by kernel_rfl) rfl]
 obtain ⟨G,hG⟩:∃G,G=H++[⟨netCells v x,0,35⟩,⟨[.int .i64 0,.int .i64 0,.slice none 0 0,.slice none 0 0,.slice none 0 0,.slice none 0 0,.slice none 0 0,.slice none 0 0,.slice none 0 0,.slice none 0 0,.int .i64 0],0,35⟩]:=⟨_,rfl⟩
 have cG:Chg H G []:=by rw [hG];exact Chg.app _
 have b1:G[H.length]? = some ⟨netCells v x,0,35⟩:=by rw [hG];simp
 have bR:G[H.length+1]? = some ⟨[.int .i64 0,.int .i64 0,.slice none 0 0,.slice none 0 0,.slice none 0 0,.slice none 0 0,.slice none 0 0,.slice none 0 0,.slice none 0 0,.slice none 0 0,.int .i64 0],0,35⟩:=by rw [hG];simp
 have hGs:=hG.symm
 unfold netCells at hGs
 simp [ones]
 rw [hGs]
 clear hG hGs
 have hF0:H.length≤H.length:=Nat.le_refl _
 have hF1:H.length≤H.length+1:=by omega
 refine Qm (fun q t J=>∃(i:Nat) (w:NetV),q=m-i∧i≤m∧t 1=.int .i64 m∧t 2=.pointer (some ⟨H.length,0,some 0⟩)∧t 4=.pointer (some ⟨H.length+1,0,some 0⟩)∧t 5=.int .i64 i∧J[H.length]? = some ⟨netCells w (runN x i),0,35⟩∧dNet.Ow J w (runN x i)∧(dNet.ids w).Nodup∧(∀i∈dNet.ids w,i∈dNet.ids v∨H.length+2≤i)∧
  J[H.length+1]? = some ⟨[.int .i64 0,.int .i64 0,.slice none 0 0,.slice none 0 0,.slice none 0 0,.slice none 0 0,.slice none 0 0,.slice none 0 0,.slice none 0 0,.slice none 0 0,.int .i64 0],0,35⟩∧Chg H J []) ?_ (n:=m)
  ⟨0,v,rfl,by omega,by simp,by simp,by simp,by simp,b1,Dt.chg (T:=dNet) o cG (by simp),nd,fun i hi=>.inl hi,bR,cG⟩
 rintro q t J ⟨i,w,rfl,hi,t1,t2,t4,t5,bJ,oJ,dJ,mJ,bRJ,cJ⟩ ih
 have oneJ:=Qh oJ
 have hdis:∀k∈dNet.ids w,k≠H.length∧k≠H.length+1:=fun k hk=>by
  rcases mJ k hk with h|h
  ·have:=hlt k h;exact ⟨by omega,by omega⟩
  ·exact ⟨by omega,by omega⟩
 -- what is handed back
 have fin:∀(y:NetD) (J:Heap),Chg H J []→dNet.Ow J w y→RunPost H v y (dNet.val w y) (J.set (H.length+1) ⟨netCells w y,0,35⟩):=fun y J cJ oJ=>
  ⟨w,rfl,Dt.chg (T:=dNet) oJ (Ql _ _) (fun k hk hh=>by have:=(hdis k hk).2;simp at hh;omega),dJ,fun k hk=>(mJ k hk).imp _root_.id (fun h=>by omega),cJ.trans' (Ql _ _) (fun k hk=>.inr (by simp at hk;omega))⟩
 simp [t1,t2,t4,t5]
 refine Qf ?_ ?_<;>intro g
 ·have hi':i<m:=by omega
  obtain ⟨r1,r2,r3,r4⟩:=ra i (by omega)
  have lJ:=Q0 bJ
  have idl:=fun F=>F6 (frz:=F) oJ
  simp only [Qc] at idl
  have bJ':=bJ
  unfold netCells at bJ'
  simp [t1,t2,t4,t5,VM.look,bJ',oneJ,idl]
  by_cases g1:idle (runN x i)
  ·have hrun:runN x m=older (runN x i) ((m-i:Nat):Int):=by
    have h1:=Gt x i (m-i)
    rw [show i+(m-i)=m by omega] at h1
    rw [h1,Kc g1]
   have e1:=@w6 ((runN x i).2.2.2.2.2.2.2+(m:Int)) (by omega)
   have e2:∀[Inhabited Unit],IntKind.i64.wrap ((runN x i).2.2.2.2.2.2.2+(m:Int)-(i:Int))=(runN x i).2.2.2.2.2.2.2+((m-i:Nat):Int):=by intro _;rw [w64 (by omega) (by omega)];omega
   obtain ⟨T,hT⟩:∃T,T=(runN x i).2.2.2.2.2.2.2+((m-i:Nat):Int):=⟨_,rfl⟩
   rw [← hT] at e2
   have hod:older (runN x i) ((m-i:Nat):Int)=((runN x i).1,(runN x i).2.1,(runN x i).2.2.1,(runN x i).2.2.2.1,(runN x i).2.2.2.2.1,(runN x i).2.2.2.2.2.1,(runN x i).2.2.2.2.2.2.1,T):=by unfold older;rw [hT]
   rw [hrun,hod]
   generalize runN x i=z at *
   have gN:=Qi (r':=⟨netCells w (z.1,z.2.1,z.2.2.1,z.2.2.2.1,z.2.2.2.2.1,z.2.2.2.2.2.1,z.2.2.2.2.2.2.1,T),0,35⟩) bJ
   have cN:Chg J (J.set H.length ⟨netCells w (z.1,z.2.1,z.2.2.1,z.2.2.2.1,z.2.2.2.2.1,z.2.2.2.2.2.1,z.2.2.2.2.2.2.1,T),0,35⟩) [H.length]:=Ql _ _
   have bR3:=Qa bRJ cN (by simp)
   have gR:=Qi (r':=⟨netCells w (z.1,z.2.1,z.2.2.1,z.2.2.2.1,z.2.2.2.2.1,z.2.2.2.2.2.1,z.2.2.2.2.2.2.1,T),0,35⟩) bR3
   have hM:=fin (z.1,z.2.1,z.2.2.1,z.2.2.2.1,z.2.2.2.2.1,z.2.2.2.2.2.1,z.2.2.2.2.2.2.1,T) _ (cJ.trans' cN (fun k hk=>.inr (by simp at hk;omega))) (Dt.chg (T:=dNet) oJ cN (fun k hk hh=>by have:=(hdis k hk).1;simp at hh;omega))
   unfold netCells at gN bR3 gR hM
   simp only at gN bR3 gR hM
   simp [t1,t2,t4,t5,VM.look,bJ',oneJ,g1,e1,e2,gN,bR3,gR,hF1]
   simpa [Qc] using hM
  have st:=Ec (frz:=H.length) oJ r1 r2 r3 (by rw [r4];unfold inR;omega)
  simp only [Qc] at st
  simp [t1,t2,t4,t5,VM.look,bJ',oneJ,g1]
  refine Qd st ?_
  rintro _ J2 ⟨w2,rfl,s2,s5,s4,s3⟩
  have one2:=Qh s2
  have bJ2:=Qa bJ s5 (by simp)
  have bRJ2:=Qa bRJ s5 (by simp)
  have hg:runN x (i+1)=stepN (runN x i):=rfl
  have gN:=Qi (r':=⟨netCells w2 (stepN (runN x i)),0,35⟩) bJ2
  have cN:Chg J2 (J2.set H.length ⟨netCells w2 (stepN (runN x i)),0,35⟩) [H.length]:=Ql _ _
  have hF2:H.length≤H.length:=Nat.le_refl _
  have l2:=s5.1
  have l3:=Q0 bRJ
  have bJ2':=bJ2
  unfold netCells at bJ2'
  simp [Qc,t1,t2,t4,t5,VM.look,bJ2',one2]
  refine ih (m-(i+1)) _ _ ⟨i+1,w2,rfl,by omega,by simp [t1],by simp [t2],by simp [t4],?_,gN,Dt.chg (T:=dNet) s2 cN (fun k hk hh=>by have:=s4 k hk;simp at hh;omega),s3,fun k hk=>.inr (by have:=s4 k hk;omega),Qa bRJ2 cN (by simp),(cJ.trans s5).trans' cN (fun k hk=>.inr (by simp at hk;omega))⟩ (by omega)
  simp [t5];rw [w64 (by omega) (by omega)]
 ·have:i=m:=by omega
  subst this
  have gR:=Qi (r':=⟨netCells w (runN x i),0,35⟩) bRJ
  have hM:=fin (runN x i) J cJ oJ
  unfold netCells at bJ gR hM
  simp [t1,t2,t4,t5,VM.look,bJ,bRJ,gR,oneJ,hF1]
  simpa [Qc] using hM
theorem F7 {v:NetV} {x:NetD} {k:Int} (o:dNet.Ow H v x) (h9:allL 66000000 x.2.2.2.2.2.2.1) :
 wp (vcall C frz 54 [dNet.val v x,.int .i64 k] H) (Made2 dNet H (runNet x k) (decide (runs x k))):=by
 have ones:=Qh o
 have ecopy:=fun L=>Y1 (frz:=H.length) (H:=H++L) (v:=v) (x:=x) (Dt.app (T:=dNet) o)
 have nk:=fun F L=>V3 (frz:=F) (H:=H++L) (v:=v) (x:=x) (Dt.app (T:=dNet) o)
 simp only [Qc] at ecopy nk ⊢
 rw [Qb (fn:=Tryz.f54) Tryz.func54 rfl (by kernel_rfl) rfl]
 have hF1:H.length≤H.length+1:=by omega
 have fin:∀(J:Heap) (w:NetV) (y:NetD) (b:Bool),Chg H J []→
  dNet.Ow J w y→(dNet.ids w).Nodup→(∀i∈dNet.ids w,H.length+2≤i)→runNet x k=y→decide (runs x k)=b→Made2 dNet H (runNet x k) (decide (runs x k)) (.tuple #[dNet.val w y,.bool b]) (J.set (H.length+1) ⟨netCells w y,0,35⟩):=fun J w y b cJ oJ dJ mJ e1 e2=>by
  rw [e1,e2]
  exact ⟨_,rfl,w,rfl,Dt.chg (T:=dNet) oJ (Ql _ _) (fun i hi hh=>by have:=mJ i hi;simp at hh;omega),cJ.trans' (Ql _ _) (fun i hi=>.inr (by simp at hi;omega)),fun i hi=>by have:=mJ i hi;omega,dJ⟩
 by_cases g0:runs x k
 ·obtain ⟨m,hm⟩:∃m:Nat,k=m:=⟨k.toNat,by have:=g0.2.1.1;omega⟩
  subst hm
  have hm4:m≤400:=by have:=g0.2.1.2;omega
  have ht:=g0.1.2.2.2.2.2.2
  have ht2:=g0.2.2
  unfold inR at ht
  have hro:=Zv g0.1
  have e1:∀[Inhabited Unit],IntKind.i64.wrap (x.2.2.2.2.2.2.2+(m:Int))=x.2.2.2.2.2.2.2+m:=by intro _;exact w64 (by omega) (by omega)
  have e2:¬1000000<x.2.2.2.2.2.2.2+(m:Int):=by omega
  simp [ones,VM.look,nk,g0.1,Q4,g0.2.1,e1,e2]
  refine Qd (ecopy _) ?_
  rintro _ K ⟨n,rfl,on,cn,mn,dn⟩
  simp at mn
  have qn:=Qh on
  have rr:=Cq (frz:=H.length) on dn hm4 hro (Oy g0.1) h9 ht.1 ht2
  simp only [Qc] at rr
  have lK:=cn.1
  simp at lK
  simp [Qc,qn]
  refine Qd rr ?_
  rintro _ J ⟨w,rfl,ow,dw,mw,cw⟩
  have onew:=Qh ow
  have cJ:Chg H J []:=((Chg.app _).trans cn).trans cw
  have bR:J[H.length+1]? = some ⟨[.int .i64 0,.int .i64 0,.slice none 0 0,.slice none 0 0,.slice none 0 0,.slice none 0 0,.slice none 0 0,.slice none 0 0,.slice none 0 0,.slice none 0 0,.int .i64 0],0,35⟩:=Qa (Qa (by simp) cn (by simp)) cw (by simp)
  have gR:=Qi (r':=⟨netCells w (runN x m),0,35⟩) bR
  have hM:=fin J w (runN x m) true cJ ow dw (fun i hi=>by
   rcases mw i hi with h|h
   ·have:=mn i h;omega
   ·omega) (by unfold runNet;rw [if_pos g0,Int.toNat_natCast]) (decide_eq_true g0)
  unfold netCells at gR
  simp [Qc,VM.look,bR,gR,onew,hF1]
  simpa [g0,Qc,netCells] using hM
 ·by_cases h1:netOk x
  ·by_cases h2:inR 0 k 400
   ·have ht:=h1.2.2.2.2.2.2
    unfold inR at ht
    have e1:∀[Inhabited Unit],IntKind.i64.wrap (x.2.2.2.2.2.2.2+k)=x.2.2.2.2.2.2.2+k:=by intro _;unfold inR at h2;exact w64 (by omega) (by omega)
    have e2:1000000<x.2.2.2.2.2.2.2+k:=by
     refine Classical.byContradiction fun hh=>g0 ⟨h1,h2,by omega⟩
    simp [ones,VM.look,nk,h1,Q4,h2,e1,e2]
    refine Qd (ecopy _) ?_
    rintro _ K ⟨n,rfl,on,cn,mn,dn⟩
    simp at mn
    have qn:=Qh on
    have bR:K[H.length+1]? = some ⟨[.int .i64 0,.int .i64 0,.slice none 0 0,.slice none 0 0,.slice none 0 0,.slice none 0 0,.slice none 0 0,.slice none 0 0,.slice none 0 0,.slice none 0 0,.int .i64 0],0,35⟩:=Qa (by simp) cn (by simp)
    have gR:=Qi (r':=⟨netCells n x,0,35⟩) bR
    have hM:=fin K n x false ((Chg.app _).trans cn) on dn (fun i hi=>by have:=mn i hi;omega) (if_neg g0) (decide_eq_false g0)
    unfold netCells at gR
    simp [Qc,VM.look,bR,gR,qn,hF1]
    simpa [g0,Qc,netCells] using hM
   ·simp [ones,VM.look,nk,h1,Q4,h2]
    refine Qd (ecopy _) ?_
    rintro _ K ⟨n,rfl,on,cn,mn,dn⟩
    simp at mn
    have qn:=Qh on
    have bR:K[H.length+1]? = some ⟨[.int .i64 0,.int .i64 0,.slice none 0 0,.slice none 0 0,.slice none 0 0,.slice none 0 0,.slice none 0 0,.slice none 0 0,.slice none 0 0,.slice none 0 0,.int .i64 0],0,35⟩:=Qa (by simp) cn (by simp)
    have gR:=Qi (r':=⟨netCells n x,0,35⟩) bR
    have hM:=fin K n x false ((Chg.app _).trans cn) on dn (fun i hi=>by have:=mn i hi;omega) (if_neg g0) (decide_eq_false g0)
    unfold netCells at gR
    simp [Qc,VM.look,bR,gR,qn,hF1]
    simpa [g0,Qc,netCells] using hM
  ·simp [ones,VM.look,nk,h1]
   refine Qd (ecopy _) ?_
   rintro _ K ⟨n,rfl,on,cn,mn,dn⟩
   simp at mn
   have qn:=Qh on
   have bR:K[H.length+1]? = some ⟨[.int .i64 0,.int .i64 0,.slice none 0 0,.slice none 0 0,.slice none 0 0,.slice none 0 0,.slice none 0 0,.slice none 0 0,.slice none 0 0,.slice none 0 0,.int .i64 0],0,35⟩:=Qa (by simp) cn (by simp)
   have gR:=Qi (r':=⟨netCells n x,0,35⟩) bR
   have hM:=fin K n x false ((Chg.app _).trans cn) on dn (fun i hi=>by have:=mn i hi;omega) (if_neg g0) (decide_eq_false g0)
   unfold netCells at gR
   simp [Qc,VM.look,bR,gR,qn,hF1]
   simpa [g0,Qc,netCells] using hM
def actOk (k p q r s:Int):Prop:=
 if k=1 then inR 0 p 15∧inR 0 q 15∧inR 0 r 1∧inR 1 s 5 else if k=2 then inR 1 p 100∧q=0∧r=0∧s=0 else if k=3 then p=0∧q=0∧r=0∧s=0
 else if k=4 then inR 0 p 63∧q=0∧r=0∧s=0 else k=5∧inR 1 p 4∧inR 1 q 4∧r=0∧s=0
instance (k p q r s:Int):Decidable (actOk k p q r s):=by unfold actOk;infer_instance
end Go.Proofs.YtmddnnecgnpccaaGreat.V
set_option linter.all false
namespace Go.Proofs.YtmddnnecgnpccaaGreat.V
open Go Go.VM Go.Proofs
set_option maxRecDepth 10000
variable {frz:Nat} {H:Heap} {r:Nat} {vb:Value} {code:List Int}
theorem Cur.set {J:Heap} {id:Nat} {x:Row} (c:Cur J r vb code) (h1:r≠id) (h2:∀i∈ids vb,i≠id):Cur (J.set id x) r vb code:=
 c.chg (Ql _ _) (by simpa using h1) (fun i hi=>by simpa using h2 i hi)
theorem Fw (c:Cur H r vb code) (hf:frz≤r):wp (vcall C frz 22 [.pointer (some ⟨r,0,some 0⟩)] H) (fun u H'=>(∃w h,u=.agg #[.int .i64 w,.int .i64 h]∧okG w h∧2≤cnt w h)∧Chg H H' [r]∧Cur H' r vb code):=by
 have lt:=c.lt
 have vlt:=c.vlt
 rw [Qb (fn:=Tryz.f22) Tryz.func22 rfl (by kernel_rfl) rfl]
 simp
 refine Qd (En (c.app _) hf) ?_
 rintro _ K ⟨⟨w,h,rfl,hg⟩,c1,d1⟩
 have cH:Chg H K [r]:=(Chg.app [r]).trans c1
 have l0:=cH.1
 have b0:K[H.length]? = some ⟨[.int .i64 0,.int .i64 0],0,25⟩:=Qa (by simp) c1 (by simp;omega)
 have lK:=Q0 b0
 have hF:frz≤H.length:=by omega
 have hFK:frz≤K.length:=by omega
 have nc:=fun F H=>Qx (frz:=F) (H:=H) w h
 simp [hFK,VM.look,nc]
 refine Qf ?_ ?_<;>intro g
 ·have b1:=Qo b0 [⟨[.int .i64 2,.int .i64 h],0,25⟩]
  have g3:=Qi (r':=⟨[.int .i64 2,.int .i64 h],0,25⟩) b1
  have ltr:=d1.lt
  have h2:okG 2 h∧2≤cnt 2 h:=by
   have e:okG 2 h:=⟨by omega,hg.2⟩
   refine ⟨e,?_⟩
   unfold cnt;rw [if_pos e];have:=hg.2;omega
  simp [VM.look,b1,g3,hFK,hF]
  exact ⟨⟨2,h,⟨rfl,rfl⟩,h2⟩,(cH.trans (Chg.app _)).trans' (Ql _ _) (fun i hi=>.inr (by simp at hi;omega)),(d1.app _).set (by omega) (fun i hi=>by have:=vlt i hi;omega)⟩
 ·have b1:=Qo b0 [⟨[.int .i64 w,.int .i64 h],0,25⟩]
  have g3:=Qi (r':=⟨[.int .i64 w,.int .i64 h],0,25⟩) b1
  have ltr:=d1.lt
  simp [VM.look,b1,g3,hF]
  exact ⟨⟨w,h,⟨rfl,rfl⟩,hg,by omega⟩,(cH.trans (Chg.app _)).trans' (Ql _ _) (fun i hi=>.inr (by simp at hi;omega)),(d1.app _).set (by omega) (fun i hi=>by have:=vlt i hi;omega)⟩
theorem Ld {w h:Int} {id:Nat} (hid:id<1000) (hg:okG w h) (h2:2≤cnt w h) (c:Cur H r vb code) (hf:frz≤r):wp (vcall C frz 24 [.pointer (some ⟨r,0,some 0⟩),.agg #[.int .i64 w,.int .i64 h],.int .i64 id] H) (fun u H'=>(∃p:PkD,u=pkV p)∧Chg H H' [r]∧Cur H' r vb code):=by
 have lt:=c.lt
 have vlt:=c.vlt
 have cr:=Qg w h
 obtain ⟨N,hN⟩:∃N:Nat,cnt w h=N:=⟨(cnt w h).toNat,by omega⟩
 have nc:=fun F H=>Qx (frz:=F) (H:=H) w h
 rw [hN] at nc h2
 rw [Qb (fn:=Tryz.f24) Tryz.func24 rfl (by kernel_rfl) rfl]
 have e1:∀[Inhabited Unit],IntKind.i64.wrap ((N:Int)-1)=((N-1:Nat):Int):=by intro _;rw [w64 (by omega) (by omega)];omega
 simp [VM.look,nc]
 refine Qd (Wq (c.app _) hf N (by omega) (by omega)) ?_
 rintro _ K1 ⟨⟨a,rfl,ha⟩,c1,d1⟩
 have e2:=@w6 ((a:Int)+1) (by omega)
 simp [e1,e2]
 refine Qd (Wq d1 hf (N-1) (by omega) (by omega)) ?_
 rintro _ K2 ⟨⟨b,rfl,hb⟩,c2,d2⟩
 have e3:∀[Inhabited Unit],IntKind.i64.wrap ((a:Int)+1+(b:Int))=(a:Int)+1+b:=by intro _;exact w64 (by omega) (by omega)
 have e4:¬(N:Int)=0:=by omega
 have e4':¬N=0:=by omega
 simp [e3,e4,e4']
 have bl:=Wq (frz:=frz) d2 hf 2 (by decide) (by decide)
 refine Qd (by simpa using bl) ?_
 rintro _ K3 ⟨⟨x,rfl,hx⟩,c3,d3⟩
 simp
 have bl:=Wq (frz:=frz) d3 hf 5 (by decide) (by decide)
 refine Qd (by simpa using bl) ?_
 rintro _ K4 ⟨⟨y,rfl,hy⟩,c4,d4⟩
 have cH:Chg H K4 [r]:=((((Chg.app [r]).trans c1).trans c2).trans c3).trans c4
 have b0:K4[H.length+1]? = some ⟨[.int .i64 0,.int .i64 0,.int .i64 0,.int .i64 0,.int .i64 0],0,47⟩:=Qa (Qa (Qa (Qa (by simp) c1 (by simp;omega)) c2 (by simp;omega)) c3 (by simp;omega)) c4 (by simp;omega)
 have hF:frz≤H.length+1:=by omega
 have hm:((a:Int)+1+(b:Int)).tmod (N:Int)=(((a+1+b)%N:Nat):Int):=by rw [show (a:Int)+1+(b:Int)=((a+1+b:Nat):Int) by omega];exact Ph (by omega)
 have hlt:(a+1+b)%N<N:=Nat.mod_lt _ (by omega)
 have e5:∀[Inhabited Unit],IntKind.i64.wrap (((a+1+b)%N:Nat):Int)=(((a+1+b)%N:Nat):Int):=by intro _;exact w64 (by omega) (by omega)
 have e6:=@w6 (1+(y:Int)) (by omega)
 have gP:=Qi (r':=⟨[.int .i64 id,.int .i64 a,.int .i64 (((a:Int)+1+(b:Int)).tmod (N:Int)),.int .i64 x,.int .i64 (1+(y:Int))],0,47⟩) b0
 have ltr:=d4.lt
 simp [VM.look,b0,e6,hF,gP]
 exact ⟨⟨_,_,_,_,_,rfl⟩,cH.trans' (Ql _ _) (fun i hi=>.inr (by simp at hi;omega)),d4.set (by omega) (fun i hi=>by have:=vlt i hi;omega)⟩
structure Kept (x y:NetD):Prop where
 ok:netOk y
 m:y.1=x.1
 t:y.2.1=x.2.1
 a:y.2.2.2.2.2.2.1=x.2.2.2.2.2.2.1
 tm:y.2.2.2.2.2.2.2=x.2.2.2.2.2.2.2
theorem Kept.trans {x y z:NetD} (h:Kept x y) (k:Kept y z):Kept x z:=⟨k.ok,k.m.trans h.m,k.t.trans h.t,k.a.trans h.a,k.tm.trans h.tm⟩
theorem F5 {x:NetD} (h:netOk x) (p:PkD):Kept x (sendP x p):=by
 unfold sendP
 split
 ·rename_i g
  obtain ⟨_,g1,g2⟩:=g
  obtain ⟨h1,⟨s1,s2,s3,s4,s5⟩,h3,h4,h5,h6,h7⟩:=h
  refine ⟨⟨h1,⟨s1,s2,s3,?_,s5⟩,h3,fun l hl=>?_,h5,h6,h7⟩,rfl,rfl,rfl,rfl⟩
  ·show ((x.2.2.2.2.2.1.set _ _).length:Int)=_
   rw [List.length_set];exact s4
  ·rcases List.mem_or_eq_of_mem_set hl with hl|rfl
   ·exact h4 l hl
   ·have hf:=Zl g1
    refine ⟨by rw [List.length_append];omega,fun f hf'=>?_⟩
    rcases List.mem_append.1 hf' with hf'|hf'
    ·by_cases hl:p.2.1.toNat<x.2.2.2.2.2.1.length
     ·exact (h4 _ (Yh hl)).2 f hf'
     ·simp [List.getD_eq_getElem?_getD,List.getElem?_eq_none (Nat.le_of_not_lt hl)] at hf'
    ·unfold flitsOf at hf'
     rw [if_pos g1] at hf'
     obtain ⟨i,_,rfl⟩:=List.mem_map.1 hf'
     exact ⟨g1.2.2.1,g1.2.2.2.2.1⟩
 ·exact ⟨h,rfl,rfl,rfl,rfl⟩
theorem Ea {m:MeshD} {t:ClassesD} (h:classesOk m.1 m.2.1 m.2.2 t.1 t.2):netOk (netNew m t)∧(netNew m t).1=m∧allL 66000000 (netNew m t).2.2.2.2.2.2.1∧(netNew m t).2.2.2.2.2.2.2=0:=by
 have cr:=Qg m.1 m.2.1
 unfold netNew
 rw [if_pos h]
 refine ⟨⟨h,⟨?_,?_,?_,?_,?_⟩,fun i hi=>?_,fun l hl=>?_,fun o ho=>?_,fun o ho=>?_,?_⟩,rfl,fun l hl=>?_,rfl⟩
 ·simp only [List.length_replicate];omega
 ·simp only [List.length_replicate];omega
 ·simp only [List.length_replicate];omega
 ·simp only [List.length_replicate];omega
 ·simp only [List.length_replicate];omega
 ·have e:(List.replicate (10*(cnt m.1 m.2.1).toNat) ([]:List FlitD)).getD i []=[]:=by
   rw [Wx hi,List.getElem_replicate]
  show bufOk _ _ ((List.replicate (10*(cnt m.1 m.2.1).toNat) ([]:List FlitD)).getD i []) _
  rw [e]
  exact ⟨by simp,by simp,fun f hf=>by simp at hf⟩
 ·have:=List.eq_of_mem_replicate hl;subst this;exact ⟨by simp,fun f hf=>by simp at hf⟩
 ·have:=List.eq_of_mem_replicate ho;subst this;unfold inR;omega
 ·have:=List.eq_of_mem_replicate ho;subst this;unfold inR;omega
 ·exact ⟨show (0:Int)≤0 by omega,show (0:Int)≤1000000 by omega⟩
 ·have:=List.eq_of_mem_replicate hl;subst this;simp
end Go.Proofs.YtmddnnecgnpccaaGreat.V
set_option linter.all false
namespace Go.Proofs.YtmddnnecgnpccaaGreat.V
open Go Go.VM Go.Proofs
set_option maxRecDepth 10000
variable {frz:Nat} {H:Heap}
def chipNew (w h:Int):ChipD:=if okG w h then (netNew (w,h,[]) (splitT w h),[]) else (net0,[])
theorem Uc {w h:Int} (g:okG w h):classesOk w h [] (splitT w h).1 (splitT w h).2:=by
 have hn:cnt w h=((cnt w h).toNat:Int):=by have:=Qg w h;omega
 unfold splitT;rw [if_pos g]
 exact ⟨D5 (by omega) g hn,D5 (by omega) g hn⟩
theorem I7 {K:Heap} {n:NetV} {x:NetD} (c:Chg H K []) (o:dNet.Ow K n x) (m:∀i∈dNet.ids n,H.length≤i) (d:(dNet.ids n).Nodup):dChip.Made H (x,[]) (dChip.val (n,.slice none 0 0) (x,[])) K:=by
 refine ⟨(n,.slice none 0 0),rfl,⟨o,⟨.inl ⟨rfl,rfl⟩,by simp⟩⟩,c,fun i hi=>?_,?_⟩
 ·rcases List.mem_append.1 hi with hi|hi
  ·exact m i hi
  ·simp [dPk,dFlat,ids] at hi
 ·show (dNet.ids n++[]).Nodup
  rw [List.append_nil];exact d
theorem Ig (w h:Int) :
 wp (vcall C frz 23 [.agg #[.int .i64 w,.int .i64 h]] H) (Made2 dChip H (chipNew w h) (decide (okG w h))):=by
 rw [Qb (fn:=Tryz.f23) Tryz.func23 rfl (by kernel_rfl) rfl]
 simp
 refine Qd (Dl w h) ?_
 rintro _ K1 ⟨_,rfl,vc,rfl,oc,c1,m1,d1⟩
 have cH:Chg H K1 []:=(Chg.app _).trans c1
 have bG:K1[H.length]? = some ⟨[.int .i64 w,.int .i64 h],0,25⟩:=Qa (by simp) c1 (by simp)
 have bR:K1[H.length+1]? = some ⟨[.int .i64 0,.int .i64 0,.slice none 0 0,.slice none 0 0,.slice none 0 0,.slice none 0 0,.slice none 0 0,.slice none 0 0,.slice none 0 0,.slice none 0 0,.int .i64 0,.slice none 0 0],0,38⟩:=Qa (by simp) c1 (by simp)
 have onec:=Wr oc
 have l1:=cH.1
 have lR:=Q0 bR
 have bG2:=fun L=>Qo bG L
 have bR2:=fun L=>Qo bR L
 have hF:H.length≤H.length+1:=by omega
 have zero:∀K:Heap,Chg H K []→K[H.length+1]? = some ⟨[.int .i64 0,.int .i64 0,.slice none 0 0,.slice none 0 0,.slice none 0 0,.slice none 0 0,.slice none 0 0,.slice none 0 0,.slice none 0 0,.slice none 0 0,.int .i64 0,.slice none 0 0],0,38⟩→¬okG w h→Made2 dChip H (chipNew w h) (decide (okG w h)) (.tuple #[.agg #[.int .i64 0,.int .i64 0,.slice none 0 0,.slice none 0 0,.slice none 0 0,.slice none 0 0,.slice none 0 0,.slice none 0 0,.slice none 0 0,.slice none 0 0,.int .i64 0,.slice none 0 0],.bool false]) (K.set (H.length+1) ⟨[.int .i64 0,.int .i64 0,.slice none 0 0,.slice none 0 0,.slice none 0 0,.slice none 0 0,.slice none 0 0,.slice none 0 0,.slice none 0 0,.slice none 0 0,.int .i64 0,.slice none 0 0],0,38⟩):=fun K cK bK g=>by
  have e:chipNew w h=(net0,[]):=if_neg g
  rw [e,decide_eq_false g]
  have e2:K.set (H.length+1) ⟨[.int .i64 0,.int .i64 0,.slice none 0 0,.slice none 0 0,.slice none 0 0,.slice none 0 0,.slice none 0 0,.slice none 0 0,.slice none 0 0,.slice none 0 0,.int .i64 0,.slice none 0 0],0,38⟩=K:=by
   apply List.ext_getElem? ;intro j
   rw [List.getElem?_set]
   split
   ·rename_i hj;subst hj;rw [bK];simp [Q0 bK]
   ·rfl
  rw [e2]
  exact ⟨_,rfl,I7 cK (Gb K) (by rw [Sl];simp) (by rw [Sl];simp)⟩
 by_cases g:okG w h
 rotate_left
 ·have z:=zero (K1++[⟨[vc.1,vc.2],0,32⟩]) (cH.trans (Chg.app _)) (bR2 _) g
  have gR:=Qi (r':=⟨[.int .i64 0,.int .i64 0,.slice none 0 0,.slice none 0 0,.slice none 0 0,.slice none 0 0,.slice none 0 0,.slice none 0 0,.slice none 0 0,.slice none 0 0,.int .i64 0,.slice none 0 0],0,38⟩) (bR2 [⟨[vc.1,vc.2],0,32⟩])
  simp [Wo,onec,g,VM.look,l1,bR2,gR,hF]
  rw [decide_eq_false g] at z
  exact z
 simp [Wo,onec,g,VM.look,l1,bG2]
 have om:dMesh.Ow (K1++[⟨[vc.1,vc.2],0,32⟩]) (.slice none 0 0) (w,h,[]):=⟨.inl ⟨rfl,rfl⟩,by simp⟩
 have nn:=Fm (frz:=H.length) om (Dt.app (T:=dClasses) (L:=[⟨[vc.1,vc.2],0,32⟩]) oc)
 simp only [Ys,Wo] at nn
 refine Qd nn ?_
 rintro _ K2 ⟨_,rfl,vn,rfl,on,c2,m2,d2⟩
 have bR:=Qa (bR2 [⟨[vc.1,vc.2],0,32⟩]) c2 (by simp)
 have cH2:Chg H K2 []:=(cH.trans (Chg.app _)).trans c2
 have onen:=Qh on
 have l2:=cH2.1
 have ek:classesOk w h [] (splitT w h).1 (splitT w h).2:=Uc g
 have e:chipNew w h=(netNew (w,h,[]) (splitT w h),[]):=if_pos g
 rw [e]
 generalize netNew (w,h,[]) (splitT w h)=x at *
 have bR2:=fun L=>Qo bR L
 have gR:=Qi (r':=⟨[.int .i64 x.1.1,.int .i64 x.1.2.1,vn.1,vn.2.1.1,vn.2.1.2,vn.2.2.1.1,vn.2.2.2.1,vn.2.2.2.2.1,vn.2.2.2.2.2.1.1,vn.2.2.2.2.2.2.1.1,.int .i64 x.2.2.2.2.2.2.2,.slice none 0 0],0,38⟩) (bR2 [⟨[.int .i64 x.1.1,.int .i64 x.1.2.1,vn.1,vn.2.1.1,vn.2.1.2,vn.2.2.1.1,vn.2.2.2.1,vn.2.2.2.2.1,vn.2.2.2.2.2.1.1,vn.2.2.2.2.2.2.1.1,.int .i64 x.2.2.2.2.2.2.2],0,35⟩])
 simp [Qc,onen,g,ek,VM.look,l2,bR2,gR,hF]
 have eR:Chg (K2++[⟨[.int .i64 x.1.1,.int .i64 x.1.2.1,vn.1,vn.2.1.1,vn.2.1.2,vn.2.2.1.1,vn.2.2.2.1,vn.2.2.2.2.1,vn.2.2.2.2.2.1.1,vn.2.2.2.2.2.2.1.1,.int .i64 x.2.2.2.2.2.2.2],0,35⟩]) ((K2++([⟨[.int .i64 x.1.1,.int .i64 x.1.2.1,vn.1,vn.2.1.1,vn.2.1.2,vn.2.2.1.1,vn.2.2.2.1,vn.2.2.2.2.1,vn.2.2.2.2.2.1.1,vn.2.2.2.2.2.2.1.1,.int .i64 x.2.2.2.2.2.2.2],0,35⟩]:List Row)).set (H.length+1) ⟨[.int .i64 x.1.1,.int .i64 x.1.2.1,vn.1,vn.2.1.1,vn.2.1.2,vn.2.2.1.1,vn.2.2.2.1,vn.2.2.2.2.1,vn.2.2.2.2.2.1.1,vn.2.2.2.2.2.2.1.1,.int .i64 x.2.2.2.2.2.2.2,.slice none 0 0],0,38⟩) [H.length+1]:=Ql _ _
 have m2':∀i∈dNet.ids vn,K1.length<i:=fun i hi=>by have:=m2 i hi;simp at this;omega
 have on2:=Dt.chg (T:=dNet) (Dt.app (T:=dNet) (L:=[⟨[.int .i64 x.1.1,.int .i64 x.1.2.1,vn.1,vn.2.1.1,vn.2.1.2,vn.2.2.1.1,vn.2.2.2.1,vn.2.2.2.2.1,vn.2.2.2.2.2.1.1,vn.2.2.2.2.2.2.1.1,.int .i64 x.2.2.2.2.2.2.2],0,35⟩]) on) eR (fun i hi hh=>by have:=m2' i hi;simp at hh;omega)
 exact ⟨_,rfl,I7 ((cH2.trans (Chg.app (L:=[⟨[.int .i64 x.1.1,.int .i64 x.1.2.1,vn.1,vn.2.1.1,vn.2.1.2,vn.2.2.1.1,vn.2.2.2.1,vn.2.2.2.2.1,vn.2.2.2.2.2.1.1,vn.2.2.2.2.2.2.1.1,.int .i64 x.2.2.2.2.2.2.2],0,35⟩]) [])).trans' eR (fun i hi=>.inr (by simp at hi;omega))) on2 (fun i hi=>by have:=m2' i hi;omega) d2⟩
end Go.Proofs.YtmddnnecgnpccaaGreat.V
set_option linter.all false
namespace Go.Proofs.YtmddnnecgnpccaaGreat.V
open Go Go.VM Go.Proofs
set_option maxRecDepth 10000
theorem Zt (l m:List FlitD):tailIds (l++m)=tailIds l++tailIds m:=by simp [tailIds]
def firstFl (p:PkD) (n:Nat):List FlitD:=(List.range n).map fun i:Nat=>(p.1,p.2.2.1,p.2.2.2.1,decide ((i:Int)=0),false)
theorem N6 (p:PkD) (n:Nat):firstFl p (n+1)=firstFl p n++[(p.1,p.2.2.1,p.2.2.2.1,decide ((n:Int)=0),false)]:=by
 unfold firstFl;rw [List.range_succ,List.map_append];rfl
theorem Su {w h:Int} {p:PkD} (g:packetOk w h p):∃n:Nat,flitsOf w h p=firstFl p n++[(p.1,p.2.2.1,p.2.2.2.1,decide ((n:Int)=0),true)]:=by
 have h5:=g.2.2.2.2.2
 unfold inR at h5
 obtain ⟨n,hn⟩:∃n:Nat,p.2.2.2.2.toNat=n+1:=⟨p.2.2.2.2.toNat-1,by omega⟩
 have hp:p.2.2.2.2=(n:Int)+1:=by omega
 refine ⟨n,?_⟩
 unfold flitsOf
 rw [if_pos g,hn,List.range_succ,List.map_append,hp]
 congr 1
 ·unfold firstFl
  refine List.map_congr_left fun i hi=>?_
  have:=List.mem_range.1 hi
  have e:decide ((i:Int)=(n:Int)+1-1)=false:=by rw [decide_eq_false_iff_not];omega
  rw [e]
 ·simp
theorem T3 (p:PkD):∀n,Str none (firstFl p n) (if n=0 then none else some (p.1,p.2.2.1,p.2.2.2.1))
 | 0=>rfl
 | n+1=>by
  rw [N6,if_neg (by omega)]
  have:=(T3 p n).snoc (f:=(p.1,p.2.2.1,p.2.2.2.1,decide ((n:Int)=0),false)) ?_
  ·exact this
  ·by_cases e:n=0
   ·rw [if_pos e];exact .inl ⟨by subst e;simp,rfl⟩
   ·rw [if_neg e];exact .inr ⟨by simp;omega,rfl⟩
theorem T8 {w h:Int} {p:PkD} (g:packetOk w h p):Str none (flitsOf w h p) none:=by
 obtain ⟨n,e⟩:=Su g
 rw [e]
 refine (T3 p n).snoc (f:=(p.1,p.2.2.1,p.2.2.2.1,decide ((n:Int)=0),true)) ?_
 by_cases e:n=0
 ·rw [if_pos e];exact .inl ⟨by subst e;simp,rfl⟩
 ·rw [if_neg e];exact .inr ⟨by simp;omega,rfl⟩
theorem Pw {w h:Int} {p:PkD} (g:packetOk w h p):tailIds (flitsOf w h p)=[p.1]:=by
 obtain ⟨n,e⟩:=Su g
 have h1:tailIds (firstFl p n)=[]:=by
  unfold tailIds
  rw [List.filter_eq_nil_iff.2]
  ·rfl
  ·intro y hy
   unfold firstFl at hy
   obtain ⟨i,_,rfl⟩:=List.mem_map.1 hy
   simp [isTail]
 rw [e,Zt,h1]
 rfl
theorem Ub {w h:Int} {p:PkD} {y:FlitD} (hy:y∈flitsOf w h p):p.1=y.1∧p.2.2.1=y.2.1∧p.2.2.2.1=y.2.2.1:=by
 unfold flitsOf at hy
 split at hy
 ·obtain ⟨i,_,rfl⟩:=List.mem_map.1 hy;exact ⟨rfl,rfl,rfl⟩
 ·simp at hy
theorem S8 {x:NetD} {list:List PkD} {s t c:Nat} (h:∀p∈list,packetOk x.1.1 x.1.2.1 p):tailIds (flowFl x list s t c)=sentIds list s t c:=by
 unfold flowFl sentIds
 have h':∀p∈list.filter (fun p=>decide (isFlow s t c p)),packetOk x.1.1 x.1.2.1 p:=fun p hp=>h p (List.mem_filter.1 hp).1
 generalize list.filter (fun p=>decide (isFlow s t c p))=l at *
 induction l with
 | nil=>rfl
 | cons p l ih=>
  rw [List.flatMap_cons,Zt,Pw (h' p (List.mem_cons_self ..)),ih fun q hq=>h' q (List.mem_cons_of_mem _ hq)]
  rfl
theorem Ez {x:NetD} {list:List PkD} {s t c:Nat} (h:∀p∈list,packetOk x.1.1 x.1.2.1 p):Str none (flowFl x list s t c) none:=by
 unfold flowFl
 have h':∀p∈list.filter (fun p=>decide (isFlow s t c p)),packetOk x.1.1 x.1.2.1 p:=fun p hp=>h p (List.mem_filter.1 hp).1
 generalize list.filter (fun p=>decide (isFlow s t c p))=l at *
 induction l with
 | nil=>rfl
 | cons p l ih=>
  rw [List.flatMap_cons]
  exact (T8 (h' p (List.mem_cons_self ..))).app (ih fun q hq=>h' q (List.mem_cons_of_mem _ hq))
theorem R2 {A:SSD} {list:List PkD} (u:Uniq list) {t:Nat} (gA:∀y∈A.getD t [],Gen list y) (s c:Nat):((A.getD t []).filter fun f=>f.2.2.1=(c:Int)).filter (inF list s t c)=(A.getD t []).filter (inF list s t c):=by
 rw [List.filter_filter]
 refine List.filter_congr fun y hy=>?_
 by_cases e:inF list s t c y=true
 ·rw [e];simp [(Jo u (gA y hy) e).2]
 ·have e:inF list s t c y=false:=by simpa using e
  rw [e];rfl
theorem Kf (l:List FlitD) (list:List PkD) (s t c:Nat):among (tailIds l) list s t c=tailIds (l.filter (inF list s t c)):=by
 unfold among tailIds
 rw [List.filter_map,List.filter_filter,List.filter_filter]
 congr 1
 refine List.filter_congr fun y _=>?_
 exact Bool.and_comm _ _
theorem Dj {x:NetD} {list:List PkD} (hn:netOk x) (h:Sent (stat x) list) (g:GoodN x list):keepsOk x list:=by
 refine ⟨hn,fun t ht c hc s hs=>?_⟩
 have hA:x.2.2.2.2.2.2.1.length=nC x:=g.lA
 rw [hA] at ht hs
 obtain ⟨st,fr,sr,w,_⟩:=g.wf
 have w7:=w.w7 t c ht hc
 obtain ⟨R,L,rt⟩:=Yu (x:=stat x) (W7 (x:=stat x) hn.1) hs ht hc
 have z:=(g.fl s t c R L hs ht hc rt).z1
 unfold flowOk arrIds
 rw [T0 _ _ w7,Kf,R2 h.u fun y hy=>(g.gA t y hy).1,← S8 (x:=stat x) h.ok,← z,Zt]
 unfold isPre
 rw [List.take_left]
theorem Good.still {x:NetD} {list:List PkD} {B:SSD} {O:List Int} {A S:SSD} (lB:B.length=10*nC x) (lO:O.length=10*nC x) (lA:A.length=nC x) (lS:S.length=nC x) (hB:∀j,B.getD j []=[]) (hS:∀j,S.getD j []=[]) (hO:∀o∈O,o=-1)
 (gA:∀(t:Nat) y,y∈A.getD t []→Gen list y∧y.2.1=(t:Int)) (w7:∀t c:Nat,t<nC x→c<2→Str none ((A.getD t []).filter fun f=>f.2.2.1=(c:Int)) none)
 (zz:∀s t c:Nat,s<nC x→t<nC x→c<2→(A.getD t []).filter (inF list s t c)=flowFl x list s t c):Good x list B O A S:=by
 have eO:∀a p c,a<nC x→p<5→c<2→O.getD (outAt a p c) 0=-1:=fun a p c ha hp hc=>by
  have hl:outAt a p c<O.length:=by unfold outAt;omega
  rw [List.getD_eq_getElem?_getD,List.getElem?_eq_getElem hl]
  exact hO _ (List.getElem_mem hl)
 refine ⟨lB,lO,lA,lS,fun j y hy=>?_,fun j y hy=>?_,fun j y hy=>?_,gA,fun j hne=>absurd (hB j) hne,⟨fun _=>none,fun _=>none,fun _=>none,⟨fun _ _ _ _ _ _ _=>rfl,fun a p c q h1 h2 h3 h4 h5=>?_,fun a q c k h1 h2 h3 h4=>?_,fun a p c h1 h2 h3 h4=>?_,fun k c h1 h2=>?_,fun k h1=>?_,w7⟩,⟨fun _ _ e=>by simp at e,fun _ _ e=>by simp at e,fun _ _ _ _ _ _ _ _ _ _ _ e=>by simp at e,fun _ _ _ _ _ _ _ _ e=>by simp at e⟩⟩,fun s t c R L h1 h2 h3 rt=>⟨?_,fun j y hy=>?_,fun k y hy=>?_⟩⟩
 ·rw [hB] at hy;simp at hy
 ·rw [hB] at hy;simp at hy
 ·rw [hS] at hy;simp at hy
 ·rw [eO a p c h1 h2 h3] at h5;omega
 ·simp at h4
 ·rw [hB];rfl
 ·rw [hB];rfl
 ·rw [hS];rfl
 ·have ec:∀L,cat (fun n=>(B.getD (R n) []).filter (inF list s t c)) L=[]:=fun L=>by
   induction L with
   | zero=>show (B.getD (R 0) []).filter _=[];rw [hB];rfl
   | succ L ih=>show (B.getD (R (L+1)) []).filter _++cat _ L=[];rw [hB,ih];rfl
  rw [ec,hS,zz s t c h1 h2 h3]
  simp
 ·rw [hB] at hy;simp at hy
 ·rw [hS] at hy;simp at hy
theorem Ds {x:NetD} {list:List PkD} (hn:netOk x) (hi:idle x) (h:Sent (stat x) list) (g:GoodN x list) :
 (∀s t c:Nat,s<nC x→t<nC x→c<2→(x.2.2.2.2.2.2.1.getD t []).filter (inF list s t c)=flowFl x list s t c)∧∀t c:Nat,t<nC x→c<2→Str none ((x.2.2.2.2.2.2.1.getD t []).filter fun f=>f.2.2.1=(c:Int)) none:=by
 have hB:=Ze hi.1
 have hS:=Ze hi.2
 have zz:∀s t c:Nat,s<nC x→t<nC x→c<2→(x.2.2.2.2.2.2.1.getD t []).filter (inF list s t c)=flowFl x list s t c:=fun s t c hs ht hc=>by
  obtain ⟨R,L,rt⟩:=Yu (x:=stat x) (W7 (x:=stat x) hn.1) hs ht hc
  have z:=(g.fl s t c R L hs ht hc rt).z1
  have ec:∀L,cat (fun n=>(x.2.2.1.getD (R n) []).filter (inF list s t c)) L=[]:=fun L=>by
   induction L with
   | zero=>show (x.2.2.1.getD (R 0) []).filter _=[];rw [hB];rfl
   | succ L ih=>show (x.2.2.1.getD (R (L+1)) []).filter _++cat _ L=[];rw [hB,ih];rfl
  rw [ec,hS] at z
  simp at z
  exact z
 refine ⟨zz,fun t c ht hc=>?_⟩
 obtain ⟨st,fr,sr,w,_⟩:=g.wf
 have w7:=w.w7 t c ht hc
 generalize hl:((x.2.2.2.2.2.2.1.getD t []).filter fun f=>f.2.2.1=(c:Int))=l at *
 cases hu:st (outAt t 4 c) with
 | none=>rw [hu] at w7;exact w7
 | some k=>
  exfalso
  rw [hu] at w7
  have hne:l≠[]:=fun e=>by rw [e] at w7;have:(none:Option Key)=some k:=w7;simp at this
  obtain ⟨m,y,e⟩:∃m y,l=m++[y]:=⟨l.dropLast,l.getLast hne,(List.dropLast_concat_getLast hne).symm⟩
  rw [e] at w7
  obtain ⟨_,_,_,ek⟩:=w7.unsnoc
  have nt:=(Yl ek.symm).1
  have hy:y∈x.2.2.2.2.2.2.1.getD t []∧y.2.2.1=(c:Int):=by
   have:y∈l:=by rw [e];simp
   rw [← hl] at this
   simpa using List.mem_filter.1 this
  obtain ⟨⟨p,hp,p1,p2,p3⟩,p4⟩:=g.gA t y hy.1
  obtain ⟨_,⟨q1,q2⟩,_,_⟩:=h.ok p hp
  have hnn:=Xt x
  have q2':p.2.1<cnt x.1.1 x.1.2.1:=q2
  have es:((p.2.1.toNat:Nat):Int)=p.2.1:=by omega
  have hF:inF list p.2.1.toNat t c y=true:=by
   unfold inF
   rw [decide_eq_true_eq]
   exact ⟨p,hp,p1,by rw [es],by rw [p2,p4],by rw [p3,hy.2]⟩
  have z:=zz p.2.1.toNat t c (by omega) ht hc
  have ea:=R2 h.u (fun y hy=>(g.gA t y hy).1) p.2.1.toNat c
  rw [hl,e,List.filter_append,List.filter_cons_of_pos hF,z] at ea
  have sf:=Ez (x:=stat x) (s:=p.2.1.toNat) (t:=t) (c:=c) h.ok
  have sf':Str none (flowFl x list p.2.1.toNat t c) none:=sf
  rw [← ea] at sf'
  obtain ⟨_,_,_,ek2⟩:=sf'.unsnoc
  rw [← ek] at ek2
  simp at ek2
end Go.Proofs.YtmddnnecgnpccaaGreat.V
