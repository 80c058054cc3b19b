/- Texts of a proof, joined. -/
import Derived.Test.YtaldglgobgjeaaaGreatKM0
import Derived.Test.YtaldglgobgjeaaaGreatKM1
import Derived.Test.YtaldglgobgjeaaaGreatKFnDrained0
set_option linter.all false
namespace Go.Proofs.YtaldglgobgjeaaaGreat.V
open Go Go.VM Go.Proofs
set_option maxRecDepth 10000
variable {frz:Nat} {H:Heap}
def alongP (x g:Int):Int:=if x<g then 1 else if g<x then 3 else -1
def acrossP (y g:Int):Int:=if y<g then 2 else if g<y then 0 else -1
def stdPort (w r a to:Int):Int:=
 if a=to then 4 else
 if acrossP (a/w) (to/w)<0∨(0≤alongP (a%w) (to%w)∧((if r=4 then 1+to%2 else r)=1∨((if r=4 then 1+to%2 else r)=3∧alongP (a%w) (to%w)=3))) then alongP (a%w) (to%w) else acrossP (a/w) (to/w)
def stdTab (w r:Int) (n:Nat):List Int:=(List.range (n*n)).map fun i=>stdPort w r (i/n:Nat) (i%n:Nat)
theorem Ty (w r:Int) (n:Nat):(stdTab w r n).length=n*n:=by simp [stdTab]
theorem Bj (x g:Int):vcall C frz 201 [.int .i64 x,.int .i64 g] H=some (.int .i64 (alongP x g),H):=by
 rw [Qb (fn:=Tryz.f201) Tryz.func201 rfl (by kernel_rfl) rfl]
 simp
 refine Qq _ ?_ ?_<;>intro h1<;>simp [h1,alongP]
 refine Qq _ ?_ ?_<;>intro h2<;>simp [h2]
theorem Gc (x g:Int):vcall C frz 202 [.int .i64 x,.int .i64 g] H=some (.int .i64 (acrossP x g),H):=by
 rw [Qb (fn:=Tryz.f202) Tryz.func202 rfl (by kernel_rfl) rfl]
 simp
 refine Qq _ ?_ ?_<;>intro h1<;>simp [h1,acrossP]
 refine Qq _ ?_ ?_<;>intro h2<;>simp [h2]
theorem qp (w h r a to:Int) (hr:1≤r∧r≤4) (ha:isN w h a) (hto:isN w h to) :
 vcall C frz 192 [.agg #[.int .i64 w,.int .i64 h],.int .i64 r,.int .i64 a,.int .i64 to] H=some (.int .i64 (stdPort w r a to),H):=by
 rw [Qb (fn:=Tryz.f192) Tryz.func192 rfl (by kernel_rfl) rfl]
 obtain ⟨hg,a0,_,a1⟩:=Yn ha
 obtain ⟨_,t0,_,t1⟩:=Yn hto
 have hw:=hg.1
 have hir:inR 1 r 4:=hr
 have wz:¬w=0:=by omega
 have e1:a.tmod w=a%w:=Int.tmod_eq_emod_of_nonneg a0
 have e2:to.tmod w=to%w:=Int.tmod_eq_emod_of_nonneg t0
 have e3:a.tdiv w=a/w:=Int.tdiv_eq_ediv_of_nonneg a0
 have e4:to.tdiv w=to/w:=Int.tdiv_eq_ediv_of_nonneg t0
 have e5:to.tmod 2=to%2:=Int.tmod_eq_emod_of_nonneg t0
 have d1:0≤a/w∧a/w≤a:=⟨Int.ediv_nonneg a0 (by omega),Int.ediv_le_self _ a0⟩
 have d2:0≤to/w∧to/w≤to:=⟨Int.ediv_nonneg t0 (by omega),Int.ediv_le_self _ t0⟩
 have f3:=@w6 (a/w) (by omega)
 have f4:=@w6 (to/w) (by omega)
 have f5:=@w6 (1+to%2) (by omega)
 simp [W4,ha,hto,Qj,hir]
 refine Qq _ ?_ ?_<;>intro h4
 ·subst h4
  simp [e5,f5]
  rw [Qe (h:=by kernel_rfl)]
  simp [VM.look,wz,e1,e2,e3,e4,f3,f4,Bj,Gc]
  refine Qq _ ?_ ?_<;>intro h5
  ·simp [h5,stdPort]
  ·have est:stdPort w 4 a to=if acrossP (a/w) (to/w)<0∨(0≤alongP (a%w) (to%w)∧(1+to%2=1∨(1+to%2=3∧alongP (a%w) (to%w)=3))) then alongP (a%w) (to%w) else acrossP (a/w) (to/w):=by simp [stdPort,h5]
   rw [est]
   generalize alongP (a%w) (to%w)=X
   generalize acrossP (a/w) (to/w)=Y
   generalize 1+to%2=R
   simp
   by_cases q1:Y<0
   ·simp [q1]
   ·by_cases q2:0≤X
    ·by_cases q3:R=1
     ·simp [q1,q2,q3]
     ·by_cases q4:R=3
      ·by_cases q5:X=3
       ·simp [q1,q2,q3,q4,q5]
       ·simp [q1,q2,q3,q4,q5]
      ·simp [q1,q2,q3,q4]
    ·simp [q1,q2]
 ·simp [h4]
  rw [Qe (h:=by kernel_rfl)]
  simp [VM.look,wz,e1,e2,e3,e4,f3,f4,Bj,Gc]
  refine Qq _ ?_ ?_<;>intro h5
  ·simp [h5,stdPort]
  ·have est:stdPort w r a to=if acrossP (a/w) (to/w)<0∨(0≤alongP (a%w) (to%w)∧(r=1∨(r=3∧alongP (a%w) (to%w)=3))) then alongP (a%w) (to%w) else acrossP (a/w) (to/w):=by simp [stdPort,h4,h5]
   rw [est]
   generalize alongP (a%w) (to%w)=X
   generalize acrossP (a/w) (to/w)=Y
   simp
   by_cases q1:Y<0
   ·simp [q1]
   ·by_cases q2:0≤X
    ·by_cases q3:r=1
     ·simp [q1,q2,q3]
     ·by_cases q4:r=3
      ·by_cases q5:X=3
       ·simp [q1,q2,q3,q4,q5]
       ·simp [q1,q2,q3,q4,q5]
      ·simp [q1,q2,q3,q4]
    ·simp [q1,q2]
theorem Nh (w h r:Int) (n:Nat) (hr:1≤r∧r≤4) (hg:okG w h) (hn:cnt w h=n) :
 wp (vcall C frz 165 [.agg #[.int .i64 w,.int .i64 h],.int .i64 r] H) (Made2 dTable H (stdTab w r n) true):=by
 rw [Qb (fn:=Tryz.f165) Tryz.func165 rfl (by kernel_rfl) rfl]
 have hc:=Qf w h
 have hir:inR 1 r 4:=hr
 have hn2:n*n≤256:=Nat.mul_le_mul (show n≤16 by omega) (show n≤16 by omega)
 simp [T4,hg,Qj,hir,Wb,hn]
 refine Qh (fun m t H'=>∃(i:Nat) (vo:Value) (o:List Int),m=n-i∧i≤n∧o=(List.range (i*n)).map (fun i=>stdPort w r (i/n:Nat) (i%n:Nat))∧
  t 1=.int .i64 r∧t 2=.pointer (some ⟨H.length,0,some 0⟩)∧t 4=.pointer (some ⟨H.length+1,0,some 0⟩)∧t 6=.pointer (some ⟨H.length+2,0,some 0⟩)∧t 20=.int .i64 n∧t 21=.int .i64 i∧
  Chg H H' []∧H'[H.length]? = some ⟨[.int .i64 w,.int .i64 h],0,25⟩∧H'[H.length+1]? = some ⟨[.slice none 0 0],0,30⟩∧H'[H.length+2]? = some ⟨[vo],0,30⟩∧
  Ow Fl.int 3 H' vo o∧(∀i∈ids vo,H.length+2<i)) ?_ (n:=n) ⟨0,.slice none 0 0,[],by simp,by omega,by simp,by simp,by simp,by simp,by simp,by simp,by simp,Chg.app _,by simp,by simp,by simp,.inl ⟨rfl,rfl⟩,by simp⟩
 rintro m t H' ⟨i,vo,o,rfl,hi,ho,h1,h2,h4,h6,h20,h21,c0,b2,b4,b6,oo,no⟩ ih
 simp [h1,h2,h4,h6,h20,h21]
 refine Qc ?_ ?_<;>intro hin
 ·have hin':i<n:=by omega
  simp [h1,h2,h4,h6,h20,h21,VM.look,b2,Wb,hn]
  refine Qh (fun m t H'=>∃(j:Nat) (vo:Value) (o:List Int),m=n-j∧j≤n∧o=(List.range (i*n+j)).map (fun i=>stdPort w r (i/n:Nat) (i%n:Nat))∧
   t 1=.int .i64 r∧t 2=.pointer (some ⟨H.length,0,some 0⟩)∧t 4=.pointer (some ⟨H.length+1,0,some 0⟩)∧t 6=.pointer (some ⟨H.length+2,0,some 0⟩)∧t 20=.int .i64 n∧t 21=.int .i64 i∧
   t 7=.int .i64 i∧t 25=.int .i64 n∧t 26=.int .i64 j∧
   Chg H H' []∧H'[H.length]? = some ⟨[.int .i64 w,.int .i64 h],0,25⟩∧H'[H.length+1]? = some ⟨[.slice none 0 0],0,30⟩∧H'[H.length+2]? = some ⟨[vo],0,30⟩∧
   Ow Fl.int 3 H' vo o∧(∀i∈ids vo,H.length+2<i)) ?_ (n:=n) ⟨0,vo,o,by simp,by omega,by simpa using ho,by simp [h1],by simp [h2],by simp [h4],by simp [h6],by simp [h20],by simp [h21],by simp,by simp,by simp,c0,b2,b4,b6,oo,no⟩
  clear h1 h2 h4 h6 h20 h21 c0 b2 b4 b6 oo no ho
  rintro m t H' ⟨j,vo,o,rfl,hj,ho,h1,h2,h4,h6,h20,h21,h7,h25,h26,c0,b2,b4,b6,oo,no⟩ ih2
  simp [h1,h2,h4,h6,h20,h21,h7,h25,h26]
  refine Qc ?_ ?_<;>intro hjn
  ·have hjn':j<n:=by omega
   have hol:o.length=i*n+j:=by rw [ho];simp
   have hsm:i*n+j<n*n:=by
    have:=Nat.mul_le_mul_right n (show i+1≤n by omega)
    rw [Nat.succ_mul] at this;omega
   have hdv:(i*n+j)/n=i:=by rw [Nat.mul_comm,Nat.mul_add_div (by omega),Nat.div_eq_of_lt hjn'];omega
   have hmd:(i*n+j)%n=j:=by rw [Nat.mul_comm,Nat.mul_add_mod,Nat.mod_eq_of_lt hjn']
   have sp:=fun F L=>qp (frz:=F) (H:=L) w h r i j hr ⟨by omega,by omega⟩ ⟨by omega,by omega⟩
   have hx:stdPort w r ((i*n+j)/n:Nat) ((i*n+j)%n:Nat)=stdPort w r i j:=by rw [hdv,hmd]
   simp [h1,h2,h4,h6,h20,h21,h7,h25,h26]
   rw [Qe (h:=by kernel_rfl)]
   obtain ⟨vo',H3,e3,oo3,c3,n3⟩:=oo.push (P:=Tryz.prog) (frz:=H.length) (ty:=26) (a:=stdPort w r i j) (by simp) rfl (by omega) (fun i hi=>by have:=no i hi;omega)
   simp only [Fl.int_f] at e3
   have lc:=Qs b6
   have b2':=Qa b2 c3 (fun hh=>by have:=no _ hh;omega)
   have b4':=Qa b4 c3 (fun hh=>by have:=no _ hh;omega)
   have b6':=Qa b6 c3 (fun hh=>by have:=no _ hh;omega)
   have no3:∀i∈ids vo',H.length+2<i:=fun i hi=>by rcases n3 i hi with h|h;exact no i h;omega
   have one:=And.intro oo.rd.one' oo.rd.cells
   have one3:=And.intro oo3.rd.one' oo3.rd.cells
   have hF:H.length≤H.length+2:=by omega
   simp [VM.look,b2,b6,sp,one,e3,b6',one3,h1,h2,h4,h6,h20,h21,h7,h25,h26]
   refine ih2 (n-(j+1)) _ _ ⟨j+1,vo',o++[stdPort w r i j],rfl,by omega,?_,by simp [h1],by simp [h2],by simp [h4],by simp [h6],by simp [h20],by simp [h21],by simp [h7],by simp [h25],?_,
    (c0.trans' c3 (fun i hi=>.inr (by have:=no i hi;omega))).trans' (Qg _ _) (fun i hi=>.inr (by simp at hi;omega)),Qa b2' (Qg _ _) (by simp),Qa b4' (Qg _ _) (by simp),Qi b6',
    oo3.chg (Qg _ _) (fun i hi hh=>by have:=no3 i hi;simp at hh;omega),no3⟩ (by omega)
   ·rw [← Nat.add_assoc,List.range_succ,List.map_append,← ho];simp only [List.map_cons,List.map_nil,hdv,hmd]
   ·simp;rw [w64 (by omega) (by omega)]
  ·have:j=n:=by omega
   subst this
   simp [h1,h2,h4,h6,h20,h21,h7,h25,h26]
   refine ih (j-(i+1)) _ _ ⟨i+1,vo,o,rfl,by omega,by rw [Nat.succ_mul];exact ho,by simp [h1],by simp [h2],by simp [h4],by simp [h6],by simp [h20],?_,c0,b2,b4,b6,oo,no⟩ (by omega)
   simp;rw [w64 (by omega) (by omega)]
 ·have:i=n:=by omega
  subst this
  have lc:=Qs b6
  have one:=And.intro oo.rd.one' oo.rd.cells
  have g4:=Qi (r':=⟨[vo],0,30⟩) b4
  have hol:o.length=i*i:=by rw [ho];simp
  have hF:H.length≤H.length+1:=by omega
  simp [h1,h2,h4,h6,h20,h21,VM.look,b6,b4,one,g4,hF]
  exact ⟨.agg #[vo],rfl,vo,rfl,⟨(by rw [show stdTab w r i=o from ho.symm];exact oo.chg (Qg _ _) (fun i hi hh=>by have:=no i hi;simp at hh;omega)),by rw [Ty];omega⟩,c0.trans' (Qg _ _) (fun i hi=>.inr (by simp at hi;omega)),fun i hi=>by have:=no i hi;omega,Q0 vo⟩
theorem Qb7 (w r a to:Int) (hw:1≤w) (ha:0≤a) (ht:0≤to) (hne:a≠to) (R:Int) (hR:R=if r=4 then 1+to%2 else r) :
 stdPort w r a to=(if (if R=2 then a/w=to/w else if R=3 then to%w<a%w∨a/w=to/w else a%w≠to%w) then (if to%w<a%w then 3 else 1) else (if to/w<a/w then 0 else 2))∨¬(1≤R∧R≤3):=by
 have h1:=Int.emod_add_mul_ediv a w
 have h2:=Int.emod_add_mul_ediv to w
 have h3:¬(a%w=to%w∧a/w=to/w):=fun ⟨e1,e2⟩=>hne (by rw [← h1,← h2,e1,e2])
 unfold stdPort
 rw [if_neg hne,← hR]
 generalize a%w=X at *
 generalize to%w=U at *
 generalize a/w=Y at *
 generalize to/w=V at *
 by_cases hr:1≤R∧R≤3
 rotate_left
 ·exact .inr hr
 left
 unfold alongP acrossP
 obtain rfl|rfl|rfl:R=1∨R=2∨R=3:=by omega
 all_goals simp
 all_goals (repeat' split)<;>first|rfl|omega
theorem Wq (x g:Int):vcall C frz 93 [.int .i64 x,.int .i64 g] H=some (.int .i64 (if g<x then 3 else 1),H):=by
 rw [Qb (fn:=Tryz.f93) Tryz.func93 rfl (by kernel_rfl) rfl]
 simp
 refine Qq _ ?_ ?_<;>intro h1<;>simp [h1]
theorem Xf (x g:Int):vcall C frz 94 [.int .i64 x,.int .i64 g] H=some (.int .i64 (if g<x then 0 else 2),H):=by
 rw [Qb (fn:=Tryz.f94) Tryz.func94 rfl (by kernel_rfl) rfl]
 simp
 refine Qq _ ?_ ?_<;>intro h1<;>simp [h1]
theorem Av (w h r a to:Int) (hr:1≤r∧r≤4) (ha:isN w h a) (hto:isN w h to) :
 vcall C frz 55 [.agg #[.int .i64 w,.int .i64 h],.int .i64 r,.int .i64 a,.int .i64 to] H=some (.int .i64 (stdPort w r a to),H):=by
 rw [Qb (fn:=Tryz.f55) Tryz.func55 rfl (by kernel_rfl) rfl]
 obtain ⟨hg,a0,_,a1⟩:=Yn ha
 obtain ⟨_,t0,_,t1⟩:=Yn hto
 have hw:=hg.1
 have wz:¬w=0:=by omega
 have e1:a.tmod w=a%w:=Int.tmod_eq_emod_of_nonneg a0
 have e2:to.tmod w=to%w:=Int.tmod_eq_emod_of_nonneg t0
 have e3:a.tdiv w=a/w:=Int.tdiv_eq_ediv_of_nonneg a0
 have e4:to.tdiv w=to/w:=Int.tdiv_eq_ediv_of_nonneg t0
 have e5:to.tmod 2=to%2:=Int.tmod_eq_emod_of_nonneg t0
 have d1:0≤a/w∧a/w≤a:=⟨Int.ediv_nonneg a0 (by omega),Int.ediv_le_self _ a0⟩
 have d2:0≤to/w∧to/w≤to:=⟨Int.ediv_nonneg t0 (by omega),Int.ediv_le_self _ t0⟩
 have f3:=@w6 (a/w) (by omega)
 have f4:=@w6 (to/w) (by omega)
 have f5:=@w6 (1+to%2) (by omega)
 have key:a≠to→∀R,(R=if r=4 then 1+to%2 else r)→1≤R→R≤3→stdPort w r a to=if (if R=2 then a/w=to/w else if R=3 then to%w<a%w∨a/w=to/w else a%w≠to%w) then (if to%w<a%w then 3 else 1) else (if to/w<a/w then 0 else 2):=fun hne R hR r1 r2=>by
  rcases Qb7 w r a to hw.1 a0 t0 hne R hR with h|h
  ·exact h
  ·exact absurd ⟨r1,r2⟩ h
 simp [VM.look,wz,e1,e2,e3,e4,f3,f4]
 by_cases h4:a=to
 ·subst h4;simp [stdPort]
 have key:=key h4
 clear e1 e2 e3 e4 f3 f4
 generalize a%w=X at *
 generalize to%w=U at *
 generalize a/w=Y at *
 generalize to/w=V at *
 generalize stdPort w r a to=Z at *
 simp [h4]
 have k1:∀[Inhabited Unit],IntKind.i64.wrap 1=1:=by intro _;exact w64 (by omega) (by omega)
 have k2:∀[Inhabited Unit],IntKind.i64.wrap 2=2:=by intro _;exact w64 (by omega) (by omega)
 by_cases r4:r=4
 ·have key:=key _ (if_pos r4).symm (by omega) (by omega)
  have m2:to%2=0∨to%2=1:=by omega
  rcases m2 with m2|m2<;>simp only [m2] at key f5
  ·simp [r4,e5,m2,f5,Wq,Xf,k1,k2]
   by_cases h5:X=U<;>simp [h5] at key<;>simp [h5,key,Wq,Xf,k1,k2]
  ·simp [r4,e5,m2,f5,Wq,Xf,k1,k2]
   by_cases h5:Y=V<;>simp [h5] at key<;>simp [h5,key,Wq,Xf,k1,k2]
 ·have key:=key _ (if_neg r4).symm (by omega) (by omega)
  obtain rfl|rfl|rfl:r=1∨r=2∨r=3:=by omega
  ·simp [Wq,Xf,k1,k2]
   by_cases h5:X=U<;>simp [h5] at key<;>simp [h5,key,Wq,Xf,k1,k2]
  ·simp [Wq,Xf,k1,k2]
   by_cases h5:Y=V<;>simp [h5] at key<;>simp [h5,key,Wq,Xf,k1,k2]
  ·simp [Wq,Xf,k1,k2]
   by_cases h5:U<X
   ·simp [h5] at key;simp [h5,key,Wq,Xf,k1,k2]
   ·by_cases h6:Y=V<;>simp [h5,h6] at key<;>simp [h5,h6,key,Wq,Xf,k1,k2]
end Go.Proofs.YtaldglgobgjeaaaGreat.V
set_option linter.all false
namespace Go.Proofs.YtaldglgobgjeaaaGreat.V
open Go Go.VM Go.Proofs
set_option maxRecDepth 100000
abbrev rPort (r w a to:Int):Int:=stdPort w r a to
def walkR (r w h to:Int):Nat→Int→List Int→List Int
 | 0,a,out=>if rPort r w a to=4 then (if a=to then out else []) else []
 | f+1,a,out=>if rPort r w a to=4 then (if a=to then out else []) else
  if inR 0 (rPort r w a to) 3∧leads w h (4*a+rPort r w a to) then walkR r w h to f (next w h a (rPort r w a to)) (out++[4*a+rPort r w a to]) else []
theorem U4 {r w h a to:Int} {n:Nat} (hn:cnt w h=n) (ha:isN w h a) (hto:isN w h to):portOf w h (stdTab w r n) a to=rPort r w a to:=by
 obtain ⟨i,rfl⟩:=Int.eq_ofNat_of_zero_le ha.1
 obtain ⟨j,rfl⟩:=Int.eq_ofNat_of_zero_le hto.1
 have h1:=ha.2
 have h2:=hto.2
 unfold portOf rd
 have hj:j<n:=by omega
 have hi:i<n:=by omega
 have hsm:i*n+j<n*n:=by
  have:=Nat.mul_le_mul_right n (show i+1≤n by omega)
  rw [Nat.succ_mul] at this;omega
 have hdv:(i*n+j)/n=i:=by rw [Nat.mul_comm,Nat.mul_add_div (by omega),Nat.div_eq_of_lt hj];omega
 have hmd:(i*n+j)%n=j:=by rw [Nat.mul_comm,Nat.mul_add_mod,Nat.mod_eq_of_lt hj]
 rw [hn,show ((i:Int)*(n:Int)+(j:Int)).toNat=i*n+j by rw [← Int.natCast_mul,← Int.natCast_add];rfl]
 rw [stdTab,List.getD_eq_getElem?_getD,List.getElem?_map,List.getElem?_range hsm]
 simp only [Option.map_some,Option.getD_some,hdv,hmd]
theorem Ad {r w h to:Int} {n:Nat} (hn:cnt w h=n) (hg:okG w h) (hto:isN w h to):∀f a out,isN w h a→walkN w h [] (stdTab w r n) to f a out=walkR r w h to f a out
 | 0,a,out,ha=>by simp only [walkN,walkR,U4 hn ha hto]
 | f+1,a,out,ha=>by
  simp only [walkN,walkR,U4 hn ha hto,stepOk]
  have e:(inR 0 (rPort r w a to) 3∧has w h [] (4*a+rPort r w a to))↔(inR 0 (rPort r w a to) 3∧leads w h (4*a+rPort r w a to)):=by simp [has]
  by_cases h1:rPort r w a to=4
  ·simp [h1]
  ·simp only [h1,if_false]
   by_cases h2:inR 0 (rPort r w a to) 3∧leads w h (4*a+rPort r w a to)
   ·rw [if_pos (e.2 h2),if_pos h2]
    obtain ⟨h3,h4⟩:=e.2 h2
    exact Ad hn hg hto f _ _ (Xl h3 h4).2.2
   ·rw [if_neg (fun k=>h2 (e.1 k)),if_neg h2]
def wkR (r w h:Int) (n:Nat) (a to:Int):List Int:=walkR r w h to n a []
theorem za {r w h a to:Int} {n:Nat} (hn:cnt w h=n) (hg:okG w h) (ha:isN w h a) (hto:isN w h to):walk w h [] (stdTab w r n) a to=wkR r w h n a to:=by
 unfold walk wkR
 rw [Ad hn hg hto _ _ _ ha,hn];rfl
def chkR1 (r w h:Int) (n:Nat) (a to:Int):Bool:=decide (a=to) || !(wkR r w h n a to).isEmpty
def chkR (r w h n:Nat):Bool:=(List.range n).all fun a=>(List.range n).all fun to=>chkR1 r w h n a to
theorem vy:((List.range 4).all fun r=>(List.range 4).all fun w=>(List.range 4).all fun h=>chkR (r+1) (w+1) (h+1) ((w+1)*(h+1)))=true:=by kernel_rfl
theorem Qb1 {r w h a to:Int} {n:Nat} (hr:1≤r∧r≤4) (hg:okG w h) (hn:cnt w h=n) (ha:isN w h a) (hto:isN w h to):chkR1 r w h n a to=true:=by
 obtain ⟨⟨w0,w1⟩,h0,h1⟩:=hg
 obtain ⟨i,hi⟩:∃i:Nat,w=((i+1:Nat):Int):=⟨(w-1).toNat,by omega⟩
 obtain ⟨j,hj⟩:∃j:Nat,h=((j+1:Nat):Int):=⟨(h-1).toNat,by omega⟩
 obtain ⟨q,hq⟩:∃j:Nat,r=((j+1:Nat):Int):=⟨(r-1).toNat,by omega⟩
 obtain ⟨k,rfl⟩:=Int.eq_ofNat_of_zero_le ha.1
 obtain ⟨l,rfl⟩:=Int.eq_ofNat_of_zero_le hto.1
 have e9:=vy
 rw [List.all_eq_true] at e9
 have e0:=e9 q (List.mem_range.2 (by omega))
 rw [List.all_eq_true] at e0
 have e1:=e0 i (List.mem_range.2 (by omega))
 rw [List.all_eq_true] at e1
 have e2:=e1 j (List.mem_range.2 (by omega))
 have hk:=ha.2
 have hl:=hto.2
 have hnn:n=(i+1)*(j+1):=by
  rw [cnt,if_pos ⟨⟨w0,w1⟩,h0,h1⟩,hi,hj,← Int.natCast_mul] at hn;omega
 rw [chkR,List.all_eq_true] at e2
 have e3:=e2 k (List.mem_range.2 (by omega))
 rw [List.all_eq_true] at e3
 have e4:=e3 l (List.mem_range.2 (by omega))
 rw [hi,hj,hq,hnn];exact e4
theorem Da {r w h:Int} {n:Nat} (hr:1≤r∧r≤4) (hg:okG w h) (hn:cnt w h=n):tableOk w h [] (stdTab w r n):=by
 refine ⟨⟨⟨by simp,hg⟩,by rw [Ty,hn,Int.natCast_mul]⟩,fun a ha c hc=>⟨fun e=>?_,fun e=>?_⟩⟩
 ·subst e
  rw [U4 hn (Wc ha) (Wc ha)];simp [stdPort]
 ·rw [za hn hg (Wc ha) (Wc hc)]
  have c:=Qb1 hr hg hn (Wc ha) (Wc hc)
  rw [chkR1] at c
  simp at c
  rcases c with c|c
  ·omega
  ·exact c
end Go.Proofs.YtaldglgobgjeaaaGreat.V
set_option linter.all false
namespace Go.Proofs.YtaldglgobgjeaaaGreat.V
open Go Go.VM Go.Proofs
set_option maxRecDepth 10000
variable {frz:Nat} {H:Heap}
theorem Ap (w h r:Int) (n:Nat) (hr:1≤r∧r≤4) (hg:okG w h) (hn:cnt w h=n) :
 wp (vcall C frz 24 [.agg #[.int .i64 w,.int .i64 h],.int .i64 r] H) (dTable.Made H (stdTab w r n)):=by
 rw [Qb (fn:=Tryz.f24) Tryz.func24 rfl (by kernel_rfl) rfl]
 have hc:=Qf w h
 have hn2:n*n≤256:=Nat.mul_le_mul (show n≤16 by omega) (show n≤16 by omega)
 have hn2':(n:Int)*(n:Int)≤256:=by
  have:((n*n:Nat):Int)≤256:=by omega
  rwa [Int.natCast_mul] at this
 obtain ⟨M,hM⟩:∃M:Nat,M=n*n:=⟨_,rfl⟩
 have eM:∀[Inhabited Unit],IntKind.i64.wrap ((n:Int)*n)=(M:Int):=by intro _;rw [hM,Int.natCast_mul];exact w64 (by have:=Int.natCast_nonneg (n*n);rw [Int.natCast_mul] at this;omega) (by omega)
 simp [Wd,hn]
 refine Qh (fun m t H'=>∃(i:Nat) (vo:Value) (o:List Int),m=M-i∧i≤M∧o=(List.range i).map (fun i=>stdPort w r (i/n:Nat) (i%n:Nat))∧
  t 1=.int .i64 r∧t 2=.pointer (some ⟨H.length,0,some 0⟩)∧t 4=.pointer (some ⟨H.length+1,0,some 0⟩)∧t 5=.pointer (some ⟨H.length+2,0,some 0⟩)∧t 6=.int .i64 n∧t 7=.int .i64 i∧
  Chg H H' []∧H'[H.length]? = some ⟨[.int .i64 w,.int .i64 h],0,25⟩∧H'[H.length+1]? = some ⟨[.slice none 0 0],0,30⟩∧H'[H.length+2]? = some ⟨[vo],0,30⟩∧
  Ow Fl.int 3 H' vo o∧(∀i∈ids vo,H.length+2<i)) ?_ (n:=M) ⟨0,.slice none 0 0,[],by simp,by omega,by simp,by simp,by simp,by simp,by simp,by simp,by simp,Chg.app _,by simp,by simp,by simp,.inl ⟨rfl,rfl⟩,by simp⟩
 rintro m t H' ⟨i,vo,o,rfl,hi,ho,h1,h2,h4,h5,h6,h7,c0,b2,b4,b6,oo,no⟩ ih
 simp [h1,h2,h4,h5,h6,h7,eM]
 refine Qc ?_ ?_<;>intro hin
 ·have hin':i<M:=by omega
  have hn0:0<n:=by
   rcases Nat.eq_zero_or_pos n with h0|h0
   ·rw [h0] at hM;omega
   ·exact h0
  have hol:o.length=i:=by rw [ho];simp
  have q1:i/n<n:=by rw [Nat.div_lt_iff_lt_mul hn0];omega
  have q2:i%n<n:=Nat.mod_lt _ hn0
  have d1:∀[Inhabited Unit],IntKind.i64.wrap ((i:Int)/(n:Int))=((i/n:Nat):Int):=by intro _;rw [← Int.natCast_ediv];exact w64 (by have:=Int.natCast_nonneg (i/n);omega) (by have:=Int.ofNat_lt.2 q1;omega)
  have d2:(i:Int).tmod n=((i%n:Nat):Int):=by rw [Int.tmod_eq_emod_of_nonneg (by omega)];rfl
  have d3:(i:Int).tdiv n=(i:Int)/n:=Int.tdiv_eq_ediv_of_nonneg (by omega)
  have nz:¬(n:Int)=0:=by omega
  have nz':¬n=0:=by omega
  have sp:=fun F=>Av (frz:=F) (H:=H') w h r ((i/n:Nat):Int) ((i%n:Nat):Int) hr ⟨Int.natCast_nonneg _,by rw [hn];exact Int.ofNat_lt.2 q1⟩ ⟨Int.natCast_nonneg _,by rw [hn];exact Int.ofNat_lt.2 q2⟩
  obtain ⟨X,hX⟩:∃X,X=((i/n:Nat):Int):=⟨_,rfl⟩
  obtain ⟨Y,hY⟩:∃Y,Y=((i%n:Nat):Int):=⟨_,rfl⟩
  rw [← hX] at d1
  rw [← hY] at d2
  rw [← hX,← hY] at sp
  simp
  rw [Qe (h:=by kernel_rfl)]
  obtain ⟨vo',H3,e3,oo3,c3,n3⟩:=oo.push (P:=Tryz.prog) (frz:=H.length) (ty:=26) (a:=stdPort w r X Y) (by simp) rfl (by omega) (fun i hi=>by have:=no i hi;omega)
  simp only [Fl.int_f] at e3
  have lc:=Qs b6
  have b2':=Qa b2 c3 (fun hh=>by have:=no _ hh;omega)
  have b4':=Qa b4 c3 (fun hh=>by have:=no _ hh;omega)
  have b6':=Qa b6 c3 (fun hh=>by have:=no _ hh;omega)
  have no3:∀i∈ids vo',H.length+2<i:=fun i hi=>by rcases n3 i hi with h|h;exact no i h;omega
  have one:=And.intro oo.rd.one' oo.rd.cells
  have one3:=And.intro oo3.rd.one' oo3.rd.cells
  have hF:H.length≤H.length+2:=by omega
  simp [-Qp,-Qx,VM.look,b2,b6,sp,one,e3,b6',one3,h1,h2,h4,h5,h6,h7,d1,d2,d3,nz,nz',hF]
  refine ih (M-(i+1)) _ _ ⟨i+1,vo',o++[stdPort w r X Y],rfl,by omega,?_,by simp [h1],by simp [h2],by simp [h4],by simp [h5],by simp [h6],?_,
   (c0.trans' c3 (fun i hi=>.inr (by have:=no i hi;omega))).trans' (Qg _ _) (fun i hi=>.inr (by simp at hi;omega)),Qa b2' (Qg _ _) (by simp),Qa b4' (Qg _ _) (by simp),Qi b6',
   oo3.chg (Qg _ _) (fun i hi hh=>by have:=no3 i hi;simp at hh;omega),no3⟩ (by omega)
  ·rw [List.range_succ,List.map_append,← ho];simp only [List.map_cons,List.map_nil,hX,hY]
  ·simp [h7];rw [w64 (by omega) (by omega)]
 ·have:i=M:=by omega
  subst this
  have lc:=Qs b6
  have one:=And.intro oo.rd.one' oo.rd.cells
  have g4:=Qi (r':=⟨[vo],0,30⟩) b4
  have hol:o.length=i:=by rw [ho];simp
  have hF:H.length≤H.length+1:=by omega
  simp [h1,h2,h4,h5,h6,h7,VM.look,b6,b4,one,g4,hF]
  exact ⟨vo,rfl,⟨(by rw [show stdTab w r n=o from by rw [ho,hM];rfl];exact oo.chg (Qg _ _) (fun i hi hh=>by have:=no i hi;simp at hh;omega)),by rw [Ty];omega⟩,c0.trans' (Qg _ _) (fun i hi=>.inr (by simp at hi;omega)),fun i hi=>by have:=no i hi;omega,Q0 vo⟩
def splitT (w h:Int):ClassesD:=if okG w h then (stdTab w 1 (cnt w h).toNat,stdTab w 2 (cnt w h).toNat) else ([],[])
theorem vl (w h:Int) :
 wp (vcall C frz 79 [.agg #[.int .i64 w,.int .i64 h]] H) (Made2 dClasses H (splitT w h) (decide (okG w h))):=by
 rw [Qb (fn:=Tryz.f79) Tryz.func79 rfl (by kernel_rfl) rfl]
 simp [Vn]
 by_cases g:okG w h
 rotate_left
 ·simp [g,splitT]
  exact ⟨_,rfl,(.slice none 0 0,.slice none 0 0),rfl,⟨⟨.inl ⟨rfl,rfl⟩,by simp⟩,⟨.inl ⟨rfl,rfl⟩,by simp⟩⟩,Chg.app _,by simp [dClasses,dAnd,dTable,dIntS,dFlat,ids],by simp [dClasses,dAnd,dTable,dIntS,dFlat,ids]⟩
 have st:=fun K r hr=>Ap (frz:=H.length) (H:=K) w h r (cnt w h).toNat hr g (by have:=Qf w h;omega)
 have e:splitT w h=(stdTab w 1 (cnt w h).toNat,stdTab w 2 (cnt w h).toNat):=if_pos g
 rw [e]
 simp only [g,decide_true]
 have st1:=fun K=>st K 1 (by omega)
 have st2:=fun K=>st K 2 (by omega)
 clear st e
 generalize stdTab w 1 (cnt w h).toNat=T1 at *
 generalize stdTab w 2 (cnt w h).toNat=T2 at *
 simp
 rw [Qe (h:=by kernel_rfl)]
 simp [VM.look]
 refine Qd (st1 _) ?_
 rintro _ K1 ⟨v1,rfl,o1,c1,m1,d1⟩
 have cH:Chg H K1 []:=(Chg.app _).trans c1
 have bG:K1[H.length]? = some ⟨[.int .i64 w,.int .i64 h],0,25⟩:=Qa (by simp) c1 (by simp)
 have bR:K1[H.length+1]? = some ⟨[.slice none 0 0,.slice none 0 0],0,32⟩:=Qa (by simp) c1 (by simp)
 have q1:=W0 o1
 have l1:=cH.1
 have lR:=Qs bR
 simp [W1,q1,VM.look,l1,bG]
 refine Qd (st2 _) ?_
 rintro _ K2 ⟨v2,rfl,o2,c2,m2,d2⟩
 have o1':=Dt.chg (T:=dTable) o1 c2 (by simp)
 have bR:=Qa bR c2 (by simp)
 have cH2:Chg H K2 []:=cH.trans c2
 have q2:=W0 o2
 have l2:=cH2.1
 have gR:=Qi (r':=⟨[v1,v2],0,32⟩) bR
 have hF:H.length≤H.length+1:=by omega
 simp [W1,q1,q2,VM.look,l2,bR,gR,hF]
 have eR:Chg K2 (K2.set (H.length+1) ⟨[v1,v2],0,32⟩) [H.length+1]:=Qg _ _
 have lt1:=dTable.lt o1
 have m1':∀i∈dTable.ids v1,H.length+2≤i:=fun i hi=>by have:=m1 i hi;simpa using this
 refine ⟨_,rfl,(v1,v2),rfl,⟨Dt.chg (T:=dTable) o1' eR (fun i hi hh=>by have:=m1' i hi;simp at hh;omega),Dt.chg (T:=dTable) o2 eR (fun i hi hh=>by have:=m2 i hi;simp at hh this;omega)⟩,cH2.trans' eR (fun i hi=>.inr (by simp at hi;omega)),fun i hi=>?_,?_⟩
 ·rcases List.mem_append.1 hi with hi|hi
  ·have:=m1' i hi;omega
  ·have:=m2 i hi;omega
 ·exact List.nodup_append.2 ⟨d1,d2,fun a ha b hb e=>by have:=lt1 a ha;have:=m2 b hb;omega⟩
def flitOk (w h:Int) (f:FlitD):Prop:=isN w h f.2.1∧inR 0 f.2.2.1 1
instance (w h:Int) (f:FlitD):Decidable (flitOk w h f):=inferInstanceAs (Decidable (_∧_))
def flitsOk (w h:Int) (l:List FlitD):Prop:=∀f∈l,flitOk w h f
instance (w h:Int) (l:List FlitD):Decidable (flitsOk w h l):=inferInstanceAs (Decidable (∀f∈l,flitOk w h f))
def sizesOk (x:NetD):Prop:=(x.2.2.1.length:Int)=10*cnt x.1.1 x.1.2.1∧(x.2.2.2.1.length:Int)=10*cnt x.1.1 x.1.2.1∧(x.2.2.2.2.1.length:Int)=5*cnt x.1.1 x.1.2.1∧(x.2.2.2.2.2.1.length:Int)=cnt x.1.1 x.1.2.1∧(x.2.2.2.2.2.2.1.length:Int)=cnt x.1.1 x.1.2.1
instance (x:NetD):Decidable (sizesOk x):=inferInstanceAs (Decidable (_∧_))
def bufOk (w h:Int) (l:List FlitD) (c:Int):Prop:=l.length≤3∧(∀f∈l,f.2.2.1=c)∧flitsOk w h l
instance (w h:Int) (l:List FlitD) (c:Int):Decidable (bufOk w h l c):=inferInstanceAs (Decidable (_∧_))
def srcOk (w h:Int) (l:List FlitD):Prop:=l.length≤60∧flitsOk w h l
instance (w h:Int) (l:List FlitD):Decidable (srcOk w h l):=inferInstanceAs (Decidable (_∧_))
def netOk (x:NetD):Prop:=classesOk x.1.1 x.1.2.1 x.1.2.2 x.2.1.1 x.2.1.2∧sizesOk x∧(∀i,i<x.2.2.1.length→bufOk x.1.1 x.1.2.1 (x.2.2.1.getD i []) ((i:Int)%2))∧(∀l∈x.2.2.2.2.2.1,srcOk x.1.1 x.1.2.1 l)∧
 (∀o∈x.2.2.2.1,inR (-1) o 4)∧(∀o∈x.2.2.2.2.1,inR 0 o 9)∧inR 0 x.2.2.2.2.2.2.2 1000000
instance (x:NetD):Decidable (netOk x):=inferInstanceAs (Decidable (_∧_))
theorem O5 (w h:Int) (v:Value) (xs:List FlitD) (hI:Rd flF H v xs) (hl:xs.length≤1073741824) :
 vcall C frz 63 [.agg #[.int .i64 w,.int .i64 h],v] H=some (.bool (decide (flitsOk w h xs)),H):=by
 refine wp.exact (by simp) ?_ rfl
 rw [Qb (fn:=Tryz.f63) Tryz.func63 rfl (by kernel_rfl) rfl]
 generalize hB:decide (flitsOk w h xs)=B
 simp [hI.app.len (P:=Tryz.prog) (ty:=109) (by simp)]
 refine Qh (fun n t H'=>∃i:Nat,n=xs.length-i∧i≤xs.length∧t 2=.pointer (some ⟨H.length,0,some 0⟩)∧t 7=v∧t 8=.int .i64 xs.length∧t 9=.int .i64 i∧Chg H H' []∧H'[H.length]? = some ⟨[.int .i64 w,.int .i64 h],0,25⟩∧∀f∈xs.take i,flitOk w h f) ?_ (n:=xs.length)
  ⟨0,rfl,by omega,by simp,by simp,by simp,by simp,Chg.app _,by simp,by simp⟩
 rintro n t H' ⟨i,rfl,hi,t2,t7,t8,t9,c,b2,hk⟩ ih
 simp [t2,t7,t8,t9]
 refine Qc ?_ ?_<;>intro g
 ·have hi':i<xs.length:=by omega
  have rd:=hI.chg c (by simp)
  have q1:=rd.idx (P:=Tryz.prog) (ty:=109) (e:=144) (by simp) (i:=(i:Int)) (by omega) (by omega)
  have q2:=rd.load (P:=Tryz.prog) (e:=144) (by simp) hi'
  simp only [Int.toNat_natCast,Ox] at q1 q2
  have l0:=c.1
  have hF:H.length≤H'.length:=l0
  have b2':=fun r=>Qa (Ql b2 [r]) (Qg H'.length r) (by simp;have:=Qs b2;omega)
  have hlt:=Qs b2
  have hne:H'.length≠H.length:=by omega
  have key:flitOk w h xs[i]↔isN w h xs[i].2.1∧inR 0 xs[i].2.2.1 1:=Iff.rfl
  have hsucc:∀f∈xs.take (i+1),f∈xs.take i∨f=xs[i]:=fun f hf=>by
   rw [List.take_succ_eq_append_getElem hi'] at hf
   rcases List.mem_append.1 hf with hf|hf
   ·exact .inl hf
   ·exact .inr (List.mem_singleton.1 hf)
  have hno:¬flitOk w h xs[i]→¬flitsOk w h xs:=fun hh k=>hh (k _ (List.getElem_mem hi'))
  simp [t2,t7,t8,t9,q1,q2,hF,Xu,VM.look,b2,Ql b2,W4,Qj]
  by_cases g1:isN w h xs[i].2.1
  ·by_cases g2:inR 0 xs[i].2.2.1 1
   ·simp [t2,t7,t8,t9,g1,g2,Qj]
    refine ih (xs.length-(i+1)) _ _ ⟨i+1,rfl,by omega,by simp [t2],by simp [t7],by simp [t8],?_,c.trans (Chg.app _),Ql b2 _,fun f hf=>?_⟩ (by omega)
    ·simp;rw [w64 (by omega) (by omega)]
    ·rcases hsucc f hf with hf|rfl
     ·exact hk f hf
     ·exact ⟨g1,g2⟩
   ·simp [t2,t7,t8,t9,g1,g2,Qj]
    rw [← hB];exact decide_eq_false (hno (fun hh=>g2 hh.2))
  ·simp [t2,t7,t8,t9,g1]
   rw [← hB];exact decide_eq_false (hno (fun hh=>g1 hh.1))
 ·have:i=xs.length:=by omega
  subst this
  rw [List.take_length] at hk
  simp [t2,t7,t8,t9]
  rw [← hB];exact decide_eq_true hk
theorem Pa (v:Value) (xs:List FlitD) (c:Int) (hI:Rd flF H v xs) (hl:xs.length≤1073741824) :
 wp (vcall C frz 62 [v,.int .i64 c] H) (fun r H'=>Ow flF 144 H' r (xs.filter fun f=>f.2.2.1=c)∧(∀i∈ids r,H.length≤i)∧Chg H H' []):=by
 rw [Qb (fn:=Tryz.f62) Tryz.func62 rfl (by kernel_rfl) rfl]
 simp [hI.app.len (P:=Tryz.prog) (ty:=109) (by simp)]
 refine Qh (fun n t H'=>∃(i:Nat) (r:Value),n=xs.length-i∧i≤xs.length∧t 1=.int .i64 c∧t 5=r∧t 9=v∧t 10=.int .i64 xs.length∧t 11=.int .i64 i∧Chg H H' []∧Ow flF 144 H' r ((xs.take i).filter fun f=>f.2.2.1=c)∧(∀j∈ids r,H.length≤j)) ?_ (n:=xs.length)
  ⟨0,.slice (some ⟨H.length,0,some 0⟩) 0 0,rfl,by omega,by simp,by simp,by simp,by simp,by simp,Chg.app _,Ow.new0 (D:=flF) (xs:=[]) rfl rfl rfl rfl,by simp⟩
 rintro n t H' ⟨i,r,rfl,hi,t1,t5,t9,t10,t11,ch,o,nr⟩ ih
 simp [t1,t5,t9,t10,t11]
 refine Qc ?_ ?_<;>intro g
 ·have hi':i<xs.length:=by omega
  have rd:=hI.chg ch (by simp)
  have q1:=rd.idx (P:=Tryz.prog) (ty:=109) (e:=144) (by simp) (i:=(i:Int)) (by omega) (by omega)
  have q2:=rd.load (P:=Tryz.prog) (e:=144) (by simp) hi'
  simp only [Int.toNat_natCast,Ox] at q1 q2
  have hF:H.length≤H'.length:=ch.1
  have hfl:=List.length_filter_le (fun f:FlitD=>decide (f.2.2.1=c)) (xs.take i)
  have htl:(xs.take i).length≤i:=by simp;omega
  simp [t1,t5,t9,t10,t11,q1,q2,hF,Xu,VM.look]
  refine Qc ?_ ?_<;>intro g1
  ·obtain ⟨r',H2,hap,o2,c2,n2⟩:=(o.app (L:=[⟨flF.f xs[i],0,144⟩])).push (P:=Tryz.prog) (frz:=H.length) (ty:=109) (a:=xs[i]) (by simp) rfl (by omega) nr
   simp only [Xu,List.append_assoc,List.cons_append,List.nil_append,List.length_append,List.length_cons,List.length_nil] at hap
   simp [t1,t5,t9,t10,t11,hap]
   refine ih (xs.length-(i+1)) _ _ ⟨i+1,r',rfl,by omega,by simp [t1],by simp,by simp [t9],by simp [t10],?_,(ch.trans (Chg.app _)).trans' c2 (fun j hj=>.inr (nr j hj)),?_,fun j hj=>?_⟩ (by omega)
   ·simp;rw [w64 (by omega) (by omega)]
   ·rw [List.take_succ_eq_append_getElem hi',List.filter_append];simpa [g1] using o2
   ·rcases n2 j hj with h1|h1
    ·exact nr j h1
    ·simp at h1;omega
  ·simp [t1,t5,t9,t10,t11,g1]
   refine ih (xs.length-(i+1)) _ _ ⟨i+1,r,rfl,by omega,by simp [t1],by simp [t5],by simp [t9],by simp [t10],?_,ch.trans (Chg.app _),?_,nr⟩ (by omega)
   ·simp;rw [w64 (by omega) (by omega)]
   ·rw [List.take_succ_eq_append_getElem hi',List.filter_append];simpa [g1] using o.app
 ·have:i=xs.length:=by omega
  subst this
  rw [List.take_length] at o
  simp [t1,t5,t9,t10,t11]
  exact ⟨o,nr,ch⟩
end Go.Proofs.YtaldglgobgjeaaaGreat.V
set_option linter.all false
namespace Go.Proofs.YtaldglgobgjeaaaGreat.V
open Go Go.VM Go.Proofs
set_option maxRecDepth 10000
abbrev GrD:=Nat×Nat×Nat
def upd (s:SSD) (k:Nat) (f:List FlitD→List FlitD):SSD:=s.set k (f (s.getD k []))
@[simp] theorem Ue (s:SSD) (k:Nat) (f:List FlitD→List FlitD):(upd s k f).length=s.length:=by simp [upd]
theorem Ww {s:SSD} {k:Nat} (f:List FlitD→List FlitD) (h:k<s.length):(upd s k f).getD k []=f (s.getD k []):=by
 simp [upd,List.getD_eq_getElem?_getD,h]
theorem Q7 {s:SSD} {k j:Nat} (f:List FlitD→List FlitD) (h:k≠j):(upd s k f).getD j []=s.getD j []:=by
 simp [upd,List.getD_eq_getElem?_getD,List.getElem?_set_ne h]
theorem zb {s:SSD} {k j:Nat} (f g:List FlitD→List FlitD) (h:k≠j):upd (upd s k f) j g=upd (upd s j g) k f:=by
 have e1:=Q7 (s:=s) f h
 have e2:=Q7 (s:=s) g h.symm
 show (upd s k f).set j (g ((upd s k f).getD j []))=(upd s j g).set k (f ((upd s j g).getD k []))
 rw [e1,e2]
 exact List.set_comm _ _ h
theorem Bf (s:SSD) (k:Nat) (f g:List FlitD→List FlitD):upd (upd s k f) k g=upd s k (fun l=>g (f l)):=by
 by_cases h:k<s.length
 ·show (upd s k f).set k (g ((upd s k f).getD k []))=_
  rw [Ww f h]
  simp [upd]
 ·simp [upd,List.set_eq_of_length_le (Nat.le_of_not_lt h)]
theorem ju {s:SSD} {k j:Nat} (f:FlitD) (h:s.getD k []≠[]):upd (upd s j (·++[f])) k (List.drop 1)=upd (upd s k (List.drop 1)) j (·++[f]):=by
 by_cases e:j=k
 ·subst e
  rw [Bf,Bf]
  unfold upd
  congr 1
  cases hh:s.getD j [] with
  | nil=>exact absurd hh h
  | cons a l=>rfl
 ·exact zb _ _ e
def headL (l:List FlitD):FlitD:=l.headD (0,0,0,false,false)
def headOf (x:NetD) (j:Nat):FlitD:=headL (x.2.2.1.getD j [])
def frm (g:GrD):Nat:=10*g.1+g.2.2
def tgt (x:NetD) (a p c:Nat):Nat:=(10*next x.1.1 x.1.2.1 a p+2*opp p+c).toNat
def outAt (a p c:Nat):Nat:=10*a+2*p+c
def popS (s:SSD) (g:GrD):SSD:=upd s (frm g) (List.drop 1)
def pushS (x:NetD) (s:SSD) (g:GrD):SSD:=if g.2.1=4 then s else upd s (tgt x g.1 g.2.1 (g.2.2%2)) (·++[headOf x (frm g)])
def arrS (x:NetD) (s:SSD) (g:GrD):SSD:=if g.2.1=4 then upd s g.1 (·++[headOf x (frm g)]) else s
def ownS (x:NetD) (s:List Int) (g:GrD):List Int:=s.set (outAt g.1 g.2.1 (g.2.2%2)) (if (headOf x (frm g)).2.2.2.2 then -1 else ((g.2.2/2:Nat):Int))
def turnS (s:List Int) (g:GrD):List Int:=s.set (5*g.1+g.2.1) (((g.2.2+1)%10:Nat):Int)
def srcHead (x:NetD) (k:Nat):FlitD:=headL (x.2.2.2.2.2.1.getD k [])
def entAt (x:NetD) (k:Nat):Nat:=(10*(k:Int)+8+(srcHead x k).2.2.1).toNat
def entS (x:NetD) (s:SSD) (k:Nat):SSD:=upd s (entAt x k) (·++[srcHead x k])
def srcS (s:SSD) (k:Nat):SSD:=upd s k (List.drop 1)
def wantedN (x:NetD) (a i:Nat):Int:=
 if x.2.2.1.getD (10*a+i) []=[] then -1
 else if (headOf x (10*a+i)).2.2.2.1 then portOf x.1.1 x.1.2.1 (if i%2=1 then x.2.1.2 else x.2.1.1) a (headOf x (10*a+i)).2.1
 else match (List.range 5).find? fun p=>x.2.2.2.1.getD (outAt a p (i%2)) 0=((i/2:Nat):Int) with
  | some p=>(p:Int)
  | none=>-1
def roomN (x:NetD) (a p c:Nat):Prop:=p=4∨(has x.1.1 x.1.2.1 x.1.2.2 (4*a+p)∧(x.2.2.1.getD (tgt x a p c) []).length<3)
noncomputable instance (x:NetD) (a p c:Nat):Decidable (roomN x a p c):=inferInstanceAs (Decidable (_∨_))
def reqN (x:NetD) (a i p:Nat):Prop:=wantedN x a i=(p:Int)∧roomN x a p (i%2)∧
 x.2.2.2.1.getD (outAt a p (i%2)) 0=if (headOf x (10*a+i)).2.2.2.1 then -1 else ((i/2:Nat):Int)
noncomputable instance (x:NetD) (a i p:Nat):Decidable (reqN x a i p):=inferInstanceAs (Decidable (_∧_))
noncomputable def reqsN (x:NetD) (a p:Nat):List Nat:=(List.range 10).filter fun i=>reqN x a i p
def firstF (t:Int) (l:List Int):Int:=l.foldl (fun b y=>if b<0∨(y-t+10)%10<(b-t+10)%10 then y else b) (-1)
noncomputable def freeN (x:NetD) (a p:Nat) (u:List Bool):List Nat:=(reqsN x a p).filter fun i=>!u.getD (i/2) false
noncomputable def pickN (x:NetD) (a p:Nat) (u:List Bool):Int:=firstF (x.2.2.2.2.1.getD (5*a+p) 0) ((freeN x a p u).map Int.ofNat)
noncomputable def grStep (x:NetD) (a:Nat) (st:List GrD×List Bool) (p:Nat):List GrD×List Bool:=
 if 0≤pickN x a p st.2 then (st.1++[(a,p,(pickN x a p st.2).toNat)],st.2.set ((pickN x a p st.2).toNat/2) true) else st
noncomputable def grTo (x:NetD) (a p:Nat):List GrD×List Bool:=(List.range p).foldl (grStep x a) ([],List.replicate 5 false)
noncomputable def grN (x:NetD) (a:Nat):List GrD:=(grTo x a 5).1
noncomputable def allTo (x:NetD) (n:Nat):List GrD:=(List.range n).flatMap (grN x)
noncomputable def allN (x:NetD):List GrD:=allTo x (cnt x.1.1 x.1.2.1).toNat
def entersN (x:NetD) (k:Nat):Prop:=x.2.2.2.2.2.1.getD k []≠[]∧(x.2.2.1.getD (entAt x k) []).length<3
noncomputable instance (x:NetD) (k:Nat):Decidable (entersN x k):=inferInstanceAs (Decidable (_∧_))
noncomputable def enterN (x:NetD):List Nat:=(List.range (cnt x.1.1 x.1.2.1).toNat).filter fun k=>entersN x k
noncomputable def stepN (x:NetD):NetD:=
 (x.1,x.2.1,(enterN x).foldl (entS x) ((allN x).foldl (pushS x) ((allN x).foldl popS x.2.2.1)),(allN x).foldl (ownS x) x.2.2.2.1,(allN x).foldl turnS x.2.2.2.2.1,
  (enterN x).foldl srcS x.2.2.2.2.2.1,(allN x).foldl (arrS x) x.2.2.2.2.2.2.1,x.2.2.2.2.2.2.2+1)
def bothS (x:NetD) (s:SSD) (g:GrD):SSD:=pushS x (popS s g) g
@[simp] theorem J9 (s:SSD) (g:GrD):(popS s g).length=s.length:=Ue _ _ _
@[simp] theorem Ri (x:NetD) (s:SSD) (g:GrD):(pushS x s g).length=s.length:=by unfold pushS;split<;>simp
@[simp] theorem Fj (x:NetD) (s:SSD) (g:GrD):(arrS x s g).length=s.length:=by unfold arrS;split<;>simp
@[simp] theorem Ge (x:NetD) (s:List Int) (g:GrD):(ownS x s g).length=s.length:=by unfold ownS;simp
@[simp] theorem My (s:List Int) (g:GrD):(turnS s g).length=s.length:=by unfold turnS;simp
@[simp] theorem I4 (x:NetD) (s:SSD) (k:Nat):(entS x s k).length=s.length:=Ue _ _ _
@[simp] theorem Ga (s:SSD) (k:Nat):(srcS s k).length=s.length:=Ue _ _ _
theorem Wu {α β:Type} {f:List β→α→List β} (h:∀s a,(f s a).length=s.length):∀(l:List α) (s:List β),(l.foldl f s).length=s.length
 | [],s=>rfl
 | a::l,s=>by rw [List.foldl_cons,Wu h l,h]
theorem Yo {α β:Type} (f:β→α→β) (s:β) {l:List α} {i:Nat} (h:i<l.length):(l.take (i+1)).foldl f s=f ((l.take i).foldl f s) l[i]:=by
 rw [List.take_succ_eq_append_getElem h,List.foldl_append];rfl
theorem me {x:NetD} {s:SSD} {g g':GrD} (h:s.getD (frm g') []≠[]):popS (pushS x s g) g'=pushS x (popS s g') g:=by
 unfold popS pushS
 by_cases e:g.2.1=4
 ·rw [if_pos e,if_pos e]
 ·rw [if_neg e,if_neg e];exact ju _ h
theorem Ks (x:NetD):∀(l:List GrD) (s:SSD),(l.map frm).Nodup→(∀g∈l,s.getD (frm g) []≠[])→l.foldl (bothS x) s=l.foldl (pushS x) (l.foldl popS s)
 | [],s,_,_=>rfl
 | g::l,s,nd,hs=>by
  obtain ⟨n1,n2⟩:=List.nodup_cons.1 nd
  have hne:∀g'∈l,frm g≠frm g':=fun g' hg e=>n1 (e▸List.mem_map_of_mem hg)
  have h1:∀g'∈l,(popS s g).getD (frm g') []≠[]:=fun g' hg=>by
   rw [popS,Q7 _ (hne g' hg)];exact hs g' (List.mem_cons_of_mem _ hg)
  have h2:∀g'∈l,(bothS x s g).getD (frm g') []≠[]:=fun g' hg=>by
   have:=h1 g' hg
   unfold bothS pushS
   split
   ·exact this
   ·by_cases e:tgt x g.1 g.2.1 (g.2.2%2)=frm g'
    ·rw [e]
     by_cases hl:frm g'<(popS s g).length
     ·rw [Ww _ hl];simp
     ·simp [List.getD_eq_getElem?_getD,List.getElem?_eq_none (Nat.le_of_not_lt hl)] at this
    ·rw [Q7 _ e];exact this
  rw [List.foldl_cons,Ks x l _ n2 h2]
  have key:∀(m:List GrD) (z:SSD),(m.map frm).Nodup→(∀g'∈m,z.getD (frm g') []≠[])→m.foldl popS (pushS x z g)=pushS x (m.foldl popS z) g:=by
   intro m
   induction m with
   | nil=>intro z _ _;rfl
   | cons g' m ih=>
    intro z nz hz
    obtain ⟨z1,z2⟩:=List.nodup_cons.1 nz
    rw [List.foldl_cons,List.foldl_cons,me (hz g' (List.mem_cons_self ..))]
    refine ih _ z2 fun g2 hg2=>?_
    have hne2:frm g'≠frm g2:=fun e=>z1 (e▸List.mem_map_of_mem hg2)
    rw [popS,Q7 _ hne2];exact hz g2 (List.mem_cons_of_mem _ hg2)
  show l.foldl (pushS x) (l.foldl popS (pushS x (popS s g) g))=_
  rw [key l (popS s g) n2 h1]
  rfl
theorem Vy (t:Int):∀(l:List Int) (b:Int),(l.foldl (fun b y=>if b<0∨(y-t+10)%10<(b-t+10)%10 then y else b) b)=b∨(l.foldl (fun b y=>if b<0∨(y-t+10)%10<(b-t+10)%10 then y else b) b)∈l
 | [],b=>.inl rfl
 | y::l,b=>by
  rw [List.foldl_cons]
  rcases Vy t l (if b<0∨(y-t+10)%10<(b-t+10)%10 then y else b) with h|h
  ·rw [h];split
   ·exact .inr (List.mem_cons_self ..)
   ·exact .inl rfl
  ·exact .inr (List.mem_cons_of_mem _ h)
theorem Cz {t:Int} {l:List Int} (h:0≤firstF t l):firstF t l∈l:=by
 rcases Vy t l (-1) with g|g
 ·unfold firstF at h;rw [g] at h;omega
 ·exact g
theorem Ee {x:NetD} {a p:Nat} {u:List Bool} (h:0≤pickN x a p u):(pickN x a p u).toNat∈freeN x a p u:=by
 have:=Cz h
 obtain ⟨i,hi,he⟩:=List.mem_map.1 this
 have e:pickN x a p u=(i:Int):=he.symm
 rw [e];simpa using hi
theorem Np {x:NetD} {a p i:Nat} {u:List Bool} (h:i∈freeN x a p u):i<10∧reqN x a i p∧u.getD (i/2) false=false:=by
 obtain ⟨h1,h2⟩:=List.mem_filter.1 h
 obtain ⟨h3,h4⟩:=List.mem_filter.1 h1
 exact ⟨List.mem_range.1 h3,by simpa using h4,by simpa using h2⟩
theorem Zs (x:NetD) (a p:Nat):grTo x a (p+1)=grStep x a (grTo x a p) p:=by
 unfold grTo;rw [List.range_succ,List.foldl_append];rfl
structure GrOk (x:NetD) (a p:Nat) (st:List GrD×List Bool):Prop where
 len:st.2.length=5
 at':∀g∈st.1,g.1=a∧g.2.1<p∧g.2.2<10∧reqN x a g.2.2 g.2.1∧st.2.getD (g.2.2/2) false=true
 nd:(st.1.map frm).Nodup
 le:st.1.length≤p
theorem gy {u:List Bool} {k j:Nat} (h:u.getD j false=true):(u.set k true).getD j false=true:=by
 simp only [List.getD_eq_getElem?_getD,List.getElem?_set] at *
 split
 ·split<;>simp_all
 ·exact h
theorem Vz (x:NetD) (a:Nat):∀p,p≤5→GrOk x a p (grTo x a p)
 | 0,_=>⟨rfl,fun g h=>by simp [grTo] at h,by simp [grTo],by simp [grTo]⟩
 | p+1,hp=>by
  obtain ⟨h1,h2,h3,h4⟩:=Vz x a p (by omega)
  rw [Zs]
  unfold grStep
  generalize grTo x a p=st at *
  split
  ·rename_i hk
   obtain ⟨k1,k2,k3⟩:=Np (Ee hk)
   generalize hk':(pickN x a p st.2).toNat=k at *
   refine ⟨by simpa using h1,fun g hg=>?_,?_,by simp only [List.length_append,List.length_cons,List.length_nil];omega⟩
   ·rcases List.mem_append.1 hg with hg|hg
    ·obtain ⟨g1,g2,g3,g4,g5⟩:=h2 g hg
     exact ⟨g1,by omega,g3,g4,gy g5⟩
    ·have:=List.mem_singleton.1 hg
     subst this
     exact ⟨rfl,by simp,k1,k2,by show (st.2.set (k/2) true).getD (k/2) false=true;rw [List.getD_eq_getElem?_getD,List.getElem?_set_self (by rw [h1];omega)];rfl⟩
   ·rw [List.map_append]
    refine List.nodup_append.2 ⟨h3,by simp,fun y hy z hz e=>?_⟩
    obtain ⟨g,hg,rfl⟩:=List.mem_map.1 hy
    simp at hz
    obtain ⟨g1,g2,g3,g4,g5⟩:=h2 g hg
    have:g.2.2=k:=by have:frm g=frm (a,p,k):=e.trans hz;unfold frm at this;simp only at this;omega
    rw [this,k3] at g5
    simp at g5
  ·exact ⟨h1,fun g hg=>by obtain ⟨g1,g2,g3,g4,g5⟩:=h2 g hg;exact ⟨g1,by omega,g3,g4,g5⟩,h3,by omega⟩
theorem Tk (x:NetD) (n:Nat):allTo x (n+1)=allTo x n++grN x n:=by
 unfold allTo;rw [List.range_succ,List.flatMap_append];simp
theorem Qbi (x:NetD) (a:Nat):(grN x a).length≤5:=(Vz x a 5 (by omega)).le
theorem Zr (x:NetD):∀n,(∀g∈allTo x n,g.1<n∧g.2.1<5∧g.2.2<10∧reqN x g.1 g.2.2 g.2.1)∧((allTo x n).map frm).Nodup∧(allTo x n).length≤5*n
 | 0=>⟨fun g h=>by simp [allTo] at h,by simp [allTo],by simp [allTo]⟩
 | n+1=>by
  obtain ⟨h1,h2,h3⟩:=Zr x n
  obtain ⟨_,k2,k3,k4⟩:=Vz x n 5 (by omega)
  rw [Tk]
  refine ⟨fun g hg=>?_,?_,by simp [grN];omega⟩
  ·rcases List.mem_append.1 hg with hg|hg
   ·obtain ⟨a1,a2⟩:=h1 g hg;exact ⟨by omega,a2⟩
   ·obtain ⟨a1,a2,a3,a4,_⟩:=k2 g hg
    exact ⟨by omega,a2,a3,by rw [a1];exact a4⟩
  ·rw [List.map_append]
   refine List.nodup_append.2 ⟨h2,k3,fun y hy z hz e=>?_⟩
   obtain ⟨g,hg,rfl⟩:=List.mem_map.1 hy
   obtain ⟨g',hg',rfl⟩:=List.mem_map.1 hz
   have a1:=h1 g hg
   have a2:=k2 g' hg'
   unfold frm at e;omega
theorem Yt {x:NetD} {g:GrD} (h:g∈allN x):(g.1:Int)<cnt x.1.1 x.1.2.1∧g.2.1<5∧g.2.2<10∧reqN x g.1 g.2.2 g.2.1:=by
 obtain ⟨h1,h2⟩:=(Zr x _).1 g h
 exact ⟨by omega,h2⟩
theorem Uf (x:NetD):((allN x).map frm).Nodup:=(Zr x _).2.1
theorem Iq (x:NetD):(allN x).length≤80:=by
 have:=(Zr x (cnt x.1.1 x.1.2.1).toNat).2.2
 have:=Qf x.1.1 x.1.2.1
 unfold allN;omega
theorem Tm {x:NetD} {a i p:Nat} (h:reqN x a i p):x.2.2.1.getD (10*a+i) []≠[]:=fun e=>by
 have:=h.1
 unfold wantedN at this
 rw [if_pos e] at this
 omega
theorem S5 {l:List FlitD} (h:l≠[]):headL l∈l:=by
 cases l with
 | nil=>exact absurd rfl h
 | cons a l=>exact List.mem_cons_self ..
def allP (P:Nat→FlitD→Prop) (s:SSD):Prop:=∀j,∀f∈s.getD j [],P j f
def runOk (x:NetD):Prop:=classesOk x.1.1 x.1.2.1 x.1.2.2 x.2.1.1 x.2.1.2∧sizesOk x∧allP (fun j f=>f.2.2.1=(j:Int)%2∧flitOk x.1.1 x.1.2.1 f) x.2.2.1∧allP (fun _ f=>flitOk x.1.1 x.1.2.1 f) x.2.2.2.2.2.1∧∀o∈x.2.2.2.2.1,inR 0 o 9
theorem Li {P:Nat→FlitD→Prop} {s:SSD} {k:Nat} (h:allP P s):allP P (upd s k (List.drop 1)):=fun j f hf=>by
 by_cases e:k=j
 ·subst e
  by_cases hl:k<s.length
  ·rw [Ww _ hl] at hf;exact h k f (List.mem_of_mem_drop hf)
  ·simp [upd,List.getD_eq_getElem?_getD,List.getElem?_eq_none (Nat.le_of_not_lt hl),List.set_eq_of_length_le (Nat.le_of_not_lt hl)] at hf
 ·rw [Q7 _ e] at hf;exact h j f hf
theorem Lv {P:Nat→FlitD→Prop} {s:SSD} {k:Nat} {y:FlitD} (h:allP P s) (hy:P k y):allP P (upd s k (·++[y])):=fun j f hf=>by
 by_cases e:k=j
 ·subst e
  by_cases hl:k<s.length
  ·rw [Ww _ hl] at hf
   rcases List.mem_append.1 hf with hf|hf
   ·exact h k f hf
   ·rw [List.mem_singleton.1 hf];exact hy
  ·simp [upd,List.getD_eq_getElem?_getD,List.getElem?_eq_none (Nat.le_of_not_lt hl),List.set_eq_of_length_le (Nat.le_of_not_lt hl)] at hf
 ·rw [Q7 _ e] at hf;exact h j f hf
theorem X2 {α β:Type} {f:β→α→β} (I:β→Prop):∀(l:List α) (s:β),I s→(∀s a,a∈l→I s→I (f s a))→I (l.foldl f s)
 | [],s,h,_=>h
 | a::l,s,h,k=>X2 I l _ (k s a (List.mem_cons_self ..) h) fun s b hb=>k s b (List.mem_cons_of_mem _ hb)
theorem Rb {x:NetD} {a p c:Nat} (h:has x.1.1 x.1.2.1 x.1.2.2 (4*(a:Int)+p)) (hp:p<4) :
 isN x.1.1 x.1.2.1 (next x.1.1 x.1.2.1 a p)∧0≤opp p∧opp p<4:=by
 obtain ⟨_,_,h3⟩:=Xl (w:=x.1.1) (h:=x.1.2.1) (a:=a) (p:=p) (b:=x.1.2.2) ⟨by omega,by omega⟩ h
 refine ⟨h3,?_⟩
 unfold opp
 rw [if_neg (by omega),if_pos (by omega)]
 omega
theorem Ys {x:NetD} {a p c:Nat} (h:has x.1.1 x.1.2.1 x.1.2.2 (4*(a:Int)+p)) (hp:p<4) (hc:c<2) :
 ((tgt x a p c:Nat):Int)=10*next x.1.1 x.1.2.1 a p+2*opp p+c∧((tgt x a p c:Nat):Int)<10*cnt x.1.1 x.1.2.1∧((tgt x a p c:Nat):Int)%2=c:=by
 obtain ⟨⟨h1,h2⟩,h3,h4⟩:=Rb (c:=c) h hp
 unfold tgt
 generalize next x.1.1 x.1.2.1 a p=N at *
 generalize opp p=O at *
 refine ⟨by omega,by omega,by omega⟩
theorem Qat {x:NetD} (h:runOk x) {a i p:Nat} (r:reqN x a i p):(headOf x (10*a+i)).2.2.1=((10*a+i:Nat):Int)%2∧flitOk x.1.1 x.1.2.1 (headOf x (10*a+i)):=
 h.2.2.1 _ _ (S5 (Tm r))
theorem Re {x:NetD} (h:runOk x) {k:Nat} (r:x.2.2.2.2.2.1.getD k []≠[]):flitOk x.1.1 x.1.2.1 (srcHead x k)∧(entAt x k:Int)=10*k+8+(srcHead x k).2.2.1∧(entAt x k:Int)%2=(srcHead x k).2.2.1:=by
 have:=h.2.2.2.1 k _ (S5 r)
 have h2:=this.2
 unfold inR at h2
 refine ⟨this,?_⟩
 unfold entAt srcHead
 omega
theorem Xi {x:NetD} {k:Nat} (h:k∈enterN x):(k:Int)<cnt x.1.1 x.1.2.1∧entersN x k:=by
 obtain ⟨h1,h2⟩:=List.mem_filter.1 h
 have:=List.mem_range.1 h1
 exact ⟨by omega,by simpa using h2⟩
theorem Vw (x:NetD):(enterN x).Nodup:=List.Pairwise.filter _ List.nodup_range
theorem Oe (x:NetD):(enterN x).length≤16:=by
 have h1:=List.length_filter_le (fun k=>decide (entersN x k)) (List.range (cnt x.1.1 x.1.2.1).toNat)
 have:=Qf x.1.1 x.1.2.1
 rw [List.length_range] at h1
 unfold enterN;omega
theorem O4 {x:NetD} (h:runOk x):runOk (stepN x):=by
 have hx:=h
 obtain ⟨h1,⟨s1,s2,s3,s4,s5⟩,h3,h4,h5⟩:=h
 refine ⟨h1,⟨?_,?_,?_,?_,?_⟩,?_,?_,?_⟩
 ·show (((enterN x).foldl (entS x) ((allN x).foldl (pushS x) ((allN x).foldl popS x.2.2.1))).length:Int)=_
  rw [Wu (I4 x),Wu (Ri x),Wu J9];exact s1
 ·show (((allN x).foldl (ownS x) x.2.2.2.1).length:Int)=_
  rw [Wu (Ge x)];exact s2
 ·show (((allN x).foldl turnS x.2.2.2.2.1).length:Int)=_
  rw [Wu My];exact s3
 ·show (((enterN x).foldl srcS x.2.2.2.2.2.1).length:Int)=_
  rw [Wu Ga];exact s4
 ·show (((allN x).foldl (arrS x) x.2.2.2.2.2.2.1).length:Int)=_
  rw [Wu (Fj x)];exact s5
 ·refine X2 _ _ _ (X2 _ _ _ (X2 _ _ _ h3 fun s g hg hs=>Li hs) fun s g hg hs=>?_) fun s k hk hs=>?_
  ·unfold pushS
   split
   ·exact hs
   ·rename_i hp
    obtain ⟨a1,a2,a3,a4⟩:=Yt hg
    have hh:=a4.2.1
    rcases hh with hh|⟨hh,_⟩
    ·exact absurd hh hp
    obtain ⟨t1,t2,t3⟩:=Ys (c:=g.2.2%2) hh (by omega) (by omega)
    obtain ⟨e1,e2⟩:=Qat hx a4
    refine Lv hs ⟨?_,e2⟩
    show (headOf x (10*g.1+g.2.2)).2.2.1=_
    rw [e1,t3];omega
  ·obtain ⟨_,e1,_⟩:=Xi hk
   obtain ⟨f1,f2,f3⟩:=Re hx e1
   exact Lv hs ⟨f3.symm,f1⟩
 ·exact X2 _ _ _ h4 fun s k hk hs=>Li hs
 ·refine X2 (fun s:List Int=>∀o∈s,inR 0 o 9) _ _ h5 fun s g hg hs o ho=>?_
  rcases List.mem_or_eq_of_mem_set ho with ho|rfl
  ·exact hs o ho
  ·unfold inR;omega
def allL (L:Nat) (s:SSD):Prop:=∀l∈s,l.length≤L
theorem Bs {s:SSD} {k:Nat} {f:List FlitD→List FlitD} {l:List FlitD} (h:l∈upd s k f):l∈s∨(l=f (s.getD k [])∧k<s.length):=by
 unfold upd at h
 by_cases hl:k<s.length
 ·rcases List.mem_or_eq_of_mem_set h with h|h
  ·exact .inl h
  ·exact .inr ⟨h,hl⟩
 ·rw [List.set_eq_of_length_le (Nat.le_of_not_lt hl)] at h;exact .inl h
theorem Vl {s:SSD} {k:Nat} (hl:k<s.length):s.getD k []∈s:=by
 simp [List.getD_eq_getElem?_getD,hl]
theorem L6 {L:Nat} {s:SSD} {k:Nat} (h:allL L s):allL L (upd s k (List.drop 1)):=fun l hl=>by
 rcases Bs hl with hl|⟨rfl,hk⟩
 ·exact h l hl
 ·have:=h _ (Vl hk);rw [List.length_drop];omega
theorem S4 {L:Nat} {s:SSD} {k:Nat} {y:FlitD} (h:allL L s):allL (L+1) (upd s k (·++[y])):=fun l hl=>by
 rcases Bs hl with hl|⟨rfl,hk⟩
 ·have:=h l hl;omega
 ·have:=h _ (Vl hk);simp only [List.length_append,List.length_cons,List.length_nil];omega
theorem Wn {L M:Nat} {s:SSD} (h:allL L s) (k:L≤M):allL M s:=fun l hl=>by have:=h l hl;omega
theorem Xt {α:Type} {f:SSD→α→SSD} (hf:∀s a L,allL L s→allL (L+1) (f s a)):∀(l:List α) (s:SSD) (L:Nat),allL L s→allL (L+l.length) (l.foldl f s)
 | [],s,L,h=>by simpa using h
 | a::l,s,L,h=>by
  have:=Xt hf l (f s a) (L+1) (hf s a L h)
  rw [List.foldl_cons,List.length_cons]
  exact Wn this (by omega)
theorem Mw {L:Nat} (l:List GrD) (s:SSD) (h:allL L s):allL L (l.foldl popS s):=X2 _ _ _ h fun s g hg hs=>L6 hs
theorem qv {L:Nat} (l:List Nat) (s:SSD) (h:allL L s):allL L (l.foldl srcS s):=X2 _ _ _ h fun s g hg hs=>L6 hs
theorem Rh (x:NetD) (s:SSD) (g:GrD) (L:Nat) (h:allL L s):allL (L+1) (pushS x s g):=by
 unfold pushS;split
 ·exact Wn h (by omega)
 ·exact S4 h
theorem Fu (x:NetD) (s:SSD) (g:GrD) (L:Nat) (h:allL L s):allL (L+1) (arrS x s g):=by
 unfold arrS;split
 ·exact S4 h
 ·exact Wn h (by omega)
theorem Fz (x:NetD) (s:SSD) (k:Nat) (L:Nat) (h:allL L s):allL (L+1) (entS x s k):=S4 h
theorem qo {x:NetD} {L:Nat} (h1:allL L x.2.2.1) (h2:allL L x.2.2.2.2.2.2.1):allL (L+96) (stepN x).2.2.1∧allL (L+96) (stepN x).2.2.2.2.2.2.1:=by
 have a1:=Iq x
 have a2:=Oe x
 refine ⟨?_,?_⟩
 ·exact Wn (Xt (Fz x) (enterN x) _ _ (Xt (Rh x) (allN x) _ _ (Mw (allN x) _ h1))) (by omega)
 ·exact Wn (Xt (Fu x) (allN x) _ _ h2) (by omega)
end Go.Proofs.YtaldglgobgjeaaaGreat.V
set_option linter.all false
namespace Go.Proofs.YtaldglgobgjeaaaGreat.V
open Go Go.VM Go.Proofs
set_option maxRecDepth 10000
variable {frz:Nat} {H:Heap}
theorem Ny {l:List FlitD} {c:Int}:(l.filter fun f=>f.2.2.1=c).length=l.length↔∀f∈l,f.2.2.1=c:=by
 rw [List.length_filter_eq_length_iff];simp
theorem tmod2 (i:Nat):(i:Int).tmod 2=(i:Int)%2:=Int.tmod_eq_emod_of_nonneg (by omega)
theorem V2 {α:Type} {l:List α} {d:α} {i:Nat} (h:i<l.length):l.getD i d=l[i]:=by simp [List.getD_eq_getElem?_getD,h]
theorem Zn {α:Type} {l:List α} {i:Nat} (h:i<l.length) {x:α} (hx:x∈l.take (i+1)):x∈l.take i∨x=l[i]:=by
 rw [List.take_succ_eq_append_getElem h] at hx
 rcases List.mem_append.1 hx with hx|hx
 ·exact .inl hx
 ·exact .inr (List.mem_singleton.1 hx)
theorem Vx {v:NetV} {x:NetD} (o:dNet.Ow H v x):vcall C frz 32 [dNet.val v x] H=some (.bool (decide (netOk x)),H):=by
 have oo:=Qn o
 obtain ⟨u2,⟨u3,u4⟩,⟨u5,h5⟩,u6,u7,⟨u8,h8⟩,⟨u9,h9⟩,_⟩:=v
 obtain ⟨⟨w,h,b⟩,⟨A,B⟩,buf,own,turn,src,arr,tm⟩:=x
 obtain ⟨o2,o3,o5,o6,o7,o8,o9,_⟩:=o
 simp only at o2 o3 o5 o6 o7 o8 o9
 obtain ⟨p2,p3,p4,p5,p6,p7,p8,p9⟩:=oo
 simp only at p2 p3 p4 p5 p6 p7 p8 p9
 rw [Qk]
 refine wp.exact (by simp) ?_ rfl
 rw [Qb (fn:=Tryz.f32) Tryz.func32 rfl (by kernel_rfl) rfl]
 generalize hY:decide (netOk ((w,h,b),(A,B),buf,own,turn,src,arr,tm))=Y
 obtain ⟨N,hN⟩:∃N:Nat,cnt w h=N:=⟨(cnt w h).toNat,by have:=Qf w h;omega⟩
 have hN2:N≤16:=by have:=Qf w h;omega
 have w10:=@w6 (10*(N:Int)) (by omega)
 have w5:=@w6 (5*(N:Int)) (by omega)
 have cok:=fun F L=>Zb (frz:=F) (H:=H++L) w h u2 u3 u4 b A B (Rd.isI o2.1.rd.app) (Rd.isI o3.1.1.rd.app) (Rd.isI o3.2.1.rd.app) o2.2
 have ln5:=fun (L:Heap)=>(RdL.app (L:=L) o5.1.rd).1.len (P:=Tryz.prog) (ty:=36) (by simp)
 have ln8:=fun (L:Heap)=>(RdL.app (L:=L) o8.1.rd).1.len (P:=Tryz.prog) (ty:=36) (by simp)
 have ln9:=fun (L:Heap)=>(RdL.app (L:=L) o9.1.rd).1.len (P:=Tryz.prog) (ty:=36) (by simp)
 have ln6:=fun (L:Heap)=>(Rd.app (L:=L) o6.1.rd).len (P:=Tryz.prog) (ty:=26) (by simp)
 have ln7:=fun (L:Heap)=>(Rd.app (L:=L) o7.1.rd).len (P:=Tryz.prog) (ty:=26) (by simp)
 have hl5:=o5.1.rd.2.1
 have hl8:=o8.1.rd.2.1
 have hl9:=o9.1.rd.2.1
 have hb5:=o5.2.1
 have hb8:=o8.2.1
 simp only at ln5 ln8 ln9 ln6 ln7 hl5 hl8 hl9 hb5 hb8
 have no:¬netOk ((w,h,b),(A,B),buf,own,turn,src,arr,tm)→false=Y:=fun hh=>by rw [← hY];exact (decide_eq_false hh).symm
 have no':¬netOk ((w,h,b),(A,B),buf,own,turn,src,arr,tm)→Y=false:=fun hh=>(no hh).symm
 have ones:=And.intro p2 (And.intro p3 (And.intro p4 (And.intro p5 (And.intro p6 (And.intro p7 (And.intro p8 p9))))))
 simp [ones,Wb,hN,cok,w10,w5]
 by_cases c1:classesOk w h b A B
 rotate_left
 ·simp [c1];exact no' (fun k=>c1 k.1)
 by_cases c2:(buf.length:Int)=10*N
 rotate_left
 ·simp [c1,c2,ones,ln5,hl5,w10];exact no' (fun k=>c2 (by have:=k.2.1.1;simp only [hN] at this;exact this))
 by_cases c3:(own.length:Int)=10*N
 rotate_left
 ·simp [c1,c2,c3,ones,ln5,hl5,ln6,w10];exact no' (fun k=>c3 (by have:=k.2.1.2.1;simp only [hN] at this;exact this))
 by_cases c4:(turn.length:Int)=5*N
 rotate_left
 ·simp [c1,c2,c3,c4,ones,ln5,hl5,ln6,ln7,w10,w5];exact no' (fun k=>c4 (by have:=k.2.1.2.2.1;simp only [hN] at this;exact this))
 by_cases c5:(src.length:Int)=N
 rotate_left
 ·simp [c1,c2,c3,c4,c5,ones,ln5,hl5,ln6,ln7,ln8,hl8,w10,w5];exact no' (fun k=>c5 (by have:=k.2.1.2.2.2.1;simp only [hN] at this;exact this))
 by_cases c6:(arr.length:Int)=N
 rotate_left
 ·simp [c1,c2,c3,c4,c5,c6,ones,ln5,hl5,ln6,ln7,ln8,hl8,ln9,hl9,w10,w5];exact no' (fun k=>c6 (by have:=k.2.1.2.2.2.2;simp only [hN] at this;exact this))
 have hsz:sizesOk ((w,h,b),(A,B),buf,own,turn,src,arr,tm):=by unfold sizesOk;simp only [hN];exact ⟨c2,c3,c4,c5,c6⟩
 simp [c1,c2,c3,c4,c5,c6,ones,ln5,hl5,ln6,ln7,ln8,hl8,ln9,hl9,w10,w5]
 refine Qh (fun n t H'=>∃i:Nat,n=buf.length-i∧i≤buf.length∧t 1=.pointer (some ⟨H.length,0,some 0⟩)∧t 57=u5∧t 58=.int .i64 buf.length∧t 59=.int .i64 i∧Chg H H' []∧
  H'[H.length]? = some ⟨[.int .i64 w,.int .i64 h,u2,u3,u4,u5,u6,u7,u8,u9,.int .i64 tm],0,38⟩∧∀j,j<i→bufOk w h (buf.getD j []) ((j:Int)%2)) ?_ (n:=buf.length)
  ⟨0,rfl,by omega,by simp,by simp,by simp [c2],by simp,Chg.app _,by simp,by omega⟩
 rintro n t H' ⟨i,rfl,hi,t1,t57,t58,t59,ch,b0,hk⟩ ih
 simp [t1,t57,t58,t59]
 refine Qc ?_ ?_<;>intro g
 ·have hi':i<buf.length:=by omega
  have rl:=o5.1.rd.chg ch (by simp)
  obtain ⟨u,_,a2,a3,a4⟩:=Xx rl (ty:=36) (e:=109) (by simp) (by simp) hi'
  have hlen:=o5.2.2 _ (List.getElem_mem hi')
  simp only at a2 a3 a4 hlen
  have lu:=a4.len (P:=Tryz.prog) (ty:=109) (by simp)
  have hbg:buf.getD i []=buf[i]:=V2 hi'
  have bad:¬bufOk w h buf[i] ((i:Int)%2)→Y=false:=fun hh=>no' (fun k=>hh (by have:=k.2.2.1 i hi';simp only [hbg] at this;exact this))
  obtain ⟨l,hl⟩:∃l,l=buf[i]:=⟨_,rfl⟩
  rw [← hl] at a4 lu hlen bad hbg
  simp [t1,t57,t58,t59,a2,a3,lu]
  by_cases g1:l.length≤3
  rotate_left
  ·have g1':(3:Int)<l.length:=by omega
   simp [g1'];exact bad (fun k=>g1 k.1)
  have g1':¬(3:Int)<l.length:=by omega
  simp [g1',t1,t57,t58,t59,tmod2]
  refine Qd (Pa u l ((i:Int)%2) a4 (by omega)) ?_
  rintro r H2 ⟨orr,nr,cc⟩
  have b0:=Qa b0 cc (by simp)
  have lr:=orr.rd.len (P:=Tryz.prog) (ty:=109) (by simp)
  have lu2:=(a4.chg cc (by simp)).len (P:=Tryz.prog) (ty:=109) (by simp)
  have hfl:=Ny (l:=l) (c:=(i:Int)%2)
  generalize (l.filter fun f=>f.2.2.1=(i:Int)%2).length=q at *
  simp [t1,t57,t58,t59,lr,lu2]
  by_cases g2:q=l.length
  rotate_left
  ·have g2':¬(q:Int)=l.length:=by omega
   simp [g2'];exact bad (fun k=>g2 (hfl.2 k.2.1))
  have af:=fun F=>O5 (frz:=F) (H:=H2) w h u l (a4.chg cc (by simp)) (by omega)
  simp [g2,t1,t57,t58,t59,VM.look,b0,af]
  by_cases g3:flitsOk w h l
  rotate_left
  ·simp [g3];exact bad (fun k=>g3 k.2.2)
  simp [g3,t1,t57,t58,t59]
  refine ih (buf.length-(i+1)) _ _ ⟨i+1,rfl,by omega,by simp [t1],by simp [t57],by simp [t58],?_,ch.trans cc,b0,fun j hj=>?_⟩ (by omega)
  ·simp;rw [w64 (by omega) (by omega)]
  ·by_cases hji:j<i
   ·exact hk j hji
   ·have:j=i:=by omega
    subst this
    rw [hbg];exact ⟨g1,hfl.1 g2,g3⟩
 ·have:i=buf.length:=by omega
  subst this
  clear ih
  have l8:=(o8.1.rd.chg ch (by simp)).1.len (P:=Tryz.prog) (ty:=36) (by simp)
  simp only at l8
  simp [t1,t57,t58,t59,VM.look,b0,ones,l8,hl8]
  refine Qh (fun n t H2=>∃i:Nat,n=src.length-i∧i≤src.length∧t 1=.pointer (some ⟨H.length,0,some 0⟩)∧t 87=u8∧t 88=.int .i64 src.length∧t 89=.int .i64 i∧H2=H'∧∀l∈src.take i,srcOk w h l) ?_ (n:=src.length)
   ⟨0,rfl,by omega,by simp [t1],by simp,by simp,by simp,rfl,by simp⟩
  clear t1 t57 t58 t59
  rintro n t H2 ⟨i,rfl,hi,t1,t87,t88,t89,rfl,hk2⟩ ih
  simp [t1,t87,t88,t89]
  refine Qc ?_ ?_<;>intro g
  ·have hi':i<src.length:=by omega
   have rl:=o8.1.rd.chg ch (by simp)
   obtain ⟨u,_,a2,a3,a4⟩:=Xx rl (ty:=36) (e:=109) (by simp) (by simp) hi'
   have hlen:=o8.2.2 _ (List.getElem_mem hi')
   simp only at a2 a3 a4 hlen
   have lu:=a4.len (P:=Tryz.prog) (ty:=109) (by simp)
   have bad:¬srcOk w h src[i]→Y=false:=fun hh=>no' (fun k=>hh (k.2.2.2.1 _ (List.getElem_mem hi')))
   have hst:=fun {x} (hx:x∈src.take (i+1))=>Zn hi' hx
   obtain ⟨l,hl⟩:∃l,l=src[i]:=⟨_,rfl⟩
   rw [← hl] at a4 lu hlen bad hst
   simp [t1,t87,t88,t89,a2,a3,lu]
   by_cases g1:l.length≤60
   rotate_left
   ·have g1':(60:Int)<l.length:=by omega
    simp [g1'];exact bad (fun k=>g1 k.1)
   have g1':¬(60:Int)<l.length:=by omega
   have af:=fun F=>O5 (frz:=F) (H:=H2) w h u l a4 (by omega)
   simp [g1',t1,t87,t88,t89,VM.look,b0,af]
   by_cases g3:flitsOk w h l
   rotate_left
   ·simp [g3];exact bad (fun k=>g3 k.2)
   simp [g3,t1,t87,t88,t89]
   refine ih (src.length-(i+1)) _ _ ⟨i+1,rfl,by omega,by simp [t1],by simp [t87],by simp [t88],?_,rfl,fun x hx=>?_⟩ (by omega)
   ·simp;rw [w64 (by omega) (by omega)]
   ·rcases hst hx with hx|rfl
    ·exact hk2 x hx
    ·exact ⟨g1,g3⟩
  ·have:i=src.length:=by omega
   subst this
   rw [List.take_length] at hk2
   have ai:=fun F=>Vf (frz:=F) (H:=H2) u6 own (-1) 4 (Rd.isI (o6.1.rd.chg ch (by simp))) (by have:=o6.2;omega)
   have ai2:=fun F=>Vf (frz:=F) (H:=H2) u7 turn 0 9 (Rd.isI (o7.1.rd.chg ch (by simp))) (by have:=o7.2;omega)
   have ai3:=fun F=>Qj (frz:=F) (H:=H2) tm 0 1000000
   have hiff:netOk ((w,h,b),(A,B),buf,own,turn,src,arr,tm)↔(∀x∈own,inR (-1) x 4)∧(∀x∈turn,inR 0 x 9)∧inR 0 tm 1000000:=
    ⟨fun k=>k.2.2.2.2,fun k=>⟨c1,hsz,hk,hk2,k⟩⟩
   have hY2:Y=(decide (∀x∈own,inR (-1) x 4)&&decide (∀x∈turn,inR 0 x 9)&&decide (inR 0 tm 1000000)):=by
    rw [← hY,Bool.eq_iff_iff];simp only [decide_eq_true_eq,Bool.and_eq_true,and_assoc];exact hiff
   generalize decide (∀x∈own,inR (-1) x 4)=P1 at *
   generalize decide (∀x∈turn,inR 0 x 9)=P2 at *
   generalize decide (inR 0 tm 1000000)=P3 at *
   simp [t1,t87,t88,t89,VM.look,b0,ones,ai,ai2,ai3,hY2]
   cases P1<;>cases P2<;>cases P3<;>simp [t1,VM.look,b0,ones,ai2,ai3]
def flits (a:SSD):Nat:=ahead a a.length
theorem Gw (a:SSD) (h1:a.length≤2097152) (h2:∀xs∈a,xs.length≤67108864):flits a≤140737488355328:=by
 have:=N9 a h2 a.length (Nat.le_refl _)
 unfold flits;omega
def idle (x:NetD):Prop:=flits x.2.2.1=0∧flits x.2.2.2.2.2.1=0
instance (x:NetD):Decidable (idle x):=inferInstanceAs (Decidable (_∧_))
def idleOk (x:NetD):Prop:=netOk x∧idle x
instance (x:NetD):Decidable (idleOk x):=inferInstanceAs (Decidable (_∧_))
theorem Vt {v:SSV} {a:SSD} (h:dSS.Ow H v a):vcall C frz 78 [v.1] H=some (.int .i64 (flits a),H):=by
 refine wp.exact (by simp) ?_ rfl
 rw [Qb (fn:=Tryz.f78) Tryz.func78 rfl (by kernel_rfl) rfl]
 obtain ⟨ho,h1,h2⟩:=h
 have rd:=ho.rd
 have ll:=rd.1.len (P:=Tryz.prog) (ty:=36) (by simp)
 have el:=rd.2.1
 rw [el] at ll
 simp [ll]
 refine Qh (fun m t H'=>∃i:Nat,m=a.length-i∧i≤a.length∧t 3=.int .i64 (ahead a i)∧t 6=v.1∧t 7=.int .i64 a.length∧t 8=.int .i64 i∧H'=H) ?_ (n:=a.length) ⟨0,rfl,by omega,by simp [ahead],by simp,by simp,by simp,rfl⟩
 rintro m t H' ⟨i,rfl,hi,t3,t6,t7,t8,rfl⟩ ih
 simp [t3,t6,t7,t8]
 refine Qc ?_ ?_<;>intro g
 ·have hi':i<a.length:=by omega
  obtain ⟨u,_,a2,a3,a4⟩:=Xx rd (ty:=36) (e:=109) (by simp) (by simp) hi'
  have lu:=a4.len (P:=Tryz.prog) (ty:=109) (by simp)
  have al:=N9 a h2 i (by omega)
  have asx:=Nn a hi'
  have hm:=h2 _ (List.getElem_mem hi')
  have hg:a.getD i []=a[i]:=by simp [List.getD_eq_getElem?_getD,hi']
  rw [hg] at asx
  have w1:∀[Inhabited Unit],IntKind.i64.wrap ((ahead a i:Int)+(a[i].length:Int))=((ahead a (i+1):Nat):Int):=by intro _;rw [w64 (by omega) (by omega),asx];omega
  simp [t3,t6,t7,t8,a2,a3,lu,w1]
  refine ih (a.length-(i+1)) _ _ ⟨i+1,rfl,by omega,by simp,by simp [t6],by simp [t7],?_,rfl⟩ (by omega)
  simp;rw [w64 (by omega) (by omega)]
 ·have:i=a.length:=by omega
  subst this
  simp [t3,t6,t7,t8,flits]
theorem Ik {id:Nat} {w h tm:Int} {u2 u3 u4 u6 u7 u9:Value} {v5 v8:SSV} {buf src:SSD} (hr:H[id]? = some ⟨[.int .i64 w,.int .i64 h,u2,u3,u4,v5.1,u6,u7,v8.1,u9,.int .i64 tm],0,38⟩)
 (h5:dSS.Ow H v5 buf) (h8:dSS.Ow H v8 src):vcall C frz 45 [.pointer (some ⟨id,0,some 0⟩)] H=some (.bool (decide (flits buf=0∧flits src=0)),H):=by
 rw [Qb (fn:=Tryz.f45) Tryz.func45 rfl (by kernel_rfl) rfl]
 have e1:=fun F=>Vt (frz:=F) h5
 have e2:=fun F=>Vt (frz:=F) h8
 by_cases g:flits buf=0
 ·simp [VM.vnil,VM.look,hr,e1,e2,g]
 ·simp [VM.vnil,VM.look,hr,e1,e2,g]
theorem Oj {v:NetV} {x:NetD} (o:dNet.Ow H v x):vcall C frz 17 [dNet.val v x] H=some (.bool (decide (idleOk x)),H):=by
 have nk:=fun F L=>Vx (frz:=F) (H:=H++L) (v:=v) (x:=x) (Dt.app (T:=dNet) o)
 have ones:=Qn o
 obtain ⟨u2,⟨u3,u4⟩,⟨u5,h5⟩,u6,u7,⟨u8,h8⟩,⟨u9,h9⟩,_⟩:=v
 obtain ⟨⟨w,h,b⟩,⟨A,B⟩,buf,own,turn,src,arr,tm⟩:=x
 obtain ⟨o2,o3,o5,o6,o7,o8,o9,_⟩:=o
 simp only at o2 o3 o5 o6 o7 o8 o9 ones
 rw [Qk]
 simp only [Qk] at nk
 refine wp.exact (by simp) ?_ rfl
 rw [Qb (fn:=Tryz.f17) Tryz.func17 rfl (by kernel_rfl) rfl]
 have ii:=fun F=>Ik (frz:=F) (H:=H++[⟨[.int .i64 w,.int .i64 h,u2,u3,u4,u5,u6,u7,u8,u9,.int .i64 tm],0,38⟩]) (id:=H.length) (w:=w) (h:=h) (tm:=tm) (u2:=u2) (u3:=u3) (u4:=u4) (u6:=u6) (u7:=u7) (u9:=u9) (v5:=(u5,h5)) (v8:=(u8,h8)) (by simp) (Dt.app o5) (Dt.app o8)
 have hY:decide (idleOk ((w,h,b),(A,B),buf,own,turn,src,arr,tm))=(decide (netOk ((w,h,b),(A,B),buf,own,turn,src,arr,tm))&&decide (flits buf=0∧flits src=0)):=by
  rw [Bool.eq_iff_iff,Bool.and_eq_true,decide_eq_true_eq,decide_eq_true_eq,decide_eq_true_eq];exact Iff.rfl
 generalize decide (idleOk ((w,h,b),(A,B),buf,own,turn,src,arr,tm))=Y at *
 generalize decide (netOk ((w,h,b),(A,B),buf,own,turn,src,arr,tm))=P1 at *
 generalize decide (flits buf=0∧flits src=0)=P2 at *
 simp [ones,nk]
 cases P1<;>simp [ones,ii,hY]
end Go.Proofs.YtaldglgobgjeaaaGreat.V
set_option linter.all false
namespace Go.Proofs.YtaldglgobgjeaaaGreat.V
open Go Go.VM Go.Proofs
set_option maxRecDepth 10000
theorem Ff {α β:Type} {f:α→β} {l:List α} (nd:(l.map f).Nodup) {i:Nat} (h:i<l.length):f l[i]∉(l.take i).map f:=fun hh=>by
 have e:(l.take i).map f++(l.drop i).map f=l.map f:=by rw [← List.map_append,List.take_append_drop]
 rw [← e] at nd
 have hm:f l[i]∈(l.drop i).map f:=List.mem_map_of_mem (by rw [List.drop_eq_getElem_cons h];exact List.mem_cons_self ..)
 exact (List.nodup_append.1 nd).2.2 _ hh _ hm rfl
theorem B7:∀(l:List GrD) (s:SSD) (j:Nat),j∉l.map frm→(l.foldl popS s).getD j []=s.getD j []
 | [],s,j,_=>rfl
 | g::l,s,j,h=>by
  rw [List.foldl_cons,B7 l _ j (fun hh=>h (List.mem_cons_of_mem _ hh)),popS,Q7]
  exact fun e=>h (e▸List.mem_cons_self ..)
theorem Bw:∀(l:List Nat) (s:SSD) (j:Nat),j∉l→(l.foldl srcS s).getD j []=s.getD j []
 | [],s,j,_=>rfl
 | g::l,s,j,h=>by
  rw [List.foldl_cons,Bw l _ j (fun hh=>h (List.mem_cons_of_mem _ hh)),srcS,Q7]
  exact fun e=>h (e▸List.mem_cons_self ..)
theorem Uu {x:NetD} (h:netOk x):runOk x:=by
 obtain ⟨h1,h2,h3,h4,h5,h6,h7⟩:=h
 refine ⟨h1,h2,fun j f hf=>?_,fun j f hf=>?_,h6⟩
 ·by_cases hl:j<x.2.2.1.length
  ·obtain ⟨_,k2,k3⟩:=h3 j hl
   exact ⟨k2 f hf,k3 f hf⟩
  ·simp [List.getD_eq_getElem?_getD,List.getElem?_eq_none (Nat.le_of_not_lt hl)] at hf
 ·by_cases hl:j<x.2.2.2.2.2.1.length
  ·exact (h4 _ (Vl hl)).2 f hf
  ·simp [List.getD_eq_getElem?_getD,List.getElem?_eq_none (Nat.le_of_not_lt hl)] at hf
theorem Bu {w h:Int} {b T:List Int} (k:tableOk w h b T) {a c:Int} (ha:isN w h a) (hc:isN w h c):inR 0 (portOf w h T a c) 4:=by
 obtain ⟨h1,h2⟩:=k
 have ha':=ha
 have hc':=hc
 obtain ⟨a1,a2⟩:=ha'
 obtain ⟨c1,c2⟩:=hc'
 have e1:((a.toNat:Nat):Int)=a:=by omega
 have e2:((c.toNat:Nat):Int)=c:=by omega
 obtain ⟨g1,g2⟩:=h2 a.toNat (by omega) c.toNat (by omega)
 rw [e1] at g1 g2
 rw [e2] at g2
 by_cases e:a=c
 ·subst e;rw [g1 rfl];exact ⟨by omega,by omega⟩
 ·have hw:=g2 (fun hh=>e (by omega))
  by_cases so:stepOk w h b T a c
  ·exact ⟨so.1.1,by have:=so.1.2;omega⟩
  ·exfalso
   apply hw
   obtain ⟨f,hf⟩:∃f,(cnt w h).toNat=f+1:=⟨(cnt w h).toNat-1,by omega⟩
   unfold walk
   rw [hf]
   simp only [walkN]
   rw [if_neg so]
   split
   ·first|rfl|rw [if_neg e]
   ·rfl
def older (x:NetD) (k:Int):NetD:=(x.1,x.2.1,x.2.2.1,x.2.2.2.1,x.2.2.2.2.1,x.2.2.2.2.2.1,x.2.2.2.2.2.2.1,x.2.2.2.2.2.2.2+k)
theorem Xe {s:SSD} (h:flits s=0) (j:Nat):s.getD j []=[]:=by
 by_cases hl:j<s.length
 ·have:=Ch s _ (Vl hl)
  unfold flits ahead at h
  rw [List.take_length] at h
  exact List.length_eq_zero_iff.1 (by omega)
 ·simp [List.getD_eq_getElem?_getD,List.getElem?_eq_none (Nat.le_of_not_lt hl)]
theorem Lj {x:NetD} (h:idle x):stepN x=older x 1:=by
 have e1:allN x=[]:=List.eq_nil_iff_forall_not_mem.2 fun g hg=>Tm (Yt hg).2.2.2 (Xe h.1 _)
 have e2:enterN x=[]:=List.eq_nil_iff_forall_not_mem.2 fun k hk=>(Xi hk).2.1 (Xe h.2 _)
 unfold stepN
 rw [e1,e2]
 rfl
noncomputable def runN (x:NetD):Nat→NetD
 | 0=>x
 | k+1=>stepN (runN x k)
theorem zk {x:NetD} (h:runOk x):∀k,runOk (runN x k)
 | 0=>h
 | k+1=>O4 (zk h k)
theorem Md {x:NetD} {L:Nat} (h1:allL L x.2.2.1) (h2:allL L x.2.2.2.2.2.2.1):∀k,allL (L+96*k) (runN x k).2.2.1∧allL (L+96*k) (runN x k).2.2.2.2.2.2.1
 | 0=>⟨h1,h2⟩
 | k+1=>by
  obtain ⟨a,b⟩:=Md h1 h2 k
  exact qo (x:=runN x k) a b
theorem Uz (x:NetD):∀k:Nat,(runN x k).2.2.2.2.2.2.2=x.2.2.2.2.2.2.2+(k:Int)
 | 0=>by simp [runN]
 | k+1=>by
  show (runN x k).2.2.2.2.2.2.2+1=_
  rw [Uz x k];omega
end Go.Proofs.YtaldglgobgjeaaaGreat.V
set_option linter.all false
namespace Go.Proofs.YtaldglgobgjeaaaGreat.V
open Go Go.VM Go.Proofs
set_option maxRecDepth 10000
variable {frz:Nat} {H:Heap}
theorem W5 {α:Type} {D:Fl α} {e:TypeId} {v:Value} {xs:List α} (h:Ow D e H v xs):VM.live H v:=by
 rcases h with ⟨rfl,_⟩|⟨id,off,r,rfl,h2,_⟩
 ·trivial
 ·show VM.look H ⟨id,off,some r.gen⟩≠none
  simp [VM.look,h2]
theorem Eh {hs:List Value} {k:Nat} (hk:k<hs.length) (a':Value):(hs.set k a').flatMap ids=(hs.take k).flatMap ids++(ids a'++(hs.drop (k+1)).flatMap ids):=by
 rw [List.set_eq_take_append_cons_drop,if_pos hk,List.flatMap_append,List.flatMap_cons]
theorem Qaw {hs:List Value} {k:Nat} (hk:k<hs.length):hs.flatMap ids=(hs.take k).flatMap ids++(ids hs[k]++(hs.drop (k+1)).flatMap ids):=by
 have:=Eh hk hs[k]
 rwa [List.set_getElem_self] at this
theorem Pu {α:Type} {D:Fl α} {e oe:TypeId} {H H1:Heap} {v a':Value} {hs:List Value} {xss:List (List α)} {k:Nat} {ys:List α} {frz:Nat} {et:TypeId} {ag:Bool} (h:OwL D e oe H v hs xss) (nd:(idsL v hs).Nodup) (hk:k<hs.length)
 (c:Chg H H1 (ids hs[k])) (o:Ow D e H1 a' ys) (hi:∀i∈ids a',i∈ids hs[k]∨H.length≤i) (hf:∀i∈idsL v hs,frz≤i) (he:tsz Tryz.prog et=some (ag,1)) :
 ∃H2,vstore Tryz.prog frz H1 et a' (elp v k)=some H2∧OwL D e oe H2 v (hs.set k a') (xss.set k ys)∧Chg H H2 (idsL v hs)∧(idsL v (hs.set k a')).Nodup∧(∀i∈idsL v (hs.set k a'),i∈idsL v hs∨H.length≤i)∧H2.length=H1.length:=by
 have hlt:=h.lt
 have hfa:=Qaw hk
 have hfs:=Eh hk a'
 unfold idsL at nd hf hlt ⊢
 rw [hfa] at nd hf hlt ⊢
 rw [hfs]
 obtain ⟨n1,n2,n3⟩:=List.nodup_append.1 nd
 obtain ⟨m1,m2,m3⟩:=List.nodup_append.1 n2
 obtain ⟨p1,p2,p3⟩:=List.nodup_append.1 m2
 have dv:∀i∈ids v,i∉ids hs[k]:=fun i hi hh=>n3 i hi i (List.mem_append_right _ (List.mem_append_left _ hh)) rfl
 have o1:Ow Fl.val oe H1 v hs:=h.1.chg c dv
 have q:VM.one a'=true∧a'.cells=#[a']:=⟨o.rd.one',o.rd.cells⟩
 obtain ⟨H2,s1,s2,s3,s4⟩:=o1.put1 (P:=Tryz.prog) (frz:=frz) rfl (et:=et) (ag:=ag) he (j:=k) (x:=a') (y:=a') hk q.2 q.1 rfl (fun i hi=>hf i (List.mem_append_left _ hi))
 have hlen:∀i,i<H.length→i<H1.length:=fun i hi=>Nat.lt_of_lt_of_le hi c.1
 have dva:∀i∈ids a',i∉ids v:=fun i hi' hh=>by
  rcases hi i hi' with g|g
  ·exact dv i hh g
  ·have:=hlt i (List.mem_append_left _ hh);omega
 refine ⟨H2,s1,⟨s2,by simpa using h.2.1,fun j b zs hb hz=>?_⟩,?_,?_,fun i hi'=>?_,s4⟩
 ·by_cases hjk:k=j
  ·subst hjk
   rw [List.getElem?_set_self hk] at hb
   have hkx:k<xss.length:=h.2.1▸hk
   rw [List.getElem?_set_self hkx] at hz
   cases hb;cases hz
   exact o.chg s3 dva
  ·rw [List.getElem?_set_ne hjk] at hb hz
   have hb':=h.2.2 j b zs hb hz
   have hfl:=Sp hs (by rw [hfa];exact n2) (fun e=>hjk e.symm) hb (List.getElem?_eq_getElem hk)
   refine (hb'.chg c hfl).chg s3 (fun i hi' hh=>?_)
   have hm:i∈hs.flatMap ids:=List.mem_flatMap.2 ⟨b,List.mem_of_getElem? hb,hi'⟩
   rw [hfa] at hm
   exact n3 i hh i hm rfl
 ·exact (c.mono (fun i hi=>List.mem_append_right _ (List.mem_append_right _ (List.mem_append_left _ hi)))).trans (s3.mono (fun i hi=>List.mem_append_left _ hi))
 ·refine List.nodup_append.2 ⟨n1,List.nodup_append.2 ⟨m1,List.nodup_append.2 ⟨Q0 a',p2,fun x hx y hy e=>?_⟩,fun x hx y hy e=>?_⟩,fun x hx y hy e=>?_⟩
  ·subst e
   rcases hi x hx with g|g
   ·exact p3 x g x hy rfl
   ·have:=hlt x (List.mem_append_right _ (List.mem_append_right _ (List.mem_append_right _ hy)));omega
  ·subst e
   rcases List.mem_append.1 hy with hy|hy
   ·rcases hi x hy with g|g
    ·exact m3 x hx x (List.mem_append_left _ g) rfl
    ·have:=hlt x (List.mem_append_right _ (List.mem_append_left _ hx));omega
   ·exact m3 x hx x (List.mem_append_right _ hy) rfl
  ·subst e
   rcases List.mem_append.1 hy with hy|hy
   ·exact n3 x hx x (List.mem_append_left _ hy) rfl
   ·rcases List.mem_append.1 hy with hy|hy
    ·exact dva x hy hx
    ·exact n3 x hx x (List.mem_append_right _ (List.mem_append_right _ hy)) rfl
 ·rcases List.mem_append.1 hi' with hi'|hi'
  ·exact .inl (List.mem_append_left _ hi')
  rcases List.mem_append.1 hi' with hi'|hi'
  ·exact .inl (List.mem_append_right _ (List.mem_append_left _ hi'))
  rcases List.mem_append.1 hi' with hi'|hi'
  ·rcases hi i hi' with g|g
   ·exact .inl (List.mem_append_right _ (List.mem_append_right _ (List.mem_append_left _ g)))
   ·exact .inr g
  ·exact .inl (List.mem_append_right _ (List.mem_append_right _ (List.mem_append_right _ hi')))
def flitsOf (w h:Int) (p:PkD):List FlitD:=if packetOk w h p then (List.range p.2.2.2.2.toNat).map fun i:Nat=>(p.1,p.2.2.1,p.2.2.2.1,decide ((i:Int)=0),decide ((i:Int)=p.2.2.2.2-1)) else []
theorem A4 (w h:Int) (p:PkD) :
 wp (vcall C frz 65 [.agg #[.int .i64 w,.int .i64 h],pkV p] H) (fun r H'=>Ow flF 144 H' r (flitsOf w h p)∧(∀i∈ids r,H.length≤i)∧Chg H H' []):=by
 rw [Qb (fn:=Tryz.f65) Tryz.func65 rfl (by kernel_rfl) rfl]
 have pk:=fun F H=>Tr (frz:=F) (H:=H) w h p
 obtain ⟨q1,q2,q3,q4,q5⟩:=p
 unfold pkV at pk ⊢
 simp only at pk
 have cG:Chg H (H++[⟨[.int .i64 w,.int .i64 h],0,25⟩,⟨[.int .i64 q1,.int .i64 q2,.int .i64 q3,.int .i64 q4,.int .i64 q5],0,73⟩,⟨[],0,144⟩]) []:=Chg.app _
 have o0:Ow flF 144 (H++[⟨[.int .i64 w,.int .i64 h],0,25⟩,⟨[.int .i64 q1,.int .i64 q2,.int .i64 q3,.int .i64 q4,.int .i64 q5],0,73⟩,⟨[],0,144⟩]) (.slice (some ⟨H.length+2,0,some 0⟩) 0 0) []:=Ow.new (D:=flF) (xs:=[]) (k:=2) rfl rfl rfl rfl
 simp [VM.look,pk]
 by_cases g:packetOk w h (q1,q2,q3,q4,q5)
 rotate_left
 ·have e:flitsOf w h (q1,q2,q3,q4,q5)=[]:=if_neg g
  rw [e]
  simp [g]
  first|exact ⟨o0,by simp,cG⟩|exact ⟨o0,by simp,cG.2⟩|exact ⟨o0,cG⟩
 obtain ⟨n,hn⟩:∃n:Nat,q5=n:=⟨q5.toNat,by have:=g.2.2.2.2.2;unfold inR at this;simp only at this;omega⟩
 have hn5:n≤5:=by have:=g.2.2.2.2.2;unfold inR at this;simp only at this;omega
 subst hn
 have hfl:flitsOf w h (q1,q2,q3,q4,(n:Int))=(List.range n).map fun i:Nat=>(q1,q3,q4,decide ((i:Int)=0),decide ((i:Int)=(n:Int)-1)):=by
  unfold flitsOf;rw [if_pos g];simp only [Int.toNat_natCast]
 simp [g,VM.look]
 refine Qh (fun m t H'=>∃(i:Nat) (out:Value),m=n-i∧i≤n∧t 3=.pointer (some ⟨H.length+1,0,some 0⟩)∧t 5=out∧t 14=.int .i64 (n:Int)∧t 15=.int .i64 i∧Chg H H' []∧H'[H.length]? = some ⟨[.int .i64 w,.int .i64 h],0,25⟩∧H'[H.length+1]? = some ⟨[.int .i64 q1,.int .i64 q2,.int .i64 q3,.int .i64 q4,.int .i64 (n:Int)],0,73⟩∧Ow flF 144 H' out ((List.range i).map fun i:Nat=>(q1,q3,q4,decide ((i:Int)=0),decide ((i:Int)=(n:Int)-1)))∧(∀j∈ids out,H.length+2≤j)) ?_ (n:=n)
  ⟨0,.slice (some ⟨H.length+2,0,some 0⟩) 0 0,rfl,by omega,by simp,by simp,by simp,by simp,cG,by simp,by simp,o0,by simp⟩
 rintro m t H' ⟨i,out,rfl,hi,t3,t5,t14,t15,ch,b0,b1,oo,no⟩ ih
 simp [t3,t5,t14,t15,VM.look,b0,b1]
 refine Qc ?_ ?_<;>intro g1
 ·
  have e5:=@w6 ((n:Int)-1) (by omega)
  obtain ⟨Bh,hBh⟩:∃B,B=decide ((i:Int)=0):=⟨_,rfl⟩
  obtain ⟨Bt,hBt⟩:∃B,B=decide ((i:Int)=(n:Int)-1):=⟨_,rfl⟩
  have z1:∀[Inhabited Unit],(decide (i=0))=Bh:=by intro _;rw [hBh];simp
  have z2:∀[Inhabited Unit],(decide ((i:Int)=(n:Int)-1))=Bt:=by intro _;rw [hBt]
  obtain ⟨r',H3,hap,o3,c3,n3⟩:=oo.push (P:=Tryz.prog) (frz:=H.length) (ty:=109) (a:=(q1,q3,q4,Bh,Bt)) (by simp) rfl (by simp;omega) (fun j hj=>by have:=no j hj;omega)
  simp only [Xu] at hap
  simp [-Qp,-Qx,t3,t5,t14,t15,VM.look,b0,b1,e5,z1,z2,hap]
  refine ih (n-(i+1)) _ _ ⟨i+1,r',rfl,by omega,by simp [t3],by simp,by simp [t14],?_,ch.trans' c3 (fun j hj=>.inr (by have:=no j hj;omega)),Qa b0 c3 (fun hh=>by have:=no _ hh;omega),Qa b1 c3 (fun hh=>by have:=no _ hh;omega),?_,fun j hj=>?_⟩ (by omega)
  ·simp [t15];rw [w64 (by omega) (by omega)]
  ·rw [List.range_succ,List.map_append,List.map_cons,List.map_nil,← hBh,← hBt];exact o3
  ·rcases n3 j hj with h1|h1
   ·exact no j h1
   ·have:=Qs b1;omega
 ·have:i=n:=by omega
  subst this
  simp [t3,t5,t14,t15]
  exact ⟨by rw [hfl];exact oo,fun j hj=>by have:=no j hj;omega,ch⟩
theorem P9 {P A S A':List Nat} {N:Nat} (nd:(P++(A++S)).Nodup) (lt:∀i∈P++(A++S),i<N) (na:A'.Nodup) (h:∀i∈A',i∈A∨N≤i):(P++(A'++S)).Nodup∧(∀i∈P++(A'++S),i∈P++(A++S)∨N≤i):=by
 obtain ⟨n1,n2,n3⟩:=List.nodup_append.1 nd
 obtain ⟨m1,m2,m3⟩:=List.nodup_append.1 n2
 refine ⟨List.nodup_append.2 ⟨n1,List.nodup_append.2 ⟨na,m2,fun a ha b hb e=>?_⟩,fun a ha b hb e=>?_⟩,fun i hi=>?_⟩
 ·subst e
  rcases h a ha with g|g
  ·exact m3 a g a hb rfl
  ·have:=lt a (List.mem_append_right _ (List.mem_append_right _ hb));omega
 ·subst e
  rcases List.mem_append.1 hb with hb|hb
  ·rcases h a hb with g|g
   ·exact n3 a ha a (List.mem_append_left _ g) rfl
   ·have:=lt a (List.mem_append_left _ ha);omega
  ·exact n3 a ha a (List.mem_append_right _ hb) rfl
 ·rcases List.mem_append.1 hi with hi|hi
  ·exact .inl (List.mem_append_left _ hi)
  rcases List.mem_append.1 hi with hi|hi
  ·rcases h i hi with g|g
   ·exact .inl (List.mem_append_right _ (List.mem_append_left _ g))
   ·exact .inr g
  ·exact .inl (List.mem_append_right _ (List.mem_append_right _ hi))
theorem Nk {P A S:List Nat} (nd:(P++(A++S)).Nodup):(∀i∈P,i∉A)∧(∀i∈S,i∉A):=by
 obtain ⟨n1,n2,n3⟩:=List.nodup_append.1 nd
 obtain ⟨m1,m2,m3⟩:=List.nodup_append.1 n2
 exact ⟨fun i hi hh=>n3 i hi i (List.mem_append_left _ hh) rfl,fun i hi hh=>m3 i hh i hi rfl⟩
def withBuf (x:NetD) (s:SSD):NetD:=(x.1,x.2.1,s,x.2.2.2.1,x.2.2.2.2.1,x.2.2.2.2.2.1,x.2.2.2.2.2.2.1,x.2.2.2.2.2.2.2)
def putBuf (n:NetV) (u:SSV):NetV:=(n.1,n.2.1,u,n.2.2.2.1,n.2.2.2.2.1,n.2.2.2.2.2.1,n.2.2.2.2.2.2.1,n.2.2.2.2.2.2.2)
theorem C1 {K K':Heap} {n:NetV} {x:NetD} {u:SSV} {s:SSD} (on:dNet.Ow K n x) (nd:(dNet.ids n).Nodup) (c:Chg K K' (dSS.ids n.2.2.1)) (os:dSS.Ow K' u s) (na:(dSS.ids u).Nodup) (hi:∀i∈dSS.ids u,i∈dSS.ids n.2.2.1∨K.length≤i) :
 dNet.Ow K' (putBuf n u) (withBuf x s)∧(dNet.ids (putBuf n u)).Nodup∧∀i∈dNet.ids (putBuf n u),i∈dNet.ids n∨K.length≤i:=by
 have lt:=dNet.lt on
 have e:dNet.ids n=(dMesh.ids n.1++dClasses.ids n.2.1)++(dSS.ids n.2.2.1++(dIntS.ids n.2.2.2.1++(dIntS.ids n.2.2.2.2.1++(dSS.ids n.2.2.2.2.2.1++(dSS.ids n.2.2.2.2.2.2.1++[]))))):=by
  show dMesh.ids n.1++(dClasses.ids n.2.1++(dSS.ids n.2.2.1++(dIntS.ids n.2.2.2.1++(dIntS.ids n.2.2.2.2.1++(dSS.ids n.2.2.2.2.2.1++(dSS.ids n.2.2.2.2.2.2.1++[]))))))=_
  simp only [List.append_assoc]
 have e':dNet.ids (putBuf n u)=(dMesh.ids n.1++dClasses.ids n.2.1)++(dSS.ids u++(dIntS.ids n.2.2.2.1++(dIntS.ids n.2.2.2.2.1++(dSS.ids n.2.2.2.2.2.1++(dSS.ids n.2.2.2.2.2.2.1++[]))))):=by
  show dMesh.ids n.1++(dClasses.ids n.2.1++(dSS.ids u++(dIntS.ids n.2.2.2.1++(dIntS.ids n.2.2.2.2.1++(dSS.ids n.2.2.2.2.2.1++(dSS.ids n.2.2.2.2.2.2.1++[]))))))=_
  simp only [List.append_assoc]
 rw [e] at nd lt ⊢
 rw [e']
 obtain ⟨m1,m2⟩:=P9 nd lt na hi
 obtain ⟨d1,d2⟩:=Nk nd
 obtain ⟨o1,o2,o3,o4,o5,o6,o7,_⟩:=on
 exact ⟨⟨Dt.chg (T:=dMesh) o1 c (fun i hi=>d1 i (List.mem_append_left _ (hi))),Dt.chg (T:=dClasses) o2 c (fun i hi=>d1 i (List.mem_append_right _ hi)),os,Dt.chg (T:=dIntS) o4 c (fun i hi=>d2 i (List.mem_append_left _ hi)),Dt.chg (T:=dIntS) o5 c (fun i hi=>d2 i (List.mem_append_right _ (List.mem_append_left _ hi))),Dt.chg (T:=dSS) o6 c (fun i hi=>d2 i (List.mem_append_right _ (List.mem_append_right _ (List.mem_append_left _ hi)))),Dt.chg (T:=dSS) o7 c (fun i hi=>d2 i (List.mem_append_right _ (List.mem_append_right _ (List.mem_append_right _ (List.mem_append_left _ hi))))),trivial⟩,m1,m2⟩
theorem Y0 {n:NetV}:∀i∈dSS.ids n.2.2.1,i∈dNet.ids n:=fun i hi=>by
 show i∈dMesh.ids n.1++(dClasses.ids n.2.1++(dSS.ids n.2.2.1++(dIntS.ids n.2.2.2.1++(dIntS.ids n.2.2.2.2.1++(dSS.ids n.2.2.2.2.2.1++(dSS.ids n.2.2.2.2.2.2.1++[]))))))
 simp only [List.mem_append];right;right;left;exact hi
theorem Ra {n:NetV} (nd:(dNet.ids n).Nodup):(dSS.ids n.2.2.1).Nodup:=by
 have e:dNet.ids n=(dMesh.ids n.1++dClasses.ids n.2.1)++(dSS.ids n.2.2.1++(dIntS.ids n.2.2.2.1++(dIntS.ids n.2.2.2.2.1++(dSS.ids n.2.2.2.2.2.1++(dSS.ids n.2.2.2.2.2.2.1++[]))))):=by
  show dMesh.ids n.1++(dClasses.ids n.2.1++(dSS.ids n.2.2.1++(dIntS.ids n.2.2.2.1++(dIntS.ids n.2.2.2.2.1++(dSS.ids n.2.2.2.2.2.1++(dSS.ids n.2.2.2.2.2.2.1++[]))))))=_
  simp only [List.append_assoc]
 rw [e] at nd
 exact (List.nodup_append.1 (List.nodup_append.1 nd).2.1).1
def withOwn (x:NetD) (s:List Int):NetD:=(x.1,x.2.1,x.2.2.1,s,x.2.2.2.2.1,x.2.2.2.2.2.1,x.2.2.2.2.2.2.1,x.2.2.2.2.2.2.2)
def putOwn (n:NetV) (u:Value):NetV:=(n.1,n.2.1,n.2.2.1,u,n.2.2.2.2.1,n.2.2.2.2.2.1,n.2.2.2.2.2.2.1,n.2.2.2.2.2.2.2)
theorem D3 {K K':Heap} {n:NetV} {x:NetD} {u:Value} {s:List Int} (on:dNet.Ow K n x) (nd:(dNet.ids n).Nodup) (c:Chg K K' (dIntS.ids n.2.2.2.1)) (os:dIntS.Ow K' u s) (na:(dIntS.ids u).Nodup) (hi:∀i∈dIntS.ids u,i∈dIntS.ids n.2.2.2.1∨K.length≤i) :
 dNet.Ow K' (putOwn n u) (withOwn x s)∧(dNet.ids (putOwn n u)).Nodup∧∀i∈dNet.ids (putOwn n u),i∈dNet.ids n∨K.length≤i:=by
 have lt:=dNet.lt on
 have e:dNet.ids n=((dMesh.ids n.1++dClasses.ids n.2.1)++dSS.ids n.2.2.1)++(dIntS.ids n.2.2.2.1++(dIntS.ids n.2.2.2.2.1++(dSS.ids n.2.2.2.2.2.1++(dSS.ids n.2.2.2.2.2.2.1++[])))):=by
  show dMesh.ids n.1++(dClasses.ids n.2.1++(dSS.ids n.2.2.1++(dIntS.ids n.2.2.2.1++(dIntS.ids n.2.2.2.2.1++(dSS.ids n.2.2.2.2.2.1++(dSS.ids n.2.2.2.2.2.2.1++[]))))))=_
  simp only [List.append_assoc]
 have e':dNet.ids (putOwn n u)=((dMesh.ids n.1++dClasses.ids n.2.1)++dSS.ids n.2.2.1)++(dIntS.ids u++(dIntS.ids n.2.2.2.2.1++(dSS.ids n.2.2.2.2.2.1++(dSS.ids n.2.2.2.2.2.2.1++[])))):=by
  show dMesh.ids n.1++(dClasses.ids n.2.1++(dSS.ids n.2.2.1++(dIntS.ids u++(dIntS.ids n.2.2.2.2.1++(dSS.ids n.2.2.2.2.2.1++(dSS.ids n.2.2.2.2.2.2.1++[]))))))=_
  simp only [List.append_assoc]
 rw [e] at nd lt ⊢
 rw [e']
 obtain ⟨m1,m2⟩:=P9 nd lt na hi
 obtain ⟨d1,d2⟩:=Nk nd
 obtain ⟨o1,o2,o3,o4,o5,o6,o7,_⟩:=on
 exact ⟨⟨Dt.chg (T:=dMesh) o1 c (fun i hi=>d1 i (List.mem_append_left _ (List.mem_append_left _ (hi)))),Dt.chg (T:=dClasses) o2 c (fun i hi=>d1 i (List.mem_append_left _ (List.mem_append_right _ hi))),Dt.chg (T:=dSS) o3 c (fun i hi=>d1 i (List.mem_append_right _ hi)),os,Dt.chg (T:=dIntS) o5 c (fun i hi=>d2 i (List.mem_append_left _ hi)),Dt.chg (T:=dSS) o6 c (fun i hi=>d2 i (List.mem_append_right _ (List.mem_append_left _ hi))),Dt.chg (T:=dSS) o7 c (fun i hi=>d2 i (List.mem_append_right _ (List.mem_append_right _ (List.mem_append_left _ hi)))),trivial⟩,m1,m2⟩
theorem Ro {n:NetV}:∀i∈dIntS.ids n.2.2.2.1,i∈dNet.ids n:=fun i hi=>by
 show i∈dMesh.ids n.1++(dClasses.ids n.2.1++(dSS.ids n.2.2.1++(dIntS.ids n.2.2.2.1++(dIntS.ids n.2.2.2.2.1++(dSS.ids n.2.2.2.2.2.1++(dSS.ids n.2.2.2.2.2.2.1++[]))))))
 simp only [List.mem_append];right;right;right;left;exact hi
theorem wy {n:NetV} (nd:(dNet.ids n).Nodup):(dIntS.ids n.2.2.2.1).Nodup:=by
 have e:dNet.ids n=((dMesh.ids n.1++dClasses.ids n.2.1)++dSS.ids n.2.2.1)++(dIntS.ids n.2.2.2.1++(dIntS.ids n.2.2.2.2.1++(dSS.ids n.2.2.2.2.2.1++(dSS.ids n.2.2.2.2.2.2.1++[])))):=by
  show dMesh.ids n.1++(dClasses.ids n.2.1++(dSS.ids n.2.2.1++(dIntS.ids n.2.2.2.1++(dIntS.ids n.2.2.2.2.1++(dSS.ids n.2.2.2.2.2.1++(dSS.ids n.2.2.2.2.2.2.1++[]))))))=_
  simp only [List.append_assoc]
 rw [e] at nd
 exact (List.nodup_append.1 (List.nodup_append.1 nd).2.1).1
def withTurn (x:NetD) (s:List Int):NetD:=(x.1,x.2.1,x.2.2.1,x.2.2.2.1,s,x.2.2.2.2.2.1,x.2.2.2.2.2.2.1,x.2.2.2.2.2.2.2)
def putTurn (n:NetV) (u:Value):NetV:=(n.1,n.2.1,n.2.2.1,n.2.2.2.1,u,n.2.2.2.2.2.1,n.2.2.2.2.2.2.1,n.2.2.2.2.2.2.2)
theorem Ft {K K':Heap} {n:NetV} {x:NetD} {u:Value} {s:List Int} (on:dNet.Ow K n x) (nd:(dNet.ids n).Nodup) (c:Chg K K' (dIntS.ids n.2.2.2.2.1)) (os:dIntS.Ow K' u s) (na:(dIntS.ids u).Nodup) (hi:∀i∈dIntS.ids u,i∈dIntS.ids n.2.2.2.2.1∨K.length≤i) :
 dNet.Ow K' (putTurn n u) (withTurn x s)∧(dNet.ids (putTurn n u)).Nodup∧∀i∈dNet.ids (putTurn n u),i∈dNet.ids n∨K.length≤i:=by
 have lt:=dNet.lt on
 have e:dNet.ids n=(((dMesh.ids n.1++dClasses.ids n.2.1)++dSS.ids n.2.2.1)++dIntS.ids n.2.2.2.1)++(dIntS.ids n.2.2.2.2.1++(dSS.ids n.2.2.2.2.2.1++(dSS.ids n.2.2.2.2.2.2.1++[]))):=by
  show dMesh.ids n.1++(dClasses.ids n.2.1++(dSS.ids n.2.2.1++(dIntS.ids n.2.2.2.1++(dIntS.ids n.2.2.2.2.1++(dSS.ids n.2.2.2.2.2.1++(dSS.ids n.2.2.2.2.2.2.1++[]))))))=_
  simp only [List.append_assoc]
 have e':dNet.ids (putTurn n u)=(((dMesh.ids n.1++dClasses.ids n.2.1)++dSS.ids n.2.2.1)++dIntS.ids n.2.2.2.1)++(dIntS.ids u++(dSS.ids n.2.2.2.2.2.1++(dSS.ids n.2.2.2.2.2.2.1++[]))):=by
  show dMesh.ids n.1++(dClasses.ids n.2.1++(dSS.ids n.2.2.1++(dIntS.ids n.2.2.2.1++(dIntS.ids u++(dSS.ids n.2.2.2.2.2.1++(dSS.ids n.2.2.2.2.2.2.1++[]))))))=_
  simp only [List.append_assoc]
 rw [e] at nd lt ⊢
 rw [e']
 obtain ⟨m1,m2⟩:=P9 nd lt na hi
 obtain ⟨d1,d2⟩:=Nk nd
 obtain ⟨o1,o2,o3,o4,o5,o6,o7,_⟩:=on
 exact ⟨⟨Dt.chg (T:=dMesh) o1 c (fun i hi=>d1 i (List.mem_append_left _ (List.mem_append_left _ (List.mem_append_left _ (hi))))),Dt.chg (T:=dClasses) o2 c (fun i hi=>d1 i (List.mem_append_left _ (List.mem_append_left _ (List.mem_append_right _ hi)))),Dt.chg (T:=dSS) o3 c (fun i hi=>d1 i (List.mem_append_left _ (List.mem_append_right _ hi))),Dt.chg (T:=dIntS) o4 c (fun i hi=>d1 i (List.mem_append_right _ hi)),os,Dt.chg (T:=dSS) o6 c (fun i hi=>d2 i (List.mem_append_left _ hi)),Dt.chg (T:=dSS) o7 c (fun i hi=>d2 i (List.mem_append_right _ (List.mem_append_left _ hi))),trivial⟩,m1,m2⟩
theorem Tj {n:NetV}:∀i∈dIntS.ids n.2.2.2.2.1,i∈dNet.ids n:=fun i hi=>by
 show i∈dMesh.ids n.1++(dClasses.ids n.2.1++(dSS.ids n.2.2.1++(dIntS.ids n.2.2.2.1++(dIntS.ids n.2.2.2.2.1++(dSS.ids n.2.2.2.2.2.1++(dSS.ids n.2.2.2.2.2.2.1++[]))))))
 simp only [List.mem_append];right;right;right;right;left;exact hi
theorem E9 {n:NetV} (nd:(dNet.ids n).Nodup):(dIntS.ids n.2.2.2.2.1).Nodup:=by
 have e:dNet.ids n=(((dMesh.ids n.1++dClasses.ids n.2.1)++dSS.ids n.2.2.1)++dIntS.ids n.2.2.2.1)++(dIntS.ids n.2.2.2.2.1++(dSS.ids n.2.2.2.2.2.1++(dSS.ids n.2.2.2.2.2.2.1++[]))):=by
  show dMesh.ids n.1++(dClasses.ids n.2.1++(dSS.ids n.2.2.1++(dIntS.ids n.2.2.2.1++(dIntS.ids n.2.2.2.2.1++(dSS.ids n.2.2.2.2.2.1++(dSS.ids n.2.2.2.2.2.2.1++[]))))))=_
  simp only [List.append_assoc]
 rw [e] at nd
 exact (List.nodup_append.1 (List.nodup_append.1 nd).2.1).1
def withSrc (x:NetD) (s:SSD):NetD:=(x.1,x.2.1,x.2.2.1,x.2.2.2.1,x.2.2.2.2.1,s,x.2.2.2.2.2.2.1,x.2.2.2.2.2.2.2)
def putSrc (n:NetV) (u:SSV):NetV:=(n.1,n.2.1,n.2.2.1,n.2.2.2.1,n.2.2.2.2.1,u,n.2.2.2.2.2.2.1,n.2.2.2.2.2.2.2)
theorem Mb {K K':Heap} {n:NetV} {x:NetD} {u:SSV} {s:SSD} (on:dNet.Ow K n x) (nd:(dNet.ids n).Nodup) (c:Chg K K' (dSS.ids n.2.2.2.2.2.1)) (os:dSS.Ow K' u s) (na:(dSS.ids u).Nodup) (hi:∀i∈dSS.ids u,i∈dSS.ids n.2.2.2.2.2.1∨K.length≤i) :
 dNet.Ow K' (putSrc n u) (withSrc x s)∧(dNet.ids (putSrc n u)).Nodup∧∀i∈dNet.ids (putSrc n u),i∈dNet.ids n∨K.length≤i:=by
 have lt:=dNet.lt on
 have e:dNet.ids n=((((dMesh.ids n.1++dClasses.ids n.2.1)++dSS.ids n.2.2.1)++dIntS.ids n.2.2.2.1)++dIntS.ids n.2.2.2.2.1)++(dSS.ids n.2.2.2.2.2.1++(dSS.ids n.2.2.2.2.2.2.1++[])):=by
  show dMesh.ids n.1++(dClasses.ids n.2.1++(dSS.ids n.2.2.1++(dIntS.ids n.2.2.2.1++(dIntS.ids n.2.2.2.2.1++(dSS.ids n.2.2.2.2.2.1++(dSS.ids n.2.2.2.2.2.2.1++[]))))))=_
  simp only [List.append_assoc]
 have e':dNet.ids (putSrc n u)=((((dMesh.ids n.1++dClasses.ids n.2.1)++dSS.ids n.2.2.1)++dIntS.ids n.2.2.2.1)++dIntS.ids n.2.2.2.2.1)++(dSS.ids u++(dSS.ids n.2.2.2.2.2.2.1++[])):=by
  show dMesh.ids n.1++(dClasses.ids n.2.1++(dSS.ids n.2.2.1++(dIntS.ids n.2.2.2.1++(dIntS.ids n.2.2.2.2.1++(dSS.ids u++(dSS.ids n.2.2.2.2.2.2.1++[]))))))=_
  simp only [List.append_assoc]
 rw [e] at nd lt ⊢
 rw [e']
 obtain ⟨m1,m2⟩:=P9 nd lt na hi
 obtain ⟨d1,d2⟩:=Nk nd
 obtain ⟨o1,o2,o3,o4,o5,o6,o7,_⟩:=on
 exact ⟨⟨Dt.chg (T:=dMesh) o1 c (fun i hi=>d1 i (List.mem_append_left _ (List.mem_append_left _ (List.mem_append_left _ (List.mem_append_left _ (hi)))))),Dt.chg (T:=dClasses) o2 c (fun i hi=>d1 i (List.mem_append_left _ (List.mem_append_left _ (List.mem_append_left _ (List.mem_append_right _ hi))))),Dt.chg (T:=dSS) o3 c (fun i hi=>d1 i (List.mem_append_left _ (List.mem_append_left _ (List.mem_append_right _ hi)))),Dt.chg (T:=dIntS) o4 c (fun i hi=>d1 i (List.mem_append_left _ (List.mem_append_right _ hi))),Dt.chg (T:=dIntS) o5 c (fun i hi=>d1 i (List.mem_append_right _ hi)),os,Dt.chg (T:=dSS) o7 c (fun i hi=>d2 i (List.mem_append_left _ hi)),trivial⟩,m1,m2⟩
theorem Zo {n:NetV}:∀i∈dSS.ids n.2.2.2.2.2.1,i∈dNet.ids n:=fun i hi=>by
 show i∈dMesh.ids n.1++(dClasses.ids n.2.1++(dSS.ids n.2.2.1++(dIntS.ids n.2.2.2.1++(dIntS.ids n.2.2.2.2.1++(dSS.ids n.2.2.2.2.2.1++(dSS.ids n.2.2.2.2.2.2.1++[]))))))
 simp only [List.mem_append];right;right;right;right;right;left;exact hi
theorem M6 {n:NetV} (nd:(dNet.ids n).Nodup):(dSS.ids n.2.2.2.2.2.1).Nodup:=by
 have e:dNet.ids n=((((dMesh.ids n.1++dClasses.ids n.2.1)++dSS.ids n.2.2.1)++dIntS.ids n.2.2.2.1)++dIntS.ids n.2.2.2.2.1)++(dSS.ids n.2.2.2.2.2.1++(dSS.ids n.2.2.2.2.2.2.1++[])):=by
  show dMesh.ids n.1++(dClasses.ids n.2.1++(dSS.ids n.2.2.1++(dIntS.ids n.2.2.2.1++(dIntS.ids n.2.2.2.2.1++(dSS.ids n.2.2.2.2.2.1++(dSS.ids n.2.2.2.2.2.2.1++[]))))))=_
  simp only [List.append_assoc]
 rw [e] at nd
 exact (List.nodup_append.1 (List.nodup_append.1 nd).2.1).1
def withArr (x:NetD) (s:SSD):NetD:=(x.1,x.2.1,x.2.2.1,x.2.2.2.1,x.2.2.2.2.1,x.2.2.2.2.2.1,s,x.2.2.2.2.2.2.2)
def putArr (n:NetV) (u:SSV):NetV:=(n.1,n.2.1,n.2.2.1,n.2.2.2.1,n.2.2.2.2.1,n.2.2.2.2.2.1,u,n.2.2.2.2.2.2.2)
theorem Dr {K K':Heap} {n:NetV} {x:NetD} {u:SSV} {s:SSD} (on:dNet.Ow K n x) (nd:(dNet.ids n).Nodup) (c:Chg K K' (dSS.ids n.2.2.2.2.2.2.1)) (os:dSS.Ow K' u s) (na:(dSS.ids u).Nodup) (hi:∀i∈dSS.ids u,i∈dSS.ids n.2.2.2.2.2.2.1∨K.length≤i) :
 dNet.Ow K' (putArr n u) (withArr x s)∧(dNet.ids (putArr n u)).Nodup∧∀i∈dNet.ids (putArr n u),i∈dNet.ids n∨K.length≤i:=by
 have lt:=dNet.lt on
 have e:dNet.ids n=(((((dMesh.ids n.1++dClasses.ids n.2.1)++dSS.ids n.2.2.1)++dIntS.ids n.2.2.2.1)++dIntS.ids n.2.2.2.2.1)++dSS.ids n.2.2.2.2.2.1)++(dSS.ids n.2.2.2.2.2.2.1++[]):=by
  show dMesh.ids n.1++(dClasses.ids n.2.1++(dSS.ids n.2.2.1++(dIntS.ids n.2.2.2.1++(dIntS.ids n.2.2.2.2.1++(dSS.ids n.2.2.2.2.2.1++(dSS.ids n.2.2.2.2.2.2.1++[]))))))=_
  simp only [List.append_assoc]
 have e':dNet.ids (putArr n u)=(((((dMesh.ids n.1++dClasses.ids n.2.1)++dSS.ids n.2.2.1)++dIntS.ids n.2.2.2.1)++dIntS.ids n.2.2.2.2.1)++dSS.ids n.2.2.2.2.2.1)++(dSS.ids u++[]):=by
  show dMesh.ids n.1++(dClasses.ids n.2.1++(dSS.ids n.2.2.1++(dIntS.ids n.2.2.2.1++(dIntS.ids n.2.2.2.2.1++(dSS.ids n.2.2.2.2.2.1++(dSS.ids u++[]))))))=_
  simp only [List.append_assoc]
 rw [e] at nd lt ⊢
 rw [e']
 obtain ⟨m1,m2⟩:=P9 nd lt na hi
 obtain ⟨d1,d2⟩:=Nk nd
 obtain ⟨o1,o2,o3,o4,o5,o6,o7,_⟩:=on
 exact ⟨⟨Dt.chg (T:=dMesh) o1 c (fun i hi=>d1 i (List.mem_append_left _ (List.mem_append_left _ (List.mem_append_left _ (List.mem_append_left _ (List.mem_append_left _ (hi))))))),Dt.chg (T:=dClasses) o2 c (fun i hi=>d1 i (List.mem_append_left _ (List.mem_append_left _ (List.mem_append_left _ (List.mem_append_left _ (List.mem_append_right _ hi)))))),Dt.chg (T:=dSS) o3 c (fun i hi=>d1 i (List.mem_append_left _ (List.mem_append_left _ (List.mem_append_left _ (List.mem_append_right _ hi))))),Dt.chg (T:=dIntS) o4 c (fun i hi=>d1 i (List.mem_append_left _ (List.mem_append_left _ (List.mem_append_right _ hi)))),Dt.chg (T:=dIntS) o5 c (fun i hi=>d1 i (List.mem_append_left _ (List.mem_append_right _ hi))),Dt.chg (T:=dSS) o6 c (fun i hi=>d1 i (List.mem_append_right _ hi)),os,trivial⟩,m1,m2⟩
theorem Rp {n:NetV}:∀i∈dSS.ids n.2.2.2.2.2.2.1,i∈dNet.ids n:=fun i hi=>by
 show i∈dMesh.ids n.1++(dClasses.ids n.2.1++(dSS.ids n.2.2.1++(dIntS.ids n.2.2.2.1++(dIntS.ids n.2.2.2.2.1++(dSS.ids n.2.2.2.2.2.1++(dSS.ids n.2.2.2.2.2.2.1++[]))))))
 simp only [List.mem_append];right;right;right;right;right;right;left;exact hi
theorem xn {n:NetV} (nd:(dNet.ids n).Nodup):(dSS.ids n.2.2.2.2.2.2.1).Nodup:=by
 have e:dNet.ids n=(((((dMesh.ids n.1++dClasses.ids n.2.1)++dSS.ids n.2.2.1)++dIntS.ids n.2.2.2.1)++dIntS.ids n.2.2.2.2.1)++dSS.ids n.2.2.2.2.2.1)++(dSS.ids n.2.2.2.2.2.2.1++[]):=by
  show dMesh.ids n.1++(dClasses.ids n.2.1++(dSS.ids n.2.2.1++(dIntS.ids n.2.2.2.1++(dIntS.ids n.2.2.2.2.1++(dSS.ids n.2.2.2.2.2.1++(dSS.ids n.2.2.2.2.2.2.1++[]))))))=_
  simp only [List.append_assoc]
 rw [e] at nd
 exact (List.nodup_append.1 (List.nodup_append.1 nd).2.1).1
def sendNet (x:NetD) (p:PkD):NetD:=withSrc x (x.2.2.2.2.2.1.set p.2.1.toNat (x.2.2.2.2.2.1.getD p.2.1.toNat []++flitsOf x.1.1 x.1.2.1 p))
theorem Jt {K:Heap} {u:Value} {hs:List Value} {xss:SSD} {k:Nat} {ys:List FlitD} (h:OwL flF 144 109 K u hs (xss.set k ys)) (h1:xss.length≤2097152) (h2:∀xs∈xss,xs.length≤67108864) (h3:ys.length≤67108864):dSS.Ow K (u,hs) (xss.set k ys):=
 ⟨h,by simpa using h1,fun xs hx=>by
  rcases List.mem_or_eq_of_mem_set hx with hx|rfl
  ·exact h2 xs hx
  ·exact h3⟩
def netCells (v:NetV) (x:NetD):List Value:=[.int .i64 x.1.1,.int .i64 x.1.2.1,v.1,v.2.1.1,v.2.1.2,v.2.2.1.1,v.2.2.2.1,v.2.2.2.2.1,v.2.2.2.2.2.1.1,v.2.2.2.2.2.2.1.1,.int .i64 x.2.2.2.2.2.2.2]
def sendOk (x:NetD) (p:PkD):Prop:=packetOk x.1.1 x.1.2.1 p∧((x.2.2.2.2.2.1.getD p.2.1.toNat []).length:Int)+p.2.2.2.2≤60
instance (x:NetD) (p:PkD):Decidable (sendOk x p):=inferInstanceAs (Decidable (_∧_))
theorem Tt {w h:Int} {p:PkD} (g:packetOk w h p):((flitsOf w h p).length:Int)=p.2.2.2.2:=by
 unfold flitsOf;rw [if_pos g]
 have:=g.2.2.2.2.2;unfold inR at this;simp;omega
theorem Cg {w h:Int} {p:PkD} (g:¬packetOk w h p):flitsOf w h p=[]:=if_neg g
theorem Qds {v:NetV} {x:NetD} {p:PkD} {id:Nat} {e:TypeId} {tail:List Value} (hr:H[id]? = some ⟨netCells v x++tail,0,e⟩) (o:dNet.Ow H v x) (nd:(dNet.ids v).Nodup) (hf:∀i∈dNet.ids v,frz≤i) (hid:id∉dNet.ids v) (hN:(x.2.2.2.2.2.1.length:Int)=cnt x.1.1 x.1.2.1) (hs:∀l∈x.2.2.2.2.2.1,l.length≤60) :
 wp (vcall C frz 33 [.pointer (some ⟨id,0,some 0⟩),pkV p] H) (fun r H'=>r=.bool (decide (sendOk x p))∧
  if sendOk x p then ∃hs':List Value,dNet.Ow H' (putSrc v (v.2.2.2.2.2.1.1,hs')) (sendNet x p)∧(dNet.ids (putSrc v (v.2.2.2.2.2.1.1,hs'))).Nodup∧(∀i∈dNet.ids (putSrc v (v.2.2.2.2.2.1.1,hs')),i∈dNet.ids v∨H.length≤i)∧Chg H H' (dSS.ids v.2.2.2.2.2.1) else Chg H H' []):=by
 have ones:=Qn o
 have fo:=fun F H=>A4 (frz:=F) (H:=H) x.1.1 x.1.2.1 p
 rw [Qb (fn:=Tryz.f33) Tryz.func33 rfl (by kernel_rfl) rfl]
 have hlt:=Qs hr
 unfold netCells at hr
 simp only [List.cons_append,List.nil_append] at hr
 obtain ⟨q1,q2,q3,q4,q5⟩:=p
 unfold pkV at fo ⊢
 simp only at fo
 have hr1:=fun r=>Ql hr [r]
 simp
 rw [Qe (h:=by kernel_rfl)]
 simp [VM.look,VM.vnil,hr1]
 refine Qd (fo _ _) ?_
 rintro y K ⟨oy,ny,c1⟩
 have hr2:=Qa (hr1 _) c1 (by simp)
 have b3:K[H.length]? = some ⟨[.int .i64 q1,.int .i64 q2,.int .i64 q3,.int .i64 q4,.int .i64 q5],0,73⟩:=Qa (by simp) c1 (by simp)
 have cH:Chg H K []:=(Chg.app _).trans c1
 have on:=Dt.chg (T:=dNet) o cH (by simp)
 have ly:=oy.rd.len (P:=Tryz.prog) (ty:=109) (by simp)
 simp
 rw [Qe (h:=by kernel_rfl)]
 by_cases g0:packetOk x.1.1 x.1.2.1 (q1,q2,q3,q4,q5)
 rotate_left
 ·have hso:¬sendOk x (q1,q2,q3,q4,q5):=fun k=>g0 k.1
  rw [Cg g0] at ly
  simp [ly,hso]
  exact cH
 have hfl:=Tt g0
 have hto:=g0.2.1
 unfold isN at hto
 simp only at hfl hto
 obtain ⟨m,rfl⟩:∃m:Nat,q2=m:=⟨q2.toNat,by omega⟩
 have hml:m<x.2.2.2.2.2.1.length:=by omega
 have hgd:x.2.2.2.2.2.1.getD m []=x.2.2.2.2.2.1[m]:=by simp [List.getD_eq_getElem?_getD,List.getElem?_eq_getElem hml]
 have hsm:=hs _ (List.getElem_mem hml)
 have hln:=g0.2.2.2.2.2
 unfold inR at hln
 simp only at hln
 have hfn:¬q5=0:=by omega
 obtain ⟨o1,o2,o3,o4,o5,o6,o7,_⟩:=on
 obtain ⟨a,a1,a2,a3,a4⟩:=Xx o6.1.rd (ty:=36) (e:=109) (by simp) (by simp) hml
 have la:=a4.len (P:=Tryz.prog) (ty:=109) (by simp)
 have e1:=@w6 ((x.2.2.2.2.2.1[m].length:Int)+q5) (by omega)
 simp [VM.look,VM.vnil,ly,hfn,hr2,b3,a2,a3,la,hfl,e1]
 refine Qc ?_ ?_<;>intro g1
 ·have hso:¬sendOk x (q1,(m:Int),q3,q4,q5):=fun k=>by have:=k.2;simp only [Int.toNat_natCast,hgd] at this;omega
  simp [hso]
  exact cH
 have hso:sendOk x (q1,(m:Int),q3,q4,q5):=⟨g0,by simp only [Int.toNat_natCast,hgd];omega⟩
 simp
 have liv:=W5 o6.1.1
 have qa:VM.one a=true∧a.cells=#[a]:=⟨a4.one',a4.cells⟩
 have hml':m<v.2.2.2.2.2.1.2.length:=by rw [o6.1.2.1];exact hml
 have ea:v.2.2.2.2.2.1.2[m]=a:=by rw [List.getElem?_eq_getElem hml'] at a1;exact Option.some.inj a1
 have oa:Ow flF 144 K a x.2.2.2.2.2.1[m]:=o6.1.2.2 m a _ a1 (by simp [hml])
 have h6:=Zo (n:=v)
 have ha6:∀i∈ids a,i∈dSS.ids v.2.2.2.2.2.1:=fun i hi=>U6 a1 hi
 have nd6:=M6 nd
 have lt6:∀i∈dSS.ids v.2.2.2.2.2.1,i<H.length:=fun i hi=>dNet.lt o i (h6 i hi)
 obtain ⟨a',K3,hap,oa',c3,na'⟩:=oa.append (P:=Tryz.prog) (frz:=frz) (ty:=109) oy.rd (by simp) (T6 _) (by omega) (fun i hi=>hf i (h6 i (ha6 i hi)))
 have c3':Chg K K3 (ids v.2.2.2.2.2.1.2[m]):=by rw [ea];exact c3
 obtain ⟨K4,hst,oL,c4,ndL,idL,l4⟩:=Pu (frz:=frz) (et:=109) (ag:=false) o6.1 nd6 hml' c3' oa' (by rw [ea];exact na') (fun i hi=>hf i (h6 i hi)) (by simp)
 have b33:=Qa b3 c3 (fun hh=>by have:=lt6 _ (ha6 _ hh);omega)
 have b35:=Qa hr2 c3 (fun hh=>hid (h6 _ (ha6 _ hh)))
 have dav:∀i∈ids v.2.2.2.2.2.1.1,i∉ids a:=fun i hi hh=>(List.nodup_append.1 nd6).2.2 i hi i (List.mem_flatMap.2 ⟨a,List.mem_of_getElem? a1,hh⟩) rfl
 have ol3:=o6.1.1.chg c3 dav
 have liv3:=W5 ol3
 have hsl:=o6.1.2.1
 have ix3:=ol3.rd.idx (P:=Tryz.prog) (ty:=36) (e:=109) (by simp) (i:=(m:Int)) (by omega) (by omega)
 have b43:=Qa b3 c4 (fun hh=>by have:=lt6 _ hh;omega)
 have b45:=Qa hr2 c4 (fun hh=>hid (h6 _ hh))
 have liv4:=W5 oL.1
 have qa':VM.one a'=true∧a'.cells=#[a']:=⟨oa'.rd.one',oa'.rd.cells⟩
 simp only [Int.toNat_natCast,Nat.mul_one,show Fl.val.n=1 from rfl] at ix3
 rw [U8 (fl:=([3,5],[17])) (h:=⟨by kernel_rfl,by kernel_rfl,by kernel_rfl,by kernel_rfl⟩)]
 simp [emps,empOp,empB,-Qp,-Qx,VM.look,VM.vnil,hr2,b3,a2,a3,hap,hst,b33,b35,ix3,liv,liv3,b43,b45,liv4,ones,qa',hso]
 have en:sendNet x (q1,m,q3,q4,q5)=withSrc x (x.2.2.2.2.2.1.set m (x.2.2.2.2.2.1[m]++flitsOf x.1.1 x.1.2.1 (q1,m,q3,q4,q5))):=by
  unfold sendNet
  simp only [Int.toNat_natCast,hgd]
 rw [en]
 have on2:dNet.Ow K v x:=⟨o1,o2,o3,o4,o5,o6,o7,trivial⟩
 have lK:=cH.1
 obtain ⟨p1,p2,p3⟩:=Mb (u:=(v.2.2.2.2.2.1.1,v.2.2.2.2.2.1.2.set m a')) on2 nd c4 (Jt oL o6.2.1 o6.2.2 (by simp;omega)) ndL idL
 refine ⟨_,p1,p2,fun i hi=>?_,(cH.mono (fun _ h=>by cases h)).trans c4⟩
 rcases p3 i hi with g|g
 ·exact .inl g
 ·exact .inr (by omega)
theorem front {K:Heap} {u:Value} {xs:List FlitD} (rd:Rd flF K u xs) (h:xs≠[]) :
 vindexAddr Tryz.prog K 109 u (.int .i64 0)=some (elp u 0)∧vfieldAddr Tryz.prog K 144 1 (elp u 0)=some (elp u 1)∧vfieldAddr Tryz.prog K 144 2 (elp u 0)=some (elp u 2)∧
 vfieldAddr Tryz.prog K 144 3 (elp u 0)=some (elp u 3)∧vload Tryz.prog K 3 (elp u 1)=some (.int .i64 (headL xs).2.1)∧vload Tryz.prog K 3 (elp u 2)=some (.int .i64 (headL xs).2.2.1)∧
 vload Tryz.prog K 4 (elp u 3)=some (.bool (headL xs).2.2.2.1)∧vload Tryz.prog K 144 (elp u 0)=some (.agg (flF.f (headL xs)).toArray):=by
 have h0:0<xs.length:=List.length_pos_iff.2 h
 have z0:=rd.idx (P:=Tryz.prog) (ty:=109) (e:=144) (by simp) (i:=0) (by omega) (by omega)
 have f1:=rd.field (P:=Tryz.prog) (s:=144) (f:=1) (o:=1) (n:=1) (ag:=false) (by simp) (j:=0) h0
 have f2:=rd.field (P:=Tryz.prog) (s:=144) (f:=2) (o:=2) (n:=1) (ag:=false) (by simp) (j:=0) h0
 have f3:=rd.field (P:=Tryz.prog) (s:=144) (f:=3) (o:=3) (n:=1) (ag:=false) (by simp) (j:=0) h0
 have c1:=rd.cell (P:=Tryz.prog) (e:=3) (by simp) h0 (c:=1) (by decide)
 have c2:=rd.cell (P:=Tryz.prog) (e:=3) (by simp) h0 (c:=2) (by decide)
 have c3:=rd.cell (P:=Tryz.prog) (e:=4) (by simp) h0 (c:=3) (by decide)
 have q2:=rd.load (P:=Tryz.prog) (e:=144) (by simp) h0
 have e:headL xs=xs[0]:=by cases xs with
  | nil=>exact absurd rfl h
  | cons a l=>rfl
 rw [e]
 simp only [Int.toNat_natCast,Ox,Int.toNat_zero,Nat.zero_mul,Nat.zero_add,Nat.add_zero] at z0 f1 f2 f3 c1 c2 c3 q2
 simp only [Xu] at c1 c2 c3
 simp at c1 c2 c3
 exact ⟨z0,f1,f2,f3,c1,c2,c3,q2⟩
theorem Nb {P:Nat→Bool} {n p:Nat} (hp:p<n) (h:P p=true) (hn:∀q,q<p→P q=false):(List.range n).find? P=some p:=by
 rw [List.find?_eq_some_iff_append]
 refine ⟨h,List.range p,(List.range' (p+1) (n-(p+1))),?_,fun q hq=>by simpa using hn q (List.mem_range.1 hq)⟩
 rw [List.range_eq_range',List.range_eq_range']
 have e:n=p+(1+(n-(p+1))):=by omega
 conv=>lhs;rw [e,← List.range'_append_1]
 rw [Nat.add_comm 1,List.range'_succ];simp
theorem Ur {P:Nat→Bool} {n:Nat} (hn:∀q,q<n→P q=false):(List.range n).find? P=none:=by
 rw [List.find?_eq_none];intro q hq;simp [hn q (List.mem_range.1 hq)]
theorem Ul (n p c:Int):vcall C frz 101 [.int .i64 n,.int .i64 p,.int .i64 c] H=some (.int .i64 (if inR 0 n 15∧inR 0 p 4∧inR 0 c 1 then 10*n+2*p+c else -1),H):=by
 rw [Qb (fn:=Tryz.f101) Tryz.func101 rfl (by kernel_rfl) rfl]
 by_cases h1:inR 0 n 15
 ·by_cases h2:inR 0 p 4
  ·by_cases h3:inR 0 c 1
   ·simp [Qj,h1,h2,h3]
    unfold inR at h1 h2 h3
    have e1:=@w6 (5*n) (by omega)
    have e2:=@w6 (5*n+p) (by omega)
    have e3:∀[Inhabited Unit],IntKind.i64.wrap ((5*n+p)*2)=10*n+2*p:=by intro _;rw [w64 (by omega) (by omega)];omega
    have e4:=@w6 (10*n+2*p+c) (by omega)
    simp [e1,e2,e3,e4]
   ·simp [Qj,h1,h2,h3]
  ·simp [Qj,h1,h2]
 ·simp [Qj,h1]
theorem Ti {n p c:Nat} (h1:n<16) (h2:p<5) (h3:c<2):vcall C frz 101 [.int .i64 (n:Int),.int .i64 (p:Int),.int .i64 (c:Int)] H=some (.int .i64 (outAt n p c:Nat),H):=by
 rw [Ul,if_pos ⟨⟨by omega,by omega⟩,⟨by omega,by omega⟩,⟨by omega,by omega⟩⟩]
 congr 3
theorem Qee (w h:Int) (v:Value) (b:List Int) (c:Int) (hI:IsI H v b) (hl:b.length≤1073741824) :
 vcall C frz 131 [.agg #[.int .i64 w,.int .i64 h,v],.int .i64 c] H=some (.bool (decide (has w h b c)),H):=by
 rw [Qb (fn:=Tryz.f131) Tryz.func131 rfl (by kernel_rfl) rfl]
 simp [hI.one',hI.cells,Jl]
 refine We _ _ ?_ ?_<;>intro h2<;>simp [h2,has,Y7 _ _ _ (hI.app _) hl,-Bool.decide_and]
theorem I7 {v:NetV} {x:NetD} {id a p c:Nat} {e:TypeId} {tail:List Value} (hr:H[id]? = some ⟨netCells v x++tail,0,e⟩) (o:dNet.Ow H v x) (ha:(a:Int)<cnt x.1.1 x.1.2.1) (hp:p<5) (hc:c<2) :
 vcall C frz 100 [.pointer (some ⟨id,0,some 0⟩),.int .i64 a,.int .i64 p,.int .i64 c] H=some (.int .i64 (if p≠4∧has x.1.1 x.1.2.1 x.1.2.2 (4*(a:Int)+p) then (tgt x a p c:Int) else -1),H):=by
 have ones:=Qn o
 have hl:=o.1.2
 have hI:=Rd.isI o.1.1.rd
 have cr:=Qf x.1.1 x.1.2.1
 rw [Qb (fn:=Tryz.f100) Tryz.func100 rfl (by kernel_rfl) rfl]
 unfold netCells at hr
 simp only [List.cons_append,List.nil_append] at hr
 have e1:=@w6 (4*(a:Int)) (by omega)
 have e2:∀[Inhabited Unit],IntKind.i64.wrap (4*(a:Int)+(p:Int))=4*(a:Int)+p:=by intro _;exact w64 (by omega) (by omega)
 have lv:=fun F=>Qee (frz:=F) (H:=H) x.1.1 x.1.2.1 v.1 x.1.2.2 (4*(a:Int)+p) hI hl
 by_cases h4:p=4
 ·subst h4;simp
 have h4':¬(p:Int)=4:=by omega
 by_cases hh:has x.1.1 x.1.2.1 x.1.2.2 (4*(a:Int)+p)
 ·obtain ⟨t1,t2⟩:=Xl (w:=x.1.1) (h:=x.1.2.1) (a:=a) (p:=p) (b:=x.1.2.2) ⟨by omega,by omega⟩ hh
  obtain ⟨t2,t3⟩:=t2
  obtain ⟨u1,u2,u3⟩:=Ys (c:=c) hh (by omega) hc
  obtain ⟨s1,s2,s3⟩:=Rb (c:=c) hh (by omega)
  have en:=fun F=>Sn (frz:=F) (H:=H) x.1.1 x.1.2.1 v.1 x.1.2.2 (4*(a:Int)+p) hI hh.1
  rw [t1,t2] at en
  have ex:(10*next x.1.1 x.1.2.1 a p+2*opp p+c)=(tgt x a p c:Int):=u1.symm
  have hin:inR 0 (next x.1.1 x.1.2.1 a p) 15∧inR 0 (opp p) 4∧inR 0 (c:Int) 1:=⟨⟨s1.1,by have:=s1.2;omega⟩,⟨s2,by omega⟩,⟨by omega,by omega⟩⟩
  simp [VM.look,VM.vnil,hr,ones,e1,e2,lv,hh,h4,h4',en,Ni,Ul,hin,ex]
 ·simp [VM.look,VM.vnil,hr,ones,e1,e2,lv,hh,h4,h4']
theorem xf {v:NetV} {x:NetD} {id a p c:Nat} {e:TypeId} {tail:List Value} (hr:H[id]? = some ⟨netCells v x++tail,0,e⟩) (o:dNet.Ow H v x) (hx:runOk x) (ha:(a:Int)<cnt x.1.1 x.1.2.1) (hp:p<5) (hc:c<2) :
 vcall C frz 204 [.pointer (some ⟨id,0,some 0⟩),.int .i64 a,.int .i64 p,.int .i64 c] H=some (.bool (decide (roomN x a p c)),H):=by
 have ones:=Qn o
 have bh:=fun F=>I7 (frz:=F) hr o ha hp hc
 rw [Qb (fn:=Tryz.f204) Tryz.func204 rfl (by kernel_rfl) rfl]
 unfold netCells at hr
 simp only [List.cons_append,List.nil_append] at hr
 by_cases h4:p=4
 ·subst h4;simp [roomN]
 have h4':¬(p:Int)=4:=by omega
 by_cases hh:has x.1.1 x.1.2.1 x.1.2.2 (4*(a:Int)+p)
 ·obtain ⟨u1,u2,u3⟩:=Ys (c:=c) hh (by omega) hc
  have hl:tgt x a p c<x.2.2.1.length:=by have:=hx.2.1.1;omega
  obtain ⟨u,a1,a2,a3,a4⟩:=Xx o.2.2.1.1.rd (ty:=36) (e:=109) (by simp) (by simp) hl
  have la:=a4.len (P:=Tryz.prog) (ty:=109) (by simp)
  have hgd:x.2.2.1[tgt x a p c]?.getD []=x.2.2.1[tgt x a p c]:=by simp [hl]
  simp [VM.look,VM.vnil,hr,ones,h4,h4',bh,hh,a2,a3,la,roomN,hgd]
  try omega
 ·simp [VM.look,VM.vnil,hr,ones,h4,h4',bh,hh,roomN]
theorem Em (u1 u2:Value) (A B:List Int) (c:Int) (h1:IsI H u1 A) (h2:IsI H u2 B) :
 wp (vcall C frz 217 [.agg #[u1,u2],.int .i64 c] H) (fun r H'=>r=.agg #[if c=1 then u2 else u1]∧∃L,H'=H++L):=by
 rw [Qb (fn:=Tryz.f217) Tryz.func217 rfl (by kernel_rfl) rfl]
 have one:=And.intro (And.intro h1.one' h1.cells) (And.intro h2.one' h2.cells)
 simp [one]
 refine Qc ?_ ?_<;>intro g<;>simp [g,one]
theorem kf {v:NetV} {x:NetD} {id a i:Nat} {e:TypeId} {tail:List Value} (hr:H[id]? = some ⟨netCells v x++tail,0,e⟩) (o:dNet.Ow H v x) (hx:runOk x) (ha:(a:Int)<cnt x.1.1 x.1.2.1) (hi:i<10) :
 vcall C frz 203 [.pointer (some ⟨id,0,some 0⟩),.int .i64 a,.int .i64 i] H=some (.int .i64 (wantedN x a i),H):=by
 refine wp.exact (by simp) ?_ rfl
 have ones:=Qn o
 have cr:=Qf x.1.1 x.1.2.1
 rw [Qb (fn:=Tryz.f203) Tryz.func203 rfl (by kernel_rfl) rfl]
 unfold netCells at hr
 simp only [List.cons_append,List.nil_append] at hr
 obtain ⟨d,hd⟩:∃d,d=10*a+i:=⟨_,rfl⟩
 obtain ⟨c,hc⟩:∃c,c=i%2:=⟨_,rfl⟩
 obtain ⟨q,hq⟩:∃q,q=i/2:=⟨_,rfl⟩
 generalize hY:wantedN x a i=Y
 unfold wantedN at hY
 rw [← hd,← hc,← hq] at hY
 have e1:=@w6 (10*(a:Int)) (by omega)
 have e2:∀[Inhabited Unit],IntKind.i64.wrap (10*(a:Int)+(i:Int))=(d:Int):=by intro _;rw [w64 (by omega) (by omega)];omega
 have e3:∀[Inhabited Unit],(i:Int).tmod 2=(c:Int):=by intro _;rw [tmod2];omega
 have e4:∀[Inhabited Unit],IntKind.i64.wrap ((i:Int)/2)=(q:Int):=by intro _;rw [w64 (by omega) (by omega)];omega
 have hl:d<x.2.2.1.length:=by have:=hx.2.1.1;omega
 obtain ⟨u,a1,a2,a3,a4⟩:=Xx o.2.2.1.1.rd (ty:=36) (e:=109) (by simp) (by simp) hl
 have la:=a4.len (P:=Tryz.prog) (ty:=109) (by simp)
 have hgd:x.2.2.1.getD d []=x.2.2.1[d]:=by simp [List.getD_eq_getElem?_getD,hl]
 have hho:headOf x d=headL x.2.2.1[d]:=by unfold headOf;rw [hgd]
 have qa:VM.one u=true∧u.cells=#[u]:=⟨a4.one',a4.cells⟩
 simp [VM.look,VM.vnil,hr,ones,e1,e2,a2,a3,la]
 rw [hgd,hho] at hY
 by_cases g0:x.2.2.1[d]=[]
 ·rw [if_pos g0] at hY
  simp [g0,hY]
 rw [if_neg g0] at hY
 have g0':¬(x.2.2.1[d].length:Int)=0:=by
  have:=List.length_pos_iff.2 g0;omega
 have g0n:¬x.2.2.1[d].length=0:=by omega
 have fr:=fun L=>front (a4.app (L:=L)) g0
 have zL:=fun L=>(fr L).1
 have fL:=fun L=>(fr L).2.1
 have cL:=fun L=>(fr L).2.2.2.2.1
 clear fr
 obtain ⟨z0,f1,f2,f3,c1,c2,c3,_⟩:=front a4 g0
 obtain ⟨k1,k2⟩:=hx.2.2.1 d _ (by rw [hgd];exact S5 g0)
 generalize headL x.2.2.1[d]=f at *
 simp [-vfieldAddr,Xh,g0',g0n,g0,z0,f3,c3]
 by_cases g1:f.2.2.2.1=true
 ·rw [if_pos g1] at hY
  simp only [g1]
  simp
  rw [Qe (h:=by kernel_rfl)]
  have hcl:f.2.2.1=(c:Int):=by rw [k1];omega
  have hi1:IsI H v.2.1.1 x.2.1.1:=Rd.isI o.2.1.1.1.rd
  have hi2:IsI H v.2.1.2 x.2.1.2:=Rd.isI o.2.1.2.1.rd
  simp [-vfieldAddr,Xh,VM.look,VM.vnil,hr,ones,z0,f1,f2,c1,c2,hcl]
  refine Qd (Em v.2.1.1 v.2.1.2 x.2.1.1 x.2.1.2 (c:Int) hi1 hi2) ?_
  rintro _ K ⟨rfl,L,rfl⟩
  have hT:IsI H (if (c:Int)=1 then v.2.1.2 else v.2.1.1) (if c=1 then x.2.1.2 else x.2.1.1):=by
   by_cases h1:c=1
   ·simp [h1,hi2]
   ·rw [if_neg (by omega),if_neg h1];exact hi1
  have hok:tableOk x.1.1 x.1.2.1 x.1.2.2 (if c=1 then x.2.1.2 else x.2.1.1):=by split;exact hx.1.2;exact hx.1.1
  have hin:=Bu hok (a:=a) (c:=f.2.1) ⟨by omega,ha⟩ k2.1
  generalize (if (c:Int)=1 then v.2.1.2 else v.2.1.1)=uT at *
  generalize (if c=1 then x.2.1.2 else x.2.1.1)=T at *
  have pt:=fun F=>F7 (frz:=F) (H:=H++L) x.1.1 x.1.2.1 v.1 uT x.1.2.2 T a f.2.1 (Rd.isI o.1.1.rd.app) (hT.app _) o.1.2 hok.1 ⟨by omega,ha⟩ k2.1
  rw [hY,if_pos (hY▸hin)] at pt
  simp [-vfieldAddr,Xh,ones,hT.one',hT.cells,pt,zL,fL,cL]
 ·rw [if_neg g1] at hY
  simp only [g1]
  simp
  refine Qh (fun n t H'=>∃p:Nat,n=5-p∧p≤5∧t 0=.pointer (some ⟨id,0,some 0⟩)∧t 1=.int .i64 a∧t 2=.int .i64 i∧t 8=.int .i64 p∧H'=H∧∀r,r<p→decide (x.2.2.2.1.getD (outAt a r c) 0=(q:Int))=false) ?_ (n:=5) ⟨0,by simp,by omega,by simp,by simp,by simp,by simp,rfl,by omega⟩
  rintro n t H' ⟨p,rfl,hp,t0,t1,t2,t8,rfl,hk⟩ ih
  simp [t0,t1,t2,t8]
  refine Qc ?_ ?_<;>intro g
  ·have hp':p<5:=by omega
   have bA:=fun F=>Ti (frz:=F) (H:=H') (n:=a) (p:=p) (c:=c) (by omega) hp' (by omega)
   have hz:outAt a p c<x.2.2.2.1.length:=by have:=hx.2.1.2.1;unfold outAt;omega
   have hgo:x.2.2.2.1.getD (outAt a p c) 0=x.2.2.2.1[outAt a p c]:=by simp [List.getD_eq_getElem?_getD,hz]
   have hk2:=hk
   generalize hzz:outAt a p c=z at *
   have rd:=Rd.isI o.2.2.2.1.1.rd
   have q1:=rd.idx (P:=Tryz.prog) (ty:=26) (e:=3) (by simp) (i:=(z:Int)) (by omega) (by omega)
   have q2:=rd.load (P:=Tryz.prog) (e:=3) (by simp) hz
   simp only [Int.toNat_natCast] at q1 q2
   rw [hgo] at q2
   simp [t0,t1,t2,t8]
   rw [Qe (h:=by kernel_rfl)]
   simp [VM.look,VM.vnil,hr,ones,t0,t1,t2,t8,e3,e4,bA,q1,q2]
   refine Qc ?_ ?_<;>intro g2
   ·simp [t0,t1,t2,t8]
    rw [Nb hp' (by rw [hzz,hgo];exact decide_eq_true g2) hk] at hY
    exact hY
   ·simp [t0,t1,t2,t8]
    refine ih (5-(p+1)) _ _ ⟨p+1,rfl,by omega,by simp [t0],by simp [t1],by simp [t2],?_,rfl,fun r hr'=>?_⟩ (by omega)
    ·simp;rw [w64 (by omega) (by omega)]
    ·by_cases hrp:r<p
     ·exact hk r hrp
     ·have:r=p:=by omega
      subst this
      rw [hzz,hgo];exact decide_eq_false g2
  ·have:p=5:=by omega
   subst this
   rw [Ur hk] at hY
   simp [t0,t1,t2,t8,hY]
theorem Gy {v:NetV} {x:NetD} {id a i p:Nat} {e:TypeId} {tail:List Value} (hr:H[id]? = some ⟨netCells v x++tail,0,e⟩) (o:dNet.Ow H v x) (hx:runOk x) (ha:(a:Int)<cnt x.1.1 x.1.2.1) (hi:i<10) (hp:p<5) :
 vcall C frz 193 [.pointer (some ⟨id,0,some 0⟩),.int .i64 a,.int .i64 i,.int .i64 p] H=some (.bool (decide (reqN x a i p)),H):=by
 refine wp.exact (by simp) ?_ rfl
 have ones:=Qn o
 have cr:=Qf x.1.1 x.1.2.1
 obtain ⟨d,hd⟩:∃d,d=10*a+i:=⟨_,rfl⟩
 obtain ⟨c,hc⟩:∃c,c=i%2:=⟨_,rfl⟩
 obtain ⟨q,hq⟩:∃q,q=i/2:=⟨_,rfl⟩
 have wn:=fun F=>kf (frz:=F) hr o hx ha hi
 have rm:=fun F=>xf (frz:=F) (c:=c) hr o hx ha hp (by omega)
 have bA:=fun F=>Ti (frz:=F) (H:=H) (n:=a) (p:=p) (c:=c) (by omega) hp (by omega)
 rw [Qb (fn:=Tryz.f193) Tryz.func193 rfl (by kernel_rfl) rfl]
 unfold netCells at hr
 simp only [List.cons_append,List.nil_append] at hr
 generalize hY:decide (reqN x a i p)=Y
 have no:¬reqN x a i p→Y=false:=fun hh=>by rw [← hY];exact decide_eq_false hh
 have e0:¬(p:Int)<0:=by omega
 have e1:=@w6 (10*(a:Int)) (by omega)
 have e2:∀[Inhabited Unit],IntKind.i64.wrap (10*(a:Int)+(i:Int))=(d:Int):=by intro _;rw [w64 (by omega) (by omega)];omega
 have e3:∀[Inhabited Unit],(i:Int).tmod 2=(c:Int):=by intro _;rw [tmod2];omega
 have e4:∀[Inhabited Unit],IntKind.i64.wrap ((i:Int)/2)=(q:Int):=by intro _;rw [w64 (by omega) (by omega)];omega
 by_cases g1:wantedN x a i=(p:Int)
 rotate_left
 ·simp [e0,wn,g1];exact no (fun k=>g1 k.1)
 by_cases g2:roomN x a p c
 rotate_left
 ·simp [e0,wn,g1,e3,rm,g2];exact no (fun k=>g2 (hc▸k.2.1))
 have hl:d<x.2.2.1.length:=by have:=hx.2.1.1;omega
 obtain ⟨u,a1,a2,a3,a4⟩:=Xx o.2.2.1.1.rd (ty:=36) (e:=109) (by simp) (by simp) hl
 have hgd:x.2.2.1.getD d []=x.2.2.1[d]:=by simp [List.getD_eq_getElem?_getD,hl]
 have hho:headOf x d=headL x.2.2.1[d]:=by unfold headOf;rw [hgd]
 have g0:x.2.2.1[d]≠[]:=fun hh=>by
  unfold wantedN at g1
  rw [← hd,hgd,if_pos hh] at g1
  omega
 obtain ⟨z0,f1,f2,f3,c1,c2,c3,_⟩:=front a4 g0
 have hz:outAt a p c<x.2.2.2.1.length:=by have:=hx.2.1.2.1;unfold outAt;omega
 have hgo:x.2.2.2.1.getD (outAt a p c) 0=x.2.2.2.1[outAt a p c]:=by simp [List.getD_eq_getElem?_getD,hz]
 have key:reqN x a i p↔x.2.2.2.1[outAt a p c]=if (headL x.2.2.1[d]).2.2.2.1 then -1 else (q:Int):=by
  unfold reqN;rw [← hd,← hc,← hq,hgo,hho]
  exact ⟨fun k=>k.2.2,fun k=>⟨g1,g2,k⟩⟩
 generalize hzz:outAt a p c=z at *
 generalize headL x.2.2.1[d]=f at *
 have rd:=Rd.isI o.2.2.2.1.1.rd
 have q1:=rd.idx (P:=Tryz.prog) (ty:=26) (e:=3) (by simp) (i:=(z:Int)) (by omega) (by omega)
 have q2:=rd.load (P:=Tryz.prog) (e:=3) (by simp) hz
 simp only [Int.toNat_natCast] at q1 q2
 rw [hgo] at q2
 have qa:VM.one u=true∧u.cells=#[u]:=⟨a4.one',a4.cells⟩
 simp [e0,wn,g1,e3,rm,g2]
 rw [Qe (h:=by kernel_rfl)]
 simp [VM.look,VM.vnil,hr,ones,e3,bA,q1,q2]
 simp [-vfieldAddr,Xh,VM.look,VM.vnil,hr,ones,e1,e2,a2,a3,z0,f3,c3]
 by_cases g3:f.2.2.2.1=true
 ·simp only [g3,if_true] at key ⊢
  simp [e4]
  rw [← hY];simp only [key]
 ·simp only [g3,if_false] at key ⊢
  simp [e4]
  rw [← hY];simp only [key]
  try simp
theorem D2 {v:NetV} {x:NetD} {id a p:Nat} {e:TypeId} {tail:List Value} (hr:H[id]? = some ⟨netCells v x++tail,0,e⟩) (o:dNet.Ow H v x) (hx:runOk x) (ha:(a:Int)<cnt x.1.1 x.1.2.1) (hp:p<5) :
 wp (vcall C frz 169 [.pointer (some ⟨id,0,some 0⟩),.int .i64 a,.int .i64 p] H) (fun r H'=>Ow Fl.int 3 H' r ((reqsN x a p).map Int.ofNat)∧(∀i∈ids r,H.length≤i)∧Chg H H' []):=by
 rw [Qb (fn:=Tryz.f169) Tryz.func169 rfl (by kernel_rfl) rfl]
 simp
 refine Qh (fun n t H'=>∃(i:Nat) (r:Value),n=10-i∧i≤10∧t 0=.pointer (some ⟨id,0,some 0⟩)∧t 1=.int .i64 a∧t 2=.int .i64 p∧t 7=r∧t 10=.int .i64 i∧Chg H H' []∧Ow Fl.int 3 H' r (((List.range i).filter fun i=>reqN x a i p).map Int.ofNat)∧(∀j∈ids r,H.length≤j)) ?_ (n:=10)
  ⟨0,.slice (some ⟨H.length,0,some 0⟩) 0 0,rfl,by omega,by simp,by simp,by simp,by simp,by simp,Chg.app _,Ow.new0 (D:=Fl.int) (xs:=[]) rfl rfl rfl rfl,by simp⟩
 rintro n t H' ⟨i,r,rfl,hi,t0,t1,t2,t7,t10,ch,oo,nr⟩ ih
 simp [t0,t1,t2,t7,t10]
 refine Qc ?_ ?_<;>intro g
 ·have hi':i<10:=by omega
  have rq:=fun F=>Gy (frz:=F) (i:=i) (Qa hr ch (by simp)) (Dt.chg (T:=dNet) o ch (by simp)) hx ha hi' hp
  have hfl:=List.length_filter_le (fun i=>decide (reqN x a i p)) (List.range i)
  rw [List.length_range] at hfl
  simp [t0,t1,t2,t7,t10,rq]
  refine Qc ?_ ?_<;>intro g1
  ·obtain ⟨r',H2,hap,o2,c2,n2⟩:=oo.push (P:=Tryz.prog) (frz:=H.length) (ty:=26) (a:=(i:Int)) (by simp) rfl (by simp;omega) nr
   simp only [Fl.int_f] at hap
   have l0:=ch.1
   simp [t0,t1,t2,t7,t10,hap]
   refine ih (10-(i+1)) _ _ ⟨i+1,r',rfl,by omega,by simp [t0],by simp [t1],by simp [t2],by simp,?_,ch.trans' c2 (fun j hj=>.inr (nr j hj)),?_,fun j hj=>?_⟩ (by omega)
   ·simp [t10];rw [w64 (by omega) (by omega)]
   ·rw [List.range_succ,List.filter_append,List.map_append];simpa [g1] using o2
   ·rcases n2 j hj with h1|h1
    ·exact nr j h1
    ·have:=ch.1;omega
  ·simp [t0,t1,t2,t7,t10]
   refine ih (10-(i+1)) _ _ ⟨i+1,r,rfl,by omega,by simp [t0],by simp [t1],by simp [t2],by simp [t7],?_,ch,?_,nr⟩ (by omega)
   ·simp [t10];rw [w64 (by omega) (by omega)]
   ·rw [List.range_succ,List.filter_append,List.map_append];simpa [g1] using oo
 ·have:i=10:=by omega
  subst this
  simp [t0,t1,t2,t7,t10]
  exact ⟨oo,nr,ch⟩
theorem Iu {y t:Int} (h1:inR 0 y 9) (h2:inR 0 t 9):∀[Inhabited Unit],(IntKind.i64.wrap (IntKind.i64.wrap (y-t)+10)).tmod 10=(y-t+10)%10:=by
 intro _
 unfold inR at h1 h2
 rw [w64 (x:=y-t) (by omega) (by omega),w64 (by omega) (by omega),Int.tmod_eq_emod_of_nonneg (by omega)]
def firstTo (t:Int) (l:List Int) (i:Nat):Int:=firstF t (l.take i)
theorem Kk (t:Int) {l:List Int} {i:Nat} (h:i<l.length):firstTo t l (i+1)=if firstTo t l i<0∨(l[i]-t+10)%10<(firstTo t l i-t+10)%10 then l[i] else firstTo t l i:=by
 unfold firstTo firstF
 rw [List.take_succ_eq_append_getElem h,List.foldl_append];rfl
theorem Ct {t:Int} {l:List Int} {i:Nat} (h:∀y∈l,inR 0 y 9):firstTo t l i=-1∨inR 0 (firstTo t l i) 9:=by
 rcases Vy t (l.take i) (-1) with g|g
 ·exact .inl g
 ·exact .inr (h _ (List.mem_of_mem_take g))
theorem Ec (v:Value) (l:List Int) (k:Int) (hI:IsI H v l) (hl:l.length≤1073741824) (h1:∀y∈l,inR 0 y 9) (h2:inR 0 k 9) :
 vcall C frz 171 [v,.int .i64 k] H=some (.int .i64 (firstF k l),H):=by
 refine wp.exact (by simp) ?_ rfl
 rw [Qb (fn:=Tryz.f171) Tryz.func171 rfl (by kernel_rfl) rfl]
 have ai:∀F,vcall C F 44 [v,.int .i64 0,.int .i64 9] H=some (.bool true,H):=fun F=>by rw [Vf v l 0 9 hI hl,decide_eq_true h1]
 simp [ai,Qj,h1,h2,hI.len]
 refine Qh (fun n t H'=>∃i:Nat,n=l.length-i∧i≤l.length∧t 1=.int .i64 k∧t 5=.int .i64 (firstTo k l i)∧t 16=v∧t 17=.int .i64 l.length∧t 18=.int .i64 i∧H'=H) ?_ (n:=l.length)
  ⟨0,rfl,by omega,by simp,by simp [firstTo,firstF],by simp,by simp,by simp,rfl⟩
 rintro n t H' ⟨i,rfl,hi,t1,t5,t16,t17,t18,rfl⟩ ih
 simp [t1,t5,t16,t17,t18]
 refine Qc ?_ ?_<;>intro g
 ·have hi':i<l.length:=by omega
  have hs:=Kk k hi'
  have hy:=h1 _ (List.getElem_mem hi')
  have tv:=Iu hy h2
  simp [t1,t5,t16,t17,t18,hI.idx,hI.load,Q5,hi']
  rcases Ct (t:=k) (i:=i) h1 with g1|g1
  ·rw [g1] at hs
   simp [g1] at hs
   simp [t1,t5,t16,t17,t18,g1]
   refine ih (l.length-(i+1)) _ _ ⟨i+1,rfl,by omega,by simp [t1],by simp [hs],by simp [t16],by simp [t17],?_,rfl⟩ (by omega)
   simp [t18];rw [w64 (by omega) (by omega)]
  ·have tb:=Iu g1 h2
   have g2:¬firstTo k l i<0:=by unfold inR at g1;omega
   simp [t1,t5,t16,t17,t18,g2,tv,tb]
   refine Qc ?_ ?_<;>intro g3
   ·rw [if_pos (.inr (by omega))] at hs
    simp [t1,t5,t16,t17,t18]
    refine ih (l.length-(i+1)) _ _ ⟨i+1,rfl,by omega,by simp [t1],by simp [hs],by simp [t16],by simp [t17],?_,rfl⟩ (by omega)
    simp [t18];rw [w64 (by omega) (by omega)]
   ·rw [if_neg (by omega)] at hs
    simp [t1,t5,t16,t17,t18]
    refine ih (l.length-(i+1)) _ _ ⟨i+1,rfl,by omega,by simp [t1],by simp [hs,t5],by simp [t16],by simp [t17],?_,rfl⟩ (by omega)
    simp [t18];rw [w64 (by omega) (by omega)]
 ·have:i=l.length:=by omega
  subst this
  simp [t1,t5,t16,t17,t18,firstTo]
end Go.Proofs.YtaldglgobgjeaaaGreat.V
set_option linter.all false
namespace Go.Proofs.YtaldglgobgjeaaaGreat.V
open Go Go.VM Go.Proofs
def G (xs:List Int) (i:Nat):Int:=xs.getD i 0
theorem Wz {xs:List Int} {i:Nat} (h:i<xs.length):G xs i=xs[i]:=by simp [G,List.getD_eq_getElem?_getD,h]
def swp (xs:List Int) (i j:Nat):List Int:=(xs.set i (G xs j)).set j (G xs i)
@[simp] theorem Qbu (xs:List Int) (i j:Nat):(swp xs i j).length=xs.length:=by simp [swp]
theorem Xw {xs:List Int} {i j:Nat} (hi:i<xs.length) (hj:j<xs.length) (k:Nat):G (swp xs i j) k=if k=j then G xs i else if k=i then G xs j else G xs k:=by
 unfold swp
 by_cases hk:k<xs.length
 ·rw [Wz (by simpa using hk),List.getElem_set,List.getElem_set]
  by_cases h1:k=j
  ·rw [if_pos h1.symm,if_pos h1]
  ·rw [if_neg (Ne.symm h1),if_neg h1]
   by_cases h2:k=i
   ·rw [if_pos h2.symm,if_pos h2]
   ·rw [if_neg (Ne.symm h2),if_neg h2,Wz hk]
 ·rw [if_neg (by omega),if_neg (by omega)]
  simp [G,List.getD_eq_getElem?_getD,hk]
theorem jw {xs:List Int} {i j:Nat} (hi:i<xs.length) (hj:j<xs.length):(swp xs i j).Perm xs:=by
 unfold swp
 rw [Wz hi,Wz hj]
 exact List.set_set_perm hi hj
inductive Sw (a b:Nat) (xs:List Int):List Int→Prop
 | refl:Sw a b xs xs
 | step {ys:List Int} (i j:Nat) (h:Sw a b xs ys) (hi:a≤i∧i<b) (hj:a≤j∧j<b):Sw a b xs (swp ys i j)
variable {a b c d:Nat} {xs ys zs:List Int}
theorem Sw.len (h:Sw a b xs ys):ys.length=xs.length:=by
 induction h with
 | refl=>rfl
 | step i j _ _ _ ih=>rw [Qbu,ih]
theorem Sw.trans (h:Sw a b xs ys) (h':Sw a b ys zs):Sw a b xs zs:=by
 induction h' with
 | refl=>exact h
 | step i j _ hi hj ih=>exact .step i j ih hi hj
theorem Sw.mono (h:Sw a b xs ys) (ha:c≤a) (hb:b≤d):Sw c d xs ys:=by
 induction h with
 | refl=>exact .refl
 | step i j _ hi hj ih=>exact .step i j ih (by omega) (by omega)
theorem Sw.perm (h:Sw a b xs ys) (hb:b≤xs.length):ys.Perm xs:=by
 induction h with
 | refl=>exact List.Perm.refl _
 | step i j g hi hj ih=>exact (jw (by rw [g.len];omega) (by rw [g.len];omega)).trans ih
theorem Sw.out (h:Sw a b xs ys) (hb:b≤xs.length) {k:Nat} (hk:k<a∨b≤k):G ys k=G xs k:=by
 induction h with
 | refl=>rfl
 | step i j g hi hj ih=>rw [Xw (by rw [g.len];omega) (by rw [g.len];omega),if_neg (by omega),if_neg (by omega),ih]
theorem Sw.all (h:Sw a b xs ys) (hb:b≤xs.length) {p:Int→Prop} (hp:∀k,a≤k→k<b→p (G xs k)):∀k,a≤k→k<b→p (G ys k):=by
 induction h with
 | refl=>exact hp
 | step i j g hi hj ih=>
  intro k h1 h2
  rw [Xw (by rw [g.len];omega) (by rw [g.len];omega)]
  split
  ·exact ih i hi.1 hi.2
  ·split
   ·exact ih j hj.1 hj.2
   ·exact ih k h1 h2
theorem Sw.all' (h:Sw a b xs ys) (hb:b≤xs.length) {p:Int→Prop} (hc:c≤a) (hd:b≤d) (hp:∀k,c≤k→k<d→p (G xs k)):∀k,c≤k→k<d→p (G ys k):=by
 intro k h1 h2
 by_cases hk:a≤k∧k<b
 ·exact h.all hb (fun q g1 g2=>hp q (by omega) (by omega)) k hk.1 hk.2
 ·rw [h.out hb (by omega)];exact hp k h1 h2
def Srt (ys:List Int) (a b:Nat):Prop:=∀p q,a≤p→p<q→q<b→G ys p≤G ys q
theorem Srt.short (h:b≤a+1):Srt ys a b:=fun p q h1 h2 h3=>by omega
theorem Srt.frame (h:Srt ys a b) (he:∀k,a≤k→k<b→G zs k=G ys k):Srt zs a b:=fun p q h1 h2 h3=>by
 rw [he p h1 (by omega),he q (by omega) h3];exact h p q h1 h2 h3
theorem Srt.join (h1:Srt ys a b) (h2:Srt ys b c) (h:∀p q,a≤p→p<b→b≤q→q<c→G ys p≤G ys q):Srt ys a c:=fun p q h3 h4 h5=>by
 by_cases hq:q<b
 ·exact h1 p q h3 h4 hq
 ·by_cases hp:p<b
  ·exact h p q h3 hp (by omega) h5
  ·exact h2 p q (by omega) h4 h5
theorem Srt.pairwise (h:Srt ys 0 ys.length):ys.Pairwise (·≤·):=by
 rw [List.pairwise_iff_getElem]
 intro i j hi hj hij
 have:=h i j (Nat.zero_le _) hij hj
 rwa [Wz hi,Wz hj] at this
def Ins (ys:List Int) (a i j:Nat):Prop:=∀p q,a≤p→p<q→q≤i→q≠j→G ys p≤G ys q
theorem Ins.start (h:Srt ys a b):Ins ys a b b:=fun p q h1 h2 h3 h4=>h p q h1 h2 (by omega)
theorem Ins.step {i j:Nat} (h:Ins ys a i j) (hi:i<ys.length) (ha:a<j) (hj:j≤i) (hlt:G ys j<G ys (j-1)):Ins (swp ys j (j-1)) a i (j-1):=by
 intro p q h1 h2 h3 h4
 rw [Xw (by omega) (by omega),Xw (by omega) (by omega)]
 rw [if_neg h4]
 by_cases hp:p=j-1
 ·rw [if_pos hp]
  by_cases hq:q=j
  ·rw [if_pos hq];omega
  ·rw [if_neg hq];have:=h (j-1) q (by omega) (by omega) h3 hq;omega
 ·rw [if_neg hp]
  by_cases hpj:p=j
  ·rw [if_pos hpj]
   rw [if_neg (by omega)]
   exact h (j-1) q (by omega) (by omega) h3 (by omega)
  ·rw [if_neg hpj]
   by_cases hq:q=j
   ·rw [if_pos hq];exact h p (j-1) h1 (by omega) (by omega) (by omega)
   ·rw [if_neg hq];exact h p q h1 h2 h3 hq
theorem Ins.done {i j:Nat} (h:Ins ys a i j) (hj:j=a∨(a<j∧G ys (j-1)≤G ys j)):Srt ys a (i+1):=by
 intro p q h1 h2 h3
 by_cases hq:q=j
 ·subst hq
  rcases hj with hj|⟨hj,hle⟩
  ·omega
  ·by_cases hp:p=q-1
   ·rw [hp];exact hle
   ·have:=h p (q-1) h1 (by omega) (by omega) (by omega);omega
 ·exact h p q h1 h2 (by omega) hq
def Hp (ys:List Int) (f lo n:Nat):Prop:=∀r c,lo≤r→(c=2*r+1∨c=2*r+2)→c<n→G ys (f+c)≤G ys (f+r)
def HpB (ys:List Int) (f lo n r:Nat):Prop:=
 (∀s c,lo≤s→s≠r→(c=2*s+1∨c=2*s+2)→c<n→G ys (f+c)≤G ys (f+s))∧
 (∀s c,lo≤s→(r=2*s+1∨r=2*s+2)→(c=2*r+1∨c=2*r+2)→c<n→G ys (f+c)≤G ys (f+s))
theorem HpB.start {f lo n:Nat} (h:Hp ys f (lo+1) n):HpB ys f lo n lo:=
 ⟨fun s c h1 h2 h3 h4=>h s c (by omega) h3 h4,fun s c h1 h2=>by omega⟩
theorem HpB.done {f lo n r:Nat} (h:HpB ys f lo n r) (hd:∀c,(c=2*r+1∨c=2*r+2)→c<n→G ys (f+c)≤G ys (f+r)):Hp ys f lo n:=fun s c h1 h2 h3=>by
 by_cases hs:s=r
 ·subst hs;exact hd c h2 h3
 ·exact h.1 s c h1 hs h2 h3
theorem HpB.step {f lo n r c:Nat} (h:HpB ys f lo n r) (hl:f+n≤ys.length) (hlo:lo≤r) (hc:c=2*r+1∨c=2*r+2) (hn:c<n) (hlt:G ys (f+r)<G ys (f+c))
 (hbig:∀q,(q=2*r+1∨q=2*r+2)→q<n→G ys (f+q)≤G ys (f+c)):HpB (swp ys (f+r) (f+c)) f lo n c:=by
 have gc:G (swp ys (f+r) (f+c)) (f+c)=G ys (f+r):=by rw [Xw (by omega) (by omega),if_pos rfl]
 have gr:G (swp ys (f+r) (f+c)) (f+r)=G ys (f+c):=by rw [Xw (by omega) (by omega),if_neg (by omega),if_pos rfl]
 have go:∀k,k≠c→k≠r→G (swp ys (f+r) (f+c)) (f+k)=G ys (f+k):=fun k h1 h2=>by rw [Xw (by omega) (by omega),if_neg (by omega),if_neg (by omega)]
 refine ⟨fun s q h1 h2 h3 h4=>?_,fun s q h1 h2 h3 h4=>?_⟩
 ·by_cases hq:q=c
  ·have hs:s=r:=by omega
   subst hq hs
   rw [gc,gr];omega
  ·by_cases hs:s=r
   ·subst hs
    rw [gr,go q hq (by omega)]
    exact hbig q h3 h4
   ·by_cases hqr:q=r
    ·subst hqr
     rw [gr,go s h2 hs]
     exact h.2 s c h1 h3 hc hn
    ·rw [go q hq hqr,go s h2 hs];exact h.1 s q h1 hs h3 h4
 ·have hs:s=r:=by omega
  subst hs
  rw [gr,go q (by omega) (by omega)]
  exact h.1 c q (by omega) (by omega) h3 h4
theorem Hp.top {f n:Nat} (h:Hp ys f 0 n):∀c,c<n→G ys (f+c)≤G ys f:=by
 intro c
 induction c using Nat.strongRecOn with
 | _ c ih=>
  intro hc
  by_cases h0:c=0
  ·subst h0;exact Int.le_refl _
  ·have h1:=h ((c-1)/2) c (by omega) (by omega) hc
   have h2:=ih ((c-1)/2) (by omega) (by omega)
   omega
theorem Hp.frame {f lo n:Nat} (h:Hp ys f lo n) (he:∀k,lo≤k→k<n→G zs (f+k)=G ys (f+k)):Hp zs f lo n:=fun r c h1 h2 h3=>by
 rw [he c (by omega) h3,he r h1 (by omega)];exact h r c h1 h2 h3
end Go.Proofs.YtaldglgobgjeaaaGreat.V
set_option linter.all false
namespace Go.Proofs.YtaldglgobgjeaaaGreat.V
open Go Go.VM Go.Proofs
set_option maxRecDepth 10000
variable {frz:Nat} {H:Heap} {v:Value} {xs:List Int} {e:TypeId}
theorem Qv (o:Ow Fl.int e H v xs) {i:Nat} (h1:i<xs.length):vindexAddr Tryz.prog H 26 v (.int .i64 i)=some (elp v i):=by
 have:=o.rd.isI.idx (P:=Tryz.prog) (ty:=26) (e:=3) (by simp) (i:=(i:Int)) (by omega) (by omega)
 simpa using this
theorem Qw (o:Ow Fl.int e H v xs) {i:Nat} (h1:i<xs.length):vload Tryz.prog H 3 (elp v i)=some (.int .i64 (G xs i)):=
 o.rd.isI.load (P:=Tryz.prog) (e:=3) (by simp) h1
theorem W7 (o:Ow Fl.int e H v xs) {i j:Nat} (hi:i<xs.length) (hj:j<xs.length) (hf:∀i∈ids v,frz≤i) :
 ∃H1 H2,vstore Tryz.prog frz H 3 (.int .i64 (G xs j)) (elp v i)=some H1∧(∀k:Nat,k<xs.length→vindexAddr Tryz.prog H1 26 v (.int .i64 k)=some (elp v k))∧
  vstore Tryz.prog frz H1 3 (.int .i64 (G xs i)) (elp v j)=some H2∧Ow Fl.int e H2 v (swp xs i j)∧Chg H H2 (ids v)∧H2.length=H.length:=by
 obtain ⟨H1,s1,o1,c1,l1⟩:=o.put1 (P:=Tryz.prog) (frz:=frz) rfl (et:=3) (ag:=false) (by simp) hi (x:=.int .i64 (G xs j)) (y:=G xs j) rfl rfl rfl hf
 obtain ⟨H2,s2,o2,c2,l2⟩:=o1.put1 (P:=Tryz.prog) (frz:=frz) rfl (et:=3) (ag:=false) (by simp) (j:=j) (by simpa using hj) (x:=.int .i64 (G xs i)) (y:=G xs i) rfl rfl rfl hf
 exact ⟨H1,H2,s1,fun k hk=>Qv o1 (by simpa using hk),s2,o2,c1.trans c2,by omega⟩
def Swd (H:Heap) (v:Value) (xs:List Int) (e:TypeId) (a b:Nat) (K:List Int→Prop) (H':Heap):Prop:=
 ∃ys,Sw a b xs ys∧K ys∧Ow Fl.int e H' v ys∧Chg H H' (ids v)∧H'.length=H.length
theorem X3 (a b:Int):vcall C frz 140 [.int .i64 a,.int .i64 b] H=some (.bool (decide (a<b)),H):=by
 have nan:=fun (F:Nat) (H:Heap) (a:Int)=>show vcall C F 177 [.int .i64 a] H=some (.bool false,H) by
  rw [Qb (fn:=Tryz.f177) Tryz.func177 rfl (by kernel_rfl) rfl]
  simp
 rw [Qb (fn:=Tryz.f140) Tryz.func140 rfl (by kernel_rfl) rfl]
 simp [nan]
theorem Aw (v:Value) (xs:List Int) (e:TypeId) (a b:Nat) (h:Ow Fl.int e H v xs) (hab:a≤b) (hb:b≤xs.length) (hl:xs.length≤1073741824) (hf:∀i∈ids v,frz≤i) :
 wp (vcall C frz 134 [v,.int .i64 a,.int .i64 b] H) (fun _ H'=>Swd H v xs e a b (fun ys=>Srt ys a b) H'):=by
 rw [Qb (fn:=Tryz.f134) Tryz.func134 rfl (by kernel_rfl) rfl]
 simp
 refine Qh (fun n t H'=>∃i:Nat,n=b-i∧t 0=v∧t 1=.int .i64 a∧t 2=.int .i64 b∧t 6=.int .i64 i∧a+1≤i∧i≤max (a+1) b∧Swd H v xs e a b (fun ys=>Srt ys a i) H') ?_ (n:=b-(a+1))
  ⟨a+1,by simp,by simp,by simp,by simp,by simp;exact w64 (by omega) (by omega),by omega,by omega,xs,.refl,Srt.short (by omega),h,Chg.refl _,rfl⟩
 rintro n t H' ⟨i,rfl,h0,h1,h2,h6,ha,hi,ys,sw,sr,o,c,l⟩ ih
 simp [h0,h1,h2,h6]
 refine Qc ?_ ?_<;>intro hib
 ·simp [h0,h1,h2,h6]
  refine Qh (fun n t H'=>∃j:Nat,n=j∧t 0=v∧t 1=.int .i64 a∧t 2=.int .i64 b∧t 6=.int .i64 i∧t 7=.int .i64 j∧a≤j∧j≤i∧Swd H v xs e a b (fun ys=>Ins ys a i j) H') ?_ (n:=i)
   ⟨i,rfl,by simp [h0],by simp [h1],by simp [h2],by simp [h6],by simp,by omega,by omega,ys,sw,Ins.start sr,o,c,l⟩
  rintro j t H' ⟨_,rfl,h0,h1,h2,h6,h7,haj,hji,ys,sw,ins,o,c,l⟩ ih2
  have len:=sw.len
  simp [h0,h1,h2,h6,h7]
  rw [Qe (h:=by kernel_rfl)]
  simp [h0,h1,h2,h6,h7]
  refine Qz ?_ ?_<;>intro hja
  ·have e1:IntKind.i64.wrap ((j:Int)-1)=((j-1:Nat):Int):=by rw [w64 (by omega) (by omega)];omega
   have p1:j<ys.length:=by omega
   have p2:j-1<ys.length:=by omega
   simp [h0,h1,h2,h6,h7,hja,e1,Qv o p1,Qv o p2,Qw o p1,Qw o p2,X3]
   have out:∀t':Env,t' 0=v→t' 1=.int .i64 a→t' 2=.int .i64 b→t' 6=.int .i64 (IntKind.i64.wrap ((i:Int)+1))→(j=a∨(a<j∧G ys (j-1)≤G ys j))→
    ∃i':Nat,b-(i+1)=b-i'∧t' 0=v∧t' 1=.int .i64 a∧t' 2=.int .i64 b∧t' 6=.int .i64 i'∧a+1≤i'∧i'≤max (a+1) b∧Swd H v xs e a b (fun ys=>Srt ys a i') H':=by
    intro t' g0 g1 g2 g6 hj
    exact ⟨i+1,rfl,g0,g1,g2,by rw [g6,w64 (by omega) (by omega)];simp,by omega,by omega,ys,sw,ins.done hj,o,c,l⟩
   refine Qc ?_ ?_<;>intro hlt
   ·simp [h0,h1,h2,h6,h7]
    rw [Qe (h:=by kernel_rfl)]
    obtain ⟨H1,H2,s1,ix,s2,o2,c2,l2⟩:=W7 o p1 p2 hf
    simp [h0,h1,h2,h6,h7,e1,Qv o p1,Qv o p2,Qw o p1,Qw o p2,s1,ix _ p1,ix _ p2,s2]
    refine ih2 (j-1) _ _ ⟨j-1,rfl,by simp [h0],by simp [h1],by simp [h2],by simp [h6],by simp [e1],by omega,by omega,_,sw.step j (j-1) (by omega) (by omega),?_,o2,c.trans c2,by omega⟩ (by omega)
    exact ins.step (by omega) hja hji hlt
   ·simp [h0,h1,h2,h6,h7]
    refine ih (b-(i+1)) _ _ (out _ ?_ ?_ ?_ ?_ (.inr ⟨hja,by omega⟩)) (by omega)<;>simp [h0,h1,h2]
  ·simp [h0,h1,h2,h6,h7,hja]
   refine ih (b-(i+1)) _ _ ⟨i+1,rfl,by simp [h0],by simp [h1],by simp [h2],?_,by omega,by omega,ys,sw,ins.done (.inl (by omega)),o,c,l⟩ (by omega)
   simp;exact w64 (by omega) (by omega)
 ·have:i=max (a+1) b:=by omega
  simp
  exact ⟨ys,sw,fun p q h1 h2 h3=>sr p q h1 h2 (by omega),o,c,l⟩
theorem O9 (v:Value) (xs:List Int) (e:TypeId) (lo n f:Nat) (h:Ow Fl.int e H v xs) (hp:Hp xs f (lo+1) n) (hlo:lo≤n) (hn:f+n≤xs.length) (hl:xs.length≤1073741824) (hf:∀i∈ids v,frz≤i) :
 wp (vcall C frz 172 [v,.int .i64 lo,.int .i64 n,.int .i64 f] H) (fun _ H'=>Swd H v xs e (f+lo) (f+n) (fun ys=>Hp ys f lo n) H'):=by
 rw [Qb (fn:=Tryz.f172) Tryz.func172 rfl (by kernel_rfl) rfl]
 simp
 refine Qh (fun m t H'=>∃r:Nat,m=n-r∧t 0=v∧t 2=.int .i64 n∧t 3=.int .i64 f∧t 8=.int .i64 r∧lo≤r∧r≤n∧Swd H v xs e (f+lo) (f+n) (fun ys=>HpB ys f lo n r) H') ?_ (n:=n-lo)
  ⟨lo,rfl,by simp,by simp,by simp,by simp,by omega,by omega,xs,.refl,HpB.start hp,h,Chg.refl _,rfl⟩
 rintro m t H' ⟨r,rfl,h0,h2,h3,h8,hlr,hrn,ys,sw,hb,o,c,l⟩ ih
 have len:=sw.len
 obtain ⟨c1,hc1⟩:∃c1,c1=2*r+1:=⟨_,rfl⟩
 obtain ⟨c2,hc2⟩:∃c2,c2=2*r+2:=⟨_,rfl⟩
 obtain ⟨d0,hd0⟩:∃d0,d0=f+r:=⟨_,rfl⟩
 obtain ⟨d1,hd1⟩:∃d1,d1=f+c1:=⟨_,rfl⟩
 obtain ⟨d2,hd2⟩:∃d2,d2=f+c2:=⟨_,rfl⟩
 have e1:IntKind.i64.wrap (IntKind.i64.wrap (2*(r:Int))+1)=(c1:Int):=by rw [w64 (x:=2*(r:Int)) (by omega) (by omega),w64 (by omega) (by omega)];omega
 simp [h0,h2,h3,h8,e1]
 refine Qc ?_ ?_<;>intro hc
 ·simp
  exact ⟨ys,sw,hb.done (fun q h1 h2=>by omega),o,c,l⟩
 ·have e2:IntKind.i64.wrap ((c1:Int)+1)=(c2:Int):=by rw [w64 (by omega) (by omega)];omega
  have e3:IntKind.i64.wrap ((f:Int)+(c1:Int))=(d1:Int):=by rw [w64 (by omega) (by omega)];omega
  have e4:IntKind.i64.wrap ((d1:Int)+1)=(d2:Int):=by rw [w64 (by omega) (by omega)];omega
  have e5:IntKind.i64.wrap ((f:Int)+(r:Int))=(d0:Int):=by rw [w64 (by omega) (by omega)];omega
  have p0:d0<ys.length:=by omega
  have p1:d1<ys.length:=by omega
  refine (fun (rest:∀(q:Nat) (t':Env),(q=2*r+1∨q=2*r+2)→q<n→(∀p,(p=2*r+1∨p=2*r+2)→p<n→G ys (f+p)≤G ys (f+q))→
   t' 0=v→t' 2=.int .i64 n→t' 3=.int .i64 f→t' 8=.int .i64 r→t' 9=.int .i64 q→wp (go ?F ?k .normal t' H') ?Q)=>?main) ?rest
  case main=>
   simp [h0,h2,h3,h8,hc,e2]
   rw [Qe (h:=by kernel_rfl)]
   simp [h0,h2,h3,h8,e2]
   refine Qz ?_ ?_<;>intro g1
   ·have p2:d2<ys.length:=by omega
    simp [h0,h2,h3,h8,e2,g1,e3,e4,Qv o p1,Qv o p2,Qw o p1,Qw o p2,X3]
    refine Qc ?_ ?_<;>intro g2<;>simp [e2]
    ·refine rest c2 _ (.inr hc2) g1 (fun p g3 g4=>?_) ?_ ?_ ?_ ?_ ?_<;>try simp [h0,h2,h3,h8]
     rw [← hd2]
     rcases g3 with g3|g3
     ·rw [g3,← hc1,← hd1];omega
     ·rw [g3,← hc2,← hd2];omega
    ·refine rest c1 _ (.inl hc1) (by omega) (fun p g3 g4=>?_) ?_ ?_ ?_ ?_ ?_<;>try simp [h0,h2,h3,h8]
     rw [← hd1]
     rcases g3 with g3|g3
     ·rw [g3,← hc1,← hd1];omega
     ·rw [g3,← hc2,← hd2];omega
   ·simp [h0,h2,h3,h8,e2,g1]
    refine rest c1 _ (.inl hc1) (by omega) (fun p g3 g4=>?_) ?_ ?_ ?_ ?_ ?_<;>try simp [h0,h2,h3,h8]
    have:p=c1:=by omega
    rw [this];omega
  case rest=>
   intro q t hq hqn hbig h0 h2 h3 h8 h9
   obtain ⟨dq,hdq⟩:∃dq,dq=f+q:=⟨_,rfl⟩
   have e6:IntKind.i64.wrap ((f:Int)+(q:Int))=(dq:Int):=by rw [w64 (by omega) (by omega)];omega
   have pq:dq<ys.length:=by omega
   rw [← hdq] at hbig
   rw [Qe (h:=by kernel_rfl)]
   simp [h0,h2,h3,h8,h9,e5,e6,Qv o p0,Qv o pq,Qw o p0,Qw o pq,X3]
   refine Qc ?_ ?_<;>intro g1
   ·simp [h0,h2,h3,h8,h9]
    rw [Qe (h:=by kernel_rfl)]
    obtain ⟨H1,H2,s1,ix,s2,o2,c3,l2⟩:=W7 o p0 pq hf
    simp [h0,h2,h3,h8,h9,e5,e6,Qv o p0,Qv o pq,Qw o p0,Qw o pq,s1,ix _ p0,ix _ pq,s2]
    refine ih (n-q) _ _ ⟨q,rfl,by simp [h0],by simp [h2],by simp [h3],by simp,by omega,by omega,_,sw.step d0 dq (by omega) (by omega),?_,o2,c.trans c3,by omega⟩ (by omega)
    subst hd0 hdq
    exact hb.step (by omega) hlr hq hqn g1 hbig
   ·simp
    subst hd0 hdq
    exact ⟨ys,sw,hb.done (fun p g3 g4=>by have:=hbig p g3 g4;omega),o,c,l⟩
theorem Cl (v:Value) (xs:List Int) (e:TypeId) (a b:Nat) (h:Ow Fl.int e H v xs) (hab:a<b) (hb:b≤xs.length) (hl:xs.length≤1073741824) (hf:∀i∈ids v,frz≤i) :
 wp (vcall C frz 135 [v,.int .i64 a,.int .i64 b] H) (fun _ H'=>Swd H v xs e a b (fun ys=>Srt ys a b) H'):=by
 rw [Qb (fn:=Tryz.f135) Tryz.func135 rfl (by kernel_rfl) rfl]
 obtain ⟨n,hn⟩:∃n,n=b-a:=⟨_,rfl⟩
 have e1:IntKind.i64.wrap ((b:Int)-a)=(n:Int):=by rw [w64 (by omega) (by omega)];omega
 have e2:IntKind.i64.wrap ((n:Int)-1)=((n-1:Nat):Int):=by rw [w64 (by omega) (by omega)];omega
 have e3:IntKind.i64.wrap (((n-1:Nat):Int)/2)=(((n-1)/2+1:Nat):Int)-1:=by rw [w64 (by omega) (by omega)];omega
 have e4:((n:Int)-1)=((n-1:Nat):Int):=by omega
 have hbn:a+n=b:=by omega
 simp [e1,e2,e3]
 refine Qh (fun m t H'=>∃k:Nat,m=k∧t 0=v∧t 6=.int .i64 a∧t 7=.int .i64 0∧t 8=.int .i64 n∧t 9=.int .i64 ((k:Int)-1)∧k≤n∧Swd H v xs e a b (fun ys=>Hp ys a k n) H') ?_ (n:=(n-1)/2+1)
  ⟨(n-1)/2+1,rfl,by simp,by simp,by simp,by simp,by simp,by omega,xs,.refl,fun r c h1 h2 h3=>by omega,h,Chg.refl _,rfl⟩
 rintro k t H' ⟨_,rfl,h0,h6,h7,h8,h9,hkn,ys,sw,hp,o,c,l⟩ ih
 have len:=sw.len
 simp [h0,h6,h7,h8,h9]
 refine Qc ?_ ?_<;>intro hk
 ·obtain ⟨k,rfl⟩:∃k',k=k'+1:=⟨k-1,by omega⟩
  have e5:((k+1:Nat):Int)-1=(k:Int):=by omega
  rw [e5] at h9
  simp [h0,h6,h7,h8,h9]
  refine Qd (O9 v ys e k n a o hp (by omega) (by omega) (by omega) hf) ?_
  rintro _ H1 ⟨zs,sw1,hp1,o1,c1,l1⟩
  simp [h0,h6,h7,h8,h9]
  refine ih k _ _ ⟨k,rfl,by simp [h0],by simp [h6],by simp [h7],by simp [h8],?_,by omega,zs,sw.trans (sw1.mono (by omega) (by omega)),hp1,o1,c.trans c1,by omega⟩ (by omega)
  simp;rw [w64 (by omega) (by omega)]
 ·obtain rfl:k=0:=by omega
  simp [h0,h6,h7,h8,h9,e2]
  refine Qh (fun m t H'=>∃k:Nat,m=k∧t 0=v∧t 6=.int .i64 a∧t 7=.int .i64 0∧t 10=.int .i64 ((k:Int)-1)∧k≤n∧
   Swd H v xs e a b (fun ys=>Hp ys a 0 k∧Srt ys (a+k) b∧∀p q,a≤p→p<a+k→a+k≤q→q<b→G ys p≤G ys q) H') ?_ (n:=n)
   ⟨n,rfl,by simp [h0],by simp [h6],by simp [h7],by simp [e4],by omega,ys,sw,⟨hp,Srt.short (by omega),fun p q h1 h2 h3 h4=>by omega⟩,o,c,l⟩
  clear ih h0 h6 h7 h8 h9 o c l hp sw len
  rintro k t H' ⟨_,rfl,h0,h6,h7,h10,hkn,ys,sw,⟨hp,hs,hle⟩,o,c,l⟩ ih
  have len:=sw.len
  simp [h0,h6,h7,h10]
  refine Qc ?_ ?_<;>intro hk
  ·obtain ⟨k,rfl⟩:∃k',k=k'+1:=⟨k-1,by omega⟩
   have e5:((k+1:Nat):Int)-1=(k:Int):=by omega
   rw [e5] at h10
   obtain ⟨d,hd⟩:∃d,d=a+k:=⟨_,rfl⟩
   have e6:IntKind.i64.wrap ((a:Int)+(k:Int))=(d:Int):=by rw [w64 (by omega) (by omega)];omega
   have p0:a<ys.length:=by omega
   have p1:d<ys.length:=by omega
   obtain ⟨H1,H2,s1,ix,s2,o2,c2,l2⟩:=W7 o p0 p1 hf
   simp [h0,h6,h7,h10]
   rw [Qe (h:=by kernel_rfl)]
   simp [h0,h6,h7,h10,e6,Qv o p0,Qv o p1,Qw o p0,Qw o p1,s1,ix _ p0,ix _ p1,s2]
   have gs:=fun q=>Xw (xs:=ys) p0 p1 q
   refine Qd (O9 v _ e 0 k a o2 (fun r q h1 h2 h3=>?_) (by omega) (by simp;omega) (by simp;omega) hf) ?_
   ·rw [gs,gs,if_neg (by omega),if_neg (by omega),if_neg (by omega),if_neg (by omega)]
    exact hp r q (by omega) h2 (by omega)
   ·rintro _ H3 ⟨zs,sw1,hp1,o3,c3,l3⟩
    simp only [Nat.add_zero] at sw1
    have hlz:a+k≤(swp ys a d).length:=by simp;omega
    have top:=hp.top
    have hz:∀q,q<a∨a+k≤q→G zs q=G (swp ys a d) q:=fun q hq=>sw1.out hlz hq
    have zd:G zs d=G ys a:=by rw [hz d (by omega),gs,if_pos rfl]
    have zo:∀q,d<q→q<b→G zs q=G ys q:=fun q h1 h2=>by rw [hz q (by omega),gs,if_neg (by omega),if_neg (by omega)]
    have zlo:∀p,a≤p→p<a+k→G zs p≤G ys a∧∀q,d<q→q<b→G zs p≤G ys q:=sw1.all (p:=fun x=>x≤G ys a∧∀q,d<q→q<b→x≤G ys q) hlz (fun p h1 h2=>by
     rw [gs,if_neg (by omega)]
     split
     ·have:=top k (by omega);rw [← hd] at this
      exact ⟨this,fun q g1 g2=>hle d q (by omega) (by omega) (by omega) g2⟩
     ·have:=top (p-a) (by omega);rw [show a+(p-a)=p by omega] at this
      exact ⟨this,fun q g1 g2=>hle p q (by omega) (by omega) (by omega) g2⟩)
    simp [h0,h6,h7,h10]
    refine ih k _ _ ⟨k,rfl,by simp [h0],by simp [h6],by simp [h7],?_,by omega,zs,(sw.step a d (by omega) (by omega)).trans (sw1.mono (by omega) (by omega)),⟨hp1,fun p q h1 h2 h3=>?_,fun p q h1 h2 h3 h4=>?_⟩,o3,c.trans (c2.trans c3),by omega⟩ (by omega)
    ·simp;rw [w64 (by omega) (by omega)]
    ·rw [zo q (by omega) h3]
     by_cases hpd:p=d
     ·rw [hpd,zd];exact hle a q (by omega) (by omega) (by omega) h3
     ·rw [zo p (by omega) (by omega)];exact hs p q (by omega) h2 h3
    ·by_cases hq:q=d
     ·rw [hq,zd];exact (zlo p h1 h2).1
     ·rw [zo q (by omega) h4];exact (zlo p h1 h2).2 q (by omega) h4
  ·obtain rfl:k=0:=by omega
   simp
   exact ⟨ys,sw,hs,o,c,l⟩
theorem E3 (v:Value) (xs:List Int) (e:TypeId) (a b:Nat) (h:Ow Fl.int e H v xs) (hab:a<b) (hb:b≤xs.length) (hl:xs.length≤1073741824) (hf:∀i∈ids v,frz≤i) :
 wp (vcall C frz 138 [v,.int .i64 a,.int .i64 b] H) (fun _ H'=>Swd H v xs e a b (fun ys=>True) H'):=by
 rw [Qb (fn:=Tryz.f138) Tryz.func138 rfl (by kernel_rfl) rfl]
 have e1:IntKind.i64.wrap ((b:Int)-1)=((b-1:Nat):Int):=by rw [w64 (by omega) (by omega)];omega
 simp [e1]
 refine Qh (fun m t H'=>∃i j:Nat,m=j-i∧t 0=v∧t 6=.int .i64 i∧t 7=.int .i64 j∧a≤i∧j<b∧i≤j+1∧Swd H v xs e a b (fun ys=>True) H') ?_ (n:=b-1-a)
  ⟨a,b-1,rfl,by simp,by simp,by simp,by omega,by omega,by omega,xs,.refl,trivial,h,Chg.refl _,rfl⟩
 rintro m t H' ⟨i,j,rfl,h0,h6,h7,hi,hj,hij,ys,sw,_,o,c,l⟩ ih
 have len:=sw.len
 simp [h0,h6,h7]
 refine Qc ?_ ?_<;>intro hk
 ·have p0:i<ys.length:=by omega
  have p1:j<ys.length:=by omega
  obtain ⟨H1,H2,s1,ix,s2,o2,c2,l2⟩:=W7 o p0 p1 hf
  simp [h0,h6,h7]
  rw [Qe (h:=by kernel_rfl)]
  simp [h0,h6,h7,Qv o p0,Qv o p1,Qw o p0,Qw o p1,s1,ix _ p0,ix _ p1,s2]
  refine ih (j-1-(i+1)) _ _ ⟨i+1,j-1,rfl,by simp [h0],?_,?_,by omega,by omega,by omega,_,sw.step i j (by omega) (by omega),trivial,o2,c.trans c2,by omega⟩ (by omega)
  ·simp;rw [w64 (by omega) (by omega)]
  ·simp;rw [w64 (by omega) (by omega)];omega
 ·simp
  exact ⟨ys,sw,trivial,o,c,l⟩
def BoxI (H:Heap) (r:Nat):Prop:=∃s,H[r]? = some ⟨[.int .i64 s],0,3⟩
theorem Me (v:Value) (xs:List Int) (e:TypeId) (a b r:Nat) (h:Ow Fl.int e H v xs) (ha:a<xs.length) (hb:b<xs.length) (hr:BoxI H r) (hf:frz≤r) :
 wp (vcall C frz 194 [v,.int .i64 a,.int .i64 b,.pointer (some ⟨r,0,some 0⟩)] H)
  (fun u H'=>(∃a' b':Nat,u=.tuple #[.int .i64 a',.int .i64 b']∧((a'=a∧b'=b)∨(a'=b∧b'=a)))∧Chg H H' [r]∧BoxI H' r):=by
 obtain ⟨s,hs⟩:=hr
 rw [Qb (fn:=Tryz.f194) Tryz.func194 rfl (by kernel_rfl) rfl]
 simp
 rw [Qe (h:=by kernel_rfl)]
 simp [Qv h ha,Qv h hb,Qw h ha,Qw h hb,X3]
 refine Qc ?_ ?_<;>intro g1
 ·simp [vnil,VM.look,hs,hf]
  exact ⟨⟨b,a,⟨rfl,rfl⟩,.inr ⟨rfl,rfl⟩⟩,Qg _ _,_,Qi hs⟩
 ·simp
  exact ⟨⟨a,b,⟨rfl,rfl⟩,.inl ⟨rfl,rfl⟩⟩,Chg.refl _,_,hs⟩
theorem Ek (v:Value) (xs:List Int) (e:TypeId) (a b c r:Nat) (h:Ow Fl.int e H v xs) (ha:a<xs.length) (hb:b<xs.length) (hc:c<xs.length) (hr:BoxI H r) (hf:frz≤r) (hn:r∉ids v) :
 wp (vcall C frz 176 [v,.int .i64 a,.int .i64 b,.int .i64 c,.pointer (some ⟨r,0,some 0⟩)] H)
  (fun u H'=>(∃m:Nat,u=.int .i64 m∧(m=a∨m=b∨m=c))∧Chg H H' [r]∧BoxI H' r):=by
 rw [Qb (fn:=Tryz.f176) Tryz.func176 rfl (by kernel_rfl) rfl]
 simp
 refine Qd (Me v xs e a b r h ha hb hr hf) ?_
 rintro _ H1 ⟨⟨a1,b1,rfl,h1⟩,c1,r1⟩
 have o1:=h.chg c1 (fun i hi hh=>by simp at hh;subst hh;exact hn hi)
 simp
 refine Qd (Me v xs e b1 c r o1 (by omega) hc r1 hf) ?_
 rintro _ H2 ⟨⟨b2,c2,rfl,h2⟩,c2',r2⟩
 have o2:=o1.chg c2' (fun i hi hh=>by simp at hh;subst hh;exact hn hi)
 simp
 refine Qd (Me v xs e a1 b2 r o2 (by omega) (by omega) r2 hf) ?_
 rintro _ H3 ⟨⟨a3,b3,rfl,h3⟩,c3,r3⟩
 simp
 exact ⟨⟨b3,rfl,by omega⟩,c1.trans (c2'.trans c3),r3⟩
theorem Uv (v:Value) (xs:List Int) (e:TypeId) (a r:Nat) (h:Ow Fl.int e H v xs) (h0:0<a) (ha:a+1<xs.length) (hl:xs.length≤1073741824) (hr:BoxI H r) (hf:frz≤r) (hn:r∉ids v) :
 wp (vcall C frz 175 [v,.int .i64 a,.pointer (some ⟨r,0,some 0⟩)] H)
  (fun u H'=>(∃m:Nat,u=.int .i64 m∧(m+1=a∨m=a∨m=a+1))∧Chg H H' [r]∧BoxI H' r):=by
 rw [Qb (fn:=Tryz.f175) Tryz.func175 rfl (by kernel_rfl) rfl]
 have e1:IntKind.i64.wrap ((a:Int)-1)=((a-1:Nat):Int):=by rw [w64 (by omega) (by omega)];omega
 have e2:IntKind.i64.wrap ((a:Int)+1)=((a+1:Nat):Int):=by rw [w64 (by omega) (by omega)];omega
 simp [e1]
 rw [e2]
 refine Qd (Ek v xs e (a-1) a (a+1) r h (by omega) (by omega) ha hr hf hn) ?_
 rintro _ H1 ⟨⟨m,rfl,hm⟩,c1,r1⟩
 simp
 exact ⟨⟨m,rfl,by omega⟩,c1,r1⟩
theorem Mj (v:Value) (xs:List Int) (e:TypeId) (a b:Nat) (h:Ow Fl.int e H v xs) (hab:a+8≤b) (hb:b≤xs.length) (hl:xs.length≤1073741824) (hf:frz≤H.length) :
 wp (vcall C frz 137 [v,.int .i64 a,.int .i64 b] H)
  (fun u H'=>(∃(m:Nat) (k:Int),u=.tuple #[.int .i64 m,.int .i64 k]∧a≤m∧m<b)∧Chg H H' []):=by
 rw [Qb (fn:=Tryz.f137) Tryz.func137 rfl (by kernel_rfl) rfl]
 obtain ⟨n,hn⟩:∃n,n=b-a:=⟨_,rfl⟩
 have e1:∀[Inhabited Unit],IntKind.i64.wrap ((b:Int)-a)=(n:Int):=by intro _;rw [w64 (by omega) (by omega)];omega
 obtain ⟨q,hq⟩:∃q,q=n/4:=⟨_,rfl⟩
 have e2:∀[Inhabited Unit],IntKind.i64.wrap ((n:Int)/4)=(q:Int):=by intro _;rw [w64 (by omega) (by omega)];omega
 obtain ⟨q2,hq2⟩:∃q2,q2=q*2:=⟨_,rfl⟩
 obtain ⟨q3,hq3⟩:∃q3,q3=q*3:=⟨_,rfl⟩
 obtain ⟨i0,hi0⟩:∃i0,i0=a+q:=⟨_,rfl⟩
 obtain ⟨i1,hi1⟩:∃i1,i1=a+q2:=⟨_,rfl⟩
 obtain ⟨i2,hi2⟩:∃i2,i2=a+q3:=⟨_,rfl⟩
 have e3:∀[Inhabited Unit],IntKind.i64.wrap (q:Int)=(q:Int):=by intro _;rw [w64 (by omega) (by omega)]
 have e4:∀[Inhabited Unit],IntKind.i64.wrap ((q:Int)*2)=(q2:Int):=by intro _;rw [w64 (by omega) (by omega)];omega
 have e5:∀[Inhabited Unit],IntKind.i64.wrap ((q:Int)*3)=(q3:Int):=by intro _;rw [w64 (by omega) (by omega)];omega
 have e6:∀[Inhabited Unit],IntKind.i64.wrap ((a:Int)+q)=(i0:Int):=by intro _;rw [w64 (by omega) (by omega)];omega
 have e7:∀[Inhabited Unit],IntKind.i64.wrap ((a:Int)+q2)=(i1:Int):=by intro _;rw [w64 (by omega) (by omega)];omega
 have e8:∀[Inhabited Unit],IntKind.i64.wrap ((a:Int)+q3)=(i2:Int):=by intro _;rw [w64 (by omega) (by omega)];omega
 have g8:(8:Int)≤n:=by omega
 have lt:=h.lt
 have nin:H.length∉ids v:=fun hh=>by have:=lt _ hh;omega
 simp [e1,e2,e3,e4,e5,e6,e7,e8,g8]
 have b0:BoxI (H++[⟨[.int .i64 0],0,3⟩]) H.length:=⟨0,by simp⟩
 have o0:Ow Fl.int e (H++[⟨[.int .i64 0],0,3⟩]) v xs:=h.app
 refine Z3 (F:=?F) (k:=?k) (d:=?d) (Q:=?Q) (fun r t=>∃(i0 i1 i2:Nat) (H1:Heap),r=vcall C frz 176 [v,.int .i64 i0,.int .i64 i1,.int .i64 i2,.pointer (some ⟨H.length,0,some 0⟩)] H1∧
  (a≤i0∧i0<b)∧(a≤i1∧i1<b)∧(a≤i2∧i2<b)∧t 9=.pointer (some ⟨H.length,0,some 0⟩)∧
  Chg (H++[⟨[.int .i64 0],0,3⟩]) H1 [H.length]∧BoxI H1 H.length) ?main ?rest
 case main=>
  intro rest
  refine Qc ?_ ?_<;>intro g1
  ·simp [e6,e7,e8]
   refine Qd (Uv v xs e i0 H.length o0 (by omega) (by omega) hl b0 hf nin) ?_
   rintro _ H1 ⟨⟨j0,rfl,hj0⟩,c1,r1⟩
   have o1:=o0.chg c1 (fun i hi hh=>by simp at hh;subst hh;exact nin hi)
   simp [e6,e7,e8]
   refine Qd (Uv v xs e i1 H.length o1 (by omega) (by omega) hl r1 hf nin) ?_
   rintro _ H2 ⟨⟨j1,rfl,hj1⟩,c2,r2⟩
   have o2:=o1.chg c2 (fun i hi hh=>by simp at hh;subst hh;exact nin hi)
   simp [e6,e7,e8]
   refine Qd (Uv v xs e i2 H.length o2 (by omega) (by omega) hl r2 hf nin) ?_
   rintro _ H3 ⟨⟨j2,rfl,hj2⟩,c3,r3⟩
   simp [e6,e7,e8]
   refine rest _ _ ?_
   exact ⟨j0,j1,j2,H3,rfl,by omega,by omega,by omega,by simp,c1.trans (c2.trans c3),r3⟩
  ·simp [e6,e7,e8]
   refine rest _ _ ?_
   exact ⟨i0,i1,i2,_,rfl,by omega,by omega,by omega,by simp,Chg.refl _,b0⟩
 case rest=>
  rintro _ t ⟨i0,i1,i2,H1,rfl,h0,h1,h2,t9,c1,r1⟩
  have o1:=o0.chg c1 (fun i hi hh=>by simp at hh;subst hh;exact nin hi)
  refine Qd (Ek v xs e i0 i1 i2 H.length o1 (by omega) (by omega) (by omega) r1 hf nin) ?_
  rintro _ H2 ⟨⟨m,rfl,hm⟩,c2,s,hs⟩
  have cc:Chg H H2 []:=(Chg.app (L:=[⟨[.int .i64 0],0,3⟩]) []).trans' (c1.trans c2) (fun i hi=>by simp at hi;subst hi;right;simp)
  simp [t9,VM.look,hs]
  refine Qc ?_ ?_<;>intro g2<;>simp
  ·exact ⟨⟨m,rfl,by omega⟩,cc⟩
  ·refine Qc ?_ ?_<;>intro g3<;>simp
   ·exact ⟨⟨m,rfl,by omega⟩,cc⟩
   ·exact ⟨⟨m,rfl,by omega⟩,cc⟩
def blen (y:Nat):Nat:=if y=0 then 0 else y.log2+1
def tabOk (T:ByteArray):Bool:=(List.range 256).all fun y=>match T[y]? with|some b=>b.toNat == blen y|none=>false
theorem V3 {y:Nat} (h:y<256):y<2 ^ blen y∧(2 ^ blen y≤2*y∨y=0)∧blen y≤8:=by
 have:∀y:Fin 256,y.val<2 ^ blen y.val∧(2 ^ blen y.val≤2*y.val∨y.val=0)∧blen y.val≤8:=by decide +kernel
 exact this ⟨y,h⟩
theorem Jg {x z s n:Nat} (hz:z=x/2 ^ s) (h1:z<2 ^ n) (h2:2 ^ n≤2*z∨z=0) (h0:0<z):x<2 ^ (n+s)∧(2 ^ (n+s)≤2*x∨x=0):=by
 have hp:0<2 ^ s:=Nat.pow_pos (by decide)
 rw [Nat.pow_add]
 subst hz
 refine ⟨(Nat.div_lt_iff_lt_mul hp).1 h1,.inl ?_⟩
 have h3:x/2 ^ s*2 ^ s≤x:=Nat.div_mul_le_self _ _
 have h4:2 ^ n*2 ^ s≤2*(x/2 ^ s)*2 ^ s:=Nat.mul_le_mul_right _ (by omega)
 rw [Nat.mul_assoc] at h4
 omega
theorem Um {T:ByteArray} {y:Nat} (hy:y<256) (h:tabOk T=true):vindex Tryz.prog 9 (.string T) (.int .u8 (IntKind.u8.wrap (y:Int)))=some (.int .u8 (blen y)):=by
 have e1:IntKind.u8.wrap (y:Int)=(y:Int):=by show (y:Int)%256=y;omega
 have:=List.all_eq_true.1 h y (by simpa using hy)
 have hn:(0:Int)≤y:=by omega
 rw [e1]
 simp only [vindex,und9,hn,if_true,Int.toNat_natCast]
 cases hT:T[y]? with
 | none=>rw [hT] at this;simp at this
 | some b=>rw [hT] at this;simp at this;simp [this]
theorem Jd (x j:Nat) (hj:j≤64):ishr .u64 (x:Int) (j:Int)=((x/2 ^ j:Nat):Int):=Gm .u64 x j hj
theorem Qb3 (x:Nat) (hx:x<2147483648) :
 wp (vcall C frz 144 [.int .u64 x] H) (fun r H'=>H'=H∧∃n:Nat,r=.int .i64 n∧x<2 ^ n∧(2 ^ n≤2*x∨x=0)∧n≤32):=by
 rw [Qb (fn:=Tryz.f144) Tryz.func144 rfl (by kernel_rfl) rfl]
 have g1:¬(4294967296:Int)≤x:=by omega
 have e8:IntKind.i64.wrap 8=8:=rfl
 have e16:IntKind.i64.wrap 16=16:=rfl
 have e24:IntKind.i64.wrap 24=24:=rfl
 simp [g1]
 refine Qc ?_ ?_<;>intro g2
 ·obtain ⟨y,hy⟩:∃y,y=x/65536:=⟨_,rfl⟩
  have s16:ishr .u64 (x:Int) 16=(y:Int):=by rw [hy];exact Jd x 16 (by decide)
  simp [s16]
  refine Qc ?_ ?_<;>intro g3
  ·obtain ⟨z,hz⟩:∃z,z=y/256:=⟨_,rfl⟩
   have s8:ishr .u64 (y:Int) 8=(z:Int):=by rw [hz];exact Jd y 8 (by decide)
   simp [s8]
   rw [Um (y:=z) (by omega) (by decide +kernel)]
   obtain ⟨q1,q2,q3⟩:=V3 (y:=z) (by omega)
   have w8:IntKind.i64.wrap (blen z:Int)=(blen z:Int):=w64 (by omega) (by omega)
   simp [w8,e8,e16,e24]
   refine ⟨blen z+24,?_,?_⟩
   ·rw [w64 (by omega) (by omega)];omega
   ·have:=Jg (x:=x) (z:=z) (s:=24) (by omega) q1 q2 (by omega);omega
  ·simp
   rw [Um (y:=y) (by omega) (by decide +kernel)]
   obtain ⟨q1,q2,q3⟩:=V3 (y:=y) (by omega)
   have w8:IntKind.i64.wrap (blen y:Int)=(blen y:Int):=w64 (by omega) (by omega)
   simp [w8,e8,e16,e24]
   refine ⟨blen y+16,?_,?_⟩
   ·rw [w64 (by omega) (by omega)];omega
   ·have:=Jg (x:=x) (z:=y) (s:=16) (by omega) q1 q2 (by omega);omega
 ·simp
  refine Qc ?_ ?_<;>intro g3
  ·obtain ⟨z,hz⟩:∃z,z=x/256:=⟨_,rfl⟩
   have s8:ishr .u64 (x:Int) 8=(z:Int):=by rw [hz];exact Jd x 8 (by decide)
   simp [s8]
   rw [Um (y:=z) (by omega) (by decide +kernel)]
   obtain ⟨q1,q2,q3⟩:=V3 (y:=z) (by omega)
   have w8:IntKind.i64.wrap (blen z:Int)=(blen z:Int):=w64 (by omega) (by omega)
   simp [w8,e8,e16,e24]
   refine ⟨blen z+8,?_,?_⟩
   ·rw [w64 (by omega) (by omega)];omega
   ·have:=Jg (x:=x) (z:=z) (s:=8) (by omega) q1 q2 (by omega);omega
  ·simp
   rw [Um (y:=x) (by omega) (by decide +kernel)]
   obtain ⟨q1,q2,q3⟩:=V3 (y:=x) (by omega)
   have w8:IntKind.i64.wrap (blen x:Int)=(blen x:Int):=w64 (by omega) (by omega)
   simp [w8,e8,e16,e24]
   exact ⟨blen x,rfl,q1,q2,by omega⟩
theorem ja (x:Nat) (hx:x<2147483648) :
 wp (vcall C frz 105 [.int .u64 x] H) (fun r H'=>H'=H∧∃n:Nat,r=.int .i64 n∧x<2 ^ n∧(2 ^ n≤2*x∨x=0)∧n≤32):=by
 rw [Qb (fn:=Tryz.f105) Tryz.func105 rfl (by kernel_rfl) rfl]
 simp
 refine Qd (Qb3 x hx) ?_
 rintro _ _ ⟨rfl,n,rfl,h⟩
 simp
 exact ⟨n,rfl,h⟩
theorem w64u {x:Int} (h0:0≤x) (h1:x<18446744073709551616):IntKind.u64.wrap x=x:=by show x%18446744073709551616=x;omega
theorem jx (x:Nat) (hx:x<2147483648) :
 wp (vcall C frz 173 [.int .i64 x] H) (fun r H'=>H'=H∧∃m:Nat,r=.int .u64 m∧x<m∧(m≤2*x∨x=0)∧m≤4294967296):=by
 rw [Qb (fn:=Tryz.f173) Tryz.func173 rfl (by kernel_rfl) rfl]
 have e1:IntKind.u64.wrap (x:Int)=(x:Int):=w64u (by omega) (by omega)
 simp [e1]
 refine Qd (ja x hx) ?_
 rintro _ _ ⟨rfl,n,rfl,h1,h2,h3⟩
 have hm:2 ^ n≤2 ^ 32:=Nat.pow_le_pow_right (by decide) h3
 have e2:ishl .u64 1 (n:Int)=((2 ^ n:Nat):Int):=by
  unfold ishl
  rw [Int.toNat_natCast,Nat.min_eq_left (show n≤IntKind.u64.bits by show n≤64;omega),Int.one_mul,w64u (Int.le_of_lt (Int.pow_pos (by decide))) (by
   have:((2:Int) ^ n)=((2 ^ n:Nat):Int):=by simp
   rw [this];omega)]
  simp
 have hn:(0:Int)≤n:=by omega
 simp [vneed,hn,e2]
 exact ⟨2 ^ n,by simp,h1,h2,by omega⟩
def BoxX (H:Heap) (r:Nat):Prop:=∃s,H[r]? = some ⟨[.int .u64 s],0,208⟩
theorem Ac (r:Nat) (hr:BoxX H r) (hf:frz≤r) :
 wp (vcall C frz 174 [.pointer (some ⟨r,0,some 0⟩)] H) (fun u H'=>(∃z,u=.int .u64 z)∧Chg H H' [r]∧BoxX H' r):=by
 obtain ⟨s,hs⟩:=hr
 rw [Qb (fn:=Tryz.f174) Tryz.func174 rfl (by kernel_rfl) rfl]
 simp
 rw [Qe (h:=by kernel_rfl)]
 simp [vnil,VM.look,hs,hf]
 have l:=Qs hs
 rw [Qe (h:=by kernel_rfl)]
 simp [vnil,VM.look,hs,hf,l]
 rw [Qe (h:=by kernel_rfl)]
 simp [vnil,VM.look,hs,hf,l]
 exact ⟨Qg _ _,_,by simp [l];rfl⟩
theorem Bp (a:Int) (b:Nat) (hb:b<18446744073709551616):0≤iand .u64 a b∧iand .u64 a b≤b:=by
 unfold iand
 have h1:(BitVec.ofInt IntKind.u64.bits a&&& BitVec.ofInt IntKind.u64.bits (b:Int)).toNat≤b:=by
  rw [BitVec.toNat_and]
  refine Nat.le_trans Nat.and_le_right ?_
  rw [BitVec.toNat_ofInt]
  have:IntKind.u64.bits=64:=rfl
  rw [this];omega
 rw [w64u (by omega) (by omega)]
 omega
theorem D7 (v:Value) (xs:List Int) (e:TypeId) (a b:Nat) (h:Ow Fl.int e H v xs) (hab:a≤b) (hb:b≤xs.length) (hl:xs.length≤1073741824) (hf:∀i∈ids v,frz≤i) (hF:frz≤H.length) :
 wp (vcall C frz 136 [v,.int .i64 a,.int .i64 b] H) (fun _ H'=>∃ys,Sw a b xs ys∧Ow Fl.int e H' v ys∧Chg H H' (ids v)):=by
 rw [Qb (fn:=Tryz.f136) Tryz.func136 rfl (by kernel_rfl) rfl]
 obtain ⟨n,hn⟩:∃n,n=b-a:=⟨_,rfl⟩
 have e1:∀[Inhabited Unit],IntKind.i64.wrap ((b:Int)-a)=(n:Int):=by intro _;rw [w64 (by omega) (by omega)];omega
 simp [e1]
 refine Qc ?_ ?_<;>intro g1
 ·have lt:=h.lt
  have nin:H.length∉ids v:=fun hh=>by have:=lt _ hh;omega
  have e2:∀[Inhabited Unit],IntKind.u64.wrap (n:Int)=(n:Int):=by intro _;exact w64u (by omega) (by omega)
  have e3:∀[Inhabited Unit],IntKind.i64.wrap (n:Int)=(n:Int):=by intro _;exact w64 (by omega) (by omega)
  simp [e1,e2,VM.look,hF]
  refine Qd (jx n (by omega)) ?_
  rintro _ _ ⟨rfl,m,rfl,m1,m2,m3⟩
  obtain ⟨q,hq⟩:∃q,q=n/4:=⟨_,rfl⟩
  obtain ⟨q2,hq2⟩:∃q2,q2=q*2:=⟨_,rfl⟩
  obtain ⟨s,hs⟩:∃s,s=a+q2:=⟨_,rfl⟩
  have e4:∀[Inhabited Unit],IntKind.i64.wrap ((n:Int)/4)=(q:Int):=by intro _;rw [w64 (by omega) (by omega)];omega
  have e5:∀[Inhabited Unit],IntKind.i64.wrap ((q:Int)*2)=(q2:Int):=by intro _;rw [w64 (by omega) (by omega)];omega
  have e6:∀[Inhabited Unit],IntKind.i64.wrap ((a:Int)+q2)=(s:Int):=by intro _;rw [w64 (by omega) (by omega)];omega
  have e7:∀[Inhabited Unit],IntKind.i64.wrap ((s:Int)-1)=((s-1:Nat):Int):=by intro _;rw [w64 (by omega) (by omega)];omega
  have e8:∀[Inhabited Unit],IntKind.i64.wrap ((s:Int)+1)=((s+1:Nat):Int):=by intro _;rw [w64 (by omega) (by omega)];omega
  have e9:∀[Inhabited Unit],IntKind.u64.wrap ((m:Int)-1)=((m-1:Nat):Int):=by intro _;rw [w64u (by omega) (by omega)];omega
  simp [e1,e2,e3,e4,e5,e6,e7]
  refine Qh (fun c t H'=>∃i:Nat,c=s+2-i∧s≤i+1∧i≤s+2∧t 0=v∧t 1=.int .i64 a∧t 6=.int .i64 n∧t 7=.pointer (some ⟨H.length,0,some 0⟩)∧t 8=.int .u64 m∧t 9=.int .i64 i∧
   BoxX H' H.length∧Chg (H++[⟨[.int .u64 n],0,208⟩]) H' (H.length::ids v)∧∃ys,Sw a b xs ys∧Ow Fl.int e H' v ys) ?_ (n:=s+2-(s-1))
   ⟨s-1,rfl,by omega,by omega,by simp,by simp,by simp,by simp,by simp,by simp,⟨n,by simp⟩,Chg.refl _,xs,.refl,h.app⟩
  rintro c t H1 ⟨i,rfl,hi1,hi2,t0,t1,t6,t7,t8,t9,bx,ch,ys,sw,o⟩ ih
  have len:=sw.len
  simp [t0,t1,t6,t7,t8,t9,e4,e5,e6,e8]
  refine Qc ?_ ?_<;>intro g2
  ·have p0:i<ys.length:=by omega
   simp [t0,t1,t6,t7,t8,t9]
   refine Qd (Ac H.length bx hF) ?_
   rintro _ H2 ⟨⟨z,rfl⟩,c2,bx2⟩
   have o2:=o.chg c2 (fun i hi hh=>by simp at hh;subst hh;exact nin hi)
   obtain ⟨k,hk⟩:∃k:Nat,iand .u64 z ((m-1:Nat):Int)=k:=⟨_,(Int.toNat_of_nonneg (Bp z (m-1) (by omega)).1).symm⟩
   have hk2:=(Bp z (m-1) (by omega)).2
   rw [hk] at hk2
   have e10:∀[Inhabited Unit],IntKind.i64.wrap (k:Int)=(k:Int):=by intro _;exact w64 (by omega) (by omega)
   have hk':∀[Inhabited Unit],iand .u64 z ((m-1:Nat):Int)=k:=by intro _;exact hk
   clear hk
   simp [t0,t1,t6,t7,t8,t9,e9,hk',e10]
   refine Xc (F:=?F) (k:=?k) (Q:=?Q) (fun t H'=>∃d:Nat,d<n∧H'=H2∧t 0=v∧t 1=.int .i64 a∧t 6=.int .i64 n∧t 7=.pointer (some ⟨H.length,0,some 0⟩)∧t 8=.int .u64 m∧t 9=.int .i64 i∧t 10=.int .i64 d) ?main ?rest
   case main=>
    intro rest
    refine Qc ?_ ?_<;>intro g3
    ·have e11:∀[Inhabited Unit],IntKind.i64.wrap ((k:Int)-n)=((k-n:Nat):Int):=by intro _;rw [w64 (by omega) (by omega)];omega
     simp [t0,t1,t6,t7,t8,t9,e9,hk',e10,e11]
     refine rest _ _ ?_
     exact ⟨k-n,by omega,rfl,by simp [t0],by simp [t1],by simp [t6],by simp [t7],by simp [t8],by simp [t9],by simp⟩
    ·simp
     refine rest _ _ ?_
     exact ⟨k,by omega,rfl,by simp [t0],by simp [t1],by simp [t6],by simp [t7],by simp [t8],by simp [t9],by simp⟩
   case rest=>
    rintro t _ ⟨d,hd,rfl,t0,t1,t6,t7,t8,t9,t10⟩
    obtain ⟨j,hj⟩:∃j,j=a+d:=⟨_,rfl⟩
    have e12:∀[Inhabited Unit],IntKind.i64.wrap ((a:Int)+d)=(j:Int):=by intro _;rw [w64 (by omega) (by omega)];omega
    have p1:j<ys.length:=by omega
    obtain ⟨H3,H4,s1,ix,s2,o4,c4,l4⟩:=W7 o2 p0 p1 hf
    rw [Qe (h:=by kernel_rfl)]
    simp [t0,t1,t6,t7,t8,t9,t10,e12,Qv o2 p0,Qv o2 p1,Qw o2 p0,Qw o2 p1,s1,ix _ p0,ix _ p1,s2]
    obtain ⟨sx,hsx⟩:=bx2
    have bx4:BoxX H4 H.length:=⟨sx,Qa hsx c4 nin⟩
    refine ih (s+2-(i+1)) _ _ ⟨i+1,rfl,by omega,by omega,by simp [t0],by simp [t1],by simp [t6],by simp [t7],by simp [t8],?_,bx4,?_,_,sw.step i j (by omega) (by omega),o4⟩ (by omega)
    ·simp;rw [w64 (by omega) (by omega)]
    ·exact ch.trans ((c2.mono (by simp)).trans (c4.mono (fun q hq=>by simp [hq])))
  ·simp
   exact ⟨ys,sw,o,(Chg.app (ids v)).trans' ch (fun q hq=>by
    rcases List.mem_cons.1 hq with hq|hq
    ·right;simp [hq]
    ·exact .inl hq)⟩
 ·simp
  exact ⟨xs,.refl,h,Chg.refl _⟩
def Pt (ys:List Int) (a b:Nat) (x:Int) (P:Int→Prop) (i j:Nat):Prop:=G ys a=x∧(∀k,a<k→k<i→P (G ys k))∧∀k,j<k→k<b→¬P (G ys k)
section
variable {ys:List Int} {a b i j:Nat} {x:Int} {P:Int→Prop}
theorem Pt.incr (h:Pt ys a b x P i j) (ha:a<i) (hp:P (G ys i)):Pt ys a b x P (i+1) j:=⟨h.1,fun k h1 h2=>by
 by_cases hk:k=i
 ·rw [hk];exact hp
 ·exact h.2.1 k h1 (by omega),h.2.2⟩
theorem Pt.decr (h:Pt ys a b x P i j) (hj:0<j) (hp:¬P (G ys j)):Pt ys a b x P i (j-1):=⟨h.1,h.2.1,fun k h1 h2=>by
 by_cases hk:k=j
 ·rw [hk];exact hp
 ·exact h.2.2 k (by omega) h2⟩
theorem Pt.swap (h:Pt ys a b x P i j) (ha:a<i) (hij:i<j) (hj:j<b) (hb:b≤ys.length) (hi:¬P (G ys i)) (hp:P (G ys j)):Pt (swp ys i j) a b x P (i+1) (j-1):=by
 have g:=fun k=>Xw (xs:=ys) (i:=i) (j:=j) (by omega) (by omega) k
 refine ⟨?_,fun k h1 h2=>?_,fun k h1 h2=>?_⟩
 ·rw [g,if_neg (by omega),if_neg (by omega)];exact h.1
 ·rw [g,if_neg (by omega)]
  split
  ·exact hp
  ·exact h.2.1 k h1 (by omega)
 ·rw [g]
  split
  ·exact hi
  ·rw [if_neg (by omega)];exact h.2.2 k (by omega) h2
theorem Pt.fin (h:Pt ys a b x P i j) (hij:i=j+1) (ha:a<i) (hj:j<b) (hb:b≤ys.length):G (swp ys j a) j=x∧(∀k,a≤k→k<j→P (G (swp ys j a) k))∧∀k,j<k→k<b→¬P (G (swp ys j a) k):=by
 have g:=fun k=>Xw (xs:=ys) (i:=j) (j:=a) (by omega) (by omega) k
 refine ⟨?_,fun k h1 h2=>?_,fun k h1 h2=>?_⟩
 ·rw [g]
  split
  ·rename_i e;rw [e];exact h.1
  ·rw [if_pos rfl];exact h.1
 ·rw [g]
  split
  ·exact h.2.1 j (by omega) (by omega)
  ·rw [if_neg (by omega)];exact h.2.1 k (by omega) (by omega)
 ·rw [g,if_neg (by omega),if_neg (by omega)];exact h.2.2 k h1 h2
end
theorem jj (v:Value) (xs:List Int) (e:TypeId) (a b p:Nat) (h:Ow Fl.int e H v xs) (hp:a≤p∧p<b) (hb:b≤xs.length) (hl:xs.length≤1073741824) (hf:∀i∈ids v,frz≤i) :
 wp (vcall C frz 141 [v,.int .i64 a,.int .i64 b,.int .i64 p] H) (fun r H'=>∃m:Nat,r=.int .i64 m∧a<m∧m≤b∧
  Swd H v xs e a b (fun ys=>(∀k,a≤k→k<m→¬G xs p<G ys k)∧∀k,m≤k→k<b→G xs p<G ys k) H'):=by
 rw [Qb (fn:=Tryz.f141) Tryz.func141 rfl (by kernel_rfl) rfl]
 obtain ⟨x,hx⟩:∃x,x=G xs p:=⟨_,rfl⟩
 obtain ⟨i0,hi0⟩:∃i0,i0=a+1:=⟨_,rfl⟩
 obtain ⟨j0,hj0⟩:∃j0,j0=b-1:=⟨_,rfl⟩
 have e2:∀[Inhabited Unit],IntKind.i64.wrap ((a:Int)+1)=(i0:Int):=by intro _;rw [w64 (by omega) (by omega)];omega
 have e3:∀[Inhabited Unit],IntKind.i64.wrap ((b:Int)-1)=(j0:Int):=by intro _;rw [w64 (by omega) (by omega)];omega
 have p0:a<xs.length:=by omega
 have p1:p<xs.length:=by omega
 simp
 rw [Qe (h:=by kernel_rfl)]
 obtain ⟨H1,H2,s1,ix,s2,o2,c2,l2⟩:=W7 h p0 p1 hf
 simp [Qv h p0,Qv h p1,Qw h p0,Qw h p1,s1,ix _ p0,ix _ p1,s2,e2,e3]
 have pt0:Pt (swp xs a p) a b x (fun y=>¬x<y) i0 j0:=by
  refine ⟨?_,fun k h1 h2=>by omega,fun k h1 h2=>by omega⟩
  rw [Xw p0 p1,hx]
  split
  ·rename_i e;rw [e]
  ·rw [if_pos rfl]
 have sw0:Sw a b xs (swp xs a p):=Sw.refl.step a p (by omega) (by omega)
 refine Qh (fun c t H'=>∃i j:Nat,c=j+1-i∧t 0=v∧t 1=.int .i64 a∧t 9=.int .i64 i∧t 10=.int .i64 j∧a<i∧i≤j+1∧j<b∧Swd H v xs e a b (fun ys=>Pt ys a b x (fun y=>¬x<y) i j) H') ?_ (n:=j0+1-i0)
  ⟨i0,j0,rfl,by simp,by simp,by simp,by simp,by omega,by omega,by omega,_,sw0,pt0,o2,c2,l2⟩
 rw [← hx]
 clear pt0 sw0 o2 s1 s2 ix c2 l2 p0 p1
 rintro c t H' ⟨i,j,rfl,h0,h1,hi,hj,hai,hij,hjb,ys,sw,pt,o,c,l⟩ ih
 have len:=sw.len
 have p0:a<ys.length:=by omega
 simp [h0,h1,hi,hj]
 obtain ⟨il,hil⟩:∃il,il=i:=⟨_,rfl⟩
 have hai':il≤i∧a<i:=⟨by omega,hai⟩
 refine Xc (F:=?F1) (k:=?k1) (Q:=?Q1) (fun t H1=>∃i:Nat,t 0=v∧t 1=.int .i64 a∧t 9=.int .i64 i∧t 10=.int .i64 j∧(il≤i∧a<i)∧i≤j+1∧(i=j+1∨(i≤j∧¬(fun y=>¬x<y) (G ys i)))∧H'=H1∧Pt ys a b x (fun y=>¬x<y) i j) ?main1 ?rest1
 case main1=>
  intro rest
  refine Qh (fun c t H1=>∃i:Nat,c=j+1-i∧t 0=v∧t 1=.int .i64 a∧t 9=.int .i64 i∧t 10=.int .i64 j∧(il≤i∧a<i)∧i≤j+1∧H'=H1∧Pt ys a b x (fun y=>¬x<y) i j) ?_ (n:=j+1-i)
   ⟨i,rfl,by simp [h0],by simp [h1],by simp [hi],by simp [hj],hai',hij,rfl,pt⟩
  rintro c t _ ⟨i,rfl,h0,h1,hi,hj,hai',hij,rfl,pt⟩ ih2
  have hai:=hai'.2
  simp [h0,h1,hi,hj]
  rw [Qe (h:=by kernel_rfl)]
  simp [h0,h1,hi,hj]
  refine Qz ?_ ?_<;>intro g1
  ·have p1:i<ys.length:=by omega
   simp [h0,h1,hi,hj,g1,Qv o p0,Qv o p1,Qw o p0,Qw o p1,X3]
   refine Qc ?_ ?_<;>intro g2
   ·simp [h0,h1,hi,hj]
    refine rest _ _ ?_
    exact ⟨i,by simp [h0],by simp [h1],by simp [hi],by simp [hj],hai',by omega,.inr ⟨by omega,by have:=pt.1;show ¬(¬x<G ys i);omega⟩,rfl,pt⟩
   ·simp [h0,h1,hi,hj]
    refine ih2 (j+1-(i+1)) _ _ ⟨i+1,rfl,by simp [h0],by simp [h1],?_,by simp [hj],by omega,by omega,rfl,pt.incr hai (by have:=pt.1;show ¬x<G ys i;omega)⟩ (by omega)
    simp;rw [w64 (by omega) (by omega)]
  ·simp [h0,h1,hi,hj,g1]
   refine rest _ _ ?_
   exact ⟨i,by simp [h0],by simp [h1],by simp [hi],by simp [hj],hai',hij,.inl (by omega),rfl,pt⟩
 case rest1=>
  rintro t _ ⟨i,h0,h1,hi,hj,hai',hij,hex,rfl,pt⟩
  have hai:=hai'.2
  refine Qh (fun c t H1=>∃j':Nat,c=j'+1-i∧t 0=v∧t 1=.int .i64 a∧t 9=.int .i64 i∧t 10=.int .i64 j'∧j'≤j∧i≤j'+1∧H'=H1∧Pt ys a b x (fun y=>¬x<y) i j') ?_ (n:=j+1-i)
   ⟨j,rfl,by simp [h0],by simp [h1],by simp [hi],by simp [hj],Nat.le_refl _,hij,rfl,pt⟩
  have hex':i<j+1→¬(fun y=>¬x<y) (G ys i):=fun hh=>by rcases hex with hex|hex;omega;exact hex.2
  have hjb0:=hjb
  rintro c t _ ⟨j',rfl,h0,h1,hi,hj,hjj',hij,rfl,pt⟩ ih2
  have hjb:j'<b:=by omega
  simp [h0,h1,hi,hj]
  rw [Qe (h:=by kernel_rfl)]
  simp [h0,h1,hi,hj]
  refine Qz ?_ ?_<;>intro g1
  ·have p1:j'<ys.length:=by omega
   simp [h0,h1,hi,hj,g1,Qv o p0,Qv o p1,Qw o p0,Qw o p1,X3]
   refine Qc ?_ ?_<;>intro g2
   ·simp [h0,h1,hi,hj]
    refine ih2 (j'-1+1-i) _ _ ⟨j'-1,rfl,by simp [h0],by simp [h1],by simp [hi],?_,by omega,by omega,rfl,pt.decr (by omega) (by have:=pt.1;show ¬(¬x<G ys j');omega)⟩ (by omega)
    simp;rw [w64 (by omega) (by omega)];omega
   ·simp [h0,h1,hi,hj]
    have hnj:¬j'<i:=by omega
    simp [hnj]
    have p2:i<ys.length:=by omega
    have hlo:(fun y=>¬x<y) (G ys j'):=by have:=pt.1;show ¬x<G ys j';omega
    rw [Qe (h:=by kernel_rfl)]
    obtain ⟨H3,H4,s3,ix3,s4,o4,c4,l4⟩:=W7 o p2 p1 hf
    simp [h0,h1,hi,hj,Qv o p2,Qv o p1,Qw o p2,Qw o p1,s3,ix3 _ p2,ix3 _ p1,s4]
    have hlt:i<j':=by
     rcases Nat.lt_or_ge i j' with q|q
     ·exact q
     ·have q2:i=j':=by omega
      exact absurd (q2▸hlo) (hex' (by omega))
    refine ih (j'-1+1-(i+1)) _ _ ⟨i+1,j'-1,rfl,by simp [h0],by simp [h1],?_,?_,by omega,by omega,by omega,_,sw.step i j' (by omega) (by omega),pt.swap hai hlt hjb (by omega) (hex' (by omega)) hlo,o4,c.trans c4,by omega⟩ (by omega)
    ·simp;rw [w64 (by omega) (by omega)]
    ·simp;rw [w64 (by omega) (by omega)];omega
  ·have hij':i=j'+1:=by omega
   have hji:j'<i:=by omega
   simp [h0,h1,hi,hj,g1,hji]
   refine ⟨i,rfl,by omega,by omega,ys,sw,⟨fun k k1 k2=>?_,fun k k1 k2=>?_⟩,o,c,l⟩
   ·by_cases hk:k=a
    ·have:=pt.1;rw [hk];omega
    ·have q:¬x<G ys k:=pt.2.1 k (by omega) k2
     omega
   ·have q:¬¬x<G ys k:=pt.2.2 k (by omega) k2
    omega
theorem Qdh (v:Value) (xs:List Int) (e:TypeId) (a b p:Nat) (h:Ow Fl.int e H v xs) (hp:a≤p∧p<b) (hb:b≤xs.length) (hl:xs.length≤1073741824) (hf:∀i∈ids v,frz≤i) :
 wp (vcall C frz 142 [v,.int .i64 a,.int .i64 b,.int .i64 p] H) (fun r H'=>∃(m:Nat) (d:Bool),r=.tuple #[.int .i64 m,.bool d]∧a≤m∧m<b∧
  Swd H v xs e a b (fun ys=>(∀k,a≤k→k<m→G ys k<G ys m)∧∀k,m<k→k<b→G ys m≤G ys k) H'):=by
 rw [Qb (fn:=Tryz.f142) Tryz.func142 rfl (by kernel_rfl) rfl]
 obtain ⟨x,hx⟩:∃x,x=G xs p:=⟨_,rfl⟩
 obtain ⟨i0,hi0⟩:∃i0,i0=a+1:=⟨_,rfl⟩
 obtain ⟨j0,hj0⟩:∃j0,j0=b-1:=⟨_,rfl⟩
 have e2:∀[Inhabited Unit],IntKind.i64.wrap ((a:Int)+1)=(i0:Int):=by intro _;rw [w64 (by omega) (by omega)];omega
 have e3:∀[Inhabited Unit],IntKind.i64.wrap ((b:Int)-1)=(j0:Int):=by intro _;rw [w64 (by omega) (by omega)];omega
 have p0:a<xs.length:=by omega
 have p1:p<xs.length:=by omega
 simp
 rw [Qe (h:=by kernel_rfl)]
 obtain ⟨H1,H2,s1,ix,s2,o2,c2,l2⟩:=W7 h p0 p1 hf
 simp [Qv h p0,Qv h p1,Qw h p0,Qw h p1,s1,ix _ p0,ix _ p1,s2,e2,e3]
 have pt0:Pt (swp xs a p) a b x (fun y=>y<x) i0 j0:=by
  refine ⟨?_,fun k h1 h2=>by omega,fun k h1 h2=>by omega⟩
  rw [Xw p0 p1,hx]
  split
  ·rename_i e;rw [e]
  ·rw [if_pos rfl]
 have sw0:Sw a b xs (swp xs a p):=Sw.refl.step a p (by omega) (by omega)
 obtain ⟨ys,sw,o,c,l,pt⟩:∃ys,Sw a b xs ys∧Ow Fl.int e H2 v ys∧Chg H H2 (ids v)∧H2.length=H.length∧Pt ys a b x (fun y=>y<x) i0 j0:=⟨_,sw0,o2,c2,l2,pt0⟩
 obtain ⟨i,hii⟩:∃i,i0=i:=⟨_,rfl⟩
 obtain ⟨j,hjj⟩:∃j,j0=j:=⟨_,rfl⟩
 rw [hii] at pt ⊢
 rw [hjj] at pt ⊢
 have hai:a<i:=by omega
 have hij:i≤j+1:=by omega
 have hjb:j<b:=by omega
 clear pt0 sw0 o2 s1 s2 ix c2 l2 p0 p1
 have len:=sw.len
 have p0:a<ys.length:=by omega
 refine Xc (F:=?F) (k:=?k) (Q:=?Q) (fun t H1=>H2=H1∧t 0=v∧t 1=.int .i64 a∧t 10=.int .i64 i∧t 11=.int .i64 j) ?main ?rest
 case main=>intro rest;refine rest _ _ ?_;exact ⟨rfl,by simp,by simp,by simp,by simp⟩
 case rest=>
  rintro t H' ⟨rfl,h0,h1,hi,hj⟩
  obtain ⟨H',hH⟩:∃H',H'=H2:=⟨_,rfl⟩
  subst hH
  obtain ⟨il,hil⟩:∃il,il=i:=⟨_,rfl⟩
  have hai':il≤i∧a<i:=⟨by omega,hai⟩
  refine Xc (F:=?F3) (k:=?k3) (Q:=?Q3) (fun t H1=>∃i:Nat,t 0=v∧t 1=.int .i64 a∧t 10=.int .i64 i∧t 11=.int .i64 j∧(il≤i∧a<i)∧i≤j+1∧(i=j+1∨(i≤j∧¬(fun y=>y<x) (G ys i)))∧H'=H1∧Pt ys a b x (fun y=>y<x) i j) ?main3 ?rest3
  case main3=>
   intro rest
   refine Qh (fun c t H1=>∃i:Nat,c=j+1-i∧t 0=v∧t 1=.int .i64 a∧t 10=.int .i64 i∧t 11=.int .i64 j∧(il≤i∧a<i)∧i≤j+1∧H'=H1∧Pt ys a b x (fun y=>y<x) i j) ?_ (n:=j+1-i)
    ⟨i,rfl,by simp [h0],by simp [h1],by simp [hi],by simp [hj],hai',hij,rfl,pt⟩
   rintro c t _ ⟨i,rfl,h0,h1,hi,hj,hai',hij,rfl,pt⟩ ih2
   have hai:=hai'.2
   simp [h0,h1,hi,hj]
   rw [Qe (h:=by kernel_rfl)]
   simp [h0,h1,hi,hj]
   refine Qz ?_ ?_<;>intro g1
   ·have p1:i<ys.length:=by omega
    simp [h0,h1,hi,hj,g1,Qv o p0,Qv o p1,Qw o p0,Qw o p1,X3]
    refine Qc ?_ ?_<;>intro g2
    ·simp [h0,h1,hi,hj]
     refine ih2 (j+1-(i+1)) _ _ ⟨i+1,rfl,by simp [h0],by simp [h1],?_,by simp [hj],by omega,by omega,rfl,pt.incr hai (by have:=pt.1;show G ys i<x;omega)⟩ (by omega)
     simp;rw [w64 (by omega) (by omega)]
    ·simp [h0,h1,hi,hj]
     refine rest _ _ ?_
     exact ⟨i,by simp [h0],by simp [h1],by simp [hi],by simp [hj],hai',by omega,.inr ⟨by omega,by have:=pt.1;show ¬(G ys i<x);omega⟩,rfl,pt⟩
   ·simp [h0,h1,hi,hj,g1]
    refine rest _ _ ?_
    exact ⟨i,by simp [h0],by simp [h1],by simp [hi],by simp [hj],hai',hij,.inl (by omega),rfl,pt⟩
  case rest3=>
   rintro t _ ⟨i,h0,h1,hi,hj,hai',hij,hex,rfl,pt⟩
   have hai:=hai'.2
   refine Qh (fun c t H1=>∃j':Nat,c=j'+1-i∧t 0=v∧t 1=.int .i64 a∧t 10=.int .i64 i∧t 11=.int .i64 j'∧j'≤j∧i≤j'+1∧H'=H1∧Pt ys a b x (fun y=>y<x) i j') ?_ (n:=j+1-i)
    ⟨j,rfl,by simp [h0],by simp [h1],by simp [hi],by simp [hj],Nat.le_refl _,hij,rfl,pt⟩
   have hex':i<j+1→¬(fun y=>y<x) (G ys i):=fun hh=>by rcases hex with hex|hex;omega;exact hex.2
   have hjb0:=hjb
   rintro c t _ ⟨j',rfl,h0,h1,hi,hj,hjj',hij,rfl,pt⟩ ih2
   have hjb:j'<b:=by omega
   simp [h0,h1,hi,hj]
   rw [Qe (h:=by kernel_rfl)]
   simp [h0,h1,hi,hj]
   refine Qz ?_ ?_<;>intro g1
   ·have p1:j'<ys.length:=by omega
    simp [h0,h1,hi,hj,g1,Qv o p0,Qv o p1,Qw o p0,Qw o p1,X3]
    refine Qc ?_ ?_<;>intro g2
    ·simp [h0,h1,hi,hj]
     have hnj:¬j'<i:=by omega
     simp [hnj]
     have p2:i<ys.length:=by omega
     have hlo:(fun y=>y<x) (G ys j'):=by have:=pt.1;show G ys j'<x;omega
     rw [Qe (h:=by kernel_rfl)]
     obtain ⟨H3,H4,s3,ix3,s4,o4,c4,l4⟩:=W7 o p2 p1 hf
     simp [h0,h1,hi,hj,Qv o p2,Qv o p1,Qw o p2,Qw o p1,s3,ix3 _ p2,ix3 _ p1,s4]
     have hlt:i<j':=by
      rcases Nat.lt_or_ge i j' with q|q
      ·exact q
      ·have q2:i=j':=by omega
       exact absurd (q2▸hlo) (hex' (by omega))
     refine Qh (fun c t H'=>∃i j:Nat,c=j+1-i∧t 0=v∧t 1=.int .i64 a∧t 10=.int .i64 i∧t 11=.int .i64 j∧a<i∧i≤j+1∧j<b∧Swd H v xs e a b (fun ys=>Pt ys a b x (fun y=>y<x) i j) H') ?_ (n:=j'-1+1-(i+1))
      ⟨i+1,j'-1,rfl,by simp [h0],by simp [h1],by simp;rw [w64 (by omega) (by omega)],by simp;rw [w64 (by omega) (by omega)];omega,by omega,by omega,by omega,_,sw.step i j' (by omega) (by omega),pt.swap hai hlt hjb (by omega) (hex' (by omega)) hlo,o4,c.trans c4,by omega⟩
     rintro c t H' ⟨i,j,rfl,h0,h1,hi,hj,hai,hij,hjb,ys,sw,pt,o,c,l⟩ ih
     have len:=sw.len
     have p0:a<ys.length:=by omega
     simp [h0,h1,hi,hj]
     obtain ⟨il,hil⟩:∃il,il=i:=⟨_,rfl⟩
     have hai':il≤i∧a<i:=⟨by omega,hai⟩
     refine Xc (F:=?F32) (k:=?k2) (Q:=?Q32) (fun t H1=>∃i:Nat,t 0=v∧t 1=.int .i64 a∧t 10=.int .i64 i∧t 11=.int .i64 j∧(il≤i∧a<i)∧i≤j+1∧(i=j+1∨(i≤j∧¬(fun y=>y<x) (G ys i)))∧H'=H1∧Pt ys a b x (fun y=>y<x) i j) ?main32 ?rest32
     case main32=>
      intro rest
      refine Qh (fun c t H1=>∃i:Nat,c=j+1-i∧t 0=v∧t 1=.int .i64 a∧t 10=.int .i64 i∧t 11=.int .i64 j∧(il≤i∧a<i)∧i≤j+1∧H'=H1∧Pt ys a b x (fun y=>y<x) i j) ?_ (n:=j+1-i)
       ⟨i,rfl,by simp [h0],by simp [h1],by simp [hi],by simp [hj],hai',hij,rfl,pt⟩
      rintro c t _ ⟨i,rfl,h0,h1,hi,hj,hai',hij,rfl,pt⟩ ih2
      have hai:=hai'.2
      simp [h0,h1,hi,hj]
      rw [Qe (h:=by kernel_rfl)]
      simp [h0,h1,hi,hj]
      refine Qz ?_ ?_<;>intro g1
      ·have p1:i<ys.length:=by omega
       simp [h0,h1,hi,hj,g1,Qv o p0,Qv o p1,Qw o p0,Qw o p1,X3]
       refine Qc ?_ ?_<;>intro g2
       ·simp [h0,h1,hi,hj]
        refine ih2 (j+1-(i+1)) _ _ ⟨i+1,rfl,by simp [h0],by simp [h1],?_,by simp [hj],by omega,by omega,rfl,pt.incr hai (by have:=pt.1;show G ys i<x;omega)⟩ (by omega)
        simp;rw [w64 (by omega) (by omega)]
       ·simp [h0,h1,hi,hj]
        refine rest _ _ ?_
        exact ⟨i,by simp [h0],by simp [h1],by simp [hi],by simp [hj],hai',by omega,.inr ⟨by omega,by have:=pt.1;show ¬(G ys i<x);omega⟩,rfl,pt⟩
      ·simp [h0,h1,hi,hj,g1]
       refine rest _ _ ?_
       exact ⟨i,by simp [h0],by simp [h1],by simp [hi],by simp [hj],hai',hij,.inl (by omega),rfl,pt⟩
     case rest32=>
      rintro t _ ⟨i,h0,h1,hi,hj,hai',hij,hex,rfl,pt⟩
      have hai:=hai'.2
      refine Qh (fun c t H1=>∃j':Nat,c=j'+1-i∧t 0=v∧t 1=.int .i64 a∧t 10=.int .i64 i∧t 11=.int .i64 j'∧j'≤j∧i≤j'+1∧H'=H1∧Pt ys a b x (fun y=>y<x) i j') ?_ (n:=j+1-i)
       ⟨j,rfl,by simp [h0],by simp [h1],by simp [hi],by simp [hj],Nat.le_refl _,hij,rfl,pt⟩
      have hex':i<j+1→¬(fun y=>y<x) (G ys i):=fun hh=>by rcases hex with hex|hex;omega;exact hex.2
      have hjb0:=hjb
      rintro c t _ ⟨j',rfl,h0,h1,hi,hj,hjj',hij,rfl,pt⟩ ih2
      have hjb:j'<b:=by omega
      simp [h0,h1,hi,hj]
      rw [Qe (h:=by kernel_rfl)]
      simp [h0,h1,hi,hj]
      refine Qz ?_ ?_<;>intro g1
      ·have p1:j'<ys.length:=by omega
       simp [h0,h1,hi,hj,g1,Qv o p0,Qv o p1,Qw o p0,Qw o p1,X3]
       refine Qc ?_ ?_<;>intro g2
       ·simp [h0,h1,hi,hj]
        have hnj:¬j'<i:=by omega
        simp [hnj]
        have p2:i<ys.length:=by omega
        have hlo:(fun y=>y<x) (G ys j'):=by have:=pt.1;show G ys j'<x;omega
        rw [Qe (h:=by kernel_rfl)]
        obtain ⟨H3,H4,s3,ix3,s4,o4,c4,l4⟩:=W7 o p2 p1 hf
        simp [h0,h1,hi,hj,Qv o p2,Qv o p1,Qw o p2,Qw o p1,s3,ix3 _ p2,ix3 _ p1,s4]
        have hlt:i<j':=by
         rcases Nat.lt_or_ge i j' with q|q
         ·exact q
         ·have q2:i=j':=by omega
          exact absurd (q2▸hlo) (hex' (by omega))
        refine ih (j'-1+1-(i+1)) _ _ ⟨i+1,j'-1,rfl,by simp [h0],by simp [h1],?_,?_,by omega,by omega,by omega,_,sw.step i j' (by omega) (by omega),pt.swap hai hlt hjb (by omega) (hex' (by omega)) hlo,o4,c.trans c4,by omega⟩ (by omega)
        ·simp;rw [w64 (by omega) (by omega)]
        ·simp;rw [w64 (by omega) (by omega)];omega
       ·simp [h0,h1,hi,hj]
        refine ih2 (j'-1+1-i) _ _ ⟨j'-1,rfl,by simp [h0],by simp [h1],by simp [hi],?_,by omega,by omega,rfl,pt.decr (by omega) (by have:=pt.1;show ¬(G ys j'<x);omega)⟩ (by omega)
        simp;rw [w64 (by omega) (by omega)];omega
      ·have hij':i=j'+1:=by omega
       have hji:j'<i:=by omega
       simp [h0,h1,hi,hj,g1,hji]
       have p3:j'<ys.length:=by omega
       rw [Qe (h:=by kernel_rfl)]
       obtain ⟨H3,H4,s3,ix3,s4,o4,c4,l4⟩:=W7 o p3 p0 hf
       simp [h0,h1,hi,hj,Qv o p3,Qv o p0,Qw o p3,Qw o p0,s3,ix3 _ p3,ix3 _ p0,s4]
       obtain ⟨f1,f2,f3⟩:=pt.fin hij' hai hjb (by omega)
       exact ⟨j',rfl,by omega,by omega,_,sw.step j' a (by omega) (by omega),⟨fun k k1 k2=>by have:=f2 k k1 k2;rw [f1];exact this,fun k k1 k2=>by have:=f3 k k1 k2;rw [f1];omega⟩,o4,c.trans c4,by omega⟩
    ·simp [h0,h1,hi,hj]
     refine ih2 (j'-1+1-i) _ _ ⟨j'-1,rfl,by simp [h0],by simp [h1],by simp [hi],?_,by omega,by omega,rfl,pt.decr (by omega) (by have:=pt.1;show ¬(G ys j'<x);omega)⟩ (by omega)
     simp;rw [w64 (by omega) (by omega)];omega
   ·have hij':i=j'+1:=by omega
    have hji:j'<i:=by omega
    simp [h0,h1,hi,hj,g1,hji]
    have p3:j'<ys.length:=by omega
    rw [Qe (h:=by kernel_rfl)]
    obtain ⟨H3,H4,s3,ix3,s4,o4,c4,l4⟩:=W7 o p3 p0 hf
    simp [h0,h1,hi,hj,Qv o p3,Qv o p0,Qw o p3,Qw o p0,s3,ix3 _ p3,ix3 _ p0,s4]
    obtain ⟨f1,f2,f3⟩:=pt.fin hij' hai hjb (by omega)
    exact ⟨j',rfl,by omega,by omega,_,sw.step j' a (by omega) (by omega),⟨fun k k1 k2=>by have:=f2 k k1 k2;rw [f1];exact this,fun k k1 k2=>by have:=f3 k k1 k2;rw [f1];omega⟩,o4,c.trans c4,by omega⟩
theorem Srt.snoc {ys:List Int} {a i:Nat} (h:Srt ys a i) (hi:a<i→G ys (i-1)≤G ys i):Srt ys a (i+1):=fun p q h1 h2 h3=>by
 by_cases hq:q=i
 ·rw [hq]
  have hlt:a<i:=by omega
  have:=hi hlt
  by_cases hp:p=i-1
  ·rw [hp];exact this
  ·have:=h p (i-1) h1 (by omega) (by omega);omega
 ·exact h p q h1 h2 (by omega)
theorem xy (v:Value) (xs:List Int) (e:TypeId) (a b:Nat) (h:Ow Fl.int e H v xs) (hab:a<b) (hb:b≤xs.length) (hl:xs.length≤1073741824) (hlo:0<a→∀k,a≤k→k<b→G xs (a-1)≤G xs k) (hf:∀i∈ids v,frz≤i) :
 wp (vcall C frz 139 [v,.int .i64 a,.int .i64 b] H) (fun r H'=>∃d:Bool,r=.bool d∧Swd H v xs e a b (fun ys=>d=true→Srt ys a b) H'):=by
 rw [Qb (fn:=Tryz.f139) Tryz.func139 rfl (by kernel_rfl) rfl]
 obtain ⟨i0,hi0⟩:∃i0,i0=a+1:=⟨_,rfl⟩
 have e2:∀[Inhabited Unit],IntKind.i64.wrap ((a:Int)+1)=(i0:Int):=by intro _;rw [w64 (by omega) (by omega)];omega
 simp [e2]
 refine Qh (fun c t H'=>∃i s:Nat,c=5-s∧s≤5∧t 0=v∧t 1=.int .i64 a∧t 2=.int .i64 b∧t 7=.int .i64 i∧t 8=.int .i64 s∧a<i∧i≤b∧Swd H v xs e a b (fun ys=>Srt ys a i) H') ?_ (n:=5)
  ⟨i0,0,rfl,by omega,by simp,by simp,by simp,by simp,by simp,by omega,by omega,xs,.refl,Srt.short (by omega),h,Chg.refl _,rfl⟩
 rintro c t H' ⟨i,s,rfl,hs,h0,h1,h2,h7,h8,hai,hib,ys,sw,sr,o,c,l⟩ ih
 have len:=sw.len
 simp [h0,h1,h2,h7,h8]
 refine Qc ?_ ?_<;>intro g0
 ·simp [h0,h1,h2,h7,h8]
  refine Sd (F:=?F) (k1:=?k1) (k2:=?k2) (Q:=?Q) (fun c t H1=>∃i:Nat,c=.bool (decide ((i:Int)=b))∧H'=H1∧t 0=v∧t 1=.int .i64 a∧t 2=.int .i64 b∧t 7=.int .i64 i∧t 8=.int .i64 s∧a<i∧i≤b∧Srt ys a i) ?main ?rest
  case main=>
   intro rest
   refine Qh (fun c t H1=>∃i:Nat,c=b-i∧H'=H1∧t 0=v∧t 1=.int .i64 a∧t 2=.int .i64 b∧t 7=.int .i64 i∧t 8=.int .i64 s∧a<i∧i≤b∧Srt ys a i) ?_ (n:=b-i)
    ⟨i,rfl,rfl,by simp [h0],by simp [h1],by simp [h2],by simp [h7],by simp [h8],hai,hib,sr⟩
   rintro c t _ ⟨i,rfl,rfl,h0,h1,h2,h7,h8,hai,hib,sr⟩ ih2
   have e3:∀[Inhabited Unit],IntKind.i64.wrap ((i:Int)-1)=((i-1:Nat):Int):=by intro _;rw [w64 (by omega) (by omega)];omega
   simp [h0,h1,h2,h7,h8]
   rw [Qe (h:=by kernel_rfl)]
   simp [h0,h1,h2,h7,h8]
   refine Qz ?_ ?_<;>intro g1
   ·have p1:i<ys.length:=by omega
    have p2:i-1<ys.length:=by omega
    simp [h0,h1,h2,h7,h8,g1,e3,Qv o p1,Qv o p2,Qw o p1,Qw o p2,X3]
    refine Qc ?_ ?_<;>intro g2
    ·simp [h0,h1,h2,h7,h8]
     refine rest _ _ _ ?_
     exact ⟨i,rfl,rfl,by simp [h0],by simp [h1],by simp [h2],by simp [h7],by simp [h8],hai,hib,sr⟩
    ·simp [h0,h1,h2,h7,h8]
     refine ih2 (b-(i+1)) _ _ ⟨i+1,rfl,rfl,by simp [h0],by simp [h1],by simp [h2],?_,by simp [h8],by omega,by omega,sr.snoc (fun _=>by omega)⟩ (by omega)
     simp;rw [w64 (by omega) (by omega)]
   ·simp [h0,h1,h2,h7,h8,g1]
    refine rest _ _ _ ?_
    exact ⟨i,rfl,rfl,by simp [h0],by simp [h1],by simp [h2],by simp [h7],by simp [h8],hai,hib,sr⟩
  case rest=>
   rintro _ t _ ⟨i,rfl,rfl,h0,h1,h2,h7,h8,hai,hib,sr⟩
   obtain ⟨n,hn⟩:∃n,n=b-a:=⟨_,rfl⟩
   obtain ⟨m,hm⟩:∃m,m=i-a:=⟨_,rfl⟩
   obtain ⟨r,hr⟩:∃r,r=b-i:=⟨_,rfl⟩
   have e4:∀[Inhabited Unit],IntKind.i64.wrap ((b:Int)-a)=(n:Int):=by intro _;rw [w64 (by omega) (by omega)];omega
   have e5:∀[Inhabited Unit],IntKind.i64.wrap ((i:Int)-a)=(m:Int):=by intro _;rw [w64 (by omega) (by omega)];omega
   have e6:∀[Inhabited Unit],IntKind.i64.wrap ((b:Int)-i)=(r:Int):=by intro _;rw [w64 (by omega) (by omega)];omega
   have e3:∀[Inhabited Unit],IntKind.i64.wrap ((i:Int)-1)=((i-1:Nat):Int):=by intro _;rw [w64 (by omega) (by omega)];omega
   refine Qc ?_ ?_<;>intro g1
   ·simp
    have hib:i=b:=by omega
    exact ⟨ys,sw,hib▸sr,o,c,l⟩
   ·simp [h0,h1,h2,h7,h8,e4]
    refine Qc ?_ ?_<;>intro g2
    ·simp
     exact ⟨ys,sw,trivial,o,c,l⟩
    ·have p1:i<ys.length:=by omega
     have p2:i-1<ys.length:=by omega
     simp [h0,h1,h2,h7,h8]
     rw [Qe (h:=by kernel_rfl)]
     obtain ⟨H3,H4,s3,ix3,s4,o4,c4,l4⟩:=W7 o p1 p2 hf
     simp [h0,h1,h2,h7,h8,e3,e5,Qv o p1,Qv o p2,Qw o p1,Qw o p2,s3,ix3 _ p1,ix3 _ p2,s4]
     have sw4:=sw.step i (i-1) (by omega) (by omega)
     have sr4:Srt (swp ys i (i-1)) a (i-1):=Srt.frame (fun p q q1 q2 q3=>sr p q q1 q2 (by omega)) (fun k k1 k2=>by rw [Xw p1 p2,if_neg (by omega),if_neg (by omega)])
     have c5:=c.trans c4
     have l5:H4.length=H.length:=by omega
     generalize swp ys i (i-1)=zs at *
     refine Sd (F:=?F2) (k1:=?k12) (k2:=?k22) (Q:=?Q2) (fun c t H1=>c=.bool (decide (2≤(r:Int)))∧t 0=v∧t 1=.int .i64 a∧t 2=.int .i64 b∧t 7=.int .i64 i∧t 8=.int .i64 s∧Swd H v xs e a b (fun ys=>Srt ys a i) H1) ?main2 ?rest2
     case main2=>
      intro rest2
      refine Qc ?_ ?_<;>intro g3
      ·simp [h0,h1,h2,h7,h8,e3]
       refine Qh (fun c t H1=>∃j:Nat,c=j∧t 0=v∧t 1=.int .i64 a∧t 2=.int .i64 b∧t 7=.int .i64 i∧t 8=.int .i64 s∧t 9=.int .i64 j∧a≤j∧j≤i-1∧Swd H v xs e a b (fun ys=>Ins ys a (i-1) j) H1) ?_ (n:=i-1)
        ⟨i-1,rfl,by simp [h0],by simp [h1],by simp [h2],by simp [h7],by simp [h8],by simp,by omega,by omega,zs,sw4,Ins.start sr4,o4,c5,l5⟩
       rintro j t H1 ⟨_,rfl,h0,h1,h2,h7,h8,h9,haj,hji,ws,sw,ins,o,c,l⟩ ih2
       have len:=sw.len
       have e7:∀[Inhabited Unit],IntKind.i64.wrap ((j:Int)-1)=((j-1:Nat):Int)∨j=0:=by
        intro _
        by_cases hj:j=0
        ·exact .inr hj
        ·left;rw [w64 (by omega) (by omega)];omega
       simp [h0,h1,h2,h7,h8,h9]
       refine Qc ?_ ?_<;>intro g4
       ·have e7:∀[Inhabited Unit],IntKind.i64.wrap ((j:Int)-1)=((j-1:Nat):Int):=by intro _;rw [w64 (by omega) (by omega)];omega
        have p3:j<ws.length:=by omega
        have p4:j-1<ws.length:=by omega
        simp [h0,h1,h2,h7,h8,h9]
        rw [Qe (h:=by kernel_rfl)]
        simp [h0,h1,h2,h7,h8,h9,e7,Qv o p3,Qv o p4,Qw o p3,Qw o p4,X3]
        have low:j=a→G ws (j-1)≤G ws j:=by
         intro hja
         have:=sw.all hb (p:=fun y=>G xs (a-1)≤y) (fun k k1 k2=>hlo (by omega) k k1 k2) j haj (by omega)
         rw [hja] at this ⊢
         rw [sw.out hb (k:=a-1) (by omega)];exact this
        refine Qc ?_ ?_<;>intro g5
        ·have haj2:a<j:=by
          rcases Nat.lt_or_ge a j with q|q
          ·exact q
          ·have:=low (by omega);omega
         simp [h0,h1,h2,h7,h8,h9]
         rw [Qe (h:=by kernel_rfl)]
         obtain ⟨H5,H6,s5,ix5,s6,o6,c6,l6⟩:=W7 o p3 p4 hf
         simp [h0,h1,h2,h7,h8,h9,e7,Qv o p3,Qv o p4,Qw o p3,Qw o p4,s5,ix5 _ p3,ix5 _ p4,s6]
         refine ih2 (j-1) _ _ ⟨j-1,rfl,by simp [h0],by simp [h1],by simp [h2],by simp [h7],by simp [h8],by simp [e7],by omega,by omega,_,sw.step j (j-1) (by omega) (by omega),ins.step (by omega) haj2 hji g5,o6,c.trans c6,by omega⟩ (by omega)
        ·have sr6:Srt ws a (i-1+1):=ins.done (by
          rcases Nat.lt_or_ge a j with q|q
          ·exact .inr ⟨q,by omega⟩
          ·exact .inl (by omega))
         rw [show i-1+1=i by omega] at sr6
         simp [h0,h1,h2,h7,h8,h9,e6]
         refine rest2 _ _ _ ?_
         exact ⟨rfl,by simp [h0],by simp [h1],by simp [h2],by simp [h7],by simp [h8],ws,sw,sr6,o,c,l⟩
       ·have sr6:Srt ws a (i-1+1):=ins.done (.inl (by omega))
        rw [show i-1+1=i by omega] at sr6
        simp [h0,h1,h2,h7,h8,h9,e6]
        refine rest2 _ _ _ ?_
        exact ⟨rfl,by simp [h0],by simp [h1],by simp [h2],by simp [h7],by simp [h8],ws,sw,sr6,o,c,l⟩
      ·simp [h0,h1,h2,h7,h8,e6]
       refine rest2 _ _ _ ?_
       exact ⟨rfl,by simp [h0],by simp [h1],by simp [h2],by simp [h7],by simp [h8],zs,sw4,Srt.short (by omega),o4,c5,l5⟩
     case rest2=>
      clear sw4 sr4 o4 c5 l5 s3 s4 ix3 c4 p1 p2
      rintro _ t H1 ⟨rfl,h0,h1,h2,h7,h8,ws,sw,sr,o,c,l⟩
      have fin:∀(t:Env) (H1:Heap),t 0=v→t 1=.int .i64 a→t 2=.int .i64 b→t 7=.int .i64 i→t 8=.int .i64 (IntKind.i64.wrap ((s:Int)+1))→Swd H v xs e a b (fun ys=>Srt ys a i) H1→
       ∃i s':Nat,5-(s+1)=5-s'∧s'≤5∧t 0=v∧t 1=.int .i64 a∧t 2=.int .i64 b∧t 7=.int .i64 i∧t 8=.int .i64 s'∧a<i∧i≤b∧Swd H v xs e a b (fun ys=>Srt ys a i) H1:=
       fun t H1 g0 g1 g2 g7 g8 gs=>⟨i,s+1,rfl,by omega,g0,g1,g2,g7,by rw [g8,w64 (by omega) (by omega)];simp,hai,hib,gs⟩
      refine Qc ?_ ?_<;>intro g3
      ·have e8:∀[Inhabited Unit],IntKind.i64.wrap ((i:Int)+1)=((i+1:Nat):Int):=by intro _;rw [w64 (by omega) (by omega)];omega
       obtain ⟨j0,hj0⟩:∃j0,j0=i+1:=⟨_,rfl⟩
       rw [← hj0] at e8
       simp [h0,h1,h2,h7,h8,e8]
       refine Qh (fun c t H1=>∃j:Nat,c=b-j∧t 0=v∧t 1=.int .i64 a∧t 2=.int .i64 b∧t 7=.int .i64 i∧t 8=.int .i64 s∧t 10=.int .i64 j∧i<j∧j≤b∧Swd H v xs e a b (fun ys=>Srt ys a i) H1) ?_ (n:=b-j0)
        ⟨j0,rfl,by simp [h0],by simp [h1],by simp [h2],by simp [h7],by simp [h8],by simp,by omega,by omega,ws,sw,sr,o,c,l⟩
       rintro _ t H1 ⟨j,rfl,h0,h1,h2,h7,h8,h10,hij,hjb,ws,sw,sr,o,c,l⟩ ih2
       have len:=sw.len
       simp [h0,h1,h2,h7,h8,h10]
       refine Qc ?_ ?_<;>intro g4
       ·have e7:∀[Inhabited Unit],IntKind.i64.wrap ((j:Int)-1)=((j-1:Nat):Int):=by intro _;rw [w64 (by omega) (by omega)];omega
        have p3:j<ws.length:=by omega
        have p4:j-1<ws.length:=by omega
        simp [h0,h1,h2,h7,h8,h10]
        rw [Qe (h:=by kernel_rfl)]
        simp [h0,h1,h2,h7,h8,h10,e7,Qv o p3,Qv o p4,Qw o p3,Qw o p4,X3]
        refine Qc ?_ ?_<;>intro g5
        ·simp [h0,h1,h2,h7,h8,h10]
         rw [Qe (h:=by kernel_rfl)]
         obtain ⟨H5,H6,s5,ix5,s6,o6,c6,l6⟩:=W7 o p3 p4 hf
         simp [h0,h1,h2,h7,h8,h10,e7,Qv o p3,Qv o p4,Qw o p3,Qw o p4,s5,ix5 _ p3,ix5 _ p4,s6]
         refine ih2 (b-(j+1)) _ _ ⟨j+1,rfl,by simp [h0],by simp [h1],by simp [h2],by simp [h7],by simp [h8],?_,by omega,by omega,_,sw.step j (j-1) (by omega) (by omega),Srt.frame sr (fun k k1 k2=>by rw [Xw p3 p4,if_neg (by omega),if_neg (by omega)]),o6,c.trans c6,by omega⟩ (by omega)
         simp;rw [w64 (by omega) (by omega)]
        ·simp [h0,h1,h2,h7,h8,h10]
         refine ih (5-(s+1)) _ _ (fin _ _ ?_ ?_ ?_ ?_ ?_ ⟨ws,sw,sr,o,c,l⟩) (by omega)<;>simp [h0,h1,h2,h7,h8]
       ·simp [h0,h1,h2,h7,h8,h10]
        refine ih (5-(s+1)) _ _ (fin _ _ ?_ ?_ ?_ ?_ ?_ ⟨ws,sw,sr,o,c,l⟩) (by omega)<;>simp [h0,h1,h2,h7,h8]
      ·simp [h0,h1,h2,h7,h8]
       refine ih (5-(s+1)) _ _ (fin _ _ ?_ ?_ ?_ ?_ ?_ ⟨ws,sw,sr,o,c,l⟩) (by omega)<;>simp [h0,h1,h2,h7,h8]
 ·simp
  exact ⟨ys,sw,trivial,o,c,l⟩
structure Pq (ys:List Int) (A B a b:Nat):Prop where
 le:A≤a∧a≤b∧b≤B
 left:Srt ys A a
 right:Srt ys b B
 lo:∀p q,A≤p→p<a→a≤q→q<B→G ys p≤G ys q
 hi:∀p q,A≤p→p<b→b≤q→q<B→G ys p≤G ys q
 low:0<A→∀k,A≤k→k<B→G ys (A-1)≤G ys k
section
variable {ys zs:List Int} {A B a b m:Nat}
theorem Pq.below (h:Pq ys A B a b) (ha:0<a):∀k,a≤k→k<B→G ys (a-1)≤G ys k:=fun k h1 h2=>by
 obtain ⟨l1,l2,l3⟩:=h.le
 by_cases hA:a=A
 ·have:=h.low (by omega) k (by omega) h2;rw [hA];exact this
 ·exact h.lo (a-1) k (by omega) (by omega) h1 h2
theorem Pq.sw (h:Pq ys A B a b) (s:Sw a b ys zs) (hB:B≤ys.length):Pq zs A B a b:=by
 obtain ⟨l1,l2,l3⟩:=h.le
 have hb:b≤ys.length:=by omega
 have out:=fun k (hk:k<a∨b≤k)=>s.out hb hk
 refine ⟨h.le,h.left.frame (fun k h1 h2=>out k (.inl h2)),h.right.frame (fun k h1 h2=>out k (.inr h1)),fun p q h1 h2 h3 h4=>?_,fun p q h1 h2 h3 h4=>?_,fun h0 k h1 h2=>?_⟩
 ·rw [out p (.inl h2)]
  exact s.all' hb (p:=fun y=>G ys p≤y) (Nat.le_refl a) l3 (fun k k1 k2=>h.lo p k h1 h2 k1 k2) q h3 h4
 ·rw [out q (.inr h3)]
  exact s.all' hb (p:=fun y=>y≤G ys q) l1 (Nat.le_refl b) (fun k k1 k2=>h.hi k q k1 k2 h3 h4) p h1 h2
 ·rw [out (A-1) (.inl (by omega))]
  exact s.all' hb (p:=fun y=>G ys (A-1)≤y) l1 l3 (fun k k1 k2=>h.low h0 k k1 k2) k h1 h2
theorem Pq.done (h:Pq ys A B a b) (s:Srt ys a b):Srt ys A B:=by
 obtain ⟨l1,l2,l3⟩:=h.le
 exact (h.left.join (s.join h.right (fun p q h1 h2 h3 h4=>h.hi p q (by omega) h2 h3 h4)) h.lo)
theorem Pq.eq {x:Int} (h:Pq ys A B a b) (hm:a<m∧m≤b) (hx:∀k,a≤k→k<b→x≤G ys k) (h1:∀k,a≤k→k<m→¬x<G ys k) (h2:∀k,m≤k→k<b→x<G ys k):Pq ys A B m b:=by
 obtain ⟨l1,l2,l3⟩:=h.le
 refine ⟨by omega,h.left.join (fun p q q1 q2 q3=>?_) (fun p q q1 q2 q3 q4=>h.lo p q q1 q2 q3 (by omega)),h.right,fun p q q1 q2 q3 q4=>?_,h.hi,h.low⟩
 ·have:=h1 p q1 (by omega);have:=hx q (by omega) (by omega);omega
 ·by_cases hp:p<a
  ·exact h.lo p q q1 hp (by omega) q4
  ·by_cases hq:q<b
   ·have:=h1 p (by omega) q2;have:=h2 q q3 hq;omega
   ·exact h.hi p q q1 (by omega) (by omega) q4
theorem Pq.goRight (h:Pq ys A B a b) (hm:a≤m∧m<b) (s:Srt ys a m) (h1:∀k,a≤k→k<m→G ys k≤G ys m) (h2:∀k,m<k→k<b→G ys m≤G ys k):Pq ys A B (m+1) b:=by
 obtain ⟨l1,l2,l3⟩:=h.le
 refine ⟨by omega,h.left.join (fun p q q1 q2 q3=>?_) (fun p q q1 q2 q3 q4=>h.lo p q q1 q2 q3 (by omega)),h.right,fun p q q1 q2 q3 q4=>?_,h.hi,h.low⟩
 ·by_cases hq:q=m
  ·rw [hq];exact h1 p q1 (by omega)
  ·exact s p q q1 q2 (by omega)
 ·by_cases hp:p<a
  ·exact h.lo p q q1 hp (by omega) q4
  ·by_cases hq:q<b
   ·have:=h2 q (by omega) hq
    by_cases hpm:p=m
    ·rw [hpm];exact this
    ·have:=h1 p (by omega) (by omega);omega
   ·exact h.hi p q q1 (by omega) (by omega) q4
theorem Pq.goLeft (h:Pq ys A B a b) (hm:a≤m∧m<b) (s:Srt ys (m+1) b) (h1:∀k,a≤k→k<m→G ys k≤G ys m) (h2:∀k,m<k→k<b→G ys m≤G ys k):Pq ys A B a m:=by
 obtain ⟨l1,l2,l3⟩:=h.le
 refine ⟨by omega,h.left,Srt.join (b:=b) (fun p q q1 q2 q3=>?_) h.right (fun p q q1 q2 q3 q4=>h.hi p q (by omega) q2 q3 q4),h.lo,fun p q q1 q2 q3 q4=>?_,h.low⟩
 ·by_cases hp:p=m
  ·rw [hp];exact h2 q (by omega) q3
  ·exact s p q (by omega) q2 q3
 ·by_cases hq:q<b
  ·by_cases hp:p<a
   ·exact h.lo p q q1 hp (by omega) q4
   ·have:=h1 p (by omega) q2
    by_cases hqm:q=m
    ·rw [hqm];exact this
    ·have:=h2 q (by omega) hq;omega
  ·exact h.hi p q q1 (by omega) (by omega) q4
end
theorem Qgv:∀(n:Nat) (H:Heap) (v:Value) (xs:List Int) (e:TypeId) (A B:Nat) (L:Int) (h:Ow Fl.int e H v xs) (hn:B-A≤n) (hab:A≤B) (hb:B≤xs.length) (hl:xs.length≤1073741824)
 (hlo:0<A→∀k,A≤k→k<B→G xs (A-1)≤G xs k) (hf:∀i∈ids v,frz≤i) (hF:frz≤H.length),
 wp (vcall C frz 104 [v,.int .i64 A,.int .i64 B,.int .i64 L] H) (fun _ H'=>∃ys,Sw A B xs ys∧Srt ys A B∧Ow Fl.int e H' v ys∧Chg H H' (ids v)):=by
 intro n
 induction n using Nat.strongRecOn with
 | _ n IH=>
 intro H v xs e A B L h hn hab hb hl hlo hf hF
 rw [Qb (fn:=Tryz.f104) Tryz.func104 rfl (by kernel_rfl) rfl]
 simp
 refine Qh (fun c t H'=>∃(a b:Nat) (L:Int) (w1 w2:Bool),c=b-a∧t 0=v∧t 1=.int .i64 a∧t 2=.int .i64 b∧t 3=.int .i64 L∧t 8=.bool w1∧t 9=.bool w2∧
  ∃ys,Sw A B xs ys∧Pq ys A B a b∧Ow Fl.int e H' v ys∧Chg H H' (ids v)) ?_ (n:=B-A)
  ⟨A,B,L,true,true,rfl,by simp,by simp,by simp,by simp,by simp,by simp,xs,.refl,⟨by omega,Srt.short (by omega),Srt.short (by omega),fun p q h1 h2 h3 h4=>by omega,fun p q h1 h2 h3 h4=>by omega,hlo⟩,h,Chg.refl _⟩
 rintro c t H' ⟨a,b,L,w1,w2,rfl,h0,h1,h2,h3,h8,h9,ys,sw,pq,o,c⟩ ih
 have len:=sw.len
 obtain ⟨l1,l2,l3⟩:=pq.le
 obtain ⟨n1,hn1⟩:∃n1,n1=b-a:=⟨_,rfl⟩
 have e1:∀[Inhabited Unit],IntKind.i64.wrap ((b:Int)-a)=(n1:Int):=by intro _;rw [w64 (by omega) (by omega)];omega
 simp [h0,h1,h2,h3,h8,h9,e1]
 refine Qc ?_ ?_<;>intro g1
 ·simp [h0,h1,h2,h3,h8,h9]
  refine Qd (Aw v ys e a b o l2 (by omega) (by omega) hf) ?_
  rintro _ H1 ⟨zs,sw1,sr1,o1,c1,k1⟩
  simp
  exact ⟨zs,sw.trans (sw1.mono l1 l3),(pq.sw sw1 (by omega)).done sr1,o1,c.trans c1⟩
 ·simp [h0,h1,h2,h3,h8,h9]
  refine Qc ?_ ?_<;>intro g2
  ·simp [h0,h1,h2,h3,h8,h9]
   refine Qd (Cl v ys e a b o (by omega) (by omega) (by omega) hf) ?_
   rintro _ H1 ⟨zs,sw1,sr1,o1,c1,k1⟩
   simp
   exact ⟨zs,sw.trans (sw1.mono l1 l3),(pq.sw sw1 (by omega)).done sr1,o1,c.trans c1⟩
  ·simp [h0,h1,h2,h3,h8,h9]
   refine Z3 (F:=?F1) (k:=?k1) (d:=?d1) (Q:=?Q1) (fun r t=>∃(L:Int) (zs:List Int) (H1:Heap),r=vcall C frz 137 [v,.int .i64 a,.int .i64 b] H1∧t 0=v∧t 1=.int .i64 a∧t 2=.int .i64 b∧t 3=.int .i64 L∧t 10=.int .i64 n1∧t 8=.bool w1∧t 9=.bool w2∧
    Sw A B xs zs∧Pq zs A B a b∧Ow Fl.int e H1 v zs∧Chg H H1 (ids v)) ?main1 ?rest1
   case main1=>
    intro rest
    have h10:=True.intro
    refine Pr ?_ ?_<;>intro g3
    ·simp [h0,h1,h2,h3,h8,h9]
     refine rest _ _ ?_
     exact ⟨L,ys,H',rfl,by simp [h0],by simp [h1],by simp [h2],by simp [h3],by simp [h10],by simp [h8],by simp [h9],sw,pq,o,c⟩
    ·simp [h0,h1,h2,h3,h8,h9]
     refine Qd (D7 v ys e a b o l2 (by omega) (by omega) hf (by have:=c.1;omega)) ?_
     rintro _ H1 ⟨zs,sw1,o1,c1⟩
     simp [h0,h1,h2,h3,h8,h9]
     refine rest _ _ ?_
     exact ⟨IntKind.i64.wrap (L-1),zs,H1,rfl,by simp [h0],by simp [h1],by simp [h2],by simp,by simp,by simp [h8],by simp [h9],sw.trans (sw1.mono l1 l3),pq.sw sw1 (by omega),o1,c.trans c1⟩
   case rest1=>
    clear h0 h1 h2 h3 h8 h9 sw pq o c len
    rintro _ t ⟨L,ys,H',rfl,h0,h1,h2,h3,h10,h8,h9,sw,pq,o,c⟩
    have len:=sw.len
    refine Qd (Mj v ys e a b o (by omega) (by omega) (by omega) (by have:=c.1;omega)) ?_
    rintro _ H1 ⟨⟨p,k,rfl,hp1,hp2⟩,c1⟩
    have o1:=o.chg c1 (by simp)
    have cH1:=c.trans (c1.mono (by simp))
    simp [h0,h1,h2,h3,h8,h9]
    refine Fm (F:=?F2) (k:=?k2) (d:=?d2) (want:=?w2) (op:=?op2) (Q:=?Q2) (fun c t H1=>c=.bool w1∧∃(p:Nat) (k:Int) (zs:List Int),(a≤p∧p<b)∧t 0=v∧t 1=.int .i64 a∧t 2=.int .i64 b∧t 3=.int .i64 L∧t 10=.int .i64 n1∧t 8=.bool w1∧t 9=.bool w2∧t 11=.int .i64 p∧t 12=.int .i64 k∧t 62=.bool w1∧
     Sw A B xs zs∧Pq zs A B a b∧Ow Fl.int e H1 v zs∧Chg H H1 (ids v)) ?main2 ?rest2
    case main2=>
     intro rest
     refine Qc ?_ ?_<;>intro g3
     ·simp [h0,h1,h2,h3,h8,h9]
      refine Qd (E3 v ys e a b o1 (by omega) (by omega) (by omega) hf) ?_
      rintro _ H2 ⟨zs,sw1,_,o2,c2,k2⟩
      obtain ⟨b1,hb1⟩:∃b1,b1=b-1:=⟨_,rfl⟩
      obtain ⟨p1,hp3⟩:∃p1,p1=p-a:=⟨_,rfl⟩
      obtain ⟨p2,hp4⟩:∃p2,p2=b1-p1:=⟨_,rfl⟩
      have e2:∀[Inhabited Unit],IntKind.i64.wrap ((b:Int)-1)=(b1:Int):=by intro _;rw [w64 (by omega) (by omega)];omega
      have e3:∀[Inhabited Unit],IntKind.i64.wrap ((p:Int)-a)=(p1:Int):=by intro _;rw [w64 (by omega) (by omega)];omega
      have e4:∀[Inhabited Unit],IntKind.i64.wrap ((b1:Int)-p1)=(p2:Int):=by intro _;rw [w64 (by omega) (by omega)];omega
      simp [h0,h1,h2,h3,h8,h9,e2,e3,e4]
      refine rest _ _ _ ?_
      exact ⟨rfl,p2,1,zs,by omega,by simp [h0],by simp [h1],by simp [h2],by simp [h3],by simp [h10],by simp [h8],by simp [h9],by simp,by simp,by simp,sw.trans (sw1.mono l1 l3),pq.sw sw1 (by omega),o2,cH1.trans c2⟩
     ·simp [h0,h1,h2,h3,h8,h9]
      refine rest _ _ _ ?_
      exact ⟨rfl,p,k,ys,by omega,by simp [h0],by simp [h1],by simp [h2],by simp [h3],by simp [h10],by simp [h8],by simp [h9],by simp,by simp,by simp,sw,pq,o1,cH1⟩
    case rest2=>
     clear h0 h1 h2 h3 h8 h9 sw pq o c len o1 c1 cH1 hp1 hp2
     rintro _ t H1 ⟨rfl,p,k,ys,hp,h0,h1,h2,h3,h10,h8,h9,h11,h12,h62,sw,pq,o,c⟩
     have len:=sw.len
     refine Xc (F:=?F3) (k:=?k3) (Q:=?Q3) (fun t H1=>∃(zs:List Int),t 0=v∧t 1=.int .i64 a∧t 2=.int .i64 b∧t 3=.int .i64 L∧t 10=.int .i64 n1∧t 8=.bool w1∧t 9=.bool w2∧t 11=.int .i64 p∧
      Sw A B xs zs∧Pq zs A B a b∧Ow Fl.int e H1 v zs∧Chg H H1 (ids v)) ?main3 ?rest3
     case main3=>
      intro rest
      refine Sm ?_ ?_<;>intro g3
      ·simp [h0,h1,h2,h3,h8,h9,h11,h12,h62,g3]
       refine Sm ?_ ?_<;>intro g4
       ·simp [h0,h1,h2,h3,h8,h9,h11,h12,h62,g3,g4]
        refine Qc ?_ ?_<;>intro g5
        ·simp [h0,h1,h2,h3,h8,h9,h11,h12]
         refine Qd (xy v ys e a b o (by omega) (by omega) (by omega) (fun h0 k k1 k2=>pq.below h0 k k1 (by omega)) hf) ?_
         rintro _ H2 ⟨d,rfl,zs,sw1,sr1,o2,c2,k2⟩
         simp
         refine Pr ?_ ?_<;>intro g6
         ·simp
          exact ⟨zs,sw.trans (sw1.mono l1 l3),(pq.sw sw1 (by omega)).done (sr1 g6),o2,c.trans c2⟩
         ·simp
          refine rest _ _ ?_
          exact ⟨zs,by simp [h0],by simp [h1],by simp [h2],by simp [h3],by simp [h10],by simp [h8],by simp [h9],by simp [h11],sw.trans (sw1.mono l1 l3),pq.sw sw1 (by omega),o2,c.trans c2⟩
        ·simp
         refine rest _ _ ?_
         exact ⟨ys,by simp [h0],by simp [h1],by simp [h2],by simp [h3],by simp [h10],by simp [h8],by simp [h9],by simp [h11],sw,pq,o,c⟩
       ·simp [h0,h1,h2,h3,h8,h9,h11,h12,h62,g3,g4]
        refine rest _ _ ?_
        exact ⟨ys,by simp [h0],by simp [h1],by simp [h2],by simp [h3],by simp [h10],by simp [h8,g3],by simp [h9,g4],by simp [h11],sw,pq,o,c⟩
      ·simp [h0,h1,h2,h3,h8,h9,h11,h12,h62,g3]
       refine rest _ _ ?_
       exact ⟨ys,by simp [h0],by simp [h1],by simp [h2],by simp [h3],by simp [h10],by simp [h8,g3],by simp [h9],by simp [h11],sw,pq,o,c⟩
     case rest3=>
      clear h0 h1 h2 h3 h8 h9 h11 h12 sw pq o c len
      rintro t H1 ⟨ys,h0,h1,h2,h3,h10,h8,h9,h11,sw,pq,o,c⟩
      have len:=sw.len
      have q1:p<ys.length:=by omega
      rw [Qe (h:=by kernel_rfl)]
      simp [h0,h1,h2,h3,h8,h9,h11]
      refine Z3 (F:=?F4) (k:=?k4) (d:=?d4) (Q:=?Q4) (fun r t=>r=vcall C frz 142 [v,.int .i64 a,.int .i64 b,.int .i64 p] H1∧t 0=v∧t 1=.int .i64 a∧t 2=.int .i64 b∧t 3=.int .i64 L∧t 10=.int .i64 n1) ?main4 ?rest4
      case main4=>
       intro rest
       refine Qz ?_ ?_<;>intro g3
       ·have e5:∀[Inhabited Unit],IntKind.i64.wrap ((a:Int)-1)=((a-1:Nat):Int):=by intro _;rw [w64 (by omega) (by omega)];omega
        have q2:a-1<ys.length:=by omega
        simp [h0,h1,h2,h3,h8,h9,h11,g3,e5,Qv o q1,Qv o q2,Qw o q1,Qw o q2,X3]
        refine Qc ?_ ?_<;>intro g4
        ·simp [h0,h1,h2,h3,h8,h9,h11]
         refine rest _ _ ?_
         exact ⟨rfl,by simp [h0],by simp [h1],by simp [h2],by simp [h3],by simp [h10]⟩
        ·simp [h0,h1,h2,h3,h8,h9,h11]
         refine Qd (jj v ys e a b p o hp (by omega) (by omega) hf) ?_
         rintro _ H2 ⟨m,rfl,m1,m2,zs,sw1,⟨f1,f2⟩,o2,c2,k2⟩
         simp [h0,h1,h2,h3,h8,h9,h11]
         have low:=(pq.sw sw1 (by omega)).below g3
         have out:=sw1.out (by omega) (k:=a-1) (by omega)
         refine ih (b-m) _ _ ⟨m,b,L,w1,w2,rfl,by simp [h0],by simp,by simp [h2],by simp [h3],by simp [h8],by simp [h9],zs,sw.trans (sw1.mono l1 l3),(pq.sw sw1 (by omega)).eq ⟨m1,m2⟩ (fun k k1 k2=>?_) f1 f2,o2,c.trans c2⟩ (by omega)
         have:=low k k1 (by omega);omega
       ·simp [h0,h1,h2,h3,h8,h9,h11,g3]
        refine rest _ _ ?_
        exact ⟨rfl,by simp [h0],by simp [h1],by simp [h2],by simp [h3],by simp [h10]⟩
      case rest4=>
       rintro _ t ⟨rfl,h0,h1,h2,h3,h10⟩
       refine Qd (Qdh v ys e a b p o hp (by omega) (by omega) hf) ?_
       rintro _ H2 ⟨m,d,rfl,m1,m2,zs,sw1,⟨f1,f2⟩,o2,c2,k2⟩
       have pq2:=pq.sw sw1 (by omega)
       have len2:=sw1.len
       obtain ⟨r1,hr1⟩:∃r1,r1=m-a:=⟨_,rfl⟩
       obtain ⟨r2,hr2⟩:∃r2,r2=b-m:=⟨_,rfl⟩
       obtain ⟨mm,hmm⟩:∃mm,mm=m+1:=⟨_,rfl⟩
       have e6:∀[Inhabited Unit],IntKind.i64.wrap ((m:Int)-a)=(r1:Int):=by intro _;rw [w64 (by omega) (by omega)];omega
       have e7:∀[Inhabited Unit],IntKind.i64.wrap ((b:Int)-m)=(r2:Int):=by intro _;rw [w64 (by omega) (by omega)];omega
       have e8:∀[Inhabited Unit],IntKind.i64.wrap ((m:Int)+1)=(mm:Int):=by intro _;rw [w64 (by omega) (by omega)];omega
       have f1':∀k,a≤k→k<m→G zs k≤G zs m:=fun k k1 k2=>Int.le_of_lt (f1 k k1 k2)
       have cc:=c.trans c2
       have q8:∀[Inhabited Unit],IntKind.i64.wrap ((n1:Int)/8)=(n1/8:Nat):=by intro _;rw [w64 (by omega) (by omega)];omega
       obtain ⟨n8,hn8⟩:∃n8,n8=n1/8:=⟨_,rfl⟩
       rw [← hn8] at q8
       simp [h0,h1,h2,h3,h10,e6,e7,e8,q8]
       refine Qc ?_ ?_<;>intro g7
       ·simp [h0,h1,h2,h3,h10]
        refine Qd (IH (m-a) (by omega) H2 v zs e a m L o2 (Nat.le_refl _) (by omega) (by omega) (by omega) (fun q0 k k1 k2=>pq2.below q0 k k1 (by omega)) hf (by have:=cc.1;omega)) ?_
        rintro _ H3 ⟨ws,sw3,sr3,o3,c3⟩
        simp [h0,h1,h2,h3,h10,e8]
        have hbz:m≤zs.length:=by omega
        have wm:G ws m=G zs m:=sw3.out hbz (.inr (Nat.le_refl _))
        refine ih (b-mm) _ _ ⟨mm,b,L,decide (n8≤r1),d,rfl,by simp [h0],by simp,by simp [h2],by simp [h3],by simp,by simp,ws,(sw.trans (sw1.mono l1 l3)).trans (sw3.mono l1 (by omega)),?_,o3,cc.trans c3⟩ (by omega)
        rw [hmm]
        refine (pq2.sw (sw3.mono (Nat.le_refl _) (by omega)) (by omega)).goRight ⟨m1,m2⟩ sr3 ?_ (fun k k1 k2=>?_)
        ·rw [wm];exact sw3.all hbz (p:=fun y=>y≤G zs m) f1'
        ·rw [wm,sw3.out hbz (.inr (by omega))];exact f2 k k1 k2
       ·simp [h0,h1,h2,h3,h10,e8]
        refine Qd (IH (b-mm) (by omega) H2 v zs e mm b L o2 (Nat.le_refl _) (by omega) (by omega) (by omega) (fun q0 k k1 k2=>by rw [show mm-1=m by omega];exact f2 k (by omega) k2) hf (by have:=cc.1;omega)) ?_
        rintro _ H3 ⟨ws,sw3,sr3,o3,c3⟩
        simp [h0,h1,h2,h3,h10,e8]
        have hbz:b≤zs.length:=by omega
        have wm:G ws m=G zs m:=sw3.out hbz (.inl (by omega))
        refine ih (m-a) _ _ ⟨a,m,L,decide (n8≤r2),d,rfl,by simp [h0],by simp [h1],by simp,by simp [h3],by simp,by simp,ws,(sw.trans (sw1.mono l1 l3)).trans (sw3.mono (by omega) l3),?_,o3,cc.trans c3⟩ (by omega)
        refine (pq2.sw (sw3.mono (by omega) (Nat.le_refl _)) (by omega)).goLeft ⟨m1,m2⟩ (hmm▸sr3) (fun k k1 k2=>?_) (fun k k1 k2=>?_)
        ·rw [wm,sw3.out hbz (.inl (by omega))];exact f1' k k1 k2
        ·rw [wm];exact sw3.all hbz (p:=fun y=>G zs m≤y) (fun k k1 k2=>f2 k (by omega) k2) k (by omega) k2
theorem xl {xs ys:List Int} (h1:xs.Pairwise (·≤·)) (h2:ys.Pairwise (·≤·)) (h:xs.Perm ys):xs=ys:=
 List.Perm.eq_of_pairwise (le:=(·≤·)) (fun a b _ _ h1 h2=>Int.le_antisymm h1 h2) h1 h2 h
def isort (xs:List Int):List Int:=xs.mergeSort (fun a b=>decide (a≤b))
theorem O0 (xs:List Int):(isort xs).Perm xs:=List.mergeSort_perm xs _
theorem Ja (xs:List Int):(isort xs).Pairwise (·≤·):=by
 have:=List.pairwise_mergeSort (le:=fun a b:Int=>decide (a≤b)) (fun a b c h1 h2=>by simp at *;omega) (fun a b=>by simp;omega) xs
 exact this.imp (fun h=>by simpa using h)
theorem Mv (xs:List Int):(isort xs).length=xs.length:=(O0 xs).length_eq
theorem Qdt (v:Value) (xs:List Int) (e:TypeId) (h:Ow Fl.int e H v xs) (hl:xs.length≤1073741824) (hf:∀i∈ids v,frz≤i) (hF:frz≤H.length) :
 wp (vcall C frz 71 [v] H) (fun _ H'=>Ow Fl.int e H' v (isort xs)∧Chg H H' (ids v)):=by
 rw [Qb (fn:=Tryz.f71) Tryz.func71 rfl (by kernel_rfl) rfl]
 have e1:∀[Inhabited Unit],IntKind.u64.wrap (xs.length:Int)=(xs.length:Int):=by intro _;exact w64u (by omega) (by omega)
 simp [h.rd.len,e1]
 refine Qd (ja xs.length (by omega)) ?_
 rintro _ H0 ⟨hH,n,rfl,_⟩
 rw [hH]
 simp
 have:=Qgv (frz:=frz) xs.length H v xs e 0 xs.length n h (by omega) (by omega) (Nat.le_refl _) hl (fun h=>by omega) hf hF
 refine Qd (by simpa using this) ?_
 rintro _ H1 ⟨ys,sw,sr,o,c⟩
 simp
 have hys:ys=isort xs:=by
  have hp:=sw.perm (Nat.le_refl _)
  rw [← sw.len] at sr
  exact xl sr.pairwise (Ja xs) (hp.trans (O0 xs).symm)
 subst hys
 exact ⟨o,c⟩
end Go.Proofs.YtaldglgobgjeaaaGreat.V
set_option linter.all false
namespace Go.Proofs.YtaldglgobgjeaaaGreat.V
open Go Go.VM Go.Proofs
set_option maxRecDepth 10000
variable {frz:Nat} {H:Heap} {v:Value} {xs ys:List Int} {e:TypeId}
def dk (xs:List Int):Nat→List Int
 | 0=>[]
 | j+1=>if 0<j∧G xs (j-1)=G xs j then dk xs j else dk xs j++[G xs j]
def compact (xs:List Int):List Int:=dk xs xs.length
theorem J0 {xs:List Int} {j:Nat} (h:j<xs.length):xs.take (j+1)=xs.take j++[G xs j]:=by rw [List.take_succ_eq_append_getElem h,Wz h]
theorem L9 {xs:List Int} (hs:xs.Pairwise (·≤·)):∀j,j≤xs.length→(dk xs j).Pairwise (· < ·)∧(∀x,x∈dk xs j↔x∈xs.take j)
 | 0,_=>by simp [dk]
 | j+1,hj=>by
  obtain ⟨h1,h2⟩:=L9 hs j (by omega)
  have hjl:j<xs.length:=by omega
  rw [J0 hjl]
  have mem_le:∀x∈xs.take j,∃i,i<j∧x=G xs i∧(i<j-1→x≤G xs (j-1))∧x≤G xs j:=by
   intro x hx
   obtain ⟨i,hi,rfl⟩:=List.mem_iff_getElem.1 hx
   simp at hi
   rw [List.getElem_take]
   refine ⟨i,by omega,(Wz (by omega)).symm,fun h=>?_,?_⟩
   ·rw [Wz (by omega)];exact List.pairwise_iff_getElem.1 hs i (j-1) (by omega) (by omega) (by omega)
   ·rw [Wz hjl];exact List.pairwise_iff_getElem.1 hs i j (by omega) (by omega) (by omega)
  unfold dk
  split
  ·rename_i hc
   refine ⟨h1,fun x=>?_⟩
   rw [h2,List.mem_append,List.mem_singleton]
   refine ⟨.inl,fun hh=>hh.elim id fun hx=>?_⟩
   rw [hx,← hc.2,Wz (by omega),← List.getElem_take (j:=j) (h:=by simp;omega)]
   exact List.getElem_mem _
  ·rename_i hc
   refine ⟨?_,fun x=>by rw [List.mem_append,List.mem_append,h2]⟩
   rw [List.pairwise_append]
   refine ⟨h1,by simp,fun x hx y hy=>?_⟩
   rw [List.mem_singleton.1 hy]
   obtain ⟨i,hi,he,hl,hle⟩:=mem_le x ((h2 x).1 hx)
   by_cases hij:i=j-1
   ·have h0:0<j:=by omega
    have:G xs (j-1)≠G xs j:=fun hh=>hc ⟨h0,hh⟩
    rw [hij] at he
    omega
   ·have h3:=hl (by omega)
    have h0:0<j:=by omega
    have:G xs (j-1)≠G xs j:=fun hh=>hc ⟨h0,hh⟩
    have h4:G xs (j-1)≤G xs j:=by
     rw [Wz (by omega),Wz hjl];exact List.pairwise_iff_getElem.1 hs (j-1) j (by omega) (by omega) (by omega)
    omega
theorem Oh {xs:List Int} (hs:xs.Pairwise (·≤·)):(compact xs).Pairwise (· < ·)∧∀x,x∈compact xs↔x∈xs:=by
 obtain ⟨h1,h2⟩:=L9 hs xs.length (Nat.le_refl _)
 exact ⟨h1,fun x=>by rw [compact,h2,List.take_length]⟩
theorem Qa5 (o:Ow Fl.int 3 H v xs) (h0:0<xs.length) {l:Nat} (hl:l≤xs.length):∃z,∀(H':Heap) (ys:List Int),Ow Fl.int 3 H' v ys→ys.length=xs.length→
 vslice Tryz.prog H' 26 (some (.int .i64 (l:Nat))) none v=some z∧Ow Fl.int 3 H' z (ys.drop l)∧ids z=ids v:=by
 rcases o with ⟨_,rfl⟩|⟨id,off,r,rfl,k2,k3,k4,k5,k6⟩
 ·simp at h0
 ·refine ⟨.slice (some ⟨id,off+l*1,some r.gen⟩) (xs.length-l) 0,fun H' ys o' hlen=>?_⟩
  obtain ⟨z',h1,h2,h3⟩:=o'.slice (P:=Tryz.prog) (ty:=26) (lo:=some (.int .i64 (l:Int))) (hi:=none) (l:=l) (u:=ys.length) (by simp) rfl rfl (by omega) (Nat.le_refl _)
  have e:(ys.drop l).take (ys.length-l)=ys.drop l:=List.take_of_length_le (by simp)
  rw [e] at h2
  have hz:z'=.slice (some ⟨id,off+l*1,some r.gen⟩) (xs.length-l) 0:=by
   rcases o' with ⟨hv,_⟩|⟨id',off',r',hv,q2,q3,q4,q5,q6⟩
   ·cases hv
   ·injection hv with hv1 hv2
    injection hv1 with hv1
    injection hv1 with i1 i2 i3
    injection i3 with i3
    subst i1 i2
    have hle:(l:Int)≤(xs.length:Int):=by omega
    simp [vslice,VM.look,q2,i3,vbound,q5,hle] at h1
    simp [← h1,i3]
  rw [← hz]
  exact ⟨h1,h2,h3⟩
theorem gx (o:Ow Fl.int 3 H v ys) (h0:0<ys.length) {l:Nat} (hl:l≤ys.length) {z:Value} (hz:vslice Tryz.prog H 26 (some (.int .i64 (l:Nat))) none v=some z) (hf:∀i∈ids v,frz≤i) :
 ∃H' zs,vclear Tryz.prog frz H 26 z=some (undef,H')∧zs.length=ys.length∧zs.take l=ys.take l∧Ow Fl.int 3 H' v zs∧Chg H H' (ids v):=by
 rcases o with ⟨_,rfl⟩|⟨id,off,r,rfl,k2,k3,k4,k5,k6⟩
 ·simp at h0
 ·have hle:(l:Int)≤(ys.length:Int):=by omega
  simp [vslice,VM.look,k2,vbound,k5,hle] at hz
  subst hz
  have hfr:frz≤id:=hf id (by simp)
  have hn:Fl.int.n=1:=rfl
  rw [hn] at k3 k4
  have hroom:off+l+(ys.length-l)≤r.cells.length:=by omega
  refine ⟨H.set id { r with cells:=VM.splice r.cells (off+l) (List.replicate (ys.length-l) [Value.int .i64 0]).flatten },ys.take l++List.replicate (ys.length-l) 0,?_,by simp;omega,by rw [List.take_append_of_le_length (by simp;omega),List.take_take,Nat.min_self],?_,Qg _ _⟩
  ·simp [vclear,VM.look,k2,hfr,hroom,ones,VM.one]
  ·have hcl:((List.replicate (ys.length-l) [Value.int .i64 0]).flatten).length=ys.length-l:=by simp
   have hlt:id<H.length:=Qs k2
   have hzl:(ys.take l++List.replicate (ys.length-l) (0:Int)).length=ys.length:=by simp;omega
   refine .inr ⟨id,off,{ r with cells:=VM.splice r.cells (off+l) (List.replicate (ys.length-l) [Value.int .i64 0]).flatten },by rw [hzl],by simp [hlt],?_,?_,k5,Za k6 (by simp [ones,VM.one])⟩
   ·rw [hzl,hn,Ye k3 k4 (by rw [hcl];omega),Q8,Q8]
    unfold VM.splice
    rw [hcl]
    have e1:(List.map (Value.int .i64) ys).drop (l+(ys.length-l))=[]:=by rw [List.drop_eq_nil_iff];simp;omega
    rw [e1,List.append_nil,List.map_append,List.map_take]
    simp
   ·rw [hzl,hn,Y9 (by rw [hcl];omega)];exact k4
end Go.Proofs.YtaldglgobgjeaaaGreat.V
set_option linter.all false
namespace Go.Proofs.YtaldglgobgjeaaaGreat.V
open Go Go.VM Go.Proofs
set_option maxRecDepth 10000
variable {frz:Nat} {H:Heap}
def placeP (p:Int→Bool) (b:List Int):Int:=if b.any p then b.findIdx p else -1
theorem L8 {p:Int→Bool} {b:List Int} {i:Nat} (h:i<b.length) (h1:∀x∈b.take i,p x=false) (h2:p b[i]=true):placeP p b=i:=by
 unfold placeP
 rw [if_pos (List.any_eq_true.2 ⟨b[i],List.getElem_mem h,h2⟩)]
 congr 1
 rw [List.findIdx_eq h]
 refine ⟨h2,fun j hj=>?_⟩
 refine Bool.eq_false_iff.1 ?_ |> fun hh=>by simpa using hh
 exact h1 _ (by rw [List.mem_take_iff_getElem];exact ⟨j,by omega,rfl⟩)
theorem Pe (v f:Value) (p:Int→Bool) (b:List Int) (hI:IsI H v b) (hl:b.length≤1073741824)
 (hf:∀x∈b,vclos (vcall C H.length) f [.int .i64 x] H=some (.bool (p x),H)) :
 vcall C frz 182 [v,f] H=some (.int .i64 (placeP p b),H):=by
 rw [Qb (fn:=Tryz.f182) Tryz.func182 rfl (by kernel_rfl) rfl]
 simp [hI.len]
 refine Xy (fun n t H'=>∃i:Nat,n=b.length-i∧i≤b.length∧t 0=v∧t 1=f∧t 6=v∧t 7=.int .i64 b.length∧t 8=.int .i64 i∧H'=H∧∀x∈b.take i,p x=false) ?_ (n:=b.length) ⟨0,by simp⟩
 rintro n t H' ⟨i,rfl,hi,h0,h1,h2,h3,h4,rfl,hj⟩ ih
 simp [h0,h1,h2,h3,h4,hI.len]
 refine Qq _ ?_ ?_<;>intro h5
 ·simp [h0,h1,h2,h3,h4,h5,hI.idx,hI.load,Q5,hf]
  refine Qg8 _ ?_ ?_<;>intro h6<;>simp [h0,h1,h2,h3,h4,h6]
  ·rw [L8 h5 hj h6]
  ·refine ih (b.length-(i+1)) _ _ ⟨i+1,rfl,by omega,by simp [h0],by simp [h1],by simp [h2],by simp [h3],?_,rfl,?_⟩ (by omega)
   ·simp;rw [w64 (by omega) (by omega)]
   ·rw [List.take_succ_eq_append_getElem h5]
    intro x hx
    rcases List.mem_append.1 hx with hx|hx
    ·exact hj x hx
    ·rw [List.mem_singleton.1 hx];exact h6
 ·have:i=b.length:=by omega
  subst this
  simp [h0,h1,h2,h3]
  rw [List.take_length] at hj
  rw [placeP,if_neg]
  rw [List.any_eq_true]
  rintro ⟨x,hx,hp⟩
  rw [hj x hx] at hp;cases hp
end Go.Proofs.YtaldglgobgjeaaaGreat.V
set_option linter.all false
namespace Go.Proofs.YtaldglgobgjeaaaGreat.V
open Go Go.VM Go.Proofs
set_option maxRecDepth 10000
variable {frz:Nat} {H:Heap} {v:Value} {xs:List Int}
theorem Gp {p:Int→Bool} {l:List Int} (h:l.any p=false):l.filter (fun x=>!p x)=l:=by
 rw [List.filter_eq_self]
 intro x hx
 cases hp:p x with
 | false=>rfl
 | true=>rw [List.any_eq_true.2 ⟨x,hx,hp⟩] at h;cases h
theorem Kl {p:Int→Bool} {b:List Int} (h:b.any p=true):∃i:Nat,placeP p b=i∧i<b.length∧(∀x∈b.take i,p x=false)∧∀(hi:i<b.length),p b[i]=true:=by
 have hl:b.findIdx p<b.length:=by
  obtain ⟨x,hx,hp⟩:=List.any_eq_true.1 h
  exact List.findIdx_lt_length_of_exists ⟨x,hx,hp⟩
 refine ⟨b.findIdx p,by rw [placeP,if_pos h],hl,fun x hx=>?_,fun hi=>List.findIdx_getElem⟩
 obtain ⟨j,hj,rfl⟩:=List.mem_iff_getElem.1 hx
 rw [List.length_take] at hj
 rw [List.getElem_take]
 have:=List.not_of_lt_findIdx (p:=p) (xs:=b) (i:=j) (by omega)
 simpa using this
theorem Jq (v f:Value) (p:Int→Bool) (xs:List Int) (h:Ow Fl.int 3 H v xs) (hl:xs.length≤1073741824) (hf:∀i∈ids v,frz≤i)
 (hc:∀K,Chg H K (ids v)→∀F,∀x∈xs,vclos (vcall C F) f [.int .i64 x] K=some (.bool (p x),K)) :
 wp (vcall C frz 168 [v,f] H) (fun u H'=>Ow Fl.int 3 H' u (xs.filter fun x=>!p x)∧(∀i∈ids u,i∈ids v)∧Chg H H' (ids v)):=by
 rw [Qb (fn:=Tryz.f168) Tryz.func168 rfl (by kernel_rfl) rfl]
 have ix:=fun F=>Pe (frz:=F) v f p xs h.rd.isI hl (fun x hx=>hc H (Chg.refl _) _ x hx)
 simp [ix]
 by_cases g0:xs.any p=true
 rotate_left
 ·have g0':xs.any p=false:=by simpa using g0
  have e:placeP p xs=-1:=by rw [placeP,if_neg g0]
  simp [e]
  rw [Gp g0']
  exact ⟨h,Chg.refl _⟩
 obtain ⟨k0,e,hk0,hb,hat⟩:=Kl g0
 have e':¬((k0:Int)=-1):=by omega
 have w1:∀[Inhabited Unit],IntKind.i64.wrap ((k0:Int)+1)=((k0+1:Nat):Int):=by intro _;rw [w64 (by omega) (by omega)];omega
 have f0:(xs.take (k0+1)).filter (fun x=>!p x)=xs.take k0:=by
  rw [List.take_succ_eq_append_getElem hk0,List.filter_append,List.filter_eq_self.2 (fun x hx=>by rw [hb x hx];rfl)]
  simp [hat hk0]
 simp [e,e']
 refine Qh (fun n t H'=>∃(k j:Nat) (ys:List Int),n=xs.length-j∧j≤xs.length∧k<j∧t 0=v∧t 1=f∧t 5=.int .i64 k∧t 6=.int .i64 j∧ys.length=xs.length∧ys.take k=(xs.take j).filter (fun x=>!p x)∧(∀m,j≤m→G ys m=G xs m)∧
  Ow Fl.int 3 H' v ys∧Chg H H' (ids v)) ?_ (n:=xs.length-(k0+1))
  ⟨k0,k0+1,xs,rfl,by omega,by omega,by simp,by simp,by simp,by simp [w1],rfl,f0.symm,fun m hm=>rfl,h,Chg.refl _⟩
 rintro n t H' ⟨k,j,ys,rfl,hj,hk,t0,t1,t5,t6,hlen,htk,hG,o,ch⟩ ih
 have lz:=o.rd.len (P:=Tryz.prog) (ty:=26) (by simp)
 simp [t0,t1,t5,t6,lz,hlen]
 refine Qc ?_ ?_<;>intro g
 ·have hj':j<xs.length:=by omega
  have hjy:j<ys.length:=by omega
  have hkl:k<ys.length:=by omega
  have e3:∀[Inhabited Unit],IntKind.i64.wrap ((j:Int)+1)=((j+1:Nat):Int):=by intro _;rw [w64 (by omega) (by omega)];omega
  have e4:∀[Inhabited Unit],IntKind.i64.wrap ((k:Int)+1)=((k+1:Nat):Int):=by intro _;rw [w64 (by omega) (by omega)];omega
  have hGx:G xs j=xs[j]:=Wz hj'
  have cl:=fun F=>hc H' ch F (G xs j) (by rw [hGx];exact List.getElem_mem hj')
  have hts:(xs.take (j+1)).filter (fun x=>!p x)=(xs.take j).filter (fun x=>!p x)++(if p (G xs j)=true then [] else [G xs j]):=by
   rw [List.take_succ_eq_append_getElem hj',List.filter_append,hGx]
   cases hpj:p xs[j]<;>simp [hpj]
  generalize hX:G xs j=X at *
  simp [t0,t1,t5,t6,Qv o hjy,Qw o hjy,hG j (Nat.le_refl _),hX,cl]
  cases hp:p X with
  | true=>
   rw [if_pos hp] at hts
   simp [t0,t1,t5,t6]
   refine ih (xs.length-(j+1)) _ _ ⟨k,j+1,ys,rfl,by omega,by omega,by simp [t0],by simp [t1],by simp [t5],by simp [e3],hlen,by rw [hts,List.append_nil];exact htk,fun m hm=>hG m (by omega),o,ch⟩ (by omega)
  | false=>
   rw [if_neg (by rw [hp];simp)] at hts
   obtain ⟨H2,s2,o2,c2,l2⟩:=o.put1 (P:=Tryz.prog) (frz:=frz) rfl (et:=3) (ag:=false) (by simp) hkl (x:=.int .i64 X) (y:=X) rfl rfl rfl hf
   simp [t0,t1,t5,t6,Qv o hkl,s2]
   refine ih (xs.length-(j+1)) _ _ ⟨k+1,j+1,ys.set k X,rfl,by omega,by omega,by simp [t0],by simp [t1],by simp [e4],by simp [e3],by simp [hlen],?_,fun m hm=>?_,o2,ch.trans c2⟩ (by omega)
   ·rw [hts,← htk,List.take_succ_eq_append_getElem (by simpa using hkl),List.getElem_set_self]
    simp [List.take_set_of_le]
   ·have hmk:m≠k:=by omega
    have:G (ys.set k X) m=G ys m:=by simp [G,List.getD_eq_getElem?_getD,List.getElem?_set_ne (Ne.symm hmk)]
    rw [this];exact hG m (by omega)
 ·have hjl:j=xs.length:=by omega
  have hkl:k≤ys.length:=by omega
  have hn:0<ys.length:=by omega
  obtain ⟨y,hy⟩:=Qa5 o hn (l:=k) hkl
  obtain ⟨y1,_,_⟩:=hy H' ys o rfl
  obtain ⟨H2,zs,cl,zl,zt,oz2,c2⟩:=gx o hn hkl y1 hf
  obtain ⟨q,q1,q2,q3⟩:=oz2.slice (P:=Tryz.prog) (ty:=26) (lo:=none) (hi:=some (.int .i64 (k:Int))) (l:=0) (u:=k) (by simp) rfl rfl (Nat.zero_le _) (by omega)
  simp [t0,t1,t5,t6,y1,cl,q1]
  simp only [List.drop_zero,Nat.sub_zero,zt,htk,hjl,List.take_length] at q2
  exact ⟨q2,by rw [q3];exact fun i hi=>hi,ch.trans c2⟩
end Go.Proofs.YtaldglgobgjeaaaGreat.V
set_option linter.all false
namespace Go.Proofs.YtaldglgobgjeaaaGreat.V
open Go Go.VM Go.Proofs
set_option maxRecDepth 10000
variable {frz:Nat} {H:Heap}
def grF:Fl GrD:=⟨3,fun a=>[.int .i64 a.1,.int .i64 a.2.1,.int .i64 a.2.2],fun _=>rfl⟩
@[simp] theorem Qge:grF.n=3:=rfl
theorem Lf (a:GrD):grF.f a=[.int .i64 a.1,.int .i64 a.2.1,.int .i64 a.2.2]:=rfl
theorem gm (xs:List GrD):ones (cellsOf grF xs)=true:=by
 induction xs with
 | nil=>rfl
 | cons a l ih=>rw [Wa];simp [ih,Lf]
theorem Qhg {K:Heap} {e:TypeId} {v:Value} {u:List Bool} (o:Ow Fl.bool e K v u) {j:Nat} (hj:j<u.length):vload Tryz.prog K 4 (elp v j)=some (.bool (u.getD j false)):=by
 rw [o.rd.cell1 (P:=Tryz.prog) rfl (by simp) hj]
 simp [List.getD_eq_getElem?_getD,hj]
theorem gv {x:NetD} {a p:Nat} {u:List Bool}:((reqsN x a p).map Int.ofNat).filter (fun y=>!u.getD (y/2).toNat false)=(freeN x a p u).map Int.ofNat:=by
 rw [List.filter_map]
 unfold freeN
 congr 1
theorem Qb8 {x:NetD} {a p:Nat} {u:List Bool}:∀y∈(freeN x a p u).map Int.ofNat,inR 0 y 9:=fun y hy=>by
 obtain ⟨i,hi,rfl⟩:=List.mem_map.1 hy
 have:=(Np hi).1
 unfold inR;show (0:Int)≤(i:Int)∧(i:Int)≤9;omega
theorem jz {x:NetD} {a p:Nat} {u:List Bool}:((freeN x a p u).map Int.ofNat).length≤10:=by
 rw [List.length_map]
 have h1:=List.length_filter_le (fun i=>!u.getD (i/2) false) (reqsN x a p)
 have h2:=List.length_filter_le (fun i=>decide (reqN x a i p)) (List.range 10)
 rw [List.length_range] at h2
 unfold freeN;unfold reqsN at h1 ⊢;omega
theorem Qav {x:NetD} {a p:Nat} {u:List Bool} (h:0≤pickN x a p u):∃k:Nat,pickN x a p u=k∧k<10:=by
 have:=(Np (Ee h)).1
 exact ⟨(pickN x a p u).toNat,by omega,this⟩
theorem zm {K:Heap} {e:TypeId} {R:Nat} {u:List Bool} (o:Ow Fl.bool e K (.slice (some ⟨R,0,some 0⟩) 5 0) u) {j:Nat} (hj:j<5):vindexAddr Tryz.prog K 204 (.pointer (some ⟨R,0,some 0⟩)) (.int .i64 (j:Int))=some (elp (.slice (some ⟨R,0,some 0⟩) 5 0) j):=by
 have hl:=W5 o
 have hj':(j:Int)<5:=by omega
 simp only [VM.live] at hl
 unfold vindexAddr
 cases hh:VM.look K ⟨R,0,some 0⟩ with
 | none=>exact absurd hh hl
 | some r=>simp [elp,hj',hh]
theorem A5 {K:Heap} {e:TypeId} {R i:Nat} {u:List Bool} (o:Ow Fl.bool e K (.slice (some ⟨R,0,some 0⟩) 5 0) u) (hl:u.length=5) (hi:i<10) :
 vcall C frz 170 [.int .i64 (i:Int),.pointer (some ⟨R,0,some 0⟩)] K=some (.bool (u.getD (i/2) false),K):=by
 rw [Qb (fn:=Tryz.f170) Tryz.func170 rfl (by kernel_rfl) rfl]
 obtain ⟨q,hq⟩:∃q,q=i/2:=⟨_,rfl⟩
 rw [← hq]
 have e4:∀[Inhabited Unit],IntKind.i64.wrap ((i:Int)/2)=(q:Int):=by intro _;rw [w64 (by omega) (by omega)];omega
 have q1:=zm o (j:=q) (by omega)
 have q2:=Qhg o (j:=q) (by omega)
 simp [e4,q1,q2]
theorem yv {v:NetV} {x:NetD} {id a:Nat} {e:TypeId} {tail:List Value} (hr:H[id]? = some ⟨netCells v x++tail,0,e⟩) (o:dNet.Ow H v x) (hx:runOk x) (ha:(a:Int)<cnt x.1.1 x.1.2.1) :
 wp (vcall C frz 130 [.pointer (some ⟨id,0,some 0⟩),.int .i64 a] H) (fun r H'=>Ow grF 149 H' r (grN x a)∧(∀i∈ids r,H.length≤i)∧Chg H H' []):=by
 have ones:=Qn o
 have cr:=Qf x.1.1 x.1.2.1
 have hidl:=Qs hr
 rw [Qb (fn:=Tryz.f130) Tryz.func130 rfl (by kernel_rfl) rfl]
 have oB0:Ow Fl.bool 204 (H++[⟨[],0,149⟩,⟨[.bool false,.bool false,.bool false,.bool false,.bool false],0,204⟩]) (.slice (some ⟨H.length+1,0,some 0⟩) 5 0) (List.replicate 5 false):=Ow.new (D:=Fl.bool) (xs:=List.replicate 5 false) (k:=1) rfl rfl rfl rfl
 have oG0:Ow grF 149 (H++[⟨[],0,149⟩,⟨[.bool false,.bool false,.bool false,.bool false,.bool false],0,204⟩]) (.slice (some ⟨H.length,0,some 0⟩) 0 0) []:=Ow.new0 (D:=grF) (xs:=[]) rfl rfl rfl rfl
 have bp:bplaces Tryz.prog 204=some [(0,1),(1,1),(2,1),(3,1),(4,1)]:=by kernel_rfl
 simp [bp]
 refine Qh (fun n t H'=>∃(p:Nat) (r:Value),n=5-p∧p≤5∧t 0=.pointer (some ⟨id,0,some 0⟩)∧t 1=.int .i64 a∧t 5=r∧t 6=.pointer (some ⟨H.length+1,0,some 0⟩)∧t 7=.int .i64 p∧Chg H H' []∧
  Ow Fl.bool 204 H' (.slice (some ⟨H.length+1,0,some 0⟩) 5 0) (grTo x a p).2∧Ow grF 149 H' r (grTo x a p).1∧(∀j∈ids r,H.length≤j∧j≠H.length+1)) ?_ (n:=5)
  ⟨0,.slice (some ⟨H.length,0,some 0⟩) 0 0,rfl,by omega,by simp,by simp,by simp,by simp,by simp,Chg.app _,oB0,oG0,by simp⟩
 rintro n t H' ⟨p,r,rfl,hp,t0,t1,t5,t6,t7,ch,oB,oG,nG⟩ ih
 simp [t0,t1,t5,t6,t7]
 refine Qc ?_ ?_<;>intro g
 ·have hp':p<5:=by omega
  obtain ⟨l5,gat,gnd,gle⟩:=Vz x a p hp
  have gs:=Zs x a p
  unfold grStep at gs
  have r1:=Qa hr ch (by simp)
  have o1:=Dt.chg (T:=dNet) o ch (by simp)
  have hbl:H.length+1<H'.length:=oB.lt _ (by simp)
  generalize grTo x a p=st at *
  simp [t0,t1,t5,t6,t7]
  refine Qd (D2 r1 o1 hx ha hp') ?_
  rintro L H1 ⟨oL,nL,cL⟩
  have oB1:=oB.chg cL (by simp)
  have oG1:=oG.chg cL (by simp)
  have c1:=ch.trans cL
  simp [t0,t1,t5,t6,t7]
  have hrl:((reqsN x a p).map Int.ofNat).length≤10:=by
   rw [List.length_map]
   have h2:=List.length_filter_le (fun i=>decide (reqN x a i p)) (List.range 10)
   rw [List.length_range] at h2
   exact h2
  refine Qd (Jq L _ (fun y=>st.2.getD (y/2).toNat false) _ oL (by omega) (fun i hi=>by have:=nL i hi;have:=ch.1;omega) (fun K hK F y hy=>?_)) ?_
  ·obtain ⟨i,hi,rfl⟩:=List.mem_map.1 hy
   have hi10:i<10:=List.mem_range.1 (List.mem_filter.1 hi).1
   have:=A5 (frz:=F) (i:=i) (oB1.chg hK (fun j hj hh=>by have:=nL j hh;simp at hj;omega)) l5 hi10
   simp
   exact this
  rintro U H2 ⟨oU,nU,cU⟩
  have fm:((reqsN x a p).map Int.ofNat).filter (fun y=>!(fun y=>st.2.getD (y/2).toNat false) y)=(freeN x a p st.2).map Int.ofNat:=gv
  rw [fm] at oU
  have c2:=c1.trans' cU (fun i hi=>.inr (by have:=nL i hi;have:=ch.1;omega))
  have oB2:=oB1.chg cU (fun j hj hh=>by have:=nL j hh;simp at hj;omega)
  have lG:=oG.lt
  have oG2:=oG1.chg cU (fun j hj hh=>by have:=nL j hh;have:=lG j hj;omega)
  have r2:=Qa hr c2 (by simp)
  have o2:=Dt.chg (T:=dNet) o c2 (by simp)
  unfold netCells at r2
  simp only [List.cons_append,List.nil_append] at r2
  obtain ⟨z,hz⟩:∃z,z=5*a+p:=⟨_,rfl⟩
  have hzl:z<x.2.2.2.2.1.length:=by have:=hx.2.1.2.2.1;omega
  have e1:=@w6 (5*(a:Int)) (by omega)
  have e2:∀[Inhabited Unit],IntKind.i64.wrap (5*(a:Int)+(p:Int))=(z:Int):=by intro _;rw [w64 (by omega) (by omega)];omega
  have rd:=Rd.isI o2.2.2.2.2.1.1.rd
  have q1:=rd.idx (P:=Tryz.prog) (ty:=26) (e:=3) (by simp) (i:=(z:Int)) (by omega) (by omega)
  have q2:=rd.load (P:=Tryz.prog) (e:=3) (by simp) hzl
  simp only [Int.toNat_natCast] at q1 q2
  have hti:inR 0 (x.2.2.2.2.1.getD z 0) 9:=by
   have:x.2.2.2.2.1.getD z 0=x.2.2.2.2.1[z]:=by simp [List.getD_eq_getElem?_getD,hzl]
   rw [this];exact hx.2.2.2.2 _ (List.getElem_mem hzl)
  have ff:=fun F=>Ec (frz:=F) (H:=H2) U _ _ oU.rd.isI (by have:=jz (x:=x) (a:=a) (p:=p) (u:=st.2);omega) Qb8 hti
  have hpk:firstF (x.2.2.2.2.1.getD z 0) ((freeN x a p st.2).map Int.ofNat)=pickN x a p st.2:=by rw [hz];rfl
  rw [hpk] at ff
  generalize x.2.2.2.2.1.getD z 0=T at *
  simp [t0,t1,t5,t6,t7,VM.look,VM.vnil,r2,ones,e1,e2,q1,q2,ff]
  by_cases g2:0≤pickN x a p st.2
  rotate_left
  ·rw [if_neg g2] at gs
   simp [t0,t1,t5,t6,t7,g2]
   refine ih (5-(p+1)) _ _ ⟨p+1,r,rfl,by omega,by simp [t0],by simp [t1],by simp [t5],by simp [t6],?_,c2,by rw [gs];exact oB2,by rw [gs];exact oG2,nG⟩ (by omega)
   simp [t7];rw [w64 (by omega) (by omega)]
  rw [if_pos g2] at gs
  obtain ⟨k,hk,hk10⟩:=Qav g2
  rw [hk,Int.toNat_natCast] at gs
  obtain ⟨q,hq⟩:∃q,q=k/2:=⟨_,rfl⟩
  rw [← hq] at gs
  have e4:∀[Inhabited Unit],IntKind.i64.wrap ((k:Int)/2)=(q:Int):=by intro _;rw [w64 (by omega) (by omega)];omega
  have ai:=zm oB2 (j:=q) (by omega)
  obtain ⟨H3,s3,oB3,c3,l3⟩:=oB2.put1 (P:=Tryz.prog) (frz:=H.length) rfl (et:=4) (ag:=false) (by simp) (j:=q) (x:=.bool true) (y:=true) (by omega) rfl rfl rfl (fun i hi=>by simp at hi;omega)
  have c03:=c2.trans' c3 (fun i hi=>.inr (by simp at hi;omega))
  have oG3:=oG2.chg c3 (fun j hj hh=>(nG j hj).2 (by simpa using hh))
  have l03:=c03.1
  obtain ⟨r',H4,hap,oG4,c4,n4⟩:=oG3.push (P:=Tryz.prog) (frz:=H.length) (ty:=145) (a:=(a,p,k)) (by simp) rfl (by omega) (fun i hi=>(nG i hi).1)
  simp only [Lf] at hap
  have oB4:=oB3.chg c4 (fun j hj hh=>by simp at hj;exact (nG j hh).2 hj)
  have l2:=c2.1
  have l13:=ch.1
  have lcU:=cU.1
  have lcL:=cL.1
  simp [-Qp,-Qx,t0,t1,t5,t6,t7,hk,e4,ai,s3,hap]
  refine ih (5-(p+1)) _ _ ⟨p+1,r',rfl,by omega,by simp [t0],by simp [t1],by simp,by simp [t6],?_,c03.trans' c4 (fun i hi=>.inr (nG i hi).1),by rw [gs];exact oB4,by rw [gs];exact oG4,fun j hj=>?_⟩ (by omega)
  ·simp [t7];rw [w64 (by omega) (by omega)]
  ·rcases n4 j hj with h1|h1
   ·exact nG j h1
   ·omega
 ·have:p=5:=by omega
  subst this
  simp [t0,t1,t5,t6,t7]
  exact ⟨oG,fun i hi=>(nG i hi).1,ch⟩
end Go.Proofs.YtaldglgobgjeaaaGreat.V
