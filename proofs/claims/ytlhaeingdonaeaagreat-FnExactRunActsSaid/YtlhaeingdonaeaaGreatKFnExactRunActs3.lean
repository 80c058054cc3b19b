/- Texts of a proof, joined. -/
import Derived.Test.YtlhaeingdonaeaaGreatKM0
import Derived.Test.YtlhaeingdonaeaaGreatKM1
import Derived.Test.YtlhaeingdonaeaaGreatKFnExactRunActs0
import Derived.Test.YtlhaeingdonaeaaGreatKFnExactRunActs1
import Derived.Test.YtlhaeingdonaeaaGreatKFnExactRunActs2
set_option linter.all false
namespace Go.Proofs.YtlhaeingdonaeaaGreat.V
open Go Go.VM Go.Proofs
set_option maxRecDepth 10000
variable {frz:Nat} {H:Qd}
def Sc (xs ys:List Int):Prop:=xs=ys.take xs.length
instance (xs ys:List Int):Decidable (Sc xs ys):=inferInstanceAs (Decidable (_=_))
theorem B8 (a b:Value) (xs ys:List Int) (ha:Rd Fl.int H a xs) (hb:Ow Fl.int 3 H b ys) (hl:xs.length≤1073741824) :
 Qh C frz 137 [a,b] H=some (.bool (decide (Sc xs ys)),H):=by
 rw [Qb (fn:=Tryz.f137) Tryz.func137 rfl (by kernel_rfl) rfl]
 have la:=ha.len (P:=Tryz.prog) (ty:=24) (by simp)
 have lb:=hb.rd.len (P:=Tryz.prog) (ty:=24) (by simp)
 by_cases g:xs.length≤ys.length
 ·obtain ⟨s,hs,os,_⟩:=hb.slice (P:=Tryz.prog) (ty:=24) (by simp) (lo:=none) (hi:=some (.int .i64 (xs.length:Int))) (l:=0) (u:=xs.length) rfl rfl (by omega) g
  simp only [List.drop_zero,Nat.sub_zero] at os
  have eq:=fun F=>Qe7 (frz:=F) (H:=H) a s xs (ys.take xs.length) ha os.rd hl
  simp [la,lb,g,hs,eq]
  exact Iff.rfl
 ·have hn:¬Sc xs ys:=fun k=>by have:=congrArg List.length k;simp at this;omega
  simp [la,lb,g,hn]
theorem D0 (a b:Value) (xs ys:List Int) (ha:Rd Fl.int H a xs) (hb:Rd Fl.int H b ys) (hl:xs.length≤1073741824) :
 Qh C frz 107 [a,b] H=some (.bool (decide (Sc xs ys)),H):=by
 refine wp.exact (by simp) ?_ rfl
 rw [Qb (fn:=Tryz.f107) Tryz.func107 rfl (by kernel_rfl) rfl]
 have la:=ha.len (P:=Tryz.prog) (ty:=24) (by simp)
 have lb:=hb.len (P:=Tryz.prog) (ty:=24) (by simp)
 generalize hY:decide (Sc xs ys)=Y
 have no:¬Sc xs ys→Y=false:=fun hh=>by rw [← hY];exact decide_eq_false hh
 simp
 refine Qw (fun n t H'=>∃i:Nat,n=xs.length-i∧i≤xs.length∧t 0=a∧t 1=b∧t 5=.int .i64 i∧H'=H∧i≤ys.length∧xs.take i=ys.take i) ?_ (n:=xs.length)
  ⟨0,rfl,by omega,by simp,by simp,by simp,rfl,by omega,by simp⟩
 rintro n t H' ⟨i,rfl,hi,t0,t1,t5,rfl,hy,hk⟩ ih
 simp [t0,t1,t5,la]
 refine Qm ?_ ?_<;>intro g
 ·have hi':i<xs.length:=by omega
  by_cases g1:ys.length≤i
  ·have hn:¬Sc xs ys:=fun k=>by have:=congrArg List.length k;simp at this;omega
   simp
   rw [Qv (h:=by kernel_rfl)]
   simp [t0,t1,t5,la,lb,g1,no hn]
  ·have hi2:i<ys.length:=by omega
   have q1:=ha.idx (P:=Tryz.prog) (ty:=24) (e:=3) (by simp) (i:=(i:Int)) (by omega) (by omega)
   have q2:=ha.isI.load (P:=Tryz.prog) (e:=3) (by simp) hi'
   have p1:=hb.idx (P:=Tryz.prog) (ty:=24) (e:=3) (by simp) (i:=(i:Int)) (by omega) (by omega)
   have p2:=hb.isI.load (P:=Tryz.prog) (e:=3) (by simp) hi2
   simp only [Int.toNat_natCast,Vc hi',Vc hi2,Fl.int_n,Nat.mul_one] at q1 q2 p1 p2
   have g1':¬(ys.length:Int)≤i:=by omega
   simp
   rw [Qv (h:=by kernel_rfl)]
   simp [t0,t1,t5,la,lb,g1,g1',q1,q2,p1,p2]
   refine Qm ?_ ?_<;>intro g2
   ·simp [t0,t1,t5]
    refine ih (xs.length-(i+1)) _ _ ⟨i+1,rfl,by omega,by simp [t0],by simp [t1],?_,rfl,by omega,by rw [List.take_succ_eq_append_getElem hi',List.take_succ_eq_append_getElem hi2,hk,g2]⟩ (by omega)
    simp;rw [Q0 (by omega) (by omega)]
   ·have hn:¬Sc xs ys:=fun k=>g2 (by
     unfold Sc at k
     have h1:=congrArg (fun l=>l[i]?) k
     simp [List.getElem?_take,hi',hi2] at h1
     exact h1)
    simp [t0,t1,t5,no hn]
 ·have:i=xs.length:=by omega
  subst this
  rw [List.take_length] at hk
  simp [t0,t1,t5,la]
  rw [← hY];exact (decide_eq_true (p:=Sc xs ys) hk)
theorem J8 {list:List Yy} {j:Nat} (h:j<list.length) {q:Yy→Prop} (h1:∀p∈list.take j,¬q p) (h2:¬q list[j]):∀p∈list.take (j+1),¬q p:=fun p hp=>by
 rcases Ue h hp with hp|rfl
 ·exact h1 p hp
 ·exact h2
theorem Qf2 (u v:Value) (all:List Int) (list:List Yy) (a b c:Int) (hA:Rd Fl.int H u all) (hI:Rd U7 H v list) (hla:all.length≤1073741824) (hl:list.length≤1073741824) :
 wp (Qh C frz 108 [u,v,.int .i64 a,.int .i64 b,.int .i64 c] H) (Se H (among all list a b c)):=by
 rw [Qb (fn:=Tryz.f108) Tryz.func108 rfl (by kernel_rfl) rfl]
 simp
 refine Qw (fun n t H'=>∃(i:Nat) (out:Value),n=all.length-i∧i≤all.length∧t 0=u∧t 1=v∧t 2=.int .i64 a∧t 3=.int .i64 b∧t 4=.int .i64 c∧t 11=out∧t 12=.int .i64 i∧Se H (among (all.take i) list a b c) out H') ?_ (n:=all.length)
  ⟨0,.slice (some ⟨H.length,0,some 0⟩) 0 0,rfl,by omega,by simp,by simp,by simp,by simp,by simp,by simp,by simp,Ow.new0 (D:=Fl.int) (xs:=[]) rfl rfl rfl rfl,by simp,Qp.app _⟩
 rintro n t H' ⟨i,out,rfl,hi,t0,t1,t2,t3,t4,t11,t12,o,no,ch⟩ ih
 have ra:=hA.chg ch (by simp)
 simp [t0,t1,t2,t3,t4,t11,t12,ra.len (P:=Tryz.prog) (ty:=24) (by simp)]
 refine Qm ?_ ?_<;>intro g
 ·have hi':i<all.length:=by omega
  have hal:=Nw (all.take i) list a b c
  have htl:(all.take i).length≤i:=by simp;omega
  have hsu:among (all.take (i+1)) list a b c=among (all.take i) list a b c++(if Mq list all[i] a b c then [all[i]] else []):=by
   unfold among;rw [List.take_succ_eq_append_getElem hi',List.filter_append];congr 1;by_cases h:Mq list all[i] a b c<;>simp [h]
  simp [t0,t1,t2,t3,t4,t11,t12]
  refine Qw (fun n t G=>∃(j:Nat),n=list.length-j∧j≤list.length∧t 0=u∧t 1=v∧t 2=.int .i64 a∧t 3=.int .i64 b∧t 4=.int .i64 c∧t 11=out∧t 12=.int .i64 i∧t 13=.int .i64 j∧Se H (among (all.take i) list a b c) out G∧∀p∈list.take j,¬(p.1=all[i]∧Uk a b c p)) ?_ (n:=list.length)
   ⟨0,rfl,by omega,by simp [t0],by simp [t1],by simp [t2],by simp [t3],by simp [t4],by simp [t11],by simp [t12],by simp,⟨o,no,ch⟩,by simp⟩
  clear o ch t0 t1 t2 t3 t4 t11 t12 ra no
  rintro n s G ⟨j,rfl,hj,t0,t1,t2,t3,t4,t11,t12,t13,⟨o,no,ch⟩,hk⟩ ih2
  have rd:=hI.chg ch (by simp)
  simp [t0,t1,t2,t3,t4,t11,t12,t13,rd.len (P:=Tryz.prog) (ty:=49) (by simp)]
  refine Qm ?_ ?_<;>intro g0
  ·have hj':j<list.length:=by omega
   have ra:=hA.chg ch (by simp)
   have p1:=fun L=>(ra.app (L:=L)).isI.idx (P:=Tryz.prog) (ty:=24) (e:=3) (by simp) (i:=(i:Int)) (by omega) (by omega)
   have p2:=fun L=>(ra.app (L:=L)).isI.load (P:=Tryz.prog) (e:=3) (by simp) hi'
   have q1:=rd.idx (P:=Tryz.prog) (ty:=49) (e:=104) (by simp) (i:=(j:Int)) (by omega) (by omega)
   have q2:=rd.load (P:=Tryz.prog) (e:=104) (by simp) hj'
   simp only [Int.toNat_natCast,S4,Vc hi'] at q1 q2 p1 p2
   have hF:H.length≤G.length:=ch.1
   have hext:=J8 (q:=fun p=>p.1=all[i]∧Uk a b c p) hj' hk
   have hmem:=List.getElem_mem hj'
   obtain ⟨p,hp⟩:∃p,p=list[j]:=⟨_,rfl⟩
   rw [← hp] at q2 hext hmem
   simp [t0,t1,t2,t3,t4,t11,t12,t13,q1,q2,Zj,hF,VM.look]
   rw [Qv (h:=by kernel_rfl)]
   simp [t0,t1,t2,t3,t4,t11,t12,t13,p1,p2,Zj,hF,VM.look]
   by_cases g1:p.1=all[i]
   rotate_left
   ·simp [t0,t1,t2,t3,t4,t11,t12,t13,g1]
    refine ih2 (list.length-(j+1)) _ _ ⟨j+1,rfl,by omega,by simp [t0],by simp [t1],by simp [t2],by simp [t3],by simp [t4],by simp [t11],by simp [t12],?_,⟨o.app,no,ch.trans (Qp.app _)⟩,hext (fun k=>g1 k.1)⟩ (by omega)
    simp;rw [Q0 (by omega) (by omega)]
   simp [t0,t1,t2,t3,t4,t11,t12,t13,VM.look,g1]
   by_cases g2:p.2.1=a
   rotate_left
   ·simp [t0,t1,t2,t3,t4,t11,t12,t13,g1,g2]
    refine ih2 (list.length-(j+1)) _ _ ⟨j+1,rfl,by omega,by simp [t0],by simp [t1],by simp [t2],by simp [t3],by simp [t4],by simp [t11],by simp [t12],?_,⟨o.app,no,ch.trans (Qp.app _)⟩,hext (fun k=>g2 k.2.1)⟩ (by omega)
    simp;rw [Q0 (by omega) (by omega)]
   simp [t0,t1,t2,t3,t4,t11,t12,t13,VM.look,g1,g2]
   by_cases g3:p.2.2.1=b
   rotate_left
   ·simp [t0,t1,t2,t3,t4,t11,t12,t13,g1,g2,g3]
    refine ih2 (list.length-(j+1)) _ _ ⟨j+1,rfl,by omega,by simp [t0],by simp [t1],by simp [t2],by simp [t3],by simp [t4],by simp [t11],by simp [t12],?_,⟨o.app,no,ch.trans (Qp.app _)⟩,hext (fun k=>g3 k.2.2.1)⟩ (by omega)
    simp;rw [Q0 (by omega) (by omega)]
   simp [t0,t1,t2,t3,t4,t11,t12,t13,VM.look,g1,g2,g3]
   by_cases g4:p.2.2.2.1=c
   rotate_left
   ·simp [t0,t1,t2,t3,t4,t11,t12,t13,g1,g2,g3,g4]
    refine ih2 (list.length-(j+1)) _ _ ⟨j+1,rfl,by omega,by simp [t0],by simp [t1],by simp [t2],by simp [t3],by simp [t4],by simp [t11],by simp [t12],?_,⟨o.app,no,ch.trans (Qp.app _)⟩,hext (fun k=>g4 k.2.2.2)⟩ (by omega)
    simp;rw [Q0 (by omega) (by omega)]
   simp [t0,t1,t2,t3,t4,t11,t12,t13,VM.look,g1,g2,g3,g4]
   have hS:Mq list all[i] a b c:=⟨p,hmem,g1,g2,g3,g4⟩
   obtain ⟨r',H2,hap,o2,c2,n2⟩:=(o.app (L:=[⟨[.int .i64 all[i],.int .i64 a,.int .i64 b,.int .i64 c,.int .i64 p.2.2.2.2],0,104⟩])).push (P:=Tryz.prog) (frz:=H.length) (ty:=24) (a:=all[i]) (by simp) rfl (by omega) no
   simp only [Fl.int_f,List.append_assoc,List.cons_append,List.nil_append,List.length_append,List.length_cons,List.length_nil] at hap
   simp [t0,t1,t2,t3,t4,t11,t12,t13,p1,p2,hap]
   refine ih (all.length-(i+1)) _ _ ⟨i+1,r',rfl,by omega,by simp [t0],by simp [t1],by simp [t2],by simp [t3],by simp [t4],by simp,?_,by rw [hsu,if_pos hS];exact o2,fun j hj=>?_,(ch.trans (Qp.app _)).trans' c2 (fun j hj=>.inr (no j hj))⟩ (by omega)
   ·simp [t12];rw [Q0 (by omega) (by omega)]
   ·rcases n2 j hj with h1|h1
    ·exact no j h1
    ·simp at h1;omega
  ·have:j=list.length:=by omega
   subst this
   rw [List.take_length] at hk
   have hno:¬Mq list all[i] a b c:=fun ⟨p,h1,h2⟩=>hk p h1 h2
   simp [t0,t1,t2,t3,t4,t11,t12,t13]
   refine ih (all.length-(i+1)) _ _ ⟨i+1,out,rfl,by omega,by simp [t0],by simp [t1],by simp [t2],by simp [t3],by simp [t4],by simp [t11],?_,by rw [hsu,if_neg hno,List.append_nil];exact o,no,ch⟩ (by omega)
   simp;rw [Q0 (by omega) (by omega)]
 ·have:i=all.length:=by omega
  subst this
  rw [List.take_length] at o
  simp [t0,t1,t2,t3,t4,t11,t12,ra.len (P:=Tryz.prog) (ty:=24) (by simp)]
  exact ⟨o,no,ch⟩
theorem Mh {α:Type} (p:α→Bool):∀l:List α,(l.dropWhile p).length≤l.length
 | []=>by simp
 | a::l=>by
  rw [List.dropWhile_cons];split;· have:=Mh p l;simp;omega
  ·simp
theorem Qgi (l:List Q9):(Oy l).length≤l.length:=by unfold Oy;rw [List.length_reverse];have:=Mh (fun f:Q9=>!f.2.2.2.2) l.reverse;rw [List.length_reverse] at this;exact this
theorem xc (l:List Q9):(Vu l).length≤l.length:=by
 unfold Vu;split
 ·simp
 ·exact (A4 l l.length).2
theorem Dg (arr:X9) (node:Nat) (c:Int):(Ut arr node c).length≤(arr.getD node []).length:=by
 unfold Ut
 exact Nat.le_trans (xc _) (Nat.le_trans (Qgi _) (List.length_filter_le _ _))
def Ur (arr:X9) (list:List Yy) (fr to:Nat) (c:Int):Prop:=Sc (among (Ut arr to c) list fr to c) (Zb list fr to c)
instance (arr:X9) (list:List Yy) (fr to:Nat) (c:Int):Decidable (Ur arr list fr to c):=inferInstanceAs (Decidable (Sc _ _))
def Rq (x:Qu) (list:List Yy):Prop:=W9 x∧∀to,to<x.2.2.2.2.2.2.1.length→∀c:Nat,c<2→∀fr,fr<x.2.2.2.2.2.2.1.length→Ur x.2.2.2.2.2.2.1 list fr to c
instance (x:Qu) (list:List Yy):Decidable (Rq x list):=inferInstanceAs (Decidable (_∧_))
theorem qp {v:Wo} {x:Qu} {u:Value} {list:List Yy} (o:Qe.Ow H v x) (hI:Rd U7 H u list) (hl:list.length≤1073741824):Qh C frz 78 [Qe.val v x,u] H=some (.bool (decide (Rq x list)),H):=by
 have ones:=Qr o
 have nk:=fun F L=>Gh (frz:=F) (H:=H++L) (v:=v) (x:=x) (Dt.app (T:=Qe) o)
 simp only [Qk] at nk ⊢
 refine wp.exact (by simp) ?_ rfl
 rw [Qb (fn:=Tryz.f78) Tryz.func78 rfl (by kernel_rfl) rfl]
 generalize hY:decide (Rq x list)=Y
 have no:¬Rq x list→Y=false:=fun hh=>by rw [← hY];exact decide_eq_false hh
 simp [ones,nk]
 by_cases g0:W9 x
 rotate_left
 ·simp [g0,no (fun k=>g0 k.1)]
 simp [g0,ones]
 obtain ⟨G,hG⟩:∃G,G=H++[⟨[.int .i64 x.1.1,.int .i64 x.1.2.1,v.1,v.2.1.1,v.2.1.2,v.2.2.1.1,v.2.2.2.1,v.2.2.2.2.1,v.2.2.2.2.2.1.1,v.2.2.2.2.2.2.1.1,.int .i64 x.2.2.2.2.2.2.2],0,48⟩]:=⟨_,rfl⟩
 rw [← hG]
 have b0:G[H.length]? = some ⟨[.int .i64 x.1.1,.int .i64 x.1.2.1,v.1,v.2.1.1,v.2.1.2,v.2.2.1.1,v.2.2.2.1,v.2.2.2.2.1,v.2.2.2.2.2.1.1,v.2.2.2.2.2.2.1.1,.int .i64 x.2.2.2.2.2.2.2],0,48⟩:=by rw [hG];simp
 have hGl:H.length<G.length:=by rw [hG];simp
 have h9:Qt.Ow G v.2.2.2.2.2.2.1 x.2.2.2.2.2.2.1:=by rw [hG];exact Dt.app (T:=Qt) o.2.2.2.2.2.2.1
 have hI':Rd U7 G u list:=by rw [hG];exact hI.app
 obtain ⟨arr,harr⟩:∃a,a=x.2.2.2.2.2.2.1:=⟨_,rfl⟩
 rw [← harr] at h9
 have hkeep:(∀to,to<arr.length→∀c:Nat,c<2→∀fr,fr<arr.length→Ur arr list fr to c)→Y=true:=fun k=>by rw [← hY,decide_eq_true];exact ⟨g0,by rw [← harr];exact k⟩
 have hfail:∀to,to<arr.length→∀c:Nat,c<2→∀fr,fr<arr.length→¬Ur arr list fr to c→Y=false:=fun to h1 c h2 fr h3 h4=>no (fun k=>h4 (by have:=k.2;rw [← harr] at this;exact this to h1 c h2 fr h3))
 have hal:=h9.2.1
 have l9:=h9.1.1.rd.len (P:=Tryz.prog) (ty:=46) (by simp)
 rw [h9.1.2.1] at l9
 clear hG hY no
 simp [b0,VM.look,l9]
 refine Qw (fun n t G1=>∃i:Nat,n=arr.length-i∧i≤arr.length∧t 1=u∧t 2=.pointer (some ⟨H.length,0,some 0⟩)∧t 15=.int .i64 arr.length∧t 16=.int .i64 i∧Qp G G1 []∧∀to,to<i→∀c:Nat,c<2→∀fr,fr<arr.length→Ur arr list fr to c) ?_ (n:=arr.length)
  ⟨0,rfl,by omega,by simp,by simp,by simp,by simp,Qp.refl _,fun _ h=>absurd h (by omega)⟩
 rintro n t G1 ⟨i,rfl,hi,t1,t2,t15,t16,ch,hk⟩ ih
 simp [t1,t2,t15,t16]
 refine Qm ?_ ?_<;>intro g
 rotate_left
 ·have:i=arr.length:=by omega
  subst this
  simp [t1,t2,t15,t16]
  exact hkeep hk
 have hi':i<arr.length:=by omega
 simp [t1,t2,t15,t16]
 refine Qw (fun n t G1=>∃k:Nat,n=2-k∧k≤2∧t 1=u∧t 2=.pointer (some ⟨H.length,0,some 0⟩)∧t 5=.int .i64 i∧t 15=.int .i64 arr.length∧t 16=.int .i64 i∧t 19=.int .i64 k∧Qp G G1 []∧∀c:Nat,c<k→∀fr,fr<arr.length→Ur arr list fr i c) ?_ (n:=2)
  ⟨0,rfl,by omega,by simp [t1],by simp [t2],by simp,by simp [t15],by simp [t16],by simp,ch,fun _ h=>absurd h (by omega)⟩
 clear ch t1 t2 t15 t16
 rintro n t G1 ⟨k,rfl,hk2,t1,t2,t5,t15,t16,t19,ch,hc⟩ ih2
 simp [t1,t2,t5,t15,t16,t19]
 refine Qm ?_ ?_<;>intro g2
 rotate_left
 ·have:k=2:=by omega
  subst this
  simp [t1,t2,t5,t15,t16,t19]
  refine ih (arr.length-(i+1)) _ _ ⟨i+1,rfl,by omega,by simp [t1],by simp [t2],by simp [t15],?_,ch,fun to h=>?_⟩ (by omega)
  ·simp;rw [Q0 (by omega) (by omega)]
  ·rcases Nat.lt_succ_iff_lt_or_eq.1 h with h|rfl
   ·exact hk to h
   ·exact hc
 have b1:=Qa b0 ch (by simp)
 have h91:=Dt.chg (T:=Qt) h9 ch (by simp)
 have hm:=h91.2.2 _ (List.getElem_mem hi')
 have hg:arr.getD i []=arr[i]:=by simp [List.getD_eq_getElem?_getD,hi']
 simp [t1,t2,t5,t15,t16,t19]
 refine Ql (Qdo b1 h91 hi') ?_
 rintro _ G2 ⟨s,ok,rfl,os,ns,c2⟩
 have b2:=Qa b1 c2 (by simp)
 have h92:=Dt.chg (T:=Qt) h91 c2 (by simp)
 have l92:=h92.1.1.rd.len (P:=Tryz.prog) (ty:=46) (by simp)
 rw [h92.1.2.1] at l92
 have Ql5:=Dg arr i k
 rw [hg] at Ql5
 have hb2:(Ut arr i k).length≤67108864:=by omega
 simp [t1,t2,t5,t15,t16,t19,b2,VM.look,l92]
 have ch2:Qp G G2 []:=ch.trans c2
 refine Qw (fun n t G3=>∃j:Nat,n=arr.length-j∧j≤arr.length∧t 1=u∧t 2=.pointer (some ⟨H.length,0,some 0⟩)∧t 5=.int .i64 i∧t 6=.int .i64 k∧t 7=s∧t 15=.int .i64 arr.length∧t 16=.int .i64 i∧t 19=.int .i64 k∧t 30=.int .i64 arr.length∧t 31=.int .i64 j∧Qp G2 G3 []∧∀fr,fr<j→Ur arr list fr i k) ?_ (n:=arr.length)
  ⟨0,rfl,by omega,by simp [t1],by simp [t2],by simp [t5],by simp,by simp,by simp [t15],by simp [t16],by simp [t19],by simp,by simp,Qp.refl _,fun _ h=>absurd h (by omega)⟩
 clear t1 t2 t5 t15 t16 t19
 rintro n t G3 ⟨j,rfl,hj,t1,t2,t5,t6,t7,t15,t16,t19,t30,t31,c3,hf⟩ ih3
 simp [t1,t2,t5,t6,t7,t15,t16,t19,t30,t31]
 refine Qm ?_ ?_<;>intro g3
 rotate_left
 ·have:j=arr.length:=by omega
  subst this
  simp [t1,t2,t5,t6,t7,t15,t16,t19,t30,t31]
  refine ih2 (2-(k+1)) _ _ ⟨k+1,rfl,by omega,by simp [t1],by simp [t2],by simp [t5],by simp [t15],by simp [t16],?_,ch2.trans c3,fun c h=>?_⟩ (by omega)
  ·simp;rw [Q0 (by omega) (by omega)]
  ·rcases Nat.lt_succ_iff_lt_or_eq.1 h with h|rfl
   ·exact hc c h
   ·exact hf
 have hj':j<arr.length:=by omega
 have os3:=os.chg c3 (by simp)
 have hI3:Rd U7 G3 u list:=hI'.chg (ch2.trans c3) (by simp)
 simp [t1,t2,t5,t6,t7,t15,t16,t19,t30,t31]
 refine Ql (jx s u _ list j i k os3.rd hI3 (by omega) hl) ?_
 rintro r4 G4 ⟨o4,n4,c4⟩
 have hI4:=hI3.chg c4 (by simp)
 simp [t1,t2,t5,t6,t7,t15,t16,t19,t30,t31]
 refine Ql (vq u list j i k hI4 hl) ?_
 rintro r5 G5 ⟨o5,n5,c5⟩
 have o45:=o4.chg c5 (by simp)
 have Q03:=Nw (Ut arr i k) list j i k
 have ip:=fun F=>B8 (frz:=F) (H:=G5) r4 r5 _ _ o45.rd o5 (by omega)
 simp [t1,t2,t5,t6,t7,t15,t16,t19,t30,t31,ip]
 by_cases g5:Ur arr list j i k
 ·have g5':Sc (among (Ut arr i k) list j i k) (Zb list j i k):=g5
  simp [t1,t2,t5,t6,t7,t15,t16,t19,t30,t31,g5']
  refine ih3 (arr.length-(j+1)) _ _ ⟨j+1,rfl,by omega,by simp [t1],by simp [t2],by simp [t5],by simp [t6],by simp [t7],by simp [t15],by simp [t16],by simp [t19],by simp [t30],?_,(c3.trans c4).trans c5,fun fr h=>?_⟩ (by omega)
  ·simp;rw [Q0 (by omega) (by omega)]
  ·rcases Nat.lt_succ_iff_lt_or_eq.1 h with h|rfl
   ·exact hf fr h
   ·exact g5
 ·have g5':¬Sc (among (Ut arr i k) list j i k) (Zb list j i k):=g5
  simp [t1,t2,t5,t6,t7,t15,t16,t19,t30,t31,g5']
  exact hfail i hi' k (by omega) j hj' g5
theorem D5 {v:Wo} {x:Qu} {u:Value} {list:List Yy} (o:Qe.Ow H v x) (hI:Rd U7 H u list) (hl:list.length≤1073741824):Qh C frz 59 [Qe.val v x,u] H=some (.bool (decide (Rq x list)),H):=by
 have ones:=Qr o
 have nk:=fun F L=>T1 (frz:=F) (H:=H++L) (v:=v) (x:=x) (Dt.app (T:=Qe) o)
 simp only [Qk] at nk ⊢
 refine wp.exact (by simp) ?_ rfl
 rw [Qb (fn:=Tryz.f59) Tryz.func59 rfl (by kernel_rfl) rfl]
 generalize hY:decide (Rq x list)=Y
 have no:¬Rq x list→Y=false:=fun hh=>by rw [← hY];exact decide_eq_false hh
 simp [ones,nk]
 by_cases g0:W9 x
 rotate_left
 ·simp [g0,no (fun k=>g0 k.1)]
 have hcnt:=g0.2.1.2.2.2.2
 have hcr:=Qz x.1.1 x.1.2.1
 simp [g0,ones,W8]
 obtain ⟨G,hG⟩:∃G,G=H++[⟨[.int .i64 x.1.1,.int .i64 x.1.2.1,v.1,v.2.1.1,v.2.1.2,v.2.2.1.1,v.2.2.2.1,v.2.2.2.2.1,v.2.2.2.2.2.1.1,v.2.2.2.2.2.2.1.1,.int .i64 x.2.2.2.2.2.2.2],0,48⟩]:=⟨_,rfl⟩
 rw [← hG]
 have b0:G[H.length]? = some ⟨[.int .i64 x.1.1,.int .i64 x.1.2.1,v.1,v.2.1.1,v.2.1.2,v.2.2.1.1,v.2.2.2.1,v.2.2.2.2.1,v.2.2.2.2.2.1.1,v.2.2.2.2.2.2.1.1,.int .i64 x.2.2.2.2.2.2.2],0,48⟩:=by rw [hG];simp
 have oG:Qe.Ow G v x:=by rw [hG];exact Dt.app (T:=Qe) o
 have hI':Rd U7 G u list:=by rw [hG];exact hI.app
 have Qj7:=fun F G' c i (hc:Qp G G' []) (hi:i<x.2.2.2.2.2.2.1.length)=>kw (frz:=F) (H:=G') (k:=c) (Dt.chg (T:=Qe) oG hc (by simp)) hi
 have hb9:=oG.2.2.2.2.2.2.1.2.2
 simp only [Qk] at Qj7
 obtain ⟨arr,harr⟩:∃a,a=x.2.2.2.2.2.2.1:=⟨_,rfl⟩
 rw [← harr] at Qj7 hcnt hb9
 rw [← hcnt]
 rw [← hcnt] at hcr
 have hkeep:(∀to,to<arr.length→∀c:Nat,c<2→∀fr,fr<arr.length→Ur arr list fr to c)→Y=true:=fun k=>by rw [← hY,decide_eq_true];exact ⟨g0,by rw [← harr];exact k⟩
 have hfail:∀to,to<arr.length→∀c:Nat,c<2→∀fr,fr<arr.length→¬Ur arr list fr to c→Y=false:=fun to h1 c h2 fr h3 h4=>no (fun k=>h4 (by have:=k.2;rw [← harr] at this;exact this to h1 c h2 fr h3))
 clear hG hY no
 refine Qw (fun n t G1=>∃i:Nat,n=2*arr.length-i∧i≤2*arr.length∧t 1=u∧t 2=.pointer (some ⟨H.length,0,some 0⟩)∧t 5=.int .i64 arr.length∧t 6=.int .i64 i∧Qp G G1 []∧∀m,m<i→∀fr,fr<arr.length→Ur arr list fr (m/2) ((m%2:Nat):Int)) ?_ (n:=2*arr.length)
  ⟨0,rfl,by omega,by simp,by simp,by simp,by simp,Qp.refl _,fun _ h=>absurd h (by omega)⟩
 rintro n t G1 ⟨i,rfl,hi,t1,t2,t5,t6,ch,hk⟩ ih
 have e0:=@w6 (2*(arr.length:Int)) (by omega)
 simp [t1,t2,t5,t6,e0]
 refine Qm ?_ ?_<;>intro g
 rotate_left
 ·simp [t1,t2,t5,t6]
  refine hkeep fun to h1 c h2 fr h3=>?_
  have:=hk (to*2+c) (by omega) fr h3
  rw [show (to*2+c)/2=to by omega,show (to*2+c)%2=c by omega] at this
  exact this
 obtain ⟨q,hq⟩:∃q,q=i/2:=⟨_,rfl⟩
 obtain ⟨r,hr⟩:∃r,r=i%2:=⟨_,rfl⟩
 have e1:∀[Inhabited Unit],IntKind.i64.wrap ((i:Int)/2)=(q:Int):=by intro _;rw [Q0 (by omega) (by omega)];omega
 have e2:(i:Int).tmod 2=(r:Int):=by rw [Mj,hr];omega
 have hi':q<arr.length:=by omega
 have hr2:r<2:=by omega
 have b1:=Qa b0 ch (by simp)
 have hm:=hb9 _ (List.getElem_mem hi')
 have hg:arr.getD q []=arr[q]:=by simp [List.getD_eq_getElem?_getD,hi']
 simp [t1,t2,t5,t6,e1,e2,VM.look,b1,ones]
 refine Ql (Qj7 _ _ _ _ ch hi') ?_
 rintro _ G2 ⟨s,ok,rfl,os,ns,c2⟩
 have b2:=Qa b1 c2 (by simp)
 have Ql5:=Dg arr q r
 rw [hg] at Ql5
 have hb2:(Ut arr q r).length≤67108864:=by omega
 have ch2:Qp G G2 []:=ch.trans c2
 have emp:Ut arr q r=[]→∀fr,Ur arr list fr q r:=fun e fr=>by unfold Ur;rw [e];rfl
 simp [t1,t2,t5,t6]
 refine Qw (fun n t G3=>∃j:Nat,n=arr.length-j∧j≤arr.length∧t 1=u∧t 2=.pointer (some ⟨H.length,0,some 0⟩)∧t 5=.int .i64 arr.length∧t 6=.int .i64 i∧t 7=s∧t 9=.int .i64 j∧Qp G2 G3 []∧∀fr,fr<j→Ur arr list fr q r) ?_ (n:=arr.length)
  ⟨0,rfl,by omega,by simp [t1],by simp [t2],by simp [t5],by simp [t6],by simp,by simp,Qp.refl _,fun _ h=>absurd h (by omega)⟩
 clear t1 t2 t5 t6
 rintro n t G3 ⟨j,rfl,hj,t1,t2,t5,t6,t7,t9,c3,hf⟩ ih3
 have os3:=os.chg c3 (by simp)
 have ls:=os3.rd.len (P:=Tryz.prog) (ty:=24) (by simp)
 have leave:∀t':Env,t' 1=u→t' 2=.pointer (some ⟨H.length,0,some 0⟩)→t' 5=.int .i64 arr.length→t' 6=.int .i64 ((i+1:Nat):Int)→(∀fr,fr<arr.length→Ur arr list fr q r)→(∃i':Nat,2*arr.length-(i+1)=2*arr.length-i'∧i'≤2*arr.length∧t' 1=u∧t' 2=.pointer (some ⟨H.length,0,some 0⟩)∧t' 5=.int .i64 arr.length∧t' 6=.int .i64 i'∧Qp G G3 []∧∀m,m<i'→∀fr,fr<arr.length→Ur arr list fr (m/2) ((m%2:Nat):Int)):=by
  intro t' h1 h2 h5 h6 hh
  refine ⟨i+1,rfl,by omega,h1,h2,h5,h6,ch2.trans c3,fun m hm fr hfr=>?_⟩
  rcases Nat.lt_succ_iff_lt_or_eq.1 hm with hm|rfl
  ·exact hk m hm fr hfr
  ·rw [← hq,← hr];exact hh fr hfr
 by_cases g3:j<arr.length
 rotate_left
 ·have:j=arr.length:=by omega
  subst this
  simp [t1,t2,t5,t6,t7,t9]
  refine ih _ _ _ (leave _ (by simp [t1]) (by simp [t2]) (by simp [t5]) ?_ hf) (by omega)
  simp;rw [Q0 (by omega) (by omega)]
 by_cases g4:Ut arr q r=[]
 ·simp [t1,t2,t5,t6,t7,t9,g3,ls,g4]
  refine ih _ _ _ (leave _ (by simp [t1]) (by simp [t2]) (by simp [t5]) ?_ (fun fr _=>emp g4 fr)) (by omega)
  simp;rw [Q0 (by omega) (by omega)]
 have g4':=List.length_pos_iff.2 g4
 have hI3:Rd U7 G3 u list:=hI'.chg (ch2.trans c3) (by simp)
 simp [t1,t2,t5,t6,t7,t9,g3,ls,g4',e1,e2]
 refine Ql (Qf2 s u _ list j q r os3.rd hI3 (by omega) hl) ?_
 rintro r4 G4 ⟨o4,n4,c4⟩
 have hI4:=hI3.chg c4 (by simp)
 simp [t1,t2,t5,t6,t7,t9,e1,e2]
 refine Ql (jw u list j q r hI4 hl) ?_
 rintro r5 G5 ⟨o5,n5,c5⟩
 have o45:=o4.chg c5 (by simp)
 have Q03:=Nw (Ut arr q r) list j q r
 have ip:=fun F=>D0 (frz:=F) (H:=G5) r4 r5 _ _ o45.rd o5.rd (by omega)
 simp [t1,t2,t5,t6,t7,t9,ip]
 by_cases g5:Ur arr list j q r
 ·have g5':Sc (among (Ut arr q r) list j q r) (Zb list j q r):=g5
  simp [t1,t2,t5,t6,t7,t9,g5']
  refine ih3 (arr.length-(j+1)) _ _ ⟨j+1,rfl,by omega,by simp [t1],by simp [t2],by simp [t5],by simp [t6],by simp [t7],?_,(c3.trans c4).trans c5,fun fr h=>?_⟩ (by omega)
  ·simp;rw [Q0 (by omega) (by omega)]
  ·rcases Nat.lt_succ_iff_lt_or_eq.1 h with h|rfl
   ·exact hf fr h
   ·exact g5
 ·have g5':¬Sc (among (Ut arr q r) list j q r) (Zb list j q r):=g5
  simp [t1,t2,t5,t6,t7,t9,g5']
  exact hfail q hi' r hr2 j (by omega) g5
def Qln (x:Qu) (list:List Yy):Prop:=W9 x∧∀p∈list,Wq x.1.1 x.1.2.1 p
instance (x:Qu) (list:List Yy):Decidable (Qln x list):=inferInstanceAs (Decidable (_∧_))
abbrev pk0:Yy:=(0,0,0,0,0)
def Ai (w h:Int) (list:List Yy):Prop:=∀i,i<list.length→Wq w h (list.getD i pk0)∧(list.getD i pk0).1=(i:Int)+1
instance (w h:Int) (list:List Yy):Decidable (Ai w h list):=inferInstanceAs (Decidable (∀i,i<_→_))
def Xq (a:Ww):Prop:=W9 a.1∧a.2.length≤200∧Ai a.1.1.1 a.1.1.2.1 a.2∧Rq a.1 a.2
instance (a:Ww):Decidable (Xq a):=inferInstanceAs (Decidable (_∧_))
theorem Kz {v:Yj} {a:Ww} (o:Qs.Ow H v a):Qh C frz 35 [Qs.val v a] H=some (.bool (decide (Xq a)),H):=by
 have oneA:=Q8 o
 have ones:=oneA.1
 have Wi:=oneA.2
 have o1:=o.1
 have rs:=o.2.1.rd
 have nk:=fun F L=>Gh (frz:=F) (H:=H++L) (v:=v.1) (x:=a.1) (Dt.app (T:=Qe) o1)
 have ko:=fun F H' (c:Qp H H' [])=>qp (frz:=F) (H:=H') (u:=v.2) (list:=a.2) (Dt.chg (T:=Qe) o1 c (by simp)) (rs.chg c (by simp)) o.2.2
 simp only [Qk] at nk ko
 rw [Qo]
 refine wp.exact (by simp) ?_ rfl
 rw [Qb (fn:=Tryz.f35) Tryz.func35 rfl (by kernel_rfl) rfl]
 have hY:∀Y,(Xq a→Y=true)→(¬Xq a→Y=false)→Y=decide (Xq a):=fun Y h1 h2=>by
  by_cases g:Xq a
  ·rw [h1 g,decide_eq_true g]
  ·rw [h2 g,decide_eq_false g]
 have hno:¬Xq a→false=decide (Xq a):=fun g=>by rw [decide_eq_false g]
 have hG:(H++[⟨[.int .i64 a.1.1.1,.int .i64 a.1.1.2.1,v.1.1,v.1.2.1.1,v.1.2.1.2,v.1.2.2.1.1,v.1.2.2.2.1,v.1.2.2.2.2.1,v.1.2.2.2.2.2.1.1,v.1.2.2.2.2.2.2.1.1,.int .i64 a.1.2.2.2.2.2.2.2,v.2],0,51⟩])[H.length]? = some ⟨[.int .i64 a.1.1.1,.int .i64 a.1.1.2.1,v.1.1,v.1.2.1.1,v.1.2.1.2,v.1.2.2.1.1,v.1.2.2.2.1,v.1.2.2.2.2.1,v.1.2.2.2.2.2.1.1,v.1.2.2.2.2.2.2.1.1,.int .i64 a.1.2.2.2.2.2.2.2,v.2],0,51⟩:=by simp
 have cG:Qp H (H++[⟨[.int .i64 a.1.1.1,.int .i64 a.1.1.2.1,v.1.1,v.1.2.1.1,v.1.2.1.2,v.1.2.2.1.1,v.1.2.2.2.1,v.1.2.2.2.2.1,v.1.2.2.2.2.2.1.1,v.1.2.2.2.2.2.2.1.1,.int .i64 a.1.2.2.2.2.2.2.2,v.2],0,51⟩]) []:=Qp.app _
 simp [ones,Wi,nk]
 by_cases g0:W9 a.1
 rotate_left
 ·simp [g0];exact fun k=>g0 k.1
 have ls:=fun L=>(rs.app (L:=L)).len (P:=Tryz.prog) (ty:=49) (by simp)
 simp [g0,ones,Wi,ls]
 by_cases g1:200<a.2.length
 ·have g1':(200:Int)<a.2.length:=by omega
  simp [g1,g1'];exact fun k=>by have:=k.2.1;omega
 have g1':¬(200:Int)<a.2.length:=by omega
 simp [g1,g1',ones,Wi,ls]
 refine Qw (fun n t H'=>∃(i:Nat),n=a.2.length-i∧i≤a.2.length∧t 1=.pointer (some ⟨H.length,0,some 0⟩)∧t 16=v.2∧t 17=.int .i64 a.2.length∧t 18=.int .i64 i∧Qp H H' []∧H'[H.length]? = some ⟨[.int .i64 a.1.1.1,.int .i64 a.1.1.2.1,v.1.1,v.1.2.1.1,v.1.2.1.2,v.1.2.2.1.1,v.1.2.2.2.1,v.1.2.2.2.2.1,v.1.2.2.2.2.2.1.1,v.1.2.2.2.2.2.2.1.1,.int .i64 a.1.2.2.2.2.2.2.2,v.2],0,51⟩∧∀j,j<i→Wq a.1.1.1 a.1.1.2.1 (a.2.getD j pk0)∧(a.2.getD j pk0).1=(j:Int)+1) ?_ (n:=a.2.length)
  ⟨0,rfl,by omega,by simp,by simp,by simp,by simp,cG,hG,fun _ h=>absurd h (by omega)⟩
 rintro n t H' ⟨i,rfl,hi,t1,t16,t17,t18,ch,bb,hk⟩ ih
 have rd:=rs.chg ch (by simp)
 have ll:=rd.len (P:=Tryz.prog) (ty:=49) (by simp)
 simp [t1,t16,t17,t18,VM.look,bb,ll]
 refine Qm ?_ ?_<;>intro g
 rotate_left
 ·have:i=a.2.length:=by omega
  have hs:Ai a.1.1.1 a.1.1.2.1 a.2:=fun j hj=>hk j (by omega)
  have ko':=fun F=>ko F H' ch
  simp [t1,t16,t17,t18,VM.look,bb,ones,Wi,ko']
  exact ⟨fun k=>⟨g0,by omega,hs,k⟩,fun k=>k.2.2.2⟩
 have hi':i<a.2.length:=by omega
 have hF:H.length≤H'.length:=ch.1
 have q1:=rd.idx (P:=Tryz.prog) (ty:=49) (e:=104) (by simp) (i:=(i:Int)) (by omega) (by omega)
 have q2:=rd.load (P:=Tryz.prog) (e:=104) (by simp) hi'
 simp only [Int.toNat_natCast,S4] at q1 q2
 have hgd:a.2.getD i pk0=a.2[i]:=by simp [List.getD_eq_getElem?_getD,hi']
 have hfail:¬(Wq a.1.1.1 a.1.1.2.1 a.2[i]∧a.2[i].1=(i:Int)+1)→¬Xq a:=fun k c=>k (by have:=c.2.2.1 i hi';rwa [hgd] at this)
 have e1:=@w6 ((i:Int)+1) (by omega)
 have hnx:Wq a.1.1.1 a.1.1.2.1 a.2[i]→a.2[i].1=(i:Int)+1→∀j,j<i+1→Wq a.1.1.1 a.1.1.2.1 (a.2.getD j pk0)∧(a.2.getD j pk0).1=(j:Int)+1:=fun k1 k2 j hj=>by
  rcases Nat.lt_succ_iff_lt_or_eq.1 hj with hj|rfl
  ·exact hk j hj
  ·rw [hgd];exact ⟨k1,k2⟩
 obtain ⟨p,hp⟩:∃p,p=a.2[i]:=⟨_,rfl⟩
 have pk:=fun F L=>Dm (frz:=F) (H:=H'++L) a.1.1.1 a.1.1.2.1 p
 unfold Ja at pk
 rw [← hp] at q2 hfail hnx
 have bb2:=fun r=>Qj bb [r]
 simp [t1,t16,t17,t18,q1,q2,Zj,hF,VM.look,bb2,pk]
 by_cases g2:Wq a.1.1.1 a.1.1.2.1 p
 rotate_left
 ·simp [g2];exact hfail (fun k=>g2 k.1)
 by_cases g3:p.1=(i:Int)+1
 rotate_left
 ·simp [t1,t16,t17,t18,g2,g3,VM.look,e1];exact hfail (fun k=>g3 k.2)
 simp [t1,t16,t17,t18,g2,g3,VM.look,e1]
 refine ih (a.2.length-(i+1)) _ _ ⟨i+1,rfl,by omega,by simp [t1],by simp [t16],by simp [t17],by simp [t18],ch.trans (Qp.app _),Qj bb _,hnx g2 g3⟩ (by omega)
theorem N5 {v:Yj} {a:Ww} (o:Qs.Ow H v a):Qh C frz 29 [Qs.val v a] H=some (.bool (decide (Xq a)),H):=by
 have oneA:=Q8 o
 have ones:=oneA.1
 have Wi:=oneA.2
 have o1:=o.1
 have rs:=o.2.1.rd
 have nk:=fun F L=>T1 (frz:=F) (H:=H++L) (v:=v.1) (x:=a.1) (Dt.app (T:=Qe) o1)
 have ko:=fun F H' (c:Qp H H' [])=>D5 (frz:=F) (H:=H') (u:=v.2) (list:=a.2) (Dt.chg (T:=Qe) o1 c (by simp)) (rs.chg c (by simp)) o.2.2
 simp only [Qk] at nk ko
 rw [Qo]
 refine wp.exact (by simp) ?_ rfl
 rw [Qb (fn:=Tryz.f29) Tryz.func29 rfl (by kernel_rfl) rfl]
 have hY:∀Y,(Xq a→Y=true)→(¬Xq a→Y=false)→Y=decide (Xq a):=fun Y h1 h2=>by
  by_cases g:Xq a
  ·rw [h1 g,decide_eq_true g]
  ·rw [h2 g,decide_eq_false g]
 have hno:¬Xq a→false=decide (Xq a):=fun g=>by rw [decide_eq_false g]
 have hG:(H++[⟨[.int .i64 a.1.1.1,.int .i64 a.1.1.2.1,v.1.1,v.1.2.1.1,v.1.2.1.2,v.1.2.2.1.1,v.1.2.2.2.1,v.1.2.2.2.2.1,v.1.2.2.2.2.2.1.1,v.1.2.2.2.2.2.2.1.1,.int .i64 a.1.2.2.2.2.2.2.2,v.2],0,51⟩])[H.length]? = some ⟨[.int .i64 a.1.1.1,.int .i64 a.1.1.2.1,v.1.1,v.1.2.1.1,v.1.2.1.2,v.1.2.2.1.1,v.1.2.2.2.1,v.1.2.2.2.2.1,v.1.2.2.2.2.2.1.1,v.1.2.2.2.2.2.2.1.1,.int .i64 a.1.2.2.2.2.2.2.2,v.2],0,51⟩:=by simp
 have cG:Qp H (H++[⟨[.int .i64 a.1.1.1,.int .i64 a.1.1.2.1,v.1.1,v.1.2.1.1,v.1.2.1.2,v.1.2.2.1.1,v.1.2.2.2.1,v.1.2.2.2.2.1,v.1.2.2.2.2.2.1.1,v.1.2.2.2.2.2.2.1.1,.int .i64 a.1.2.2.2.2.2.2.2,v.2],0,51⟩]) []:=Qp.app _
 simp [ones,Wi,nk]
 by_cases g0:W9 a.1
 rotate_left
 ·simp [g0];exact fun k=>g0 k.1
 have ls:=fun L=>(rs.app (L:=L)).len (P:=Tryz.prog) (ty:=49) (by simp)
 simp [g0,ones,Wi,ls]
 by_cases g1:200<a.2.length
 ·have g1':(200:Int)<a.2.length:=by omega
  simp [g1,g1'];exact fun k=>by have:=k.2.1;omega
 have g1':¬(200:Int)<a.2.length:=by omega
 simp [g1,g1',ones,Wi,ls]
 refine Qw (fun n t H'=>∃(i:Nat),n=a.2.length-i∧i≤a.2.length∧t 1=.pointer (some ⟨H.length,0,some 0⟩)∧t 3=.int .i64 i∧Qp H H' []∧H'[H.length]? = some ⟨[.int .i64 a.1.1.1,.int .i64 a.1.1.2.1,v.1.1,v.1.2.1.1,v.1.2.1.2,v.1.2.2.1.1,v.1.2.2.2.1,v.1.2.2.2.2.1,v.1.2.2.2.2.2.1.1,v.1.2.2.2.2.2.2.1.1,.int .i64 a.1.2.2.2.2.2.2.2,v.2],0,51⟩∧∀j,j<i→Wq a.1.1.1 a.1.1.2.1 (a.2.getD j pk0)∧(a.2.getD j pk0).1=(j:Int)+1) ?_ (n:=a.2.length)
  ⟨0,rfl,by omega,by simp,by simp,cG,hG,fun _ h=>absurd h (by omega)⟩
 rintro n t H' ⟨i,rfl,hi,t1,t3,ch,bb,hk⟩ ih
 have rd:=rs.chg ch (by simp)
 have ll:=rd.len (P:=Tryz.prog) (ty:=49) (by simp)
 simp [t1,t3,VM.look,bb,ll]
 refine Qm ?_ ?_<;>intro g
 rotate_left
 ·have:i=a.2.length:=by omega
  have hs:Ai a.1.1.1 a.1.1.2.1 a.2:=fun j hj=>hk j (by omega)
  have ko':=fun F=>ko F H' ch
  simp [t1,t3,VM.look,bb,ones,Wi,ko']
  exact ⟨fun k=>⟨g0,by omega,hs,k⟩,fun k=>k.2.2.2⟩
 have hi':i<a.2.length:=by omega
 have hF:H.length≤H'.length:=ch.1
 have q1:=rd.idx (P:=Tryz.prog) (ty:=49) (e:=104) (by simp) (i:=(i:Int)) (by omega) (by omega)
 have q2:=rd.load (P:=Tryz.prog) (e:=104) (by simp) hi'
 simp only [Int.toNat_natCast,S4] at q1 q2
 have hgd:a.2.getD i pk0=a.2[i]:=by simp [List.getD_eq_getElem?_getD,hi']
 have hfail:¬(Wq a.1.1.1 a.1.1.2.1 a.2[i]∧a.2[i].1=(i:Int)+1)→¬Xq a:=fun k c=>k (by have:=c.2.2.1 i hi';rwa [hgd] at this)
 have e1:=@w6 ((i:Int)+1) (by omega)
 have hnx:Wq a.1.1.1 a.1.1.2.1 a.2[i]→a.2[i].1=(i:Int)+1→∀j,j<i+1→Wq a.1.1.1 a.1.1.2.1 (a.2.getD j pk0)∧(a.2.getD j pk0).1=(j:Int)+1:=fun k1 k2 j hj=>by
  rcases Nat.lt_succ_iff_lt_or_eq.1 hj with hj|rfl
  ·exact hk j hj
  ·rw [hgd];exact ⟨k1,k2⟩
 have f0:=rd.field (P:=Tryz.prog) (s:=104) (f:=0) (o:=0) (n:=1) (ag:=false) (by simp) (j:=i*5) (by omega)
 have k0:=rd.cell (P:=Tryz.prog) (e:=3) (by simp) hi' (c:=0) (by decide)
 simp only [S4,Nat.add_zero] at f0 k0
 simp only [Zj] at k0
 simp at k0
 obtain ⟨p,hp⟩:∃p,p=a.2[i]:=⟨_,rfl⟩
 have pk:=fun F=>Nq (frz:=F) (H:=H') a.1.1.1 a.1.1.2.1 p
 unfold Ja at pk
 rw [← hp] at q2 hfail hnx k0
 simp
 rw [Qv (h:=by kernel_rfl)]
 simp [-Qy,Wr,t1,t3,q1,q2,Zj,VM.look,bb,pk]
 by_cases g2:Wq a.1.1.1 a.1.1.2.1 p
 rotate_left
 ·simp [g2];exact hfail (fun k=>g2 k.1)
 by_cases g3:p.1=(i:Int)+1
 rotate_left
 ·simp [-Qy,Wr,t1,t3,g2,g3,VM.look,bb,q1,f0,k0,e1];exact hfail (fun k=>g3 k.2)
 simp [-Qy,Wr,t1,t3,g2,g3,VM.look,bb,q1,f0,k0,e1]
 refine ih (a.2.length-(i+1)) _ _ ⟨i+1,rfl,by omega,by simp [t1],by simp,ch,bb,hnx g2 g3⟩ (by omega)
def Qg (v:Yj) (a:Ww):List Value:=Qc v.1 a.1++[v.2]
def Vt (a:Ww) (k:Int):Prop:=Xq a∧runs a.1 k
instance (a:Ww) (k:Int):Decidable (Vt a k):=inferInstanceAs (Decidable (_∧_))
noncomputable def Yk (a:Ww) (k:Int):Ww:=if Xq a then (Vz a.1 k,a.2) else a
def X5:List Value:=[.int .i64 0,.int .i64 0,.slice none 0 0,.slice none 0 0,.slice none 0 0,.slice none 0 0,.slice none 0 0,.slice none 0 0,.slice none 0 0,.slice none 0 0,.int .i64 0,.slice none 0 0]
theorem Py {K:Qd} {n:Yj} {y z:Ww} {ok ok':Bool} {r:Row} (o:Qs.Ow K n y) (c:Qp H K []) (m:∀i∈Qs.ids n,H.length+2≤i) (d:(Qs.ids n).Nodup) (e1:z=y) (e2:ok'=ok) :
 Xr Qs H z ok' (.tuple #[Qs.val n y,.bool ok]) (K.set (H.length+1) r):=by
 subst e1 e2
 exact ⟨Qs.val n z,rfl,n,rfl,Dt.chg (T:=Qs) o (Qn _ _) (fun i hi hh=>by have:=m i hi;simp at hh;omega),c.trans' (Qn _ _) (fun i hi=>.inr (by simp at hi;omega)),fun i hi=>by have:=m i hi;omega,d⟩
theorem Qds {v:Yj} {a:Ww} {k:Int} (o:Qs.Ow H v a) (h9:Xf 66000000 a.1.2.2.2.2.2.2.1) :
 wp (Qh C frz 142 [Qs.val v a,.int .i64 k] H) (Xr Qs H (Yk a k) (decide (Vt a k))):=by
 have oneA:=Q8 o
 have ones:=oneA.1
 have Wi:=oneA.2
 have ecopy:=fun K (c:Qp H K [])=>Od (frz:=H.length) (H:=K) (v:=v) (a:=a) (Dt.chg (T:=Qs) o c (by simp))
 have ck:=fun F K (c:Qp H K [])=>Kz (frz:=F) (H:=K) (v:=v) (a:=a) (Dt.chg (T:=Qs) o c (by simp))
 have er:=fun K (c:Qp H K [])=>Qg4 (frz:=H.length) (H:=K) (v:=v.1) (x:=a.1) (k:=k) (Dt.chg (T:=Qe) o.1 c (by simp)) h9
 simp only [Qk] at er
 simp only [Qo] at ecopy ck ⊢
 rw [Qb (fn:=Tryz.f142) Tryz.func142 rfl (by kernel_rfl) rfl]
 obtain ⟨G,hG⟩:∃G,G=H++[⟨Qg v a,0,51⟩,⟨X5,0,51⟩]:=⟨_,rfl⟩
 have cG:Qp H G []:=by rw [hG];exact Qp.app _
 have b0:G[H.length]? = some ⟨Qg v a,0,51⟩:=by rw [hG];simp
 have bR:G[H.length+1]? = some ⟨X5,0,51⟩:=by rw [hG];simp
 have lG:G.length=H.length+2:=by rw [hG];simp
 have hGs:=hG.symm
 unfold Qg Qc X5 at hGs
 simp only [List.cons_append,List.nil_append] at hGs
 simp [ones,Wi]
 rw [hGs]
 clear hG hGs
 have b0':=b0
 unfold Qg Qc at b0'
 simp only [List.cons_append,List.nil_append] at b0'
 try simp [VM.look,b0',ones,Wi]
 refine Ql (ecopy G cG) ?_
 rintro _ K ⟨n,rfl,on,cn,mn,dn⟩
 have cK:Qp H K []:=cG.trans cn
 have b0:=Qa b0 cn (by simp)
 have bR:=Qa bR cn (by simp)
 have oneN:=Q8 on
 have qn:=oneN.1
 have qn2:=oneN.2
 have lK:=cn.1
 have hFK:H.length≤K.length:=by omega
 obtain ⟨K2,hK2⟩:∃K2,K2=K++[⟨Qg n a,0,51⟩]:=⟨_,rfl⟩
 have c12:Qp K K2 []:=by rw [hK2];exact Qp.app _
 have cK2:=cK.trans c12
 have l2:K2.length=K.length+1:=by rw [hK2];simp
 have b0:=Qa b0 c12 (by simp)
 have bR:=Qa bR c12 (by simp)
 have bC:K2[K.length]? = some ⟨Qg n a,0,51⟩:=by rw [hK2];simp
 have on2:=Dt.chg (T:=Qs) on c12 (by simp)
 have hF:H.length≤H.length+1:=by omega
 have mn':∀i∈Qs.ids n,H.length+2≤i:=fun i hi=>by have:=mn i hi;omega
 have ltn:∀i∈Qs.ids n,i<K.length:=fun i hi=>Qs.lt on i hi
 have hKs:=hK2.symm
 unfold Qg Qc at hKs
 simp only [List.cons_append,List.nil_append] at hKs
 simp [Qo,VM.look,qn,qn2,hFK]
 rw [hKs]
 clear hK2 hKs
 have ck':=fun F=>ck F K2 cK2
 have b0':=b0
 have bC':=bC
 unfold Qg Qc at b0' bC'
 simp only [List.cons_append,List.nil_append] at b0' bC'
 by_cases g0:Xq a
 rotate_left
 ·have hb:¬Vt a k:=fun h=>g0 h.1
  have gR:=Qq (r':=⟨Qg n a,0,51⟩) bR
  have hM:=Py (H:=H) (r:=⟨Qg n a,0,51⟩) on2 cK2 mn' dn (show Yk a k=a from if_neg g0) (decide_eq_false hb)
  unfold X5 at bR
  unfold Qg Qc at gR hM
  simp only [List.cons_append,List.nil_append] at gR hM
  simp [VM.look,b0',ones,Wi,ck',g0,bC',qn,qn2,bR,gR,hF]
  simpa [hb,Qo] using hM
 have eR:=er K2 cK2
 simp [VM.look,b0',ones,Wi,ck',g0]
 refine Ql eR ?_
 rintro _ K3 ⟨_,rfl,n2,rfl,o3,c3,m3,d3⟩
 obtain ⟨z,hz⟩:∃z,z=Vz a.1 k:=⟨_,rfl⟩
 rw [← hz] at o3
 have Xz:=Qr o3
 have l3:=c3.1
 have Qft:H.length≤K3.length:=by omega
 obtain ⟨K4,hK4⟩:∃K4,K4=K3++[⟨Qc n2 z,0,48⟩]:=⟨_,rfl⟩
 have c34:Qp K3 K4 []:=by rw [hK4];exact Qp.app _
 have l4:K4.length=K3.length+1:=by rw [hK4];simp
 have bN:K4[K3.length]? = some ⟨Qc n2 z,0,48⟩:=by rw [hK4];simp
 have bC4:=Qa (Qa bC c3 (by simp)) c34 (by simp)
 have bR4:=Qa (Qa bR c3 (by simp)) c34 (by simp)
 have hKs:=hK4.symm
 unfold Qc at hKs
 have eb:decide (Vt a k)=decide (runs a.1 k):=by simp [Vt,g0]
 have ec:Yk a k=(z,a.2):=by rw [hz];exact if_pos g0
 have o4:=Dt.chg (T:=Qe) o3 c34 (by simp)
 have op4:=Dt.chg (T:=Ov) (Dt.chg (T:=Ov) on2.2 c3 (by simp)) c34 (by simp)
 simp [Qk,← hz,Xz,Qft,VM.look]
 rw [hKs]
 clear hK4 hKs
 have gC:=Qq (r':=⟨Qg (n2,n.2) (z,a.2),0,51⟩) bC4
 have cC:Qp K4 (K4.set K.length ⟨Qg (n2,n.2) (z,a.2),0,51⟩) [K.length]:=Qn _ _
 have bR5:=Qa bR4 cC (by simp;omega)
 have gR:=Qq (r':=⟨Qg (n2,n.2) (z,a.2),0,51⟩) bR5
 have hi1:∀i∈Qe.ids n2,K2.length≤i:=m3
 have hi2:∀i∈VM.ids n.2,H.length+2≤i∧i<K.length:=fun i hi=>⟨mn' i (List.mem_append_right _ hi),ltn i (List.mem_append_right _ hi)⟩
 have hM:=Py (H:=H) (n:=(n2,n.2)) (y:=(z,a.2)) (r:=⟨Qg (n2,n.2) (z,a.2),0,51⟩) (K:=K4.set K.length ⟨Qg (n2,n.2) (z,a.2),0,51⟩)
  ⟨Dt.chg (T:=Qe) o4 cC (fun i hi hh=>by have:=hi1 i hi;simp at hh;omega),Dt.chg (T:=Ov) op4 cC (fun i hi hh=>by have:=(hi2 i hi).2;simp at hh;omega)⟩
  (((cK2.trans c3).trans c34).trans' cC (fun i hi=>.inr (by simp at hi;omega)))
  (fun i hi=>by
   rcases List.mem_append.1 hi with h|h
   ·have:=hi1 i h;omega
   ·exact (hi2 i h).1)
  (List.nodup_append.2 ⟨d3,Wa n.2,fun x hx y hy e=>by
   subst e
   have:=hi1 x hx
   have:=(hi2 x hy).2
   omega⟩) ec eb
 unfold Qg Qc X5 at bR5
 unfold Qg Qc at gC bC4 gR hM
 unfold Qc at bN
 simp only [List.cons_append,List.nil_append] at gC bC4 gR hM bR5
 simp [VM.look,bN,bC4,gC,bR5,gR,Xz,qn2,hF,hFK]
 rw [ec,eb]
 rw [ec,eb] at hM
 simpa [Qo] using hM
theorem vk {v:Yj} {a:Ww} {k:Int} (o:Qs.Ow H v a) (h9:Xf 66000000 a.1.2.2.2.2.2.2.1) :
 wp (Qh C frz 63 [Qs.val v a,.int .i64 k] H) (Xr Qs H (Yk a k) (decide (Vt a k))):=by
 have oneA:=Q8 o
 have ones:=oneA.1
 have Wi:=oneA.2
 have ecopy:=fun K (c:Qp H K [])=>Ma (frz:=H.length) (H:=K) (v:=v) (a:=a) (Dt.chg (T:=Qs) o c (by simp))
 have ck:=fun F K (c:Qp H K [])=>N5 (frz:=F) (H:=K) (v:=v) (a:=a) (Dt.chg (T:=Qs) o c (by simp))
 have er:=fun K (c:Qp H K [])=>Qcl (frz:=H.length) (H:=K) (v:=v.1) (x:=a.1) (k:=k) (Dt.chg (T:=Qe) o.1 c (by simp)) h9
 simp only [Qk] at er
 simp only [Qo] at ecopy ck ⊢
 rw [Qb (fn:=Tryz.f63) Tryz.func63 rfl (by kernel_rfl) rfl]
 obtain ⟨G,hG⟩:∃G,G=H++[⟨Qg v a,0,51⟩,⟨X5,0,51⟩]:=⟨_,rfl⟩
 have cG:Qp H G []:=by rw [hG];exact Qp.app _
 have b0:G[H.length]? = some ⟨Qg v a,0,51⟩:=by rw [hG];simp
 have bR:G[H.length+1]? = some ⟨X5,0,51⟩:=by rw [hG];simp
 have lG:G.length=H.length+2:=by rw [hG];simp
 have hGs:=hG.symm
 unfold Qg Qc X5 at hGs
 simp only [List.cons_append,List.nil_append] at hGs
 simp [ones,Wi]
 rw [hGs]
 clear hG hGs
 have b0':=b0
 unfold Qg Qc at b0'
 simp only [List.cons_append,List.nil_append] at b0'
 try simp [VM.look,b0',ones,Wi]
 refine Ql (ecopy G cG) ?_
 rintro _ K ⟨n,rfl,on,cn,mn,dn⟩
 have cK:Qp H K []:=cG.trans cn
 have b0:=Qa b0 cn (by simp)
 have bR:=Qa bR cn (by simp)
 have oneN:=Q8 on
 have qn:=oneN.1
 have qn2:=oneN.2
 have lK:=cn.1
 have hFK:H.length≤K.length:=by omega
 obtain ⟨K2,hK2⟩:∃K2,K2=K++[⟨Qg n a,0,51⟩]:=⟨_,rfl⟩
 have c12:Qp K K2 []:=by rw [hK2];exact Qp.app _
 have cK2:=cK.trans c12
 have l2:K2.length=K.length+1:=by rw [hK2];simp
 have b0:=Qa b0 c12 (by simp)
 have bR:=Qa bR c12 (by simp)
 have bC:K2[K.length]? = some ⟨Qg n a,0,51⟩:=by rw [hK2];simp
 have on2:=Dt.chg (T:=Qs) on c12 (by simp)
 have hF:H.length≤H.length+1:=by omega
 have mn':∀i∈Qs.ids n,H.length+2≤i:=fun i hi=>by have:=mn i hi;omega
 have ltn:∀i∈Qs.ids n,i<K.length:=fun i hi=>Qs.lt on i hi
 have hKs:=hK2.symm
 unfold Qg Qc at hKs
 simp only [List.cons_append,List.nil_append] at hKs
 simp [Qo,VM.look,qn,qn2,hFK]
 rw [hKs]
 clear hK2 hKs
 have ck':=fun F=>ck F K2 cK2
 have b0':=b0
 have bC':=bC
 unfold Qg Qc at b0' bC'
 simp only [List.cons_append,List.nil_append] at b0' bC'
 by_cases g0:Xq a
 rotate_left
 ·have hb:¬Vt a k:=fun h=>g0 h.1
  have gR:=Qq (r':=⟨Qg n a,0,51⟩) bR
  have hM:=Py (H:=H) (r:=⟨Qg n a,0,51⟩) on2 cK2 mn' dn (show Yk a k=a from if_neg g0) (decide_eq_false hb)
  unfold X5 at bR
  unfold Qg Qc at gR hM
  simp only [List.cons_append,List.nil_append] at gR hM
  simp [VM.look,b0',ones,Wi,ck',g0,bC',qn,qn2,bR,gR,hF]
  simpa [hb,Qo] using hM
 have eR:=er K2 cK2
 simp [VM.look,b0',ones,Wi,ck',g0]
 refine Ql eR ?_
 rintro _ K3 ⟨_,rfl,n2,rfl,o3,c3,m3,d3⟩
 obtain ⟨z,hz⟩:∃z,z=Vz a.1 k:=⟨_,rfl⟩
 rw [← hz] at o3
 have Xz:=Qr o3
 have l3:=c3.1
 have Qft:H.length≤K3.length:=by omega
 obtain ⟨K4,hK4⟩:∃K4,K4=K3++[⟨Qc n2 z,0,48⟩]:=⟨_,rfl⟩
 have c34:Qp K3 K4 []:=by rw [hK4];exact Qp.app _
 have l4:K4.length=K3.length+1:=by rw [hK4];simp
 have bN:K4[K3.length]? = some ⟨Qc n2 z,0,48⟩:=by rw [hK4];simp
 have bC4:=Qa (Qa bC c3 (by simp)) c34 (by simp)
 have bR4:=Qa (Qa bR c3 (by simp)) c34 (by simp)
 have hKs:=hK4.symm
 unfold Qc at hKs
 have eb:decide (Vt a k)=decide (runs a.1 k):=by simp [Vt,g0]
 have ec:Yk a k=(z,a.2):=by rw [hz];exact if_pos g0
 have o4:=Dt.chg (T:=Qe) o3 c34 (by simp)
 have op4:=Dt.chg (T:=Ov) (Dt.chg (T:=Ov) on2.2 c3 (by simp)) c34 (by simp)
 simp [Qk,← hz,Xz,Qft,VM.look]
 rw [hKs]
 clear hK4 hKs
 have gC:=Qq (r':=⟨Qg (n2,n.2) (z,a.2),0,51⟩) bC4
 have cC:Qp K4 (K4.set K.length ⟨Qg (n2,n.2) (z,a.2),0,51⟩) [K.length]:=Qn _ _
 have bR5:=Qa bR4 cC (by simp;omega)
 have gR:=Qq (r':=⟨Qg (n2,n.2) (z,a.2),0,51⟩) bR5
 have hi1:∀i∈Qe.ids n2,K2.length≤i:=m3
 have hi2:∀i∈VM.ids n.2,H.length+2≤i∧i<K.length:=fun i hi=>⟨mn' i (List.mem_append_right _ hi),ltn i (List.mem_append_right _ hi)⟩
 have hM:=Py (H:=H) (n:=(n2,n.2)) (y:=(z,a.2)) (r:=⟨Qg (n2,n.2) (z,a.2),0,51⟩) (K:=K4.set K.length ⟨Qg (n2,n.2) (z,a.2),0,51⟩)
  ⟨Dt.chg (T:=Qe) o4 cC (fun i hi hh=>by have:=hi1 i hi;simp at hh;omega),Dt.chg (T:=Ov) op4 cC (fun i hi hh=>by have:=(hi2 i hi).2;simp at hh;omega)⟩
  (((cK2.trans c3).trans c34).trans' cC (fun i hi=>.inr (by simp at hi;omega)))
  (fun i hi=>by
   rcases List.mem_append.1 hi with h|h
   ·have:=hi1 i h;omega
   ·exact (hi2 i h).1)
  (List.nodup_append.2 ⟨d3,Wa n.2,fun x hx y hy e=>by
   subst e
   have:=hi1 x hx
   have:=(hi2 x hy).2
   omega⟩) ec eb
 unfold Qg Qc X5 at bR5
 unfold Qg Qc at gC bC4 gR hM
 unfold Qc at bN
 simp only [List.cons_append,List.nil_append] at gC bC4 gR hM bR5
 simp [VM.look,bN,bC4,gC,bR5,gR,Xz,qn2,hF,hFK]
 rw [ec,eb]
 rw [ec,eb] at hM
 simpa [Qo] using hM
end Go.Proofs.YtlhaeingdonaeaaGreat.V
set_option linter.all false
namespace Go.Proofs.YtlhaeingdonaeaaGreat.V
open Go Go.VM
set_option maxRecDepth 100000
def Qpn:Bool:=(List.range 5).all fun w=>(List.range 5).all fun h=>(List.range 16).all fun a=>(List.range 4).all fun p=>
 decide (next (w:Int) h a p<0) || (decide (next w h (next w h a p) (Ml p)=a)&&(decide (0≤Ml p)&&(decide (Ml p<4)&&(decide (next (w:Int) h a p≠a)&&decide (Ml (Ml p)=p)))))
theorem Qh1:Qpn=true:=by decide +kernel
theorem geo {w h a:Int} {p:Nat} (hp:p<4) (ha:Y6 w h a) (hu:0≤next w h a p):next w h (next w h a p) (Ml p)=a∧0≤Ml p∧Ml p<4∧next w h a p≠a∧Ml (Ml p)=p:=by
 obtain ⟨⟨⟨a1,a2⟩,b1,b2⟩,c1,c2,c3⟩:=S8 ha
 have h0:=Qh1
 unfold Qpn at h0
 rw [List.all_eq_true] at h0
 have h1:=h0 w.toNat (by simp;omega)
 rw [List.all_eq_true] at h1
 have h2:=h1 h.toNat (by simp;omega)
 rw [List.all_eq_true] at h2
 have h3:=h2 a.toNat (by simp;omega)
 rw [List.all_eq_true] at h3
 have h4:=h3 p (by simp;omega)
 have e1:(w.toNat:Int)=w:=by omega
 have e2:(h.toNat:Int)=h:=by omega
 have e3:(a.toNat:Int)=a:=by omega
 rw [e1,e2,e3] at h4
 simp only [Bool.or_eq_true,Bool.and_eq_true,decide_eq_true_eq] at h4
 rcases h4 with h4|h4
 ·omega
 ·exact h4
theorem Cl {w h:Int} {b:List Int} {a:Int} {p:Nat} (hp:p<4) (h1:link w h b (4*a+p)):∃q:Nat,q<4∧link w h b (4*next w h a p+q)∧next w h (next w h a p) q=a:=by
 obtain ⟨ha,hu,he⟩:=Za hp h1
 obtain ⟨g1,g2,g3,g4,g5⟩:=geo hp ha hu.1
 have e0:(4*a+(p:Int))%4=p:=by omega
 have hb:In w h (4*a+p)=4*next w h a p+Ml p:=by unfold In;rw [he,e0]
 have h2:=h1.2
 rw [hb] at h2
 obtain ⟨q,hq⟩:=Int.eq_ofNat_of_zero_le g2
 rw [hq] at g1 g3 g5 h2
 have eq1:(4*next w h a p+(q:Int))/4=next w h a p:=by omega
 have eq2:(4*next w h a p+(q:Int))%4=q:=by omega
 refine ⟨q,by omega,⟨h2,?_⟩,g1⟩
 have:In w h (4*next w h a p+q)=4*a+p:=by unfold In Gq;rw [eq1,eq2,g1,g5]
 rw [this];exact h1.1
structure VOut (w h:Int) (b:List Int) (a d:Int) (l:List Nat) (x y:List Int×List Int):Prop where
 keep:∀v,0≤v→0≤rd x.1 v→rd y.1 v=rd x.1 v
 new:∀v,Y6 w h v→rd x.1 v<0→0≤rd y.1 v→rd y.1 v=d∧v∈y.2∧∃p:Nat,p<4∧link w h b (4*a+p)∧next w h a p=v
 all:∀p∈l,link w h b (4*a+(p:Nat))→0≤rd y.1 (next w h a p)
 pre:∀v∈x.2,v∈y.2
 len:y.1.length=x.1.length
theorem Qbd {w h:Int} {b:List Int} {a d:Int} (hd:0≤d):∀(l:List Nat) (x:List Int×List Int),(∀p∈l,p<4)→(∀v,Y6 w h v→v<x.1.length)→VOut w h b a d l x (l.foldl (Po w h b a d) x)
 | [],x,_,_=>⟨fun _ _ _=>rfl,fun v _ h1 h2=>by simp only [List.foldl_nil] at h2;omega,fun p hp=>by simp at hp,fun _ h=>h,rfl⟩
 | p::l,x,hl,hlen=>by
  have hp:=hl p (by simp)
  have E:=Gm (w:=w) (h:=h) (b:=b) (a:=a) (x:=x) hp hd
  have ih:=Qbd (w:=w) (h:=h) (b:=b) (a:=a) hd l (Po w h b a d x p) (fun q hq=>hl q (by simp [hq])) (by rw [E.len];exact hlen)
  refine ⟨fun v h0 h1=>?_,fun v hv h1 h2=>?_,fun q hq hlk=>?_,fun v hv=>ih.pre v (E.pre v hv),by rw [List.foldl_cons,ih.len,E.len]⟩
  ·have e1:=E.old v h0 h1
   rw [List.foldl_cons,ih.keep v h0 (by omega),e1]
  ·by_cases h3:rd (Po w h b a d x p).1 v<0
   ·exact ih.new v hv h3 h2
   ·have h4:0≤rd (Po w h b a d x p).1 v:=by omega
    have e2:=ih.keep v hv.1 h4
    have:link w h b (4*a+p)∧next w h a p=v∧rd (Po w h b a d x p).1 v=d∧v∈(Po w h b a d x p).2:=by
     unfold Po at h4 ⊢
     split at h4
     ·rename_i hc
      rw [if_pos hc]
      obtain ⟨_,hn,_⟩:=Za hp hc.1
      have hln:=hlen _ hn
      simp only at h4 ⊢
      rw [Jd hn.1 hln hv.1] at h4 ⊢
      by_cases hvn:v=next w h a p
      ·rw [if_pos hvn];exact ⟨hc.1,hvn.symm,rfl,by simp [hvn]⟩
      ·rw [if_neg hvn] at h4;omega
     ·omega
    rw [List.foldl_cons]
    exact ⟨by rw [e2];exact this.2.2.1,ih.pre v this.2.2.2,p,hp,this.1,this.2.1⟩
  ·rcases List.mem_cons.1 hq with rfl|hq
   ·obtain ⟨_,hn,_⟩:=Za hp hlk
    have hln:=hlen _ hn
    have h4:0≤rd (Po w h b a d x q).1 (next w h a q):=by
     unfold Po
     split
     ·simp only;rw [Jd hn.1 hln hn.1,if_pos rfl];exact hd
     ·rename_i hc
      by_cases h5:rd x.1 (next w h a q)<0
      ·exact absurd ⟨hlk,h5⟩ hc
      ·omega
    rw [List.foldl_cons,ih.keep _ hn.1 h4];exact h4
   ·exact ih.all q hq hlk
structure Inv2 (w h:Int) (b:List Int) (root:Int) (s rest nx:List Int):Prop where
 cl:∀v,Y6 w h v→0≤rd s v→v∉rest→v∉nx→∀p:Nat,p<4→link w h b (4*v+p)→0≤rd s (next w h v p)
 pre:∀v,Y6 w h v→0<rd s v→∃u,Y6 w h u∧rd s u=rd s v-1∧∃q:Nat,q<4∧link w h b (4*u+q)∧next w h u q=v
 zero:rd s root=0∧∀v,Y6 w h v→rd s v=0→v=root
theorem Run.inv2 {w h root:Int} {b s rest nx r:List Int} {d:Int} (hr:Y6 w h root) (R:Run w h b s rest nx d r):Inv w h s rest nx d→Inv2 w h b root s rest nx→Inv2 w h b root r [] []:=by
 induction R with
 | done s d=>exact fun _ j=>j
 | level _ ih=>exact fun i j=>ih i.level ⟨fun v hv h0 h1 h2=>j.cl v hv h0 (by simp) h1,j.pre,j.zero⟩
 | @node s a rest nx d r _ ih=>
  intro i j
  have h1:=i.one
  obtain ⟨ha,hda⟩:=i.fr a (by simp)
  have O:VOut w h b a d (List.range 4) (s,nx) (Ge w h b a d (s,nx)):=Qbd (by omega) _ _ (by simp) (fun v hv=>by have:=i.len;have:=hv.2;simp only;omega)
  refine ih i.node ⟨fun v hv h0 hn1 hn2 p hp hlk=>?_,fun v hv h0=>?_,?_,fun v hv h0=>?_⟩
  ·have hnx:=(Za hp hlk).2.1
   by_cases h2:0≤rd s v
   ·by_cases hva:v=a
    ·subst hva;exact O.all p (by simp;omega) hlk
    ·have h3:=j.cl v hv h2 (by simp [hva,hn1]) (fun hh=>hn2 (O.pre v hh)) p hp hlk
     rw [O.keep _ hnx.1 h3];exact h3
   ·exact absurd (O.new v hv (by simp only;omega) h0).2.1 hn2
  ·by_cases h2:0≤rd s v
   ·have e:=O.keep v hv.1 h2
    simp only at e
    rw [e] at h0 ⊢
    obtain ⟨u,hu,hu1,hq⟩:=j.pre v hv h0
    refine ⟨u,hu,?_,hq⟩
    rw [O.keep u hu.1 (by simp only;omega)];exact hu1
   ·obtain ⟨e,_,hq⟩:=O.new v hv (by simp only;omega) (by omega)
    refine ⟨a,ha,?_,hq⟩
    rw [O.keep a ha.1 (by simp only;omega),e];exact hda
  ·have:=j.zero.1
   rw [O.keep root hr.1 (by simp only;omega)];exact this
  ·by_cases h2:0≤rd s v
   ·have e:=O.keep v hv.1 h2
    simp only at e
    exact j.zero.2 v hv (by rw [← e];exact h0)
   ·obtain ⟨e,_⟩:=O.new v hv (by simp only;omega) (by omega)
    omega
theorem Lr {w h root v:Int} (hr:Y6 w h root) (hv:Y6 w h v):rd (start w h root) v=if v=root then 0 else -1:=by
 have hc:=Qz w h
 have h1:=hr.2
 have h2:=hv.2
 unfold start
 rw [Jd hr.1 (by simp;omega) hv.1]
 by_cases h3:v=root
 ·rw [if_pos h3,if_pos h3]
 ·rw [if_neg h3,if_neg h3]
  have:=Jj (s:=List.replicate (cnt w h).toNat (-1:Int)) hv.1 (by simp;omega)
  exact List.eq_of_mem_replicate this
theorem kj {w h root:Int} (b:List Int) (hr:Y6 w h root):Inv2 w h b root (start w h root) [root] []:=by
 refine ⟨fun v hv h0 h1=>?_,fun v hv h0=>?_,by rw [Lr hr hr,if_pos rfl],fun v hv h0=>?_⟩
 ·rw [Lr hr hv] at h0
  split at h0
  ·rename_i h2;simp [h2] at h1
  ·omega
 ·rw [Lr hr hv] at h0;split at h0<;>omega
 ·rw [Lr hr hv] at h0
  split at h0
  ·assumption
  ·omega
theorem Vp {w h root:Int} {b:List Int} (H:Zv w h b root):Inv2 w h b root (Wg w h b root) [] []:=
 (Rf H).inv2 H.2 (Ti H.2).1 (kj b H.2)
theorem Dc {w h:Int} {b:List Int} (hc:conn w h b) {r:Int} (hr:Y6 w h r):∀v,Y6 w h v→0≤rd (Wg w h b r) v:=by
 have h0:=A9 hc.1.2
 have H0:Zv w h b 0:=⟨hc.1,h0⟩
 have Hr:Zv w h b r:=⟨hc.1,hr⟩
 have i0:=Zh H0
 have j0:=Vp H0
 have j:=Vp Hr
 have Qq2:∀v,Y6 w h v→0≤rd (Wg w h b 0) v:=fun v hv=>by
  have hm:=Jj (s:=Wg w h b 0) hv.1 (by have:=hv.2;omega)
  have:=(i0.2 _ hm).1
  by_cases h1:rd (Wg w h b 0) v=-1
  ·rw [h1] at hm;exact absurd hm hc.2
  ·omega
 have down:∀(n:Nat) v,Y6 w h v→rd (Wg w h b 0) v=n→0≤rd (Wg w h b r) v→0≤rd (Wg w h b r) 0:=by
  intro n
  induction n with
  | zero=>
   intro v hv h1 h2
   have:=j0.zero.2 v hv (by omega)
   rw [this] at h2;exact h2
  | succ n ih=>
   intro v hv h1 h2
   obtain ⟨u,hu,hu1,q,hq,hlk,hnx⟩:=j0.pre v hv (by omega)
   obtain ⟨q',hq',hlk',hnx'⟩:=Cl hq hlk
   rw [hnx] at hlk' hnx'
   have h3:=j.cl v hv h2 (by simp) (by simp) q' hq' hlk'
   rw [hnx'] at h3
   exact ih u hu (by omega) h3
 have hr0:0≤rd (Wg w h b r) 0:=by
  have h1:=Qq2 r hr
  exact down _ r hr (Int.toNat_of_nonneg h1).symm (by have:=j.zero.1;omega)
 have up:∀(n:Nat) v,Y6 w h v→rd (Wg w h b 0) v=n→0≤rd (Wg w h b r) v:=by
  intro n
  induction n with
  | zero=>
   intro v hv h1
   have:=j0.zero.2 v hv (by omega)
   rw [this];exact hr0
  | succ n ih=>
   intro v hv h1
   obtain ⟨u,hu,hu1,q,hq,hlk,hnx⟩:=j0.pre v hv (by omega)
   have h3:=j.cl u hu (ih u hu (by omega)) (by simp) (by simp) q hq hlk
   rw [hnx] at h3;exact h3
 exact fun v hv=>up _ v hv (Int.toNat_of_nonneg (Qq2 v hv)).symm
theorem Qee {w h root:Int} {b:List Int} (H:Zv w h b root) {v:Int} (hv:Y6 w h v) (h0:0<rd (Wg w h b root) v) :
 ∃p:Nat,p<4∧K9 w h b (Wg w h b root) v=next w h v p∧link w h b (4*v+p)∧rd (Wg w h b root) (next w h v p)=rd (Wg w h b root) v-1:=by
 rcases Cy w h b (Wg w h b root) v with h1|⟨p,hp,h2,h3,_⟩
 ·exfalso
  obtain ⟨u,hu,hu1,q,hq,hlk,hnx⟩:=(Vp H).pre v hv h0
  obtain ⟨q',hq',hlk',hnx'⟩:=Cl hq hlk
  rw [hnx] at hlk' hnx'
  have ht:Yq w h b (Wg w h b root) v q':=⟨hlk',by rw [hnx'];exact hu1⟩
  unfold K9 at h1
  rw [if_pos h0] at h1
  have nn:∀p:Nat,p<4→Yq w h b (Wg w h b root) v p→next w h v p≠-1:=fun p hp ht hh=>by
   have:=(Za hp ht.1).2.1.1;omega
  by_cases t0:Yq w h b (Wg w h b root) v 0
  ·rw [if_pos t0] at h1;exact nn 0 (by omega) t0 h1
  rw [if_neg t0] at h1
  by_cases t1:Yq w h b (Wg w h b root) v 1
  ·rw [if_pos t1] at h1;exact nn 1 (by omega) t1 h1
  rw [if_neg t1] at h1
  by_cases t2:Yq w h b (Wg w h b root) v 2
  ·rw [if_pos t2] at h1;exact nn 2 (by omega) t2 h1
  rw [if_neg t2] at h1
  by_cases t3:Yq w h b (Wg w h b root) v 3
  ·rw [if_pos t3] at h1;exact nn 3 (by omega) t3 h1
  have:q'=0∨q'=1∨q'=2∨q'=3:=by omega
  rcases this with rfl|rfl|rfl|rfl
  ·exact t0 ht
  ·exact t1 ht
  ·exact t2 ht
  ·exact t3 ht
 ·exact ⟨p,hp,h2,h3.1,h3.2⟩
theorem gf {w h root:Int} {b:List Int} {v:Int} (h0:0≤v) (h1:v<(Wg w h b root).length):rd (Wb w h b root) v=K9 w h b (Wg w h b root) v:=by
 obtain ⟨i,rfl⟩:=Int.eq_ofNat_of_zero_le h0
 rw [Oo (by rw [Sy];omega)]
 simp [Wb,Qag]
section
variable {w h r:Int} {b:List Int} (hc:conn w h b) (hr:Y6 w h r)
include hc hr
theorem Eg:((Wb w h b r).length:Int)=cnt w h:=by rw [Sy];exact (Zh ⟨hc.1,hr⟩).1
theorem E2 {v:Int} (hv:Y6 w h v):(v=r∧rd (Wb w h b r) v=-1)∨∃p:Nat,p<4∧rd (Wb w h b r) v=next w h v p∧link w h b (4*v+p)∧Y6 w h (next w h v p)∧rd (Wg w h b r) (next w h v p)=rd (Wg w h b r) v-1:=by
 have H:Zv w h b r:=⟨hc.1,hr⟩
 have hl:=(Zh H).1
 have hv2:=hv.2
 rw [gf hv.1 (by omega)]
 have h0:=Dc hc hr v hv
 by_cases h1:rd (Wg w h b r) v=0
 ·refine .inl ⟨(Vp H).zero.2 v hv h1,?_⟩
  unfold K9;rw [if_neg (by omega)]
 ·obtain ⟨p,hp,h2,h3,h4⟩:=Qee H hv (by omega)
  exact .inr ⟨p,hp,h2,h3,(Za hp h3).2.1,h4⟩
theorem Sv {v:Int} (hv:Y6 w h v):Y0 (Wb w h b r) v=v::(if rd (Wb w h b r) v=-1 then [] else Y0 (Wb w h b r) (rd (Wb w h b r) v)):=by
 have:=Eg hc hr
 exact Qgn (Aa ⟨hc.1,hr⟩) hv.1 (by have:=hv.2;omega)
theorem zj:∀(n:Nat) {v:Int},Y6 w h v→rd (Wg w h b r) v=n→r∈Y0 (Wb w h b r) v:=by
 intro n
 induction n with
 | zero=>
  intro v hv h0
  rw [Sv hc hr hv]
  have:=(Vp ⟨hc.1,hr⟩).zero.2 v hv (by omega)
  simp [this]
 | succ n ih=>
  intro v hv h0
  rw [Sv hc hr hv]
  rcases E2 hc hr hv with ⟨h1,_⟩|⟨p,hp,h2,h3,h4,h5⟩
  ·simp [h1]
  ·rw [h2,if_neg (by have:=h4.1;omega)]
   exact List.mem_cons_of_mem _ (ih h4 (by omega))
theorem Qa0:∀(n:Nat) {v:Int},Y6 w h v→rd (Wg w h b r) v=n→∀(j:Nat) (hj:j+1<(Y0 (Wb w h b r) v).length),Y6 w h (Y0 (Wb w h b r) v)[j]∧Y6 w h (Y0 (Wb w h b r) v)[j+1]∧
 ∃p:Nat,p<4∧next w h (Y0 (Wb w h b r) v)[j] p=(Y0 (Wb w h b r) v)[j+1]∧link w h b (4*(Y0 (Wb w h b r) v)[j]+p):=by
 intro n
 induction n with
 | zero=>
  intro v hv h0 j hj
  have hroot:=(Vp ⟨hc.1,hr⟩).zero.2 v hv (by omega)
  have e:=Sv hc hr hv
  rcases E2 hc hr hv with ⟨_,h1⟩|⟨p,hp,h2,h3,h4,h5⟩
  ·rw [h1,if_pos rfl] at e;rw [e] at hj;simp at hj
  ·have:=Dc hc hr _ h4;omega
 | succ n ih=>
  intro v hv h0 j hj
  have e:=Sv hc hr hv
  rcases E2 hc hr hv with ⟨_,h1⟩|⟨p,hp,h2,h3,h4,h5⟩
  ·rw [h1,if_pos rfl] at e;rw [e] at hj;simp at hj
  ·rw [h2,if_neg (by have:=h4.1;omega)] at e
   have e2:=Sv hc hr h4
   cases j with
   | zero=>
    simp only [e]
    simp only [List.getElem_cons_zero,List.getElem_cons_succ]
    have e3:(Y0 (Wb w h b r) (next w h v p))[0]'(by rw [e2];simp)=next w h v p:=by simp only [e2,List.getElem_cons_zero]
    rw [e3]
    exact ⟨hv,h4,p,hp,rfl,h3⟩
   | succ j=>
    simp only [e] at hj ⊢
    simp only [List.getElem_cons_succ]
    exact ih h4 (by omega) j (by simpa using hj)
theorem xo {a c:Int} (ha:Y6 w h a) (hcn:Y6 w h c) (hne:a≠c):∃p:Nat,p<4∧1<(Xw (Wb w h b r) a c).length∧(Xw (Wb w h b r) a c)[1]? = some (next w h a p)∧0≤next w h a p:=by
 have dn:=fun {v:Int} (hv:Y6 w h v)=>(Int.toNat_of_nonneg (Dc hc hr v hv)).symm
 have ra:=zj hc hr _ ha (dn ha)
 have rc:=zj hc hr _ hcn (dn hcn)
 have hcom:0≤common (Wb w h b r) a c:=by
  unfold common
  cases hf:(Y0 (Wb w h b r) a).find? (fun x=>decide (x∈Y0 (Wb w h b r) c)) with
  | none=>rw [List.find?_eq_none] at hf;exact absurd (by simpa using rc) (hf r ra)
  | some u=>
   have:=Qk1 (List.mem_of_find?_eq_some hf)
   simpa using this.1
 obtain ⟨ma,mc⟩:=Ld hcom
 have ga:=Qa0 hc hr _ ha (dn ha)
 have gc:=Qa0 hc hr _ hcn (dn hcn)
 have ea:=Sv hc hr ha
 have ec:=Sv hc hr hcn
 unfold Xw
 rw [if_neg (by omega)]
 have ia:=List.idxOf_lt_length_iff.2 ma
 have ic:=List.idxOf_lt_length_iff.2 mc
 have va:(Y0 (Wb w h b r) a)[(Y0 (Wb w h b r) a).idxOf (common (Wb w h b r) a c)]=common (Wb w h b r) a c:=by
  have:=List.findIdx_getElem (p:=(· == common (Wb w h b r) a c)) (xs:=Y0 (Wb w h b r) a) (w:=ia)
  simpa using this
 have vc:(Y0 (Wb w h b r) c)[(Y0 (Wb w h b r) c).idxOf (common (Wb w h b r) a c)]=common (Wb w h b r) a c:=by
  have:=List.findIdx_getElem (p:=(· == common (Wb w h b r) a c)) (xs:=Y0 (Wb w h b r) c) (w:=ic)
  simpa using this
 generalize (Y0 (Wb w h b r) a).idxOf (common (Wb w h b r) a c)=ka at *
 generalize (Y0 (Wb w h b r) c).idxOf (common (Wb w h b r) a c)=kc at *
 have a0:(Y0 (Wb w h b r) a)[0]'(by omega)=a:=by simp only [ea,List.getElem_cons_zero]
 have c0:(Y0 (Wb w h b r) c)[0]'(by omega)=c:=by simp only [ec,List.getElem_cons_zero]
 by_cases hk:ka=0
 ·subst hk
  rw [a0] at va
  have hkc:kc≠0:=fun hh=>by subst hh;rw [c0] at vc;exact hne (va.trans vc.symm)
  obtain ⟨j,rfl⟩:∃j,kc=j+1:=⟨kc-1,by omega⟩
  obtain ⟨n1,n2,p,hp,hnx,hlk⟩:=gc j ic
  rw [vc,← va] at hnx
  obtain ⟨g1,g2,g3,_⟩:=geo hp n1 (by rw [hnx];exact ha.1)
  rw [hnx] at g1
  obtain ⟨q,hq⟩:=Int.eq_ofNat_of_zero_le g2
  rw [hq] at g1 g3
  refine ⟨q,by omega,by simp;omega,?_,by rw [g1];exact n1.1⟩
  rw [g1]
  have e1:((Y0 (Wb w h b r) a).take (0+1))=[a]:=by rw [ea];rfl
  have e2:(Y0 (Wb w h b r) c).take (j+1)=(Y0 (Wb w h b r) c).take j++[(Y0 (Wb w h b r) c)[j]]:=List.take_succ_eq_append_getElem (by omega)
  rw [e1,List.getElem?_append_right (by simp)]
  rw [e2,List.reverse_append];rfl
 ·obtain ⟨n1,n2,p,hp,hnx,hlk⟩:=ga 0 (by omega)
  rw [a0] at hnx
  refine ⟨p,hp,by simp;omega,?_,by rw [hnx];exact n2.1⟩
  rw [List.getElem?_append_left (by simp;omega),List.getElem?_take,if_pos (by omega),List.getElem?_eq_getElem (by omega),hnx]
end
end Go.Proofs.YtlhaeingdonaeaaGreat.V
set_option linter.all false
namespace Go.Proofs.YtlhaeingdonaeaaGreat.V
open Go Go.VM Go.Proofs
set_option maxRecDepth 10000
def key (g:Pi):Nat×Nat:=(g.1,g.2.1)
theorem Cs (x:Qu) (a:Nat):∀p,p≤5→((Ou x a p).1.map key).Nodup
 | 0,_=>by simp [Ou]
 | p+1,hp=>by
  have ih:=Cs x a p (by omega)
  obtain ⟨_,h2,_,_⟩:=P5 x a p (by omega)
  rw [Nu]
  unfold Ib
  generalize Ou x a p=st at *
  split
  ·rw [List.map_append]
   refine List.nodup_append.2 ⟨ih,by simp,fun y hy z hz e=>?_⟩
   obtain ⟨g,hg,rfl⟩:=List.mem_map.1 hy
   simp at hz
   have:=(h2 g hg).2.1
   rw [hz] at e
   unfold key at e
   simp only [Prod.mk.injEq] at e
   omega
  ·exact ih
theorem E8 (x:Qu):∀n,((T0 x n).map key).Nodup
 | 0=>by simp [T0]
 | n+1=>by
  rw [Oa,List.map_append]
  refine List.nodup_append.2 ⟨E8 x n,Cs x n 5 (by omega),fun y hy z hz e=>?_⟩
  obtain ⟨g,hg,rfl⟩:=List.mem_map.1 hy
  obtain ⟨g',hg',rfl⟩:=List.mem_map.1 hz
  have h1:=((R8 x n).1 g hg).1
  have h2:=((P5 x n 5 (by omega)).at' g' hg').1
  unfold key at e
  simp only [Prod.mk.injEq] at e
  omega
theorem Qhg {x:Qu} {a p c a' p' c':Nat} (h:has x.1.1 x.1.2.1 x.1.2.2 (4*(a:Int)+p)) (h':has x.1.1 x.1.2.1 x.1.2.2 (4*(a':Int)+p')) (hp:p<4) (hp':p'<4) (hc:c<2) (hc':c'<2)
 (ha:(a:Int)<cnt x.1.1 x.1.2.1) (ha':(a':Int)<cnt x.1.1 x.1.2.1) (e:Mf x a p c=Mf x a' p' c'):a=a'∧p=p':=by
 obtain ⟨u1,_,_⟩:=Sh (c:=c) h hp hc
 obtain ⟨v1,_,_⟩:=Sh (c:=c') h' hp' hc'
 obtain ⟨⟨n1,n2⟩,o1,o2⟩:=My (c:=c) h hp
 obtain ⟨⟨m1,m2⟩,q1,q2⟩:=My (c:=c') h' hp'
 obtain ⟨g1,_,_,_,g5⟩:=geo (w:=x.1.1) (h:=x.1.2.1) (a:=a) hp ⟨by omega,ha⟩ n1
 obtain ⟨k1,_,_,_,k5⟩:=geo (w:=x.1.1) (h:=x.1.2.1) (a:=a') hp' ⟨by omega,ha'⟩ m1
 have e1:next x.1.1 x.1.2.1 a p=next x.1.1 x.1.2.1 a' p':=by omega
 have e2:Ml (p:Int)=Ml (p':Int):=by omega
 rw [e1,e2] at g1
 rw [e2] at g5
 constructor<;>omega
theorem Qf4 (x:Qu):(Wf x).Pairwise fun g g'=>g.2.1≠4→g'.2.1≠4→Mf x g.1 g.2.1 (g.2.2%2)≠Mf x g'.1 g'.2.1 (g'.2.2%2):=by
 have hk:(Wf x).Pairwise fun g g'=>key g≠key g':=by
  have:=E8 x (cnt x.1.1 x.1.2.1).toNat
  exact List.pairwise_map.1 this
 refine hk.imp_of_mem fun {g g'} hg hg' hne h4 h4' e=>hne ?_
 obtain ⟨a1,a2,a3,a4⟩:=Tq hg
 obtain ⟨b1,b2,b3,b4⟩:=Tq hg'
 obtain ⟨hh,_⟩:=a4.2.1.resolve_left h4
 obtain ⟨hh',_⟩:=b4.2.1.resolve_left h4'
 obtain ⟨e1,e2⟩:=Qhg hh hh' (by omega) (by omega) (by omega) (by omega) a1 b1 e
 unfold key;rw [e1,e2]
def gets (x:Qu) (M:List Pi) (j:Nat):Prop:=∃g∈M,g.2.1≠4∧Mf x g.1 g.2.1 (g.2.2%2)=j
theorem Qih (x:Qu) (s:X9) (g:Pi) (j:Nat):((Xv x s g).getD j []).length≤(s.getD j []).length+1∧(¬(g.2.1≠4∧Mf x g.1 g.2.1 (g.2.2%2)=j)→(Xv x s g).getD j []=s.getD j []):=by
 unfold Xv
 split
 ·exact ⟨by omega,fun _=>rfl⟩
 ·rename_i h4
  by_cases e:Mf x g.1 g.2.1 (g.2.2%2)=j
  ·refine ⟨?_,fun k=>absurd ⟨h4,e⟩ k⟩
   rw [← e]
   by_cases hl:Mf x g.1 g.2.1 (g.2.2%2)<s.length
   ·rw [O8 _ hl];simp
   ·simp [Uo,List.set_eq_of_length_le (Nat.le_of_not_lt hl)]
  ·rw [Vi _ e];exact ⟨by omega,fun _=>rfl⟩
theorem Dh (x:Qu):∀(M:List Pi) (s:X9) (j:Nat),(M.Pairwise fun g g'=>g.2.1≠4→g'.2.1≠4→Mf x g.1 g.2.1 (g.2.2%2)≠Mf x g'.1 g'.2.1 (g'.2.2%2))→
 ((M.foldl (Xv x) s).getD j []).length≤(s.getD j []).length+1∧(¬gets x M j→(M.foldl (Xv x) s).getD j []=s.getD j [])
 | [],s,j,_=>⟨by simp,fun _=>rfl⟩
 | g::M,s,j,h=>by
  obtain ⟨h1,h2⟩:=List.pairwise_cons.1 h
  obtain ⟨i1,i2⟩:=Dh x M (Xv x s g) j h2
  obtain ⟨p1,p2⟩:=Qih x s g j
  rw [List.foldl_cons]
  by_cases hg:g.2.1≠4∧Mf x g.1 g.2.1 (g.2.2%2)=j
  ·have hn:¬gets x M j:=fun ⟨g',hg',k1,k2⟩=>h1 g' hg' hg.1 k1 (hg.2.trans k2.symm)
   rw [i2 hn]
   exact ⟨p1,fun k=>absurd ⟨g,List.mem_cons_self ..,hg⟩ k⟩
  ·rw [p2 hg] at i1 i2
   exact ⟨i1,fun k=>i2 fun ⟨g',hg',kk⟩=>k ⟨g',List.mem_cons_of_mem _ hg',kk⟩⟩
theorem Qb6 (x:Qu):∀(M:List Pi) (s:X9) (j:Nat),((M.foldl Te s).getD j []).length≤(s.getD j []).length
 | [],s,j=>Nat.le_refl _
 | g::M,s,j=>by
  refine Nat.le_trans (Qb6 x M (Te s g) j) ?_
  unfold Te
  by_cases e:S1 g=j
  ·rw [← e]
   by_cases hl:S1 g<s.length
   ·rw [O8 _ hl,List.length_drop];omega
   ·simp [Uo,List.set_eq_of_length_le (Nat.le_of_not_lt hl)]
  ·rw [Vi _ e];exact Nat.le_refl _
theorem yd (x:Qu):∀(E:List Nat) (s:X9) (j:Nat),(E.Pairwise fun k k'=>Ul x k≠Ul x k')→
 ((E.foldl (Ns x) s).getD j []).length≤(s.getD j []).length+1∧((¬∃k∈E,Ul x k=j)→(E.foldl (Ns x) s).getD j []=s.getD j [])
 | [],s,j,_=>⟨by simp,fun _=>rfl⟩
 | k::E,s,j,h=>by
  obtain ⟨h1,h2⟩:=List.pairwise_cons.1 h
  obtain ⟨i1,i2⟩:=yd x E (Ns x s k) j h2
  rw [List.foldl_cons]
  by_cases hk:Ul x k=j
  ·have hn:¬∃k'∈E,Ul x k'=j:=fun ⟨k',hk',e⟩=>h1 k' hk' (hk.trans e.symm)
   rw [i2 hn]
   refine ⟨?_,fun h=>absurd ⟨k,List.mem_cons_self ..,hk⟩ h⟩
   unfold Ns
   rw [← hk]
   by_cases hl:Ul x k<s.length
   ·rw [O8 _ hl];simp
   ·simp [Uo,List.set_eq_of_length_le (Nat.le_of_not_lt hl)]
  ·have e:(Ns x s k).getD j []=s.getD j []:=by unfold Ns;exact Vi _ hk
   rw [e] at i1 i2
   exact ⟨i1,fun h=>i2 fun ⟨k',hk',kk⟩=>h ⟨k',List.mem_cons_of_mem _ hk',kk⟩⟩
theorem Qah {x:Qu} (h:Zq x):(Wk x).Pairwise fun k k'=>Ul x k≠Ul x k':=by
 have:=Jl x
 refine List.Pairwise.imp_of_mem (fun {k k'} hk hk' hne e=>hne ?_) this
 obtain ⟨_,a1,_⟩:=Vo hk
 obtain ⟨_,b1,_⟩:=Vo hk'
 obtain ⟨⟨_,c1⟩,e1,_⟩:=Np h a1
 obtain ⟨⟨_,c2⟩,e2,_⟩:=Np h b1
 unfold Xa at c1 c2
 omega
theorem Qc9 {x:Qu} (h:Zq x) (hb:∀j,(x.2.2.1.getD j []).length≤3) (j:Nat):((Ud x).2.2.1.getD j []).length≤3:=by
 show (((Wk x).foldl (Ns x) ((Wf x).foldl (Xv x) ((Wf x).foldl Te x.2.2.1))).getD j []).length≤3
 obtain ⟨e1,e2⟩:=yd x (Wk x) ((Wf x).foldl (Xv x) ((Wf x).foldl Te x.2.2.1)) j (Qah h)
 obtain ⟨p1,p2⟩:=Dh x (Wf x) ((Wf x).foldl Te x.2.2.1) j (Qf4 x)
 have q:=Qb6 x (Wf x) x.2.2.1 j
 have b:=hb j
 by_cases hg:gets x (Wf x) j
 ·obtain ⟨g,hg,h4,ht⟩:=hg
  obtain ⟨a1,a2,a3,a4⟩:=Tq hg
  obtain ⟨hh,hr⟩:=a4.2.1.resolve_left h4
  rw [ht] at hr
  obtain ⟨t1,t2,t3⟩:=Sh (c:=g.2.2%2) hh (by omega) (by omega)
  obtain ⟨⟨n1,n2⟩,o1,o2⟩:=My (c:=g.2.2%2) hh (by omega)
  rw [ht] at t1
  have hne:¬∃k∈Wk x,Ul x k=j:=fun ⟨k,hk,e⟩=>by
   obtain ⟨_,b1,_⟩:=Vo hk
   obtain ⟨⟨_,c1⟩,e3,_⟩:=Np h b1
   unfold Xa at c1
   omega
  rw [e2 hne];omega
 ·rw [p2 hg] at e1 e2
  by_cases hk:∃k∈Wk x,Ul x k=j
  ·obtain ⟨k,hk,e⟩:=hk
   have:=(Vo hk).2.2
   rw [e] at this
   omega
  ·rw [e2 hk];omega
theorem vy {x:Qu} (h:W9 x) (ht:x.2.2.2.2.2.2.2<1000000):W9 (Ud x):=by
 have hr:=Vq h
 obtain ⟨r1,r2,r3,r4,r5⟩:=Fy hr
 obtain ⟨h1,h2,h3,h4,h5,h6,h7⟩:=h
 have hb:∀j,(x.2.2.1.getD j []).length≤3:=fun j=>by
  by_cases hl:j<x.2.2.1.length
  ·exact (h3 j hl).1
  ·simp [List.getD_eq_getElem?_getD,List.getElem?_eq_none (Nat.le_of_not_lt hl)]
 refine ⟨r1,r2,fun i hi=>⟨Qc9 hr hb i,fun f hf=>(r3 i f hf).1,fun f hf=>(r3 i f hf).2⟩,fun l hl=>⟨?_,fun f hf=>?_⟩,fun o ho=>?_,r5,?_⟩
 ·exact Qcs (L:=60) (Wk x) x.2.2.2.2.2.1 (fun l hl=>(h4 l hl).1) l hl
 ·obtain ⟨i,hi,rfl⟩:=List.getElem_of_mem hl
  exact r4 i f (by rw [List.getD_eq_getElem?_getD,List.getElem?_eq_getElem hi];exact hf)
 ·refine Tc (fun s:List Int=>∀o∈s,Xa (-1) o 4) (Wf x) x.2.2.2.1 h5 (fun s g hg hs o ho=>?_) o ho
  rcases List.mem_or_eq_of_mem_set ho with ho|rfl
  ·exact hs o ho
  ·have:=(Tq hg).2.2.1
   unfold Xa;split<;>omega
 ·unfold Xa at h7 ⊢
  show 0≤x.2.2.2.2.2.2.2+1∧x.2.2.2.2.2.2.2+1≤1000000
  omega
theorem Bo {x:Qu} (h:W9 x):∀k:Nat,x.2.2.2.2.2.2.2+k≤1000000→W9 (runN x k)
 | 0,_=>h
 | k+1,hk=>vy (Bo h k (by omega)) (by rw [Gv];omega)
def still (x:Qu):Prop:=Wf x=[]∧Wk x=[]
theorem Qaz {x:Qu} (h:still x):Ud x=older x 1:=by
 unfold Ud
 rw [h.1,h.2]
 rfl
theorem C9 {x:Qu} (h:still x):∀k,runN x k=older x k
 | 0=>by show x=older x (0:Nat);simp [older]
 | k+1=>by
  show Ud (runN x k)=_
  rw [C9 h k,Qaz (x:=older x k) h]
  show (x.1,x.2.1,x.2.2.1,x.2.2.2.1,x.2.2.2.2.1,x.2.2.2.2.2.1,x.2.2.2.2.2.2.1,x.2.2.2.2.2.2.2+(k:Int)+1)=(x.1,x.2.1,x.2.2.1,x.2.2.2.1,x.2.2.2.2.1,x.2.2.2.2.2.1,x.2.2.2.2.2.2.1,x.2.2.2.2.2.2.2+((k+1:Nat):Int))
  rw [show x.2.2.2.2.2.2.2+(k:Int)+1=x.2.2.2.2.2.2.2+((k+1:Nat):Int) by omega]
theorem Qae {x:Qu} (h:still x) (k:Nat):idle (runN x k)↔idle x:=by rw [C9 h k];exact Iff.rfl
end Go.Proofs.YtlhaeingdonaeaaGreat.V
set_option linter.all false
namespace Go.Proofs.YtlhaeingdonaeaaGreat.V
open Go Go.VM Go.Proofs
set_option maxRecDepth 10000
variable {frz:Nat} {H:Qd}
noncomputable def X8 (x:Qu):Int:=if runs x 400 then (match (List.range 401).find? fun i=>decide (idle (runN x i)) with|some i=>(i:Int)|none=>-1) else -1
noncomputable def Ux (x:Qu):Qu:=if 0≤X8 x then runN x (X8 x).toNat else x
def Qjl (H:Qd) (y:Qu) (k:Int) (r:Value) (H':Qd):Prop:=∃u,r=.tuple #[u,.int .i64 k]∧Qe.Made H y u H'
theorem I4 {x:Qu} (g:runs x 400) {i:Nat} (hi:i<401) (h:idle (runN x i)) (hn:∀j,j<i→¬idle (runN x j)):X8 x=i∧Ux x=runN x i:=by
 have e:X8 x=i:=by
  unfold X8;rw [if_pos g,Ms hi (decide_eq_true h) (fun j hj=>decide_eq_false (hn j hj))]
 refine ⟨e,?_⟩
 unfold Ux
 rw [e,if_pos (by omega),Int.toNat_natCast]
theorem Nj {x:Qu} (g:runs x 400) (hn:∀j,j<401→¬idle (runN x j)):X8 x=-1∧Ux x=x:=by
 have e:X8 x=-1:=by
  unfold X8;rw [if_pos g,T3 (fun j hj=>decide_eq_false (hn j hj))]
 refine ⟨e,?_⟩
 unfold Ux
 rw [e,if_neg (by omega)]
theorem M6 {x:Qu} (g:¬runs x 400):X8 x=-1∧Ux x=x:=by
 have e:X8 x=-1:=if_neg g
 refine ⟨e,?_⟩
 unfold Ux
 rw [e,if_neg (by omega)]
theorem Kb (x:Qu):X8 x=-1∨(0≤X8 x∧X8 x≤400∧runs x 400):=by
 unfold X8
 split
 ·rename_i g
  split
  ·rename_i i hi
   have:=List.mem_of_find?_eq_some hi
   have:=List.mem_range.1 this
   exact .inr ⟨by omega,by omega,g⟩
  ·exact .inl rfl
 ·exact .inl rfl
theorem Qe6 {v:Wo} {x:Qu} (o:Qe.Ow H v x) (h9:Xf 66000000 x.2.2.2.2.2.2.1) :
 wp (Qh C frz 144 [Qe.val v x] H) (Qjl H (Ux x) (X8 x)):=by
 have ones:=Qr o
 have ecopy:=fun K (c:Qp H K [])=>Sp (frz:=H.length) (H:=K) (v:=v) (x:=x) (Dt.chg (T:=Qe) o c (by simp))
 have ck:=fun F K (c:Qp H K [])=>xn (frz:=F) (H:=K) (v:=v) (x:=x) (k:=400) (Dt.chg (T:=Qe) o c (by simp))
 simp only [Qk] at ecopy ck ⊢
 rw [Qb (fn:=Tryz.f144) Tryz.func144 rfl (by kernel_rfl) rfl]
 simp [ones]
 refine Ql (ecopy _ (Qp.app _)) ?_
 rintro _ K ⟨n,rfl,on,cn,mn,dn⟩
 simp at mn
 have qn:=Qr on
 have lK:=cn.1
 simp at lK
 have hF:H.length≤K.length:=by omega
 have ltn:∀i∈Qe.ids n,i<K.length:=fun i hi=>Qe.lt on i hi
 simp [Qk,qn,VM.look,hF]
 obtain ⟨K1,hK1⟩:∃K1,K1=K++[⟨Qc n x,0,48⟩]:=⟨_,rfl⟩
 have c1:Qp K K1 []:=by rw [hK1];exact Qp.app _
 have cK:Qp H K []:=(Qp.app _).trans cn
 have cK1:=cK.trans c1
 have l1:K1.length=K.length+1:=by rw [hK1];simp
 have b1:K1[H.length]? = some ⟨Qc v x,0,48⟩:=Qa (Qa (by simp [Qc]) cn (by simp)) c1 (by simp)
 have bR:K1[H.length+1]? = some ⟨[.int .i64 0,.int .i64 0,.slice none 0 0,.slice none 0 0,.slice none 0 0,.slice none 0 0,.slice none 0 0,.slice none 0 0,.slice none 0 0,.slice none 0 0,.int .i64 0],0,48⟩:=Qa (Qa (by simp) cn (by simp)) c1 (by simp)
 have b3:K1[K.length]? = some ⟨Qc n x,0,48⟩:=by rw [hK1];simp
 have on1:=Dt.chg (T:=Qe) on c1 (by simp)
 have hKs:K++[⟨Qc n x,0,48⟩]=K1:=hK1.symm
 have b1':=b1
 unfold Qc at hKs b1'
 rw [hKs]
 clear hK1 hKs
 have ck':=fun F=>ck F K1 cK1
 have hF1:H.length≤H.length+1:=by omega
 -- what is handed back
 have fin:∀(J:Qd) (w:Wo) (y:Qu) (b:Int),Qp H J []→
  Qe.Ow J w y→(Qe.ids w).Nodup→(∀i∈Qe.ids w,H.length+2≤i)→Ux x=y→X8 x=b→Qjl H (Ux x) (X8 x) (.tuple #[Qe.val w y,.int .i64 b]) (J.set (H.length+1) ⟨Qc w y,0,48⟩):=fun J w y b cJ oJ dJ mJ e1 e2=>by
  rw [e1,e2]
  exact ⟨_,rfl,w,rfl,Dt.chg (T:=Qe) oJ (Qn _ _) (fun i hi hh=>by have:=mJ i hi;simp at hh;omega),cJ.trans' (Qn _ _) (fun i hi=>.inr (by simp at hi;omega)),fun i hi=>by have:=mJ i hi;omega,dJ⟩
 by_cases g0:runs x 400
 rotate_left
 ·obtain ⟨e1,e2⟩:=M6 g0
  have gR:=Qq (r':=⟨Qc n x,0,48⟩) bR
  have hM:=fin K1 n x (-1) cK1 on1 dn (fun i hi=>by have:=mn i hi;omega) e2 e1
  have b3':=b3
  unfold Qc at b3' gR
  simp [VM.look,b1',ones,ck',g0,b3',bR,gR,qn,hF1]
  simpa [Qk,Qc] using hM
 have ht:=g0.1.2.2.2.2.2.2
 have ht2:=g0.2.2
 unfold Xa at ht
 have hro:=Vq g0.1
 have ra:=fun i (hi:i≤400)=>Ah (i:=i) hro (Pa g0.1) h9 hi
 simp [VM.look,b1',ones,ck',g0]
 refine Qw (fun q t J=>∃(i:Nat) (w:Wo),q=401-i∧i≤401∧t 1=.pointer (some ⟨H.length,0,some 0⟩)∧t 2=.pointer (some ⟨H.length+1,0,some 0⟩)∧t 4=.pointer (some ⟨K.length,0,some 0⟩)∧t 12=.int .i64 i∧J[K.length]? = some ⟨Qc w (runN x i),0,48⟩∧Qe.Ow J w (runN x i)∧(Qe.ids w).Nodup∧(∀i∈Qe.ids w,H.length+2≤i∧i≠K.length)∧
  J[H.length]? = some ⟨Qc v x,0,48⟩∧
  J[H.length+1]? = some ⟨[.int .i64 0,.int .i64 0,.slice none 0 0,.slice none 0 0,.slice none 0 0,.slice none 0 0,.slice none 0 0,.slice none 0 0,.slice none 0 0,.slice none 0 0,.int .i64 0],0,48⟩∧Qp H J []∧∀j,j<i→¬idle (runN x j)) ?_ (n:=401)
  ⟨0,n,rfl,by omega,by simp,by simp,by simp,by simp,b3,on1,dn,fun i hi=>⟨by have:=mn i hi;omega,by have:=ltn i hi;omega⟩,b1,bR,cK1,by omega⟩
 rintro q t J ⟨i,w,rfl,hi,t1,t2,t4,t12,bJ,oJ,dJ,mJ,bO,bRJ,cJ,hno⟩ ih
 simp [t1,t2,t4,t12]
 refine Qm ?_ ?_<;>intro g
 ·have hi':i<401:=by omega
  obtain ⟨r1,r2,r3,r4⟩:=ra i (by omega)
  have lJ:=Wj bJ
  have ic:=fun F=>xh (frz:=F) (H:=J) (id:=K.length) (v5:=w.2.2.1) (v8:=w.2.2.2.2.2.1) bJ oJ.2.2.1 oJ.2.2.2.2.2.1
  have oneJ:=Qr oJ
  simp [t1,t2,t4,t12,ic]
  by_cases g1:idle (runN x i)
  ·obtain ⟨e1,e2⟩:=I4 g0 hi' g1 hno
   have gR:=Qq (r':=⟨Qc w (runN x i),0,48⟩) bRJ
   have hM:=fin J w (runN x i) i cJ oJ dJ (fun j hj=>(mJ j hj).1) e2 e1
   have g1':=g1
   unfold idle at g1'
   unfold Qc at bJ gR
   simp [t1,t2,t4,t12,g1',VM.look,bJ,bRJ,gR,oneJ,hF1]
   simpa [Qk,Qc] using hM
  have g1':¬(Xo (runN x i).2.2.1=0∧Xo (runN x i).2.2.2.2.2.1=0):=g1
  have g1b:(decide (Xo (runN x i).2.2.1=0)&&decide (Xo (runN x i).2.2.2.2.2.1=0))=false:=by
   rw [← Bool.decide_and];exact decide_eq_false g1'
  have st:=Qgc (frz:=H.length) (id:=K.length) (tail:=[]) (e:=48) (by simpa using bJ) oJ dJ (fun i hi=>by have:=(mJ i hi).1;omega) hF (fun hh=>(mJ _ hh).2 rfl) cJ.1 r1 r2 r3 (by rw [r4];unfold Xa;omega)
  rw [g1b]
  simp [t1,t2,t4,t12]
  refine Ql st ?_
  rintro _ J2 ⟨w2,s1,s2,s3,s4,s5⟩
  rw [List.append_nil] at s1
  simp [t1,t2,t4,t12]
  refine ih (401-(i+1)) _ _ ⟨i+1,w2,rfl,by omega,by simp [t1],by simp [t2],by simp [t4],?_,s1,s2,s3,fun j hj=>?_,Qa bO s5 (fun hh=>?_),Qa bRJ s5 (fun hh=>?_),cJ.trans' s5 (fun j hj=>?_),fun j hj=>?_⟩ (by omega)
  ·simp [t12];rw [Q0 (by omega) (by omega)]
  ·rcases s4 j hj with h|h
   ·exact mJ j h
   ·exact ⟨by omega,by omega⟩
  ·rcases List.mem_cons.1 hh with h|h
   ·omega
   ·have:=(mJ _ h).1;omega
  ·rcases List.mem_cons.1 hh with h|h
   ·omega
   ·have:=(mJ _ h).1;omega
  ·right
   rcases List.mem_cons.1 hj with h|h
   ·omega
   ·have:=(mJ _ h).1;omega
  ·by_cases hji:j<i
   ·exact hno j hji
   ·have:j=i:=by omega
    subst this;exact g1
 ·have:i=401:=by omega
  subst this
  obtain ⟨e1,e2⟩:=Nj g0 hno
  have bO':=bO
  unfold Qc at bO'
  simp [t1,t2,t4,t12,VM.look,bO',ones]
  refine Ql (ecopy J cJ) ?_
  rintro _ J2 ⟨n2,rfl,on2,cn2,mn2,dn2⟩
  have qn2:=Qr on2
  have bR2:=Qa bRJ cn2 (by simp)
  have lR:=Wj bRJ
  have gR:=Qq (r':=⟨Qc n2 x,0,48⟩) bR2
  have hM:=fin J2 n2 x (-1) (cJ.trans cn2) on2 dn2 (fun i hi=>by have:=mn2 i hi;omega) e2 e1
  unfold Qc at gR
  simp [Qk,VM.look,t1,t2,bR2,gR,qn2,hF1]
  simpa [Qk,Qc] using hM
theorem wo {v:Wo} {x:Qu} (o:Qe.Ow H v x) (h9:Xf 66000000 x.2.2.2.2.2.2.1) :
 Qh C frz 66 [Qe.val v x] H=some (.int .i64 (X8 x),H):=by
 refine wp.exact (by simp) ?_ rfl
 have ones:=Qr o
 have hlt:=Qe.lt o
 have nk:=fun F L=>T1 (frz:=F) (H:=H++L) (v:=v) (x:=x) (Dt.app (T:=Qe) o)
 simp only [Qk] at nk ⊢
 rw [Qb (fn:=Tryz.f66) Tryz.func66 rfl (by kernel_rfl) rfl]
 by_cases h1:W9 x
 rotate_left
 ·have e:=(M6 (x:=x) (fun k=>h1 k.1)).1
  simp [ones,VM.look,nk,h1,e]
 have ht:=h1.2.2.2.2.2.2
 unfold Xa at ht
 have w1:=@w6 (x.2.2.2.2.2.2.2+400) (by omega)
 by_cases h2:1000000<x.2.2.2.2.2.2.2+400
 ·have e:=(M6 (x:=x) (fun k=>by have:=k.2.2;omega)).1
  simp [ones,VM.look,nk,h1,w1,h2,e]
 have g0:runs x 400:=⟨h1,⟨by omega,by omega⟩,by omega⟩
 have hro:=Vq h1
 have ra:=fun i (hi:i≤400)=>Ah (i:=i) hro (Pa h1) h9 hi
 obtain ⟨G,hG⟩:∃G,G=H++[⟨Qc v x,0,48⟩,⟨Qc v x,0,48⟩]:=⟨_,rfl⟩
 have cG:Qp H G []:=by rw [hG];exact Qp.app _
 have b3:G[H.length+1]? = some ⟨Qc v x,0,48⟩:=by rw [hG];simp
 have hGs:=hG.symm
 unfold Qc at hGs
 simp [ones,VM.look,nk,h1,w1,h2]
 rw [hGs]
 clear hG hGs
 refine Qw (fun q t J=>∃(i:Nat) (w:Wo),q=401-i∧i≤401∧t 3=.pointer (some ⟨H.length+1,0,some 0⟩)∧t 4=.int .i64 i∧J[H.length+1]? = some ⟨Qc w (runN x i),0,48⟩∧Qe.Ow J w (runN x i)∧(∀i∈Qe.ids w,i∈Qe.ids v∨H.length+2≤i)∧
  Qp H J []∧∀j,j<i→¬idle (runN x j)) ?_ (n:=401)
  ⟨0,v,rfl,by omega,by simp,by simp,b3,Dt.chg (T:=Qe) o cG (by simp),fun i hi=>.inl hi,cG,by omega⟩
 rintro q t J ⟨i,w,rfl,hi,t3,t4,bJ,oJ,mJ,cJ,hno⟩ ih
 simp [t3,t4]
 refine Qm ?_ ?_<;>intro g
 ·have hi':i<401:=by omega
  obtain ⟨r1,r2,r3,r4⟩:=ra i (by omega)
  have lJ:=Wj bJ
  have oneJ:=Qr oJ
  have idl:=fun F=>Jm (frz:=F) oJ
  simp only [Qk] at idl
  have bJ':=bJ
  unfold Qc at bJ'
  simp [t3,t4,VM.look,bJ',oneJ,idl]
  by_cases g1:idle (runN x i)
  ·obtain ⟨e1,e2⟩:=I4 g0 hi' g1 hno
   simp [t3,t4,g1,e1]
  simp [t3,t4,g1]
  rw [Qv (h:=by kernel_rfl)]
  simp [t3,t4,VM.look,bJ',oneJ]
  have eal:=ym (frz:=H.length) oJ r1
  simp only [Qk] at eal
  refine Ql eal ?_
  rintro gl J1 ⟨oG,nG,cG1⟩
  have bJ1:=Qa bJ cG1 (by simp)
  have oJ1:=Dt.chg (T:=Qe) oJ cG1 (by simp)
  have lg:=oG.rd.len (P:=Tryz.prog) (ty:=156) (by simp)
  have Qos:=bJ1
  unfold Qc at Qos
  have een:=Mi (frz:=H.length) oJ1 r1
  simp only [Qk] at een
  simp [t3,t4,VM.look,Qos,oneJ,lg]
  refine Ql een ?_
  rintro el J2 ⟨oE,nE,cE⟩
  have bJ2:=Qa bJ1 cE (by simp)
  have oJ2:=Dt.chg (T:=Qe) oJ1 cE (by simp)
  have le:=oE.rd.len (P:=Tryz.prog) (ty:=24) (by simp)
  rw [List.length_map] at le
  have hA:=Kx (runN x i)
  have hE:=Of (runN x i)
  have w2:∀[Inhabited Unit],IntKind.i64.wrap (((Wf (runN x i)).length:Int)+((Wk (runN x i)).length:Int))=(((Wf (runN x i)).length+(Wk (runN x i)).length:Nat):Int):=by intro _;rw [Q0 (by omega) (by omega)];omega
  obtain ⟨S,hS⟩:∃S,S=(Wf (runN x i)).length+(Wk (runN x i)).length:=⟨_,rfl⟩
  rw [← hS] at w2
  have Qcg:=bJ2
  unfold Qc at Qcg
  simp [t3,t4,VM.look,Qcg,oneJ,le,w2]
  by_cases g2:S=0
  ·have hst:still (runN x i):=⟨List.length_eq_zero_iff.1 (by omega),List.length_eq_zero_iff.1 (by omega)⟩
   have e1:=(Nj g0 (fun j hj=>by
    by_cases hji:j<i
    ·exact hno j hji
    ·have h3:=Qae hst (j-i)
     have h4:=A6 x i (j-i)
     rw [show i+(j-i)=j by omega] at h4
     rw [← h4] at h3
     exact fun k=>g1 (h3.1 k))).1
   simp [t3,t4,g2,e1]
  have st:=Ba (frz:=H.length) oJ2 r1 r2 r3 (by rw [r4];unfold Xa;omega)
  simp only [Qk] at st
  simp [t3,t4,g2,VM.look,Qcg,oneJ]
  refine Ql st ?_
  rintro _ J3 ⟨w3,rfl,s2,s5,s4,s3⟩
  have Xz:=Qr s2
  have bJ3:=Qa bJ2 s5 (by simp)
  have gN:=Qq (r':=⟨Qc w3 (Ud (runN x i)),0,48⟩) bJ3
  have cN:Qp J3 (J3.set (H.length+1) ⟨Qc w3 (Ud (runN x i)),0,48⟩) [H.length+1]:=Qn _ _
  have hF1:H.length≤H.length+1:=by omega
  have l3:=s5.1
  have l1:=cG1.1
  have l2:=cE.1
  have Qqa:=bJ3
  unfold Qc at Qqa
  simp [Qk,t3,t4,VM.look,Qqa,Xz,hF1]
  refine ih (401-(i+1)) _ _ ⟨i+1,w3,rfl,by omega,by simp [t3],?_,gN,Dt.chg (T:=Qe) s2 cN (fun k hk hh=>by have:=s4 k hk;simp at hh;omega),fun k hk=>.inr (by have:=s4 k hk;omega),(((cJ.trans cG1).trans cE).trans s5).trans' cN (fun k hk=>.inr (by simp at hk;omega)),fun j hj=>?_⟩ (by omega)
  ·simp [t4];rw [Q0 (by omega) (by omega)]
  ·by_cases hji:j<i
   ·exact hno j hji
   ·have:j=i:=by omega
    subst this;exact g1
 ·have:i=401:=by omega
  subst this
  have e1:=(Nj g0 hno).1
  simp [t3,t4,e1]
theorem Qaj {v:Wo} {x:Qu} (o:Qe.Ow H v x) (h9:Xf 66000000 x.2.2.2.2.2.2.1) :
 wp (Qh C frz 67 [Qe.val v x] H) (Xr Qe H (Ux x) (decide (0≤X8 x))):=by
 have ones:=Qr o
 have ecopy:=fun L=>U4 (frz:=H.length) (H:=H++L) (v:=v) (x:=x) (Dt.app (T:=Qe) o)
 have ss:=fun F L=>wo (frz:=F) (H:=H++L) (v:=v) (x:=x) (Dt.app (T:=Qe) o) h9
 simp only [Qk] at ecopy ss ⊢
 rw [Qb (fn:=Tryz.f67) Tryz.func67 rfl (by kernel_rfl) rfl]
 have hF1:H.length≤H.length+1:=by omega
 have fin:∀(J:Qd) (w:Wo) (y:Qu) (b:Bool),Qp H J []→
  Qe.Ow J w y→(Qe.ids w).Nodup→(∀i∈Qe.ids w,H.length+2≤i)→Ux x=y→decide (0≤X8 x)=b→Xr Qe H (Ux x) (decide (0≤X8 x)) (.tuple #[Qe.val w y,.bool b]) (J.set (H.length+1) ⟨Qc w y,0,48⟩):=fun J w y b cJ oJ dJ mJ e1 e2=>by
  rw [e1,e2]
  exact ⟨_,rfl,w,rfl,Dt.chg (T:=Qe) oJ (Qn _ _) (fun i hi hh=>by have:=mJ i hi;simp at hh;omega),cJ.trans' (Qn _ _) (fun i hi=>.inr (by simp at hi;omega)),fun i hi=>by have:=mJ i hi;omega,dJ⟩
 rcases Kb x with g|⟨g1,g2,g0⟩
 ·have ei:Ux x=x:=by unfold Ux;rw [if_neg (by omega)]
  simp [ones,VM.look,ss,g]
  refine Ql (ecopy _) ?_
  rintro _ K ⟨n,rfl,on,cn,mn,dn⟩
  simp at mn
  have qn:=Qr on
  have bR:K[H.length+1]? = some ⟨[.int .i64 0,.int .i64 0,.slice none 0 0,.slice none 0 0,.slice none 0 0,.slice none 0 0,.slice none 0 0,.slice none 0 0,.slice none 0 0,.slice none 0 0,.int .i64 0],0,48⟩:=Qa (by simp) cn (by simp)
  have gR:=Qq (r':=⟨Qc n x,0,48⟩) bR
  have hM:=fin K n x false ((Qp.app _).trans cn) on dn (fun i hi=>by have:=mn i hi;omega) ei (by rw [g];rfl)
  unfold Qc at gR
  simp [Qk,VM.look,bR,gR,qn,hF1]
  simpa [g,Qk,Qc] using hM
 ·obtain ⟨m,hm⟩:∃m:Nat,X8 x=m:=⟨(X8 x).toNat,by omega⟩
  rw [hm] at g1 g2 fin
  have ei:Ux x=runN x m:=by unfold Ux;rw [hm,if_pos g1,Int.toNat_natCast]
  have ht:=g0.1.2.2.2.2.2.2
  have ht2:=g0.2.2
  unfold Xa at ht
  have hro:=Vq g0.1
  rw [hm]
  have hm0:¬(m:Int)<0:=by omega
  simp [ones,VM.look,ss,hm,hm0]
  refine Ql (ecopy _) ?_
  rintro _ K ⟨n,rfl,on,cn,mn,dn⟩
  simp at mn
  have qn:=Qr on
  have rr:=zm (frz:=H.length) on dn (m:=m) (by omega) hro (Pa g0.1) h9 ht.1 (by omega)
  simp only [Qk] at rr
  have lK:=cn.1
  simp at lK
  simp [Qk,qn]
  refine Ql rr ?_
  rintro _ J ⟨w,rfl,ow,dw,mw,cw⟩
  have onew:=Qr ow
  have cJ:Qp H J []:=((Qp.app _).trans cn).trans cw
  have bR:J[H.length+1]? = some ⟨[.int .i64 0,.int .i64 0,.slice none 0 0,.slice none 0 0,.slice none 0 0,.slice none 0 0,.slice none 0 0,.slice none 0 0,.slice none 0 0,.slice none 0 0,.int .i64 0],0,48⟩:=Qa (Qa (by simp) cn (by simp)) cw (by simp)
  have gR:=Qq (r':=⟨Qc w (runN x m),0,48⟩) bR
  have hM:=fin J w (runN x m) true cJ ow dw (fun i hi=>by
   rcases mw i hi with h|h
   ·have:=mn i h;omega
   ·omega) ei (decide_eq_true g1)
  unfold Qc at gR
  simp [Qk,VM.look,bR,gR,onew,hF1]
  simpa [g1,Qk,Qc] using hM
def Ol (k p q r s:Int):Prop:=
 if k=1 then Xa 0 p 15∧Xa 0 q 15∧Xa 0 r 1∧Xa 1 s 5 else if k=2 then Xa 1 p 100∧q=0∧r=0∧s=0 else if k=3 then p=0∧q=0∧r=0∧s=0
 else if k=4 then Xa 0 p 63∧q=0∧r=0∧s=0 else k=5∧Xa 1 p 4∧Xa 1 q 4∧r=0∧s=0
instance (k p q r s:Int):Decidable (Ol k p q r s):=by unfold Ol;infer_instance
theorem Qf6 (a b c d e a' b' c' d' e':Int):R6 [0,0,0,0,0] [.int .i64 a,.int .i64 b,.int .i64 c,.int .i64 d,.int .i64 e] [.int .i64 a',.int .i64 b',.int .i64 c',.int .i64 d',.int .i64 e']=some (decide (a=a'∧b=b'∧c=c'∧d=d'∧e=e')):=by
 have:=Qgb (a,b,c,d,e) (a',b',c',d',e')
 simpa [U7,-R6] using this
theorem Qhm (k p q r s:Int):Qh C frz 33 [.agg #[.int .i64 k,.int .i64 p,.int .i64 q,.int .i64 r,.int .i64 s]] H=some (.agg #[.int .i64 k,.int .i64 p,.int .i64 q,.int .i64 r,.int .i64 s],H):=by
 rw [Qb (fn:=Tryz.f33) Tryz.func33 rfl (by kernel_rfl) rfl]
 simp
theorem Qip (k p q r s:Int):Qh C frz 79 [.agg #[.int .i64 k,.int .i64 p,.int .i64 q,.int .i64 r,.int .i64 s]] H=some (.bool (decide (Ol k p q r s)),H):=by
 refine wp.exact (by simp) ?_ rfl
 rw [Qb (fn:=Tryz.f79) Tryz.func79 rfl (by kernel_rfl) rfl]
 unfold Ol
 by_cases k1:k=1
 ·by_cases h1:Xa 0 p 15
  ·by_cases h2:Xa 0 q 15
   ·by_cases h3:Xa 0 r 1
    ·by_cases h4:Xa 1 s 5<;>simp [VM.look,k1,Wd,h1,h2,h3,h4]
    ·simp [VM.look,k1,Wd,h1,h2,h3]
   ·simp [VM.look,k1,Wd,h1,h2]
  ·simp [VM.look,k1,Wd,h1]
 by_cases k2:k=2
 ·by_cases h1:Xa 1 p 100
  ·by_cases h2:q=0
   ·by_cases h3:r=0
    ·by_cases h4:s=0<;>simp [VM.look,k1,k2,Wd,h1,h2,h3,h4]
    ·simp [VM.look,k1,k2,Wd,h1,h2,h3]
   ·simp [VM.look,k1,k2,Wd,h1,h2]
  ·simp [VM.look,k1,k2,Wd,h1]
 by_cases k3:k=3
 ·simp [VM.look,k1,k2,k3,Qf6,-R6]
 by_cases k4:k=4
 ·by_cases h1:Xa 0 p 63
  ·by_cases h2:q=0
   ·by_cases h3:r=0
    ·by_cases h4:s=0<;>simp [VM.look,k1,k2,k3,k4,Wd,h1,h2,h3,h4]
    ·simp [VM.look,k1,k2,k3,k4,Wd,h1,h2,h3]
   ·simp [VM.look,k1,k2,k3,k4,Wd,h1,h2]
  ·simp [VM.look,k1,k2,k3,k4,Wd,h1]
 by_cases k5:k=5
 ·by_cases h1:Xa 1 p 4
  ·by_cases h2:Xa 1 q 4
   ·by_cases h3:r=0
    ·by_cases h4:s=0<;>simp [VM.look,k1,k2,k3,k4,k5,Wd,h1,h2,h3,h4]
    ·simp [VM.look,k1,k2,k3,k4,k5,Wd,h1,h2,h3]
   ·simp [VM.look,k1,k2,k3,k4,k5,Wd,h1,h2]
  ·simp [VM.look,k1,k2,k3,k4,k5,Wd,h1]
 simp [VM.look,k1,k2,k3,k4,k5]
theorem Qer (k p q r s:Int):Qh C frz 60 [.agg #[.int .i64 k,.int .i64 p,.int .i64 q,.int .i64 r,.int .i64 s]] H=some (.bool (decide (Ol k p q r s)),H):=by
 refine wp.exact (by simp) ?_ rfl
 rw [Qb (fn:=Tryz.f60) Tryz.func60 rfl (by kernel_rfl) rfl]
 unfold Ol
 by_cases k1:k=1
 ·by_cases h1:Xa 0 p 15
  ·by_cases h2:Xa 0 q 15
   ·by_cases h3:Xa 0 r 1
    ·by_cases h4:Xa 1 s 5<;>simp [VM.look,k1,Ws,h1,h2,h3,h4]
    ·simp [VM.look,k1,Ws,h1,h2,h3]
   ·simp [VM.look,k1,Ws,h1,h2]
  ·simp [VM.look,k1,Ws,h1]
 by_cases k2:k=2
 ·by_cases h1:Xa 1 p 100
  ·by_cases h2:q=0
   ·by_cases h3:r=0
    ·by_cases h4:s=0<;>simp [VM.look,k1,k2,Ws,h1,h2,h3,h4]
    ·simp [VM.look,k1,k2,Ws,h1,h2,h3]
   ·simp [VM.look,k1,k2,Ws,h1,h2]
  ·simp [VM.look,k1,k2,Ws,h1]
 by_cases k3:k=3
 ·simp [VM.look,k1,k2,k3,Qf6,-R6]
 by_cases k4:k=4
 ·by_cases h1:Xa 0 p 63
  ·by_cases h2:q=0
   ·by_cases h3:r=0
    ·by_cases h4:s=0<;>simp [VM.look,k1,k2,k3,k4,Ws,h1,h2,h3,h4]
    ·simp [VM.look,k1,k2,k3,k4,Ws,h1,h2,h3]
   ·simp [VM.look,k1,k2,k3,k4,Ws,h1,h2]
  ·simp [VM.look,k1,k2,k3,k4,Ws,h1]
 by_cases k5:k=5
 ·by_cases h1:Xa 1 p 4
  ·by_cases h2:Xa 1 q 4
   ·by_cases h3:r=0
    ·by_cases h4:s=0<;>simp [VM.look,k1,k2,k3,k4,k5,Ws,h1,h2,h3,h4]
    ·simp [VM.look,k1,k2,k3,k4,k5,Ws,h1,h2,h3]
   ·simp [VM.look,k1,k2,k3,k4,k5,Ws,h1,h2]
  ·simp [VM.look,k1,k2,k3,k4,k5,Ws,h1]
 simp [VM.look,k1,k2,k3,k4,k5]
theorem vx (b:Bool):Qh C frz 141 [.bool b] H=some (.int .i64 (if b then 1 else 0),H):=by
 rw [Qb (fn:=Tryz.f141) Tryz.func141 rfl (by kernel_rfl) rfl]
 cases b<;>simp
theorem Qes (b:Bool):Qh C frz 62 [.bool b] H=some (.int .i64 (if b then 1 else 0),H):=by
 rw [Qb (fn:=Tryz.f62) Tryz.func62 rfl (by kernel_rfl) rfl]
 cases b<;>simp
def fresh (x:Qu) (m:Df) (t:Yt):Qu:=(m,t,x.2.2.1,List.replicate x.2.2.2.1.length (-1),List.replicate x.2.2.2.2.1.length 0,x.2.2.2.2.2.1,x.2.2.2.2.2.2.1,x.2.2.2.2.2.2.2)
theorem Ax {xs:List Int} {z:Int} {i:Nat} (h:i<xs.length):(List.replicate i z++xs.drop i).set i z=List.replicate (i+1) z++xs.drop (i+1):=by
 rw [List.set_append_right _ _ (by simp),List.length_replicate,Nat.sub_self,List.drop_eq_getElem_cons h,List.set_cons_zero,List.replicate_succ']
 simp
theorem Db {v:Wo} {x:Qu} {vm:Value} {w' h':Int} {b':List Int} {vc:Value×Value} {c':Yt} (o:Qe.Ow H v x) (om:Qx.Ow H vm (w',h',b')) (oc:Qi.Ow H vc c') :
 wp (Qh C frz 182 [Qe.val v x,.agg #[.int .i64 w',.int .i64 h',vm],.agg #[vc.1,vc.2]] H) (Qe.Made H (fresh x (w',h',b') c')):=by
 have ones:=Qr o
 have onem:=Zs om
 have onec:=W6 oc
 have ecopy:=fun L=>Sp (frz:=H.length) (H:=H++L) (v:=v) (x:=x) (Dt.app (T:=Qe) o)
 obtain ⟨u2,⟨u3,u4⟩,⟨u5,h5⟩,u6,u7,⟨u8,h8⟩,⟨u9,h9⟩,_⟩:=v
 obtain ⟨⟨w,h,b⟩,⟨A,B⟩,buf,own,turn,src,arr,tm⟩:=x
 simp only at ones
 simp only [Qk] at ecopy ⊢
 rw [Qb (fn:=Tryz.f182) Tryz.func182 rfl (by kernel_rfl) rfl]
 simp [ones,onem,onec]
 refine Ql (ecopy _) ?_
 rintro _ K1 ⟨n,rfl,o1,c1,m1,d1⟩
 clear ecopy
 have bM:K1[H.length+1]? = some ⟨[.int .i64 w',.int .i64 h',vm],0,42⟩:=Qa (by simp) c1 (by simp)
 have bC:K1[H.length+2]? = some ⟨[vc.1,vc.2],0,45⟩:=Qa (by simp) c1 (by simp)
 have bR:K1[H.length+3]? = some ⟨[.int .i64 0,.int .i64 0,.slice none 0 0,.slice none 0 0,.slice none 0 0,.slice none 0 0,.slice none 0 0,.slice none 0 0,.slice none 0 0,.slice none 0 0,.int .i64 0],0,48⟩:=Qa (by simp) c1 (by simp)
 have cH:Qp H K1 []:=(Qp.app []).trans c1
 have lc1:=c1.1
 simp at lc1 m1
 have q:=Qr o1
 have lt1:=Qe.lt o1
 obtain ⟨n1,n2,n3,n4,n5,n6,n7,nz⟩:=n
 obtain ⟨y1,y2,y3,y4,y5,y6,y7,_⟩:=o1
 simp only at y1 y2 y3 y4 y5 y6 y7 q
 have eid:Qe.ids (n1,n2,n3,n4,n5,n6,n7,nz)=Qx.ids n1++(Qi.ids n2++(Qt.ids n3++(Qf.ids n4++(Qf.ids n5++(Qt.ids n6++(Qt.ids n7++[])))))):=rfl
 rw [eid] at m1 d1 lt1
 obtain ⟨d11,d12,_⟩:=List.nodup_append.1 d1
 obtain ⟨d21,d22,_⟩:=List.nodup_append.1 d12
 have mr:∀i∈Qt.ids n3++(Qf.ids n4++(Qf.ids n5++(Qt.ids n6++(Qt.ids n7++[])))),H.length+4≤i∧i<K1.length:=fun i hi=>⟨m1 i (List.mem_append.2 (.inr (List.mem_append.2 (.inr hi)))),lt1 i (List.mem_append.2 (.inr (List.mem_append.2 (.inr hi))))⟩
 have ml:∀i∈Qx.ids n1,H.length+4≤i∧i<K1.length:=fun i hi=>⟨m1 i (List.mem_append.2 (.inl hi)),lt1 i (List.mem_append.2 (.inl hi))⟩
 have mk:∀i∈Qi.ids n2,H.length+4≤i∧i<K1.length:=fun i hi=>⟨m1 i (List.mem_append.2 (.inr (List.mem_append.2 (.inl hi)))),lt1 i (List.mem_append.2 (.inr (List.mem_append.2 (.inl hi))))⟩
 clear m1 d1 lt1 eid d11 d12 d21
 obtain ⟨d31,d32,d33⟩:=List.nodup_append.1 d22
 obtain ⟨d41,d42,d43⟩:=List.nodup_append.1 d32
 obtain ⟨d51,d52,d53⟩:=List.nodup_append.1 d42
 have in3:∀i∈Qt.ids n3,H.length+4≤i∧i<K1.length:=fun i hi=>mr i (List.mem_append.2 (.inl hi))
 have in4:∀i∈Qf.ids n4,H.length+4≤i∧i<K1.length:=fun i hi=>mr i (List.mem_append.2 (.inr (List.mem_append.2 (.inl hi))))
 have in5:∀i∈Qf.ids n5,H.length+4≤i∧i<K1.length:=fun i hi=>mr i (List.mem_append.2 (.inr (List.mem_append.2 (.inr (List.mem_append.2 (.inl hi))))))
 have in6:∀i∈Qt.ids n6,H.length+4≤i∧i<K1.length:=fun i hi=>mr i (List.mem_append.2 (.inr (List.mem_append.2 (.inr (List.mem_append.2 (.inr (List.mem_append.2 (.inl hi))))))))
 have in7:∀i∈Qt.ids n7,H.length+4≤i∧i<K1.length:=fun i hi=>mr i (List.mem_append.2 (.inr (List.mem_append.2 (.inr (List.mem_append.2 (.inr (List.mem_append.2 (.inr (List.mem_append.2 (.inl hi))))))))))
 have x43:∀i∈Qf.ids n4,i∉Qt.ids n3:=fun i hi hh=>d33 i hh i (List.mem_append.2 (.inl hi)) rfl
 have x53:∀i∈Qf.ids n5,i∉Qt.ids n3:=fun i hi hh=>d33 i hh i (List.mem_append.2 (.inr (List.mem_append.2 (.inl hi)))) rfl
 have x54:∀i∈Qf.ids n5,i∉Qf.ids n4:=fun i hi hh=>d43 i hh i (List.mem_append.2 (.inl hi)) rfl
 have x64:∀i∈Qt.ids n6,i∉Qf.ids n4:=fun i hi hh=>d43 i hh i (List.mem_append.2 (.inr (List.mem_append.2 (.inl hi)))) rfl
 have x74:∀i∈Qt.ids n7,i∉Qf.ids n4:=fun i hi hh=>d43 i hh i (List.mem_append.2 (.inr (List.mem_append.2 (.inr (List.mem_append.2 (.inl hi)))))) rfl
 have x65:∀i∈Qt.ids n6,i∉Qf.ids n5:=fun i hi hh=>d53 i hh i (List.mem_append.2 (.inl hi)) rfl
 have x75:∀i∈Qt.ids n7,i∉Qf.ids n5:=fun i hi hh=>d53 i hh i (List.mem_append.2 (.inr (List.mem_append.2 (.inl hi)))) rfl
 have hF1:H.length≤K1.length:=by omega
 simp [Qk,VM.look,bM,bC,q,onem,onec,hF1]
 rw [Qv (h:=by kernel_rfl)]
 simp [VM.look,bM,bC,q,onem,onec,hF1]
 obtain ⟨G1,hG1⟩:∃G,G=K1++[⟨[.int .i64 w,.int .i64 h,n1,n2.1,n2.2,n3.1,n4,n5,n6.1,n7.1,.int .i64 tm],0,48⟩]:=⟨_,rfl⟩
 have bO:G1[K1.length]? = some ⟨[.int .i64 w,.int .i64 h,n1,n2.1,n2.2,n3.1,n4,n5,n6.1,n7.1,.int .i64 tm],0,48⟩:=by rw [hG1];simp
 have aG:Qp K1 G1 []:=by rw [hG1];exact Qp.app []
 have gl:K1.length+1≤G1.length:=by rw [hG1];simp
 try rw [← hG1]
 clear hG1
 have bM:=Qa bM aG (by simp)
 have bC:=Qa bC aG (by simp)
 have bR:=Qa bR aG (by simp)
 have cH:=cH.trans aG
 have y3:=Dt.chg0 (T:=Qt) y3 aG
 have y4:=Dt.chg0 (T:=Qf) y4 aG
 have y5:=Dt.chg0 (T:=Qf) y5 aG
 have y6:=Dt.chg0 (T:=Qt) y6 aG
 have y7:=Dt.chg0 (T:=Qt) y7 aG
 try simp [VM.look,bM,onem]
 refine Ql (Lc w' h' vm b' (Rd.isI (om.1.rd.chg cH (by simp))) om.2) ?_
 rintro _ G2 ⟨m1,rfl,om1,c2,mm1,dm1⟩
 have qm:=Zs om1
 have lm:=Qx.lt om1
 have bM:=Qa bM c2 (by simp)
 have bC:=Qa bC c2 (by simp)
 have bR:=Qa bR c2 (by simp)
 have bO:=Qa bO c2 (by simp)
 have cH:=cH.trans c2
 have gl2:=c2.1
 have y3:=Dt.chg0 (T:=Qt) y3 c2
 have y4:=Dt.chg0 (T:=Qf) y4 c2
 have y5:=Dt.chg0 (T:=Qf) y5 c2
 have y6:=Dt.chg0 (T:=Qt) y6 c2
 have y7:=Dt.chg0 (T:=Qt) y7 c2
 simp [W5,VM.look,bC,onec]
 refine Ql (Mk vc.1 vc.2 c'.1 c'.2 (Rd.isI (oc.1.1.rd.chg cH (by simp))) (Rd.isI (oc.2.1.rd.chg cH (by simp))) oc.1.2 oc.2.2) ?_
 rintro _ G3 ⟨m2,rfl,om2,c3,mm2,dm2⟩
 have qc:=W6 om2
 have lc:=Qi.lt om2
 have bR:=Qa bR c3 (by simp)
 have bO:=Qa bO c3 (by simp)
 have cH:=cH.trans c3
 have gl3:=c3.1
 have om1:=Dt.chg0 (T:=Qx) om1 c3
 have y3:=Dt.chg0 (T:=Qt) y3 c3
 have y4:=Dt.chg0 (T:=Qf) y4 c3
 have y5:=Dt.chg0 (T:=Qf) y5 c3
 have y6:=Dt.chg0 (T:=Qt) y6 c3
 have y7:=Dt.chg0 (T:=Qt) y7 c3
 have bO1:=Qq (r':=⟨[.int .i64 w',.int .i64 h',m1,n2.1,n2.2,n3.1,n4,n5,n6.1,n7.1,.int .i64 tm],0,48⟩) bO
 have bO2:=Qq (r':=⟨[.int .i64 w',.int .i64 h',m1,m2.1,m2.2,n3.1,n4,n5,n6.1,n7.1,.int .i64 tm],0,48⟩) bO
 have eO:Qp G3 (G3.set K1.length ⟨[.int .i64 w',.int .i64 h',m1,m2.1,m2.2,n3.1,n4,n5,n6.1,n7.1,.int .i64 tm],0,48⟩) [K1.length]:=Qn _ _
 have bR:=Qa bR eO (by simp;omega)
 have cH:=cH.trans' eO (fun i hi=>.inr (by simp at hi;omega))
 have om1:=Dt.chg (T:=Qx) om1 eO (fun i hi hh=>by have:=mm1 i hi;simp at hh;omega)
 have om2:=Dt.chg (T:=Qi) om2 eO (fun i hi hh=>by have:=mm2 i hi;simp at hh;omega)
 have y3:=Dt.chg (T:=Qt) y3 eO (fun i hi hh=>by have:=in3 i hi;simp at hh;omega)
 have y4:=Dt.chg (T:=Qf) y4 eO (fun i hi hh=>by have:=in4 i hi;simp at hh;omega)
 have y5:=Dt.chg (T:=Qf) y5 eO (fun i hi hh=>by have:=in5 i hi;simp at hh;omega)
 have y6:=Dt.chg (T:=Qt) y6 eO (fun i hi hh=>by have:=in6 i hi;simp at hh;omega)
 have y7:=Dt.chg (T:=Qt) y7 eO (fun i hi hh=>by have:=in7 i hi;simp at hh;omega)
 have gl4:(G3.set K1.length ⟨[.int .i64 w',.int .i64 h',m1,m2.1,m2.2,n3.1,n4,n5,n6.1,n7.1,.int .i64 tm],0,48⟩).length=G3.length:=by simp
 simp [W5,Wz,VM.look,bO,bO1,q,qm,qc,hF1]
 generalize G3.set K1.length ⟨[.int .i64 w',.int .i64 h',m1,m2.1,m2.2,n3.1,n4,n5,n6.1,n7.1,.int .i64 tm],0,48⟩=G4 at *
 have bO:=bO2
 clear bO2 bM bC aG c2 c3 eO y1 y2
 have hb4:=y4.2
 have hb5:=y5.2
 have l4:=y4.1.rd.len (P:=Tryz.prog) (ty:=24) (by simp)
 try simp [VM.look,bO,q,qm,qc,l4]
 refine Qw (fun m t H'=>∃i:Nat,m=own.length-i∧i≤own.length∧t 6=.pointer (some ⟨H.length+3,0,some 0⟩)∧t 7=.pointer (some ⟨K1.length,0,some 0⟩)∧t 20=.int .i64 own.length∧t 21=.int .i64 i∧Qp G4 H' (Qf.ids n4)∧Ow Fl.int 3 H' n4 (List.replicate i (-1)++own.drop i)) ?_ (n:=own.length)
  ⟨0,rfl,by omega,by simp,by simp,by simp,by simp,Qp.refl _,by simpa using y4.1⟩
 rintro m t H' ⟨i,rfl,hi,t6,t7,t20,t21,c4,o4⟩ ih
 have bO':=Qa bO c4 (fun hh=>by have:=in4 _ hh;omega)
 have hll:(List.replicate i (-1:Int)++own.drop i).length=own.length:=by simp;omega
 have l4':=o4.rd.len (P:=Tryz.prog) (ty:=24) (by simp)
 rw [hll] at l4'
 simp [t6,t7,t20,t21,VM.look,bO',q,l4']
 refine Qm ?_ ?_<;>intro g
 ·have hi':i<own.length:=by omega
  have q1:=o4.rd.isI.idx (P:=Tryz.prog) (ty:=24) (e:=3) (by simp) (i:=(i:Int)) (by omega) (by omega)
  simp only [Int.toNat_natCast] at q1
  obtain ⟨H5,s5,o5,c5,l5⟩:=o4.put1 (P:=Tryz.prog) (frz:=H.length) rfl (et:=3) (ag:=false) (x:=.int .i64 (-1)) (by simp) (j:=i) (y:=-1) (by omega) rfl rfl rfl (fun j hj=>by have:=in4 j hj;omega)
  rw [Ax hi'] at o5
  simp [t6,t7,t20,t21,VM.look,bO',q,q1,s5]
  refine ih (own.length-(i+1)) _ _ ⟨i+1,rfl,by omega,by simp [t6],by simp [t7],by simp [t20],?_,c4.trans c5,o5⟩ (by omega)
  simp;rw [Q0 (by omega) (by omega)]
 have:i=own.length:=by omega
 subst this
 clear ih
 have bR:=Qa bR c4 (fun hh=>by have:=in4 _ hh;omega)
 have bO:=bO'
 have cH:=cH.trans' c4 (fun j hj=>.inr (by have:=in4 j hj;omega))
 have gl5:=c4.1
 have om1:=Dt.chg (T:=Qx) om1 c4 (fun j hj hh=>by have:=mm1 j hj;have:=in4 j hh;omega)
 have om2:=Dt.chg (T:=Qi) om2 c4 (fun j hj hh=>by have:=mm2 j hj;have:=in4 j hh;omega)
 have y3:=Dt.chg (T:=Qt) y3 c4 (fun j hj hh=>x43 j hh hj)
 have y5:=Dt.chg (T:=Qf) y5 c4 x54
 have y6:=Dt.chg (T:=Qt) y6 c4 x64
 have y7:=Dt.chg (T:=Qt) y7 c4 x74
 have o4:Ow Fl.int 3 H' n4 (List.replicate own.length (-1)):=by simpa using o4
 have b4:=y4.2
 have b5:=y5.2
 clear y4 c4 bO' g l4' hll hi
 have l5:=y5.1.rd.len (P:=Tryz.prog) (ty:=24) (by simp)
 simp [t6,t7,t20,t21,VM.look,bO,q,l5]
 refine Qw (fun m t H2=>∃i:Nat,m=turn.length-i∧i≤turn.length∧t 6=.pointer (some ⟨H.length+3,0,some 0⟩)∧t 7=.pointer (some ⟨K1.length,0,some 0⟩)∧t 31=.int .i64 turn.length∧t 32=.int .i64 i∧Qp H' H2 (Qf.ids n5)∧Ow Fl.int 3 H2 n5 (List.replicate i 0++turn.drop i)) ?_ (n:=turn.length)
  ⟨0,rfl,by omega,by simp [t6],by simp [t7],by simp,by simp,Qp.refl _,by simpa using y5.1⟩
 clear t6 t7 t20 t21
 rintro m t H2 ⟨i,rfl,hi,t6,t7,t31,t32,c5,o5⟩ ih
 have bO':=Qa bO c5 (fun hh=>by have:=in5 _ hh;omega)
 have hll:(List.replicate i (0:Int)++turn.drop i).length=turn.length:=by simp;omega
 simp [t6,t7,t31,t32]
 refine Qm ?_ ?_<;>intro g
 ·have hi':i<turn.length:=by omega
  have q1:=o5.rd.isI.idx (P:=Tryz.prog) (ty:=24) (e:=3) (by simp) (i:=(i:Int)) (by omega) (by omega)
  simp only [Int.toNat_natCast] at q1
  obtain ⟨H5,s5,o5',c5',l5'⟩:=o5.put1 (P:=Tryz.prog) (frz:=H.length) rfl (et:=3) (ag:=false) (x:=.int .i64 0) (by simp) (j:=i) (y:=0) (by omega) rfl rfl rfl (fun j hj=>by have:=in5 j hj;omega)
  rw [Ax hi'] at o5'
  simp [t6,t7,t31,t32,VM.look,bO',q,q1,s5]
  refine ih (turn.length-(i+1)) _ _ ⟨i+1,rfl,by omega,by simp [t6],by simp [t7],by simp [t31],?_,c5.trans c5',o5'⟩ (by omega)
  simp;rw [Q0 (by omega) (by omega)]
 have:i=turn.length:=by omega
 subst this
 clear ih
 have bR:=Qa bR c5 (fun hh=>by have:=in5 _ hh;omega)
 have bO:=bO'
 have cH:=cH.trans' c5 (fun j hj=>.inr (by have:=in5 j hj;omega))
 have om1:=Dt.chg (T:=Qx) om1 c5 (fun j hj hh=>by have:=mm1 j hj;have:=in5 j hh;omega)
 have om2:=Dt.chg (T:=Qi) om2 c5 (fun j hj hh=>by have:=mm2 j hj;have:=in5 j hh;omega)
 have y3:=Dt.chg (T:=Qt) y3 c5 (fun j hj hh=>x53 j hh hj)
 have o4:=o4.chg c5 (fun j hj hh=>x54 j hh hj)
 have y6:=Dt.chg (T:=Qt) y6 c5 x65
 have y7:=Dt.chg (T:=Qt) y7 c5 x75
 have o5:Ow Fl.int 3 H2 n5 (List.replicate turn.length 0):=by simpa using o5
 have gR:=Qq (r':=⟨[.int .i64 w',.int .i64 h',m1,m2.1,m2.2,n3.1,n4,n5,n6.1,n7.1,.int .i64 tm],0,48⟩) bR
 have hF3:H.length≤H.length+3:=by omega
 have eR:Qp H2 (H2.set (H.length+3) ⟨[.int .i64 w',.int .i64 h',m1,m2.1,m2.2,n3.1,n4,n5,n6.1,n7.1,.int .i64 tm],0,48⟩) [H.length+3]:=Qn _ _
 simp [t6,t7,t31,t32,VM.look,bO,bR,q,qm,qc,gR,hF3]
 refine ⟨(m1,m2,n3,n4,n5,n6,n7,()),rfl,⟨Dt.chg (T:=Qx) om1 eR (fun j hj hh=>by have:=mm1 j hj;simp at hh;omega),Dt.chg (T:=Qi) om2 eR (fun j hj hh=>by have:=mm2 j hj;simp at hh;omega),Dt.chg (T:=Qt) y3 eR (fun j hj hh=>by have:=in3 j hj;simp at hh;omega),
  ⟨o4.chg eR (fun j hj hh=>by have:=in4 j hj;simp at hh;omega),by show (List.replicate own.length (-1)).length≤_;simpa using b4⟩,⟨o5.chg eR (fun j hj hh=>by have:=in5 j hj;simp at hh;omega),by show (List.replicate turn.length 0).length≤_;simpa using b5⟩,Dt.chg (T:=Qt) y6 eR (fun j hj hh=>by have:=in6 j hj;simp at hh;omega),Dt.chg (T:=Qt) y7 eR (fun j hj hh=>by have:=in7 j hj;simp at hh;omega),trivial⟩,
  cH.trans' eR (fun j hj=>.inr (by simp at hj;omega)),fun j hj=>?_,?_⟩
 ·rcases List.mem_append.1 hj with hj|hj
  ·have:=mm1 j hj;omega
  rcases List.mem_append.1 hj with hj|hj
  ·have:=mm2 j hj;omega
  ·have:=mr j hj;omega
 ·refine List.nodup_append.2 ⟨dm1,List.nodup_append.2 ⟨dm2,d22,fun a ha b hb e=>by have:=mm2 a ha;have:=mr b hb;omega⟩,fun a ha b hb e=>?_⟩
  rcases List.mem_append.1 hb with hb|hb
  ·have:=lm a ha;have:=mm2 b hb;omega
  ·have:=mm1 a ha;have:=mr b hb;omega
theorem Di {v:Wo} {x:Qu} {vm:Value} {w' h':Int} {b':List Int} {vc:Value×Value} {c':Yt} (o:Qe.Ow H v x) (om:Qx.Ow H vm (w',h',b')) (oc:Qi.Ow H vc c') :
 wp (Qh C frz 121 [Qe.val v x,.agg #[.int .i64 w',.int .i64 h',vm],.agg #[vc.1,vc.2]] H) (Qe.Made H (fresh x (w',h',b') c')):=by
 have ones:=Qr o
 have onem:=Zs om
 have onec:=W6 oc
 have ecopy:=fun L=>U4 (frz:=H.length) (H:=H++L) (v:=v) (x:=x) (Dt.app (T:=Qe) o)
 obtain ⟨u2,⟨u3,u4⟩,⟨u5,h5⟩,u6,u7,⟨u8,h8⟩,⟨u9,h9⟩,_⟩:=v
 obtain ⟨⟨w,h,b⟩,⟨A,B⟩,buf,own,turn,src,arr,tm⟩:=x
 simp only at ones
 simp only [Qk] at ecopy ⊢
 rw [Qb (fn:=Tryz.f121) Tryz.func121 rfl (by kernel_rfl) rfl]
 simp [ones,onem,onec]
 refine Ql (ecopy _) ?_
 rintro _ K1 ⟨n,rfl,o1,c1,m1,d1⟩
 clear ecopy
 have bM:K1[H.length+1]? = some ⟨[.int .i64 w',.int .i64 h',vm],0,42⟩:=Qa (by simp) c1 (by simp)
 have bC:K1[H.length+2]? = some ⟨[vc.1,vc.2],0,45⟩:=Qa (by simp) c1 (by simp)
 have bR:K1[H.length+3]? = some ⟨[.int .i64 0,.int .i64 0,.slice none 0 0,.slice none 0 0,.slice none 0 0,.slice none 0 0,.slice none 0 0,.slice none 0 0,.slice none 0 0,.slice none 0 0,.int .i64 0],0,48⟩:=Qa (by simp) c1 (by simp)
 have cH:Qp H K1 []:=(Qp.app []).trans c1
 have lc1:=c1.1
 simp at lc1 m1
 have q:=Qr o1
 have lt1:=Qe.lt o1
 obtain ⟨n1,n2,n3,n4,n5,n6,n7,nz⟩:=n
 obtain ⟨y1,y2,y3,y4,y5,y6,y7,_⟩:=o1
 simp only at y1 y2 y3 y4 y5 y6 y7 q
 have eid:Qe.ids (n1,n2,n3,n4,n5,n6,n7,nz)=Qx.ids n1++(Qi.ids n2++(Qt.ids n3++(Qf.ids n4++(Qf.ids n5++(Qt.ids n6++(Qt.ids n7++[])))))):=rfl
 rw [eid] at m1 d1 lt1
 obtain ⟨d11,d12,_⟩:=List.nodup_append.1 d1
 obtain ⟨d21,d22,_⟩:=List.nodup_append.1 d12
 have mr:∀i∈Qt.ids n3++(Qf.ids n4++(Qf.ids n5++(Qt.ids n6++(Qt.ids n7++[])))),H.length+4≤i∧i<K1.length:=fun i hi=>⟨m1 i (List.mem_append.2 (.inr (List.mem_append.2 (.inr hi)))),lt1 i (List.mem_append.2 (.inr (List.mem_append.2 (.inr hi))))⟩
 have ml:∀i∈Qx.ids n1,H.length+4≤i∧i<K1.length:=fun i hi=>⟨m1 i (List.mem_append.2 (.inl hi)),lt1 i (List.mem_append.2 (.inl hi))⟩
 have mk:∀i∈Qi.ids n2,H.length+4≤i∧i<K1.length:=fun i hi=>⟨m1 i (List.mem_append.2 (.inr (List.mem_append.2 (.inl hi)))),lt1 i (List.mem_append.2 (.inr (List.mem_append.2 (.inl hi))))⟩
 clear m1 d1 lt1 eid d11 d12 d21
 obtain ⟨d31,d32,d33⟩:=List.nodup_append.1 d22
 obtain ⟨d41,d42,d43⟩:=List.nodup_append.1 d32
 obtain ⟨d51,d52,d53⟩:=List.nodup_append.1 d42
 have in3:∀i∈Qt.ids n3,H.length+4≤i∧i<K1.length:=fun i hi=>mr i (List.mem_append.2 (.inl hi))
 have in4:∀i∈Qf.ids n4,H.length+4≤i∧i<K1.length:=fun i hi=>mr i (List.mem_append.2 (.inr (List.mem_append.2 (.inl hi))))
 have in5:∀i∈Qf.ids n5,H.length+4≤i∧i<K1.length:=fun i hi=>mr i (List.mem_append.2 (.inr (List.mem_append.2 (.inr (List.mem_append.2 (.inl hi))))))
 have in6:∀i∈Qt.ids n6,H.length+4≤i∧i<K1.length:=fun i hi=>mr i (List.mem_append.2 (.inr (List.mem_append.2 (.inr (List.mem_append.2 (.inr (List.mem_append.2 (.inl hi))))))))
 have in7:∀i∈Qt.ids n7,H.length+4≤i∧i<K1.length:=fun i hi=>mr i (List.mem_append.2 (.inr (List.mem_append.2 (.inr (List.mem_append.2 (.inr (List.mem_append.2 (.inr (List.mem_append.2 (.inl hi))))))))))
 have x43:∀i∈Qf.ids n4,i∉Qt.ids n3:=fun i hi hh=>d33 i hh i (List.mem_append.2 (.inl hi)) rfl
 have x53:∀i∈Qf.ids n5,i∉Qt.ids n3:=fun i hi hh=>d33 i hh i (List.mem_append.2 (.inr (List.mem_append.2 (.inl hi)))) rfl
 have x54:∀i∈Qf.ids n5,i∉Qf.ids n4:=fun i hi hh=>d43 i hh i (List.mem_append.2 (.inl hi)) rfl
 have x64:∀i∈Qt.ids n6,i∉Qf.ids n4:=fun i hi hh=>d43 i hh i (List.mem_append.2 (.inr (List.mem_append.2 (.inl hi)))) rfl
 have x74:∀i∈Qt.ids n7,i∉Qf.ids n4:=fun i hi hh=>d43 i hh i (List.mem_append.2 (.inr (List.mem_append.2 (.inr (List.mem_append.2 (.inl hi)))))) rfl
 have x65:∀i∈Qt.ids n6,i∉Qf.ids n5:=fun i hi hh=>d53 i hh i (List.mem_append.2 (.inl hi)) rfl
 have x75:∀i∈Qt.ids n7,i∉Qf.ids n5:=fun i hi hh=>d53 i hh i (List.mem_append.2 (.inr (List.mem_append.2 (.inl hi)))) rfl
 have hF1:H.length≤K1.length:=by omega
 simp [Qk,VM.look,bM,bC,q,onem,onec,hF1]
 obtain ⟨G1,hG1⟩:∃G,G=K1++[⟨[.int .i64 w,.int .i64 h,n1,n2.1,n2.2,n3.1,n4,n5,n6.1,n7.1,.int .i64 tm],0,48⟩]:=⟨_,rfl⟩
 have bO:G1[K1.length]? = some ⟨[.int .i64 w,.int .i64 h,n1,n2.1,n2.2,n3.1,n4,n5,n6.1,n7.1,.int .i64 tm],0,48⟩:=by rw [hG1];simp
 have aG:Qp K1 G1 []:=by rw [hG1];exact Qp.app []
 have gl:K1.length+1≤G1.length:=by rw [hG1];simp
 try rw [← hG1]
 clear hG1
 have bM:=Qa bM aG (by simp)
 have bC:=Qa bC aG (by simp)
 have bR:=Qa bR aG (by simp)
 have cH:=cH.trans aG
 have y3:=Dt.chg0 (T:=Qt) y3 aG
 have y4:=Dt.chg0 (T:=Qf) y4 aG
 have y5:=Dt.chg0 (T:=Qf) y5 aG
 have y6:=Dt.chg0 (T:=Qt) y6 aG
 have y7:=Dt.chg0 (T:=Qt) y7 aG
 try simp [VM.look,bM,onem]
 refine Ql (J9 w' h' vm b' (Rd.isI (om.1.rd.chg cH (by simp))) om.2) ?_
 rintro _ G2 ⟨m1,rfl,om1,c2,mm1,dm1⟩
 have qm:=Zs om1
 have lm:=Qx.lt om1
 have bM:=Qa bM c2 (by simp)
 have bC:=Qa bC c2 (by simp)
 have bR:=Qa bR c2 (by simp)
 have bO:=Qa bO c2 (by simp)
 have cH:=cH.trans c2
 have gl2:=c2.1
 have y3:=Dt.chg0 (T:=Qt) y3 c2
 have y4:=Dt.chg0 (T:=Qf) y4 c2
 have y5:=Dt.chg0 (T:=Qf) y5 c2
 have y6:=Dt.chg0 (T:=Qt) y6 c2
 have y7:=Dt.chg0 (T:=Qt) y7 c2
 have bO1:=Qq (r':=⟨[.int .i64 w',.int .i64 h',m1,n2.1,n2.2,n3.1,n4,n5,n6.1,n7.1,.int .i64 tm],0,48⟩) bO
 have eO:Qp G2 (G2.set K1.length ⟨[.int .i64 w',.int .i64 h',m1,n2.1,n2.2,n3.1,n4,n5,n6.1,n7.1,.int .i64 tm],0,48⟩) [K1.length]:=Qn _ _
 have bR:=Qa bR eO (by simp;omega)
 have bC:=Qa bC eO (by simp;omega)
 have cH:=cH.trans' eO (fun i hi=>.inr (by simp at hi;omega))
 have om1:=Dt.chg (T:=Qx) om1 eO (fun i hi hh=>by have:=mm1 i hi;simp at hh;omega)
 have y3:=Dt.chg (T:=Qt) y3 eO (fun i hi hh=>by have:=in3 i hi;simp at hh;omega)
 have y4:=Dt.chg (T:=Qf) y4 eO (fun i hi hh=>by have:=in4 i hi;simp at hh;omega)
 have y5:=Dt.chg (T:=Qf) y5 eO (fun i hi hh=>by have:=in5 i hi;simp at hh;omega)
 have y6:=Dt.chg (T:=Qt) y6 eO (fun i hi hh=>by have:=in6 i hi;simp at hh;omega)
 have y7:=Dt.chg (T:=Qt) y7 eO (fun i hi hh=>by have:=in7 i hi;simp at hh;omega)
 have Q3c:(G2.set K1.length ⟨[.int .i64 w',.int .i64 h',m1,n2.1,n2.2,n3.1,n4,n5,n6.1,n7.1,.int .i64 tm],0,48⟩).length=G2.length:=by simp
 simp [W5,VM.look,bO,q,qm,hF1]
 generalize G2.set K1.length ⟨[.int .i64 w',.int .i64 h',m1,n2.1,n2.2,n3.1,n4,n5,n6.1,n7.1,.int .i64 tm],0,48⟩=G2' at *
 have bO:=bO1
 clear bO1
 try simp [VM.look,bC,onec]
 refine Ql (Kv vc.1 vc.2 c'.1 c'.2 (Rd.isI (oc.1.1.rd.chg cH (by simp))) (Rd.isI (oc.2.1.rd.chg cH (by simp))) oc.1.2 oc.2.2) ?_
 rintro _ G3 ⟨m2,rfl,om2,c3,mm2,dm2⟩
 have qc:=W6 om2
 have lc:=Qi.lt om2
 have bR:=Qa bR c3 (by simp)
 have bO:=Qa bO c3 (by simp)
 have cH:=cH.trans c3
 have gl3:=c3.1
 have om1:=Dt.chg0 (T:=Qx) om1 c3
 have y3:=Dt.chg0 (T:=Qt) y3 c3
 have y4:=Dt.chg0 (T:=Qf) y4 c3
 have y5:=Dt.chg0 (T:=Qf) y5 c3
 have y6:=Dt.chg0 (T:=Qt) y6 c3
 have y7:=Dt.chg0 (T:=Qt) y7 c3
 have bO2:=Qq (r':=⟨[.int .i64 w',.int .i64 h',m1,m2.1,m2.2,n3.1,n4,n5,n6.1,n7.1,.int .i64 tm],0,48⟩) bO
 have eO:Qp G3 (G3.set K1.length ⟨[.int .i64 w',.int .i64 h',m1,m2.1,m2.2,n3.1,n4,n5,n6.1,n7.1,.int .i64 tm],0,48⟩) [K1.length]:=Qn _ _
 have bR:=Qa bR eO (by simp;omega)
 have cH:=cH.trans' eO (fun i hi=>.inr (by simp at hi;omega))
 have om1:=Dt.chg (T:=Qx) om1 eO (fun i hi hh=>by have:=mm1 i hi;simp at hh;omega)
 have om2:=Dt.chg (T:=Qi) om2 eO (fun i hi hh=>by have:=mm2 i hi;simp at hh;omega)
 have y3:=Dt.chg (T:=Qt) y3 eO (fun i hi hh=>by have:=in3 i hi;simp at hh;omega)
 have y4:=Dt.chg (T:=Qf) y4 eO (fun i hi hh=>by have:=in4 i hi;simp at hh;omega)
 have y5:=Dt.chg (T:=Qf) y5 eO (fun i hi hh=>by have:=in5 i hi;simp at hh;omega)
 have y6:=Dt.chg (T:=Qt) y6 eO (fun i hi hh=>by have:=in6 i hi;simp at hh;omega)
 have y7:=Dt.chg (T:=Qt) y7 eO (fun i hi hh=>by have:=in7 i hi;simp at hh;omega)
 have gl4:(G3.set K1.length ⟨[.int .i64 w',.int .i64 h',m1,m2.1,m2.2,n3.1,n4,n5,n6.1,n7.1,.int .i64 tm],0,48⟩).length=G3.length:=by simp
 simp [Wz,VM.look,bO,q,qm,qc,hF1]
 generalize G3.set K1.length ⟨[.int .i64 w',.int .i64 h',m1,m2.1,m2.2,n3.1,n4,n5,n6.1,n7.1,.int .i64 tm],0,48⟩=G4 at *
 have bO:=bO2
 clear bO2 bM bC aG c2 c3 eO y1 y2
 have hb4:=y4.2
 have hb5:=y5.2
 refine Qw (fun m t H'=>∃i:Nat,m=own.length-i∧i≤own.length∧t 6=.pointer (some ⟨H.length+3,0,some 0⟩)∧t 7=.pointer (some ⟨K1.length,0,some 0⟩)∧t 8=.int .i64 i∧Qp G4 H' (Qf.ids n4)∧Ow Fl.int 3 H' n4 (List.replicate i (-1)++own.drop i)) ?_ (n:=own.length)
  ⟨0,rfl,by omega,by simp,by simp,by simp,Qp.refl _,by simpa using y4.1⟩
 rintro m t H' ⟨i,rfl,hi,t6,t7,t8,c4,o4⟩ ih
 have bO':=Qa bO c4 (fun hh=>by have:=in4 _ hh;omega)
 have hll:(List.replicate i (-1:Int)++own.drop i).length=own.length:=by simp;omega
 have l4':=o4.rd.len (P:=Tryz.prog) (ty:=24) (by simp)
 rw [hll] at l4'
 simp [t6,t7,t8,VM.look,bO',q,l4']
 refine Qm ?_ ?_<;>intro g
 ·have hi':i<own.length:=by omega
  have q1:=o4.rd.isI.idx (P:=Tryz.prog) (ty:=24) (e:=3) (by simp) (i:=(i:Int)) (by omega) (by omega)
  simp only [Int.toNat_natCast] at q1
  obtain ⟨H5,s5,o5,c5,l5⟩:=o4.put1 (P:=Tryz.prog) (frz:=H.length) rfl (et:=3) (ag:=false) (x:=.int .i64 (-1)) (by simp) (j:=i) (y:=-1) (by omega) rfl rfl rfl (fun j hj=>by have:=in4 j hj;omega)
  rw [Ax hi'] at o5
  simp [t6,t7,t8,VM.look,bO',q,q1,s5]
  refine ih (own.length-(i+1)) _ _ ⟨i+1,rfl,by omega,by simp [t6],by simp [t7],?_,c4.trans c5,o5⟩ (by omega)
  simp;rw [Q0 (by omega) (by omega)]
 have:i=own.length:=by omega
 subst this
 clear ih
 have bR:=Qa bR c4 (fun hh=>by have:=in4 _ hh;omega)
 have bO:=bO'
 have cH:=cH.trans' c4 (fun j hj=>.inr (by have:=in4 j hj;omega))
 have gl5:=c4.1
 have om1:=Dt.chg (T:=Qx) om1 c4 (fun j hj hh=>by have:=mm1 j hj;have:=in4 j hh;omega)
 have om2:=Dt.chg (T:=Qi) om2 c4 (fun j hj hh=>by have:=mm2 j hj;have:=in4 j hh;omega)
 have y3:=Dt.chg (T:=Qt) y3 c4 (fun j hj hh=>x43 j hh hj)
 have y5:=Dt.chg (T:=Qf) y5 c4 x54
 have y6:=Dt.chg (T:=Qt) y6 c4 x64
 have y7:=Dt.chg (T:=Qt) y7 c4 x74
 have o4:Ow Fl.int 3 H' n4 (List.replicate own.length (-1)):=by simpa using o4
 have b4:=y4.2
 have b5:=y5.2
 clear y4 c4 bO' g l4' hll hi
 have l5:=y5.1.rd.len (P:=Tryz.prog) (ty:=24) (by simp)
 simp [t6,t7,t8,VM.look,bO,q,l5]
 refine Xt (by omega) ?_
 have o5:Ow Fl.int 3 (H'++[⟨(List.replicate turn.length [Value.int .i64 0]).flatten,0,3⟩]) (.slice (some ⟨H'.length,0,some 0⟩) turn.length 0) (List.replicate turn.length 0):=Ow.new0 rfl (Uh (D:=Fl.int) 0 _) (by rw [Uh (D:=Fl.int) 0];exact Pj _) (by simp)
 have aG2:Qp H' (H'++[⟨(List.replicate turn.length [Value.int .i64 0]).flatten,0,3⟩]) []:=Qp.app []
 have gl6:H'.length<(H'++[⟨(List.replicate turn.length [Value.int .i64 0]).flatten,0,3⟩]:Qd).length:=by simp
 have hn5:∀j∈ids (.slice (some ⟨H'.length,0,some 0⟩) turn.length 0),j=H'.length:=by simp
 obtain ⟨n5',hn5'⟩:∃z:Value,z=.slice (some ⟨H'.length,0,some 0⟩) turn.length 0:=⟨_,rfl⟩
 rw [← hn5'] at o5 hn5
 obtain ⟨H2,hH2⟩:∃z:Qd,z=H'++[⟨(List.replicate turn.length [Value.int .i64 0]).flatten,0,3⟩]:=⟨_,rfl⟩
 rw [← hH2] at o5 aG2 gl6
 try rw [← hn5']
 try simp at hH2
 try rw [← hH2]
 have q5:=And.intro o5.rd.one' o5.rd.cells
 have bR:=Qa bR aG2 (by simp)
 have bO:=Qa bO aG2 (by simp)
 have cH:=cH.trans aG2
 have om1:=Dt.chg0 (T:=Qx) om1 aG2
 have om2:=Dt.chg0 (T:=Qi) om2 aG2
 have y3:=Dt.chg0 (T:=Qt) y3 aG2
 have o4:=o4.chg aG2 (by simp)
 have y6:=Dt.chg0 (T:=Qt) y6 aG2
 have y7:=Dt.chg0 (T:=Qt) y7 aG2
 have kO:=Wj bO
 have gO:=Qq (r':=⟨[.int .i64 w',.int .i64 h',m1,m2.1,m2.2,n3.1,n4,n5',n6.1,n7.1,.int .i64 tm],0,48⟩) bO
 have eO:Qp H2 (H2.set K1.length ⟨[.int .i64 w',.int .i64 h',m1,m2.1,m2.2,n3.1,n4,n5',n6.1,n7.1,.int .i64 tm],0,48⟩) [K1.length]:=Qn _ _
 have bR:=Qa bR eO (by simp;omega)
 have cH:=cH.trans' eO (fun j hj=>.inr (by simp at hj;omega))
 have om1:=Dt.chg (T:=Qx) om1 eO (fun i hi hh=>by have:=mm1 i hi;simp at hh;omega)
 have om2:=Dt.chg (T:=Qi) om2 eO (fun i hi hh=>by have:=mm2 i hi;simp at hh;omega)
 have y3:=Dt.chg (T:=Qt) y3 eO (fun i hi hh=>by have:=in3 i hi;simp at hh;omega)
 have o4:=o4.chg eO (fun i hi hh=>by have:=in4 i hi;simp at hh;omega)
 have o5:=o5.chg eO (fun i hi hh=>by have:=hn5 i hi;simp at hh;omega)
 have y6:=Dt.chg (T:=Qt) y6 eO (fun i hi hh=>by have:=in6 i hi;simp at hh;omega)
 have y7:=Dt.chg (T:=Qt) y7 eO (fun i hi hh=>by have:=in7 i hi;simp at hh;omega)
 simp [t6,t7,t8,VM.look,bO,q,qm,qc,q5,hF1]
 generalize H2.set K1.length ⟨[.int .i64 w',.int .i64 h',m1,m2.1,m2.2,n3.1,n4,n5',n6.1,n7.1,.int .i64 tm],0,48⟩=H3 at *
 have gR:=Qq (r':=⟨[.int .i64 w',.int .i64 h',m1,m2.1,m2.2,n3.1,n4,n5',n6.1,n7.1,.int .i64 tm],0,48⟩) bR
 have hF3:H.length≤H.length+3:=by omega
 have eR:Qp H3 (H3.set (H.length+3) ⟨[.int .i64 w',.int .i64 h',m1,m2.1,m2.2,n3.1,n4,n5',n6.1,n7.1,.int .i64 tm],0,48⟩) [H.length+3]:=Qn _ _
 try simp [t6,t7,t8,VM.look,gO,bR,q,qm,qc,q5,gR,hF3]
 refine ⟨(m1,m2,n3,n4,n5',n6,n7,()),rfl,⟨Dt.chg (T:=Qx) om1 eR (fun j hj hh=>by have:=mm1 j hj;simp at hh;omega),Dt.chg (T:=Qi) om2 eR (fun j hj hh=>by have:=mm2 j hj;simp at hh;omega),Dt.chg (T:=Qt) y3 eR (fun j hj hh=>by have:=in3 j hj;simp at hh;omega),
  ⟨o4.chg eR (fun j hj hh=>by have:=in4 j hj;simp at hh;omega),by show (List.replicate own.length (-1)).length≤_;simpa using b4⟩,⟨o5.chg eR (fun j hj hh=>by have:=hn5 j hj;simp at hh;omega),by show (List.replicate turn.length 0).length≤_;simpa using b5⟩,Dt.chg (T:=Qt) y6 eR (fun j hj hh=>by have:=in6 j hj;simp at hh;omega),Dt.chg (T:=Qt) y7 eR (fun j hj hh=>by have:=in7 j hj;simp at hh;omega),trivial⟩,
  cH.trans' eR (fun j hj=>.inr (by simp at hj;omega)),fun j hj=>?_,?_⟩
 ·rcases List.mem_append.1 hj with hj|hj
  ·have:=mm1 j hj;omega
  rcases List.mem_append.1 hj with hj|hj
  ·have:=mm2 j hj;omega
  rcases List.mem_append.1 hj with hj|hj
  ·have:=in3 j hj;omega
  rcases List.mem_append.1 hj with hj|hj
  ·have:=in4 j hj;omega
  rcases List.mem_append.1 hj with hj|hj
  ·have:=hn5 j hj;omega
  ·have:=mr j (List.mem_append.2 (.inr (List.mem_append.2 (.inr (List.mem_append.2 (.inr hj))))));omega
 ·have big:∀j∈Qt.ids n6++(Qt.ids n7++[]),j<K1.length:=fun j hj=>(mr j (List.mem_append.2 (.inr (List.mem_append.2 (.inr (List.mem_append.2 (.inr hj))))))).2
  have nd5:(Qf.ids n5'++(Qt.ids n6++(Qt.ids n7++[]))).Nodup:=List.nodup_append.2 ⟨Wa n5',d52,fun a ha b hb e=>by have:=hn5 a ha;have:=big b hb;omega⟩
  have nd4:(Qf.ids n4++(Qf.ids n5'++(Qt.ids n6++(Qt.ids n7++[])))).Nodup:=List.nodup_append.2 ⟨d41,nd5,fun a ha b hb e=>by
   rcases List.mem_append.1 hb with hb|hb
   ·have:=in4 a ha;have:=hn5 b hb;omega
   ·exact d43 a ha b (List.mem_append.2 (.inr hb)) e⟩
  have nd3:(Qt.ids n3++(Qf.ids n4++(Qf.ids n5'++(Qt.ids n6++(Qt.ids n7++[]))))).Nodup:=List.nodup_append.2 ⟨d31,nd4,fun a ha b hb e=>by
   rcases List.mem_append.1 hb with hb|hb
   ·exact d33 a ha b (List.mem_append.2 (.inl hb)) e
   rcases List.mem_append.1 hb with hb|hb
   ·have:=in3 a ha;have:=hn5 b hb;omega
   ·exact d33 a ha b (List.mem_append.2 (.inr (List.mem_append.2 (.inr hb)))) e⟩
  have all:∀j∈Qt.ids n3++(Qf.ids n4++(Qf.ids n5'++(Qt.ids n6++(Qt.ids n7++[])))),j<K1.length∨j=H'.length:=fun j hj=>by
   rcases List.mem_append.1 hj with hj|hj
   ·exact .inl (in3 j hj).2
   rcases List.mem_append.1 hj with hj|hj
   ·exact .inl (in4 j hj).2
   rcases List.mem_append.1 hj with hj|hj
   ·exact .inr (hn5 j hj)
   ·exact .inl (big j hj)
  refine List.nodup_append.2 ⟨dm1,List.nodup_append.2 ⟨dm2,nd3,fun a ha b hb e=>by have:=mm2 a ha;have:=lc a ha;have:=all b hb;omega⟩,fun a ha b hb e=>?_⟩
  rcases List.mem_append.1 hb with hb|hb
  ·have:=lm a ha;have:=mm2 b hb;omega
  ·have:=mm1 a ha;have:=lm a ha;have:=all b hb;omega
theorem Qku {x:Int} (h1:0≤x) (h2:x≤18446744073709551615):IntKind.u64.wrap x=x:=by
 have:IntKind.u64.wrap x=x%18446744073709551616:=by
  simp [IntKind.wrap,IntKind.bits,IntKind.signed]
 rw [this];omega
theorem If (m:Nat) (h:m<4294967296):qx .u64 (m:Int) 4294967295=m:=by
 have:=Qew m 4294967295 (by omega) (by omega) .u64 rfl
 have e:((4294967295:Nat):Int)=4294967295:=rfl
 rw [e] at this
 unfold qx
 rw [this,show (4294967295:Nat)=2 ^ 32-1 from rfl,Nat.and_two_pow_sub_one_eq_mod,Qku (by omega) (by omega)]
 omega
theorem gp (m:Nat) (h:m<4294967296):Af .u64 (m:Int) 32=0:=by
 have:=wu .u64 m 32 (by decide)
 have e:((32:Nat):Int)=32:=rfl
 rw [e] at this
 rw [this];omega
theorem Qhk (n:Nat) (h:n<4294967296):Qh C frz 285 [.int .u64 1,.int .u64 n] H=some (.tuple #[.int .u64 0,.int .u64 n],H):=by
 rw [Qb (fn:=Tryz.f285) Tryz.func285 rfl (by kernel_rfl) rfl]
 have a1:=If 1 (by omega)
 have a0:=If 0 (by omega)
 have s1:=gp 1 (by omega)
 have s0:=gp 0 (by omega)
 have an:=If n h
 have sn:=gp n h
 simp only [Int.natCast_zero,Int.natCast_one] at a1 a0 s1 s0
 have w0:IntKind.u64.wrap 0=0:=by decide
 have wn:IntKind.u64.wrap (n:Int)=n:=Qku (by omega) (by omega)
 simp [a1,s1,an,sn,wn,w0,a0,s0]
theorem Qp2 (n:Nat) (h:n<4294967296):Qh C frz 282 [.int .u64 1,.int .u64 n] H=some (.tuple #[.int .u64 0,.int .u64 n],H):=by
 rw [Qb (fn:=Tryz.f282) Tryz.func282 rfl (by kernel_rfl) rfl]
 simp [Qhk n h]
theorem Gz (c z:Value) (k m:Nat) (j:Nat) (h:j≤m):VM.splice (List.replicate k c++List.replicate m z) k (List.replicate j c)=List.replicate (k+j) c++List.replicate (m-j) z:=by
 unfold VM.splice
 rw [List.take_left' (by simp),List.drop_append,List.drop_of_length_le (by simp)]
 simp only [List.length_replicate,Nat.add_sub_cancel_left,List.nil_append,List.drop_replicate]
 rw [List.replicate_append_replicate]
theorem Qgl (id:Nat) (c:Int) (n:Nat) (hr:H[id]? = some ⟨[.int .i64 c],0,3⟩) (h1:1≤n) (h2:n≤536870912) :
 Qh C frz 276 [.slice (some ⟨id,0,some 0⟩) 1 0,.int .i64 n] H=some (.slice (some ⟨H.length,0,some 0⟩) n 0,H++[⟨List.replicate n (.int .i64 c),0,3⟩]):=by
 rw [Qb (fn:=Tryz.f276) Tryz.func276 rfl (by kernel_rfl) rfl]
 have e0:¬(n:Int)<0:=by omega
 have e1:IntKind.u64.wrap (n:Int)=n:=Qku (by omega) (by omega)
 have e2:IntKind.u64.wrap 1=1:=by decide
 have e3:IntKind.i64.wrap (n:Int)=n:=Q0 (by omega) (by omega)
 have e4:¬(9223372036854775807:Int)<n:=by omega
 simp [VM.look,hr,e0,e1,e2,e3,e4,Qp2 n (by omega)]
 refine Ys (by omega) ?_
 have lk:∀L,(H++L)[id]? = some ⟨[.int .i64 c],0,3⟩:=fun L=>by rw [List.getElem?_append_left (List.getElem?_eq_some_iff.1 hr).1,hr]
 have er:VM.splice (List.replicate n (Value.int .i64 0)) 0 [.int .i64 c]=List.replicate 1 (.int .i64 c)++List.replicate (n-1) (.int .i64 0):=by
  have:=Gz (.int .i64 c) (.int .i64 0) 0 n 1 h1
  simpa using this
 have m1:Nat.min 1 n=1:=Nat.min_eq_left h1
 simp [VM.look,lk,m1,er]
 refine Z2 (fun m t H'=>∃k:Nat,m=n-k∧1≤k∧k≤n∧t 7=.slice (some ⟨H.length,0,some 0⟩) n 0∧t 8=.int .i64 k∧H'=H++[⟨List.replicate k (.int .i64 c)++List.replicate (n-k) (.int .i64 0),0,3⟩]) ?_ (n:=n-1) ⟨1,by simp [e3];exact h1⟩
 rintro m t H' ⟨k,rfl,hk1,hk,h7,h8,rfl⟩ ih
 simp [h7,h8]
 refine Q7 _ ?_ ?_<;>intro hkn
 ·simp [h7,h8]
  rw [Qv (h:=by kernel_rfl)]
  simp [h7,h8]
  have hmin:k.min (n-k)=min k (n-k):=rfl
  have hrep:=Gz (.int .i64 c) (.int .i64 0) k (n-k) (min k (n-k)) (Nat.min_le_right _ _)
  have hones:ones (List.replicate k (Value.int .i64 c))=true:=by simp [ones,VM.one]
  refine Ys hk (Ys hk (Ys hones ?_))
  refine ih (n-(k+min k (n-k))) _ _ ⟨k+min k (n-k),rfl,by omega,by omega,by simp [h7],?_,?_⟩ (by omega)
  ·simp [hmin];rw [Q0 (by omega) (by omega)]
  ·rw [hrep];congr 3;congr 1;congr 1;omega
 ·have:k=n:=by omega
  subst this
  simp [h7,h8]
theorem C1 {α:Type} {D:Fl α} {e:TypeId} {L H':Qd} {xs:List α} {r:Value} (h:Made D e (H++L) xs r H'):Made D e H xs r H':=by
 obtain ⟨M,rfl,o,n⟩:=h
 exact ⟨L++M,by simp,by simpa using o,fun i hi=>by have:=n i hi;simp at this;omega⟩
theorem Qbt {y:List Int} {c:Int} (h:c∈y):y[y.idxOf c]'(List.idxOf_lt_length_iff.2 h)=c:=by
 have:=List.findIdx_getElem (p:=(· == c)) (xs:=y) (w:=List.idxOf_lt_length_iff.2 h)
 simpa using this
theorem Qd2 {y:List Int} {c:Int} {j:Nat} (h:j<y.idxOf c) (h':j<y.length):y[j]≠c:=by
 have:=List.not_of_lt_findIdx (p:=(· == c)) (xs:=y) h
 simpa using this
theorem Qe0 {y:List Int} {c:Int} {j:Nat} (h:j<y.length) (h1:y[j]=c):y.idxOf c≤j:=by
 by_cases hj:j<y.idxOf c
 ·exact absurd h1 (Qd2 hj h)
 ·omega
theorem Qd1 {A B:Qd} {v:Value} {xs:List Int} {r:Row} (r':Row) (h:W7 (A++r::B) v xs) (hn:∀i∈ids v,A.length+1≤i):W7 (A++r'::B) v xs:=
 (h.rd.frame fun i hi=>by
  have:=hn i hi
  obtain ⟨k,rfl⟩:∃k,i=A.length+(k+1):=⟨i-A.length-1,by omega⟩
  simp).isI
theorem jl (v:Value) (P:List Int) (a b:Int) (hI:W7 H v P) (hl:P.length≤536870911) :
 wp (Qh C frz 233 [v,.int .i64 a,.int .i64 b] H) (Made Fl.int 3 H (Xw P a b)):=by
 rw [Qb (fn:=Tryz.f233) Tryz.func233 rfl (by kernel_rfl) rfl]
 simp [Qfy _ _ _ _ hI (by omega)]
 refine Qm ?_ ?_<;>intro h0
 ·simp [Xw,h0]
  exact ⟨[],by simp,.inl ⟨rfl,rfl⟩,by simp⟩
 ·simp
  refine Ql (Qb4 v P a hI (by omega)) ?_
  rintro va _ ⟨L1,rfl,oa,na⟩
  simp
  refine Ql (Qb4 v P b (hI.app _) (by omega)) ?_
  rintro vb _ ⟨L2,rfl,ob,nb⟩
  have ltA:=oa.lt
  have oa:=oa.app (L:=L2)
  have hla:=Ri P a
  have hlb:=Ri P b
  simp only [List.append_assoc] at oa ob
  obtain ⟨ma,mb⟩:=Ld (P:=P) (a:=a) (b:=b) (by omega)
  have ia:=List.idxOf_lt_length_iff.2 ma
  have ib:=List.idxOf_lt_length_iff.2 mb
  simp
  rw [Qv (h:=by kernel_rfl)]
  have e1:IntKind.i64.wrap (((Y0 P a).idxOf (common P a b):Int)+1)=(((Y0 P a).idxOf (common P a b)+1:Nat):Int):=by rw [Q0 (by omega) (by omega)];omega
  obtain ⟨va',s1,oa',ida⟩:=oa.slice (P:=Tryz.prog) (ty:=24) (by simp) (lo:=none) (hi:=some (.int .i64 (((Y0 P a).idxOf (common P a b)+1:Nat):Int))) (l:=0) (u:=(Y0 P a).idxOf (common P a b)+1) rfl rfl (by omega) (by omega)
  obtain ⟨vb',s2,ob',idb⟩:=ob.slice (P:=Tryz.prog) (ty:=24) (by simp) (lo:=none) (hi:=some (.int .i64 ((Y0 P b).idxOf (common P a b):Int))) (l:=0) (u:=(Y0 P b).idxOf (common P a b)) rfl rfl (by omega) (by omega)
  rw [List.drop_zero,Nat.sub_zero] at oa' ob'
  have e0:place (Y0 P a) (common P a b)=((Y0 P a).idxOf (common P a b):Int):=if_pos ma
  have e00:place (Y0 P b) (common P a b)=((Y0 P b).idxOf (common P a b):Int):=if_pos mb
  rw [e1.symm] at s1
  simp [qs _ _ _ oa.rd.isI (by omega),e0]
  simp only [s1]
  simp [qs _ _ _ ob.rd.isI (by omega),e00]
  simp only [s2]
  simp
  rw [ida.symm] at na ltA
  rw [idb.symm] at nb
  refine Ql (Qcp vb' _ 3 ob' (by simp;omega) (fun i hi=>by have:=nb i hi;simp at this;omega)) ?_
  rintro _ H3 ⟨ob3,c3,l3⟩
  have oa3:=oa'.chg c3 (fun i hi hh=>by have h1:=ltA i hi;have h2:=nb i hh;omega)
  obtain ⟨M,rfl⟩:∃M,H3=H++M:=((Qp.app (H:=H) (L:=L1++L2) []).trans' c3 (fun i hi=>.inr (by have:=nb i hi;simp at this;omega))).ex (by simp)
  simp
  simp [oa3.rd.one',oa3.rd.cells,ob3.rd.one',ob3.rd.cells]
  refine Ql (Q':=Made Fl.int 3 H (Xw P a b)) ?_ ?_
  ·refine (yl (H:=H++(M++[⟨[va',vb'],0,24⟩])) (Qfr (H:=H++(M++[⟨[va',vb'],0,24⟩])) (H.length+M.length) va' vb' ((Y0 P a).take ((Y0 P a).idxOf (common P a b)+1)) ((Y0 P b).take ((Y0 P b).idxOf (common P a b))).reverse (by simp) ?_ ?_ (by simp;omega))).mono ?_
   ·have:=oa3.rd.isI.app [⟨[va',vb'],0,24⟩];simpa using this
   ·have:=ob3.rd.isI.app [⟨[va',vb'],0,24⟩];simpa using this
   ·intro r H4 h4
    rw [Xw,if_neg h0]
    exact C1 h4
  ·intro r H4 h4
   simp
   exact h4
theorem Qlf {xs:List Int} {x:Int} (h0:0≤x) (h1:x<xs.length):(xs.map (Value.int .i64))[x.toNat]? = some (.int .i64 (rd xs x)):=by
 obtain ⟨i,rfl⟩:=Int.eq_ofNat_of_zero_le h0
 rw [Oo (by omega)];simp
theorem nm {xs:List Int} {x:Int} (h0:0≤x) (h1:x<xs.length):xs[x.toNat]'(by omega)=rd xs x:=by
 obtain ⟨i,rfl⟩:=Int.eq_ofNat_of_zero_le h0
 rw [Oo (by omega)];rfl
theorem Ap {xs:List Int} {x c:Int} (h0:0≤x) (h1:x<xs.length):VM.splice (xs.map (Value.int .i64)) x.toNat [.int .i64 c]=(xs.set x.toNat c).map (.int .i64):=by
 unfold VM.splice
 rw [List.set_eq_take_append_cons_drop,if_pos (by omega)]
 simp
theorem wr1:IntKind.i64.wrap 1=1:=by decide
theorem Qe9 {w h:Int} {b s rest nx r:List Int} {d:Int} (R:Run w h b s rest nx d r) (i:Inv w h s rest nx d):(rest=[]∧nx=[]∧s=r)∨
 ∃a rest' nx' d',rest++nx=a::(rest'++nx')∧Inv w h s (a::rest') nx' d'∧Run w h b (Ge w h b a d' (s,nx')).1 rest' (Ge w h b a d' (s,nx')).2 d' r:=by
 cases R with
 | done=>exact .inl ⟨rfl,rfl,rfl⟩
 | level R=>
  cases R with
  | node R=>exact .inr ⟨_,_,[],_,by simp,i.level,R⟩
 | node R=>exact .inr ⟨_,_,_,_,by simp,i,R⟩
theorem P7 (w h:Int) (v:Value) (b:List Int) (root:Int) (hI:W7 H v b) (hl:b.length≤1073741824) :
 wp (Qh C frz 259 [.agg #[.int .i64 w,.int .i64 h,v],.int .i64 root] H) (Made Fl.int 3 H (Wg w h b root)):=by
 rw [Qb (fn:=Tryz.f259) Tryz.func259 rfl (by kernel_rfl) rfl]
 have one:=And.intro hI.one' hI.cells
 simp [one,jt _ _ _ _ _ (hI.app _) hl,-Bool.decide_and]
 refine Qm ?_ ?_<;>intro hR
 ·have R:=Rf hR
  have hc:=Qz w h
  obtain ⟨hm,hr⟩:=hR
  obtain ⟨i0,hq0⟩:=Ti hr
  obtain ⟨r0,r1⟩:=hr
  have hn1:1≤(cnt w h).toNat:=by omega
  have ecn:((cnt w h).toNat:Int)=cnt w h:=by omega
  have rep:=fun F L (hr:(H++⟨[.int .i64 w,.int .i64 h,v],0,42⟩::L)[H.length+1]? = some ⟨[.int .i64 (-1)],0,3⟩)=>Qgl (frz:=F) (H:=H++⟨[.int .i64 w,.int .i64 h,v],0,42⟩::L) (H.length+1) (-1) (cnt w h).toNat hr hn1 (by omega)
  rw [ecn] at rep
  simp [one,Xx]
  rw [rep _ _ (by simp)]
  have er:List.replicate (cnt w h).toNat (Value.int .i64 (-1))=(List.replicate (cnt w h).toNat (-1:Int)).map (.int .i64):=by simp
  have es:=Ap (xs:=List.replicate (cnt w h).toNat (-1:Int)) (c:=0) r0 (by simp;omega)
  rw [er]
  simp only [Qg3]
  have hrl:root<((cnt w h).toNat:Int):=by omega
  simp [r0,r1,hrl,-List.map_replicate,es,-List.map_set]
  refine Xt (by omega) (Xt (by omega) ?_)
  have est:(List.replicate (cnt w h).toNat (-1:Int)).set root.toNat 0=start w h root:=rfl
  rw [est]
  have hlm:b.length≤1073741824:=hl
  refine Qw (fun n t H'=>∃(s don rest nx q:List Int) (d:Int) (g:Nat) (G:Qd),n=(cnt w h).toNat-don.length∧q=don++(rest++nx)∧
   t 2=.pointer (some ⟨H.length,0,some 0⟩)∧t 5=.slice (some ⟨H.length+2,0,some 0⟩) s.length 0∧t 6=.slice (some ⟨H.length+3,0,some g⟩) q.length 0∧t 7=.int .i64 don.length∧
   H'=H++⟨[.int .i64 w,.int .i64 h,v],0,42⟩::⟨[.int .i64 (-1)],0,3⟩::⟨s.map (.int .i64),0,3⟩::⟨q.map (.int .i64),g,3⟩::G∧
   Run w h b s rest nx d (Wg w h b root)∧Inv w h s rest nx d∧((don.length+rest.length+nx.length+neg s:Nat):Int)=cnt w h) ?_
   (n:=(cnt w h).toNat) ⟨start w h root,[],[root],[],[root],1,0,[],by simp,by simp,by simp,by simp [start],by simp,by simp,by simp,R,i0,by simp;omega⟩
  clear R i0 hq0 rep
  rintro n t H' ⟨s,don,rest,nx,q,d,g,G,rfl,hqe,h2,h5,h6,h7,rfl,R,i,hq⟩ ih
  have hql:=congrArg List.length hqe
  simp at hql
  simp [h2,h5,h6,h7]
  rcases Qe9 R i with ⟨rfl,rfl,rfl⟩|⟨a,rest',nx',d',hcat,i',R'⟩
  ·have hlt:¬don.length<q.length:=by simp at hql;omega
   simp [h2,h5,h6,h7,hlt]
   exact ⟨_,rfl,Ow.new (k:=2) rfl (W1 _).symm (by simp) rfl,by simp⟩
  ·have hlc:=congrArg List.length hcat
   simp at hlc
   have hlt:don.length<q.length:=by omega
   have hget:q[don.length]? = some a:=by rw [hqe,hcat];simp
   have hgv:q[don.length]=a:=by have:=List.getElem?_eq_getElem hlt;rw [hget] at this;exact (Option.some.inj this).symm
   obtain ⟨ha,hda⟩:=i'.fr a (by simp)
   have ha1:=(S8 ha)
   have h1d:=i'.one
   have hsd:=i'.sum
   simp [h2,h5,h6,h7,hlt,hgv]
   refine Qw (fun n t H'=>∃(x:List Int×List Int) (p g:Nat) (G:Qd),n=4-p∧p≤4∧x=(List.range p).foldl (Po w h b a d') (s,q)∧BExt w h d' (s,q) x∧
    t 2=.pointer (some ⟨H.length,0,some 0⟩)∧t 5=.slice (some ⟨H.length+2,0,some 0⟩) x.1.length 0∧t 6=.slice (some ⟨H.length+3,0,some g⟩) x.2.length 0∧t 7=.int .i64 don.length∧
    t 8=.int .i64 a∧t 9=.int .i64 p∧
    H'=H++⟨[.int .i64 w,.int .i64 h,v],0,42⟩::⟨[.int .i64 (-1)],0,3⟩::⟨x.1.map (.int .i64),0,3⟩::⟨x.2.map (.int .i64),g,3⟩::G) ?_
    (n:=4) ⟨(s,q),0,g,G,by simp,by simp,by simp,BExt.rfl',by simp [h2],by simp [h5],by simp [h6],by simp [h7],by simp,by simp,by simp⟩
   clear h2 h5 h6 h7
   rintro n t H' ⟨x,p,g,G,rfl,hp,hx,E,h2,h5,h6,h7,h8,h9,rfl⟩ ih2
   have hlen:(x.1.length:Int)=cnt w h:=by rw [E.len];exact i.len
   have hxq:x.2.length≤16:=by have:=E.sum;simp at this;omega
   simp [h2,h5,h6,h7,h8,h9]
   refine Qm ?_ ?_<;>intro hp4
   ·have qz:p<4:=by omega
    have e1:IntKind.i64.wrap (4*a)=4*a:=Q0 (by omega) (by omega)
    have e2:IntKind.i64.wrap (4*a+p)=4*a+p:=Q0 (by omega) (by omega)
    have nxt:=fun (x':List Int×List Int) (t':Env) (g':Nat) (G' H':Qd) (hH:H'=H++⟨[.int .i64 w,.int .i64 h,v],0,42⟩::⟨[.int .i64 (-1)],0,3⟩::⟨x'.1.map (.int .i64),0,3⟩::⟨x'.2.map (.int .i64),g',3⟩::G') (hx':x'=Po w h b a d' x p) (k2:t' 2=.pointer (some ⟨H.length,0,some 0⟩)) (k5:t' 5=.slice (some ⟨H.length+2,0,some 0⟩) x'.1.length 0) (k6:t' 6=.slice (some ⟨H.length+3,0,some g'⟩) x'.2.length 0) (k7:t' 7=.int .i64 don.length) (k8:t' 8=.int .i64 a) (k9:t' 9=.int .i64 (p+1:Nat))=>
     ih2 (4-(p+1)) t' H'
      ⟨x',p+1,g',G',rfl,by omega,by rw [List.range_succ,List.foldl_append,← hx];exact hx',by rw [hx'];exact E.trans (by omega) (Gm qz (by omega)),k2,k5,k6,k7,k8,k9,hH⟩ (by omega)
    have w9:IntKind.i64.wrap ((p:Int)+1)=((p+1:Nat):Int):=by rw [Q0 (by omega) (by omega)];omega
    simp [h2,h5,h6,h7,h8,h9,one,e1,e2,xx _ _ _ _ _ (hI.app _) hl,hm]
    refine Qm ?_ ?_<;>intro hlk
    ·obtain ⟨_,hn,he⟩:=Za qz hlk
     have hend:=fun F L=>(congrArg (fun z=>some (Value.int .i64 z,H++L)) he)▸Kg (frz:=F) w h v b (4*a+(p:Int)) (hI.app L) hlk.1.1
     have hn1:=hn.1
     have hn2:next w h a p<(x.1.length:Int):=by have:=hn.2;omega
     have hg:=Qlf (xs:=x.1) hn1 hn2
     have hr1:=nm hn1 hn2
     have hra:rd x.1 a=d'-1:=by rw [E.old a ha.1 (show 0≤rd s a by omega)];exact hda
     have ha2:a<(x.1.length:Int):=by have:=ha.2;omega
     have hr2:=nm ha.1 ha2
     simp [h2,h5,h6,h7,h8,h9,one,e1,e2,hend,hn1,hn2,hr1]
     refine Qm ?_ ?_<;>intro hz
     ·have hset:=Ap (c:=d') hn1 hn2
      have ev:Po w h b a d' x p=(x.1.set (next w h a p).toNat d',x.2++[next w h a p]):=by unfold Po;rw [if_pos ⟨hlk,hz⟩]
      have wd:IntKind.i64.wrap d'=d':=Q0 (by omega) (by omega)
      have ha0:=ha.1
      simp [h2,h5,h6,h7,h8,h9,hn1,hn2,ha0,ha2,hr2,hra,wd]
      refine Xt (by omega) (Xt (by omega) ?_)
      rw [hset]
      refine nxt (x.1.set (next w h a p).toNat d',x.2++[next w h a p]) _ (g+1) (G++[⟨[.int .i64 (next w h a p)],0,3⟩]) _ (by simp) ev.symm (by simp [h2]) (by simp [h5]) (by simp) (by simp [h7]) (by simp [h8]) (by simp [w9])
     ·simp [h2,h5,h6,h7,h8,h9,hz]
      have ev:x=Po w h b a d' x p:=by unfold Po;rw [if_neg (fun hh=>hz hh.2)]
      refine nxt x _ g G _ (by simp) ev (by simp [h2]) (by simp [h5]) (by simp [h6]) (by simp [h7]) (by simp [h8]) (by simp [w9])
    ·simp [h2,h5,h6,h7,h8,h9,hlk]
     have ev:x=Po w h b a d' x p:=by unfold Po;rw [if_neg (fun hh=>hlk hh.1)]
     refine nxt x _ g G _ (by simp) ev (by simp [h2]) (by simp [h5]) (by simp [h6]) (by simp [h7]) (by simp [h8]) (by simp [w9])
   ·have:p=4:=by omega
    subst this
    have e2:x=((Ge w h b a d' (s,nx')).1,(don++a::rest')++(Ge w h b a d' (s,nx')).2):=by
     rw [hx,hqe,hcat];exact Qba (don++a::rest') s nx' |> fun hh=>by simpa [Ge] using hh
    simp [h2,h5,h6,h7,h8,h9]
    have hs1:=(Gl (w:=w) (h:=h) (b:=b) (a:=a) (d:=d') (by omega) (s,nx')).sum
    simp only at hs1
    refine ih ((cnt w h).toNat-(don++[a]).length) _ _ ⟨(Ge w h b a d' (s,nx')).1,don++[a],rest',(Ge w h b a d' (s,nx')).2,x.2,d',g,G,rfl,?_,by simp [h2],?_,by simp [h6],?_,?_,R',i'.node,?_⟩ (by simp;omega)
    ·rw [e2];simp
    ·simp [h5,e2]
    ·simp;rw [Q0 (by omega) (by omega)]
    ·rw [e2]
    ·simp;omega
 ·rw [Vn hR]
  simp
  exact ⟨_,rfl,.inl ⟨rfl,rfl⟩,by simp⟩
theorem Ct {w h:Int} {b s nx r:List Int} {d:Int} (R:Run w h b s [] nx d r) (i:Inv w h s [] nx d):(nx=[]∧s=r)∨(Run w h b s nx [] (d+1) r∧Inv w h s nx [] (d+1)):=by
 cases R with
 | done=>exact .inl ⟨rfl,rfl⟩
 | level R=>exact .inr ⟨R,i.level⟩
theorem Qf9 {w h:Int} {b s rest nx r:List Int} {a d:Int} (R:Run w h b s (a::rest) nx d r):Run w h b (Ge w h b a d (s,nx)).1 rest (Ge w h b a d (s,nx)).2 d r:=by
 cases R with
 | node R=>exact R
theorem Ig (w h:Int) (v:Value) (b:List Int) (root:Int) (hI:W7 H v b) (hl:b.length≤1073741824) (hR:Zv w h b root) :
 wp (Qh C frz 238 [.agg #[.int .i64 w,.int .i64 h,v],.int .i64 root] H) (Made Fl.int 3 H (Wg w h b root)):=by
 rw [Qb (fn:=Tryz.f238) Tryz.func238 rfl (by kernel_rfl) rfl]
 have one:=And.intro hI.one' hI.cells
 have R:=Rf hR
 have hc:=Qz w h
 obtain ⟨hm,hr⟩:=hR
 obtain ⟨i0,hq0⟩:=Ti hr
 obtain ⟨r0,r1⟩:=hr
 simp [one]
 refine Qw (fun n t H'=>∃(i:Nat) (G:Qd),n=(cnt w h).toNat-i∧i≤(cnt w h).toNat∧t 1=.int .i64 root∧t 2=.pointer (some ⟨H.length,0,some 0⟩)∧t 5=.slice (some ⟨H.length+1,0,some i⟩) i 0∧t 6=.int .i64 i∧
  H'=H++⟨[.int .i64 w,.int .i64 h,v],0,42⟩::⟨(List.replicate i (-1:Int)).map (.int .i64),i,3⟩::G) ?_ (n:=(cnt w h).toNat) ⟨0,[],by simp⟩
 rintro n t H' ⟨i,G,rfl,hi,h1,h2,h5,h6,rfl⟩ ih
 simp [h1,h2,h5,h6,one,W8,-List.map_replicate]
 refine Qm ?_ ?_<;>intro hic
 ·simp [h1,h2,h5,h6,one,-List.map_replicate]
  refine Xt (by omega) ?_
  refine ih ((cnt w h).toNat-(i+1)) _ _ ⟨i+1,G++[⟨[.int .i64 (-1)],0,3⟩],rfl,by omega,by simp [h1],by simp [h2],by simp,?_,?_⟩ (by omega)
  ·simp;rw [Q0 (by omega) (by omega)]
  ·simp [List.replicate_succ',-List.map_replicate]
 ·have:i=(cnt w h).toNat:=by omega
  subst this
  have es:=Ap (xs:=List.replicate (cnt w h).toNat (-1:Int)) (c:=0) r0 (by simp;omega)
  have hrl:root<((cnt w h).toNat:Int):=by omega
  have est:(List.replicate (cnt w h).toNat (-1:Int)).set root.toNat 0=start w h root:=rfl
  simp [h1,h2,h5,h6,one,r0,r1,hrl,-List.map_replicate,es,-List.map_set,est]
  refine Xt (by omega) (Xt (by omega) ?_)
  clear ih h1 h6
  generalize hg0:(cnt w h).toNat=g0
  have hcg:(cnt w h)=(g0:Int):=by omega
  refine Qw (fun n t H'=>∃(s fr:List Int) (d:Int) (vf:Value) (L:Qd),n=g0+2-d.toNat∧1≤d∧d≤g0+1∧s.length=g0∧fr.length≤16∧
   t 2=.pointer (some ⟨H.length,0,some 0⟩)∧t 5=.slice (some ⟨H.length+1,0,some g0⟩) s.length 0∧t 7=vf∧t 8=.int .i64 d∧
   H'=H++⟨[.int .i64 w,.int .i64 h,v],0,42⟩::⟨s.map (.int .i64),g0,3⟩::L∧
   (∀r1 L',W7 (H++⟨[.int .i64 w,.int .i64 h,v],0,42⟩::r1::(L++L')) vf fr)∧
   ((fr=[]∧s=Wg w h b root)∨(Run w h b s fr [] d (Wg w h b root)∧Inv w h s fr [] d))) ?_
   (n:=g0+1) ⟨start w h root,[root],1,_,G++[⟨[.int .i64 root],0,3⟩],by simp,by omega,by omega,by simp [start,hg0],by simp,by simp [h2],by simp [start,hg0,h5],rfl,by simp,by simp,?_,.inr ⟨R,i0⟩⟩
  ·clear R i0 hq0
   rintro n t H' ⟨s,fr,d,vf,L,rfl,hd1,hd2,hsl,hfl,h2,h5,h7,h8,rfl,fF,hRI⟩ ih
   have lenF:=fun r1 L'=>(fF r1 L').len (P:=Tryz.prog) (ty:=24) (by simp)
   have Qjo:=fun r1=>lenF r1 []
   simp only [List.append_nil] at Qjo
   simp [h2,h5,h7,h8,lenF,Qjo]
   refine Qm ?_ ?_<;>intro hf0
   ·rcases hRI with ⟨rfl,_⟩|⟨R,i⟩
    ·simp at hf0
    simp [h2,h5,h7,h8]
    -- the nodes of the front
    refine Qw (fun n t H'=>∃(s don rest nx:List Int) (g:Nat) (G:Qd),n=fr.length-don.length∧fr=don++rest∧s.length=g0∧
     t 2=.pointer (some ⟨H.length,0,some 0⟩)∧t 5=.slice (some ⟨H.length+1,0,some g0⟩) s.length 0∧t 7=vf∧t 8=.int .i64 d∧t 9=.slice (some ⟨H.length+(L.length+1+1),0,some g⟩) nx.length 0∧t 10=.int .i64 don.length∧
     H'=H++⟨[.int .i64 w,.int .i64 h,v],0,42⟩::⟨s.map (.int .i64),g0,3⟩::(L++⟨nx.map (.int .i64),g,3⟩::G)∧
     Run w h b s rest nx d (Wg w h b root)∧Inv w h s rest nx d) ?_ (n:=fr.length) ⟨s,[],fr,[],0,[],by simp,by simp,hsl,by simp [h2],by simp [h5],by simp [h7],by simp [h8],by simp,by simp,by simp,R,i⟩
    clear R i h2 h5 h7 h8 hsl
    rintro n t H' ⟨s,don,rest,nx,g,G,rfl,hfe,hsl,h2,h5,h7,h8,h9,h10,rfl,R,i⟩ ih2
    simp [h2,h5,h7,h8,h9,h10,lenF]
    have hlf:=congrArg List.length hfe
    simp at hlf
    have h1d:=i.one
    have hsd:=i.sum
    refine Qm ?_ ?_<;>intro hdl
    ·obtain ⟨a,rest',rfl⟩:∃a rest',rest=a::rest':=by
      cases rest with
      | nil=>simp at hlf;omega
      | cons a l=>exact ⟨a,l,rfl⟩
     obtain ⟨ha,hda⟩:=i.fr a (by simp)
     have ha1:=S8 ha
     have hgv:fr[don.length]=a:=by subst hfe;simp
     have xF:=fun r1 L'=>(fF r1 L').idx (P:=Tryz.prog) (ty:=24) (e:=3) (by simp) (i:=(don.length:Int)) (by omega) (by omega)
     have dF:=fun r1 L'=>((fF r1 L').load (P:=Tryz.prog) (e:=3) (by simp) hdl).trans (by rw [Wh _ _ hdl,hgv])
     simp only [Int.toNat_natCast] at xF
     simp [h2,h5,h7,h8,h9,h10]
     refine Qw (fun n t H'=>∃(x:List Int×List Int) (p g:Nat) (G:Qd),n=4-p∧p≤4∧x=(List.range p).foldl (Po w h b a d) (s,nx)∧BExt w h d (s,nx) x∧
      t 2=.pointer (some ⟨H.length,0,some 0⟩)∧t 5=.slice (some ⟨H.length+1,0,some g0⟩) x.1.length 0∧t 7=vf∧t 8=.int .i64 d∧t 9=.slice (some ⟨H.length+(L.length+1+1),0,some g⟩) x.2.length 0∧t 10=.int .i64 don.length∧t 11=.int .i64 p∧
      H'=H++⟨[.int .i64 w,.int .i64 h,v],0,42⟩::⟨x.1.map (.int .i64),g0,3⟩::(L++⟨x.2.map (.int .i64),g,3⟩::G)) ?_
      (n:=4) ⟨(s,nx),0,g,G,by simp,by simp,by simp,BExt.rfl',by simp [h2],by simp [h5],by simp [h7],by simp [h8],by simp [h9],by simp [h10],by simp,by simp⟩
     clear h2 h5 h7 h8 h9 h10
     rintro n t H' ⟨x,p,g,G,rfl,hp,hx,E,h2,h5,h7,h8,h9,h10,h11,rfl⟩ ih3
     have hlen:(x.1.length:Int)=cnt w h:=by rw [E.len];exact i.len
     have hxq:x.2.length≤16:=by have:=E.sum;simp at this;omega
     simp [h2,h5,h7,h8,h9,h10,h11]
     refine Qm ?_ ?_<;>intro hp4
     ·have qz:p<4:=by omega
      have e1:IntKind.i64.wrap (4*a)=4*a:=Q0 (by omega) (by omega)
      have e2:IntKind.i64.wrap (4*a+p)=4*a+p:=Q0 (by omega) (by omega)
      have nxt:=fun (x':List Int×List Int) (t':Env) (g':Nat) (G' H':Qd) (hH:H'=H++⟨[.int .i64 w,.int .i64 h,v],0,42⟩::⟨x'.1.map (.int .i64),g0,3⟩::(L++⟨x'.2.map (.int .i64),g',3⟩::G')) (hx':x'=Po w h b a d x p) (k2:t' 2=.pointer (some ⟨H.length,0,some 0⟩)) (k5:t' 5=.slice (some ⟨H.length+1,0,some g0⟩) x'.1.length 0) (k7:t' 7=vf) (k8:t' 8=.int .i64 d) (k9:t' 9=.slice (some ⟨H.length+(L.length+1+1),0,some g'⟩) x'.2.length 0) (k10:t' 10=.int .i64 don.length) (k11:t' 11=.int .i64 (p+1:Nat))=>
       ih3 (4-(p+1)) t' H' ⟨x',p+1,g',G',rfl,by omega,by rw [List.range_succ,List.foldl_append,← hx];exact hx',by rw [hx'];exact E.trans (by omega) (Gm qz (by omega)),k2,k5,k7,k8,k9,k10,k11,hH⟩ (by omega)
      have w11:IntKind.i64.wrap ((p:Int)+1)=((p+1:Nat):Int):=by rw [Q0 (by omega) (by omega)];omega
      simp [h2,h5,h7,h8,h9,h10,h11,one]
      rw [Qv (h:=by kernel_rfl)]
      simp [h2,h5,h7,h8,h9,h10,h11,one,xF,dF,e1,e2,C6 _ _ _ _ _ (hI.app _) hl]
      refine Qm ?_ ?_<;>intro hlk
      ·obtain ⟨_,hn,he⟩:=Za qz hlk
       have hn1:=hn.1
       have hn2:next w h a p<(x.1.length:Int):=by have:=hn.2;omega
       have hr1:=nm hn1 hn2
       simp [h2,h5,h7,h8,h9,h10,h11,one]
       rw [Qv (h:=by kernel_rfl)]
       simp [h2,h5,h7,h8,h9,h10,h11,one,xF,dF,Zy,hn1,hn2,hr1]
       refine Qm ?_ ?_<;>intro hz
       ·have hset:=Ap (c:=d) hn1 hn2
        have ev:Po w h b a d x p=(x.1.set (next w h a p).toNat d,x.2++[next w h a p]):=by unfold Po;rw [if_pos ⟨hlk,hz⟩]
        simp [h2,h5,h7,h8,h9,h10,h11,hn1,hn2]
        refine Xt (by omega) (Xt (by omega) ?_)
        rw [hset]
        refine nxt (x.1.set (next w h a p).toNat d,x.2++[next w h a p]) _ (g+1) (G++[⟨[.int .i64 (next w h a p)],0,3⟩]) _ (by simp) ev.symm (by simp [h2]) (by simp [h5]) (by simp [h7]) (by simp [h8]) (by simp) (by simp [h10]) (by simp [w11])
       ·simp [h2,h5,h7,h8,h9,h10,h11,hz]
        have ev:x=Po w h b a d x p:=by unfold Po;rw [if_neg (fun hh=>hz hh.2)]
        refine nxt x _ g G _ (by simp) ev (by simp [h2]) (by simp [h5]) (by simp [h7]) (by simp [h8]) (by simp [h9]) (by simp [h10]) (by simp [w11])
      ·simp [h2,h5,h7,h8,h9,h10,h11,hlk]
       have ev:x=Po w h b a d x p:=by unfold Po;rw [if_neg (fun hh=>hlk hh.1)]
       refine nxt x _ g G _ (by simp) ev (by simp [h2]) (by simp [h5]) (by simp [h7]) (by simp [h8]) (by simp [h9]) (by simp [h10]) (by simp [w11])
     ·have:p=4:=by omega
      subst this
      have e2:x=Ge w h b a d (s,nx):=hx
      simp [h2,h5,h7,h8,h9,h10,h11]
      refine ih2 (fr.length-(don++[a]).length) _ _ ⟨(Ge w h b a d (s,nx)).1,don++[a],rest',(Ge w h b a d (s,nx)).2,g,G,rfl,by rw [hfe];simp,by rw [← e2];omega,by simp [h2],by simp [h5,e2],by simp [h7],by simp [h8],by simp [h9,e2],?_,by rw [e2],Qf9 R,i.node⟩ (by simp;omega)
      simp;rw [Q0 (by omega) (by omega)]
    ·obtain rfl:rest=[]:=by
      cases rest with
      | nil=>rfl
      | cons a l=>simp at hlf;omega
     simp [h2,h5,h7,h8,h9,h10]
     have wd:IntKind.i64.wrap (d+1)=d+1:=Q0 (by omega) (by omega)
     refine ih (g0+2-(d+1).toNat) _ _ ⟨s,nx,d+1,_,L++⟨nx.map (.int .i64),g,3⟩::G,rfl,by omega,by omega,hsl,by omega,by simp [h2],by simp [h5],rfl,by simp [wd],by simp,?_,?_⟩ (by omega)
     ·intro r1 L'
      simp
      exact W7.at (k:=L.length+1+1) (by simp;rfl)
     ·rcases Ct R i with ⟨rfl,rfl⟩|hh
      ·exact .inl ⟨rfl,rfl⟩
      ·exact .inr hh
   ·have hs:s=Wg w h b root:=by
     rcases hRI with ⟨_,hs⟩|⟨R,i⟩
     ·exact hs
     ·obtain rfl:fr=[]:=by
       cases fr with
       | nil=>rfl
       | cons a l=>simp at hf0
      rcases Ct R i with ⟨_,hh⟩|⟨R2,i2⟩
      ·exact hh
      ·cases R with
       | done=>rfl
    subst hs
    simp [h2,h5,h7,h8]
    exact ⟨_,rfl,Ow.new (k:=1) rfl (W1 _).symm (by simp) rfl,by simp⟩
  ·intro r1 L'
   simp
   exact W7.at (xs:=[root]) (k:=G.length+1+1) (e:=3) (by simp)
theorem Mm (w h:Int) (v:Value) (b:List Int) (root:Int) (hI:W7 H v b) (hl:b.length≤1073741824) :
 wp (Qh C frz 217 [.agg #[.int .i64 w,.int .i64 h,v],.int .i64 root] H) (Made Fl.int 3 H (Wg w h b root)):=by
 rw [Qb (fn:=Tryz.f217) Tryz.func217 rfl (by kernel_rfl) rfl]
 have one:=And.intro hI.one' hI.cells
 simp [one,Qb1 _ _ _ _ _ (hI.app _) hl,-Bool.decide_and]
 refine Qm ?_ ?_<;>intro hR
 ·simp [one]
  refine Ql (Ig w h v b root (hI.app _) hl hR) ?_
  intro r H' k
  simp
  exact C1 k
 ·rw [Vn hR]
  simp
  exact ⟨_,rfl,Ow.new (D:=Fl.int) (e:=3) (k:=1) (g:=0) (cs:=[]) rfl rfl rfl rfl,by simp⟩
def pF (w h:Int) (b d:List Int) (i:Int):Nat→Int
 | 0=>-1
 | j+1=>if Yq w h b d i (3-j) then next w h i (3-j:Nat) else pF w h b d i j
theorem Qk6 {w h:Int} {b d:List Int} {i:Int} (h0:rd d i>0):pF w h b d i 4=K9 w h b d i:=by
 simp only [K9,pF,if_pos h0]
theorem Dz (w h:Int) (v:Value) (b:List Int) (root:Int) (hI:W7 H v b) (hl:b.length≤1073741824) :
 wp (Qh C frz 231 [.agg #[.int .i64 w,.int .i64 h,v],.int .i64 root] H) (Made Fl.int 3 H (Wb w h b root)):=by
 rw [Qb (fn:=Tryz.f231) Tryz.func231 rfl (by kernel_rfl) rfl]
 have one:=And.intro hI.one' hI.cells
 have hc:=Qz w h
 simp [one]
 refine Ql (P7 w h v b root (hI.app _) hl) ?_
 rintro vd _ ⟨L,rfl,od,nd⟩
 have od:=od.rd.isI
 simp only [List.append_assoc,List.singleton_append] at od
 have hdl:=U9 w h b root
 have dm:=fun v (hv:v∈Wg w h b root)=>Dl hv
 have dv:(Wg w h b root)≠[]→Zv w h b root∧((Wg w h b root).length:Int)=cnt w h:=fun hne=>by
  by_cases hR:Zv w h b root
  ·exact ⟨hR,(Zh hR).1⟩
  ·exact absurd (Vn hR) hne
 unfold Wb Qag
 generalize Wg w h b root=D at *
 have fD:=fun L'=>od.app L'
 simp only [List.append_assoc,List.cons_append,List.nil_append] at fD
 have lD:=fun L'=>(fD L').len (P:=Tryz.prog) (ty:=24) (by simp)
 simp [lD]
 refine Qw (fun n t H'=>∃(i g:Nat) (G:Qd) (o:List Int),n=D.length-i∧i≤D.length∧o=(List.range i).map (fun i:Nat=>K9 w h b D (i:Int))∧
  t 2=.pointer (some ⟨H.length,0,some 0⟩)∧t 5=vd∧t 6=.slice (some ⟨H.length+(L.length+1),0,some g⟩) o.length 0∧t 16=vd∧t 17=.int .i64 D.length∧t 18=.int .i64 i∧
  H'=H++⟨[.int .i64 w,.int .i64 h,v],0,42⟩::(L++⟨o.map (.int .i64),g,3⟩::G)) ?_ (n:=D.length) ⟨0,0,[],[],by simp⟩
 rintro n t H' ⟨i,g,G,o,rfl,hi,ho,h2,h5,h6,h16,h17,h18,rfl⟩ ih
 simp [h2,h5,h6,h16,h17,h18]
 have hol:o.length=i:=by rw [ho];simp
 refine Qm ?_ ?_<;>intro hid
 ·obtain ⟨⟨hm,hr⟩,hlc⟩:=dv (fun hh=>by rw [hh] at hid;simp at hid)
  have hid':i<D.length:=by omega
  have xD:=fun L'=>(fD L').idx (P:=Tryz.prog) (ty:=24) (e:=3) (by simp) (i:=(i:Int)) (by omega) (by omega)
  have rD:=fun L'=>((fD L').load (P:=Tryz.prog) (e:=3) (by simp) hid').trans (by rw [Wh _ _ hid',← Oo hid'])
  simp only [Int.toNat_natCast] at xD
  have hd:=dm _ (Jj (s:=D) (k:=(i:Int)) (by omega) (by omega))
  have w3:IntKind.i64.wrap (rd D i-1)=rd D i-1:=Q0 (by omega) (by omega)
  simp [h2,h5,h6,h16,h17,h18,xD,rD]
  refine Qw (fun n t H'=>∃(j:Nat),n=4-j∧j≤4∧(rd D i>0∨j=0)∧
   t 2=.pointer (some ⟨H.length,0,some 0⟩)∧t 5=vd∧t 6=.slice (some ⟨H.length+(L.length+1),0,some g⟩) o.length 0∧t 16=vd∧t 17=.int .i64 D.length∧t 18=.int .i64 i∧
   t 7=.int .i64 i∧t 8=.int .i64 (rd D i)∧t 9=.int .i64 (pF w h b D i j)∧t 10=.int .i64 (3-j:Int)∧
   H'=H++⟨[.int .i64 w,.int .i64 h,v],0,42⟩::(L++⟨o.map (.int .i64),g,3⟩::G)) ?_ (n:=4) ⟨0,by simp [h2,h5,h6,h16,h17,h18,pF]⟩
  clear h2 h5 h6 h16 h17 h18
  rintro n t H' ⟨j,rfl,hj,hpos,h2,h5,h6,h16,h17,h18,h7,h8,h9,h10,rfl⟩ ih2
  simp [h2,h5,h6,h16,h17,h18,h7,h8,h9,h10]
  refine Yd ?_ ?_<;>intro hj3
  ·have hj4:j<4:=by omega
   simp [h2,h5,h6,h16,h17,h18,h7,h8,h9,h10,hj3]
   refine Qm ?_ ?_<;>intro hp0
   ·have ep:(3-(j:Int))=((3-j:Nat):Int):=by omega
    have hp4:3-j<4:=by omega
    have e1:IntKind.i64.wrap (4*(i:Int))=4*i:=Q0 (by omega) (by omega)
    have e2:IntKind.i64.wrap (4*(i:Int)+(3-j:Nat))=4*i+(3-j:Nat):=Q0 (by omega) (by omega)
    have nxt:=fun (t':Env) (k2:t' 2=.pointer (some ⟨H.length,0,some 0⟩)) (k5:t' 5=vd) (k6:t' 6=.slice (some ⟨H.length+(L.length+1),0,some g⟩) o.length 0) (k16:t' 16=vd) (k17:t' 17=.int .i64 D.length) (k18:t' 18=.int .i64 i) (k7:t' 7=.int .i64 i) (k8:t' 8=.int .i64 (rd D i)) (k9:t' 9=.int .i64 (pF w h b D i (j+1))) (k10:t' 10=.int .i64 (IntKind.i64.wrap (((3-j:Nat):Int)-1)))=>
     ih2 (4-(j+1)) t' (H++⟨[.int .i64 w,.int .i64 h,v],0,42⟩::(L++⟨o.map (.int .i64),g,3⟩::G)) ⟨j+1,rfl,by omega,.inl hp0,k2,k5,k6,k16,k17,k18,k7,k8,k9,by rw [k10,Q0 (by omega) (by omega)];congr 1;omega,rfl⟩ (by omega)
    rw [ep] at h10
    simp [h2,h5,h6,h16,h17,h18,h7,h8,h9,h10,e1,e2,one,xx _ _ _ _ _ (hI.app _) hl,hm]
    refine Yd ?_ ?_<;>intro hlk
    ·obtain ⟨_,hn,he⟩:=Za hp4 hlk
     have hend:=fun F L=>(congrArg (fun z=>some (Value.int .i64 z,H++L)) he)▸Kg (frz:=F) w h v b (4*(i:Int)+(3-j:Nat)) (hI.app L) hlk.1.1
     have xE:=fun L'=>(fD L').idx (P:=Tryz.prog) (ty:=24) (e:=3) (by simp) hn.1 (by have:=hn.2;omega)
     have rE:=fun L'=>((fD L').load (P:=Tryz.prog) (e:=3) (by simp) (j:=(next w h i (3-j:Nat)).toNat) (by have:=hn.1;have:=hn.2;omega))
     have rE':D.getD (next w h i (3-j:Nat)).toNat 0=rd D (next w h i (3-j:Nat)):=rfl
     rw [rE'] at rE
     simp [h2,h5,h6,h16,h17,h18,h7,h8,h9,h10,e1,e2,one,hlk,hend,xE,rE,w3]
     refine Qm ?_ ?_<;>intro hdd
     ·simp [h2,h5,h6,h16,h17,h18,h7,h8,h9,h10,e1,e2,one,hlk,hend]
      refine nxt _ (by simp [h2]) (by simp [h5]) (by simp [h6]) (by simp [h16]) (by simp [h17]) (by simp [h18]) (by simp [h7]) (by simp [h8]) ?_ (by simp [h10])
      simp [pF,Yq,hlk,hdd]
     ·simp [h2,h5,h6,h16,h17,h18,h7,h8,h9,h10,hdd]
      refine nxt _ (by simp [h2]) (by simp [h5]) (by simp [h6]) (by simp [h16]) (by simp [h17]) (by simp [h18]) (by simp [h7]) (by simp [h8]) ?_ (by simp [h10])
      simp [pF,Yq,hdd,h9]
    ·simp [h2,h5,h6,h16,h17,h18,h7,h8,h9,h10,hlk]
     refine nxt _ (by simp [h2]) (by simp [h5]) (by simp [h6]) (by simp [h16]) (by simp [h17]) (by simp [h18]) (by simp [h7]) (by simp [h8]) ?_ (by simp [h10])
     simp [pF,Yq,hlk,h9]
   ·have hj0:j=0:=by omega
    subst hj0
    have he:pF w h b D i 0=K9 w h b D i:=by unfold K9;rw [if_neg hp0];rfl
    rw [he] at h9
    simp [h2,h5,h6,h16,h17,h18,h7,h8,h9,h10,hp0]
    refine Xt (by omega) ?_
    refine ih (D.length-(i+1)) _ _ ⟨i+1,g+1,G++[⟨[.int .i64 (K9 w h b D i)],0,3⟩],o++[K9 w h b D i],rfl,by omega,by rw [List.range_succ,List.map_append,← ho];rfl,by simp [h2],by simp [h5],by simp,by simp [h16],by simp [h17],?_,by simp⟩ (by omega)
    simp;rw [Q0 (by omega) (by omega)]
  ·have hj4:j=4:=by omega
   subst hj4
   have he:pF w h b D i 4=K9 w h b D i:=Qk6 (by omega)
   rw [he] at h9
   simp [h2,h5,h6,h16,h17,h18,h7,h8,h9,h10]
   refine Xt (by omega) ?_
   refine ih (D.length-(i+1)) _ _ ⟨i+1,g+1,G++[⟨[.int .i64 (K9 w h b D i)],0,3⟩],o++[K9 w h b D i],rfl,by omega,by rw [List.range_succ,List.map_append,← ho];rfl,by simp [h2],by simp [h5],by simp,by simp [h16],by simp [h17],?_,by simp⟩ (by omega)
   simp;rw [Q0 (by omega) (by omega)]
 ·have:i=D.length:=by omega
  subst this
  simp [h2,h5,h6,h16,h17,h18]
  rw [← ho]
  exact ⟨_,rfl,Ow.new (k:=L.length+1) (by simp) (W1 _).symm (by simp) rfl,by simp⟩
theorem Qli {w h:Int} {b d:List Int} {i:Int} {p:Nat} (hp:p<4) (h0:rd d i>0) (h1:∀q<p,¬Yq w h b d i q) (h2:Yq w h b d i p):K9 w h b d i=next w h i p:=by
 unfold K9
 rw [if_pos h0]
 have:p=0∨p=1∨p=2∨p=3:=by omega
 rcases this with rfl|rfl|rfl|rfl
 ·rw [if_pos h2]
 ·rw [if_neg (h1 0 (by omega)),if_pos h2]
 ·rw [if_neg (h1 0 (by omega)),if_neg (h1 1 (by omega)),if_pos h2]
 ·rw [if_neg (h1 0 (by omega)),if_neg (h1 1 (by omega)),if_neg (h1 2 (by omega)),if_pos h2]
theorem ke {w h:Int} {b d:List Int} {i:Int} (h1:rd d i>0→∀q<4,¬Yq w h b d i q):K9 w h b d i=-1:=by
 unfold K9
 by_cases h0:rd d i>0
 ·have h1:=h1 h0
  rw [if_pos h0,if_neg (h1 0 (by omega)),if_neg (h1 1 (by omega)),if_neg (h1 2 (by omega)),if_neg (h1 3 (by omega))]
 ·rw [if_neg h0]
theorem Ed (w h:Int) (v:Value) (b:List Int) (root:Int) (hI:W7 H v b) (hl:b.length≤1073741824) :
 wp (Qh C frz 218 [.agg #[.int .i64 w,.int .i64 h,v],.int .i64 root] H) (Made Fl.int 3 H (Wb w h b root)):=by
 rw [Qb (fn:=Tryz.f218) Tryz.func218 rfl (by kernel_rfl) rfl]
 have one:=And.intro hI.one' hI.cells
 have hc:=Qz w h
 simp [one,Qb1 _ _ _ _ _ (hI.app _) hl,-Bool.decide_and]
 refine Qm ?_ ?_<;>intro hR
 ·have hR':Zv w h b root:=hR
  simp [one]
  refine Ql (Ig w h v b root (hI.app _) hl hR') ?_
  rintro vd _ ⟨L,rfl,od,nd⟩
  have od:=od.rd.isI
  simp only [List.append_assoc,List.cons_append,List.nil_append] at od
  have hdl:=U9 w h b root
  have dm:=fun v (hv:v∈Wg w h b root)=>Dl hv
  have hlc:=(Zh hR').1
  have hm:=hR.1
  unfold Wb Qag
  generalize Wg w h b root=D at *
  have fD:=fun (r:Row) (L':Qd)=>(Qd1 (A:=H++[⟨[.int .i64 w,.int .i64 h,v],0,42⟩]) (B:=L) (r:=⟨[],0,3⟩) r (by simpa using od) (fun i hi=>by have:=nd i hi;simp at this ⊢;omega)).app L'
  simp only [List.append_assoc,List.cons_append,List.nil_append] at fD
  have lD:=fun r L'=>(fD r L').len (P:=Tryz.prog) (ty:=24) (by simp)
  simp
  refine Qw (fun n t H'=>∃(i g:Nat) (G:Qd) (o:List Int),n=D.length-i∧i≤D.length∧o=(List.range i).map (fun i:Nat=>K9 w h b D (i:Int))∧
   t 2=.pointer (some ⟨H.length,0,some 0⟩)∧t 5=.slice (some ⟨H.length+1,0,some g⟩) o.length 0∧t 6=vd∧t 7=.int .i64 i∧
   H'=H++⟨[.int .i64 w,.int .i64 h,v],0,42⟩::⟨o.map (.int .i64),g,3⟩::(L++G)) ?_ (n:=D.length) ⟨0,0,[],[],by simp⟩
  rintro n t H' ⟨i,g,G,o,rfl,hi,ho,h2,h5,h6,h7,rfl⟩ ih
  simp [h2,h5,h6,h7,lD]
  have hol:o.length=i:=by rw [ho];simp
  refine Qm ?_ ?_<;>intro hid
  ·have hid':i<D.length:=by omega
   have xD:=fun r L'=>(fD r L').idx (P:=Tryz.prog) (ty:=24) (e:=3) (by simp) (i:=(i:Int)) (by omega) (by omega)
   have rD:=fun r L'=>((fD r L').load (P:=Tryz.prog) (e:=3) (by simp) hid').trans (by rw [Wh _ _ hid',← Oo hid'])
   simp only [Int.toNat_natCast] at xD
   have hd:=dm _ (Jj (s:=D) (k:=(i:Int)) (by omega) (by omega))
   have w3:IntKind.i64.wrap (rd D i-1)=rd D i-1:=Q0 (by omega) (by omega)
   simp [h2,h5,h6,h7]
   refine Qw (fun n t H'=>∃(p:Nat) (x:Int),n=4-p∧p≤4∧((x=K9 w h b D i∧0≤x)∨(x=-1∧(0<p→rd D i>0)∧∀q<p,¬Yq w h b D i q))∧
    t 2=.pointer (some ⟨H.length,0,some 0⟩)∧t 5=.slice (some ⟨H.length+1,0,some g⟩) o.length 0∧t 6=vd∧t 7=.int .i64 i∧t 8=.int .i64 x∧t 9=.int .i64 p∧
    H'=H++⟨[.int .i64 w,.int .i64 h,v],0,42⟩::⟨o.map (.int .i64),g,3⟩::(L++G)) ?_ (n:=4) ⟨0,-1,by simp [h2,h5,h6,h7]⟩
   clear h2 h5 h6 h7
   rintro n t H' ⟨p,x,rfl,hp,hx,h2,h5,h6,h7,h8,h9,rfl⟩ ih2
   simp [h2,h5,h6,h7,h8,h9]
   refine Yd ?_ ?_<;>intro hp4
   ·have qz:p<4:=by omega
    simp [h2,h5,h6,h7,h8,h9,hp4]
    refine Yd ?_ ?_<;>intro hx0
    ·obtain ⟨rfl,hpo,hno⟩:x=-1∧(0<p→rd D i>0)∧∀q<p,¬Yq w h b D i q:=by
      rcases hx with hx|hx
      ·omega
      ·exact hx
     simp [h2,h5,h6,h7,h8,h9,hp4,hx0,xD,rD]
     refine Qm ?_ ?_<;>intro hd0
     ·have e1:IntKind.i64.wrap (4*(i:Int))=4*i:=Q0 (by omega) (by omega)
      have e2:IntKind.i64.wrap (4*(i:Int)+p)=4*i+p:=Q0 (by omega) (by omega)
      simp [h2,h5,h6,h7,h8,h9,e1,e2,one,C6 _ _ _ _ _ (hI.app _) hl]
      refine Qm ?_ ?_<;>intro hlk
      ·obtain ⟨_,hn,he⟩:=Za qz hlk
       have xE:=fun r L'=>(fD r L').idx (P:=Tryz.prog) (ty:=24) (e:=3) (by simp) hn.1 (by have:=hn.2;omega)
       have rE:=fun r L'=>((fD r L').load (P:=Tryz.prog) (e:=3) (by simp) (j:=(next w h i p).toNat) (by have:=hn.1;have:=hn.2;omega))
       have rE':D.getD (next w h i p).toNat 0=rd D (next w h i p):=rfl
       rw [rE'] at rE
       simp [h2,h5,h6,h7,h8,h9,one,Zy]
       rw [Qv (h:=by kernel_rfl)]
       simp [h2,h5,h6,h7,h8,h9,one,xE,rE,xD,rD,w3]
       refine Qm ?_ ?_<;>intro hdd
       ·simp [h2,h5,h6,h7,h8,h9]
        refine ih2 (4-(p+1)) _ _ ⟨p+1,next w h i p,rfl,by omega,.inl ⟨(Qli qz hd0 hno ⟨hlk,hdd⟩).symm,hn.1⟩,by simp [h2],by simp [h5],by simp [h6],by simp [h7],by simp,?_,rfl⟩ (by omega)
        simp;rw [Q0 (by omega) (by omega)]
       ·simp [h2,h5,h6,h7,h8,h9,hdd]
        refine ih2 (4-(p+1)) _ _ ⟨p+1,-1,rfl,by omega,.inr ⟨rfl,fun _=>hd0,fun q hq=>?_⟩,by simp [h2],by simp [h5],by simp [h6],by simp [h7],by simp [h8],?_,rfl⟩ (by omega)
        ·by_cases hqp:q<p
         ·exact hno q hqp
         ·have:q=p:=by omega
          subst this;exact fun hh=>hdd hh.2
        ·simp;rw [Q0 (by omega) (by omega)]
      ·simp [h2,h5,h6,h7,h8,h9,hlk]
       refine ih2 (4-(p+1)) _ _ ⟨p+1,-1,rfl,by omega,.inr ⟨rfl,fun _=>hd0,fun q hq=>?_⟩,by simp [h2],by simp [h5],by simp [h6],by simp [h7],by simp [h8],?_,rfl⟩ (by omega)
       ·by_cases hqp:q<p
        ·exact hno q hqp
        ·have:q=p:=by omega
         subst this;exact fun hh=>hlk hh.1
       ·simp;rw [Q0 (by omega) (by omega)]
     ·have hxe:(-1:Int)=K9 w h b D i:=(ke (fun hh=>absurd hh hd0)).symm
      simp [h2,h5,h6,h7,h8,h9,hd0]
      refine Xt (by omega) ?_
      refine ih (D.length-(i+1)) _ _ ⟨i+1,g+1,G++[⟨[.int .i64 (-1)],0,3⟩],o++[-1],rfl,by omega,by rw [List.range_succ,List.map_append,← ho,hxe];rfl,by simp [h2],by simp,by simp [h6],?_,by simp⟩ (by omega)
      simp;rw [Q0 (by omega) (by omega)]
    ·have hxe:x=K9 w h b D i:=by
      rcases hx with hx|hx
      ·exact hx.1
      ·omega
     simp [h2,h5,h6,h7,h8,h9,hp4,hx0]
     refine Xt (by omega) ?_
     refine ih (D.length-(i+1)) _ _ ⟨i+1,g+1,G++[⟨[.int .i64 x],0,3⟩],o++[x],rfl,by omega,by rw [List.range_succ,List.map_append,← ho,hxe];rfl,by simp [h2],by simp,by simp [h6],?_,by simp⟩ (by omega)
     simp;rw [Q0 (by omega) (by omega)]
   ·have qz:p=4:=by omega
    have hxe:x=K9 w h b D i:=by
     rcases hx with hx|⟨rfl,hpo,hno⟩
     ·exact hx.1
     ·exact (ke (fun _ q hq=>hno q (by omega))).symm
    simp [h2,h5,h6,h7,h8,h9,hp4]
    refine Xt (by omega) ?_
    refine ih (D.length-(i+1)) _ _ ⟨i+1,g+1,G++[⟨[.int .i64 x],0,3⟩],o++[x],rfl,by omega,by rw [List.range_succ,List.map_append,← ho,hxe];rfl,by simp [h2],by simp,by simp [h6],?_,by simp⟩ (by omega)
    simp;rw [Q0 (by omega) (by omega)]
  ·have:i=D.length:=by omega
   subst this
   simp [h2,h5,h6,h7]
   rw [← ho]
   exact ⟨_,rfl,Ow.new (k:=1) (by simp) (W1 _).symm (by simp) rfl,by simp⟩
 ·have:Wg w h b root=[]:=Vn hR
  unfold Wb Qag
  rw [this]
  simp
  exact ⟨_,rfl,Ow.new (D:=Fl.int) (e:=3) (k:=1) (g:=0) (cs:=[]) rfl rfl rfl rfl,by simp⟩
theorem Qbo (a b:Int):(if a<b then b else a)=max a b:=by omega
theorem Sx {xs:List Int} {a:Int} {i:Nat} (h:i<xs.length):(xs.take (i+1)).foldl max a=max ((xs.take i).foldl max a) xs[i]:=by
 rw [List.take_succ_eq_append_getElem h,List.foldl_append];rfl
theorem Qpl (v:Value) (xs:List Int) (hI:W7 H v xs) (h0:0<xs.length) (hl:xs.length≤1073741824) (hm:∀x∈xs,-1≤x) :
 Qh C frz 266 [v] H=some (.int .i64 (xs.foldl max (-1)),H):=by
 rw [Qb (fn:=Tryz.f266) Tryz.func266 rfl (by kernel_rfl) rfl]
 have q0:=hI.idx (P:=Tryz.prog) (ty:=24) (e:=3) (by simp) (i:=0) (by omega) (by omega)
 have r0:=(hI.load (P:=Tryz.prog) (e:=3) (by simp) h0).trans (by rw [Wh _ _ h0])
 have n0:¬(xs.length:Int)<1:=by omega
 have e0:xs≠[]:=fun hh=>by rw [hh] at h0;simp at h0
 simp [hI.len,e0,n0,q0,r0]
 refine Z2 (fun n t H'=>∃i:Nat,n=xs.length-i∧1≤i∧i≤xs.length∧t 0=v∧t 3=.int .i64 ((xs.take i).foldl max (-1))∧t 4=.int .i64 i∧H'=H) ?_ (n:=xs.length-1) ⟨1,rfl,by omega,by omega,by simp,?_,by simp,rfl⟩
 ·rintro n t H' ⟨i,rfl,h1,hi,k0,k3,k4,rfl⟩ ih
  simp [k0,k3,k4,hI.len]
  refine Q7 _ ?_ ?_<;>intro h5
  ·have q1:=hI.idx (P:=Tryz.prog) (ty:=24) (e:=3) (by simp) (i:=(i:Int)) (by omega) (by omega)
   have r1:=(hI.load (P:=Tryz.prog) (e:=3) (by simp) h5).trans (by rw [Wh _ _ h5])
   simp only [Int.toNat_natCast] at q1
   simp [k0,k3,k4,q1,r1]
   refine ih (xs.length-(i+1)) _ _ ⟨i+1,rfl,by omega,by omega,by simp [k0],?_,?_,rfl⟩ (by omega)
   ·simp [Sx h5,Qbo]
   ·simp;rw [Q0 (by omega) (by omega)]
  ·have:i=xs.length:=by omega
   subst this
   simp [k0,k3,k4]
 ·have:=hm _ (List.getElem_mem h0)
  rw [show (1:Nat)=0+1 from rfl,Sx h0]
  simp;omega
theorem Cf (w h:Int) (v:Value) (b:List Int) (root:Int) (hI:W7 H v b) (hl:b.length≤1073741824) :
 Qh C frz 234 [.agg #[.int .i64 w,.int .i64 h,v],.int .i64 root] H=some (.int .i64 (V7 w h b root),H):=by
 refine wp.exact (by simp) ?_ rfl
 rw [Qb (fn:=Tryz.f234) Tryz.func234 rfl (by kernel_rfl) rfl]
 have one:=And.intro hI.one' hI.cells
 simp [one,jt _ _ _ _ _ (hI.app _) hl,-Bool.decide_and]
 refine Qm ?_ ?_<;>intro hR
 ·simp [one]
  refine Ql (P7 w h v b root (hI.app _) hl) ?_
  rintro vd _ ⟨L,rfl,od,nd⟩
  have hc:=Qz w h
  have i:=Zh hR
  have hn:=S8 hR.2
  have hp:=hR.2.2
  have hq:=hR.2.1
  have od:=od.rd.isI
  simp only [List.append_assoc,List.singleton_append] at od
  simp [Qpl _ _ od (by omega) (by omega) (fun x hx=>(i.2 x hx).1),V7]
 ·have hd:Wg w h b root=[]:=Vn hR
  simp [V7,hd]
theorem Dq (w h:Int) (v:Value) (b:List Int) (root:Int) (hI:W7 H v b) (hl:b.length≤1073741824) :
 Qh C frz 197 [.agg #[.int .i64 w,.int .i64 h,v],.int .i64 root] H=some (.int .i64 (V7 w h b root),H):=by
 refine wp.exact (by simp) ?_ rfl
 rw [Qb (fn:=Tryz.f197) Tryz.func197 rfl (by kernel_rfl) rfl]
 have one:=And.intro hI.one' hI.cells
 simp [one]
 refine Ql (Mm w h v b root (hI.app _) hl) ?_
 rintro vd _ ⟨L,rfl,od,nd⟩
 have Qo6:=U9 w h b root
 unfold V7
 generalize Wg w h b root=xs at *
 have od:=od.rd.isI
 simp only [List.append_assoc,List.singleton_append] at od
 simp
 refine Qw (fun n t H'=>∃i:Nat,n=xs.length-i∧i≤xs.length∧t 5=vd∧t 6=.int .i64 ((xs.take i).foldl max (-1))∧t 7=.int .i64 i∧H'=H++⟨[.int .i64 w,.int .i64 h,v],0,42⟩::L) ?_ (n:=xs.length) ⟨0,by simp⟩
 rintro n t H' ⟨i,rfl,hi,k5,k6,k7,rfl⟩ ih
 simp [k5,k6,k7,od.len]
 refine Qm ?_ ?_<;>intro h5
 ·have q1:=od.idx (P:=Tryz.prog) (ty:=24) (e:=3) (by simp) (i:=(i:Int)) (by omega) (by omega)
  have r1:=(od.load (P:=Tryz.prog) (e:=3) (by simp) h5).trans (by rw [Wh _ _ h5])
  simp only [Int.toNat_natCast] at q1
  simp [k5,k6,k7,q1,r1]
  refine ih (xs.length-(i+1)) _ _ ⟨i+1,rfl,by omega,by simp [k5],?_,?_,rfl⟩ (by omega)
  ·simp [Sx h5,Qbo]
  ·simp;rw [Q0 (by omega) (by omega)]
 ·have:i=xs.length:=by omega
  subst this
  simp [k5,k6,k7]
theorem Tp (w h:Int) (v:Value) (b:List Int) (hI:W7 H v b) (hl:b.length≤1073741824) :
 Qh C frz 230 [.agg #[.int .i64 w,.int .i64 h,v]] H=some (.bool (decide (conn w h b)),H):=by
 refine wp.exact (by simp) ?_ rfl
 rw [Qb (fn:=Tryz.f230) Tryz.func230 rfl (by kernel_rfl) rfl]
 have one:=And.intro hI.one' hI.cells
 simp [one,Pm _ _ _ _ (hI.app _) hl]
 refine Yd ?_ ?_<;>intro hm
 ·simp [one,hm]
  refine Ql (P7 w h v b 0 (hI.app _) hl) ?_
  rintro vd _ ⟨L,rfl,od,nd⟩
  have Qo6:=U9 w h b 0
  have od:=od.rd.isI
  simp only [List.append_assoc,List.singleton_append] at od
  simp [hm,Ob _ _ _ od (by omega),conn]
 ·simp [conn,hm]
theorem V5 (w h:Int) (v:Value) (b:List Int) (hI:W7 H v b) (hl:b.length≤1073741824) :
 Qh C frz 195 [.agg #[.int .i64 w,.int .i64 h,v]] H=some (.bool (decide (conn w h b)),H):=by
 refine wp.exact (by simp) ?_ rfl
 rw [Qb (fn:=Tryz.f195) Tryz.func195 rfl (by kernel_rfl) rfl]
 have one:=And.intro hI.one' hI.cells
 simp [one]
 refine Ql (Mm w h v b 0 (hI.app _) hl) ?_
 rintro vd _ ⟨L,rfl,od,nd⟩
 have Qo6:=U9 w h b 0
 have key:conn w h b↔(0<(Wg w h b 0).length∧∀x∈Wg w h b 0,¬x<0):=by
  constructor
  ·rintro ⟨hm,hn⟩
   have hr:=A9 hm.2
   have i:=Zh (root:=0) ⟨hm,hr⟩
   have:=hr.2
   refine ⟨by omega,fun x hx hlt=>hn ?_⟩
   have:=(i.2 x hx).1
   rwa [show x=-1 by omega] at hx
  ·rintro ⟨h0,hn⟩
   have hR:Zv w h b 0:=by
    by_cases hR:Zv w h b 0
    ·exact hR
    ·rw [Vn hR] at h0;simp at h0
   exact ⟨hR.1,fun hh=>hn _ hh (by omega)⟩
 simp only [key]
 generalize Wg w h b 0=xs at *
 have od:=od.rd.isI
 simp only [List.append_assoc,List.singleton_append] at od
 simp
 refine Qw (fun n t H'=>∃i:Nat,n=xs.length-i∧i≤xs.length∧t 3=vd∧t 4=.int .i64 i∧H'=H++⟨[.int .i64 w,.int .i64 h,v],0,42⟩::L∧∀x∈xs.take i,¬x<0) ?_ (n:=xs.length) ⟨0,by simp⟩
 rintro n t H' ⟨i,rfl,hi,k3,k4,rfl,hk⟩ ih
 simp [k3,k4,od.len]
 refine Qm ?_ ?_<;>intro h5
 ·have q1:=od.idx (P:=Tryz.prog) (ty:=24) (e:=3) (by simp) (i:=(i:Int)) (by omega) (by omega)
  have r1:=(od.load (P:=Tryz.prog) (e:=3) (by simp) h5).trans (by rw [Wh _ _ h5])
  simp only [Int.toNat_natCast] at q1
  simp [k3,k4,q1,r1]
  refine Qm ?_ ?_<;>intro h6
  ·simp [k3,k4,h6]
   exact fun _=>⟨_,List.getElem_mem h5,h6⟩
  ·simp [k3,k4,h6]
   refine ih (xs.length-(i+1)) _ _ ⟨i+1,rfl,by omega,by simp [k3],?_,rfl,Pv h5 hk h6⟩ (by omega)
   simp;rw [Q0 (by omega) (by omega)]
 ·have:i=xs.length:=by omega
  subst this
  rw [List.take_length] at hk
  simp [k3,k4,od.len]
  by_cases h0:xs=[]
  ·simp [h0]
  ·have:0<xs.length:=List.length_pos_iff.2 h0
   simp [this,h0];exact fun x hx=>by have:=hk x hx;omega
theorem gv {w h:Int} {b:List Int} (n:Nat):0≤(List.range n).foldl (Uj w h b) 0:=by
 induction n with
 | zero=>simp
 | succ n ih=>rw [List.range_succ,List.foldl_append];exact Aj ih
theorem gt (w h:Int) (v:Value) (b:List Int) (hI:W7 H v b) (hl:b.length≤1073741824) :
 Qh C frz 211 [.agg #[.int .i64 w,.int .i64 h,v]] H=some (.int .i64 (Xn w h b),H):=by
 refine wp.exact (by simp) ?_ rfl
 rw [Qb (fn:=Tryz.f211) Tryz.func211 rfl (by kernel_rfl) rfl]
 have one:=And.intro hI.one' hI.cells
 have hc:=Qz w h
 simp [one,Tp _ _ _ _ (hI.app _) hl]
 refine Qm ?_ ?_<;>intro hcn
 ·simp [one,Xx]
  refine Qw (fun n t H'=>∃i:Nat,n=(cnt w h).toNat-i∧i≤(cnt w h).toNat∧t 1=.pointer (some ⟨H.length,0,some 0⟩)∧t 3=.int .i64 ((List.range i).foldl (Uj w h b) 0)∧t 10=.int .i64 (cnt w h)∧t 11=.int .i64 i∧H'=H++[⟨[.int .i64 w,.int .i64 h,v],0,42⟩]) ?_ (n:=(cnt w h).toNat) ⟨0,by simp⟩
  rintro n t H' ⟨i,rfl,hi,k1,k3,k10,k11,rfl⟩ ih
  simp [k1,k3,k10,k11]
  refine Qm ?_ ?_<;>intro h5
  ·simp [k1,k3,k10,k11]
   rw [Qv (h:=by kernel_rfl)]
   simp [k1,k3,k10,k11,one,Cf _ _ _ _ _ (hI.app _) hl]
   have e:(List.range (i+1)).foldl (Uj w h b) 0=Uj w h b ((List.range i).foldl (Uj w h b) 0) i:=by rw [List.range_succ,List.foldl_append];rfl
   refine Qm ?_ ?_<;>intro h6
   ·simp [k1,k3,k10,k11,h6]
    refine ih ((cnt w h).toNat-(i+1)) _ _ ⟨i+1,rfl,by omega,by simp [k1],?_,by simp [k10],?_,rfl⟩ (by omega)
    ·simp [e,Uj,h6]
    ·simp;rw [Q0 (by omega) (by omega)]
   ·simp [k1,k3,k10,k11,h6]
    refine ih ((cnt w h).toNat-(i+1)) _ _ ⟨i+1,rfl,by omega,by simp [k1],?_,by simp [k10],?_,rfl⟩ (by omega)
    ·simp [e,Uj,h6,k3]
    ·simp;rw [Q0 (by omega) (by omega)]
  ·have:i=(cnt w h).toNat:=by omega
   subst this
   simp [k1,k3,k10,k11,Xn,hcn]
 ·simp [Xn,hcn]
theorem yb (w h:Int) (v:Value) (b:List Int) (hI:W7 H v b) (hl:b.length≤1073741824) :
 Qh C frz 165 [.agg #[.int .i64 w,.int .i64 h,v]] H=some (.int .i64 (Xn w h b),H):=by
 refine wp.exact (by simp) ?_ rfl
 rw [Qb (fn:=Tryz.f165) Tryz.func165 rfl (by kernel_rfl) rfl]
 have one:=And.intro hI.one' hI.cells
 have hc:=Qz w h
 simp [one,V5 _ _ _ _ (hI.app _) hl]
 refine Qw (fun n t H'=>∃(i:Nat) (best least:Int),n=(cnt w h).toNat-i∧i≤(cnt w h).toNat∧t 1=.pointer (some ⟨H.length,0,some 0⟩)∧t 3=.int .i64 best∧t 4=.int .i64 least∧t 5=.bool (decide (conn w h b))∧t 6=.int .i64 i∧H'=H++[⟨[.int .i64 w,.int .i64 h,v],0,42⟩]∧
  ((i=0∧best=-1)∨(conn w h b∧0<i∧best=(List.range i).foldl (Uj w h b) 0∧least=V7 w h b best))) ?_ (n:=(cnt w h).toNat) ⟨0,-1,0,by simp⟩
 rintro n t H' ⟨i,best,least,rfl,hi,k1,k3,k4,k5,k6,rfl,hb⟩ ih
 have e:(List.range (i+1)).foldl (Uj w h b) 0=Uj w h b ((List.range i).foldl (Uj w h b) 0) i:=by rw [List.range_succ,List.foldl_append];rfl
 simp [k1,k3,k4,k5,k6,one,W8]
 refine Yd ?_ ?_<;>intro h5
 ·simp [k1,k3,k4,k5,k6,h5]
  refine Qm ?_ ?_<;>intro hcn
  ·simp [k1,k3,k4,k5,k6,one,Dq _ _ _ _ _ (hI.app _) hl]
   refine Yd ?_ ?_<;>intro h7
   ·have hi0:i=0:=by
     rcases hb with hb|⟨_,h0,hbe,_⟩
     ·exact hb.1
     ·have:=gv (w:=w) (h:=h) (b:=b) i;omega
    subst hi0
    simp [k1,k3,k4,k5,k6,h7]
    refine ih ((cnt w h).toNat-1) _ _ ⟨1,0,V7 w h b 0,rfl,by omega,by simp [k1],by simp,by simp,by simp [k5],?_,rfl,.inr ⟨hcn,by omega,by simp [Uj],rfl⟩⟩ (by omega)
    simp [wr1]
   ·obtain ⟨_,h0,hbe,hle⟩:conn w h b∧0<i∧best=(List.range i).foldl (Uj w h b) 0∧least=V7 w h b best:=by
     rcases hb with hb|hb
     ·omega
     ·exact hb
    simp [k1,k3,k4,k5,k6,h7]
    refine Qm ?_ ?_<;>intro h8
    ·simp [k1,k3,k4,k5,k6,h8]
     refine ih ((cnt w h).toNat-(i+1)) _ _ ⟨i+1,i,V7 w h b i,rfl,by omega,by simp [k1],by simp,by simp,by simp [k5],?_,rfl,.inr ⟨hcn,by omega,?_,rfl⟩⟩ (by omega)
     ·simp;rw [Q0 (by omega) (by omega)]
     ·rw [e,← hbe,Uj,if_pos (by omega)]
    ·simp [k1,k3,k4,k5,k6,h8]
     refine ih ((cnt w h).toNat-(i+1)) _ _ ⟨i+1,best,least,rfl,by omega,by simp [k1],by simp [k3],by simp [k4],by simp [k5],?_,rfl,.inr ⟨hcn,by omega,?_,hle⟩⟩ (by omega)
     ·simp;rw [Q0 (by omega) (by omega)]
     ·rw [e,← hbe,Uj,if_neg (by omega)]
  ·have hb1:best=-1:=by
    rcases hb with hb|hb
    ·exact hb.2
    ·exact absurd hb.1 hcn
   simp [k1,k3,k4,k5,k6,hb1,Xn,hcn]
 ·have:i=(cnt w h).toNat:=by omega
  simp [k1,k3,k4,k5,k6,h5]
  rcases hb with ⟨h0,hb⟩|⟨hcn,h0,hb,_⟩
  ·have hcn:¬conn w h b:=fun hh=>by
    have:=(A9 hh.1.2).2
    omega
   simp [hb,Xn,hcn]
  ·simp [hb,Xn,hcn,this]
theorem Am (v:Value) (P:List Int) (a b:Int) (hI:W7 H v P) (hl:P.length≤268435456) :
 wp (Qh C frz 220 [v,.int .i64 a,.int .i64 b] H) (Made Fl.int 3 H (Xw P a b)):=by
 rw [Qb (fn:=Tryz.f220) Tryz.func220 rfl (by kernel_rfl) rfl]
 simp [Qc8 _ _ _ _ (hI.app _) (show P.length≤1073741823 by omega)]
 refine Qm ?_ ?_<;>intro h0
 ·simp [Xw,h0]
  exact ⟨_,rfl,Ow.new0 rfl rfl rfl rfl,by simp⟩
 ·simp
  have hm:P.length≤1073741823:=by omega
  refine Ql (qj v P a (hI.app _) hm) ?_
  rintro va _ ⟨L1,rfl,oa,na⟩
  simp
  refine Ql (qj v P b (hI.app _) hm) ?_
  rintro vb _ ⟨L2,rfl,ob,nb⟩
  have hla:=Ri P a
  have hlb:=Ri P b
  have oa:=oa.rd.isI.app L2
  have ob:=ob.rd.isI
  simp only [List.append_assoc,List.singleton_append,List.length_append,List.length_cons,List.length_nil,List.cons_append,List.nil_append] at oa ob na nb
  obtain ⟨ma,mb⟩:=Ld (P:=P) (a:=a) (b:=b) (by omega)
  have fa:=fun (r:Row) (G:Qd)=>(Qd1 r oa (fun i hi=>na i hi)).app G
  have fb:=fun (r:Row) (G:Qd)=>(Qd1 r ob (fun i hi=>by have:=nb i hi;omega)).app G
  simp only [List.append_assoc,List.cons_append,List.nil_append] at fa fb
  clear oa ob na nb
  generalize hA:Y0 P a=A at *
  generalize hB:Y0 P b=B at *
  generalize hT:common P a b=top at *
  have ia:=List.idxOf_lt_length_iff.2 ma
  have ib:=List.idxOf_lt_length_iff.2 mb
  have ga:=(Wh _ _ ia).trans (Qbt ma)
  have gb:=(Wh _ _ ib).trans (Qbt mb)
  have na:∀j (h:j<A.length),A[j]=top→A.idxOf top≤j:=fun j h=>Qe0 h
  have nb:∀j (h:j<B.length),(B[j]=top→B.idxOf top≤j)∧(j<B.idxOf top→B[j]≠top):=fun j h=>⟨Qe0 h,fun h1=>Qd2 h1 h⟩
  have tn:Xw P a b=A.take (A.idxOf top+1)++(B.take (B.idxOf top)).reverse:=by rw [Xw,hT,hA,hB,if_neg h0]
  rw [tn]
  clear tn hA hB hT hI
  generalize hka:A.idxOf top=ka at *
  generalize hkb:B.idxOf top=kb at *
  have la:=fun (r:Row) (G:Qd)=>(fa r G).len (P:=Tryz.prog) (ty:=24) (by simp)
  have lb:=fun (r:Row) (G:Qd)=>(fb r G).len (P:=Tryz.prog) (ty:=24) (by simp)
  have xa:=fun (r:Row) (G:Qd) (i:Nat) (hi:i<A.length)=>(fa r G).idx (P:=Tryz.prog) (ty:=24) (e:=3) (by simp) (i:=(i:Int)) (by omega) (by omega)
  have xb:=fun (r:Row) (G:Qd) (i:Nat) (hi:i<B.length)=>(fb r G).idx (P:=Tryz.prog) (ty:=24) (e:=3) (by simp) (i:=(i:Int)) (by omega) (by omega)
  have da:=fun (r:Row) (G:Qd) (i:Nat) (hi:i<A.length)=>((fa r G).load (P:=Tryz.prog) (e:=3) (by simp) hi).trans (by rw [Wh _ _ hi])
  have db:=fun (r:Row) (G:Qd) (i:Nat) (hi:i<B.length)=>((fb r G).load (P:=Tryz.prog) (e:=3) (by simp) hi).trans (by rw [Wh _ _ hi])
  simp only [Int.toNat_natCast] at xa xb
  simp
  -- the way up
  refine Qw (fun n t H'=>∃(i g:Nat) (G:Qd) (o:List Int),n=ka-i∧i≤ka∧o=A.take i∧t 7=.slice (some ⟨H.length,0,some g⟩) o.length 0∧t 8=.int .i64 top∧t 9=va∧t 10=vb∧t 11=.int .i64 i∧
   H'=H++⟨o.map (.int .i64),g,3⟩::(L1++(L2++G))) ?_ (n:=ka) ⟨0,0,[],[],by simp⟩
  rintro n t H' ⟨i,g,G,o,rfl,hi,ho,h7,h8,h9,h10,h11,rfl⟩ ih
  have hil:i<A.length:=by omega
  have hol:o.length=i:=by rw [ho];simp;omega
  have q1:=fun r G=>xa r G i hil
  have q2:=fun r G=>da r G i hil
  simp [h7,h8,h9,h10,h11,q1,q2]
  refine Qm ?_ ?_<;>intro h6
  ·have hik:i=ka:=by
    have:=na _ hil h6
    omega
   subst hik
   simp [h7,h8,h9,h10,h11]
   refine Xt (by omega) ?_
   simp [h7,h8,h9,h10,h11,lb]
   have e1:IntKind.i64.wrap ((B.length:Int)-1)=(B.length:Int)-1:=Q0 (by omega) (by omega)
   have et:A.take (i+1)=A.take i++[top]:=by rw [List.take_succ_eq_append_getElem hil,h6]
   -- the way down
   refine Qw (fun n t H'=>∃(j g:Nat) (G:Qd) (o:List Int),n=j∧j≤B.length∧o=A.take (i+1)++((B.take kb).drop j).reverse∧t 7=.slice (some ⟨H.length,0,some g⟩) o.length 0∧t 8=.int .i64 top∧t 10=vb∧t 12=.int .i64 (j-1:Int)∧
    H'=H++⟨o.map (.int .i64),g,3⟩::(L1++(L2++G))) ?_ (n:=B.length) ⟨B.length,g+1,G++[⟨[.int .i64 top],0,3⟩],_,rfl,by omega,rfl,?_,by simp [h8],by simp [h10],by simp [e1],?_⟩
   ·clear h7 h8 h9 h10 h11 ih
    clear ho hol
    rintro n t H' ⟨j,g,G,o,rfl,hj,ho,h7,h8,h10,h12,rfl⟩ ih
    simp [h7,h8,h10,h12]
    refine Qm ?_ ?_<;>intro hj0
    ·obtain ⟨j',rfl⟩:∃j',n=j'+1:=⟨n-1,by omega⟩
     have ej:(((j'+1:Nat):Int)-1)=j':=by omega
     rw [ej] at h12
     simp [h7,h8,h10,h12]
     refine Qw (fun m t H'=>∃(k:Nat),m=j'+1-k∧k≤j'+1∧t 7=.slice (some ⟨H.length,0,some g⟩) o.length 0∧t 8=.int .i64 top∧t 10=vb∧t 12=.int .i64 j'∧t 13=.bool (decide (k≤kb))∧t 14=.int .i64 k∧
      H'=H++⟨o.map (.int .i64),g,3⟩::(L1++(L2++G))) ?_ (n:=j'+1) ⟨0,by simp [h7,h8,h10,h12]⟩
     clear h7 h8 h10 h12
     rintro m t H' ⟨k,rfl,hk,h7,h8,h10,h12,h13,h14,rfl⟩ ih2
     simp [h7,h8,h10,h12,h13,h14]
     refine Qm ?_ ?_<;>intro hkj
     ·have hkl:k<B.length:=by omega
      have q1:=fun r G=>xb r G k hkl
      have q2:=fun r G=>db r G k hkl
      simp [h7,h8,h10,h12,h13,h14]
      refine Yd ?_ ?_<;>intro hkb
      ·simp [h7,h8,h10,h12,h13,h14,hkb,q1,q2]
       refine ih2 (j'+1-(k+1)) _ _ ⟨k+1,rfl,by omega,by simp [h7],by simp [h8],by simp [h10],by simp [h12],?_,?_,by simp⟩ (by omega)
       ·have e:(k+1≤kb)↔¬B[k]=top:=⟨fun hh=>(nb k hkl).2 (by omega),fun hh=>by
         by_cases hlt:k+1≤kb
         ·exact hlt
         ·have:kb=k:=by omega
          subst this;rw [Wh _ _ hkl] at gb;exact absurd gb hh⟩
        simp [e]
       ·simp;rw [Q0 (by omega) (by omega)]
      ·simp [h7,h8,h10,h12,h13,h14,hkb]
       refine ih2 (j'+1-(k+1)) _ _ ⟨k+1,rfl,by omega,by simp [h7],by simp [h8],by simp [h10],by simp [h12],?_,?_,by simp⟩ (by omega)
       ·have e:¬(k+1≤kb):=by omega
        simp [e]
       ·simp;rw [Q0 (by omega) (by omega)]
     ·have:k=j'+1:=by omega
      subst this
      simp [h7,h8,h10,h12,h13,h14]
      refine Qm ?_ ?_<;>intro hkb
      ·have hjl:j'<B.length:=by omega
       have q1:=fun r G=>xb r G j' hjl
       have q2:=fun r G=>db r G j' hjl
       have hol:o.length≤536870912:=by rw [ho];simp;omega
       simp [h7,h8,h10,h12,h13,h14,hkb,q1,q2]
       refine Xt (by omega) ?_
       refine ih j' _ _ ⟨j',g+1,G++[⟨[.int .i64 B[j']],0,3⟩],o++[B[j']],rfl,by omega,?_,by simp,by simp [h8],by simp [h10],?_,by simp⟩ (by omega)
       ·rw [ho,List.append_assoc]
        congr 1
        rw [List.drop_eq_getElem_cons (i:=j') (by simp;omega)]
        simp
       ·simp;rw [Q0 (by omega) (by omega)]
      ·simp [h7,h8,h10,h12,h13,h14,hkb]
       refine ih j' _ _ ⟨j',g,G,o,rfl,by omega,?_,by simp [h7],by simp [h8],by simp [h10],?_,by simp⟩ (by omega)
       ·rw [ho]
        congr 2
        rw [List.drop_of_length_le (by simp;omega),List.drop_of_length_le (by simp;omega)]
       ·simp;rw [Q0 (by omega) (by omega)]
    ·have:n=0:=by omega
     subst this
     simp [h7,h8,h10,h12]
     rw [List.drop_zero] at ho
     rw [← ho]
     exact ⟨_,rfl,Ow.new0 rfl (W1 o).symm (by simp) rfl,by simp⟩
   ·simp [et,← ho];omega
   ·simp [et,← ho];omega
  ·have hik:i≠ka:=fun hh=>h6 (by subst hh;rwa [Wh _ _ hil] at ga)
   simp [h7,h8,h9,h10,h11,q1,q2]
   refine Xt (by omega) ?_
   refine ih (ka-(i+1)) _ _ ⟨i+1,g+1,G++[⟨[.int .i64 A[i]],0,3⟩],o++[A[i]],rfl,by omega,?_,by simp,by simp [h8],by simp [h9],by simp [h10],?_,by simp⟩ (by omega)
   ·rw [List.take_succ_eq_append_getElem hil,ho]
   ·simp;rw [Q0 (by omega) (by omega)]
end Go.Proofs.YtlhaeingdonaeaaGreat.V
set_option linter.all false
namespace Go.Proofs.YtlhaeingdonaeaaGreat.V
open Go Go.VM Go.Proofs
variable {frz:Nat} {H:Qd}
end Go.Proofs.YtlhaeingdonaeaaGreat.V
set_option linter.all false
namespace Go.Proofs.YtlhaeingdonaeaaGreat.V
open Go Go.VM Go.Proofs
set_option maxRecDepth 10000
variable {frz:Nat} {H:Qd}
def Ui (w h a u:Int):Int:=if next w h a 0=u then 0 else if next w h a 1=u then 1 else if next w h a 2=u then 2 else if next w h a 3=u then 3 else 4
theorem L3 {w h a u:Int} {p:Nat} (hp:p<4) (h1:next w h a p=u) (h2:∀q<p,next w h a (q:Nat)≠u):Ui w h a u=p:=by
 unfold Ui
 have:p=0∨p=1∨p=2∨p=3:=by omega
 have g:∀q:Nat,q<p→∀z:Int,z=q→¬next w h a z=u:=fun q hq z hz=>by rw [hz];exact h2 q hq
 rcases this with rfl|rfl|rfl|rfl
 ·rw [if_pos (by exact_mod_cast h1)];rfl
 ·rw [if_neg (g 0 (by omega) 0 rfl),if_pos (by exact_mod_cast h1)];rfl
 ·rw [if_neg (g 0 (by omega) 0 rfl),if_neg (g 1 (by omega) 1 rfl),if_pos (by exact_mod_cast h1)];rfl
 ·rw [if_neg (g 0 (by omega) 0 rfl),if_neg (g 1 (by omega) 1 rfl),if_neg (g 2 (by omega) 2 rfl),if_pos (by exact_mod_cast h1)];rfl
theorem Qgz (w h a u:Int) (p:Nat) (hp:p<4) (h1:next w h a p=u) :
 Qh C frz 232 [.agg #[.int .i64 w,.int .i64 h],.int .i64 a,.int .i64 u] H=some (.int .i64 (Ui w h a u),H):=by
 rw [Qb (fn:=Tryz.f232) Tryz.func232 rfl (by kernel_rfl) rfl]
 simp
 refine Z2 (fun n t H'=>∃k:Nat,n=p-k∧k≤p∧t 1=.int .i64 a∧t 2=.int .i64 u∧t 3=.pointer (some ⟨H.length,0,some 0⟩)∧t 7=.int .i64 k∧H'=H++[⟨[.int .i64 w,.int .i64 h],0,40⟩]∧∀q<k,next w h a (q:Nat)≠u) ?_ (n:=p) ⟨0,by simp⟩
 rintro n t H' ⟨k,rfl,hk,k1,k2,k3,k7,rfl,hq⟩ ih
 simp [k1,k2,k3,k7,Lj]
 refine Q7 _ ?_ ?_<;>intro h5
 ·simp [k1,k2,k3,k7]
  exact (L3 (by omega) h5 hq).symm
 ·have hkp:k≠p:=fun hh=>h5 (by rw [hh];exact h1)
  simp [k1,k2,k3,k7,h5]
  refine ih (p-(k+1)) _ _ ⟨k+1,rfl,by omega,by simp [k1],by simp [k2],by simp [k3],?_,rfl,fun q hq'=>?_⟩ (by omega)
  ·simp;rw [Q0 (by omega) (by omega)]
  ·by_cases hqk:q<k
   ·exact hq q hqk
   ·have:q=k:=by omega
    rw [this];exact h5
theorem Qcc (w h a u:Int) :
 Qh C frz 219 [.agg #[.int .i64 w,.int .i64 h],.int .i64 a,.int .i64 u] H=some (.int .i64 (Ui w h a u),H):=by
 rw [Qb (fn:=Tryz.f219) Tryz.func219 rfl (by kernel_rfl) rfl]
 simp
 refine Z2 (fun n t H'=>∃k:Nat,n=4-k∧k≤4∧t 1=.int .i64 a∧t 2=.int .i64 u∧t 3=.pointer (some ⟨H.length,0,some 0⟩)∧t 7=.int .i64 k∧H'=H++[⟨[.int .i64 w,.int .i64 h],0,40⟩]∧∀q<k,next w h a (q:Nat)≠u) ?_ (n:=4) ⟨0,by simp⟩
 rintro n t H' ⟨k,rfl,hk,k1,k2,k3,k7,rfl,hq⟩ ih
 simp [k1,k2,k3,k7]
 refine Q7 _ ?_ ?_<;>intro h4
 ·simp [k1,k2,k3,k7,Zy]
  refine Q7 _ ?_ ?_<;>intro h5
  ·simp [k1,k2,k3,k7,h5]
   exact (L3 (by omega) h5 hq).symm
  ·simp [k1,k2,k3,k7,h5]
   refine ih (4-(k+1)) _ _ ⟨k+1,rfl,by omega,by simp [k1],by simp [k2],by simp [k3],?_,rfl,fun q hq'=>?_⟩ (by omega)
   ·simp;rw [Q0 (by omega) (by omega)]
   ·by_cases hqk:q<k
    ·exact hq q hqk
    ·have:q=k:=by omega
     rw [this];exact h5
 ·have:k=4:=by omega
  subst this
  simp [k1,k2,k3,k7]
  unfold Ui
  have q0:=hq 0 (by omega);have q1:=hq 1 (by omega);have q2:=hq 2 (by omega);have q3:=hq 3 (by omega)
  simp at q0 q1 q2 q3
  rw [if_neg q0,if_neg q1,if_neg q2,if_neg q3]
noncomputable def Zf (w h:Int) (P:List Int) (n i:Nat):Int:=if i/n=i%n then 4 else Ui w h (i/n:Nat) ((Xw P (i/n:Nat) (i%n:Nat)).getD 1 0)
noncomputable def Ag (w h:Int) (b:List Int) (r:Int):List Int:=(List.range ((cnt w h).toNat*(cnt w h).toNat)).map (Zf w h (Wb w h b r) (cnt w h).toNat)
def Uw (w h:Int) (b:List Int) (r:Int):Prop:=conn w h b∧Y6 w h r
noncomputable instance (w h:Int) (b:List Int) (r:Int):Decidable (Uw w h b r):=inferInstanceAs (Decidable (_∧_))
noncomputable def Xj (w h:Int) (b:List Int) (r:Int):List Int:=if Uw w h b r then Ag w h b r else []
theorem jf (w h:Int) (b:List Int) (r:Int):(Ag w h b r).length≤256:=by
 have:=Qz w h
 unfold Ag
 rw [List.length_map,List.length_range]
 have:(cnt w h).toNat*(cnt w h).toNat≤16*16:=Nat.mul_le_mul (by omega) (by omega)
 omega
theorem Mp (w h:Int) (b:List Int) (r:Int):(Xj w h b r).length≤256:=by
 unfold Xj;split
 ·exact jf w h b r
 ·simp
theorem yz (w h:Int) (v:Value) (b:List Int) (root:Int) (hI:W7 H v b) (hl:b.length≤1073741824) :
 wp (Qh C frz 210 [.agg #[.int .i64 w,.int .i64 h,v],.int .i64 root] H) (Xr Wu H (Xj w h b root) (decide (Uw w h b root))):=by
 rw [Qb (fn:=Tryz.f210) Tryz.func210 rfl (by kernel_rfl) rfl]
 have one:=And.intro hI.one' hI.cells
 have hc:=Qz w h
 have no:∀(L:Qd),¬Uw w h b root→Xr Wu H (Xj w h b root) (decide (Uw w h b root)) (.tuple #[.agg #[.slice none 0 0],.bool false]) (H++L):=fun L hh=>by
  refine ⟨.agg #[.slice none 0 0],by simp [hh],.slice none 0 0,rfl,⟨.inl ⟨rfl,by simp [Xj,hh]⟩,?_⟩,Qp.app _,by simp [Wu],by simp [Wu]⟩
  simp [Xj,hh]
 by_cases hcn:conn w h b
 ·by_cases hr:Y6 w h root
  ·have hok:Uw w h b root:=⟨hcn,hr⟩
   simp [one,Tp _ _ _ _ (hI.app _) hl,hcn,Zm,hr]
   refine Ql (Dz w h v b root (hI.app _) hl) ?_
   rintro vp H1 ⟨L,hH1,op,np⟩
   have hpl:=Eg hcn hr
   have tn:=fun {a c:Int} (ha:Y6 w h a) (hc:Y6 w h c) (hne:a≠c)=>xo hcn hr ha hc hne
   have ett:Xj w h b root=(List.range ((cnt w h).toNat*(cnt w h).toNat)).map (Zf w h (Wb w h b root) (cnt w h).toNat):=if_pos hok
   have hcc:(cnt w h).toNat≤16:=by omega
   have Qz7:(cnt w h).toNat*(cnt w h).toNat≤256:=Nat.mul_le_mul hcc hcc
   rw [ett]
   generalize Wb w h b root=P at *
   have c1:Qp H H1 []:=by rw [hH1];exact (Qp.app []).trans (Qp.app [])
   have b2:H1[H.length]? = some ⟨[.int .i64 w,.int .i64 h,v],0,42⟩:=by rw [hH1];simp
   have b4:H1[H.length+1]? = some ⟨[.slice none 0 0],0,43⟩:=by rw [hH1];simp
   rw [← hH1] at op
   simp at np
   have lp:=op.lt
   have l1:H.length+2≤H1.length:=by rw [hH1];simp
   clear hH1 L
   have lp1:=op.lt
   generalize hB6:H1.length=B6 at *
   have hPl:P.length=(cnt w h).toNat:=by omega
   simp [VM.look,b2,one,hB6,(op.app (L:=[⟨[.slice none 0 0],0,43⟩])).rd.len]
   refine Xt (by omega) ?_
   refine Qw (fun n t H'=>∃(i:Nat) (vo:Value) (o:List Int),n=(cnt w h).toNat-i∧i≤(cnt w h).toNat∧o=(List.range (i*(cnt w h).toNat)).map (Zf w h P (cnt w h).toNat)∧
   t 2=.pointer (some ⟨H.length,0,some 0⟩)∧t 4=.pointer (some ⟨H.length+1,0,some 0⟩)∧t 6=.pointer (some ⟨B6,0,some 0⟩)∧t 7=vp∧t 27=.int .i64 P.length∧t 28=.int .i64 i∧
   Qp H H' []∧H'[H.length]? = some ⟨[.int .i64 w,.int .i64 h,v],0,42⟩∧H'[H.length+1]? = some ⟨[.slice none 0 0],0,43⟩∧H'[B6]? = some ⟨[vo],0,43⟩∧
   Ow Fl.int 3 H' vp P∧Ow Fl.int 3 H' vo o∧(∀i∈ids vo,B6<i)) ?_ (n:=(cnt w h).toNat)
    ⟨0,.slice none 0 0,[],by simp,by omega,by simp,by simp,by simp,by simp,by simp,by simp,by simp,c1.trans (Qp.app []),Qj b2 _,Qj b4 _,by rw [← hB6];simp,op.app,.inl ⟨rfl,rfl⟩,by simp⟩
   clear b2 b4 op
   rintro n t H' ⟨i,vo,o,rfl,hi,ho,h2,h4,h6,h7,h27,h28,c0,b2,b4,b6,op,oo,no⟩ ih
   simp [h2,h4,h6,h7,h27,h28]
   refine Qm ?_ ?_<;>intro hin
   ·have hin':i<(cnt w h).toNat:=by omega
    simp [h2,h4,h6,h7,h27,h28,op.rd.len]
    refine Qw (fun n t H'=>∃(j:Nat) (vo:Value) (o:List Int),n=(cnt w h).toNat-j∧j≤(cnt w h).toNat∧o=(List.range (i*(cnt w h).toNat+j)).map (Zf w h P (cnt w h).toNat)∧
     t 2=.pointer (some ⟨H.length,0,some 0⟩)∧t 4=.pointer (some ⟨H.length+1,0,some 0⟩)∧t 6=.pointer (some ⟨B6,0,some 0⟩)∧t 7=vp∧t 27=.int .i64 P.length∧t 28=.int .i64 i∧
     t 8=.int .i64 i∧t 32=.int .i64 P.length∧t 33=.int .i64 j∧
     Qp H H' []∧H'[H.length]? = some ⟨[.int .i64 w,.int .i64 h,v],0,42⟩∧H'[H.length+1]? = some ⟨[.slice none 0 0],0,43⟩∧H'[B6]? = some ⟨[vo],0,43⟩∧
   Ow Fl.int 3 H' vp P∧Ow Fl.int 3 H' vo o∧(∀i∈ids vo,B6<i)) ?_ (n:=(cnt w h).toNat) ⟨0,vo,o,by simp,by omega,by simpa using ho,by simp [h2],by simp [h4],by simp [h6],by simp [h7],by simp [h27],by simp [h28],by simp,by simp,by simp,c0,b2,b4,b6,op,oo,no⟩
    clear h2 h4 h6 h7 h27 h28 c0 b2 b4 b6 op oo no ho
    rintro n t H' ⟨j,vo,o,rfl,hj,ho,h2,h4,h6,h7,h27,h28,h8,h32,h33,c0,b2,b4,b6,op,oo,no⟩ ih2
    simp [h2,h4,h6,h7,h27,h28,h8,h32,h33]
    refine Qm ?_ ?_<;>intro hjn
    ·have hjn':j<(cnt w h).toNat:=by omega
     have hol:o.length=i*(cnt w h).toNat+j:=by rw [ho];simp
     have hsm:i*(cnt w h).toNat+j<(cnt w h).toNat*(cnt w h).toNat:=by
      have:=Nat.mul_le_mul_right (cnt w h).toNat (show i+1≤(cnt w h).toNat by omega)
      rw [Nat.succ_mul] at this;omega
     have hdv:(i*(cnt w h).toNat+j)/(cnt w h).toNat=i:=by rw [Nat.mul_comm,Nat.mul_add_div (by omega),Nat.div_eq_of_lt hjn'];omega
     have hmd:(i*(cnt w h).toNat+j)%(cnt w h).toNat=j:=by rw [Nat.mul_comm,Nat.mul_add_mod,Nat.mod_eq_of_lt hjn']
     simp [h2,h4,h6,h7,h27,h28,h8,h32,h33]
     refine Qm ?_ ?_<;>intro hij
     ·have hx:Zf w h P (cnt w h).toNat (i*(cnt w h).toNat+j)=4:=by unfold Zf;rw [hdv,hmd,if_pos (by omega)]
      simp [VM.look,b6,h2,h4,h6,h7,h27,h28,h8,h32,h33]
      obtain ⟨vo',H3,e3,oo3,c3,n3⟩:=oo.push (P:=Tryz.prog) (frz:=H.length) (ty:=24) (a:=4) (by simp) rfl (by omega) (fun i hi=>by have:=no i hi;omega)
      simp only [Fl.int_f] at e3
      have lc:=Wj b6
      have b2:=Qa b2 c3 (fun hh=>by have:=no _ hh;omega)
      have b4:=Qa b4 c3 (fun hh=>by have:=no _ hh;omega)
      have b6:=Qa b6 c3 (fun hh=>by have:=no _ hh;omega)
      have op:=op.chg c3 (fun i hi hh=>by have:=lp i hi;have:=no _ hh;omega)
      have no3:∀i∈ids vo',B6<i:=fun i hi=>by rcases n3 i hi with h|h;exact no i h;omega
      have Xz:=And.intro oo3.rd.one' oo3.rd.cells
      simp [e3,VM.look,b6,Xz,h2,h4,h6,h7,h27,h28,h8,h32,h33]
      refine Xt (by omega) ?_
      refine ih2 ((cnt w h).toNat-(j+1)) _ _ ⟨j+1,vo',o++[4],rfl,by omega,?_,by simp [h2],by simp [h4],by simp [h6],by simp [h7],by simp [h27],by simp [h28],by simp [h8],by simp [h32],?_,
       (c0.trans' c3 (fun i hi=>.inr (by have:=no i hi;omega))).trans' (Qn _ _) (fun i hi=>.inr (by simp at hi;omega)),Qa b2 (Qn _ _) (by simp;omega),Qa b4 (Qn _ _) (by simp;omega),Qq b6,
       op.chg (Qn _ _) (fun i hi hh=>by have:=lp i hi;simp at hh;omega),oo3.chg (Qn _ _) (fun i hi hh=>by have:=no3 i hi;simp at hh;omega),no3⟩ (by omega)
      ·rw [← Nat.add_assoc,List.range_succ,List.map_append,← ho];simp [hx]
      ·simp;rw [Q0 (by omega) (by omega)]
     ·rw [Qv (h:=by kernel_rfl)]
      simp [h2,h4,h6,h7,h27,h28,h8,h32,h33,VM.look,b2]
      obtain ⟨p,hp,htl,htg,hn0⟩:=tn (V6 hin') (V6 hjn') (by omega:(i:Int)≠(j:Int))
      refine Ql (jl vp P i j op.rd.isI (by omega)) ?_
      rintro vt H2 ⟨L2,hH2,ot,nt⟩
      have c2:Qp H' H2 []:=by rw [hH2];exact Qp.app []
      rw [← hH2] at ot
      clear hH2 L2
      have b2:=Qa b2 c2 (by simp)
      have b4:=Qa b4 c2 (by simp)
      have b6:=Qa b6 c2 (by simp)
      have op:=op.chg c2 (by simp)
      have oo:=oo.chg c2 (by simp)
      have c0:=c0.trans c2
      have q1:=ot.rd.isI.idx (P:=Tryz.prog) (ty:=24) (e:=3) (by simp) (i:=1) (by omega) (by omega)
      have q2:=ot.rd.isI.load (P:=Tryz.prog) (e:=3) (by simp) htl
      have etn:(Xw P (i:Int) (j:Int)).getD 1 0=next w h i p:=by rw [List.getD_eq_getElem?_getD,htg];rfl
      have hpt:=fun F L=>Qgz (frz:=F) (H:=L) w h i _ p hp etn.symm
      have hx:Zf w h P (cnt w h).toNat (i*(cnt w h).toNat+j)=Ui w h i ((Xw P i j).getD 1 0):=by unfold Zf;rw [hdv,hmd,if_neg (by omega)]
      have q1':Q6 Tryz.prog H2 24 vt (.int .i64 1)=some (Yi vt 1):=q1
      generalize (Xw P (i:Int) (j:Int)).getD 1 0=u at *
      generalize Ui w h (i:Int) u=y at *
      simp [q1',q2,hpt,h2,h4,h6,h7,h27,h28,h8,h32,h33]
      simp [VM.look,b6,h2,h4,h6,h7,h27,h28,h8,h32,h33]
      obtain ⟨vo',H3,e3,oo3,c3,n3⟩:=oo.push (P:=Tryz.prog) (frz:=H.length) (ty:=24) (a:=y) (by simp) rfl (by omega) (fun i hi=>by have:=no i hi;omega)
      simp only [Fl.int_f] at e3
      have lc:=Wj b6
      have b2:=Qa b2 c3 (fun hh=>by have:=no _ hh;omega)
      have b4:=Qa b4 c3 (fun hh=>by have:=no _ hh;omega)
      have b6:=Qa b6 c3 (fun hh=>by have:=no _ hh;omega)
      have op:=op.chg c3 (fun i hi hh=>by have:=lp i hi;have:=no _ hh;omega)
      have no3:∀i∈ids vo',B6<i:=fun i hi=>by rcases n3 i hi with h|h;exact no i h;omega
      have Xz:=And.intro oo3.rd.one' oo3.rd.cells
      simp [e3,VM.look,b6,Xz,h2,h4,h6,h7,h27,h28,h8,h32,h33]
      refine Xt (by omega) ?_
      refine ih2 ((cnt w h).toNat-(j+1)) _ _ ⟨j+1,vo',o++[y],rfl,by omega,?_,by simp [h2],by simp [h4],by simp [h6],by simp [h7],by simp [h27],by simp [h28],by simp [h8],by simp [h32],?_,
       (c0.trans' c3 (fun i hi=>.inr (by have:=no i hi;omega))).trans' (Qn _ _) (fun i hi=>.inr (by simp at hi;omega)),Qa b2 (Qn _ _) (by simp;omega),Qa b4 (Qn _ _) (by simp;omega),Qq b6,
       op.chg (Qn _ _) (fun i hi hh=>by have:=lp i hi;simp at hh;omega),oo3.chg (Qn _ _) (fun i hi hh=>by have:=no3 i hi;simp at hh;omega),no3⟩ (by omega)
      ·rw [← Nat.add_assoc,List.range_succ,List.map_append,← ho];simp [hx]
      ·simp;rw [Q0 (by omega) (by omega)]
    ·have Qzr:j=(cnt w h).toNat:=by omega
     have hjn':¬j<P.length:=by omega
     simp [h2,h4,h6,h7,h27,h28,h8,h32,h33]
     refine ih ((cnt w h).toNat-(i+1)) _ _ ⟨i+1,vo,o,rfl,by omega,by rw [ho,Qzr,Nat.succ_mul],by simp [h2],by simp [h4],by simp [h6],by simp [h7],by simp [h27],?_,c0,b2,b4,b6,op,oo,no⟩ (by omega)
     simp;rw [Q0 (by omega) (by omega)]
   ·have hi2:i=(cnt w h).toNat:=by omega
    have l4:=Wj b4
    rw [hi2] at ho
    rw [ho] at oo
    have l5:∀i∈ids vo,i∉[H.length+1]:=fun i hi hh=>by have:=no i hi;simp at hh;omega
    have g4:=Qq (r':=⟨[vo],0,43⟩) b4
    simp [h2,h4,h6,h7,h27,h28,VM.look,b4,b6,oo.rd.one',oo.rd.cells,g4]
    refine ⟨.agg #[vo],by simp [hok],vo,rfl,⟨oo.chg (Qn _ _) l5,by simp;omega⟩,c0.trans' (Qn _ _) (fun i hi=>.inr (by simp at hi;omega)),fun i hi=>by have:=no i hi;omega,Wa vo⟩
  ·simp [one,Tp _ _ _ _ (hI.app _) hl,hcn,Zm,hr]
   exact no _ (fun hh=>hr hh.2)
 ·simp [one,Tp _ _ _ _ (hI.app _) hl,hcn]
  exact no _ (fun hh=>hcn hh.1)
theorem Qe4 {i n:Nat} (hn:0<n) (hi:i<1000):IntKind.i64.wrap ((i:Int).tdiv n)=((i/n:Nat):Int):=by
 rw [Int.tdiv_eq_ediv_of_nonneg (by omega)]
 have:i/n≤i:=Nat.div_le_self _ _
 rw [← Int.natCast_ediv]
 generalize i/n=q at *
 exact Q0 (by omega) (by omega)
theorem Qf5 {i n:Nat}:(i:Int).tmod n=((i%n:Nat):Int):=by
 rw [Int.tmod_eq_emod_of_nonneg (by omega)];rfl
theorem gy (w h:Int) (v:Value) (b:List Int) (root:Int) (hI:W7 H v b) (hl:b.length≤1073741824) (hok:Uw w h b root) :
 wp (Qh C frz 196 [.agg #[.int .i64 w,.int .i64 h,v],.int .i64 root] H) (Wu.Made H (Xj w h b root)):=by
 rw [Qb (fn:=Tryz.f196) Tryz.func196 rfl (by kernel_rfl) rfl]
 have one:=And.intro hI.one' hI.cells
 have hc:=Qz w h
 obtain ⟨hcn,hr⟩:=hok
 have hok:Uw w h b root:=⟨hcn,hr⟩
 simp [one]
 refine Ql (Ed w h v b root (hI.app _) hl) ?_
 rintro vp H1 ⟨L,hH1,op,np⟩
 have hpl:=Eg hcn hr
 have tn:=fun {a c:Int} (ha:Y6 w h a) (hc:Y6 w h c) (hne:a≠c)=>xo hcn hr ha hc hne
 have ett:Xj w h b root=(List.range ((cnt w h).toNat*(cnt w h).toNat)).map (Zf w h (Wb w h b root) (cnt w h).toNat):=if_pos hok
 obtain ⟨N,hN⟩:∃N:Nat,cnt w h=N:=⟨(cnt w h).toNat,by omega⟩
 have hNt:(cnt w h).toNat=N:=by omega
 rw [hNt] at ett
 have nc:=fun F L=>(W8 (frz:=F) (H:=L) w h).trans (by rw [hN])
 have isNN:=fun {q:Nat} (hq:q<N)=>V6 (w:=w) (h:=h) (a:=q) (by omega)
 have hcc:N≤16:=by omega
 have Qz7:N*N≤256:=Nat.mul_le_mul hcc hcc
 rw [ett]
 generalize Wb w h b root=P at *
 have c1:Qp H H1 []:=by rw [hH1];exact (Qp.app []).trans (Qp.app [])
 have b2:H1[H.length]? = some ⟨[.int .i64 w,.int .i64 h,v],0,42⟩:=by rw [hH1];simp
 have b4:H1[H.length+1]? = some ⟨[.slice none 0 0],0,43⟩:=by rw [hH1];simp
 have b5:H1[H.length+2]? = some ⟨[.slice none 0 0],0,43⟩:=by rw [hH1];simp
 rw [← hH1] at op
 simp at np
 have lp1:=op.lt
 have l1:H.length+3≤H1.length:=by rw [hH1];simp
 clear hH1 L
 generalize hB6:H1.length=B6 at *
 have hPl:P.length=N:=by omega
 have hn0:0<N:=by have:=hr.1;have:=hr.2;omega
 have esq:IntKind.i64.wrap ((N:Int)*N)=((N*N:Nat):Int):=by
  rw [← Int.natCast_mul,Q0 (by omega) (by omega)]
 simp [VM.look,b2,one,nc]
 refine Qw (fun n t H'=>∃(i:Nat) (vo:Value) (o:List Int),n=N*N-i∧i≤N*N∧o=(List.range i).map (Zf w h P N)∧
  t 2=.pointer (some ⟨H.length,0,some 0⟩)∧t 4=.pointer (some ⟨H.length+1,0,some 0⟩)∧t 5=.pointer (some ⟨H.length+2,0,some 0⟩)∧t 6=vp∧t 7=.int .i64 N∧t 8=.int .i64 i∧
  Qp H H' []∧B6≤H'.length∧H'[H.length]? = some ⟨[.int .i64 w,.int .i64 h,v],0,42⟩∧H'[H.length+1]? = some ⟨[.slice none 0 0],0,43⟩∧H'[H.length+2]? = some ⟨[vo],0,43⟩∧
  Ow Fl.int 3 H' vp P∧Ow Fl.int 3 H' vo o∧(∀i∈ids vo,B6≤i)) ?_ (n:=N*N)
  ⟨0,.slice none 0 0,[],by simp,by omega,by simp,by simp,by simp,by simp,by simp,by simp,by simp,c1,by omega,b2,b4,b5,op,.inl ⟨rfl,rfl⟩,by simp⟩
 clear b2 b4 b5 op
 rintro n t H' ⟨i,vo,o,rfl,hi,ho,h2,h4,h5,h6,h7,h8,c0,lB,b2,b4,b5,op,oo,no⟩ ih
 simp [h2,h4,h5,h6,h7,h8,esq]
 refine Qm ?_ ?_<;>intro hin
 ·have hin':i<N*N:=by
   have:(i:Int)<((N*N:Nat):Int):=by simpa using hin
   omega
  have hol:o.length=i:=by rw [ho];simp
  have hdv:=Qe4 (i:=i) hn0 (by omega)
  have hmd:=Qf5 (i:=i) (n:=N)
  have hd1:i/N<N:=Nat.div_lt_of_lt_mul hin'
  have hm1:i%N<N:=Nat.mod_lt _ hn0
  have Qdw:¬N=0:=by omega
  have Qo7:IntKind.i64.wrap ((i:Int)/(N:Int))=((i/N:Nat):Int):=by
   rw [← Int.natCast_ediv]
   have:i/N≤i:=Nat.div_le_self _ _
   generalize i/N=q at *
   exact Q0 (by omega) (by omega)
  have Qpk:(i:Int)%(N:Int)=((i%N:Nat):Int):=rfl
  generalize hqa:i/N=qa at *
  generalize hqc:i%N=qc at *
  simp [h2,h4,h5,h6,h7,h8]
  rw [Qv (h:=by kernel_rfl)]
  simp [h2,h4,h5,h6,h7,h8,hdv,hmd,Qo7,Qpk,Qdw]
  refine Qm ?_ ?_<;>intro hij
  ·have hx:Zf w h P N i=4:=by unfold Zf;rw [hqa,hqc,if_pos (by omega)]
   simp [VM.look,b5,h2,h4,h5,h6,h7,h8]
   obtain ⟨vo',H3,e3,oo3,c3,n3⟩:=oo.push (P:=Tryz.prog) (frz:=H.length) (ty:=24) (a:=4) (by simp) rfl (by omega) (fun i hi=>by have:=no i hi;omega)
   simp only [Fl.int_f] at e3
   have lc:=c0.1
   have lc2:=Wj b5
   have b2:=Qa b2 c3 (fun hh=>by have:=no _ hh;omega)
   have b4:=Qa b4 c3 (fun hh=>by have:=no _ hh;omega)
   have b5:=Qa b5 c3 (fun hh=>by have:=no _ hh;omega)
   have op:=op.chg c3 (fun i hi hh=>by have:=lp1 i hi;have:=no _ hh;omega)
   have no3:∀i∈ids vo',B6≤i:=fun i hi=>by rcases n3 i hi with h|h;exact no i h;omega
   have Xz:=And.intro oo3.rd.one' oo3.rd.cells
   simp [e3,VM.look,b5,Xz,h2,h4,h5,h6,h7,h8]
   refine ih (N*N-(i+1)) _ _ ⟨i+1,vo',o++[4],rfl,by omega,?_,by simp [h2],by simp [h4],by simp [h5],by simp [h6],by simp [h7],?_,
    (c0.trans' c3 (fun i hi=>.inr (by have:=no i hi;omega))).trans' (Qn _ _) (fun i hi=>.inr (by simp at hi;omega)),by have:=c3.1;simp;omega,Qa b2 (Qn _ _) (by simp),Qa b4 (Qn _ _) (by simp),Qq b5,
    op.chg (Qn _ _) (fun i hi hh=>by have:=np i hi;simp at hh;omega),oo3.chg (Qn _ _) (fun i hi hh=>by have:=no3 i hi;simp at hh;omega),no3⟩ (by omega)
   ·rw [List.range_succ,List.map_append,← ho];simp [hx]
   ·simp;rw [Q0 (by omega) (by omega)]
  ·have hij':¬(qa=qc):=by omega
   rw [Qv (h:=by kernel_rfl)]
   obtain ⟨p,hp,htl,htg,hn0'⟩:=tn (isNN hd1) (isNN hm1) (by omega:(qa:Int)≠(qc:Int))
   simp [h2,h4,h5,h6,h7,h8,hdv,hmd,Qo7,Qpk,Qdw,VM.look,b2]
   refine Ql (Am vp P qa qc op.rd.isI (by omega)) ?_
   rintro vt H2 ⟨L2,hH2,ot,nt⟩
   have c2:Qp H' H2 []:=by rw [hH2];exact Qp.app []
   rw [← hH2] at ot
   clear hH2 L2
   have b2:=Qa b2 c2 (by simp)
   have b4:=Qa b4 c2 (by simp)
   have b5:=Qa b5 c2 (by simp)
   have op:=op.chg c2 (by simp)
   have oo:=oo.chg c2 (by simp)
   have c0:=c0.trans c2
   have lB:B6≤H2.length:=by have:=c2.1;omega
   have q1:Q6 Tryz.prog H2 24 vt (.int .i64 1)=some (Yi vt 1):=ot.rd.isI.idx (P:=Tryz.prog) (ty:=24) (e:=3) (by simp) (i:=1) (by omega) (by omega)
   have q2:=ot.rd.isI.load (P:=Tryz.prog) (e:=3) (by simp) htl
   have hx:Zf w h P N i=Ui w h qa ((Xw P qa qc).getD 1 0):=by unfold Zf;rw [hqa,hqc,if_neg hij']
   have hpt:=fun F L u=>Qcc (frz:=F) (H:=L) w h qa u
   generalize (Xw P qa qc).getD 1 0=u at *
   have hpt:=fun F L=>hpt F L u
   generalize Ui w h qa u=y at *
   simp [q1,q2,hpt,h2,h4,h5,h6,h7,h8]
   simp [VM.look,b5,h2,h4,h5,h6,h7,h8]
   obtain ⟨vo',H3,e3,oo3,c3,n3⟩:=oo.push (P:=Tryz.prog) (frz:=H.length) (ty:=24) (a:=y) (by simp) rfl (by omega) (fun i hi=>by have:=no i hi;omega)
   simp only [Fl.int_f] at e3
   have lc:=c0.1
   have lc2:=Wj b5
   have b2:=Qa b2 c3 (fun hh=>by have:=no _ hh;omega)
   have b4:=Qa b4 c3 (fun hh=>by have:=no _ hh;omega)
   have b5:=Qa b5 c3 (fun hh=>by have:=no _ hh;omega)
   have op:=op.chg c3 (fun i hi hh=>by have:=lp1 i hi;have:=no _ hh;omega)
   have no3:∀i∈ids vo',B6≤i:=fun i hi=>by rcases n3 i hi with h|h;exact no i h;omega
   have Xz:=And.intro oo3.rd.one' oo3.rd.cells
   simp [e3,VM.look,b5,Xz,h2,h4,h5,h6,h7,h8]
   refine ih (N*N-(i+1)) _ _ ⟨i+1,vo',o++[y],rfl,by omega,?_,by simp [h2],by simp [h4],by simp [h5],by simp [h6],by simp [h7],?_,
    (c0.trans' c3 (fun i hi=>.inr (by have:=no i hi;omega))).trans' (Qn _ _) (fun i hi=>.inr (by simp at hi;omega)),by have:=c3.1;simp;omega,Qa b2 (Qn _ _) (by simp),Qa b4 (Qn _ _) (by simp),Qq b5,
    op.chg (Qn _ _) (fun i hi hh=>by have:=np i hi;simp at hh;omega),oo3.chg (Qn _ _) (fun i hi hh=>by have:=no3 i hi;simp at hh;omega),no3⟩ (by omega)
   ·rw [List.range_succ,List.map_append,← ho];simp [hx]
   ·simp;rw [Q0 (by omega) (by omega)]
 ·have hi2:i=N*N:=by
   have:¬(i:Int)<((N*N:Nat):Int):=by simpa using hin
   omega
  have l4:=Wj b4
  rw [hi2] at ho
  rw [ho] at oo
  have l5:∀i∈ids vo,i∉[H.length+1]:=fun i hi hh=>by have:=no i hi;simp at hh;omega
  have g4:=Qq (r':=⟨[vo],0,43⟩) b4
  simp [h2,h4,h5,h6,h7,h8,VM.look,b4,b5,oo.rd.one',oo.rd.cells,g4]
  exact ⟨vo,rfl,⟨oo.chg (Qn _ _) l5,by simp;omega⟩,c0.trans' (Qn _ _) (fun i hi=>.inr (by simp at hi;omega)),fun i hi=>by have:=no i hi;omega,Wa vo⟩
theorem qf (w h:Int) (v:Value) (b:List Int) (root:Int) (hI:W7 H v b) (hl:b.length≤1073741824) :
 wp (Qh C frz 164 [.agg #[.int .i64 w,.int .i64 h,v],.int .i64 root] H) (Xr Wu H (Xj w h b root) (decide (Uw w h b root))):=by
 rw [Qb (fn:=Tryz.f164) Tryz.func164 rfl (by kernel_rfl) rfl]
 have one:=And.intro hI.one' hI.cells
 have hc:=Qz w h
 have no:∀(L:Qd),¬Uw w h b root→Xr Wu H (Xj w h b root) (decide (Uw w h b root)) (.tuple #[.agg #[.slice none 0 0],.bool false]) (H++L):=fun L hh=>by
  refine ⟨.agg #[.slice none 0 0],by simp [hh],.slice none 0 0,rfl,⟨.inl ⟨rfl,by simp [Xj,hh]⟩,?_⟩,Qp.app _,by simp [Wu],by simp [Wu]⟩
  simp [Xj,hh]
 by_cases hcn:conn w h b
 ·by_cases hr:Y6 w h root
  ·have hok:Uw w h b root:=⟨hcn,hr⟩
   simp [one,V5 _ _ _ _ (hI.app _) hl,hcn,Uy,hr]
   refine Ql (gy w h v b root (hI.app _) hl hok) ?_
   rintro _ H1 ⟨vt,rfl,ot,c1,nt,dt⟩
   have b4:H1[H.length+1]? = some ⟨[.slice none 0 0],0,43⟩:=Qa (by simp) c1 (by simp)
   have l4:=Wj b4
   simp at nt
   have g4:=Qq (r':=⟨[vt],0,43⟩) b4
   simp [Wx,Xc ot,VM.look,b4,g4]
   refine ⟨.agg #[vt],by simp [hok],vt,rfl,Dt.chg (T:=Wu) ot (Qn _ _) (fun i hi hh=>by have:=nt i hi;simp at hh;omega),((Qp.app []).trans c1).trans' (Qn _ _) (fun i hi=>.inr (by simp at hi;omega)),fun i hi=>by have:=nt i hi;omega,dt⟩
  ·simp [one,V5 _ _ _ _ (hI.app _) hl,hcn,Uy,hr]
   exact no _ (fun hh=>hr hh.2)
 ·simp [one,V5 _ _ _ _ (hI.app _) hl,hcn]
  exact no _ (fun hh=>hcn hh.1)
noncomputable def St (w h:Int) (b:List Int):Yt:=(Xj w h b (Xn w h b),Xj w h b (Xn w h b))
noncomputable def V3 (w h:Int) (b:List Int):Bool:=decide (Uw w h b (Xn w h b))
theorem Qel (w h:Int) (v:Value) (b:List Int) (hI:W7 H v b) (hl:b.length≤1073741824) :
 wp (Qh C frz 180 [.agg #[.int .i64 w,.int .i64 h,v]] H) (Xr Qi H (St w h b) (V3 w h b)):=by
 rw [Qb (fn:=Tryz.f180) Tryz.func180 rfl (by kernel_rfl) rfl]
 have one:=And.intro hI.one' hI.cells
 simp [one]
 rw [Qv (h:=by kernel_rfl)]
 simp [one,gt _ _ _ _ (hI.app _) hl]
 refine Ql (yz w h v b (Xn w h b) (hI.app _) hl) ?_
 rintro _ H1 ⟨_,rfl,vt,rfl,ot,c1,nt,dt⟩
 have b1:H1[H.length+1]? = some ⟨[.slice none 0 0,.slice none 0 0],0,45⟩:=Qa (by simp) c1 (by simp)
 have l1:=Wj b1
 simp at nt
 have cH:Qp H H1 []:=(Qp.app []).trans c1
 have hle:=Mp w h b (Xn w h b)
 have hne:¬Uw w h b (Xn w h b)→Xj w h b (Xn w h b)=[]:=fun hh=>if_neg hh
 unfold St V3
 generalize Xj w h b (Xn w h b)=tt at *
 have Pp:=Xc ot
 simp [Wx,Pp,VM.look,b1]
 by_cases hok:Uw w h b (Xn w h b)
 ·have l0:=cH.1
  simp [hok,l0]
  rw [Qv (h:=by kernel_rfl)]
  simp [Pp,l0]
  refine Ql (Nn vt tt (ot.1.rd.isI.app _) (by omega)) ?_
  rintro _ H2 ⟨vu,rfl,ou,c2,nu,du⟩
  have b2:H2[H.length+1]? = some ⟨[.slice none 0 0,.slice none 0 0],0,45⟩:=Qa (Qj b1 _) c2 (by simp)
  have ot2:=Dt.chg0 (T:=Qf) (Dt.app (T:=Qf) ot) c2
  have lt1:=Qf.lt ot
  simp at nu
  have Wi:=Xc ou
  have g4:=Qq (r':=⟨[vt,vu],0,45⟩) b2
  simp [Wx,Pp,Wi,VM.look,b2,g4]
  have h1:∀i∈VM.ids vt,i∉[H.length+1]:=fun i hi hh=>by have:=nt i hi;simp at hh;omega
  have h2:∀i∈VM.ids vu,i∉[H.length+1]:=fun i hi hh=>by have:=nu i hi;simp at hh;omega
  refine ⟨.agg #[vt,vu],by simp [hok],(vt,vu),rfl,⟨Dt.chg (T:=Qf) ot2 (Qn _ _) h1,Dt.chg (T:=Qf) ou (Qn _ _) h2⟩,((cH.trans (Qp.app [])).trans c2).trans' (Qn _ _) (fun i hi=>.inr (by simp at hi;omega)),fun i hi=>?_,List.nodup_append.2 ⟨Wa vt,Wa vu,fun i hi j hj hh=>?_⟩⟩
  ·rcases List.mem_append.1 hi with hi|hi
   ·have:=nt i hi;omega
   ·have:=nu i hi;omega
  ·have:=lt1 i hi;have:=nu j hj;omega
 ·obtain rfl:=hne hok
  have l0:=cH.1
  have g4:=Qq (r':=⟨[.slice none 0 0,.slice none 0 0],0,45⟩) (Qj b1 [⟨[vt],0,43⟩])
  have b1':=Qj b1 [⟨[vt],0,43⟩]
  simp [hok,l0,VM.look,b1,b1',g4]
  refine ⟨.agg #[.slice none 0 0,.slice none 0 0],by simp [hok],(.slice none 0 0,.slice none 0 0),rfl,⟨⟨.inl ⟨rfl,rfl⟩,by simp⟩,.inl ⟨rfl,rfl⟩,by simp⟩,(cH.trans (Qp.app [])).trans' (Qn _ _) (fun i hi=>.inr (by simp at hi;omega)),by simp [Qi],by simp [Qi]⟩
theorem Qde (w h:Int) (v:Value) (b:List Int) (hI:W7 H v b) (hl:b.length≤1073741824) :
 wp (Qh C frz 120 [.agg #[.int .i64 w,.int .i64 h,v]] H) (Xr Qi H (St w h b) (V3 w h b)):=by
 rw [Qb (fn:=Tryz.f120) Tryz.func120 rfl (by kernel_rfl) rfl]
 have one:=And.intro hI.one' hI.cells
 simp [one]
 rw [Qv (h:=by kernel_rfl)]
 simp [one,yb _ _ _ _ (hI.app _) hl]
 refine Ql (qf w h v b (Xn w h b) (hI.app _) hl) ?_
 rintro _ H1 ⟨_,rfl,vt,rfl,ot,c1,nt,dt⟩
 have b1:H1[H.length+1]? = some ⟨[.slice none 0 0,.slice none 0 0],0,45⟩:=Qa (by simp) c1 (by simp)
 have l1:=Wj b1
 simp at nt
 have cH:Qp H H1 []:=(Qp.app []).trans c1
 have hle:=Mp w h b (Xn w h b)
 have hne:¬Uw w h b (Xn w h b)→Xj w h b (Xn w h b)=[]:=fun hh=>if_neg hh
 unfold St V3
 generalize Xj w h b (Xn w h b)=tt at *
 have Pp:=Xc ot
 simp [Wx,Pp,VM.look,b1]
 by_cases hok:Uw w h b (Xn w h b)
 ·have l0:=cH.1
  simp [hok,l0]
  rw [Qv (h:=by kernel_rfl)]
  simp [Pp,l0]
  refine Ql (Jf vt tt (ot.1.rd.isI.app _) (by omega)) ?_
  rintro _ H2 ⟨vu,rfl,ou,c2,nu,du⟩
  have b2:H2[H.length+1]? = some ⟨[.slice none 0 0,.slice none 0 0],0,45⟩:=Qa (Qj b1 _) c2 (by simp)
  have ot2:=Dt.chg0 (T:=Qf) (Dt.app (T:=Qf) ot) c2
  have lt1:=Qf.lt ot
  simp at nu
  have Wi:=Xc ou
  have g4:=Qq (r':=⟨[vt,vu],0,45⟩) b2
  simp [Wx,Pp,Wi,VM.look,b2,g4]
  have h1:∀i∈VM.ids vt,i∉[H.length+1]:=fun i hi hh=>by have:=nt i hi;simp at hh;omega
  have h2:∀i∈VM.ids vu,i∉[H.length+1]:=fun i hi hh=>by have:=nu i hi;simp at hh;omega
  refine ⟨.agg #[vt,vu],by simp [hok],(vt,vu),rfl,⟨Dt.chg (T:=Qf) ot2 (Qn _ _) h1,Dt.chg (T:=Qf) ou (Qn _ _) h2⟩,((cH.trans (Qp.app [])).trans c2).trans' (Qn _ _) (fun i hi=>.inr (by simp at hi;omega)),fun i hi=>?_,List.nodup_append.2 ⟨Wa vt,Wa vu,fun i hi j hj hh=>?_⟩⟩
  ·rcases List.mem_append.1 hi with hi|hi
   ·have:=nt i hi;omega
   ·have:=nu i hi;omega
  ·have:=lt1 i hi;have:=nu j hj;omega
 ·obtain rfl:=hne hok
  have l0:=cH.1
  have g4:=Qq (r':=⟨[.slice none 0 0,.slice none 0 0],0,45⟩) (Qj b1 [⟨[vt],0,43⟩])
  have b1':=Qj b1 [⟨[vt],0,43⟩]
  simp [hok,l0,VM.look,b1,b1',g4]
  refine ⟨.agg #[.slice none 0 0,.slice none 0 0],by simp [hok],(.slice none 0 0,.slice none 0 0),rfl,⟨⟨.inl ⟨rfl,rfl⟩,by simp⟩,.inl ⟨rfl,rfl⟩,by simp⟩,(cH.trans (Qp.app [])).trans' (Qn _ _) (fun i hi=>.inr (by simp at hi;omega)),by simp [Qi],by simp [Qi]⟩
end Go.Proofs.YtlhaeingdonaeaaGreat.V
set_option linter.all false
namespace Go.Proofs.YtlhaeingdonaeaaGreat.V
open Go Go.VM Go.Proofs
variable {frz:Nat} {H:Qd} {v:Value} {w h:Int} {b:List Int} {root:Int}
theorem Qfj (o:Qx.Ow H v (w,h,b)):wp (Qh C frz 180 [Qx.val v (w,h,b)] H) (Xr Qi H (St w h b) (V3 w h b)):=Qel w h v b o.1.rd.isI o.2
theorem Qcr (o:Qx.Ow H v (w,h,b)):wp (Qh C frz 120 [Qx.val v (w,h,b)] H) (Xr Qi H (St w h b) (V3 w h b)):=Qde w h v b o.1.rd.isI o.2
end Go.Proofs.YtlhaeingdonaeaaGreat.V
set_option linter.all false
namespace Go.Proofs.YtlhaeingdonaeaaGreat.V
open Go Go.VM Go.Proofs
set_option maxRecDepth 10000
variable {frz:Nat} {H:Qd}
def F8 (b:List Int) (c:Int):List Int:=Cv (b++[c])
def Vv (w h:Int) (b:List Int) (c:Int):Prop:=Zo w h b∧has w h b c
instance (w h:Int) (b:List Int) (c:Int):Decidable (Vv w h b c):=inferInstanceAs (Decidable (_∧_))
def W3 (w h:Int) (b:List Int) (c:Int):List Int:=if Vv w h b c then F8 b c else b
theorem Qf1 {b:List Int} {c:Int} (hb:b.Pairwise (· < ·)) {k:Nat} (hk:k≤b.length) (h1:∀j,j<k→b.getD j 0<c) (h2:k<b.length→c≤b.getD k 0):b.take k++[c]++b.drop k=F8 b c:=by
 have hs:b.Pairwise (·≤·):=hb.imp (fun h=>Int.le_of_lt h)
 have g:∀{i:Nat} (hi:i<b.length),b.getD i 0=b[i]:=fun hi=>by simp [List.getD_eq_getElem?_getD,hi]
 refine Cj ?_ (Lp _) ?_
 ·rw [List.append_assoc,List.pairwise_append]
  refine ⟨hs.sublist (List.take_sublist _ _),?_,fun x hx y hy=>?_⟩
  ·rw [List.singleton_append,List.pairwise_cons]
   refine ⟨fun y hy=>?_,hs.sublist (List.drop_sublist _ _)⟩
   obtain ⟨i,hi,rfl⟩:=List.mem_iff_getElem.1 hy
   rw [List.getElem_drop]
   simp at hi
   have h3:=h2 (by omega)
   rw [g (by omega)] at h3
   by_cases hi0:i=0
   ·subst hi0;exact h3
   ·have:=List.pairwise_iff_getElem.1 hs k (k+i) (by omega) (by omega) (by omega);omega
  ·obtain ⟨i,hi,rfl⟩:=List.mem_iff_getElem.1 hx
   simp at hi
   rw [List.getElem_take]
   have h3:=h1 i (by omega)
   rw [g (by omega)] at h3
   simp at hy
   rcases hy with rfl|hy
   ·omega
   ·obtain ⟨j,hj,rfl⟩:=List.mem_iff_getElem.1 hy
    simp at hj
    rw [List.getElem_drop]
    exact List.pairwise_iff_getElem.1 hs i (k+j) (by omega) (by omega) (by omega)
 ·refine List.Perm.trans ?_ (Lb _).symm
  have h4:(b.take k++[c]++b.drop k).Perm (b.take k++(b.drop k++[c])):=by
   rw [List.append_assoc]
   exact (List.perm_append_left_iff _).2 (List.perm_append_comm)
  refine h4.trans ?_
  rw [← List.append_assoc,List.take_append_drop]
theorem Qby {w h:Int} {b:List Int} (hm:Zo w h b):b.length≤64:=by
 obtain ⟨_,h2,h3⟩:=(Dn w h b).1 hm
 have hc:=Qz w h
 refine gq h3 (fun c hc'=>?_)
 have:=(h2 c hc').1
 omega
theorem wg (w h:Int) (v:Value) (b:List Int) (c:Int) (hI:W7 H v b) (hl:b.length≤1073741824) :
 wp (Qh C frz 179 [.agg #[.int .i64 w,.int .i64 h,v],.int .i64 c] H) (Xr Qx H (w,h,W3 w h b c) (decide (Vv w h b c))):=by
 rw [Qb (fn:=Tryz.f179) Tryz.func179 rfl (by kernel_rfl) rfl]
 have one:=And.intro hI.one' hI.cells
 simp [one]
 refine Ql (Lc w h v b (hI.app _) hl) ?_
 rintro _ H1 ⟨u,rfl,o1,c1,n1,d1⟩
 have cH:Qp H H1 []:=(Qp.app []).trans c1
 have l0:=cH.1
 have b0:H1[H.length]? = some ⟨[.int .i64 w,.int .i64 h,v],0,42⟩:=Qa (by simp) c1 (by simp)
 have b1:H1[H.length+1]? = some ⟨[.int .i64 0,.int .i64 0,.slice none 0 0],0,42⟩:=Qa (by simp) c1 (by simp)
 have l1:=Wj b1
 have hI1:=((hI.rd).chg cH (by simp)).isI
 have ob:Ow Fl.int 3 H1 u b:=o1.1
 have Pp:=And.intro ob.rd.one' ob.rd.cells
 have n1':∀i∈VM.ids u,H.length+2≤i:=fun i hi=>by have:=n1 i hi;simp at this;omega
 have lu:=o1.1.lt
 simp [W5,one,Pp,VM.look,b0,b1,Qj b0,Qj b1,Si _ _ _ _ _ (hI1.app _) hl,-Bool.decide_and]
 by_cases hok:Vv w h b c
 ·have hok':Zo w h b∧has w h b c:=hok
  simp [hok',one,Pp,VM.look,b0,b1,Qj b0,Qj b1,l0,Nat.le_add_right_of_le l0]
  have hlb:b.length≤1000:=by have:=Qby hok.1;omega
  obtain ⟨u',H2,hap,o2,c2,n2⟩:=(ob.app (L:=[⟨[.int .i64 w,.int .i64 h,u],0,42⟩])).push (P:=Tryz.prog) (frz:=H.length) (ty:=24) (a:=c) (by simp) rfl (by omega) (fun i hi=>by have:=n1' i hi;omega)
  simp at hap n2
  have q2:H2[H1.length]? = some ⟨[.int .i64 w,.int .i64 h,u],0,42⟩:=Qa (by simp) c2 (fun hh=>by have:=lu _ hh;omega)
  have q1:H2[H.length+1]? = some ⟨[.int .i64 0,.int .i64 0,.slice none 0 0],0,42⟩:=Qa (Qj b1 _) c2 (fun hh=>by have:=n1' _ hh;omega)
  have k2:=Wj q2
  have n2':∀i∈VM.ids u',i≠H1.length∧H.length+2≤i:=fun i hi=>by
   rcases n2 i hi with h1|h1
   ·have:=lu i h1;have:=n1' i h1;omega
   ·omega
  have q3:=Qq (r':=⟨[.int .i64 w,.int .i64 h,u'],0,42⟩) q2
  have q4:(H2.set H1.length ⟨[.int .i64 w,.int .i64 h,u'],0,42⟩)[H.length+1]? = some ⟨[.int .i64 0,.int .i64 0,.slice none 0 0],0,42⟩:=Qa q1 (Qn _ _) (by simp;omega)
  have o3:=o2.chg (Qn H1.length ⟨[.int .i64 w,.int .i64 h,u'],0,42⟩) (fun i hi hh=>(n2' i hi).1 (List.mem_singleton.1 hh))
  have Xz:=And.intro o2.rd.one' o2.rd.cells
  have c3:Qp H H2 []:=(cH.trans (Qp.app (L:=[⟨[.int .i64 w,.int .i64 h,u],0,42⟩]) [])).trans' c2 (fun i hi=>.inr (by have:=n1' i hi;omega))
  have c4:Qp H2 (H2.set H1.length ⟨[.int .i64 w,.int .i64 h,u'],0,42⟩) [H1.length]:=Qn _ _
  simp [hap,Xz,VM.look,q2,q3,q4,l0]
  generalize H2.set H1.length ⟨[.int .i64 w,.int .i64 h,u'],0,42⟩=H3 at *
  refine Ql (Qks u' (b++[c]) _ o3 (by simp;omega) (fun i hi=>by have:=n2' i hi;omega) (by have:=c4.1;omega)) ?_
  rintro _ H4 ⟨o5,c5⟩
  have q5:H4[H1.length]? = some ⟨[.int .i64 w,.int .i64 h,u'],0,42⟩:=Qa q3 c5 (fun hh=>by have:=n2' _ hh;omega)
  have q6:H4[H.length+1]? = some ⟨[.int .i64 0,.int .i64 0,.slice none 0 0],0,42⟩:=Qa q4 c5 (fun hh=>by have:=n2' _ hh;omega)
  have q7:=Qq (r':=⟨[.int .i64 w,.int .i64 h,u'],0,42⟩) q6
  simp [Xz,VM.look,q5,q6,q7]
  have cc:Qp H H4 []:=(c3.trans' c4 (fun i hi=>.inr (by simp at hi;omega))).trans' c5 (fun i hi=>.inr (by have:=n2' i hi;omega))
  refine ⟨.agg #[.int .i64 w,.int .i64 h,u'],by simp [hok],u',by simp [W3,hok,F8,W5],⟨o5.chg (Qn (H.length+1) _) (fun i hi hh=>by have:=n2' i hi;have:=List.mem_singleton.1 hh;omega) |> fun hh=>by simpa [W3,hok,F8] using hh,by simp [W3,hok,F8,Bq];omega⟩,cc.trans' (Qn _ _) (fun i hi=>.inr (by simp at hi;omega)),fun i hi=>by have:=n2' i hi;omega,Wa u'⟩
 ·have hok':¬(Zo w h b∧has w h b c):=hok
  have g:=Qq (r':=⟨[.int .i64 w,.int .i64 h,u],0,42⟩) (Qj b1 [⟨[.int .i64 w,.int .i64 h,u],0,42⟩])
  simp [hok',one,Pp,VM.look,b0,b1,Qj b0,Qj b1,l0,Nat.le_add_right_of_le l0,g]
  refine ⟨.agg #[.int .i64 w,.int .i64 h,u],by simp [hok],u,by simp [W3,hok,W5],⟨by simpa [W3,hok] using ob.app.chg (Qn _ _) (fun i hi hh=>by have:=n1' i hi;simp at hh;omega),by simpa [W3,hok] using hl⟩,(cH.trans (Qp.app [])).trans' (Qn _ _) (fun i hi=>.inr (by simp at hi;omega)),fun i hi=>by have:=n1' i hi;omega,Wa u⟩
theorem Du (w h:Int) (v:Value) (b:List Int) (c:Int) (hI:W7 H v b) (hl:b.length≤1073741824) :
 Qh C frz 163 [.agg #[.int .i64 w,.int .i64 h,v],.int .i64 c] H=some (.bool (decide (Zo w h b∧has w h b c)),H):=by
 rw [Qb (fn:=Tryz.f163) Tryz.func163 rfl (by kernel_rfl) rfl]
 simp [hI.one',hI.cells,Jp _ _ _ _ (hI.app _) hl]
 refine Xs _ _ ?_ ?_<;>intro h1<;>simp [h1,hI.one',hI.cells,O2 _ _ _ _ _ (hI.app _) hl,-Bool.decide_and]
theorem D6 (w h:Int) (v:Value) (b:List Int) (c:Int) (hO:Ow Fl.int 3 H v b) (hl:b.length≤1073741824) :
 wp (Qh C frz 119 [.agg #[.int .i64 w,.int .i64 h,v],.int .i64 c] H) (Xr Qx H (w,h,W3 w h b c) (decide (Vv w h b c))):=by
 rw [Qb (fn:=Tryz.f119) Tryz.func119 rfl (by kernel_rfl) rfl]
 have hI:=hO.rd.isI
 have one:=And.intro hI.one' hI.cells
 simp [one]
 refine Ql (J9 w h v b (hI.app _) hl) ?_
 rintro _ H1 ⟨u,rfl,o1,c1,n1,d1⟩
 have cH:Qp H H1 []:=(Qp.app []).trans c1
 have l0:=cH.1
 have b0:H1[H.length]? = some ⟨[.int .i64 w,.int .i64 h,v],0,42⟩:=Qa (by simp) c1 (by simp)
 have b1:H1[H.length+1]? = some ⟨[.int .i64 0,.int .i64 0,.slice none 0 0],0,42⟩:=Qa (by simp) c1 (by simp)
 have l1:=Wj b1
 have hI1:=((hI.rd).chg cH (by simp)).isI
 have ob:Ow Fl.int 3 H1 u b:=o1.1
 have Pp:=And.intro ob.rd.one' ob.rd.cells
 have n1':∀i∈VM.ids u,H.length+2≤i:=fun i hi=>by have:=n1 i hi;simp at this;omega
 have lu:=o1.1.lt
 simp [W5,one,Pp,VM.look,b0,b1,Qj b0,Qj b1,Du _ _ _ _ _ (hI1.app _) hl,-Bool.decide_and]
 by_cases hok:Vv w h b c
 ·have hok':Zo w h b∧has w h b c:=hok
  simp [hok',one,Pp,VM.look,b0,b1,Qj b0,Qj b1,l0,Nat.le_add_right_of_le l0]
  have hlb:b.length≤1000:=by have:=Qby hok.1;omega
  have pw:=((Dn w h b).1 hok.1).2.2
  clear hI1 o1
  refine Qdz (F:=?F) (k:=?k) (o:=?o) (Q:=?Q) (fun t H'=>∃(i:Nat) (u:Value),i≤b.length∧(∀j,j<i→b.getD j 0<c)∧(i<b.length→c≤b.getD i 0)∧t 1=.int .i64 c∧t 2=.pointer (some ⟨H.length,0,some 0⟩)∧t 4=.pointer (some ⟨H.length+1,0,some 0⟩)∧t 6=.pointer (some ⟨H1.length,0,some 0⟩)∧t 7=.int .i64 i∧
   H'[H.length]? = some ⟨[.int .i64 w,.int .i64 h,v],0,42⟩∧H'[H.length+1]? = some ⟨[.int .i64 0,.int .i64 0,.slice none 0 0],0,42⟩∧H'[H1.length]? = some ⟨[.int .i64 w,.int .i64 h,u],0,42⟩∧
   Ow Fl.int 3 H' u (b.take i)∧(∀i∈VM.ids u,i≠H1.length∧H.length+2≤i)∧Qp H H' []) ?main ?rest
  case main=>
   intro rest
   refine Qw (fun n t H'=>∃(i:Nat) (u:Value),n=b.length-i∧i≤b.length∧(∀j,j<i→b.getD j 0<c)∧t 1=.int .i64 c∧t 2=.pointer (some ⟨H.length,0,some 0⟩)∧t 4=.pointer (some ⟨H.length+1,0,some 0⟩)∧t 6=.pointer (some ⟨H1.length,0,some 0⟩)∧t 7=.int .i64 i∧
    H'[H.length]? = some ⟨[.int .i64 w,.int .i64 h,v],0,42⟩∧H'[H.length+1]? = some ⟨[.int .i64 0,.int .i64 0,.slice none 0 0],0,42⟩∧H'[H1.length]? = some ⟨[.int .i64 w,.int .i64 h,u],0,42⟩∧
    Ow Fl.int 3 H' u (b.take i)∧(∀i∈VM.ids u,i≠H1.length∧H.length+2≤i)∧Qp H H' []) ?_ (n:=b.length)
    ⟨0,.slice (some ⟨H1.length+1,0,some 0⟩) 0 0,rfl,by omega,fun j hj=>by omega,by simp,by simp,by simp,by simp,by simp,Qj b0 _,Qj b1 _,by simp,by simpa using Ow.new (D:=Fl.int) (e:=3) (xs:=[]) (H:=H1) (L:=[⟨[.int .i64 w,.int .i64 h,.slice (some ⟨H1.length+1,0,some 0⟩) 0 0],0,42⟩,⟨[],0,3⟩]) (k:=1) (by simp) rfl rfl rfl,
     fun i hi=>by simp at hi;omega,cH.trans (Qp.app [])⟩
   rintro n t H' ⟨i,u,rfl,hi,hlow,t1,t2,t4,t6,t7,b0,b1,b2,o,nu,ch⟩ ih
   have hI1:=((hI.rd).chg ch (by simp)).isI
   have Pp:=And.intro o.rd.one' o.rd.cells
   have lu:=o.lt
   have k2:=Wj b2
   have l0':=ch.1
   simp [t1,t2,t4,t6,t7,VM.look,b0,hI1.len]
   refine Yd ?_ ?_<;>intro g1
   ·have q1:=hI1.idx (P:=Tryz.prog) (ty:=24) (e:=3) (by simp) (i:=(i:Int)) (by omega) (by omega)
    have r1:=hI1.load (P:=Tryz.prog) (e:=3) (by simp) g1
    simp only [Int.toNat_natCast] at q1
    have r1':Xh Tryz.prog H' 3 (Yi v i)=some (.int .i64 (G b i)):=r1
    simp [t1,t2,t4,t6,t7,VM.look,b0,hI1.len,g1,q1,r1']
    refine Qm ?_ ?_<;>intro g2
    ·simp [t1,t2,t4,t6,t7]
     rw [Qv (h:=by kernel_rfl)]
     obtain ⟨u',H2,hap,o2,c2,n2⟩:=o.push (P:=Tryz.prog) (frz:=H.length) (ty:=24) (a:=G b i) (by simp) rfl (by simp;omega) (fun i hi=>by have:=nu i hi;omega)
     simp only [Fl.int_f] at hap
     have p1:H2[H1.length]? = some ⟨[.int .i64 w,.int .i64 h,u],0,42⟩:=Qa b2 c2 (fun hh=>(nu _ hh).1 rfl)
     have p2:=Qq (r':=⟨[.int .i64 w,.int .i64 h,u'],0,42⟩) p1
     have nu':∀i∈VM.ids u',i≠H1.length∧H.length+2≤i:=fun i hi=>by
      rcases n2 i hi with h1|h1
      ·exact nu i h1
      ·omega
     have Wi:=And.intro o2.rd.one' o2.rd.cells
     have l2:=c2.1
     have ne1:H1.length≠H.length:=by omega
     have ne2:H1.length≠H.length+1:=by omega
     simp [t1,t2,t4,t6,t7,VM.look,b0,b2,q1,r1',Pp,hI1.one',hI1.cells,hap,p1,Wi,l0]
     refine ih (b.length-(i+1)) _ _ ⟨i+1,u',rfl,by omega,fun j hj=>?_,by simp [t1],by simp [t2],by simp [t4],by simp [t6],?_,?_,?_,p2,?_,nu',?_⟩ (by omega)
     ·by_cases hji:j=i
      ·subst hji;exact g2
      ·exact hlow j (by omega)
     ·simp;rw [Q0 (by omega) (by omega)]
     ·exact Qa (Qa b0 c2 (fun hh=>by have:=nu _ hh;omega)) (Qn _ _) (by simp;omega)
     ·exact Qa (Qa b1 c2 (fun hh=>by have:=nu _ hh;omega)) (Qn _ _) (by simp;omega)
     ·have:=o2.chg (Qn H1.length ⟨[.int .i64 w,.int .i64 h,u'],0,42⟩) (fun i hi hh=>(nu' i hi).1 (List.mem_singleton.1 hh))
      rw [List.take_succ_eq_append_getElem g1,← Iy g1];exact this
     ·exact (ch.trans' c2 (fun i hi=>.inr (by have:=nu i hi;omega))).trans' (Qn _ _) (fun i hi=>.inr (by simp at hi;omega))
    ·simp [t1,t2,t4,t6,t7,-Iw]
     refine rest _ _ ?_
     exact ⟨i,u,hi,hlow,fun _=>by have:¬b.getD i 0<c:=g2;omega,by simp [t1],by simp [t2],by simp [t4],by simp [t6],by simp [t7],b0,b1,b2,o,nu,ch⟩
   ·simp [t1,t2,t4,t6,t7,g1,-Iw]
    refine rest _ _ ?_
    exact ⟨i,u,hi,hlow,fun hh=>absurd hh g1,by simp [t1],by simp [t2],by simp [t4],by simp [t6],by simp [t7],b0,b1,b2,o,nu,ch⟩
  case rest=>
   rintro t H' ⟨i,u,hi,hlow,hhi,t1,t2,t4,t6,t7,b0,b1,b2,o,nu,ch⟩
   have hI1:=((hI.rd).chg ch (by simp)).isI
   have Pp:=And.intro o.rd.one' o.rd.cells
   have hlt:(b.take i).length=i:=by simp;omega
   have l0':=ch.1
   have hmin:min i b.length=i:=Nat.min_eq_left hi
   have k2:=Wj b2
   obtain ⟨u',H2,hap,o2,c2,n2⟩:=o.push (P:=Tryz.prog) (frz:=H.length) (ty:=24) (a:=c) (by simp) rfl (by simp;omega) (fun i hi=>by have:=nu i hi;omega)
   simp only [Fl.int_f] at hap
   have p0:H2[H.length]? = some ⟨[.int .i64 w,.int .i64 h,v],0,42⟩:=Qa b0 c2 (fun hh=>by have:=nu _ hh;omega)
   have p1:H2[H1.length]? = some ⟨[.int .i64 w,.int .i64 h,u],0,42⟩:=Qa b2 c2 (fun hh=>(nu _ hh).1 rfl)
   have p3:H2[H.length+1]? = some ⟨[.int .i64 0,.int .i64 0,.slice none 0 0],0,42⟩:=Qa b1 c2 (fun hh=>by have:=nu _ hh;omega)
   have p2:=Qq (r':=⟨[.int .i64 w,.int .i64 h,u'],0,42⟩) p1
   have p4:(H2.set H1.length ⟨[.int .i64 w,.int .i64 h,u'],0,42⟩)[H.length]? = _:=Qa p0 (Qn _ _) (by simp;omega)
   have p5:(H2.set H1.length ⟨[.int .i64 w,.int .i64 h,u'],0,42⟩)[H.length+1]? = _:=Qa p3 (Qn _ _) (by simp;omega)
   have nu':∀i∈VM.ids u',i≠H1.length∧H.length+2≤i:=fun i hi=>by
    rcases n2 i hi with h1|h1
    ·exact nu i h1
    ·omega
   have Wi:=And.intro o2.rd.one' o2.rd.cells
   have c4:Qp H2 (H2.set H1.length ⟨[.int .i64 w,.int .i64 h,u'],0,42⟩) [H1.length]:=Qn _ _
   have ch3:=(ch.trans' c2 (fun i hi=>.inr (by have:=nu i hi;omega))).trans' c4 (fun i hi=>.inr (by simp at hi;omega))
   have o3:=o2.chg c4 (fun i hi hh=>(nu' i hi).1 (List.mem_singleton.1 hh))
   simp [t1,t2,t4,t6,t7,VM.look,b2,Pp,o.rd.len,hmin,hap,p1,Wi,l0]
   rw [Qv (h:=by kernel_rfl)]
   generalize H2.set H1.length ⟨[.int .i64 w,.int .i64 h,u'],0,42⟩=H3 at *
   have hI3:=((hI.rd).chg ch3 (by simp)).isI
   obtain ⟨z,hz,oz,nz⟩:=(hO.chg ch3 (by simp)).slice (P:=Tryz.prog) (ty:=24) (lo:=some (.int .i64 (i:Int))) (hi:=none) (l:=i) (u:=b.length) (by simp) rfl rfl hi (Nat.le_refl _)
   have hbi:(b.drop i).take (b.length-i)=b.drop i:=List.take_of_length_le (by simp)
   rw [hbi] at oz
   obtain ⟨u2,H5,ky,o5,c5,n5⟩:=o3.append (P:=Tryz.prog) (frz:=H.length) (ty:=24) oz.rd (by simp) (Pj _) (by simp;omega) (fun i hi=>by have:=nu' i hi;omega)
   have s1:H5[H1.length]? = some ⟨[.int .i64 w,.int .i64 h,u'],0,42⟩:=Qa p2 c5 (fun hh=>(nu' _ hh).1 rfl)
   have s2:H5[H.length+1]? = some ⟨[.int .i64 0,.int .i64 0,.slice none 0 0],0,42⟩:=Qa p5 c5 (fun hh=>by have:=nu' _ hh;omega)
   have s3:=Qq (r':=⟨[.int .i64 w,.int .i64 h,u2],0,42⟩) s1
   have s4:(H5.set H1.length ⟨[.int .i64 w,.int .i64 h,u2],0,42⟩)[H.length+1]? = _:=Qa s2 (Qn _ _) (by simp;omega)
   have k3:=Wj p2
   have nu2:∀i∈VM.ids u2,i≠H1.length∧H.length+2≤i:=fun i hi=>by
    rcases n5 i hi with h1|h1
    ·exact nu' i h1
    ·have:=Wj p5;omega
   have Zw:=And.intro o5.rd.one' o5.rd.cells
   have c6:Qp H5 (H5.set H1.length ⟨[.int .i64 w,.int .i64 h,u2],0,42⟩) [H1.length]:=Qn _ _
   have ch6:=(ch3.trans' c5 (fun i hi=>.inr (by have:=nu' i hi;omega))).trans' c6 (fun i hi=>.inr (by simp at hi;omega))
   have o6:=o5.chg c6 (fun i hi hh=>(nu2 i hi).1 (List.mem_singleton.1 hh))
   have s5:=Qq (r':=⟨[.int .i64 w,.int .i64 h,u2],0,42⟩) s4
   simp [t1,t2,t4,t6,t7,VM.look,one,Wi,p2,p4,p5,l0,hz,ky,s1,s2,s3,s4,Zw]
   generalize H5.set H1.length ⟨[.int .i64 w,.int .i64 h,u2],0,42⟩=H6 at *
   simp [VM.look,s4,s5]
   have heq:b.take i++[c]++b.drop i=F8 b c:=Qf1 pw hi hlow hhi
   rw [heq] at o6
   refine ⟨.agg #[.int .i64 w,.int .i64 h,u2],by simp [hok],u2,by simp [W3,hok,W5],⟨?_,by simp [W3,hok,F8,Bq];omega⟩,ch6.trans' (Qn _ _) (fun i hi=>.inr (by simp at hi;omega)),fun i hi=>by have:=nu2 i hi;omega,Wa u2⟩
   have:=o6.chg (Qn (H.length+1) ⟨[.int .i64 w,.int .i64 h,u2],0,42⟩) (fun i hi hh=>by have:=nu2 i hi;have:=List.mem_singleton.1 hh;omega)
   simpa [W3,hok] using this
 ·have hok':¬(Zo w h b∧has w h b c):=hok
  have g:=Qq (r':=⟨[.int .i64 w,.int .i64 h,u],0,42⟩) (Qj b1 [⟨[.int .i64 w,.int .i64 h,u],0,42⟩])
  simp [hok',one,Pp,VM.look,b0,b1,Qj b0,Qj b1,l0,Nat.le_add_right_of_le l0,g]
  refine ⟨.agg #[.int .i64 w,.int .i64 h,u],by simp [hok],u,by simp [W3,hok,W5],⟨by simpa [W3,hok] using ob.app.chg (Qn _ _) (fun i hi hh=>by have:=n1' i hi;simp at hh;omega),by simpa [W3,hok] using hl⟩,(cH.trans (Qp.app [])).trans' (Qn _ _) (fun i hi=>.inr (by simp at hi;omega)),fun i hi=>by have:=n1' i hi;omega,Wa u⟩
theorem Ay {v:Value} {w h:Int} {b:List Int} {c:Int} (o:Qx.Ow H v (w,h,b)):wp (Qh C frz 179 [Qx.val v (w,h,b),.int .i64 c] H) (Xr Qx H (w,h,W3 w h b c) (decide (Vv w h b c))):=wg w h v b c o.1.rd.isI o.2
theorem Cg {v:Value} {w h:Int} {b:List Int} {c:Int} (o:Qx.Ow H v (w,h,b)):wp (Qh C frz 119 [Qx.val v (w,h,b),.int .i64 c] H) (Xr Qx H (w,h,W3 w h b c) (decide (Vv w h b c))):=D6 w h v b c o.1 o.2
end Go.Proofs.YtlhaeingdonaeaaGreat.V
