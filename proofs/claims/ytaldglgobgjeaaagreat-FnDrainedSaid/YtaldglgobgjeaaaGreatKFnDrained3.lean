/- Texts of a proof, joined. -/
import Derived.Test.YtaldglgobgjeaaaGreatKM0
import Derived.Test.YtaldglgobgjeaaaGreatKM1
import Derived.Test.YtaldglgobgjeaaaGreatKFnDrained0
import Derived.Test.YtaldglgobgjeaaaGreatKFnDrained1
import Derived.Test.YtaldglgobgjeaaaGreatKFnDrained2
set_option linter.all false
namespace Go.Proofs.YtaldglgobgjeaaaGreat.V
open Go Go.VM Go.Proofs
set_option maxRecDepth 10000
variable {frz:Nat} {H:Heap}
def acts (a:ChipD) (k p q r s:Int):Prop:=chipOk a∧actOk k p q r s
instance (a:ChipD) (k p q r s:Int):Decidable (acts a k p q r s):=inferInstanceAs (Decidable (_∧_))
noncomputable def doAct (a:ChipD) (k p q r s:Int):ChipD×Int:=if acts a k p q r s then actN a k p q r s else (a,-1)
def MadeC (H:Heap) (y:ChipD) (k:Int) (r:Value) (H':Heap):Prop:=∃u,r=.tuple #[u,.int .i64 k]∧dChip.Made H y u H'
theorem madeC {K:Heap} {n:ChipV} {y z:ChipD} {k k':Int} {r:Row} (o:dChip.Ow K n y) (c:Chg H K []) (m:∀i∈dChip.ids n,H.length+3≤i) (d:(dChip.ids n).Nodup) (e1:z=y) (e2:k'=k) :
 MadeC H z k' (.tuple #[dChip.val n y,.int .i64 k]) (K.set (H.length+2) r):=by
 subst e1 e2
 exact ⟨dChip.val n z,rfl,n,rfl,Dt.chg (T:=dChip) o (Qg _ _) (fun i hi hh=>by have:=m i hi;simp at hh;omega),c.trans' (Qg _ _) (fun i hi=>.inr (by simp at hi;omega)),fun i hi=>by have:=m i hi;omega,d⟩
theorem Qbp {v:ChipV} {a:ChipD} {k p q r s:Int} (o:dChip.Ow H v a) (h9:allL 66000000 a.1.2.2.2.2.2.2.1) :
 wp (vcall C frz 50 [dChip.val v a,.agg #[.int .i64 k,.int .i64 p,.int .i64 q,.int .i64 r,.int .i64 s]] H) (MadeC H (doAct a k p q r s).1 (doAct a k p q r s).2):=by
 have oneA:=Qy o
 have ones:=oneA.1
 have one2:=oneA.2
 have ecopy:=fun K (c:Chg H K [])=>Uk (frz:=H.length) (H:=K) (v:=v) (a:=a) (Dt.chg (T:=dChip) o c (by simp))
 have ck:=fun F K (c:Chg H K [])=>Z2 (frz:=F) (H:=K) (v:=v) (a:=a) (Dt.chg (T:=dChip) o c (by simp))
 have ao:=fun F H=>Qau (frz:=F) (H:=H) k p q r s
 simp only [Qo] at ecopy ck ⊢
 rw [Qb (fn:=Tryz.f50) Tryz.func50 rfl (by kernel_rfl) rfl]
 obtain ⟨G,hG⟩:∃G,G=H++[⟨chipCells v a,0,51⟩,⟨[.int .i64 k,.int .i64 p,.int .i64 q,.int .i64 r,.int .i64 s],0,56⟩,⟨zChip,0,51⟩]:=⟨_,rfl⟩
 have cG:Chg H G []:=by rw [hG];exact Chg.app _
 have b0:G[H.length]? = some ⟨chipCells v a,0,51⟩:=by rw [hG];simp
 have bA:G[H.length+1]? = some ⟨[.int .i64 k,.int .i64 p,.int .i64 q,.int .i64 r,.int .i64 s],0,56⟩:=by rw [hG];simp
 have bR:G[H.length+2]? = some ⟨zChip,0,51⟩:=by rw [hG];simp
 have lG:G.length=H.length+3:=by rw [hG];simp
 have hGs:=hG.symm
 unfold chipCells netCells zChip at hGs
 simp only [List.cons_append,List.nil_append] at hGs
 simp [ones,one2]
 rw [hGs]
 clear hG hGs
 have b0':=b0
 unfold chipCells netCells at b0'
 simp only [List.cons_append,List.nil_append] at b0'
 try simp [VM.look,b0',ones,one2]
 refine Qd (ecopy G cG) ?_
 rintro _ K ⟨n,rfl,on,cn,mn,dn⟩
 have cK:Chg H K []:=cG.trans cn
 have b0:=Qa b0 cn (by simp)
 have bA:=Qa bA cn (by simp)
 have bR:=Qa bR cn (by simp)
 have oneN:=Qy on
 have qn:=oneN.1
 have qn2:=oneN.2
 have lK:=cn.1
 have hFK:H.length≤K.length:=by omega
 obtain ⟨K2,hK2⟩:∃K2,K2=K++[⟨chipCells n a,0,51⟩]:=⟨_,rfl⟩
 have c12:Chg K K2 []:=by rw [hK2];exact Chg.app _
 have cK2:=cK.trans c12
 have l2:K2.length=K.length+1:=by rw [hK2];simp
 have b0:=Qa b0 c12 (by simp)
 have bA:=Qa bA c12 (by simp)
 have bR:=Qa bR c12 (by simp)
 have bC:K2[K.length]? = some ⟨chipCells n a,0,51⟩:=by rw [hK2];simp
 have on2:=Dt.chg (T:=dChip) on c12 (by simp)
 have hF:H.length≤H.length+2:=by omega
 have mn':∀i∈dChip.ids n,H.length+3≤i:=fun i hi=>by have:=mn i hi;omega
 have ltn:∀i∈dChip.ids n,i<K.length:=fun i hi=>dChip.lt on i hi
 have hKs:=hK2.symm
 unfold chipCells netCells at hKs
 simp only [List.cons_append,List.nil_append] at hKs
 simp [Qo,VM.look,qn,qn2,hFK]
 rw [hKs]
 clear hK2 hKs
 have ck':=fun F=>ck F K2 cK2
 have b0':=b0
 have bC':=bC
 unfold chipCells netCells at b0' bC'
 simp only [List.cons_append,List.nil_append] at b0' bC'
 have gR:=Qi (r':=⟨chipCells n a,0,51⟩) bR
 have bad:¬acts a k p q r s→MadeC H (doAct a k p q r s).1 (doAct a k p q r s).2 (.tuple #[dChip.val n a,.int .i64 (-1)]) (K2.set (H.length+2) ⟨chipCells n a,0,51⟩):=fun hb=>by
  have e:doAct a k p q r s=(a,-1):=if_neg hb
  rw [e]
  exact madeC on2 cK2 mn' dn rfl rfl
 have bR':=bR
 unfold zChip at bR'
 unfold chipCells netCells at gR bad
 simp only [List.cons_append,List.nil_append] at gR bad
 by_cases g0:chipOk a
 rotate_left
 ·have hM:=bad (fun h=>g0 h.1)
  simp [VM.look,b0',ones,one2,ck',g0,bC',qn,qn2,bR',gR,hF]
  simpa [Qo] using hM
 by_cases g1:actOk k p q r s
 rotate_left
 ·have hM:=bad (fun h=>g1 h.2)
  simp [VM.look,b0',ones,one2,ck',g0,bA,ao,g1,bC',qn,qn2,bR',gR,hF]
  simpa [Qo] using hM
 have e:doAct a k p q r s=actN a k p q r s:=if_pos ⟨g0,g1⟩
 have ac:=Qhh (frz:=H.length) (id:=K.length) bC on2 dn (fun hh=>by have:=ltn _ hh;omega) hFK (by omega) g0 g1 h9
 rw [e]
 simp [VM.look,b0',ones,one2,ck',g0,bA,ao,g1]
 refine Qd ac ?_
 rintro _ J ⟨rfl,w,bJ,ow,dw,mw,cw⟩
 obtain ⟨y,hy⟩:∃y,y=(actN a k p q r s).1:=⟨_,rfl⟩
 obtain ⟨m,hm⟩:∃m,m=(actN a k p q r s).2:=⟨_,rfl⟩
 rw [← hy] at bJ ow ⊢
 rw [← hm]
 have onw:=Qy ow
 have bRJ:=Qa bR cw (by simp;omega)
 have gJ:=Qi (r':=⟨chipCells w y,0,51⟩) bRJ
 have hM:=madeC (H:=H) (z:=y) (k:=m) (r:=⟨chipCells w y,0,51⟩) ow (cK2.trans' cw (fun i hi=>.inr (by simp at hi;omega))) (fun i hi=>by
  rcases mw i hi with h|h
  ·exact mn' i h
  ·omega) dw rfl rfl
 unfold zChip at bRJ
 unfold chipCells netCells at bJ gJ hM
 simp only [List.cons_append,List.nil_append] at bJ gJ hM
 simp [VM.look,bJ,bRJ,gJ,onw,hF]
 simpa [Qo] using hM
theorem Cr {x:NetD} (h:netOk x) {L:Nat} (hL:1000≤L):allL L x.2.2.1:=fun l hl=>by
 obtain ⟨i,hi,rfl⟩:=List.getElem_of_mem hl
 have:=(h.2.2.1 i hi).1
 rw [V2 hi] at this
 omega
theorem Fp {x:NetD} (h:netOk x) {L:Nat} (hL:1000≤L) (h9:allL L x.2.2.2.2.2.2.1) {k:Nat} (hk:k≤400):allL (L+38400) (runN x k).2.2.2.2.2.2.1:=
 Wn (Md (Cr h hL) h9 k).2 (by omega)
theorem X0 {α:Type} {D:Fl α} {e:TypeId} {v:Value} {xs:List α} (h:Ow D e H v xs):live1 H v:=by
 rcases h with ⟨rfl,_⟩|⟨id,off,r,rfl,h2,_⟩
 ·trivial
 ·show VM.look H ⟨id,off,some r.gen⟩≠none
  simp [VM.look,h2]
theorem W2 {v:ChipV} {x:ChipD} (o:dChip.Ow H v x):VM.live H (.agg #[.int .i64 x.1.1.1,.int .i64 x.1.1.2.1,v.1.1,v.1.2.1.1,v.1.2.1.2,v.1.2.2.1.1,v.1.2.2.2.1,v.1.2.2.2.2.1,v.1.2.2.2.2.2.1.1,v.1.2.2.2.2.2.2.1.1,.int .i64 x.1.2.2.2.2.2.2.2,v.2]):=fun c hc=>by
 obtain ⟨⟨o1,o2,o3,o4,o5,o6,o7,_⟩,o8⟩:=o
 have a1:=X0 o1.1
 have a2:=X0 o2.1.1
 have a3:=X0 o2.2.1
 have a4:=X0 o3.1.1
 have a5:=X0 o4.1
 have a6:=X0 o5.1
 have a7:=X0 o6.1.1
 have a8:=X0 o7.1.1
 have a9:=X0 o8.1
 simp only [List.mem_cons,List.not_mem_nil,or_false] at hc
 rcases hc with rfl|rfl|rfl|rfl|rfl|rfl|rfl|rfl|rfl|rfl|rfl|rfl<;>first|trivial|assumption
theorem wo {a:ChipD} {k p q r s:Int} {L:Nat} (hL:1000≤L) (h:allL L a.1.2.2.2.2.2.2.1):allL (L+38400) (doAct a k p q r s).1.1.2.2.2.2.2.2.1:=by
 have h0:allL (L+38400) a.1.2.2.2.2.2.2.1:=Wn h (by omega)
 unfold doAct
 by_cases g:acts a k p q r s
 ·rw [if_pos g]
  have nk:netOk a.1:=g.1.1
  unfold actN
  split
  ·unfold chipSend sendNet withSrc;split<;>exact h0
  ·split
   ·unfold chipRun runNet
    split
    ·show allL (L+38400) (if runs a.1 p then runN a.1 p.toNat else a.1).2.2.2.2.2.2.1
     split
     ·rename_i hr;exact Fp nk hL h (by have:=hr.2.1;unfold inR at this;omega)
     ·exact h0
    ·exact h0
   ·split
    ·show allL (L+38400) (idled a.1).2.2.2.2.2.2.1
     unfold idled
     split
     ·rcases Ss a.1 with e|⟨_,e,_⟩
      ·omega
      ·exact Fp nk hL h (by omega)
     ·exact h0
    ·split
     ·show allL (L+38400) (brk a.1 p).2.2.2.2.2.2.1
      unfold brk;split<;>exact h0
     ·show allL (L+38400) (ruledN a.1 p q).2.2.2.2.2.2.1
      unfold ruledN
      split
      ·exact h0
      ·unfold repl;split<;>exact h0
 ·rw [if_neg g];exact h0
noncomputable def actF (z:ChipD×List Int) (c:PkD):ChipD×List Int:=((doAct z.1 c.1 c.2.1 c.2.2.1 c.2.2.2.1 c.2.2.2.2).1,z.2++[(doAct z.1 c.1 c.2.1 c.2.2.1 c.2.2.2.1 c.2.2.2.2).2])
def canAct (a:ChipD) (l:List PkD):Prop:=chipOk a∧l.length≤30
instance (a:ChipD) (l:List PkD):Decidable (canAct a l):=inferInstanceAs (Decidable (_∧_))
noncomputable def runActs (a:ChipD) (l:List PkD):ChipD×List Int:=if canAct a l then l.foldl actF (a,[]) else (a,[])
noncomputable def actsAt (a:ChipD) (l:List PkD) (i:Nat):ChipD×List Int:=(l.take i).foldl actF (a,[])
theorem Uy {a:ChipD} {l:List PkD} {i:Nat} (h:i<l.length):actsAt a l (i+1)=actF (actsAt a l i) l[i]:=by
 unfold actsAt
 rw [List.take_succ_eq_append_getElem h,List.foldl_append];rfl
theorem D0 {a:ChipD} {l:List PkD} (h:canAct a l):actsAt a l l.length=runActs a l:=by
 unfold actsAt runActs
 rw [if_pos h,List.take_length]
theorem Tu (a:ChipD) (l:List PkD):∀i,i≤l.length→(actsAt a l i).2.length=i
 | 0,_=>rfl
 | i+1,h=>by
  rw [Uy (by omega)]
  show ((actsAt a l i).2++[_]).length=_
  rw [List.length_append,Tu a l i (by omega)];rfl
theorem P7 {a:ChipD} (l:List PkD) {L:Nat} (hL:1000≤L) (h:allL L a.1.2.2.2.2.2.2.1):∀i,i≤l.length→allL (L+38400*i) (actsAt a l i).1.1.2.2.2.2.2.2.1
 | 0,_=>h
 | i+1,hi=>by
  rw [Uy (by omega)]
  exact Wn (wo (by omega) (P7 l hL h i (by omega))) (by omega)
abbrev dAct:Dt Value (List PkD):=dFlat pkF 56 1073741824
def MadeR (H:Heap) (y:ChipD×List Int) (r:Value) (H':Heap):Prop:=∃(vc:ChipV) (vi:Value),r=.tuple #[dChip.val vc y.1,vi]∧dChip.Ow H' vc y.1∧dIntS.Ow H' vi y.2∧Chg H H' []∧(∀i∈dChip.ids vc,H.length≤i)∧(dChip.ids vc).Nodup∧(∀i∈dIntS.ids vi,H.length≤i)∧(dIntS.ids vi).Nodup∧∀i∈dChip.ids vc,i∉dIntS.ids vi
theorem yz {lv:Value} {l:List PkD} {i:Nat} (h:Rd pkF H lv l) (hi:i<l.length) (hl:l.length≤1073741824) :
 vindexAddr Tryz.prog H 52 lv (.int .i64 (i:Int))=some (elp lv (i*5))∧vload Tryz.prog H 56 (elp lv (i*5))=some (.agg #[.int .i64 l[i].1,.int .i64 l[i].2.1,.int .i64 l[i].2.2.1,.int .i64 l[i].2.2.2.1,.int .i64 l[i].2.2.2.2]):=by
 have q1:=h.idx (P:=Tryz.prog) (ty:=52) (e:=56) (by simp) (i:=(i:Int)) (by omega) (by omega)
 have q2:=h.load (P:=Tryz.prog) (e:=56) (by simp) hi
 simp only [Int.toNat_natCast,N6] at q1 q2
 exact ⟨q1,by simpa [Zg] using q2⟩
theorem madeR {K:Heap} {n:ChipV} {y z:ChipD×List Int} {vi:Value} {r:Row} (o:dChip.Ow K n y.1) (oi:dIntS.Ow K vi y.2) (c:Chg H K []) (m:∀i∈dChip.ids n,H.length+2≤i) (d:(dChip.ids n).Nodup) (mi:∀i∈dIntS.ids vi,H.length+2≤i)
 (x:∀i∈dChip.ids n,i∉dIntS.ids vi) (e:z=y):MadeR H z (.tuple #[dChip.val n y.1,vi]) (K.set (H.length+1) r):=by
 subst e
 exact ⟨n,vi,rfl,Dt.chg (T:=dChip) o (Qg _ _) (fun i hi hh=>by have:=m i hi;simp at hh;omega),Dt.chg (T:=dIntS) oi (Qg _ _) (fun i hi hh=>by have:=mi i hi;simp at hh;omega),c.trans' (Qg _ _) (fun i hi=>.inr (by simp at hi;omega)),fun i hi=>by have:=m i hi;omega,d,fun i hi=>by have:=mi i hi;omega,Q0 vi,x⟩
theorem yb {v:ChipV} {a:ChipD} {lv:Value} {l:List PkD} (o:dChip.Ow H v a) (ol:dAct.Ow H lv l) (h9:allL 1048576 a.1.2.2.2.2.2.2.1) :
 wp (vcall C frz 19 [dChip.val v a,lv] H) (MadeR H (runActs a l)):=by
 have hr:=ol.1.rd
 have hn:=ol.2
 have oneA:=Qy o
 have ones:=oneA.1
 have one2:=oneA.2
 have ecopy:=fun K (c:Chg H K [])=>Uk (frz:=H.length) (H:=K) (v:=v) (a:=a) (Dt.chg (T:=dChip) o c (by simp))
 have ck:=fun F K (c:Chg H K [])=>Z2 (frz:=F) (H:=K) (v:=v) (a:=a) (Dt.chg (T:=dChip) o c (by simp))
 simp only [Qo] at ecopy ck ⊢
 rw [Qb (fn:=Tryz.f19) Tryz.func19 rfl (by kernel_rfl) rfl]
 obtain ⟨G,hG⟩:∃G,G=H++[⟨chipCells v a,0,51⟩,⟨zChip,0,51⟩]:=⟨_,rfl⟩
 have cG:Chg H G []:=by rw [hG];exact Chg.app _
 have b0:G[H.length]? = some ⟨chipCells v a,0,51⟩:=by rw [hG];simp
 have bR:G[H.length+1]? = some ⟨zChip,0,51⟩:=by rw [hG];simp
 have lG:G.length=H.length+2:=by rw [hG];simp
 have hGs:=hG.symm
 unfold chipCells netCells zChip at hGs
 simp only [List.cons_append,List.nil_append] at hGs
 simp [ones,one2]
 rw [hGs]
 clear hG hGs
 have b0':=b0
 unfold chipCells netCells at b0'
 simp only [List.cons_append,List.nil_append] at b0'
 try simp [VM.look,b0',ones,one2]
 refine Qd (ecopy G cG) ?_
 rintro _ K ⟨n,rfl,on,cn,mn,dn⟩
 have cK:Chg H K []:=cG.trans cn
 have b0:=Qa b0 cn (by simp)
 have bR:=Qa bR cn (by simp)
 have oneN:=Qy on
 have qn:=oneN.1
 have qn2:=oneN.2
 have lK:=cn.1
 have hFK:H.length≤K.length:=by omega
 obtain ⟨K2,hK2⟩:∃K2,K2=K++[⟨[],0,3⟩,⟨chipCells n a,0,51⟩]:=⟨_,rfl⟩
 have c12:Chg K K2 []:=by rw [hK2];exact Chg.app _
 have cK2:=cK.trans c12
 have l2:K2.length=K.length+2:=by rw [hK2];simp
 have b0:=Qa b0 c12 (by simp)
 have bR:=Qa bR c12 (by simp)
 have bC:K2[K.length+1]? = some ⟨chipCells n a,0,51⟩:=by rw [hK2];simp
 have oI:Ow Fl.int 3 K2 (.slice (some ⟨K.length,0,some 0⟩) 0 0) []:=by rw [hK2];exact Ow.new (D:=Fl.int) (xs:=[]) (k:=0) rfl rfl rfl rfl
 have on2:=Dt.chg (T:=dChip) on c12 (by simp)
 have hF:H.length≤H.length+1:=by omega
 have mn':∀i∈dChip.ids n,H.length+2≤i:=fun i hi=>by have:=mn i hi;omega
 have ltn:∀i∈dChip.ids n,i<K.length:=fun i hi=>dChip.lt on i hi
 have hFB:H.length≤K.length+1:=by omega
 have hKs:=hK2.symm
 unfold chipCells netCells at hKs
 simp only [List.cons_append,List.nil_append] at hKs
 simp [Qo,qn,qn2,hFB]
 rw [hKs]
 clear hK2 hKs
 have ck':=fun F=>ck F K2 cK2
 have b0':=b0
 have bC':=bC
 have bR':=bR
 have gR:=Qi (r':=⟨chipCells n a,0,51⟩) bR
 have bad:¬canAct a l→MadeR H (runActs a l) (.tuple #[dChip.val n a,.slice none 0 0]) (K2.set (H.length+1) ⟨chipCells n a,0,51⟩):=fun hb=>
  madeR (y:=(a,[])) on2 ⟨.inl ⟨rfl,rfl⟩,by simp⟩ cK2 mn' dn (by simp [dFlat]) (by simp [dFlat]) (if_neg hb)
 unfold zChip at bR'
 unfold chipCells netCells at b0' bC' gR bad
 simp only [List.cons_append,List.nil_append] at b0' bC' gR bad
 have ll:=fun (J:Heap) (c:Chg H J [])=>(hr.chg c (by simp)).len (P:=Tryz.prog) (ty:=52) (by simp)
 have l2':=ll K2 cK2
 by_cases g0:chipOk a
 rotate_left
 ·have hM:=bad (fun h=>g0 h.1)
  simp [VM.look,b0',ones,one2,ck',g0,bC',qn,qn2,bR',gR,hF]
  simpa [Qo] using hM
 simp [VM.look,b0',ck',g0,l2']
 refine Qc ?_ ?_<;>intro g1
 ·have hM:=bad (fun h=>by have:=h.2;omega)
  simp [VM.look,bC',qn,qn2,bR',gR,hF]
  simpa [Qo] using hM
 have g:canAct a l:=⟨g0,by omega⟩
 simp [l2']
 refine Qh (fun m t H'=>∃(i:Nat) (w:ChipV) (u:Value),m=l.length-i∧i≤l.length∧t 4=.pointer (some ⟨H.length+1,0,some 0⟩)∧t 6=.pointer (some ⟨K.length+1,0,some 0⟩)∧t 7=u∧t 24=lv∧t 25=.int .i64 l.length∧t 26=.int .i64 i∧
  H'[K.length+1]? = some ⟨chipCells w (actsAt a l i).1,0,51⟩∧dChip.Ow H' w (actsAt a l i).1∧(∀j∈dChip.ids w,H.length+2≤j)∧K.length+1∉dChip.ids w∧(dChip.ids w).Nodup∧VM.Ow Fl.int 3 H' u (actsAt a l i).2∧(∀j∈VM.ids u,H.length+2≤j∧j≠K.length+1)∧(∀j∈dChip.ids w,j∉VM.ids u)∧Chg H H' []∧H'[H.length+1]? = some ⟨zChip,0,51⟩) ?_ (n:=l.length)
  ⟨0,n,.slice (some ⟨K.length,0,some 0⟩) 0 0,rfl,by omega,by simp,by simp,by simp,by simp,by simp,by simp,bC,on2,mn',fun hh=>by have:=ltn _ hh;omega,dn,oI,fun j hj=>by simp at hj;omega,fun j hj hh=>by have:=ltn j hj;simp at hh;omega,cK2,bR⟩
 rintro m t J ⟨i,w,u,rfl,hi,t4,t6,t7,t24,t25,t26,bC,ow,mw,nB,dw,ou,mu,xw,cJ,bR⟩ ih
 have lJ:=cJ.1
 have hBJ:=Qs bC
 simp [t26,t25]
 refine Qc ?_ ?_<;>intro h
 rotate_left
 ·have he:i=l.length:=by omega
  subst he
  obtain ⟨y,hy⟩:∃y,y=actsAt a l l.length:=⟨_,rfl⟩
  rw [← hy] at bC ow ou
  have oneW:=Qy ow
  have p1:=oneW.1
  have p2:=oneW.2
  have gR:=Qi (r':=⟨chipCells w y.1,0,51⟩) bR
  have hM:=madeR (r:=⟨chipCells w y.1,0,51⟩) (y:=y) (z:=runActs a l) ow ⟨ou,by rw [hy,Tu a l _ (by omega)];omega⟩ cJ mw dw (fun j hj=>(mu j hj).1) xw (by rw [hy,D0 g])
  unfold zChip at bR
  unfold chipCells netCells at bC gR hM
  simp only [List.cons_append,List.nil_append] at bC gR hM
  simp [t4,t6,t7,VM.look,bC,p1,p2,bR,gR,hF]
  simpa [Qo] using hM
 have hi':i<l.length:=by omega
 obtain ⟨q1,q2⟩:=yz (hr.chg cJ (by simp)) hi' hn
 have has:=Uy (a:=a) hi'
 obtain ⟨c,hc⟩:∃c,c=l[i]:=⟨_,rfl⟩
 rw [← hc] at q2 has
 obtain ⟨z,hz⟩:∃z,z=actsAt a l i:=⟨_,rfl⟩
 have harr:allL 66000000 z.1.1.2.2.2.2.2.2.1:=by rw [hz];exact Wn (P7 l (by omega) h9 i hi) (by omega)
 have hzl:z.2.length=i:=by rw [hz];exact Tu a l i hi
 rw [← hz] at bC ow ou has
 have hFJ:H.length≤J.length:=lJ
 obtain ⟨J1,hJ1⟩:∃J1,J1=J++[⟨[.int .i64 c.1,.int .i64 c.2.1,.int .i64 c.2.2.1,.int .i64 c.2.2.2.1,.int .i64 c.2.2.2.2],0,56⟩]:=⟨_,rfl⟩
 have cJ1:Chg J J1 []:=by rw [hJ1];exact Chg.app _
 have lJ1:J1.length=J.length+1:=by rw [hJ1];simp
 have bA:J1[J.length]? = some ⟨[.int .i64 c.1,.int .i64 c.2.1,.int .i64 c.2.2.1,.int .i64 c.2.2.2.1,.int .i64 c.2.2.2.2],0,56⟩:=by rw [hJ1];simp
 have bC1:=Qa bC cJ1 (by simp)
 have bR1:=Qa bR cJ1 (by simp)
 have ow1:=Dt.chg (T:=dChip) ow cJ1 (by simp)
 have ou1:=ou.chg cJ1 (by simp)
 have hJs:=hJ1.symm
 simp [t24,t26,q1,q2,hFJ]
 rw [hJs]
 clear hJ1 hJs
 have oneW:=Qy ow
 have p1:=oneW.1
 have p2:=oneW.2
 have bC1':=bC1
 unfold chipCells netCells at bC1'
 simp only [List.cons_append,List.nil_append] at bC1'
 have od:=Qbp (frz:=H.length) (k:=c.1) (p:=c.2.1) (q:=c.2.2.1) (r:=c.2.2.2.1) (s:=c.2.2.2.2) ow1 harr
 simp only [Qo] at od
 simp [t6,VM.look,bC1',bA]
 refine Qd od ?_
 rintro _ J2 ⟨_,rfl,w2,rfl,o2,c2,m2,d2⟩
 obtain ⟨y,hy⟩:∃y,y=doAct z.1 c.1 c.2.1 c.2.2.1 c.2.2.2.1 c.2.2.2.2:=⟨_,rfl⟩
 have hnx:actsAt a l (i+1)=(y.1,z.2++[y.2]):=by rw [has,hy];rfl
 rw [← hy] at o2
 have oneY:=Qy o2
 have y1:=oneY.1
 have y2:=oneY.2
 have lJ2:=c2.1
 have bC2:=Qa bC1 c2 (by simp)
 have bR2:=Qa bR1 c2 (by simp)
 have ou2:=ou1.chg c2 (by simp)
 obtain ⟨J3,hJ3⟩:∃J3,J3=J2++[⟨chipCells w2 y.1,0,51⟩]:=⟨_,rfl⟩
 have cJ3:Chg J2 J3 []:=by rw [hJ3];exact Chg.app _
 have lJ3:J3.length=J2.length+1:=by rw [hJ3];simp
 have bY:J3[J2.length]? = some ⟨chipCells w2 y.1,0,51⟩:=by rw [hJ3];simp
 have bC3:=Qa bC2 cJ3 (by simp)
 have bR3:=Qa bR2 cJ3 (by simp)
 have ou3:=ou2.chg cJ3 (by simp)
 have o3:=Dt.chg (T:=dChip) o2 cJ3 (by simp)
 have hFJ2:H.length≤J2.length:=by omega
 have hJs:=hJ3.symm
 unfold chipCells netCells at hJs
 simp only [List.cons_append,List.nil_append] at hJs
 simp [Qo,← hy,y1,y2,hFJ2]
 rw [hJs]
 clear hJ3 hJs
 obtain ⟨u',J4,hap,ou4,c4,n4⟩:=ou3.push (P:=Tryz.prog) (frz:=H.length) (ty:=26) (a:=y.2) (by simp) rfl (by omega) (fun j hj=>by have:=(mu j hj).1;omega)
 simp only [Fl.int_f] at hap
 have ltu:∀j∈VM.ids u,j<J.length:=fun j hj=>ou.lt j hj
 have lJ4:=c4.1
 have bY4:=Qa bY c4 (fun hh=>by have:=ltu _ hh;omega)
 have bC4:=Qa bC3 c4 (fun hh=>(mu _ hh).2 rfl)
 have bR4:=Qa bR3 c4 (fun hh=>by have:=(mu _ hh).1;omega)
 have o4:=Dt.chg (T:=dChip) o3 c4 (fun j hj hh=>by have:=m2 j hj;have:=ltu j hh;omega)
 have bY':=bY
 have bY4':=bY4
 have bC4':=bC4
 have gC:=Qi (r':=⟨chipCells w2 y.1,0,51⟩) bC4
 have cS:Chg J4 (J4.set (K.length+1) ⟨chipCells w2 y.1,0,51⟩) [K.length+1]:=Qg _ _
 obtain ⟨J5,hJ5⟩:∃J5,J5=J4.set (K.length+1) ⟨chipCells w2 y.1,0,51⟩:=⟨_,rfl⟩
 rw [← hJ5] at gC cS
 have o5:=Dt.chg (T:=dChip) o4 cS (fun j hj hh=>by have:=m2 j hj;simp at hh;omega)
 have ou5:=ou4.chg cS (fun j hj hh=>by
  simp at hh;subst hh
  rcases n4 _ hj with h|h
  ·exact (mu _ h).2 rfl
  ·omega)
 have bR5:=Qa bR4 cS (by simp;omega)
 have hJs:=hJ5.symm
 have lv3:=W2 o3
 have lv4:=W2 o4
 have bY3L:=fun L=>Ql bY L
 have lv3L:=fun L=>W2 (Dt.app (T:=dChip) (L:=L) o3)
 unfold chipCells netCells at bY' bY4' bC4' hJs bY3L
 simp only [List.cons_append,List.nil_append] at bY' bY4' bC4' hJs bY3L
 rw [U8 (fl:=([0],[5])) (h:=⟨by kernel_rfl,by kernel_rfl,by kernel_rfl,by kernel_rfl⟩)]
 simp [emps,empOp,empB,-Qp,-Qx,t6,t7,VM.look,bY',bY3L,bY4',bC4',lv3,lv3L,lv4,hap,y1,y2,hFB]
 rw [hJs]
 clear hJ5 hJs
 simp [t26]
 have cH5:Chg H J5 []:=(((((cJ.trans cJ1).trans c2).trans cJ3).trans' c4 (fun j hj=>.inr (by have:=(mu j hj).1;omega))).trans' cS (fun j hj=>.inr (by simp at hj;omega)))
 refine ih (l.length-(i+1)) _ _ ⟨i+1,w2,u',rfl,by omega,by simp [t4],by simp [t6],by simp,by simp [t24],by simp [t25],?_,by rw [hnx];exact gC,by rw [hnx];exact o5,fun j hj=>by have:=m2 j hj;omega,fun hh=>by have:=m2 _ hh;omega,d2,by rw [hnx];exact ou5,fun j hj=>?_,fun j hj hh=>?_,cH5,bR5⟩ (by omega)
 ·simp;rw [w64 (by omega) (by omega)]
 ·rcases n4 j hj with h|h
  ·exact mu j h
  ·omega
 ·have hlt:=dChip.lt o2 j hj
  rcases n4 j hh with h|h
  ·have:=m2 j hj;have:=ltu j h;omega
  ·omega
end Go.Proofs.YtaldglgobgjeaaaGreat.V
set_option linter.all false
namespace Go.Proofs.YtaldglgobgjeaaaGreat.V
open Go Go.VM Go.Proofs
set_option maxRecDepth 10000
variable {frz:Nat} {H:Heap} {r:Nat} {vb:Value} {code:List Int}
theorem jy {N:Nat} (h2:1≤N) (hN:N≤16) (c:Cur H r vb code) (hf:frz≤r):wp (vcall C frz 81 [.pointer (some ⟨r,0,some 0⟩),.int .i64 N] H) (fun u H'=>(∃p:PkD,u=pkV p)∧Chg H H' [r]∧Cur H' r vb code):=by
 have lt:=c.lt
 have vlt:=c.vlt
 rw [Qb (fn:=Tryz.f81) Tryz.func81 rfl (by kernel_rfl) rfl]
 simp
 have bl:=Ws (frz:=frz) (c.app [⟨[.int .i64 0,.int .i64 0,.int .i64 0,.int .i64 0,.int .i64 0],0,56⟩]) hf 8 (by decide) (by decide)
 refine Qd (by simpa using bl) ?_
 rintro _ K ⟨⟨x,rfl,hx⟩,c1,d1⟩
 have cK:Chg H K [r]:=(Chg.app [r]).trans c1
 have b0:K[H.length]? = some ⟨[.int .i64 0,.int .i64 0,.int .i64 0,.int .i64 0,.int .i64 0],0,56⟩:=Qa (by simp) c1 (by simp;omega)
 have hF:frz≤H.length:=by omega
 have ltr:=d1.lt
 have fin:∀(J:Heap) (w:Row),Chg H J [r]→Cur J r vb code→Chg H (J.set H.length w) [r]∧Cur (J.set H.length w) r vb code:=fun J w cJ dJ=>
  ⟨cJ.trans' (Qg _ _) (fun i hi=>.inr (by simp at hi;omega)),dJ.set (by omega) (fun i hi=>by have:=vlt i hi;omega)⟩
 have run:x=0∨x=1∨x=2∨x=3∨x=4∨5≤x:=by omega
 have e9:∀(y:Nat),y<100→∀[Inhabited Unit],IntKind.i64.wrap (1+(y:Int))=1+(y:Int):=fun y hy _=>w64 (by omega) (by omega)
 rcases run with rfl|rfl|rfl|rfl|rfl|hx5
 ·simp
  have bl:=Ws (frz:=frz) d1 hf 9 (by decide) (by decide)
  refine Qd (by simpa using bl) ?_
  rintro _ K2 ⟨⟨y,rfl,hy⟩,c2,d2⟩
  have b2:=Qa b0 c2 (by simp;omega)
  have gP:=fun cs=>Qi (r':=⟨cs,0,56⟩) b2
  have f:=fun w=>fin K2 w (cK.trans c2) d2
  simp [VM.look,b2,e9 y (by omega),hF,gP]
  exact ⟨⟨_,_,_,_,_,rfl⟩,f _⟩
 ·simp
  have bl:=Ws (frz:=frz) d1 hf 9 (by decide) (by decide)
  refine Qd (by simpa using bl) ?_
  rintro _ K2 ⟨⟨y,rfl,hy⟩,c2,d2⟩
  have b2:=Qa b0 c2 (by simp;omega)
  have gP:=fun cs=>Qi (r':=⟨cs,0,56⟩) b2
  have f:=fun w=>fin K2 w (cK.trans c2) d2
  simp [VM.look,b2,e9 y (by omega),hF,gP]
  exact ⟨⟨_,_,_,_,_,rfl⟩,f _⟩
 ·have gP:=fun cs=>Qi (r':=⟨cs,0,56⟩) b0
  have f:=fun w=>fin K w cK d1
  simp [VM.look,b0,hF,gP]
  exact ⟨⟨_,_,_,_,_,rfl⟩,f _⟩
 ·have e4:∀[Inhabited Unit],IntKind.i64.wrap (4*(N:Int))=((4*N:Nat):Int):=by intro _;rw [w64 (by omega) (by omega)];omega
  simp [e4]
  have bl:=Ws (frz:=frz) d1 hf (4*N) (by omega) (by omega)
  refine Qd (by simpa using bl) ?_
  rintro _ K2 ⟨⟨y,rfl,hy⟩,c2,d2⟩
  have b2:=Qa b0 c2 (by simp;omega)
  have gP:=fun cs=>Qi (r':=⟨cs,0,56⟩) b2
  have f:=fun w=>fin K2 w (cK.trans c2) d2
  simp [VM.look,b2,hF,gP]
  exact ⟨⟨_,_,_,_,_,rfl⟩,f _⟩
 ·simp
  have bl:=Ws (frz:=frz) d1 hf 4 (by decide) (by decide)
  refine Qd (by simpa using bl) ?_
  rintro _ K2 ⟨⟨y,rfl,hy⟩,c2,d2⟩
  simp [e9 y (by omega)]
  have bl:=Ws (frz:=frz) d2 hf 4 (by decide) (by decide)
  refine Qd (by simpa using bl) ?_
  rintro _ K3 ⟨⟨z,rfl,hz⟩,c3,d3⟩
  have b2:=Qa (Qa b0 c2 (by simp;omega)) c3 (by simp;omega)
  have gP:=fun cs=>Qi (r':=⟨cs,0,56⟩) b2
  have f:=fun w=>fin K3 w ((cK.trans c2).trans c3) d3
  simp [VM.look,b2,e9 z (by omega),hF,gP]
  exact ⟨⟨_,_,_,_,_,rfl⟩,f _⟩
 ·have n0:¬(x:Int)=0:=by omega
  have n1:¬(x:Int)=1:=by omega
  have n2:¬(x:Int)=2:=by omega
  have n3:¬(x:Int)=3:=by omega
  have n4:¬(x:Int)=4:=by omega
  have m0:¬x=0:=by omega
  have m1:¬x=1:=by omega
  have m2:¬x=2:=by omega
  have m3:¬x=3:=by omega
  have m4:¬x=4:=by omega
  simp [n0,n1,n2,n3,n4,m0,m1,m2,m3,m4]
  refine Qd (Ws (frz:=frz) d1 hf N (by omega) (by omega)) ?_
  rintro _ K2 ⟨⟨y1,rfl,hy1⟩,c2,d2⟩
  simp
  refine Qd (Ws (frz:=frz) d2 hf N (by omega) (by omega)) ?_
  rintro _ K3 ⟨⟨y2,rfl,hy2⟩,c3,d3⟩
  simp
  have bl:=Ws (frz:=frz) d3 hf 2 (by decide) (by decide)
  refine Qd (by simpa using bl) ?_
  rintro _ K4 ⟨⟨y3,rfl,hy3⟩,c4,d4⟩
  simp
  have bl:=Ws (frz:=frz) d4 hf 5 (by decide) (by decide)
  refine Qd (by simpa using bl) ?_
  rintro _ K5 ⟨⟨y4,rfl,hy4⟩,c5,d5⟩
  have b2:=Qa (Qa (Qa (Qa b0 c2 (by simp;omega)) c3 (by simp;omega)) c4 (by simp;omega)) c5 (by simp;omega)
  have gP:=fun cs=>Qi (r':=⟨cs,0,56⟩) b2
  have f:=fun w=>fin K5 w ((((cK.trans c2).trans c3).trans c4).trans c5) d5
  simp [VM.look,b2,e9 y4 (by omega),hF,gP]
  exact ⟨⟨_,_,_,_,_,rfl⟩,f _⟩
theorem Ax {N:Nat} (h2:1≤N) (hN:N≤16) (c:Cur H r vb code) (hf:frz≤r):wp (vcall C frz 47 [.pointer (some ⟨r,0,some 0⟩),.int .i64 N] H) (fun u H'=>∃xs:List PkD,Ow pkF 56 H' u xs∧xs.length≤8∧(∀i∈ids u,H.length≤i)∧Chg H H' [r]∧Cur H' r vb code):=by
 have lt:=c.lt
 have vlt:=c.vlt
 rw [Qb (fn:=Tryz.f47) Tryz.func47 rfl (by kernel_rfl) rfl]
 simp
 refine Qh (fun n t H'=>∃(i:Nat) (u:Value) (xs:List PkD),n=8-i∧i≤8∧t 0=.pointer (some ⟨r,0,some 0⟩)∧t 1=.int .i64 N∧t 5=u∧t 6=.int .i64 i∧Cur H' r vb code∧Ow pkF 56 H' u xs∧xs.length=i∧(∀j∈ids u,H.length≤j)∧Chg H H' [r]) ?_ (n:=8)
  ⟨0,.slice (some ⟨H.length,0,some 0⟩) 0 0,[],rfl,by omega,by simp,by simp,by simp,by simp,c.app _,Ow.new0 (D:=pkF) (xs:=[]) rfl rfl rfl rfl,rfl,by simp,Chg.app _⟩
 rintro n t H' ⟨i,u,xs,rfl,hi,t0,t1,t5,t6,cc,o,hx,nu,ch⟩ ih
 have l1:=ch.1
 have bl:=Ws (frz:=frz) cc hf 9 (by decide) (by decide)
 simp [t0,t1,t5,t6]
 refine Qd (by simpa using bl) ?_
 rintro _ H2 ⟨⟨x,rfl,hx2⟩,c2,d2⟩
 have o2:=o.chg c2 (fun j hj hh=>by have:=nu j hj;simp at hh;omega)
 have l2:=c2.1
 simp [t0,t1,t5,t6]
 refine Qc ?_ ?_<;>intro g
 ·have e1:∀[Inhabited Unit],IntKind.i64.wrap ((i:Int)+1)=((i+1:Nat):Int):=by intro _;rw [w64 (by omega) (by omega)];omega
  simp [t0,t1,t5,t6]
  refine Qd (jy (frz:=frz) h2 hN d2 hf) ?_
  rintro _ H3 ⟨⟨p,rfl⟩,c3,d3⟩
  have o3:=o2.chg c3 (fun j hj hh=>by have:=nu j hj;simp at hh;omega)
  have l3:=c3.1
  obtain ⟨u',H4,hap,o4,c4,n4⟩:=o3.push (P:=Tryz.prog) (frz:=frz) (ty:=52) (a:=p) (by simp) rfl (by omega) (fun j hj=>by have:=nu j hj;omega)
  simp [-Qp,-Qx,t0,t1,t5,t6,pkV,Zg]
  simp only [Zg] at hap
  simp [-Qp,-Qx,t0,t1,t5,t6,hap]
  refine ih (8-(i+1)) _ _ ⟨i+1,u',xs++[p],rfl,by omega,by simp [t0],by simp [t1],by simp,?_,d3.chg c4 (fun hh=>by have:=nu _ hh;omega) (fun j hj hh=>by have:=nu j hh;have:=vlt j hj;omega),o4,by simp [hx],fun j hj=>?_,((ch.trans c2).trans c3).trans' c4 (fun j hj=>.inr (by have:=nu j hj;omega))⟩ (by omega)
  ·simp [t6];exact e1
  ·rcases n4 j hj with h1|h1
   ·exact nu j h1
   ·omega
 ·simp [t0,t1,t5,t6]
  exact ⟨xs,o2,by omega,fun j hj=>by have:=nu j hj;omega,ch.trans c2,d2⟩
def ActsD (H:Heap) (u:Value) (H':Heap):Prop:=∃(w h:Int) (v:ChipV) (lv:Value) (l:List PkD),u=.tuple #[dChip.val v (chipNew w h),lv]∧okG w h∧dChip.Ow H' v (chipNew w h)∧(∀i∈dChip.ids v,H.length≤i)∧(dChip.ids v).Nodup∧dAct.Ow H' lv l∧l.length≤8∧(∀i∈dAct.ids lv,H.length≤i)∧Chg H H' []
theorem E4 (vb:Value) (code:List Int) (hb:Rd Fl.u8 H vb code) (hl:code.length≤1073741824):wp (vcall C frz 18 [vb] H) (fun u H'=>ActsD H u H'):=by
 rw [Qb (fn:=Tryz.f18) Tryz.func18 rfl (by kernel_rfl) rfl]
 simp
 refine Qd (ku vb code hb.app hl) ?_
 rintro _ K1 ⟨r,rfl,hr,c1,ch1⟩
 have cH1:Chg H K1 []:=(Chg.app []).trans ch1
 have bR:K1[H.length]? = some ⟨zChip,0,51⟩:=Qa (by simp [zChip]) ch1 (by simp)
 simp at hr
 simp
 refine Qd (wv (frz:=H.length) c1 (by omega)) ?_
 rintro _ K2 ⟨⟨w,h,rfl,hg,hn2⟩,c2,d2⟩
 have bR:=Qa bR c2 (by simp;omega)
 have l1:=cH1.1
 have l2:=c2.1
 simp
 refine Qd (D5 w h) ?_
 rintro _ K3 ⟨_,rfl,v,rfl,ov,c3,m3,n3⟩
 have bR:=Qa bR c3 (by simp)
 have d3:Cur K3 r vb code:=d2.chg c3 (by simp) (by simp)
 have l3:=c3.1
 obtain ⟨a,ha⟩:∃a,a=chipNew w h:=⟨_,rfl⟩
 rw [← ha] at ov
 have ew:a.1.1=(w,h,[]):=by
  rw [ha]
  have e:chipNew w h=(netNew (w,h,[]) (splitT w h),[]):=if_pos hg
  rw [e]
  exact (M9 (m:=(w,h,[])) (t:=splitT w h) (Zv hg)).2.1
 have one:=Qy ov
 have o1:=one.1
 have o2:=one.2
 have ltv:∀i∈dChip.ids v,i<K3.length:=fun i hi=>dChip.lt ov i hi
 obtain ⟨K4,hK4⟩:∃K4,K4=K3++[⟨chipCells v a,0,51⟩]:=⟨_,rfl⟩
 have c4:Chg K3 K4 []:=by rw [hK4];exact Chg.app _
 have b4:K4[K3.length]? = some ⟨chipCells v a,0,51⟩:=by rw [hK4];simp
 have l4:K4.length=K3.length+1:=by rw [hK4];simp
 have bR:=Qa bR c4 (by simp)
 have d4:Cur K4 r vb code:=d3.chg c4 (by simp) (by simp)
 have ov4:=Dt.chg (T:=dChip) ov c4 (by simp)
 have hKs:=hK4.symm
 have b4':=b4
 unfold chipCells netCells at hKs b4'
 simp only [List.cons_append,List.nil_append] at hKs b4'
 have hF:H.length≤K3.length:=by omega
 simp [Qo,← ha,o1,o2,hF]
 rw [hKs]
 clear hK4 hKs
 obtain ⟨N,hN⟩:∃N:Nat,cnt w h=N:=⟨(cnt w h).toNat,by have:=Qf w h;omega⟩
 have cr:=Qf w h
 have ew1:a.1.1.1=w:=by rw [ew]
 have ew2:a.1.1.2.1=h:=by rw [ew]
 have lv:=W2 ov4
 rw [ew1,ew2] at lv
 rw [U8 (fl:=([0],[8])) (h:=⟨by kernel_rfl,by kernel_rfl,by kernel_rfl,by kernel_rfl⟩)]
 have nc:=fun F H=>Wd (frz:=F) (H:=H) w h
 rw [hN] at nc
 simp [emps,empOp,empB,VM.look,b4',o1,o2,lv,ew1,ew2,nc]
 refine Jb (Ax (N:=N) (by omega) (by omega) d4 (by omega)) ?_
 rintro lq K5 ⟨l,ol,hll,ml,c5,d5⟩
 have l5:=c5.1
 have ltr:=d2.lt
 have b5:=Qa b4 c5 (by simp;omega)
 have bR:=Qa bR c5 (by simp;omega)
 have ov5:=Dt.chg (T:=dChip) ov4 c5 (fun i hi hh=>by have:=m3 i hi;simp at hh;have:=d2.lt;omega)
 have lv5:=W2 ov5
 rw [ew1,ew2] at lv5
 have b5':=b5
 unfold chipCells netCells at b5'
 simp only [List.cons_append,List.nil_append] at b5'
 have onl:VM.one lq=true∧lq.cells=#[lq]:=⟨ol.rd.one',ol.rd.cells⟩
 refine ⟨by simp [VM.look,b5',o1,o2,lv5,ew1,ew2],?_⟩
 have gR:=Qi (r':=⟨chipCells v a,0,51⟩) bR
 have cS:Chg K5 (K5.set H.length ⟨chipCells v a,0,51⟩) [H.length]:=Qg _ _
 have ov6:=Dt.chg (T:=dChip) ov5 cS (fun i hi hh=>by have:=m3 i hi;simp at hh;omega)
 have ol6:=Ow.chg ol cS (fun i hi hh=>by have:=ml i hi;simp at hh;omega)
 have cE:Chg H (K5.set H.length ⟨chipCells v a,0,51⟩) []:=((((cH1.trans' c2 (fun i hi=>.inr (by simp at hi;omega))).trans c3).trans c4).trans' c5 (fun i hi=>.inr (by simp at hi;omega))).trans' cS (fun i hi=>.inr (by simp at hi;omega))
 have fin:ActsD H (.tuple #[dChip.val v a,lq]) (K5.set H.length ⟨chipCells v a,0,51⟩):=
  ⟨w,h,v,lq,l,by rw [ha],hg,by rw [← ha];exact ov6,fun i hi=>by have:=m3 i hi;omega,n3,⟨ol6,by omega⟩,hll,fun i hi=>by have:=ml i hi;omega,cE⟩
 simp only [Qo] at fin
 have bR':=bR
 unfold zChip at bR'
 unfold chipCells netCells at gR fin
 simp only [List.cons_append,List.nil_append] at gR fin
 rw [ew1,ew2] at gR
 simp [VM.look,b5',bR',gR,o1,o2,onl,ew1,ew2] at fin ⊢
 exact fin
end Go.Proofs.YtaldglgobgjeaaaGreat.V
set_option linter.all false
namespace Go.Proofs.YtaldglgobgjeaaaGreat.V
open Go Go.VM Go.Proofs
set_option maxRecDepth 10000
abbrev Key:=Int×Int×Int
def fkey (f:FlitD):Key:=(f.1,f.2.1,f.2.2.1)
def nx (f:FlitD):Option Key:=if f.2.2.2.2=true then none else some (fkey f)
def okf (s:Option Key) (f:FlitD):Prop:=(f.2.2.2.1=true∧s=none)∨(f.2.2.2.1=false∧s=some (fkey f))
def Str (s:Option Key):List FlitD→Option Key→Prop
 | [],s'=>s=s'
 | f::l,s'=>okf s f∧Str (nx f) l s'
theorem Str.app:∀{l m:List FlitD} {s t u:Option Key},Str s l t→Str t m u→Str s (l++m) u
 | [],m,s,t,u,h,k=>by obtain rfl:s=t:=h;exact k
 | f::l,m,s,t,u,h,k=>⟨h.1,Str.app h.2 k⟩
theorem Str.snoc {l:List FlitD} {s t:Option Key} {f:FlitD} (h:Str s l t) (k:okf t f):Str s (l++[f]) (nx f):=h.app ⟨k,rfl⟩
theorem Str.unsnoc:∀{l:List FlitD} {s u:Option Key} {f:FlitD},Str s (l++[f]) u→∃t,Str s l t∧okf t f∧u=nx f
 | [],s,u,f,h=>⟨s,rfl,h.1,h.2.symm⟩
 | g::l,s,u,f,h=>by
  obtain ⟨t,h1,h2,h3⟩:=Str.unsnoc (l:=l) h.2
  exact ⟨t,⟨h.1,h1⟩,h2,h3⟩
def isTail (f:FlitD):Bool:=f.2.2.2.2
def tailIds (l:List FlitD):List Int:=(l.filter isTail).map (·.1)
theorem Am (l:List FlitD) (f:FlitD):∀i,i≤l.length→wpk (l++[f]) i=wpk l i
 | 0,_=>rfl
 | i+1,h=>by
  have ih:=Am l f i (by omega)
  have hle:=(Oq l i).1
  have e:part (l++[f]) (wpk l i).2 i=part l (wpk l i).2 i:=by
   unfold part
   rw [List.drop_append_of_le_length (by omega),List.take_append_of_le_length (by rw [List.length_drop];omega)]
  have e2:(l++[f]).getD (wpk l i).2 flit0=l.getD (wpk l i).2 flit0:=by
   simp only [List.getD_eq_getElem?_getD]
   rw [List.getElem?_append_left (by omega)]
  unfold wpk
  rw [ih,e,e2]
def Open (k:Key) (l:List FlitD):Prop:=l≠[]∧∀i,i<l.length→l.getD i flit0=(k.1,k.2.1,k.2.2,decide ((i:Int)=0),false)
theorem Cw {k:Key} {l:List FlitD} {f:FlitD} (h:Open k l) (hf:f.2.2.2.1=false) (hk:fkey f=k):whole (l++[f])↔f.2.2.2.2=true:=by
 obtain ⟨h0,h1⟩:=h
 have hl:0<l.length:=List.length_pos_iff.2 h0
 have g0:(l++[f]).getD 0 flit0=l.getD 0 flit0:=by simp only [List.getD_eq_getElem?_getD];rw [List.getElem?_append_left hl]
 have gl:(l++[f]).getD l.length flit0=f:=by simp [List.getD_eq_getElem?_getD]
 obtain ⟨f1,f2,f3,f4,f5⟩:=f
 obtain ⟨k1,k2,k3⟩:=k
 simp [fkey] at hk hf
 obtain ⟨rfl,rfl,rfl⟩:=hk
 subst hf
 have q:=h1 0 hl
 constructor
 ·intro w
  have:=w.1 l.length (by simp)
  rw [gl] at this
  unfold wholeAt at this
  simp at this
  exact this.2.2.2.2
 ·intro e
  simp at e
  subst e
  refine ⟨fun i hi=>?_,by simp⟩
  simp at hi
  unfold wholeAt
  rw [g0,q]
  by_cases hi':i<l.length
  ·have e2:(l++[(f1,f2,f3,false,true)]).getD i flit0=l.getD i flit0:=by simp only [List.getD_eq_getElem?_getD];rw [List.getElem?_append_left hi']
   rw [e2,h1 i hi']
   simp;omega
  ·have e3:i=l.length:=by omega
   subst e3
   rw [gl]
   simp;omega
theorem As {k:Key} {l:List FlitD} {f:FlitD} (h:Open k l) (hf:f.2.2.2.1=false) (hk:fkey f=k) (ht:f.2.2.2.2=false):Open k (l++[f]):=by
 obtain ⟨h0,h1⟩:=h
 have hl:0<l.length:=List.length_pos_iff.2 h0
 have gl:(l++[f]).getD l.length flit0=f:=by simp [List.getD_eq_getElem?_getD]
 refine ⟨by simp,fun i hi=>?_⟩
 simp at hi
 by_cases hi':i<l.length
 ·have e2:(l++[f]).getD i flit0=l.getD i flit0:=by simp only [List.getD_eq_getElem?_getD];rw [List.getElem?_append_left hi']
  rw [e2,h1 i hi']
 ·have e3:i=l.length:=by omega
  subst e3
  rw [gl]
  obtain ⟨f1,f2,f3,f4,f5⟩:=f
  obtain ⟨k1,k2,k3⟩:=k
  simp [fkey] at hk hf ht
  obtain ⟨rfl,rfl,rfl⟩:=hk
  subst hf ht
  simp;omega
theorem kh {f:FlitD} (hf:f.2.2.2.1=true) (ht:f.2.2.2.2=false):Open (fkey f) [f]:=by
 obtain ⟨f1,f2,f3,f4,f5⟩:=f
 simp at hf ht
 subst hf ht
 refine ⟨by simp,fun i hi=>?_⟩
 simp at hi
 subst hi
 rfl
theorem qi {f:FlitD} (hf:f.2.2.2.1=true):whole [f]↔f.2.2.2.2=true:=by
 obtain ⟨f1,f2,f3,f4,f5⟩:=f
 simp at hf
 subst hf
 constructor
 ·intro w
  have:=w.1 0 (by simp)
  unfold wholeAt at this
  simp at this
  exact this
 ·intro e
  simp at e
  subst e
  refine ⟨fun i hi=>?_,by simp⟩
  simp at hi
  subst hi
  simp [wholeAt]
def WInv (l:List FlitD) (s:Option Key):Prop:=(wpk l l.length).1=tailIds l∧(s=none→(wpk l l.length).2=l.length)∧∀k,s=some k→Open k (l.drop (wpk l l.length).2)
theorem Su (l:List FlitD) (f:FlitD):tailIds (l++[f])=if f.2.2.2.2=true then tailIds l++[f.1] else tailIds l:=by
 unfold tailIds isTail
 rw [List.filter_append,List.map_append]
 by_cases h:f.2.2.2.2=true<;>simp [h]
theorem zy {l:List FlitD} {s:Option Key} {f:FlitD} (h:WInv l s) (k:okf s f):WInv (l++[f]) (nx f):=by
 obtain ⟨h1,h2,h3⟩:=h
 have hle:=(Oq l l.length).1
 have ep:part (l++[f]) (wpk l l.length).2 l.length=l.drop (wpk l l.length).2++[f]:=by
  unfold part
  rw [List.drop_append_of_le_length hle]
  apply List.take_of_length_le
  simp;omega
 have e0:(l++[f]).length=l.length+1:=by simp
 have ew:wpk (l++[f]) (l++[f]).length=if whole (l.drop (wpk l l.length).2++[f]) then ((wpk l l.length).1++[((l++[f]).getD (wpk l l.length).2 flit0).1],l.length+1) else wpk l l.length:=by
  rw [e0]
  conv=>lhs;unfold wpk
  rw [Am l f l.length (by omega),ep]
 have hid:(s=none→((l++[f]).getD (wpk l l.length).2 flit0).1=f.1)∧(∀k,s=some k→fkey f=k→((l++[f]).getD (wpk l l.length).2 flit0).1=f.1):=by
  refine ⟨fun e=>?_,fun k e ek=>?_⟩
  ·rw [h2 e];simp [List.getD_eq_getElem?_getD]
  ·have o:=h3 k e
   have hl:0<(l.drop (wpk l l.length).2).length:=List.length_pos_iff.2 o.1
   have:=o.2 0 hl
   simp only [List.getD_eq_getElem?_getD,List.getElem?_drop] at this
   rw [List.length_drop] at hl
   simp only [List.getD_eq_getElem?_getD]
   rw [List.getElem?_append_left (by omega)]
   rw [Nat.add_zero] at this
   rw [this]
   show k.1=f.1
   rw [← ek];rfl
 have hw:whole (l.drop (wpk l l.length).2++[f])↔f.2.2.2.2=true:=by
  rcases k with ⟨k1,k2⟩|⟨k1,k2⟩
  ·rw [h2 k2,List.drop_length];exact qi k1
  ·exact Cw (h3 _ k2) k1 rfl
 have hi:((l++[f]).getD (wpk l l.length).2 flit0).1=f.1:=by
  rcases k with ⟨k1,k2⟩|⟨k1,k2⟩
  ·exact hid.1 k2
  ·exact hid.2 _ k2 rfl
 unfold WInv
 rw [ew,Su]
 by_cases ht:f.2.2.2.2=true
 ·rw [if_pos (hw.2 ht),if_pos ht,hi,h1]
  unfold nx
  rw [if_pos ht]
  exact ⟨rfl,fun _=>by simp,fun k e=>by simp at e⟩
 ·rw [if_neg (fun e=>ht (hw.1 e)),if_neg ht,h1]
  have ht':f.2.2.2.2=false:=by simpa using ht
  unfold nx
  rw [if_neg ht]
  refine ⟨rfl,fun e=>by simp at e,fun k' e=>?_⟩
  obtain rfl:fkey f=k':=by simpa using e
  rw [List.drop_append_of_le_length hle]
  rcases k with ⟨k1,k2⟩|⟨k1,k2⟩
  ·rw [h2 k2,List.drop_length];exact kh k1 ht'
  ·exact As (h3 _ k2) k1 rfl ht'
theorem I3 {P:List FlitD→Prop} (h0:P []) (h1:∀l f,P l→P (l++[f])) (l:List FlitD):P l:=by
 rw [← List.reverse_reverse l]
 induction l.reverse with
 | nil=>exact h0
 | cons f m ih=>rw [List.reverse_cons];exact h1 _ _ ih
theorem winv (l:List FlitD):∀s,Str none l s→WInv l s:=by
 induction l using I3 with
 | h0=>intro s h;obtain rfl:none=s:=h;exact ⟨rfl,fun _=>rfl,fun k e=>by simp at e⟩
 | h1 l f ih=>
  intro s h
  obtain ⟨t,h1,h2,rfl⟩:=h.unsnoc
  exact zy (ih t h1) h2
theorem R5 (l:List FlitD):∀s,Str none l s→wholePk (trim l)=tailIds l:=by
 induction l using I3 with
 | h0=>intro s h;rfl
 | h1 l f ih=>
  intro s h
  obtain ⟨t,h1,h2,rfl⟩:=h.unsnoc
  rw [Ka]
  by_cases ht:f.2.2.2.2=true
  ·rw [if_pos ht]
   obtain ⟨w1,w2,_⟩:=winv (l++[f]) _ h
   have:=w2 (by unfold nx;rw [if_pos ht])
   unfold wholePk
   rw [if_neg (by omega),w1]
  ·rw [if_neg ht,Su,if_neg ht]
   exact ih t h1
def tabC (x:NetD) (c:Nat):List Int:=if c=1 then x.2.1.2 else x.2.1.1
def pO (x:NetD) (a c:Nat) (t:Int):Int:=portOf x.1.1 x.1.2.1 (tabC x c) a t
def hasP (x:NetD) (a p:Nat):Prop:=has x.1.1 x.1.2.1 x.1.2.2 (4*(a:Int)+p)
def nC (x:NetD):Nat:=(cnt x.1.1 x.1.2.1).toNat
theorem Yi (x:NetD):(nC x:Int)=cnt x.1.1 x.1.2.1:=by have:=Qf x.1.1 x.1.2.1;unfold nC;omega
def inc (s:Option Key) (c:Nat):Option Key:=match s with
 | some k=>if k.2.2=(c:Int) then some k else none
 | none=>none
def setF (f:Nat→Option Key) (i:Nat) (v:Option Key):Nat→Option Key:=fun n=>if n=i then v else f n
theorem Xn (f:Nat→Option Key) (i:Nat) (v:Option Key):setF f i v i=v:=if_pos rfl
theorem W8 (f:Nat→Option Key) {i j:Nat} (v:Option Key) (h:j≠i):setF f i v j=f j:=if_neg h
structure Wf (x:NetD) (B:SSD) (O:List Int) (A S:SSD) (st fr sr:Nat→Option Key):Prop where
 o1:∀a p c,a<nC x→p<5→c<2→O.getD (outAt a p c) 0=-1→st (outAt a p c)=none
 o2:∀a p c (q:Nat),a<nC x→p<5→c<2→q<5→O.getD (outAt a p c) 0=(q:Int)→∃k:Key,st (outAt a p c)=some k∧fr (10*a+2*q+c)=some k∧pO x a c k.2.1=(p:Int)
 o3:∀a (q:Nat) c k,a<nC x→q<5→c<2→fr (10*a+2*q+c)=some k→∃p,p<5∧O.getD (outAt a p c) 0=(q:Int)
 w4:∀a p c,a<nC x→p<4→c<2→hasP x a p→Str (fr (tgt x a p c)) (B.getD (tgt x a p c) []) (st (outAt a p c))
 w5:∀k c,k<nC x→c<2→Str (fr (10*k+8+c)) (B.getD (10*k+8+c) []) (inc (sr k) c)
 w6:∀k,k<nC x→Str (sr k) (S.getD k []) none
 w7:∀t c:Nat,t<nC x→c<2→Str none ((A.getD t []).filter fun f=>f.2.2.1=(c:Int)) (st (outAt t 4 c))
def mvB (x:NetD) (B:SSD) (a p i:Nat) (f:FlitD):SSD:=if p=4 then upd B (10*a+i) (List.drop 1) else upd (upd B (10*a+i) (List.drop 1)) (tgt x a p (i%2)) (·++[f])
def mvA (A:SSD) (a p:Nat) (f:FlitD):SSD:=if p=4 then upd A a (·++[f]) else A
def mvO (O:List Int) (a p i:Nat) (f:FlitD):List Int:=O.set (outAt a p (i%2)) (if f.2.2.2.2 then -1 else ((i/2:Nat):Int))
theorem Sx {a p c a' p' c':Nat} (hp:p<5) (hp':p'<5) (hc:c<2) (hc':c'<2) (e:outAt a p c=outAt a' p' c'):a=a'∧p=p'∧c=c':=by
 unfold outAt at e;omega
theorem setO {O:List Int} {i j:Nat} {v:Int} (h:i<O.length):(O.set i v).getD j 0=if i=j then v else O.getD j 0:=by
 simp only [List.getD_eq_getElem?_getD,List.getElem?_set]
 split
 ·rename_i e;subst e;simp [h]
 ·rfl
theorem Zm {x:NetD} {a p c:Nat} (h:hasP x a p) (hp:p<4) (hc:c<2):tgt x a p c<10*nC x∧tgt x a p c%2=c∧((tgt x a p c/10:Nat):Int)=next x.1.1 x.1.2.1 a p∧tgt x a p c%10<8:=by
 obtain ⟨h1,h2,h3⟩:=Ys (c:=c) h hp hc
 obtain ⟨_,h4,h5⟩:=Rb (c:=c) h hp
 have:=Yi x
 generalize next x.1.1 x.1.2.1 a p=N at *
 generalize opp p=Op at *
 omega
theorem Str.pop {s u:Option Key} {f:FlitD} {r:List FlitD} (h:Str s (f::r) u):okf s f∧Str (nx f) r u:=h
theorem O6 {s:Option Key} {f:FlitD} {k:Key} (h:okf s f) (e:s=some k):f.2.2.2.1=false∧k=fkey f:=by
 rcases h with ⟨_,h⟩|⟨h1,h⟩
 ·rw [h] at e;simp at e
 ·rw [h] at e;exact ⟨h1,by simpa using e.symm⟩
theorem Ze {f:FlitD} {k:Key} (h:nx f=some k):f.2.2.2.2=false∧k=fkey f:=by
 unfold nx at h
 by_cases e:f.2.2.2.2=true
 ·rw [if_pos e] at h;simp at h
 ·rw [if_neg e] at h;exact ⟨by simpa using e,by simpa using h.symm⟩
theorem qq {s:Option Key} {f:FlitD} (h:okf s f) (e:f.2.2.2.1=false):s=some (fkey f):=by
 rcases h with ⟨h1,_⟩|⟨_,h⟩
 ·rw [h1] at e;simp at e
 ·exact h
structure Can (x:NetD) (B:SSD) (O:List Int) (a p i:Nat) (f:FlitD) (r:List FlitD):Prop where
 ha:a<nC x
 hp:p<5
 hi:i<10
 hj:B.getD (10*a+i) []=f::r
 hd:f.2.2.2.1=true→pO x a (i%2) f.2.1=(p:Int)∧O.getD (outAt a p (i%2)) 0=-1
 bd:f.2.2.2.1=false→O.getD (outAt a p (i%2)) 0=((i/2:Nat):Int)
 room:p=4∨hasP x a p
theorem Wf.move {x:NetD} {B:SSD} {O:List Int} {A S:SSD} {st fr sr:Nat→Option Key} (w:Wf x B O A S st fr sr) (hl:B.length=10*nC x) (hO:O.length=10*nC x) (hA:A.length=nC x)
 (hc:allP (fun j f=>f.2.2.1=(j:Int)%2) B) {a p i:Nat} {f:FlitD} {r:List FlitD} (k:Can x B O a p i f r) (hs:∃u,Str (fr (10*a+i)) (f::r) u) :
 pO x a (i%2) f.2.1=(p:Int)∧Wf x (mvB x B a p i f) (mvO O a p i f) (mvA A a p f) S (setF st (outAt a p (i%2)) (nx f)) (setF fr (10*a+i) (nx f)) sr:=by
 obtain ⟨ha,hp,hi,hj,hd,bd,room⟩:=k
 obtain ⟨u,hu⟩:=hs
 have o0:=hu.pop.1
 have ei:10*a+2*(i/2)+i%2=10*a+i:=by omega
 have hij:10*a+i<B.length:=by omega
 have hoL:outAt a p (i%2)<O.length:=by unfold outAt;omega
 have hport:pO x a (i%2) f.2.1=(p:Int):=by
  cases e:f.2.2.2.1 with
  | true=>exact (hd e).1
  | false=>
   obtain ⟨k,_,k2,k3⟩:=w.o2 a p (i%2) (i/2) ha hp (by omega) (by omega) (bd e)
   rw [ei] at k2
   obtain ⟨_,rfl⟩:=O6 o0 k2
   exact k3
 have okst:okf (st (outAt a p (i%2))) f:=by
  cases e:f.2.2.2.1 with
  | true=>exact .inl ⟨e,w.o1 a p (i%2) ha hp (by omega) (hd e).2⟩
  | false=>
   obtain ⟨k,k1,k2,_⟩:=w.o2 a p (i%2) (i/2) ha hp (by omega) (by omega) (bd e)
   rw [ei] at k2
   obtain ⟨_,rfl⟩:=O6 o0 k2
   exact .inr ⟨e,k1⟩
 -- whose output leads from this input
 have only:∀p',p'<5→O.getD (outAt a p' (i%2)) 0=((i/2:Nat):Int)→p'=p:=fun p' hp' e=>by
  obtain ⟨k,_,k2,k3⟩:=w.o2 a p' (i%2) (i/2) ha hp' (by omega) (by omega) e
  rw [ei] at k2
  obtain ⟨_,rfl⟩:=O6 o0 k2
  have:(p':Int)=p:=k3.symm.trans hport
  omega
 have own:∀q:Nat,q<5→O.getD (outAt a p (i%2)) 0=(q:Int)→q=i/2:=fun q hq e=>by
  cases e2:f.2.2.2.1 with
  | true=>rw [(hd e2).2] at e;omega
  | false=>rw [bd e2] at e;omega
 have tl:f.2.2.2.2=true→nx f=none:=fun e=>by unfold nx;rw [if_pos e]
 have tn:f.2.2.2.2=false→nx f=some (fkey f):=fun e=>by unfold nx;rw [if_neg (by simp [e])]
 refine ⟨hport,?_⟩
 -- the streams after the pop
 have pops:∀j s,Str (fr j) (B.getD j []) s→Str (setF fr (10*a+i) (nx f) j) ((upd B (10*a+i) (List.drop 1)).getD j []) s:=fun j s h=>by
  by_cases e:j=10*a+i
  ·subst e
   rw [Xn,Ww _ hij,hj]
   rw [hj] at h
   exact h.pop.2
  ·rw [W8 _ _ e,Q7 _ (fun h=>e h.symm)];exact h
 have same:∀j,(p=4∨j≠tgt x a p (i%2))→(mvB x B a p i f).getD j []=(upd B (10*a+i) (List.drop 1)).getD j []:=fun j h=>by
  unfold mvB
  split
  ·rfl
  ·rename_i hp4
   rw [Q7 _ (fun e=>(h.resolve_left hp4) e.symm)]
 constructor
 ·intro a' p' c' h1 h2 h3 h4
  unfold mvO at h4
  rw [setO hoL] at h4
  by_cases e:outAt a p (i%2)=outAt a' p' c'
  ·rw [if_pos e] at h4
   rw [← e,Xn]
   by_cases ht:f.2.2.2.2=true
   ·exact tl ht
   ·rw [if_neg ht] at h4;omega
  ·rw [if_neg e] at h4
   rw [W8 _ _ (fun h=>e h.symm)]
   exact w.o1 a' p' c' h1 h2 h3 h4
 ·intro a' p' c' q h1 h2 h3 h4 h5
  unfold mvO at h5
  rw [setO hoL] at h5
  by_cases e:outAt a p (i%2)=outAt a' p' c'
  ·rw [if_pos e] at h5
   obtain ⟨rfl,rfl,rfl⟩:=Sx hp h2 (by omega) h3 e
   by_cases ht:f.2.2.2.2=true
   ·rw [if_pos ht] at h5;omega
   ·rw [if_neg ht] at h5
    have eq:q=i/2:=by omega
    subst eq
    rw [Xn,ei,Xn]
    exact ⟨fkey f,tn (by simpa using ht),tn (by simpa using ht),hport⟩
  ·rw [if_neg e] at h5
   rw [W8 _ _ (fun h=>e h.symm)]
   obtain ⟨k,k1,k2,k3⟩:=w.o2 a' p' c' q h1 h2 h3 h4 h5
   refine ⟨k,k1,?_,k3⟩
   rw [W8 _ _ ?_]
   ·exact k2
   ·intro ej
    have e1:a'=a:=by omega
    have e2:c'=i%2:=by omega
    have e3:q=i/2:=by omega
    subst e1 e2 e3
    exact e (by rw [only p' h2 h5])
 ·intro a' q c' k h1 h2 h3 h4
  by_cases ej:10*a'+2*q+c'=10*a+i
  ·have e1:a'=a:=by omega
   have e2:c'=i%2:=by omega
   have e3:q=i/2:=by omega
   subst e1 e2 e3
   rw [ej,Xn] at h4
   obtain ⟨ht,_⟩:=Ze h4
   refine ⟨p,hp,?_⟩
   unfold mvO
   rw [setO hoL,if_pos rfl,if_neg (by simp [ht])]
  ·rw [W8 _ _ ej] at h4
   obtain ⟨p',k1,k2⟩:=w.o3 a' q c' k h1 h2 h3 h4
   refine ⟨p',k1,?_⟩
   unfold mvO
   rw [setO hoL,if_neg ?_]
   ·exact k2
   ·intro e
    obtain ⟨rfl,rfl,rfl⟩:=Sx hp k1 (by omega) h3 e
    have:=own q h2 k2
    omega
 ·intro a' p' c' h1 h2 h3 h4
  have:=pops _ _ (w.w4 a' p' c' h1 h2 h3 h4)
  by_cases e:outAt a p (i%2)=outAt a' p' c'
  ·obtain ⟨rfl,rfl,rfl⟩:=Sx hp (by omega) (by omega) h3 e
   rw [Xn]
   have hp4:¬p=4:=by omega
   unfold mvB
   rw [if_neg hp4]
   have ht:=(Zm (c:=i%2) h4 h2 h3).1
   rw [Ww _ (by rw [Ue];omega)]
   exact this.snoc okst
  ·rw [W8 _ _ (fun h=>e h.symm)]
   rw [same]
   ·exact this
   ·by_cases hp4:p=4
    ·exact .inl hp4
    ·refine .inr fun et=>e ?_
     have nn:=Yi x
     obtain ⟨rfl,rfl⟩:=Aa h4 (room.resolve_left hp4) h2 (by omega) h3 (by omega) (by omega) (by omega) et
     have t1:=(Zm (c:=c') h4 h2 h3).2.1
     have t2:=(Zm (c:=i%2) h4 h2 (by omega)).2.1
     rw [et] at t1
     rw [t2] at t1
     rw [t1]
 ·intro k c h1 h2
  have:=pops _ _ (w.w5 k c h1 h2)
  rw [same]
  ·exact this
  ·by_cases hp4:p=4
   ·exact .inl hp4
   ·refine .inr fun et=>?_
    have:=(Zm (c:=i%2) (room.resolve_left hp4) (by omega) (by omega)).2.2.2
    omega
 ·exact w.w6
 ·intro t c h1 h2
  have h7:=w.w7 t c h1 h2
  unfold mvA
  by_cases hp4:p=4
  ·rw [if_pos hp4]
   subst hp4
   by_cases ea:a=t
   ·subst ea
    rw [Ww _ (by omega),List.filter_append]
    have cl:=hc (10*a+i) f (by rw [hj];exact List.mem_cons_self ..)
    by_cases ec:i%2=c
    ·subst ec
     rw [Xn]
     have e1:List.filter (fun f:FlitD=>decide (f.2.2.1=((i%2:Nat):Int))) [f]=[f]:=by
      rw [List.filter_cons_of_pos (by simp;omega)];rfl
     rw [e1]
     exact h7.snoc okst
    ·have e1:List.filter (fun f:FlitD=>decide (f.2.2.1=(c:Int))) [f]=[]:=by
      rw [List.filter_cons_of_neg (by simp;omega)];rfl
     rw [e1,List.append_nil,W8 _ _ (fun e=>by unfold outAt at e;omega)]
     exact h7
   ·rw [Q7 _ ea,W8 _ _ (fun e=>by unfold outAt at e;omega)]
    exact h7
  ·rw [if_neg hp4,W8 _ _ (fun e=>by unfold outAt at e;omega)]
   exact h7
theorem Wf.enter {x:NetD} {B:SSD} {O:List Int} {A S:SSD} {st fr sr:Nat→Option Key} (w:Wf x B O A S st fr sr) (hl:B.length=10*nC x) (hS:S.length=nC x) {k c:Nat} {f:FlitD} {r:List FlitD} (hk:k<nC x) (hc:c<2) (ec:f.2.2.1=(c:Int)) (hj:S.getD k []=f::r) :
 Wf x (upd B (10*k+8+c) (·++[f])) O A (upd S k (List.drop 1)) st fr (setF sr k (nx f)):=by
 have h6:=w.w6 k hk
 rw [hj] at h6
 obtain ⟨o0,h6'⟩:=h6.pop
 refine ⟨w.o1,w.o2,w.o3,fun a' p' c' h1 h2 h3 h4=>?_,fun k' c' h1 h2=>?_,fun k' h1=>?_,w.w7⟩
 ·rw [Q7 _ (fun e=>by have:=(Zm (c:=c') h4 h2 h3).2.2.2;omega)]
  exact w.w4 a' p' c' h1 h2 h3 h4
 ·have h5:=w.w5 k' c' h1 h2
  by_cases e:k'=k
  ·subst e
   rw [Xn]
   by_cases e2:c'=c
   ·subst e2
    rw [Ww _ (by omega)]
    have ok:okf (inc (sr k') c') f:=by
     rcases o0 with ⟨h,e⟩|⟨h,e⟩
     ·rw [e];exact .inl ⟨h,rfl⟩
     ·rw [e];refine .inr ⟨h,?_⟩
      show (if (fkey f).2.2=(c':Int) then some (fkey f) else none)=_
      rw [if_pos (show (fkey f).2.2=(c':Int) from ec)]
    have en:inc (nx f) c'=nx f:=by
     cases hn:nx f with
     | none=>rfl
     | some k0=>
      obtain ⟨_,rfl⟩:=Ze hn
      show (if (fkey f).2.2=(c':Int) then some (fkey f) else none)=_
      rw [if_pos (show (fkey f).2.2=(c':Int) from ec)]
    rw [en]
    exact h5.snoc ok
   ·rw [Q7 _ (by omega)]
    have hne:¬(fkey f).2.2=(c':Int):=fun e=>by have e:f.2.2.1=(c':Int):=e;omega
    have e0:inc (sr k') c'=none:=by
     rcases o0 with ⟨h,e⟩|⟨h,e⟩
     ·rw [e];rfl
     ·rw [e];exact if_neg hne
    have en:inc (nx f) c'=none:=by
     cases hn:nx f with
     | none=>rfl
     | some k0=>obtain ⟨_,rfl⟩:=Ze hn;exact if_neg hne
    rw [en];rw [e0] at h5;exact h5
  ·rw [W8 _ _ e,Q7 _ (by omega)];exact h5
 ·by_cases e:k'=k
  ·subst e
   rw [Xn,Ww _ (by omega),hj];exact h6'
  ·rw [W8 _ _ e,Q7 _ (fun h=>e h.symm)];exact w.w6 k' h1
def itN (g:Int→Int):Nat→Int→Int
 | 0,a=>a
 | n+1,a=>g (itN g n a)
theorem Q9 (g:Int→Int):∀n a,itN g (n+1) a=itN g n (g a)
 | 0,a=>rfl
 | n+1,a=>by show g (itN g (n+1) a)=g (itN g n (g a));rw [Q9 g n a]
theorem T0 (g:Int→Int) (m:Nat):∀n a,itN g (n+m) a=itN g n (itN g m a)
 | 0,a=>by rw [Nat.zero_add];rfl
 | n+1,a=>by rw [Nat.add_right_comm];show g (itN g (n+m) a)=g (itN g n (itN g m a));rw [T0 g m n a]
def nuT (w h:Int) (T:List Int) (to a:Int):Int:=next w h a (portOf w h T a to)
theorem Pd (w h:Int) (b T:List Int) (to:Int):∀F a out,walkN w h b T to F a out≠[]→∃L,itN (nuT w h T to) L a=to∧∀n,n<L→stepOk w h b T (itN (nuT w h T to) n a) to
 | 0,a,out,hne=>by
  unfold walkN at hne
  by_cases e:portOf w h T a to=4
  ·rw [if_pos e] at hne
   by_cases e2:a=to
   ·exact ⟨0,e2,fun n h=>by omega⟩
   ·rw [if_neg e2] at hne;exact absurd rfl hne
  ·rw [if_neg e] at hne;exact absurd rfl hne
 | F+1,a,out,hne=>by
  unfold walkN at hne
  by_cases e:portOf w h T a to=4
  ·rw [if_pos e] at hne
   by_cases e2:a=to
   ·exact ⟨0,e2,fun n h=>by omega⟩
   ·rw [if_neg e2] at hne;exact absurd rfl hne
  ·rw [if_neg e] at hne
   by_cases e2:stepOk w h b T a to
   ·rw [if_pos e2] at hne
    obtain ⟨L,h1,h2⟩:=Pd w h b T to F _ _ hne
    refine ⟨L+1,by rw [Q9];exact h1,fun n hn=>?_⟩
    cases n with
    | zero=>exact e2
    | succ n=>rw [Q9];exact h2 n (by omega)
   ·rw [if_neg e2] at hne;exact absurd rfl hne
theorem Eb (w h:Int) (b T:List Int) (to:Int) (h4:portOf w h T to to=4):∀L F a out,L≤F→itN (nuT w h T to) L a=to→(∀n,n<L→stepOk w h b T (itN (nuT w h T to) n a) to)→(walkN w h b T to F a out).length=out.length+L
 | 0,F,a,out,_,e,_=>by
  have e:a=to:=e
  subst e
  cases F with
  | zero=>unfold walkN;rw [if_pos h4,if_pos rfl];rfl
  | succ F=>unfold walkN;rw [if_pos h4,if_pos rfl];rfl
 | L+1,F,a,out,hF,e,hs=>by
  have s0:stepOk w h b T a to:=hs 0 (by omega)
  have hne:¬portOf w h T a to=4:=fun k=>by have:=s0.1;unfold inR at this;omega
  cases F with
  | zero=>omega
  | succ F=>
   unfold walkN
   rw [if_neg hne,if_pos s0]
   rw [Eb w h b T to h4 L F _ _ (by omega) (by have:=e;rw [Q9] at this;exact this) fun n hn=>by have:=hs (n+1) (by omega);rw [Q9] at this;exact this]
   simp;omega
theorem Vd (w h:Int) (b T:List Int) (to:Int):∀F a out,walkN w h b T to F a out≠[]→∃L,L≤F∧itN (nuT w h T to) L a=to∧∀n,n<L→stepOk w h b T (itN (nuT w h T to) n a) to
 | 0,a,out,hne=>by
  unfold walkN at hne
  by_cases e:portOf w h T a to=4
  ·rw [if_pos e] at hne
   by_cases e2:a=to
   ·exact ⟨0,by omega,e2,fun n h=>by omega⟩
   ·rw [if_neg e2] at hne;exact absurd rfl hne
  ·rw [if_neg e] at hne;exact absurd rfl hne
 | F+1,a,out,hne=>by
  unfold walkN at hne
  by_cases e:portOf w h T a to=4
  ·rw [if_pos e] at hne
   by_cases e2:a=to
   ·exact ⟨0,by omega,e2,fun n h=>by omega⟩
   ·rw [if_neg e2] at hne;exact absurd rfl hne
  ·rw [if_neg e] at hne
   by_cases e2:stepOk w h b T a to
   ·rw [if_pos e2] at hne
    obtain ⟨L,h0,h1,h2⟩:=Vd w h b T to F _ _ hne
    refine ⟨L+1,by omega,by rw [Q9];exact h1,fun n hn=>?_⟩
    cases n with
    | zero=>exact e2
    | succ n=>rw [Q9];exact h2 n (by omega)
   ·rw [if_neg e2] at hne;exact absurd rfl hne
structure Route (x:NetD) (s t c:Nat) (R:Nat→Nat) (L:Nat):Prop where
 r0:R 0=10*s+8+c
 rt:R L/10=t
 rs:∀n,n<L→∃p:Nat,p<4∧pO x (R n/10) c t=(p:Int)∧R (n+1)=tgt x (R n/10) p c∧hasP x (R n/10) p
 r4:pO x t c t=4
 ij:∀m n,m≤L→n≤L→R m/10=R n/10→m=n
 md:∀n,n≤L→R n%2=c
 lt:∀n,n≤L→R n<10*nC x
theorem Route.inj {x:NetD} {s t c:Nat} {R:Nat→Nat} {L:Nat} (r:Route x s t c R L):∀m n,m≤L→n≤L→R m=R n→m=n:=fun m n hm hn e=>r.ij m n hm hn (by rw [e])
def tabsOk (x:NetD):Prop:=∀c,c<2→tableOk x.1.1 x.1.2.1 x.1.2.2 (tabC x c)
theorem Xk {x:NetD} (h:classesOk x.1.1 x.1.2.1 x.1.2.2 x.2.1.1 x.2.1.2):tabsOk x:=fun c _=>by
 unfold tabC;split
 ·exact h.2
 ·exact h.1
theorem Rm {x:NetD} (h:tabsOk x) {t c:Nat} (ht:t<nC x) (hc:c<2):pO x t c t=4:=((h c hc).2 t ht t ht).1 rfl
theorem Qbj {x:NetD} (h:tabsOk x) {a t c:Nat} (ha:a<nC x) (ht:t<nC x) (hc:c<2) (e:pO x a c t=4):a=t:=by
 by_cases g:a=t
 ·exact g
 ·have:=((h c hc).2 a ha t ht).2 g
  have e':portOf x.1.1 x.1.2.1 (tabC x c) a t=4:=e
  unfold walk at this
  exfalso
  apply this
  cases hk:(cnt x.1.1 x.1.2.1).toNat with
  | zero=>unfold walkN;rw [if_pos e',if_neg (by omega)]
  | succ n=>unfold walkN;rw [if_pos e',if_neg (by omega)]
theorem Z1 {x:NetD} (h:tabsOk x) {s t c:Nat} (hs:s<nC x) (ht:t<nC x) (hc:c<2):∃R L,Route x s t c R L:=by
 have hn:=Yi x
 have h4:=Rm h ht hc
 have key:∃L,itN (nuT x.1.1 x.1.2.1 (tabC x c) t) L s=t∧∀n,n<L→stepOk x.1.1 x.1.2.1 x.1.2.2 (tabC x c) (itN (nuT x.1.1 x.1.2.1 (tabC x c) t) n s) t:=by
  by_cases e:s=t
  ·exact ⟨0,by show (s:Int)=t;rw [e],fun n hn=>by omega⟩
  ·exact Pd _ _ _ _ _ _ _ _ (((h c hc).2 s hs t ht).2 e)
 obtain ⟨L,h1,h2⟩:=key
 generalize hg:nuT x.1.1 x.1.2.1 (tabC x c) t=g at *
 have hN:∀n,n≤L→0≤itN g n s∧itN g n s<nC x:=fun n hn'=>by
  cases n with
  | zero=>show 0≤(s:Int)∧(s:Int)<nC x;omega
  | succ n=>
   obtain ⟨k1,k2⟩:=h2 n (by omega)
   obtain ⟨_,_,k3,k4⟩:=Xl k1 k2
   have e:itN g (n+1) s=next x.1.1 x.1.2.1 (itN g n s) (portOf x.1.1 x.1.2.1 (tabC x c) (itN g n s) t):=by
    show g (itN g n s)=_
    rw [← hg];rfl
   rw [e];exact ⟨k3,by omega⟩
 have hne:∀n,n<L→itN g n s≠t:=fun n hn' e=>by
  have k1:=(h2 n hn').1
  rw [e] at k1
  have h4':portOf x.1.1 x.1.2.1 (tabC x c) t t=4:=h4
  rw [h4'] at k1
  unfold inR at k1;omega
 have hinj:∀m n,m<n→n≤L→itN g m s≠itN g n s:=fun m n hm hn' e=>by
  have e1:itN g (L-n+m) s=itN g (L-n+n) s:=by rw [T0 g m,T0 g n,e]
  rw [show L-n+n=L by omega,h1] at e1
  exact hne (L-n+m) (by omega) e1
 -- the buffers
 have hR:∃R:Nat→Nat,R 0=10*s+8+c∧∀n,R (n+1)=(10*itN g (n+1) s+2*opp (portOf x.1.1 x.1.2.1 (tabC x c) (itN g n s) t)+c).toNat:=
  ⟨fun n=>match n with|0=>10*s+8+c|n+1=>(10*itN g (n+1) s+2*opp (portOf x.1.1 x.1.2.1 (tabC x c) (itN g n s) t)+c).toNat,rfl,fun n=>rfl⟩
 obtain ⟨R,R0,RS⟩:=hR
 have hopp:∀n,n<L→0≤opp (portOf x.1.1 x.1.2.1 (tabC x c) (itN g n s) t)∧opp (portOf x.1.1 x.1.2.1 (tabC x c) (itN g n s) t)<4:=fun n hn'=>by
  have k1:=(h2 n hn').1
  unfold inR at k1
  unfold opp
  rw [if_neg (by omega),if_pos (by omega)]
  omega
 have hdiv:∀n,n≤L→((R n/10:Nat):Int)=itN g n s∧R n%2=c∧R n<10*nC x:=fun n hn'=>by
  cases n with
  | zero=>
   rw [R0]
   have:itN g 0 s=(s:Int):=rfl
   rw [this];omega
  | succ n=>
   rw [RS]
   have k1:=hopp n (by omega)
   have k2:=hN (n+1) hn'
   generalize opp (portOf x.1.1 x.1.2.1 (tabC x c) (itN g n s) t)=Op at *
   generalize itN g (n+1) s=N at *
   omega
 refine ⟨R,L,R0,?_,fun n hn'=>?_,h4,fun m n hm hn' e=>?_,fun n hn'=>(hdiv n hn').2.1,fun n hn'=>(hdiv n hn').2.2⟩
 ·have:=(hdiv L (by omega)).1
  rw [h1] at this;omega
 ·obtain ⟨k1,k2⟩:=h2 n hn'
  have e:=(hdiv n (by omega)).1
  unfold inR at k1
  refine ⟨(portOf x.1.1 x.1.2.1 (tabC x c) (itN g n s) t).toNat,by omega,?_,?_⟩
  ·unfold pO;rw [e];omega
  ·rw [RS]
   unfold tgt
   have e2:(((portOf x.1.1 x.1.2.1 (tabC x c) (itN g n s) t).toNat:Nat):Int)=portOf x.1.1 x.1.2.1 (tabC x c) (itN g n s) t:=by omega
   rw [e,e2]
   have e3:itN g (n+1) s=next x.1.1 x.1.2.1 (itN g n s) (portOf x.1.1 x.1.2.1 (tabC x c) (itN g n s) t):=by
    show g (itN g n s)=_
    rw [← hg];rfl
   refine ⟨by rw [e3],?_⟩
   unfold hasP;rw [e,e2];exact k2
 ·have a1:=(hdiv m hm).1
  have a2:=(hdiv n hn').1
  rw [e,a2] at a1
  rcases Nat.lt_trichotomy m n with k|k|k
  ·exact absurd a1.symm (hinj m n k hn')
  ·exact k
  ·exact absurd a1 (hinj n m k hm)
def cat (g:Nat→List FlitD):Nat→List FlitD
 | 0=>g 0
 | n+1=>g (n+1)++cat g n
theorem Zy {g g':Nat→List FlitD}:∀L,(∀n,n≤L→g' n=g n)→cat g' L=cat g L
 | 0,h=>h 0 (by omega)
 | L+1,h=>by unfold cat;rw [h (L+1) (by omega),Zy L (fun n hn=>h n (by omega))]
theorem Bv {g g':Nat→List FlitD} {y:FlitD}:∀n,g n=y::g' n→(∀m,m<n→g' m=g m)→cat g n=y::cat g' n
 | 0,h,_=>h
 | n+1,h,k=>by unfold cat;rw [h,Zy n (fun m hm=>k m (by omega))];rfl
theorem An {g g':Nat→List FlitD} {y:FlitD} (h:g' 0=g 0++[y]):∀L,(∀m,0<m→m≤L→g' m=g m)→cat g' L=cat g L++[y]
 | 0,_=>h
 | L+1,k=>by unfold cat;rw [k (L+1) (by omega) (by omega),An h L (fun m hm hl=>k m hm (by omega)),List.append_assoc]
theorem Fq {g g':Nat→List FlitD} {y:FlitD} {n:Nat} (h1:g n=y::g' n) (h2:g' (n+1)=g (n+1)++[y]):∀L,n<L→(∀m,m≤L→m≠n→m≠n+1→g' m=g m)→cat g' L=cat g L
 | 0,h,_=>by omega
 | L+1,h,k=>by
  by_cases e:L=n
  ·subst e
   have:=Bv (g:=g) (g':=g') L h1 (fun m hm=>k m (by omega) (by omega) (by omega))
   unfold cat
   rw [h2,this,List.append_assoc];rfl
  ·unfold cat
   rw [k (L+1) (by omega) (by omega) (by omega),Fq h1 h2 L (by omega) (fun m hm=>k m (by omega))]
def inF (list:List PkD) (s t c:Nat) (y:FlitD):Bool:=decide (sentP list y.1 s t c)
def flowFl (x:NetD) (list:List PkD) (s t c:Nat):List FlitD:=(list.filter fun p=>isFlow s t c p).flatMap (flitsOf x.1.1 x.1.2.1)
def Gen (list:List PkD) (y:FlitD):Prop:=∃p∈list,p.1=y.1∧p.2.2.1=y.2.1∧p.2.2.2.1=y.2.2.1
def Uniq (list:List PkD):Prop:=∀p∈list,∀q∈list,p.1=q.1→p=q
theorem Cn {list:List PkD} (u:Uniq list) {y:FlitD} (g:Gen list y) {s t c:Nat} (h:inF list s t c y=true):y.2.1=(t:Int)∧y.2.2.1=(c:Int):=by
 obtain ⟨p,hp,e1,e2,e3⟩:=g
 have h:sentP list y.1 s t c:=by simpa [inF] using h
 obtain ⟨q,hq,f1,f2,f3,f4⟩:=h
 have:=u p hp q hq (e1.trans f1.symm)
 subst this
 exact ⟨e2.symm.trans f3,e3.symm.trans f4⟩
structure Flow (x:NetD) (list:List PkD) (B A S:SSD) (s t c:Nat) (R:Nat→Nat) (L:Nat):Prop where
 z1:(A.getD t []).filter (inF list s t c)++(cat (fun n=>(B.getD (R n) []).filter (inF list s t c)) L++(S.getD s []).filter (inF list s t c))=flowFl x list s t c
 z2:∀j y,y∈B.getD j []→inF list s t c y=true→∃n,n≤L∧j=R n
 z3:∀k y,y∈S.getD k []→inF list s t c y=true→k=s
theorem C9 {B:SSD} {j:Nat} {y:FlitD} {r:List FlitD} (hj:B.getD j []=y::r):j<B.length:=by
 by_cases h:j<B.length
 ·exact h
 ·simp [List.getD_eq_getElem?_getD,List.getElem?_eq_none (Nat.le_of_not_lt h)] at hj
theorem Ol {B:SSD} {j:Nat} {y:FlitD} {r:List FlitD} {P:FlitD→Bool} (hj:B.getD j []=y::r) (hP:P y=false) (j':Nat):((upd B j (List.drop 1)).getD j' []).filter P=(B.getD j' []).filter P:=by
 by_cases e:j=j'
 ·subst e;rw [Ww _ (C9 hj),hj];simp [hP]
 ·rw [Q7 _ e]
theorem S8 {P:FlitD→Bool} {y:FlitD} (hP:P y=false) (B:SSD) (j j':Nat):((upd B j (·++[y])).getD j' []).filter P=(B.getD j' []).filter P:=by
 by_cases e:j=j'
 ·subst e
  by_cases hl:j<B.length
  ·rw [Ww _ hl];simp [hP]
  ·unfold upd;rw [List.set_eq_of_length_le (Nat.le_of_not_lt hl)]
 ·rw [Q7 _ e]
theorem Xj {B:SSD} {j j':Nat} {z:FlitD} (h:z∈(upd B j (List.drop 1)).getD j' []):z∈B.getD j' []:=by
 by_cases e:j=j'
 ·subst e
  by_cases hl:j<B.length
  ·rw [Ww _ hl] at h;exact List.mem_of_mem_drop h
  ·unfold upd at h;rwa [List.set_eq_of_length_le (Nat.le_of_not_lt hl)] at h
 ·rwa [Q7 _ e] at h
theorem Xd {B:SSD} {j j':Nat} {y z:FlitD} (h:z∈(upd B j (·++[y])).getD j' []):z∈B.getD j' []∨(j'=j∧z=y):=by
 by_cases e:j=j'
 ·subst e
  by_cases hl:j<B.length
  ·rw [Ww _ hl] at h
   rcases List.mem_append.1 h with h|h
   ·exact .inl h
   ·exact .inr ⟨rfl,List.mem_singleton.1 h⟩
  ·unfold upd at h;rw [List.set_eq_of_length_le (Nat.le_of_not_lt hl)] at h;exact .inl h
 ·rw [Q7 _ e] at h;exact .inl h
theorem Flow.move {x:NetD} {list:List PkD} {B A S:SSD} {O:List Int} {s t c:Nat} {R:Nat→Nat} {L:Nat} (z:Flow x list B A S s t c R L) (rt:Route x s t c R L) (hl:B.length=10*nC x) (hA:A.length=nC x)
 (u:Uniq list) (gB:∀j y,y∈B.getD j []→Gen list y) {a p i:Nat} {y:FlitD} {r:List FlitD} (k:Can x B O a p i y r) (hport:pO x a (i%2) y.2.1=(p:Int)) :
 Flow x list (mvB x B a p i y) (mvA A a p y) S s t c R L:=by
 obtain ⟨ha,hp,hi,hj,hd,bd,room⟩:=k
 by_cases hP:inF list s t c y=true
 ·obtain ⟨e1,e2⟩:=Cn u (gB _ y (by rw [hj];exact List.mem_cons_self ..)) hP
  obtain ⟨n,hn,en⟩:=z.z2 _ y (by rw [hj];exact List.mem_cons_self ..) hP
  have m1:=rt.md n hn
  have ea:R n/10=a:=by omega
  have ec:i%2=c:=by omega
  subst ec
  rw [e1] at hport
  have hlt:=rt.lt n hn
  rw [en] at hj
  rcases Nat.lt_or_ge n L with hL|hL
  ·obtain ⟨p',p1,p2,p3,_⟩:=rt.rs n hL
   rw [ea] at p2 p3
   have:p'=p:=by have:=p2.symm.trans hport;omega
   subst this
   have h4:¬p'=4:=by omega
   have hne:R n≠R (n+1):=fun e=>by have:=rt.inj n (n+1) hn (by omega) e;omega
   have hlt2:=rt.lt (n+1) (by omega)
   unfold mvB mvA
   rw [if_neg h4,if_neg h4,en,← p3]
   refine ⟨?_,fun j w hw hF=>?_,z.z3⟩
   ·rw [← z.z1]
    congr 2
    refine Fq (n:=n) (y:=y) ?_ ?_ L hL fun m hm m1 m2=>?_
    ·show (B.getD (R n) []).filter _=y::(((upd (upd B (R n) (List.drop 1)) (R (n+1)) (·++[y])).getD (R n) []).filter _)
     rw [Q7 _ (fun e=>hne e.symm),Ww _ (by omega),hj,List.filter_cons_of_pos hP];rfl
    ·show (((upd (upd B (R n) (List.drop 1)) (R (n+1)) (·++[y])).getD (R (n+1)) []).filter _)=(B.getD (R (n+1)) []).filter _++[y]
     rw [Ww _ (by rw [Ue];omega),Q7 _ hne,List.filter_append,List.filter_cons_of_pos hP];rfl
    ·show (((upd (upd B (R n) (List.drop 1)) (R (n+1)) (·++[y])).getD (R m) []).filter _)=(B.getD (R m) []).filter _
     rw [Q7 _ (fun e=>m2 (rt.inj (n+1) m (by omega) hm e).symm),Q7 _ (fun e=>m1 (rt.inj n m hn hm e).symm)]
   ·rcases Xd hw with hw|⟨rfl,rfl⟩
    ·exact z.z2 j w (Xj hw) hF
    ·exact ⟨n+1,by omega,rfl⟩
  ·have eL:n=L:=by omega
   subst eL
   have et:=rt.rt
   rw [ea] at et
   subst et
   have h4:p=4:=by have:=rt.r4;rw [this] at hport;omega
   subst h4
   unfold mvB mvA
   rw [if_pos rfl,if_pos rfl,en]
   refine ⟨?_,fun j w hw hF=>z.z2 j w (Xj hw) hF,z.z3⟩
   rw [← z.z1,Ww _ (by omega),List.filter_append,List.filter_cons_of_pos hP]
   have ct:=Bv (g:=fun m=>(B.getD (R m) []).filter (inF list s a (i%2))) (g':=fun m=>((upd B (R n) (List.drop 1)).getD (R m) []).filter (inF list s a (i%2))) (y:=y) n ?_ fun m hm=>?_
   ·rw [ct];simp
   ·show (B.getD (R n) []).filter _=y::(((upd B (R n) (List.drop 1)).getD (R n) []).filter _)
    rw [Ww _ (by omega),hj,List.filter_cons_of_pos hP];rfl
   ·show (((upd B (R n) (List.drop 1)).getD (R m) []).filter _)=(B.getD (R m) []).filter _
    rw [Q7 _ (fun e=>by have:=rt.inj n m hn (by omega) e;omega)]
 ·have hP:inF list s t c y=false:=by simpa using hP
  have eB:∀j,((mvB x B a p i y).getD j []).filter (inF list s t c)=(B.getD j []).filter (inF list s t c):=fun j=>by
   unfold mvB;split
   ·exact Ol hj hP j
   ·rw [S8 hP,Ol hj hP]
  have eA:((mvA A a p y).getD t []).filter (inF list s t c)=(A.getD t []).filter (inF list s t c):=by
   unfold mvA;split
   ·exact S8 hP A a t
   ·rfl
  refine ⟨?_,fun j w hw hF=>?_,z.z3⟩
  ·rw [eA,← z.z1]
   congr 2
   exact Zy L fun m _=>eB (R m)
  ·unfold mvB at hw
   split at hw
   ·exact z.z2 j w (Xj hw) hF
   ·rcases Xd hw with hw|⟨rfl,rfl⟩
    ·exact z.z2 j w (Xj hw) hF
    ·rw [hP] at hF;exact absurd hF (by simp)
theorem Flow.enter {x:NetD} {list:List PkD} {B A S:SSD} {s t c:Nat} {R:Nat→Nat} {L:Nat} (z:Flow x list B A S s t c R L) (rt:Route x s t c R L) (hl:B.length=10*nC x)
 (u:Uniq list) (gS:∀j y,y∈S.getD j []→Gen list y) {k c0:Nat} {y:FlitD} {r:List FlitD} (hk:k<nC x) (hc:c0<2) (ec:y.2.2.1=(c0:Int)) (hj:S.getD k []=y::r) :
 Flow x list (upd B (10*k+8+c0) (·++[y])) A (upd S k (List.drop 1)) s t c R L:=by
 by_cases hP:inF list s t c y=true
 ·obtain ⟨e1,e2⟩:=Cn u (gS _ y (by rw [hj];exact List.mem_cons_self ..)) hP
  have es:=z.z3 k y (by rw [hj];exact List.mem_cons_self ..) hP
  subst es
  have:c0=c:=by omega
  subst this
  have l0:=rt.lt 0 (by omega)
  rw [← rt.r0]
  refine ⟨?_,fun j w hw hF=>?_,fun j w hw hF=>z.z3 j w (Xj hw) hF⟩
  ·rw [← z.z1,Ww _ (C9 hj),hj,List.filter_cons_of_pos hP]
   rw [An (g:=fun m=>(B.getD (R m) []).filter (inF list k t c0)) (y:=y) ?_ L fun m hm hl'=>?_]
   ·simp
   ·show (((upd B (R 0) (·++[y])).getD (R 0) []).filter _)=(B.getD (R 0) []).filter _++[y]
    rw [Ww _ (by omega),List.filter_append,List.filter_cons_of_pos hP];rfl
   ·show (((upd B (R 0) (·++[y])).getD (R m) []).filter _)=(B.getD (R m) []).filter _
    rw [Q7 _ (fun e=>by have:=rt.inj 0 m (by omega) hl' e;omega)]
  ·rcases Xd hw with hw|⟨rfl,rfl⟩
   ·exact z.z2 j w hw hF
   ·exact ⟨0,by omega,rfl⟩
 ·have hP:inF list s t c y=false:=by simpa using hP
  refine ⟨?_,fun j w hw hF=>?_,fun j w hw hF=>z.z3 j w (Xj hw) hF⟩
  ·rw [← z.z1,Ol hj hP]
   congr 2
   exact Zy L fun m _=>S8 hP B _ (R m)
  ·rcases Xd hw with hw|⟨rfl,rfl⟩
   ·exact z.z2 j w hw hF
   ·rw [hP] at hF;exact absurd hF (by simp)
def Src (x:NetD) (j:Nat):Prop:=(∃a p c,a<nC x∧p<4∧c<2∧hasP x a p∧j=tgt x a p c)∨∃k c,k<nC x∧c<2∧j=10*k+8+c
structure Pos (x:NetD) (list:List PkD) (fr sr:Nat→Option Key):Prop where
 gf:∀j (k:Key),fr j=some k→∃p∈list,p.1=k.1∧p.2.2.1=k.2.1∧p.2.2.2.1=k.2.2
 gs:∀j (k:Key),sr j=some k→∃p∈list,p.1=k.1∧p.2.2.1=k.2.1∧p.2.2.2.1=k.2.2
 pf:∀(s t c:Nat) R L,s<nC x→t<nC x→c<2→Route x s t c R L→∀j (k:Key),fr j=some k→sentP list k.1 s t c→∃n,n≤L∧j=R n
 ps:∀(s t c:Nat),s<nC x→t<nC x→c<2→∀j (k:Key),sr j=some k→sentP list k.1 s t c→j=s
structure Good (x:NetD) (list:List PkD) (B:SSD) (O:List Int) (A S:SSD):Prop where
 lB:B.length=10*nC x
 lO:O.length=10*nC x
 lA:A.length=nC x
 lS:S.length=nC x
 cl:allP (fun j y=>y.2.2.1=(j:Int)%2) B
 gB:∀j y,y∈B.getD j []→Gen list y
 gS:∀j y,y∈S.getD j []→Gen list y
 gA:∀(t:Nat) y,y∈A.getD t []→Gen list y∧y.2.1=(t:Int)
 rc:∀j,B.getD j []≠[]→Src x j
 wf:∃st fr sr,Wf x B O A S st fr sr∧Pos x list fr sr
 fl:∀s t c R L,s<nC x→t<nC x→c<2→Route x s t c R L→Flow x list B A S s t c R L
structure Sent (x:NetD) (list:List PkD):Prop where
 u:Uniq list
 ok:∀p∈list,packetOk x.1.1 x.1.2.1 p
theorem Jj {x:NetD} {list:List PkD} (h:Sent x list) {y:FlitD} (g:Gen list y):∃t c:Nat,t<nC x∧c<2∧y.2.1=(t:Int)∧y.2.2.1=(c:Int):=by
 obtain ⟨p,hp,_,e2,e3⟩:=g
 obtain ⟨_,_,⟨k1,k2⟩,_,k3,_⟩:=h.ok p hp
 have:=Yi x
 unfold inR at k3
 exact ⟨p.2.2.1.toNat,p.2.2.2.1.toNat,by omega,by omega,by omega,by omega⟩
theorem Good.move {x:NetD} {list:List PkD} {B:SSD} {O:List Int} {A S:SSD} (g:Good x list B O A S) (h:Sent x list) (tk:tabsOk x) {a p i:Nat} {y:FlitD} {r:List FlitD} (k:Can x B O a p i y r) :
 Good x list (mvB x B a p i y) (mvO O a p i y) (mvA A a p y) S:=by
 obtain ⟨st,fr,sr,w,ps⟩:=g.wf
 have hj:=k.hj
 have hm:y∈B.getD (10*a+i) []:=by rw [hj];exact List.mem_cons_self ..
 have hs:∃u,Str (fr (10*a+i)) (y::r) u:=by
  rcases g.rc (10*a+i) (by rw [hj];simp) with ⟨a',p',c',h1,h2,h3,h4,e⟩|⟨k',c',h1,h2,e⟩
  ·have:=w.w4 a' p' c' h1 h2 h3 h4
   rw [← e,hj] at this;exact ⟨_,this⟩
  ·have:=w.w5 k' c' h1 h2
   rw [← e,hj] at this;exact ⟨_,this⟩
 obtain ⟨hport,w'⟩:=w.move g.lB g.lO g.lA g.cl k hs
 have pos':Pos x list (setF fr (10*a+i) (nx y)) sr:=by
  refine ⟨fun j q e=>?_,ps.gs,fun s t c R L h1 h2 h3 rt j q e hq=>?_,ps.ps⟩
  ·by_cases ej:j=10*a+i
   ·subst ej
    rw [Xn] at e
    obtain ⟨_,rfl⟩:=Ze e
    exact g.gB _ y hm
   ·rw [W8 _ _ ej] at e;exact ps.gf j q e
  ·by_cases ej:j=10*a+i
   ·subst ej
    rw [Xn] at e
    obtain ⟨_,rfl⟩:=Ze e
    exact (g.fl s t c R L h1 h2 h3 rt).z2 _ y hm (by unfold inF;rw [decide_eq_true_eq];exact hq)
   ·rw [W8 _ _ ej] at e;exact ps.pf s t c R L h1 h2 h3 rt j q e hq
 obtain ⟨t0,c0,ht,hc0,et,ec⟩:=Jj h (g.gB _ y hm)
 have ci:=g.cl _ y hm
 have ha:=k.ha
 have hi:=k.hi
 have hp:=k.hp
 have hA:p=4→y.2.1=(a:Int):=fun e=>by
  subst e
  rw [et] at hport
  have:=Qbj tk ha ht (by omega) hport
  omega
 refine ⟨?_,?_,?_,g.lS,fun j z hz=>?_,fun j z hz=>?_,g.gS,fun t z hz=>?_,fun j hne=>?_,⟨_,_,sr,w',pos'⟩,fun s t c R L h1 h2 h3 rt=>(g.fl s t c R L h1 h2 h3 rt).move rt g.lB g.lA h.u g.gB k hport⟩
 ·unfold mvB;split<;>simp [g.lB]
 ·unfold mvO;simp [g.lO]
 ·unfold mvA;split<;>simp [g.lA]
 ·unfold mvB at hz
  split at hz
  ·exact g.cl j z (Xj hz)
  ·rename_i h4
   rcases Xd hz with hz|⟨rfl,rfl⟩
   ·exact g.cl j z (Xj hz)
   ·have:=(Zm (c:=i%2) (k.room.resolve_left h4) (by omega) (by omega)).2.1
    rw [ci];omega
 ·unfold mvB at hz
  split at hz
  ·exact g.gB j z (Xj hz)
  ·rcases Xd hz with hz|⟨rfl,rfl⟩
   ·exact g.gB j z (Xj hz)
   ·exact g.gB _ _ hm
 ·unfold mvA at hz
  split at hz
  ·rename_i h4
   rcases Xd hz with hz|⟨rfl,rfl⟩
   ·exact g.gA t z hz
   ·exact ⟨g.gB _ _ hm,hA h4⟩
  ·exact g.gA t z hz
 ·obtain ⟨z,hz⟩:=List.exists_mem_of_ne_nil _ hne
  unfold mvB at hz
  split at hz
  ·exact g.rc j (List.ne_nil_of_mem (Xj hz))
  ·rename_i h4
   rcases Xd hz with hz|⟨rfl,rfl⟩
   ·exact g.rc j (List.ne_nil_of_mem (Xj hz))
   ·exact .inl ⟨a,p,i%2,ha,by omega,by omega,k.room.resolve_left h4,rfl⟩
theorem Good.enter {x:NetD} {list:List PkD} {B:SSD} {O:List Int} {A S:SSD} (g:Good x list B O A S) (h:Sent x list) (tk:tabsOk x) {k c:Nat} {y:FlitD} {r:List FlitD} (hk:k<nC x) (hc:c<2) (ec:y.2.2.1=(c:Int)) (hj:S.getD k []=y::r) :
 Good x list (upd B (10*k+8+c) (·++[y])) O A (upd S k (List.drop 1)):=by
 obtain ⟨st,fr,sr,w,ps⟩:=g.wf
 have w':=w.enter g.lB g.lS hk hc ec hj
 have hm:y∈S.getD k []:=by rw [hj];exact List.mem_cons_self ..
 have tk:tabsOk x:=tk
 have pos':Pos x list fr (setF sr k (nx y)):=by
  refine ⟨ps.gf,fun j q e=>?_,ps.pf,fun s t c' h1 h2 h3 j q e hq=>?_⟩
  ·by_cases ej:j=k
   ·subst ej
    rw [Xn] at e
    obtain ⟨_,rfl⟩:=Ze e
    exact g.gS _ y hm
   ·rw [W8 _ _ ej] at e;exact ps.gs j q e
  ·by_cases ej:j=k
   ·subst ej
    rw [Xn] at e
    obtain ⟨_,rfl⟩:=Ze e
    obtain ⟨R,L,rt⟩:=Z1 tk h1 h2 h3
    exact (g.fl s t c' R L h1 h2 h3 rt).z3 _ y hm (by unfold inF;rw [decide_eq_true_eq];exact hq)
   ·rw [W8 _ _ ej] at e;exact ps.ps s t c' h1 h2 h3 j q e hq
 refine ⟨by simp [g.lB],g.lO,g.lA,by simp [g.lS],fun j z hz=>?_,fun j z hz=>?_,fun j z hz=>g.gS j z (Xj hz),g.gA,fun j hne=>?_,⟨_,_,_,w',pos'⟩,fun s t c' R L h1 h2 h3 rt=>(g.fl s t c' R L h1 h2 h3 rt).enter rt g.lB h.u g.gS hk hc ec hj⟩
 ·rcases Xd hz with hz|⟨rfl,rfl⟩
  ·exact g.cl j z hz
  ·rw [ec];omega
 ·rcases Xd hz with hz|⟨rfl,rfl⟩
  ·exact g.gB j z hz
  ·exact g.gS _ _ hm
 ·obtain ⟨z,hz⟩:=List.exists_mem_of_ne_nil _ hne
  rcases Xd hz with hz|⟨rfl,rfl⟩
  ·exact g.rc j (List.ne_nil_of_mem hz)
  ·exact .inr ⟨k,c,hk,hc,rfl⟩
def stat (x:NetD):NetD:=(x.1,x.2.1,[],[],[],[],[],0)
theorem X9 {l:List FlitD} (h:l≠[]):l=headL l::l.drop 1:=by
 cases l with
 | nil=>exact absurd rfl h
 | cons a l=>rfl
def Fits (x:NetD) (B:SSD) (O:List Int) (g:GrD):Prop:=B.getD (frm g) []≠[]∧headL (B.getD (frm g) [])=headOf x (frm g)∧O.getD (outAt g.1 g.2.1 (g.2.2%2)) 0=x.2.2.2.1.getD (outAt g.1 g.2.1 (g.2.2%2)) 0
theorem Co {x:NetD} {B:SSD} {O:List Int} {g:GrD} (hg:g.1<nC x∧g.2.1<5∧g.2.2<10∧reqN x g.1 g.2.2 g.2.1) (f:Fits x B O g):Can (stat x) B O g.1 g.2.1 g.2.2 (headOf x (frm g)) ((B.getD (frm g) []).drop 1):=by
 obtain ⟨h1,h2,h3,r1,r2,r3⟩:=hg
 obtain ⟨f1,f2,f3⟩:=f
 have hB:=X9 f1
 rw [f2] at hB
 rw [r3] at f3
 have hne:x.2.2.1.getD (10*g.1+g.2.2) []≠[]:=fun e=>by
  unfold wantedN at r1;rw [if_pos e] at r1;omega
 refine ⟨h1,h2,h3,hB,fun e=>?_,fun e=>?_,?_⟩
 ·have e':(headOf x (10*g.1+g.2.2)).2.2.2.1=true:=e
  unfold wantedN at r1
  rw [if_neg hne,if_pos e'] at r1
  rw [if_pos e'] at f3
  exact ⟨r1,f3⟩
 ·have e':(headOf x (10*g.1+g.2.2)).2.2.2.1=false:=e
  rw [if_neg (by simp [e'])] at f3
  exact f3
 ·rcases r2 with e|⟨e,_⟩
  ·exact .inl e
  ·exact .inr e
theorem Ku (x:NetD) (B:SSD) (g:GrD):bothS x B g=mvB (stat x) B g.1 g.2.1 g.2.2 (headOf x (frm g)):=by
 unfold bothS pushS mvB popS
 split<;>rfl
theorem kv (x:NetD) (A:SSD) (g:GrD):arrS x A g=mvA A g.1 g.2.1 (headOf x (frm g)):=rfl
theorem jr (x:NetD) (O:List Int) (g:GrD):ownS x O g=mvO O g.1 g.2.1 g.2.2 (headOf x (frm g)):=rfl
theorem Pk {B:SSD} {j k:Nat} {y:FlitD} (h:B.getD j []≠[]):(upd B k (·++[y])).getD j []≠[]∧headL ((upd B k (·++[y])).getD j [])=headL (B.getD j []):=by
 by_cases e:k=j
 ·subst e
  by_cases hl:k<B.length
  ·rw [Ww _ hl]
   cases hh:B.getD k [] with
   | nil=>exact absurd hh h
   | cons a l=>exact ⟨by simp,rfl⟩
  ·unfold upd;rw [List.set_eq_of_length_le (Nat.le_of_not_lt hl)];exact ⟨h,rfl⟩
 ·rw [Q7 _ e];exact ⟨h,rfl⟩
theorem Good.grants {x:NetD} {list:List PkD} (h:Sent (stat x) list) (tk:tabsOk (stat x)):∀(l:List GrD) {B:SSD} {O:List Int} {A S:SSD},Good (stat x) list B O A S→(l.map frm).Nodup→(l.map key).Nodup→(∀g∈l,(g.1<nC x∧g.2.1<5∧g.2.2<10∧reqN x g.1 g.2.2 g.2.1)∧Fits x B O g)→
 Good (stat x) list (l.foldl (bothS x) B) (l.foldl (ownS x) O) (l.foldl (arrS x) A) S
 | [],B,O,A,S,g,_,_,_=>g
 | a::l,B,O,A,S,g,n1,n2,hf=>by
  obtain ⟨p1,p2⟩:=List.nodup_cons.1 n1
  obtain ⟨q1,q2⟩:=List.nodup_cons.1 n2
  obtain ⟨ha,fa⟩:=hf a (List.mem_cons_self ..)
  have g':=g.move h tk (Co ha fa)
  rw [← Ku,← jr,← kv] at g'
  simp only [List.foldl_cons]
  refine Good.grants h tk l g' p2 q2 fun b hb=>?_
  obtain ⟨hb1,f1,f2,f3⟩:=hf b (List.mem_cons_of_mem _ hb)
  have e1:frm a≠frm b:=fun e=>p1 (e▸List.mem_map_of_mem hb)
  have e2:key a≠key b:=fun e=>q1 (e▸List.mem_map_of_mem hb)
  refine ⟨hb1,?_⟩
  have k1:(popS B a).getD (frm b) []=B.getD (frm b) []:=Q7 _ e1
  have k2:(ownS x O a).getD (outAt b.1 b.2.1 (b.2.2%2)) 0=O.getD (outAt b.1 b.2.1 (b.2.2%2)) 0:=by
   have hne:outAt a.1 a.2.1 (a.2.2%2)≠outAt b.1 b.2.1 (b.2.2%2):=fun e=>by
    obtain ⟨c1,c2,_⟩:=Sx ha.2.1 hb1.2.1 (by omega) (by omega) e
    exact e2 (by unfold key;rw [c1,c2])
   unfold ownS
   simp only [List.getD_eq_getElem?_getD]
   rw [List.getElem?_set_ne hne]
  have k3:(bothS x B a).getD (frm b) []≠[]∧headL ((bothS x B a).getD (frm b) [])=headL (B.getD (frm b) []):=by
   unfold bothS pushS
   split
   ·rw [k1];exact ⟨f1,rfl⟩
   ·have:=Pk (B:=popS B a) (j:=frm b) (k:=tgt x a.1 a.2.1 (a.2.2%2)) (y:=headOf x (frm a)) (by rw [k1];exact f1)
    rw [k1] at this;exact this
  exact ⟨k3.1,k3.2.trans f2,k2.trans f3⟩
theorem Good.enters {x:NetD} {list:List PkD} (h:Sent (stat x) list) (tk:tabsOk (stat x)):∀(l:List Nat) {B:SSD} {O:List Int} {A S:SSD},Good (stat x) list B O A S→l.Nodup→(∀k∈l,k<nC x∧S.getD k []≠[]∧headL (S.getD k [])=srcHead x k)→
 Good (stat x) list (l.foldl (entS x) B) O A (l.foldl srcS S)
 | [],B,O,A,S,g,_,_=>g
 | k::l,B,O,A,S,g,n,hf=>by
  obtain ⟨p1,p2⟩:=List.nodup_cons.1 n
  obtain ⟨hk,f1,f2⟩:=hf k (List.mem_cons_self ..)
  have hS:=X9 f1
  rw [f2] at hS
  obtain ⟨t,c,_,hc,_,ec⟩:=Jj h (g.gS k (srcHead x k) (by rw [hS];exact List.mem_cons_self ..))
  have g':=g.enter h tk (k:=k) (c:=c) hk hc ec hS
  have e1:entAt x k=10*k+8+c:=by unfold entAt;rw [ec];omega
  have e2:entS x B k=upd B (10*k+8+c) (·++[srcHead x k]):=by unfold entS;rw [e1]
  have e3:srcS S k=upd S k (List.drop 1):=rfl
  rw [← e2,← e3] at g'
  simp only [List.foldl_cons]
  refine Good.enters h tk l g' p2 fun j hj=>?_
  obtain ⟨c1,c2,c3⟩:=hf j (List.mem_cons_of_mem _ hj)
  have hne:k≠j:=fun e=>p1 (e▸hj)
  refine ⟨c1,?_⟩
  have:(srcS S k).getD j []=S.getD j []:=Q7 _ hne
  rw [this];exact ⟨c2,c3⟩
def GoodN (x:NetD) (list:List PkD):Prop:=Good (stat x) list x.2.2.1 x.2.2.2.1 x.2.2.2.2.2.2.1 x.2.2.2.2.2.1
theorem xb {x:NetD} {list:List PkD} (hc:classesOk x.1.1 x.1.2.1 x.1.2.2 x.2.1.1 x.2.1.2) (h:Sent (stat x) list) (g:GoodN x list):GoodN (stepN x) list:=by
 have tk:tabsOk (stat x):=Xk (x:=stat x) hc
 have hg:∀a∈allN x,a.1<nC x∧a.2.1<5∧a.2.2<10∧reqN x a.1 a.2.2 a.2.1:=fun a ha=>by
  obtain ⟨h1,h2⟩:=Yt ha
  have:=Yi x
  exact ⟨by omega,h2⟩
 have k1:Good (stat x) list ((allN x).foldl (bothS x) x.2.2.1) ((allN x).foldl (ownS x) x.2.2.2.1) ((allN x).foldl (arrS x) x.2.2.2.2.2.2.1) x.2.2.2.2.2.1:=
  Good.grants h tk (allN x) g (Uf x) (Y4 x _) fun a ha=>⟨hg a ha,Tm (hg a ha).2.2.2,rfl,rfl⟩
 rw [Ks x (allN x) x.2.2.1 (Uf x) fun a ha=>Tm (hg a ha).2.2.2] at k1
 exact Good.enters h tk (enterN x) k1 (Vw x) fun k hk=>by
  obtain ⟨h1,h2⟩:=Xi hk
  have:=Yi x
  exact ⟨by omega,h2.1,rfl⟩
theorem Z5 {x:NetD} {list:List PkD} (hc:classesOk x.1.1 x.1.2.1 x.1.2.2 x.2.1.1 x.2.1.2) (h:Sent (stat x) list) (g:GoodN x list):∀k,(stat (runN x k)=stat x)∧GoodN (runN x k) list
 | 0=>⟨rfl,g⟩
 | k+1=>by
  obtain ⟨e,ih⟩:=Z5 hc h g k
  have e1':(stat (runN x k)).1=(stat x).1:=by rw [e]
  have e2':(stat (runN x k)).2.1=(stat x).2.1:=by rw [e]
  have e1:(runN x k).1=x.1:=e1'
  have e2:(runN x k).2.1=x.2.1:=e2'
  refine ⟨e,xb (x:=runN x k) (by rw [e1,e2];exact hc) (by rw [e];exact h) ih⟩
theorem U0 (l m:List FlitD):tailIds (l++m)=tailIds l++tailIds m:=by simp [tailIds]
def firstFl (p:PkD) (n:Nat):List FlitD:=(List.range n).map fun i:Nat=>(p.1,p.2.2.1,p.2.2.2.1,decide ((i:Int)=0),false)
theorem Jr (p:PkD) (n:Nat):firstFl p (n+1)=firstFl p n++[(p.1,p.2.2.1,p.2.2.2.1,decide ((n:Int)=0),false)]:=by
 unfold firstFl;rw [List.range_succ,List.map_append];rfl
theorem Nz {w h:Int} {p:PkD} (g:packetOk w h p):∃n:Nat,flitsOf w h p=firstFl p n++[(p.1,p.2.2.1,p.2.2.2.1,decide ((n:Int)=0),true)]:=by
 have h5:=g.2.2.2.2.2
 unfold inR at h5
 obtain ⟨n,hn⟩:∃n:Nat,p.2.2.2.2.toNat=n+1:=⟨p.2.2.2.2.toNat-1,by omega⟩
 have hp:p.2.2.2.2=(n:Int)+1:=by omega
 refine ⟨n,?_⟩
 unfold flitsOf
 rw [if_pos g,hn,List.range_succ,List.map_append,hp]
 congr 1
 ·unfold firstFl
  refine List.map_congr_left fun i hi=>?_
  have:=List.mem_range.1 hi
  have e:decide ((i:Int)=(n:Int)+1-1)=false:=by rw [decide_eq_false_iff_not];omega
  rw [e]
 ·simp
theorem R7 (p:PkD):∀n,Str none (firstFl p n) (if n=0 then none else some (p.1,p.2.2.1,p.2.2.2.1))
 | 0=>rfl
 | n+1=>by
  rw [Jr,if_neg (by omega)]
  have:=(R7 p n).snoc (f:=(p.1,p.2.2.1,p.2.2.2.1,decide ((n:Int)=0),false)) ?_
  ·exact this
  ·by_cases e:n=0
   ·rw [if_pos e];exact .inl ⟨by subst e;simp,rfl⟩
   ·rw [if_neg e];exact .inr ⟨by simp;omega,rfl⟩
theorem R8 {w h:Int} {p:PkD} (g:packetOk w h p):Str none (flitsOf w h p) none:=by
 obtain ⟨n,e⟩:=Nz g
 rw [e]
 refine (R7 p n).snoc (f:=(p.1,p.2.2.1,p.2.2.2.1,decide ((n:Int)=0),true)) ?_
 by_cases e:n=0
 ·rw [if_pos e];exact .inl ⟨by subst e;simp,rfl⟩
 ·rw [if_neg e];exact .inr ⟨by simp;omega,rfl⟩
theorem Mg {w h:Int} {p:PkD} (g:packetOk w h p):tailIds (flitsOf w h p)=[p.1]:=by
 obtain ⟨n,e⟩:=Nz g
 have h1:tailIds (firstFl p n)=[]:=by
  unfold tailIds
  rw [List.filter_eq_nil_iff.2]
  ·rfl
  ·intro y hy
   unfold firstFl at hy
   obtain ⟨i,_,rfl⟩:=List.mem_map.1 hy
   simp [isTail]
 rw [e,U0,h1]
 rfl
theorem U3 {w h:Int} {p:PkD} {y:FlitD} (hy:y∈flitsOf w h p):p.1=y.1∧p.2.2.1=y.2.1∧p.2.2.2.1=y.2.2.1:=by
 unfold flitsOf at hy
 split at hy
 ·obtain ⟨i,_,rfl⟩:=List.mem_map.1 hy;exact ⟨rfl,rfl,rfl⟩
 ·simp at hy
theorem Og {x:NetD} {list:List PkD} {s t c:Nat} (h:∀p∈list,packetOk x.1.1 x.1.2.1 p):tailIds (flowFl x list s t c)=sentIds list s t c:=by
 unfold flowFl sentIds
 have h':∀p∈list.filter (fun p=>decide (isFlow s t c p)),packetOk x.1.1 x.1.2.1 p:=fun p hp=>h p (List.mem_filter.1 hp).1
 generalize list.filter (fun p=>decide (isFlow s t c p))=l at *
 induction l with
 | nil=>rfl
 | cons p l ih=>
  rw [List.flatMap_cons,U0,Mg (h' p (List.mem_cons_self ..)),ih fun q hq=>h' q (List.mem_cons_of_mem _ hq)]
  rfl
theorem nf {x:NetD} {list:List PkD} {s t c:Nat} (h:∀p∈list,packetOk x.1.1 x.1.2.1 p):Str none (flowFl x list s t c) none:=by
 unfold flowFl
 have h':∀p∈list.filter (fun p=>decide (isFlow s t c p)),packetOk x.1.1 x.1.2.1 p:=fun p hp=>h p (List.mem_filter.1 hp).1
 generalize list.filter (fun p=>decide (isFlow s t c p))=l at *
 induction l with
 | nil=>rfl
 | cons p l ih=>
  rw [List.flatMap_cons]
  exact (R8 (h' p (List.mem_cons_self ..))).app (ih fun q hq=>h' q (List.mem_cons_of_mem _ hq))
theorem Nd {A:SSD} {list:List PkD} (u:Uniq list) {t:Nat} (gA:∀y∈A.getD t [],Gen list y) (s c:Nat):((A.getD t []).filter fun f=>f.2.2.1=(c:Int)).filter (inF list s t c)=(A.getD t []).filter (inF list s t c):=by
 rw [List.filter_filter]
 refine List.filter_congr fun y hy=>?_
 by_cases e:inF list s t c y=true
 ·rw [e];simp [(Cn u (gA y hy) e).2]
 ·have e:inF list s t c y=false:=by simpa using e
  rw [e];rfl
theorem F6 (l:List FlitD) (list:List PkD) (s t c:Nat):among (tailIds l) list s t c=tailIds (l.filter (inF list s t c)):=by
 unfold among tailIds
 rw [List.filter_map,List.filter_filter,List.filter_filter]
 congr 1
 refine List.filter_congr fun y _=>?_
 exact Bool.and_comm _ _
theorem yx {x:NetD} {list:List PkD} (hn:netOk x) (h:Sent (stat x) list) (g:GoodN x list):keepsOk x list:=by
 refine ⟨hn,fun t ht c hc s hs=>?_⟩
 have hA:x.2.2.2.2.2.2.1.length=nC x:=g.lA
 rw [hA] at ht hs
 obtain ⟨st,fr,sr,w,_⟩:=g.wf
 have w7:=w.w7 t c ht hc
 obtain ⟨R,L,rt⟩:=Z1 (x:=stat x) (Xk (x:=stat x) hn.1) hs ht hc
 have z:=(g.fl s t c R L hs ht hc rt).z1
 unfold flowOk arrIds
 rw [R5 _ _ w7,F6,Nd h.u fun y hy=>(g.gA t y hy).1,← Og (x:=stat x) h.ok,← z,U0]
 unfold isPre
 rw [List.take_left]
theorem Good.still {x:NetD} {list:List PkD} {B:SSD} {O:List Int} {A S:SSD} (lB:B.length=10*nC x) (lO:O.length=10*nC x) (lA:A.length=nC x) (lS:S.length=nC x) (hB:∀j,B.getD j []=[]) (hS:∀j,S.getD j []=[]) (hO:∀o∈O,o=-1)
 (gA:∀(t:Nat) y,y∈A.getD t []→Gen list y∧y.2.1=(t:Int)) (w7:∀t c:Nat,t<nC x→c<2→Str none ((A.getD t []).filter fun f=>f.2.2.1=(c:Int)) none)
 (zz:∀s t c:Nat,s<nC x→t<nC x→c<2→(A.getD t []).filter (inF list s t c)=flowFl x list s t c):Good x list B O A S:=by
 have eO:∀a p c,a<nC x→p<5→c<2→O.getD (outAt a p c) 0=-1:=fun a p c ha hp hc=>by
  have hl:outAt a p c<O.length:=by unfold outAt;omega
  rw [List.getD_eq_getElem?_getD,List.getElem?_eq_getElem hl]
  exact hO _ (List.getElem_mem hl)
 refine ⟨lB,lO,lA,lS,fun j y hy=>?_,fun j y hy=>?_,fun j y hy=>?_,gA,fun j hne=>absurd (hB j) hne,⟨fun _=>none,fun _=>none,fun _=>none,⟨fun _ _ _ _ _ _ _=>rfl,fun a p c q h1 h2 h3 h4 h5=>?_,fun a q c k h1 h2 h3 h4=>?_,fun a p c h1 h2 h3 h4=>?_,fun k c h1 h2=>?_,fun k h1=>?_,w7⟩,⟨fun _ _ e=>by simp at e,fun _ _ e=>by simp at e,fun _ _ _ _ _ _ _ _ _ _ _ e=>by simp at e,fun _ _ _ _ _ _ _ _ e=>by simp at e⟩⟩,fun s t c R L h1 h2 h3 rt=>⟨?_,fun j y hy=>?_,fun k y hy=>?_⟩⟩
 ·rw [hB] at hy;simp at hy
 ·rw [hB] at hy;simp at hy
 ·rw [hS] at hy;simp at hy
 ·rw [eO a p c h1 h2 h3] at h5;omega
 ·simp at h4
 ·rw [hB];rfl
 ·rw [hB];rfl
 ·rw [hS];rfl
 ·have ec:∀L,cat (fun n=>(B.getD (R n) []).filter (inF list s t c)) L=[]:=fun L=>by
   induction L with
   | zero=>show (B.getD (R 0) []).filter _=[];rw [hB];rfl
   | succ L ih=>show (B.getD (R (L+1)) []).filter _++cat _ L=[];rw [hB,ih];rfl
  rw [ec,hS,zz s t c h1 h2 h3]
  simp
 ·rw [hB] at hy;simp at hy
 ·rw [hS] at hy;simp at hy
theorem Iz {x:NetD} {list:List PkD} (hn:netOk x) (hi:idle x) (h:Sent (stat x) list) (g:GoodN x list) :
 (∀s t c:Nat,s<nC x→t<nC x→c<2→(x.2.2.2.2.2.2.1.getD t []).filter (inF list s t c)=flowFl x list s t c)∧∀t c:Nat,t<nC x→c<2→Str none ((x.2.2.2.2.2.2.1.getD t []).filter fun f=>f.2.2.1=(c:Int)) none:=by
 have hB:=Xe hi.1
 have hS:=Xe hi.2
 have zz:∀s t c:Nat,s<nC x→t<nC x→c<2→(x.2.2.2.2.2.2.1.getD t []).filter (inF list s t c)=flowFl x list s t c:=fun s t c hs ht hc=>by
  obtain ⟨R,L,rt⟩:=Z1 (x:=stat x) (Xk (x:=stat x) hn.1) hs ht hc
  have z:=(g.fl s t c R L hs ht hc rt).z1
  have ec:∀L,cat (fun n=>(x.2.2.1.getD (R n) []).filter (inF list s t c)) L=[]:=fun L=>by
   induction L with
   | zero=>show (x.2.2.1.getD (R 0) []).filter _=[];rw [hB];rfl
   | succ L ih=>show (x.2.2.1.getD (R (L+1)) []).filter _++cat _ L=[];rw [hB,ih];rfl
  rw [ec,hS] at z
  simp at z
  exact z
 refine ⟨zz,fun t c ht hc=>?_⟩
 obtain ⟨st,fr,sr,w,_⟩:=g.wf
 have w7:=w.w7 t c ht hc
 generalize hl:((x.2.2.2.2.2.2.1.getD t []).filter fun f=>f.2.2.1=(c:Int))=l at *
 cases hu:st (outAt t 4 c) with
 | none=>rw [hu] at w7;exact w7
 | some k=>
  exfalso
  rw [hu] at w7
  have hne:l≠[]:=fun e=>by rw [e] at w7;have:(none:Option Key)=some k:=w7;simp at this
  obtain ⟨m,y,e⟩:∃m y,l=m++[y]:=⟨l.dropLast,l.getLast hne,(List.dropLast_concat_getLast hne).symm⟩
  rw [e] at w7
  obtain ⟨_,_,_,ek⟩:=w7.unsnoc
  have nt:=(Ze ek.symm).1
  have hy:y∈x.2.2.2.2.2.2.1.getD t []∧y.2.2.1=(c:Int):=by
   have:y∈l:=by rw [e];simp
   rw [← hl] at this
   simpa using List.mem_filter.1 this
  obtain ⟨⟨p,hp,p1,p2,p3⟩,p4⟩:=g.gA t y hy.1
  obtain ⟨_,⟨q1,q2⟩,_,_⟩:=h.ok p hp
  have hnn:=Yi x
  have q2':p.2.1<cnt x.1.1 x.1.2.1:=q2
  have es:((p.2.1.toNat:Nat):Int)=p.2.1:=by omega
  have hF:inF list p.2.1.toNat t c y=true:=by
   unfold inF
   rw [decide_eq_true_eq]
   exact ⟨p,hp,p1,by rw [es],by rw [p2,p4],by rw [p3,hy.2]⟩
  have z:=zz p.2.1.toNat t c (by omega) ht hc
  have ea:=Nd h.u (fun y hy=>(g.gA t y hy).1) p.2.1.toNat c
  rw [hl,e,List.filter_append,List.filter_cons_of_pos hF,z] at ea
  have sf:=nf (x:=stat x) (s:=p.2.1.toNat) (t:=t) (c:=c) h.ok
  have sf':Str none (flowFl x list p.2.1.toNat t c) none:=sf
  rw [← ea] at sf'
  obtain ⟨_,_,_,ek2⟩:=sf'.unsnoc
  rw [← ek] at ek2
  simp at ek2
theorem Dh {x:NetD} {list:List PkD} {m:MeshD} {t:ClassesD} (hn:netOk x) (hi:idle x) (hm:m.1=x.1.1∧m.2.1=x.1.2.1) (h:Sent (stat x) list) (g:GoodN x list):GoodN (fresh x m t) list:=by
 obtain ⟨zz,w7⟩:=Iz hn hi h g
 have en:nC (stat (fresh x m t))=nC x:=by show (cnt m.1 m.2.1).toNat=(cnt x.1.1 x.1.2.1).toNat;rw [hm.1,hm.2]
 have lB:x.2.2.1.length=10*nC x:=g.lB
 have lO:x.2.2.2.1.length=10*nC x:=g.lO
 have lA:x.2.2.2.2.2.2.1.length=nC x:=g.lA
 have lS:x.2.2.2.2.2.1.length=nC x:=g.lS
 refine Good.still ?_ ?_ ?_ ?_ (Xe hi.1) (Xe hi.2) (fun o ho=>List.eq_of_mem_replicate ho) g.gA ?_ ?_
 ·rw [en];exact lB
 ·rw [en];show (List.replicate _ _).length=_;rw [List.length_replicate];exact lO
 ·rw [en];exact lA
 ·rw [en];exact lS
 ·intro t' c h1 h2;rw [en] at h1;exact w7 t' c h1 h2
 ·intro s t' c h1 h2 h3
  rw [en] at h1 h2
  have:=zz s t' c h1 h2 h3
  have e:flowFl (stat (fresh x m t)) list s t' c=flowFl x list s t' c:=by
   unfold flowFl
   show List.flatMap (flitsOf m.1 m.2.1) _=_
   rw [hm.1,hm.2]
  rw [e];exact this
theorem Zf {x:NetD} {list:List PkD} (h:sentOk x.1.1 x.1.2.1 list):Sent (stat x) list:=by
 have at':∀p∈list,∃i,i<list.length∧list.getD i pk0=p∧p.1=(i:Int)+1∧packetOk x.1.1 x.1.2.1 p:=fun p hp=>by
  obtain ⟨i,hi,rfl⟩:=List.mem_iff_getElem.1 hp
  obtain ⟨h1,h2⟩:=h i hi
  have e:list.getD i pk0=list[i]:=by simp [List.getD_eq_getElem?_getD,hi]
  rw [e] at h1 h2
  exact ⟨i,hi,e,h2,h1⟩
 refine ⟨fun p hp q hq e=>?_,fun p hp=>?_⟩
 ·obtain ⟨i,hi,e1,e2,_⟩:=at' p hp
  obtain ⟨j,hj,f1,f2,_⟩:=at' q hq
  have:i=j:=by omega
  subst this
  exact e1.symm.trans f1
 ·obtain ⟨_,_,_,_,k⟩:=at' p hp;exact k
theorem kd {w h:Int} {list:List PkD} (k:sentOk w h list):∀p∈list,p.1≤list.length:=fun p hp=>by
 obtain ⟨i,hi,rfl⟩:=List.mem_iff_getElem.1 hp
 have h2:=(k i hi).2
 have e:list.getD i pk0=list[i]:=by simp [List.getD_eq_getElem?_getD,hi]
 rw [e] at h2;omega
theorem vz {x:NetD} {list:List PkD} {p:PkD} (hn:netOk x) (hS:Sent (stat x) list) (hnew:∀q∈list,q.1≠p.1) (hp:packetOk x.1.1 x.1.2.1 p) (g:GoodN x list):GoodN (sendNet x p) (list++[p]):=by
 have hnn:=Yi x
 have hp0:=hp
 obtain ⟨_,⟨q1,q2⟩,_,_,q3,_⟩:=hp
 have hk:p.2.1.toNat<nC x:=by omega
 have gen:∀y,Gen list y→Gen (list++[p]) y:=fun y ⟨q,hq,e⟩=>⟨q,List.mem_append_left _ hq,e⟩
 have genp:∀y,y∈flitsOf x.1.1 x.1.2.1 p→Gen (list++[p]) y:=fun y hy=>⟨p,by simp,U3 hy⟩
 have inO:∀s t c y,Gen list y→inF (list++[p]) s t c y=inF list s t c y:=fun s t c y ⟨q,hq,e1,_⟩=>by
  unfold inF
  congr 1
  apply propext
  constructor
  ·rintro ⟨r,hr,r1,r2⟩
   rcases List.mem_append.1 hr with hr|hr
   ·exact ⟨r,hr,r1,r2⟩
   ·rw [List.mem_singleton.1 hr] at r1
    exact absurd (e1.trans r1.symm) (hnew q hq)
  ·rintro ⟨r,hr,r1,r2⟩
   exact ⟨r,List.mem_append_left _ hr,r1,r2⟩
 have inP:∀(s t c:Nat) y,y∈flitsOf x.1.1 x.1.2.1 p→inF (list++[p]) s t c y=decide (isFlow s t c p):=fun s t c y hy=>by
  obtain ⟨e1,_,_⟩:=U3 hy
  unfold inF
  congr 1
  apply propext
  constructor
  ·rintro ⟨r,hr,r1,r2⟩
   rcases List.mem_append.1 hr with hr|hr
   ·exact absurd (r1.trans e1.symm) (hnew r hr)
   ·rw [← List.mem_singleton.1 hr];exact r2
  ·intro r;exact ⟨p,by simp,e1,r⟩
 have lS:x.2.2.2.2.2.1.length=nC x:=g.lS
 have eS:(sendNet x p).2.2.2.2.2.1=x.2.2.2.2.2.1.set p.2.1.toNat (x.2.2.2.2.2.1.getD p.2.1.toNat []++flitsOf x.1.1 x.1.2.1 p):=rfl
 have at1:(x.2.2.2.2.2.1.set p.2.1.toNat (x.2.2.2.2.2.1.getD p.2.1.toNat []++flitsOf x.1.1 x.1.2.1 p)).getD p.2.1.toNat []=x.2.2.2.2.2.1.getD p.2.1.toNat []++flitsOf x.1.1 x.1.2.1 p:=by
  rw [List.getD_eq_getElem?_getD,List.getElem?_set_self (by omega)];rfl
 have at2:∀k,k≠p.2.1.toNat→(x.2.2.2.2.2.1.set p.2.1.toNat (x.2.2.2.2.2.1.getD p.2.1.toNat []++flitsOf x.1.1 x.1.2.1 p)).getD k []=x.2.2.2.2.2.1.getD k []:=fun k hne=>by
  simp only [List.getD_eq_getElem?_getD]
  rw [List.getElem?_set_ne (fun e=>hne e.symm)]
 obtain ⟨st,fr,sr,w,ps⟩:=g.wf
 show Good (stat x) (list++[p]) x.2.2.1 x.2.2.2.1 x.2.2.2.2.2.2.1 (x.2.2.2.2.2.1.set p.2.1.toNat (x.2.2.2.2.2.1.getD p.2.1.toNat []++flitsOf x.1.1 x.1.2.1 p))
 generalize x.2.2.2.2.2.1.set p.2.1.toNat (x.2.2.2.2.2.1.getD p.2.1.toNat []++flitsOf x.1.1 x.1.2.1 p)=S' at *
 have lS':S'.length=nC x:=by
  have:=congrArg List.length eS
  unfold sendNet withSrc at this
  simp at this
  omega
 have sO:∀(k:Key),(∃q∈list,q.1=k.1∧q.2.2.1=k.2.1∧q.2.2.2.1=k.2.2)→∀s t c:Nat,sentP (list++[p]) k.1 s t c→sentP list k.1 s t c:=fun k ⟨q,hq,e1,_⟩ s t c ⟨r,hr,r1,r2⟩=>by
  rcases List.mem_append.1 hr with hr|hr
  ·exact ⟨r,hr,r1,r2⟩
  ·rw [List.mem_singleton.1 hr] at r1
   exact absurd (e1.trans r1.symm) (hnew q hq)
 have pos':Pos (stat x) (list++[p]) fr sr:=
  ⟨fun j k e=>by obtain ⟨q,hq,e1⟩:=ps.gf j k e;exact ⟨q,List.mem_append_left _ hq,e1⟩,fun j k e=>by obtain ⟨q,hq,e1⟩:=ps.gs j k e;exact ⟨q,List.mem_append_left _ hq,e1⟩,
   fun s t c R L h1 h2 h3 rt j k e hq=>ps.pf s t c R L h1 h2 h3 rt j k e (sO k (ps.gf j k e) s t c hq),fun s t c h1 h2 h3 j k e hq=>ps.ps s t c h1 h2 h3 j k e (sO k (ps.gs j k e) s t c hq)⟩
 refine ⟨g.lB,g.lO,g.lA,lS',g.cl,fun j y hy=>gen y (g.gB j y hy),fun j y hy=>?_,fun t y hy=>⟨gen y (g.gA t y hy).1,(g.gA t y hy).2⟩,g.rc,⟨st,fr,sr,⟨w.o1,w.o2,w.o3,w.w4,w.w5,fun k hk'=>?_,w.w7⟩,pos'⟩,fun s t c R L h1 h2 h3 rt=>?_⟩
 ·by_cases e:j=p.2.1.toNat
  ·subst e
   rw [at1] at hy
   rcases List.mem_append.1 hy with hy|hy
   ·exact gen y (g.gS _ y hy)
   ·exact genp y hy
  ·rw [at2 j e] at hy;exact gen y (g.gS _ y hy)
 ·by_cases e:k=p.2.1.toNat
  ·subst e
   rw [at1]
   exact (w.w6 _ hk').app (R8 hp0)
  ·rw [at2 k e];exact w.w6 k hk'
 ·obtain ⟨z1,z2,z3⟩:=g.fl s t c R L h1 h2 h3 rt
  have eA:(x.2.2.2.2.2.2.1.getD t []).filter (inF (list++[p]) s t c)=(x.2.2.2.2.2.2.1.getD t []).filter (inF list s t c):=List.filter_congr fun y hy=>inO s t c y (g.gA t y hy).1
  have eB:∀j,(x.2.2.1.getD j []).filter (inF (list++[p]) s t c)=(x.2.2.1.getD j []).filter (inF list s t c):=fun j=>List.filter_congr fun y hy=>inO s t c y (g.gB j y hy)
  have eO:∀j,(x.2.2.2.2.2.1.getD j []).filter (inF (list++[p]) s t c)=(x.2.2.2.2.2.1.getD j []).filter (inF list s t c):=fun j=>List.filter_congr fun y hy=>inO s t c y (g.gS j y hy)
  have eF:flowFl (stat x) (list++[p]) s t c=flowFl (stat x) list s t c++(if isFlow s t c p then flitsOf x.1.1 x.1.2.1 p else []):=by
   unfold flowFl
   rw [List.filter_append,List.flatMap_append]
   congr 1
   by_cases e:isFlow s t c p
   ·rw [if_pos e,List.filter_cons_of_pos (by simpa using e)];simp;rfl
   ·rw [if_neg e,List.filter_cons_of_neg (by simpa using e)];rfl
  refine ⟨?_,fun j y hy hF=>z2 j y hy (by rw [← inO s t c y (g.gB j y hy)];exact hF),fun k y hy hF=>?_⟩
  ·rw [eA,Zy L (fun n _=>eB (R n)),eF,← z1]
   have eS2:(S'.getD s []).filter (inF (list++[p]) s t c)=(x.2.2.2.2.2.1.getD s []).filter (inF list s t c)++(if isFlow s t c p then flitsOf x.1.1 x.1.2.1 p else []):=by
    by_cases e:s=p.2.1.toNat
    ·subst e
     rw [at1,List.filter_append,eO]
     congr 1
     by_cases e2:isFlow (p.2.1.toNat:Nat) t c p
     ·rw [if_pos e2,List.filter_eq_self.2]
      intro y hy
      rw [inP _ _ _ y hy];simpa using e2
     ·rw [if_neg e2,List.filter_eq_nil_iff.2]
      intro y hy
      rw [inP _ _ _ y hy];simpa using e2
    ·rw [at2 s e,eO,if_neg,List.append_nil]
     intro e2
     have:=e2.1
     omega
   rw [eS2]
   simp only [List.append_assoc]
  ·by_cases e:k=p.2.1.toNat
   ·subst e
    rw [at1] at hy
    rcases List.mem_append.1 hy with hy|hy
    ·exact z3 _ y hy (by rw [← inO s t c y (g.gS _ y hy)];exact hF)
    ·rw [inP s t c y hy] at hF
     have:=(of_decide_eq_true hF).1
     omega
   ·rw [at2 k e] at hy
    exact z3 k y hy (by rw [← inO s t c y (g.gS _ y hy)];exact hF)
theorem xv {x:NetD} {list:List PkD} {p:PkD} (hn:netOk x) (hs:sentOk x.1.1 x.1.2.1 list) (hp:packetOk x.1.1 x.1.2.1 p) (hid:p.1=(list.length:Int)+1) (g:GoodN x list):GoodN (sendNet x p) (list++[p]):=
 vz hn (Zf hs) (fun q hq e=>by have:=kd hs q hq;omega) hp g
def GoodC (a:ChipD):Prop:=chipOk a∧GoodN a.1 a.2
theorem Sh {x:NetD} {list:List PkD} (hn:netOk x) (hl:list.length≤200) (hs:sentOk x.1.1 x.1.2.1 list) (g:GoodN x list):GoodC (x,list):=
 ⟨⟨hn,hl,hs,yx hn (Zf hs) g⟩,g⟩
theorem Ml {a:ChipD} (h:GoodC a) (p q r s:Int):GoodC (chipSend a p q r s):=by
 unfold chipSend
 split
 ·rename_i k
  obtain ⟨⟨h1,h2,h3,h4⟩,g⟩:=h
  obtain ⟨_,k2,k3⟩:=k
  have hk:=wr h1 (nextP a p q r s)
  have e:sendP a.1 (nextP a p q r s)=sendNet a.1 (nextP a p q r s):=if_pos ⟨h1,k3⟩
  rw [e] at hk
  refine Sh hk.ok (by rw [List.length_append];show a.2.length+1≤200;omega) ?_ (xv h1 h3 k3.1 rfl g)
  have em:=hk.m
  show sentOk (sendNet a.1 _).1.1 (sendNet a.1 _).1.2.1 _
  rw [em]
  intro i hi
  simp at hi
  by_cases e:i<a.2.length
  ·have e2:(a.2++[nextP a p q r s]).getD i pk0=a.2.getD i pk0:=by simp only [List.getD_eq_getElem?_getD];rw [List.getElem?_append_left e]
   rw [e2];exact h3 i e
  ·have e3:i=a.2.length:=by omega
   subst e3
   have e2:(a.2++[nextP a p q r s]).getD a.2.length pk0=nextP a p q r s:=by simp [List.getD_eq_getElem?_getD]
   rw [e2];exact ⟨k3.1,rfl⟩
 ·exact h
theorem Dw {a:ChipD} (h:GoodC a) {k:Nat} (hk:a.1.2.2.2.2.2.2.2+k≤1000000):GoodC (runN a.1 k,a.2):=by
 obtain ⟨⟨h1,h2,h3,h4⟩,g⟩:=h
 obtain ⟨e,g'⟩:=Z5 h1.1 (Zf h3) g k
 have e1':(stat (runN a.1 k)).1=(stat a.1).1:=by rw [e]
 have e1:(runN a.1 k).1=a.1.1:=e1'
 exact Sh (Vp h1 k hk) h2 (by show sentOk (runN a.1 k).1.1 (runN a.1 k).1.2.1 a.2;rw [e1];exact h3) g'
theorem Fo {a:ChipD} (h:GoodC a) (hi:idle a.1) {m:MeshD} {t:ClassesD} (hm:m.1=a.1.1.1∧m.2.1=a.1.1.2.1) (hc:classesOk m.1 m.2.1 m.2.2 t.1 t.2):GoodC (fresh a.1 m t,a.2):=by
 obtain ⟨⟨h1,h2,h3,h4⟩,g⟩:=h
 have h1':=h1
 obtain ⟨_,⟨s1,s2,s3,s4,s5⟩,b3,b4,b5,b6,b7⟩:=h1
 have hn:netOk (fresh a.1 m t):=by
  refine ⟨hc,⟨?_,?_,?_,?_,?_⟩,?_,?_,fun o ho=>?_,fun o ho=>?_,b7⟩
  ·show ((a.1.2.2.1.length:Nat):Int)=10*cnt m.1 m.2.1
   rw [hm.1,hm.2];exact s1
  ·show ((List.replicate _ _).length:Int)=10*cnt m.1 m.2.1
   rw [List.length_replicate,hm.1,hm.2];exact s2
  ·show ((List.replicate _ _).length:Int)=5*cnt m.1 m.2.1
   rw [List.length_replicate,hm.1,hm.2];exact s3
  ·show ((a.1.2.2.2.2.2.1.length:Nat):Int)=cnt m.1 m.2.1
   rw [hm.1,hm.2];exact s4
  ·show ((a.1.2.2.2.2.2.2.1.length:Nat):Int)=cnt m.1 m.2.1
   rw [hm.1,hm.2];exact s5
  ·show ∀i,i<a.1.2.2.1.length→bufOk m.1 m.2.1 (a.1.2.2.1.getD i []) ((i:Int)%2)
   rw [hm.1,hm.2];exact b3
  ·show ∀l∈a.1.2.2.2.2.2.1,srcOk m.1 m.2.1 l
   rw [hm.1,hm.2];exact b4
  ·have:=List.eq_of_mem_replicate ho;subst this;unfold inR;omega
  ·have:=List.eq_of_mem_replicate ho;subst this;unfold inR;omega
 exact Sh hn h2 (by show sentOk m.1 m.2.1 a.2;rw [hm.1,hm.2];exact h3) (Dh h1' hi hm (Zf h3) g)
theorem mt {w h:Int} (g:okG w h):GoodC (chipNew w h):=by
 have hc:=Zv g
 have e:chipNew w h=(netNew (w,h,[]) (splitT w h),[]):=if_pos g
 rw [e]
 obtain ⟨hn,k2,_,_⟩:=M9 (m:=(w,h,[])) (t:=splitT w h) hc
 have e2:netNew (w,h,[]) (splitT w h)=((w,h,[]),splitT w h,List.replicate (10*(cnt w h).toNat) [],List.replicate (10*(cnt w h).toNat) (-1),List.replicate (5*(cnt w h).toNat) 0,List.replicate (cnt w h).toNat [],List.replicate (cnt w h).toNat [],0):=by
  unfold netNew;rw [if_pos hc]
 have rep:∀n j,(List.replicate n ([]:List FlitD)).getD j []=[]:=fun n j=>by
  rw [List.getD_eq_getElem?_getD,List.getElem?_replicate]
  split<;>rfl
 refine Sh hn (by simp) (fun i hi=>by simp at hi) ?_
 rw [e2]
 unfold GoodN
 refine Good.still ?_ ?_ ?_ ?_ (rep _) (rep _) (fun o ho=>List.eq_of_mem_replicate ho) (fun t y hy=>?_) (fun t c _ _=>?_) (fun s t c _ _ _=>?_)
 ·show (List.replicate _ _).length=_;rw [List.length_replicate];rfl
 ·show (List.replicate _ _).length=_;rw [List.length_replicate];rfl
 ·show (List.replicate _ _).length=_;rw [List.length_replicate];rfl
 ·show (List.replicate _ _).length=_;rw [List.length_replicate];rfl
 ·have hy:y∈(List.replicate (cnt w h).toNat ([]:List FlitD)).getD t []:=hy
  rw [rep] at hy;simp at hy
 ·show Str none (((List.replicate (cnt w h).toNat ([]:List FlitD)).getD t []).filter _) none
  rw [rep];rfl
 ·show ((List.replicate (cnt w h).toNat ([]:List FlitD)).getD t []).filter _=_
  rw [rep];rfl
end Go.Proofs.YtaldglgobgjeaaaGreat.V
set_option linter.all false
namespace Go.Proofs.YtaldglgobgjeaaaGreat.V
open Go Go.VM
section
variable {w h r:Int} {b:List Int} (H:rootOk w h b r)
include H
theorem jo {v:Int} (hv:isN w h v):rd (parents w h b r) v=par w h b (depths w h b r) v:=by
 have hl:=(Wg H).1
 have hv2:=hv.2
 exact N0 hv.1 (by omega)
theorem Qbo {v:Int} (hv:isN w h v) (h0:rd (depths w h b r) v≤0):rd (parents w h b r) v=-1:=by
 rw [jo H hv];unfold par;rw [if_neg (by omega)]
theorem gb {v:Int} (hv:isN w h v) (h0:0<rd (depths w h b r) v):isN w h (rd (parents w h b r) v)∧rd (depths w h b r) (rd (parents w h b r) v)=rd (depths w h b r) v-1:=by
 rw [jo H hv]
 obtain ⟨p,hp,h2,h3,h4⟩:=Ij H hv h0
 rw [h2];exact ⟨(Wi hp h3).2.1,h4⟩
theorem Et {v:Int} (hv:isN w h v):anc (parents w h b r) v=v::(if rd (parents w h b r) v=-1 then [] else anc (parents w h b r) (rd (parents w h b r) v)):=by
 have h1:((parents w h b r).length:Int)=cnt w h:=by rw [X1];exact (Wg H).1
 exact Ei (Sq H) hv.1 (by have:=hv.2;omega)
theorem Qak {v:Int} (hv:isN w h v) (h0:rd (depths w h b r) v≤0):anc (parents w h b r) v=[v]:=by
 rw [Et H hv,Qbo H hv h0,if_pos rfl]
theorem X7:∀(n:Nat) {v:Int},isN w h v→rd (depths w h b r) v=n→(anc (parents w h b r) v).length=n+1∧r∈anc (parents w h b r) v∧∀(k:Nat) (hk:k<(anc (parents w h b r) v).length),isN w h (anc (parents w h b r) v)[k]∧rd (depths w h b r) (anc (parents w h b r) v)[k]=n-k:=by
 intro n
 induction n with
 | zero=>
  intro v hv h0
  have hroot:=(Wl H).zero.2 v hv (by omega)
  have e:=Qak H hv (by omega)
  rw [e]
  refine ⟨rfl,by simp [hroot],fun k hk=>?_⟩
  simp at hk
  subst hk
  exact ⟨hv,by simpa using h0⟩
 | succ n ih=>
  intro v hv h0
  obtain ⟨h1,h2⟩:=gb H hv (by omega)
  have e:=Et H hv
  rw [if_neg (by have:=h1.1;omega)] at e
  obtain ⟨i1,i2,i3⟩:=ih h1 (by omega)
  rw [e]
  refine ⟨by simp [i1],List.mem_cons_of_mem _ i2,fun k hk=>?_⟩
  cases k with
  | zero=>exact ⟨hv,by simpa using h0⟩
  | succ k=>
   simp only [List.getElem_cons_succ]
   obtain ⟨j1,j2⟩:=i3 k (by simpa using hk)
   exact ⟨j1,by rw [j2];omega⟩
theorem Vh {v:Int} (hv:isN w h v):(anc (parents w h b r) v)[0]? = some v:=by rw [Et H hv];rfl
theorem way {a c:Int} (ha:isN w h a) (hc:isN w h c) (h0:0≤rd (depths w h b r) a) (h1:0≤rd (depths w h b r) c) :
 ∃(i j:Nat) (hi:i<(anc (parents w h b r) a).length) (hj:j<(anc (parents w h b r) c).length),common (parents w h b r) a c=(anc (parents w h b r) a)[i]∧(anc (parents w h b r) a)[i]=(anc (parents w h b r) c)[j]∧
  treeNodes (parents w h b r) a c=(anc (parents w h b r) a).take (i+1)++((anc (parents w h b r) c).take j).reverse∧isN w h (anc (parents w h b r) a)[i]:=by
 obtain ⟨n,hn⟩:=Int.eq_ofNat_of_zero_le h0
 obtain ⟨m,hm⟩:=Int.eq_ofNat_of_zero_le h1
 obtain ⟨a1,a2,a3⟩:=X7 H n ha hn
 obtain ⟨c1,c2,c3⟩:=X7 H m hc hm
 have hpos:0≤common (parents w h b r) a c:=by
  unfold common
  cases hf:(anc (parents w h b r) a).find? (fun x=>decide (x∈anc (parents w h b r) c)) with
  | none=>
   have:=List.find?_eq_none.1 hf r a2
   simp [c2] at this
  | some u=>
   have h1:=List.mem_of_find?_eq_some hf
   obtain ⟨k,hk,rfl⟩:=List.mem_iff_getElem.1 h1
   exact (a3 k hk).1.1
 obtain ⟨m1,m2⟩:=Z8 hpos
 have hi:=List.idxOf_lt_length_iff.2 m1
 have hj:=List.idxOf_lt_length_iff.2 m2
 have e1:=List.getElem_idxOf hi
 have e2:=List.getElem_idxOf hj
 refine ⟨_,_,hi,hj,e1.symm,e1.trans e2.symm,?_,(a3 _ hi).1⟩
 unfold treeNodes
 rw [if_neg (by omega)]
end
end Go.Proofs.YtaldglgobgjeaaaGreat.V
set_option linter.all false
namespace Go.Proofs.YtaldglgobgjeaaaGreat.V
open Go Go.VM Go.Proofs
set_option maxRecDepth 10000
variable {frz:Nat} {H:Heap}
theorem Sc {w h:Int} {b:List Int} {r:Int} {a:Nat} (ha:a<(cnt w h).toNat):portOf w h (treeTab w h b r) a a=4:=by
 have hc:=Qf w h
 have hlt:a*(cnt w h).toNat+a<(cnt w h).toNat*(cnt w h).toNat:=by
  have:=Nat.mul_le_mul_right (cnt w h).toNat (show a+1≤(cnt w h).toNat by omega)
  rw [Nat.succ_mul] at this;omega
 have e:(a:Int)*cnt w h+a=((a*(cnt w h).toNat+a:Nat):Int):=by
  rw [Int.natCast_add,Int.natCast_mul,Int.toNat_of_nonneg hc.1]
 unfold portOf
 rw [e,Zi (by simpa [treeTab] using hlt)]
 have hdv:(a*(cnt w h).toNat+a)/(cnt w h).toNat=a:=by rw [Nat.mul_comm,Nat.mul_add_div (by omega),Nat.div_eq_of_lt ha];omega
 have hmd:(a*(cnt w h).toNat+a)%(cnt w h).toNat=a:=by rw [Nat.mul_comm,Nat.mul_add_mod,Nat.mod_eq_of_lt ha]
 simp only [treeTab,List.getElem_map,List.getElem_range,treePort]
 rw [hdv,hmd,if_pos rfl]
theorem Mu {w h:Int} {b:List Int} {r:Int} (hm:meshOk w h b):tsized w h b (treeTab w h b r):=by
 have hc:=Qf w h
 refine ⟨hm,?_⟩
 simp only [treeTab,List.length_map,List.length_range]
 rw [Int.natCast_mul,Int.toNat_of_nonneg hc.1]
end Go.Proofs.YtaldglgobgjeaaaGreat.V
set_option linter.all false
namespace Go.Proofs.YtaldglgobgjeaaaGreat.V
open Go Go.VM
set_option maxRecDepth 100000
section
variable {w h r:Int} {b:List Int} (H:rootOk w h b r)
include H
end
theorem Sl:∀{l:List Int} {a x:Int},x∈l→x≤l.foldl max a∧True
 | y::l,a,x,hx=>by
  have mono:∀(l:List Int) (a:Int),a≤l.foldl max a:=fun l=>by
   induction l with
   | nil=>intro a;exact Int.le_refl _
   | cons z l ih=>intro a;have:=ih (max a z);simp only [List.foldl_cons];omega
  rcases List.mem_cons.1 hx with rfl|hx
  ·refine ⟨?_,trivial⟩
   have:=mono l (max a x)
   simp only [List.foldl_cons];omega
  ·exact Sl (a:=max a y) hx
def geo2B:Bool:=(List.range 5).all fun w=>(List.range 5).all fun h=>(List.range 16).all fun a=>(List.range 4).all fun p=>
 decide (next (w:Int) h a p<0) || (List.range 4).all fun q=>decide (p=q) || decide (next (w:Int) h a p≠next w h a q)
theorem vq:geo2B=true:=by decide +kernel
theorem qw {w h a:Int} {p q:Nat} (hp:p<4) (hq:q<4) (ha:isN w h a) (hu:0≤next w h a p) (e:next w h a p=next w h a q):p=q:=by
 obtain ⟨⟨⟨a1,a2⟩,b1,b2⟩,c1,c2,c3⟩:=Yn ha
 have h0:=vq
 unfold geo2B at h0
 rw [List.all_eq_true] at h0
 have h1:=h0 w.toNat (by simp;omega)
 rw [List.all_eq_true] at h1
 have h2:=h1 h.toNat (by simp;omega)
 rw [List.all_eq_true] at h2
 have h3:=h2 a.toNat (by simp;omega)
 rw [List.all_eq_true] at h3
 have h4:=h3 p (by simp;omega)
 have e1:(w.toNat:Int)=w:=by omega
 have e2:(h.toNat:Int)=h:=by omega
 have e3:(a.toNat:Int)=a:=by omega
 rw [e1,e2,e3] at h4
 simp only [Bool.or_eq_true,decide_eq_true_eq] at h4
 rcases h4 with h4|h4
 ·omega
 ·rw [List.all_eq_true] at h4
  have h5:=h4 q (by simp;omega)
  simp only [Bool.or_eq_true,decide_eq_true_eq] at h5
  rcases h5 with h5|h5
  ·exact h5
  ·exact absurd e h5
theorem C3 {w h a u:Int} {p:Nat} (hp:p<4) (ha:isN w h a) (h0:0≤u) (h1:next w h a p=u):firstPort w h a u=p:=by
 refine Sb hp h1 fun q hq e=>?_
 have:=qw (q:=p) (p:=q) (by omega) hp ha (by omega) (e.trans h1.symm)
 omega
theorem Ns:∀(n:Nat) (l:List Int),l.Nodup→(∀x∈l,0≤x∧x<n)→l.length≤n
 | 0,l,_,h=>by
  cases l with
  | nil=>simp
  | cons a l=>have:=h a (List.mem_cons_self ..);omega
 | n+1,l,nd,h=>by
  have ih:=Ns n (l.erase (n:Int)) (nd.erase _) fun x hx=>by
   have h1:=h x (List.mem_of_mem_erase hx)
   have h2:x≠(n:Int):=fun e=>by subst e;exact nd.not_mem_erase hx
   omega
  have:=List.length_erase (a:=(n:Int)) (l:=l)
  split at this<;>omega
theorem Ia (w h:Int) (b T:List Int) (to:Int) (h4:portOf w h T to to=4):∀L F a out,L≤F→(0<L∨out≠[])→itN (nuT w h T to) L a=to→(∀n,n<L→stepOk w h b T (itN (nuT w h T to) n a) to)→walkN w h b T to F a out≠[]
 | 0,F,a,out,_,ho,e,_=>by
  have e:a=to:=e
  subst e
  have ho:=ho.resolve_left (by omega)
  cases F with
  | zero=>unfold walkN;rw [if_pos h4,if_pos rfl];exact ho
  | succ F=>unfold walkN;rw [if_pos h4,if_pos rfl];exact ho
 | L+1,F,a,out,hF,_,e,hs=>by
  have s0:stepOk w h b T a to:=hs 0 (by omega)
  have hne:¬portOf w h T a to=4:=fun k=>by have:=s0.1;unfold inR at this;omega
  cases F with
  | zero=>omega
  | succ F=>
   unfold walkN
   rw [if_neg hne,if_pos s0]
   refine Ia w h b T to h4 L F _ _ (by omega) (.inr (by simp)) ?_ fun n hn=>?_
   ·have:=e;rw [Q9] at this;exact this
   ·have:=hs (n+1) (by omega);rw [Q9] at this;exact this
theorem Qbv {w h:Int} {b T:List Int} {a to:Int} {L:Nat} (h4:portOf w h T to to=4) (hne:a≠to) (ha:isN w h a) (e:itN (nuT w h T to) L a=to) (hs:∀n,n<L→isN w h (itN (nuT w h T to) n a)∧stepOk w h b T (itN (nuT w h T to) n a) to):walk w h b T a to≠[]:=by
 have hL:0<L:=by
  cases L with
  | zero=>exact absurd e hne
  | succ L=>omega
 generalize hg:nuT w h T to=g at *
 have hne2:∀n,n<L→itN g n a≠to:=fun n hn' e=>by
  have k1:=(hs n hn').2.1
  rw [e,h4] at k1
  unfold inR at k1;omega
 have hinj:∀m n,m<n→n≤L→itN g m a≠itN g n a:=fun m n hm hn' e2=>by
  have e1:itN g (L-n+m) a=itN g (L-n+n) a:=by rw [T0 g m,T0 g n,e2]
  rw [show L-n+n=L by omega,e] at e1
  exact hne2 (L-n+m) (by omega) e1
 have hle:L≤(cnt w h).toNat:=by
  have hc:=Qf w h
  have:=Ns (cnt w h).toNat ((List.range L).map fun n=>itN g n a) ?_ ?_
  ·simpa using this
  ·refine List.pairwise_map.2 ((List.pairwise_lt_range).imp_of_mem fun {m n} hm hn hlt=>?_)
   exact hinj m n hlt (by have:=List.mem_range.1 hn;omega)
  ·intro x hx
   obtain ⟨n,hn,rfl⟩:=List.mem_map.1 hx
   have:=(hs n (List.mem_range.1 hn)).1
   unfold isN at this;omega
 unfold walk
 refine Ia w h b T to h4 L _ a [] hle (.inl hL) (by rw [hg];exact e) fun n hn=>by rw [hg];exact (hs n hn).2
theorem Du {w h:Int} {b:List Int} {r a c:Int} (ha:isN w h a) (hc:isN w h c) (hne:a≠c):portOf w h (treeTab w h b r) a c=firstPort w h a ((treeNodes (parents w h b r) a c).getD 1 0):=by
 have hcn:=Qf w h
 obtain ⟨x,rfl⟩:=Int.eq_ofNat_of_zero_le ha.1
 obtain ⟨y,rfl⟩:=Int.eq_ofNat_of_zero_le hc.1
 have hx:x<(cnt w h).toNat:=by have:=ha.2;omega
 have hy:y<(cnt w h).toNat:=by have:=hc.2;omega
 have hlt:x*(cnt w h).toNat+y<(cnt w h).toNat*(cnt w h).toNat:=by
  have:=Nat.mul_le_mul_right (cnt w h).toNat (show x+1≤(cnt w h).toNat by omega)
  rw [Nat.succ_mul] at this;omega
 have e:(x:Int)*cnt w h+y=((x*(cnt w h).toNat+y:Nat):Int):=by
  rw [Int.natCast_add,Int.natCast_mul,Int.toNat_of_nonneg hcn.1]
 unfold portOf
 rw [e,Zi (by simpa [treeTab] using hlt)]
 have hdv:(x*(cnt w h).toNat+y)/(cnt w h).toNat=x:=by rw [Nat.mul_comm,Nat.mul_add_div (by omega),Nat.div_eq_of_lt hy];omega
 have hmd:(x*(cnt w h).toNat+y)%(cnt w h).toNat=y:=by rw [Nat.mul_comm,Nat.mul_add_mod,Nat.mod_eq_of_lt hy]
 simp only [treeTab,List.getElem_map,List.getElem_range,treePort]
 rw [hdv,hmd,if_neg (by omega)]
section
variable {w h r:Int} {b:List Int} (hc:conn w h b) (hr:isN w h r)
include hc hr
theorem Xs {a c:Int} (ha:isN w h a) (hcn:isN w h c) (hne:a≠c) :
 (a∉anc (parents w h b r) c∧(treeNodes (parents w h b r) a c).getD 1 0=rd (parents w h b r) a∧a≠r)∨
 ∃j,∃hj:j+1<(anc (parents w h b r) c).length,(anc (parents w h b r) c)[j+1]=a∧(treeNodes (parents w h b r) a c).getD 1 0=(anc (parents w h b r) c)[j]:=by
 have H:rootOk w h b r:=⟨hc.1,hr⟩
 obtain ⟨i,j,hi,hj,e1,e2,e3,e4⟩:=way H ha hcn (Wm hc hr a ha) (Wm hc hr c hcn)
 have dn:=fun {v:Int} (hv:isN w h v)=>(Int.toNat_of_nonneg (Wm hc hr v hv)).symm
 have ea:=Yg hc hr ha
 have a0:(anc (parents w h b r) a)[0]? = some a:=Vh H ha
 have hcom:0≤common (parents w h b r) a c:=by rw [e1];exact e4.1
 obtain ⟨ma,mc⟩:=Z8 hcom
 have tn:treeNodes (parents w h b r) a c=(anc (parents w h b r) a).take ((anc (parents w h b r) a).idxOf (common (parents w h b r) a c)+1)++((anc (parents w h b r) c).take ((anc (parents w h b r) c).idxOf (common (parents w h b r) a c))).reverse:=by
  unfold treeNodes;rw [if_neg (by omega)]
 by_cases hm:a∈anc (parents w h b r) c
 ·right
  have ec:common (parents w h b r) a c=a:=by
   unfold common
   rw [ea,List.find?_cons_of_pos (by simpa using hm)];rfl
  have i0:(anc (parents w h b r) a).idxOf a=0:=by rw [ea];simp
  rw [ec,i0] at tn
  have hk:=List.idxOf_lt_length_iff.2 hm
  have vk:=List.getElem_idxOf hk
  have c0:(anc (parents w h b r) c)[0]? = some c:=Vh H hcn
  generalize (anc (parents w h b r) c).idxOf a=k at *
  have k0:k≠0:=fun e=>by
   subst e
   rw [List.getElem?_eq_getElem hk,vk] at c0
   exact hne (by simpa using c0)
  have l1:((anc (parents w h b r) a).take (0+1)).length=1:=by rw [ea];rfl
  refine ⟨k-1,by omega,?_,?_⟩
  ·have:k-1+1=k:=by omega
   simp only [this];exact vk
  ·rw [tn]
   simp only [List.getD_eq_getElem?_getD]
   rw [List.getElem?_append_right (by omega),l1,List.getElem?_reverse (by simp;omega)]
   have e5:((anc (parents w h b r) c).take k).length-1-(1-1)=k-1:=by rw [List.length_take];omega
   rw [e5,List.getElem?_take,if_pos (by omega),List.getElem?_eq_getElem (by omega)];rfl
 ·left
  have hk:=List.idxOf_lt_length_iff.2 ma
  have vk:=List.getElem_idxOf hk
  have hr':=Ve hc hr _ hcn (dn hcn)
  have hne2:common (parents w h b r) a c≠a:=fun e=>hm (e▸mc)
  generalize (anc (parents w h b r) a).idxOf (common (parents w h b r) a c)=k at *
  have k0:k≠0:=fun e=>by
   subst e
   rw [List.getElem?_eq_getElem hk,vk] at a0
   exact hne2 (by simpa using a0)
  refine ⟨hm,?_,fun e=>hm (e▸hr')⟩
  have hp:rd (parents w h b r) a≠-1:=fun e=>by
   rw [e,if_pos rfl] at ea
   rw [ea] at hk;simp at hk;omega
  rw [if_neg hp] at ea
  have hpn:isN w h (rd (parents w h b r) a):=by
   rcases Yk hc hr ha with ⟨_,h1⟩|⟨p,_,h2,_,h4,_⟩
   ·exact absurd h1 hp
   ·rw [h2];exact h4
  have p0:=Vh H hpn
  rw [tn]
  simp only [List.getD_eq_getElem?_getD]
  rw [List.getElem?_append_left (by rw [List.length_take];omega),List.getElem?_take,if_pos (by omega),ea,List.getElem?_cons_succ,p0];rfl
theorem Yd {a c:Int} (ha:isN w h a) (hcn:isN w h c) (hne:a≠c):stepOk w h b (treeTab w h b r) a c∧nuT w h (treeTab w h b r) c a=(treeNodes (parents w h b r) a c).getD 1 0:=by
 have H:rootOk w h b r:=⟨hc.1,hr⟩
 have dn:=fun {v:Int} (hv:isN w h v)=>(Int.toNat_of_nonneg (Wm hc hr v hv)).symm
 have key:∃p:Nat,p<4∧next w h a p=(treeNodes (parents w h b r) a c).getD 1 0∧link w h b (4*a+p):=by
  rcases Xs hc hr ha hcn hne with ⟨_,h2,h3⟩|⟨j,hj,h2,h3⟩
  ·rcases Yk hc hr ha with ⟨h1,_⟩|⟨p,hp,h4,h5,_⟩
   ·exact absurd h1 h3
   ·exact ⟨p,hp,by rw [h2,h4],h5⟩
  ·obtain ⟨_,_,p,hp,g1,g2⟩:=K8 hc hr _ hcn (dn hcn) j hj
   obtain ⟨q,hq,g3,g4⟩:=Vq hp g2
   rw [g1,h2] at g3 g4
   exact ⟨q,hq,by rw [h3];exact g4,g3⟩
 obtain ⟨p,hp,h1,h2⟩:=key
 obtain ⟨_,hu,_⟩:=Wi hp h2
 have ep:portOf w h (treeTab w h b r) a c=p:=by
  rw [Du ha hcn hne,← h1]
  exact C3 hp ha hu.1 rfl
 refine ⟨?_,?_⟩
 ·unfold stepOk
  rw [ep]
  exact ⟨⟨by omega,by omega⟩,h2.1⟩
 ·unfold nuT
  rw [ep,h1]
theorem Lp {c:Int} (hcn:isN w h c):∀(j:Nat) (hj:j<(anc (parents w h b r) c).length),∃L,itN (nuT w h (treeTab w h b r) c) L (anc (parents w h b r) c)[j]=c∧∀n,n<L→isN w h (itN (nuT w h (treeTab w h b r) c) n (anc (parents w h b r) c)[j])∧itN (nuT w h (treeTab w h b r) c) n (anc (parents w h b r) c)[j]≠c:=by
 have H:rootOk w h b r:=⟨hc.1,hr⟩
 have dn:=fun {v:Int} (hv:isN w h v)=>(Int.toNat_of_nonneg (Wm hc hr v hv)).symm
 obtain ⟨c1,c2,c3⟩:=X7 H _ hcn (dn hcn)
 intro j
 induction j with
 | zero=>
  intro hj
  have c0:(anc (parents w h b r) c)[0]? = some c:=Vh H hcn
  rw [List.getElem?_eq_getElem hj] at c0
  exact ⟨0,Option.some.inj c0,fun n hn=>by omega⟩
 | succ j ih=>
  intro hj
  obtain ⟨L,i1,i2⟩:=ih (by omega)
  obtain ⟨k1,k2⟩:=c3 (j+1) hj
  have hne:(anc (parents w h b r) c)[j+1]≠c:=fun e=>by rw [e] at k2;have:=dn hcn;omega
  have st:nuT w h (treeTab w h b r) c (anc (parents w h b r) c)[j+1]=(anc (parents w h b r) c)[j]:=by
   rw [(Yd hc hr k1 hcn hne).2]
   rcases Xs hc hr k1 hcn hne with ⟨h1,_,_⟩|⟨j',hj',h2,h3⟩
   ·exact absurd (List.getElem_mem hj) h1
   ·rw [h3]
    have k3:=(c3 (j'+1) hj').2
    rw [h2,k2] at k3
    have:j'=j:=by omega
    subst this;rfl
  refine ⟨L+1,by rw [Q9,st];exact i1,fun n hn=>?_⟩
  cases n with
  | zero=>exact ⟨k1,hne⟩
  | succ n=>rw [Q9,st];exact i2 n (by omega)
theorem Qax {c:Int} (hcn:isN w h c):∀(m:Nat) {a:Int},isN w h a→rd (depths w h b r) a=m→∃L,itN (nuT w h (treeTab w h b r) c) L a=c∧∀n,n<L→isN w h (itN (nuT w h (treeTab w h b r) c) n a)∧itN (nuT w h (treeTab w h b r) c) n a≠c:=by
 have H:rootOk w h b r:=⟨hc.1,hr⟩
 have dn:=fun {v:Int} (hv:isN w h v)=>(Int.toNat_of_nonneg (Wm hc hr v hv)).symm
 intro m
 induction m with
 | zero=>
  intro a ha hd
  have hroot:=(Wl H).zero.2 a ha (by omega)
  obtain ⟨k,hk,e⟩:=List.mem_iff_getElem.1 (Ve hc hr _ hcn (dn hcn))
  have:=Lp hc hr hcn k hk
  rw [e] at this
  rw [hroot]
  exact this
 | succ m ih=>
  intro a ha hd
  by_cases hne:a=c
  ·exact ⟨0,hne,fun n hn=>by omega⟩
  rcases Xs hc hr ha hcn hne with ⟨h1,h2,h3⟩|⟨j,hj,h2,h3⟩
  ·rcases Yk hc hr ha with ⟨h4,_⟩|⟨p,hp,h4,h5,h6,h7⟩
   ·exact absurd h4 h3
   ·have st:nuT w h (treeTab w h b r) c a=next w h a p:=by
     rw [(Yd hc hr ha hcn hne).2,h2,h4]
    obtain ⟨L,i1,i2⟩:=ih h6 (by omega)
    refine ⟨L+1,by rw [Q9,st];exact i1,fun n hn=>?_⟩
    cases n with
    | zero=>exact ⟨ha,hne⟩
    | succ n=>rw [Q9,st];exact i2 n (by omega)
  ·have:=Lp hc hr hcn (j+1) hj
   rw [h2] at this
   exact this
theorem Vs:tableOk w h b (treeTab w h b r):=by
 have dn:=fun {v:Int} (hv:isN w h v)=>(Int.toNat_of_nonneg (Wm hc hr v hv)).symm
 have hcn:=Qf w h
 refine ⟨Mu hc.1,fun a ha c hcl=>⟨fun _=>Sc ha,fun hne=>?_⟩⟩
 have ha':isN w h (a:Int):=⟨by omega,by omega⟩
 have hc':isN w h (c:Int):=⟨by omega,by omega⟩
 have hne':(a:Int)≠c:=by omega
 obtain ⟨L,h1,h2⟩:=Qax hc hr hc' _ ha' (dn ha')
 exact Qbv (Sc hcl) hne' ha' h1 fun n hn=>⟨(h2 n hn).1,(Yd hc hr (h2 n hn).1 hc' (h2 n hn).2).1⟩
end
theorem xp {w h:Int} {b:List Int} (hk:repairOk w h b=true):classesOk w h b (repair w h b).1 (repair w h b).2:=by
 have hk:treeOk w h b (bestRoot w h b):=by simpa [repairOk] using hk
 have e:treeTable w h b (bestRoot w h b)=treeTab w h b (bestRoot w h b):=if_pos hk
 unfold repair
 rw [e]
 exact ⟨Vs hk.1 hk.2,Vs hk.1 hk.2⟩
end Go.Proofs.YtaldglgobgjeaaaGreat.V
set_option linter.all false
namespace Go.Proofs.YtaldglgobgjeaaaGreat.V
open Go Go.VM Go.Proofs
set_option maxRecDepth 10000
end Go.Proofs.YtaldglgobgjeaaaGreat.V
set_option linter.all false
namespace Go.Proofs.YtaldglgobgjeaaaGreat.V
open Go Go.VM Go.Proofs
set_option maxRecDepth 10000
variable {frz:Nat} {H:Heap}
theorem Qap {w h:Int} (g:okG w h) (L:Nat):allL L (chipNew w h).1.2.2.2.2.2.2.1:=fun l hl=>by
 have hc:=Zv g
 have e:chipNew w h=(netNew (w,h,[]) (splitT w h),[]):=if_pos g
 rw [e] at hl
 unfold netNew at hl
 rw [if_pos hc] at hl
 have hl:l∈List.replicate (cnt w h).toNat ([]:List FlitD):=hl
 rw [List.eq_of_mem_replicate hl];simp
theorem A9 (l:List PkD):∀(a:ChipD) (xs:List Int),l.foldl actF (a,xs)=((l.foldl actF (a,[])).1,xs++(l.foldl actF (a,[])).2):=by
 induction l with
 | nil=>intro a xs;simp
 | cons c l ih=>
  intro a xs
  rw [List.foldl_cons,List.foldl_cons]
  have e:∀ys,actF (a,ys) c=((doAct a c.1 c.2.1 c.2.2.1 c.2.2.2.1 c.2.2.2.2).1,ys++[(doAct a c.1 c.2.1 c.2.2.1 c.2.2.2.1 c.2.2.2.2).2]):=fun _=>rfl
  rw [e,e,ih,ih _ ([]++_)]
  simp
end Go.Proofs.YtaldglgobgjeaaaGreat.V
set_option linter.all false
namespace Go.Proofs.YtaldglgobgjeaaaGreat.V
open Go Go.VM Go.Proofs
set_option maxRecDepth 10000
structure Ranked (x:NetD) (ρ:Nat→Nat):Prop where
 lt:∀j,ρ j<1000
 up:∀(s t c:Nat) R L,s<nC x→t<nC x→c<2→Route x s t c R L→∀n,n<L→ρ (R n)<ρ (R (n+1))
theorem Dd {x:NetD} {a p:Nat} {st:List GrD×List Bool} (h:(grStep x a st p).1=[]):st.1=[]∧grStep x a st p=st∧¬0≤pickN x a p st.2:=by
 unfold grStep at h ⊢
 split at h
 ·simp at h
 ·rename_i g;rw [if_neg g];exact ⟨h,rfl,g⟩
theorem Gd (x:NetD) (a:Nat):∀p,(grTo x a p).1=[]→(grTo x a p).2=List.replicate 5 false∧∀q,q<p→¬0≤pickN x a q (List.replicate 5 false)
 | 0,_=>⟨rfl,fun q h=>by omega⟩
 | p+1,h=>by
  rw [Zs] at h
  obtain ⟨h1,h2,h3⟩:=Dd h
  obtain ⟨i1,i2⟩:=Gd x a p h1
  rw [Zs,h2]
  refine ⟨i1,fun q hq=>?_⟩
  by_cases e:q=p
  ·subst e;rw [i1] at h3;exact h3
  ·exact i2 q (by omega)
theorem Ev {t:Int} {y:Int} {l:List Int} (h:∀z∈y::l,0≤z):0≤firstF t (y::l):=by
 unfold firstF
 rw [List.foldl_cons,if_pos (.inl (by omega))]
 rcases Vy t l y with e|e
 ·rw [e];exact h y (List.mem_cons_self ..)
 ·exact h _ (List.mem_cons_of_mem _ e)
theorem Qc6 {x:NetD} {a:Nat} (h:grN x a=[]) {p i:Nat} (hp:p<5) (hi:i<10):¬reqN x a i p:=fun r=>by
 have:=(Gd x a 5 h).2 p hp
 apply this
 have hm:i∈freeN x a p (List.replicate 5 false):=by
  unfold freeN reqsN
  refine List.mem_filter.2 ⟨List.mem_filter.2 ⟨List.mem_range.2 hi,by simpa using r⟩,?_⟩
  have:(List.replicate 5 false).getD (i/2) false=false:=by
   rw [List.getD_eq_getElem?_getD,List.getElem?_replicate];split<;>rfl
  rw [this];rfl
 unfold pickN
 cases hl:freeN x a p (List.replicate 5 false) with
 | nil=>rw [hl] at hm;simp at hm
 | cons b l=>
  rw [List.map_cons]
  refine Ev fun z hz=>?_
  rw [← List.map_cons (f:=Int.ofNat)] at hz
  obtain ⟨n,_,rfl⟩:=List.mem_map.1 hz
  exact Int.natCast_nonneg n
theorem Qc8 {x:NetD} (h:allN x=[]) {a:Nat} (ha:a<nC x):grN x a=[]:=by
 unfold allN allTo at h
 rw [List.flatMap_eq_nil_iff] at h
 exact h a (List.mem_range.2 ha)
section
variable {x:NetD} {list:List PkD} {ρ:Nat→Nat} (hn:netOk x) (h:Sent (stat x) list) (g:GoodN x list) (rk:Ranked (stat x) ρ) (hA:allN x=[]) (hE:enterN x=[])
include h g
theorem If {a i:Nat} {y:FlitD} (ha:a<nC x) (hi:i<10) (hy:y∈x.2.2.1.getD (10*a+i) []) (hn:netOk x):∃(s t:Nat) (R:Nat→Nat) (L n:Nat),s<nC x∧t<nC x∧Route (stat x) s t (i%2) R L∧n≤L∧10*a+i=R n∧y.2.1=(t:Int):=by
 obtain ⟨p,hp,e1,e2,e3⟩:=g.gB _ y hy
 obtain ⟨_,⟨q1,q2⟩,⟨q3,q4⟩,_,q5,_⟩:=h.ok p hp
 have hnn:=Yi x
 have q2':p.2.1<cnt x.1.1 x.1.2.1:=q2
 have q4':p.2.2.1<cnt x.1.1 x.1.2.1:=q4
 unfold inR at q5
 have ec:=g.cl _ y hy
 have c1:p.2.2.2.1=((i%2:Nat):Int):=by rw [e3,ec];omega
 have s1:p.2.1=((p.2.1.toNat:Nat):Int):=by omega
 have t1:p.2.2.1=((p.2.2.1.toNat:Nat):Int):=by omega
 obtain ⟨R,L,rt⟩:=Z1 (x:=stat x) (Xk (x:=stat x) hn.1) (s:=p.2.1.toNat) (t:=p.2.2.1.toNat) (c:=i%2) (show _<nC x by omega) (show _<nC x by omega) (by omega)
 obtain ⟨n,hn1,hn2⟩:=(g.fl _ _ _ R L (show _<nC x by omega) (show _<nC x by omega) (by omega) rt).z2 _ y hy (by unfold inF;rw [decide_eq_true_eq];exact ⟨p,hp,e1,s1,t1,c1⟩)
 exact ⟨_,_,R,L,n,by omega,by omega,rt,hn1,hn2,by rw [← e2];exact t1⟩
include hn rk
theorem M7 {a i p:Nat} {y:FlitD} (ha:a<nC x) (hi:i<10) (hy:y∈x.2.2.1.getD (10*a+i) []) (hp:pO x a (i%2) y.2.1=(p:Int)) (h4:p≠4):p<4∧hasP x a p∧ρ (10*a+i)<ρ (tgt x a p (i%2)):=by
 obtain ⟨s,t,R,L,n,h1,h2,rt,h3,h5,h6⟩:=If h g ha hi hy hn
 have ea:R n/10=a:=by omega
 rw [h6] at hp
 rcases Nat.lt_or_ge n L with hL|hL
 ·obtain ⟨p',p1,p2,p3,p4⟩:=rt.rs n hL
  have p2':pO x (R n/10) (i%2) t=(p':Int):=p2
  rw [ea,hp] at p2'
  have:p=p':=by omega
  subst this
  rw [ea] at p3 p4
  have:=rk.up s t (i%2) R L h1 h2 (by omega) rt n hL
  rw [p3,← h5] at this
  exact ⟨p1,p4,this⟩
 ·have:n=L:=by omega
  subst this
  have r4:pO x t (i%2) t=4:=rt.r4
  have rt':=rt.rt
  rw [ea] at rt'
  rw [rt',r4] at hp
  omega
include hA
theorem S3 {a i p:Nat} {y:FlitD} {r:List FlitD} (ha:a<nC x) (hi:i<10) (hp:p<5) (hj:x.2.2.1.getD (10*a+i) []=y::r) (hw:wantedN x a i=(p:Int)) (hpo:pO x a (i%2) y.2.1=(p:Int)) (ho:x.2.2.2.1.getD (outAt a p (i%2)) 0=if y.2.2.2.1 then -1 else ((i/2:Nat):Int)) :
 p<4∧x.2.2.1.getD (tgt x a p (i%2)) []≠[]∧ρ (10*a+i)<ρ (tgt x a p (i%2)):=by
 have eh:headOf x (10*a+i)=y:=by unfold headOf;rw [hj];rfl
 have nr:=Qc6 (Qc8 hA ha) hp hi
 have hm:y∈x.2.2.1.getD (10*a+i) []:=by rw [hj];exact List.mem_cons_self ..
 have nroom:¬roomN x a p (i%2):=fun k=>nr ⟨hw,k,by rw [eh];exact ho⟩
 have h4:p≠4:=fun e=>nroom (.inl e)
 obtain ⟨n1,n2,n3⟩:=M7 hn h g rk ha hi hm hpo h4
 refine ⟨n1,fun e=>nroom (.inr ⟨n2,?_⟩),n3⟩
 rw [e];simp
theorem Tl {st fr sr:Nat→Option Key} (w:Wf (stat x) x.2.2.1 x.2.2.2.1 x.2.2.2.2.2.2.1 x.2.2.2.2.2.1 st fr sr) {a i p:Nat} {y:FlitD} {r:List FlitD} {k:Key} (ha:a<nC x) (hi:i<10) (hp:p<5) (hj:x.2.2.1.getD (10*a+i) []=y::r) (hf:fr (10*a+i)=some k)
 (ho:x.2.2.2.1.getD (outAt a p (i%2)) 0=((i/2:Nat):Int)) (hs:∃u,Str (fr (10*a+i)) (y::r) u):y.2.2.2.1=false∧wantedN x a i=(p:Int)∧pO x a (i%2) y.2.1=(p:Int):=by
 obtain ⟨u,hu⟩:=hs
 obtain ⟨b,rfl⟩:=O6 hu.pop.1 hf
 have ei:10*a+2*(i/2)+i%2=10*a+i:=by omega
 have only:∀p',p'<5→x.2.2.2.1.getD (outAt a p' (i%2)) 0=((i/2:Nat):Int)→pO x a (i%2) y.2.1=(p':Int):=fun p' hp' e=>by
  obtain ⟨k,_,k2,k3⟩:=w.o2 a p' (i%2) (i/2) ha hp' (by omega) (by omega) e
  rw [ei,hf] at k2
  have:fkey y=k:=by simpa using k2
  subst this
  exact k3
 have eh:headOf x (10*a+i)=y:=by unfold headOf;rw [hj];rfl
 refine ⟨b,?_,only p hp ho⟩
 unfold wantedN
 rw [if_neg (by rw [hj];simp),eh,if_neg (by simp [b])]
 cases hf2:(List.range 5).find? (fun p=>decide (x.2.2.2.1.getD (outAt a p (i%2)) 0=((i/2:Nat):Int))) with
 | none=>
  have:=List.find?_eq_none.1 hf2 p (List.mem_range.2 hp)
  simp at this
  exact absurd ho (by simpa using this)
 | some p'=>
  have e1:=List.find?_some hf2
  have e2:=List.mem_range.1 (List.mem_of_find?_eq_some hf2)
  have e3:=only p' e2 (by simpa using e1)
  rw [only p hp ho] at e3
  exact e3.symm
end
section
variable {x:NetD} {list:List PkD} {ρ:Nat→Nat} (hn:netOk x) (h:Sent (stat x) list) (g:GoodN x list) (rk:Ranked (stat x) ρ) (hA:allN x=[]) (hE:enterN x=[])
include hn h g rk hA
theorem Ld {a p c:Nat} (ha:a<nC x) (hp:p<5) (hc:c<2) : -1≤x.2.2.2.1.getD (outAt a p c) 0∧x.2.2.2.1.getD (outAt a p c) 0≤4:=by
 have hl:outAt a p c<x.2.2.2.1.length:=by have:x.2.2.2.1.length=10*nC x:=g.lO;unfold outAt;omega
 have:=hn.2.2.2.2.1 _ (List.getElem_mem hl)
 rw [List.getD_eq_getElem?_getD,List.getElem?_eq_getElem hl]
 exact this
include hE
theorem I2 {k:Nat} (hk:k<nC x):¬entersN x k:=fun e=>by
 have:k∈enterN x:=List.mem_filter.2 ⟨List.mem_range.2 hk,by simpa using e⟩
 rw [hE] at this;simp at this
theorem chase {st fr sr:Nat→Option Key} (w:Wf (stat x) x.2.2.1 x.2.2.2.1 x.2.2.2.2.2.2.1 x.2.2.2.2.2.1 st fr sr) (ps:Pos (stat x) list fr sr) {s t c:Nat} {R:Nat→Nat} {L:Nat} (hs:s<nC x) (ht:t<nC x) (hc:c<2) (rt:Route (stat x) s t c R L) {k:Key} (hk:sentP list k.1 s t c) (kc:k.2.2=(c:Int)) :
 ∀n,n≤L→fr (R n)=some k→x.2.2.1.getD (R n) []=[]→False
 | 0,_,hf,hb=>by
  have r0:=rt.r0
  have w5:=w.w5 s c hs hc
  rw [← r0,hb,hf] at w5
  have w5:some k=inc (sr s) c:=w5
  have hsr:sr s=some k:=by
   cases hq:sr s with
   | none=>rw [hq] at w5;simp [inc] at w5
   | some q=>
    rw [hq] at w5
    simp only [inc] at w5
    split at w5
    ·exact w5.symm
    ·simp at w5
  have w6:=w.w6 s hs
  rw [hsr] at w6
  have hne:x.2.2.2.2.2.1.getD s []≠[]:=fun e=>by
   rw [e] at w6
   have:some k=(none:Option Key):=w6
   simp at this
  have hS:=X9 hne
  rw [hS] at w6
  obtain ⟨b,kk⟩:=O6 w6.pop.1 rfl
  have cls:(srcHead x s).2.2.1=(c:Int):=by
   have:fkey (srcHead x s)=k:=kk.symm
   rw [← kc,← this];rfl
  have ea:entAt x s=R 0:=by rw [r0];unfold entAt;rw [cls];omega
  exact I2 hn h g rk hA hE hs ⟨hne,by rw [ea,hb];simp⟩
 | n+1,hL,hf,hb=>by
  obtain ⟨p',p1,p2,p3,p4⟩:=rt.rs n (by omega)
  have hlt:=rt.lt n (by omega)
  have ha:R n/10<nC x:=by have:R n<10*nC x:=hlt;omega
  have w4:=w.w4 (R n/10) p' c ha p1 hc p4
  rw [← p3,hb,hf] at w4
  have w4:some k=st (outAt (R n/10) p' c):=w4
  obtain ⟨o1,o2⟩:=Ld hn h g rk hA ha (show p'<5 by omega) hc
  by_cases e1:x.2.2.2.1.getD (outAt (R n/10) p' c) 0=-1
  ·have:=w.o1 (R n/10) p' c ha (by omega) hc e1
   rw [this] at w4;simp at w4
  ·obtain ⟨q,hq⟩:∃q:Nat,x.2.2.2.1.getD (outAt (R n/10) p' c) 0=(q:Int):=⟨(x.2.2.2.1.getD (outAt (R n/10) p' c) 0).toNat,by omega⟩
   obtain ⟨k',k1,k2,k3⟩:=w.o2 (R n/10) p' c q ha (by omega) hc (by omega) hq
   rw [← w4] at k1
   have:k=k':=by simpa using k1
   subst this
   obtain ⟨m,hm,em⟩:=ps.pf s t c R L hs ht hc rt _ k k2 hk
   have:m=n:=rt.ij m n hm (by omega) (by omega)
   subst this
   rw [em] at k2
   by_cases hb2:x.2.2.1.getD (R m) []=[]
   ·exact chase w ps hs ht hc rt hk kc m (by omega) k2 hb2
   ·have hB:=X9 hb2
    have md:=rt.md m (by omega)
    have ei:10*(R m/10)+R m%10=R m:=by omega
    have ec:R m%10%2=c:=by omega
    have eq2:R m%10/2=q:=by omega
    have hs':∃u,Str (fr (10*(R m/10)+R m%10)) (headL (x.2.2.1.getD (R m) [])::(x.2.2.1.getD (R m) []).drop 1) u:=by
     rw [ei,← hB]
     rcases g.rc (R m) hb2 with ⟨a',p',c',h1,h2,h3,h4,e⟩|⟨k',c',h1,h2,e⟩
     ·have:=w.w4 a' p' c' h1 h2 h3 h4
      rw [← e] at this;exact ⟨_,this⟩
     ·have:=w.w5 k' c' h1 h2
      rw [← e] at this;exact ⟨_,this⟩
    have hj:x.2.2.1.getD (10*(R m/10)+R m%10) []=headL (x.2.2.1.getD (R m) [])::(x.2.2.1.getD (R m) []).drop 1:=by rw [ei];exact hB
    obtain ⟨b1,b2,b3⟩:=Tl hn h g rk hA w ha (show R m%10<10 by omega) (show p'<5 by omega) hj (by rw [ei];exact k2) (by rw [ec,eq2];exact hq) hs'
    obtain ⟨_,f2,_⟩:=S3 hn h g rk hA ha (show R m%10<10 by omega) (show p'<5 by omega) hj b2 b3 (by rw [ec,eq2,if_neg (by rw [b1];simp)];exact hq)
    rw [ec] at f2
    have p3':R (m+1)=tgt x (R m/10) p' c:=p3
    rw [← p3'] at f2
    exact f2 hb
theorem E2:∀(d j:Nat),1000-ρ j≤d→x.2.2.1.getD j []≠[]→False
 | d,j,hd,hne=>by
  obtain ⟨st,fr,sr,w,ps⟩:=g.wf
  have hB:=X9 hne
  generalize headL (x.2.2.1.getD j [])=y at hB
  generalize (x.2.2.1.getD j []).drop 1=r at hB
  have hl:j<10*nC x:=by
   have:=C9 hB
   have lb:x.2.2.1.length=10*nC x:=g.lB
   omega
  obtain ⟨a,i,ha,hi,rfl⟩:∃a i,a<nC x∧i<10∧j=10*a+i:=⟨j/10,j%10,by omega,by omega,by omega⟩
  have hm:y∈x.2.2.1.getD (10*a+i) []:=by rw [hB];exact List.mem_cons_self ..
  have r1:=rk.lt (10*a+i)
  have hs:∃u,Str (fr (10*a+i)) (y::r) u:=by
   rw [← hB]
   rcases g.rc (10*a+i) hne with ⟨a',p',c',h1,h2,h3,h4,e⟩|⟨k',c',h1,h2,e⟩
   ·have:=w.w4 a' p' c' h1 h2 h3 h4
    rw [← e] at this;exact ⟨_,this⟩
   ·have:=w.w5 k' c' h1 h2
    rw [← e] at this;exact ⟨_,this⟩
  have hs':=hs
  obtain ⟨u,hu⟩:=hs
  have ok:=hu.pop.1
  have ei:10*a+2*(i/2)+i%2=10*a+i:=by omega
  have eh:headOf x (10*a+i)=y:=by unfold headOf;rw [hB];rfl
  have step:∀p:Nat,p<5→wantedN x a i=(p:Int)→pO x a (i%2) y.2.1=(p:Int)→(x.2.2.2.1.getD (outAt a p (i%2)) 0=if y.2.2.2.1 then -1 else ((i/2:Nat):Int))→False:=fun p hp hw hpo ho=>by
   obtain ⟨f1,f2,f3⟩:=S3 hn h g rk hA ha hi hp hB hw hpo ho
   have r2:=rk.lt (tgt x a p (i%2))
   cases d with
   | zero=>omega
   | succ d=>exact E2 d (tgt x a p (i%2)) (by omega) f2
  cases hh:y.2.2.2.1 with
  | false=>
   have hf:=qq ok hh
   obtain ⟨p,hp,ho⟩:=w.o3 a (i/2) (i%2) (fkey y) ha (by omega) (by omega) (by rw [ei];exact hf)
   obtain ⟨b1,b2,b3⟩:=Tl hn h g rk hA w ha hi hp hB hf ho hs'
   exact step p hp b2 b3 (by rw [if_neg (by simp [hh])];exact ho)
  | true=>
   obtain ⟨s,t,R,L,n,h1,h2,rt,h3,h5,h6⟩:=If h g ha hi hm hn
   have hp:∃p:Nat,p<5∧pO x a (i%2) y.2.1=(p:Int):=by
    have tk:=Xk (x:=x) hn.1
    have hnn:=Yi x
    have:=Bu (tk (i%2) (by omega)) (a:=(a:Int)) (c:=y.2.1) ⟨by omega,by omega⟩ (by rw [h6];exact ⟨by omega,by omega⟩)
    unfold inR at this
    exact ⟨(pO x a (i%2) y.2.1).toNat,by unfold pO;omega,by unfold pO;omega⟩
   obtain ⟨p,hp,hpo⟩:=hp
   have hw:wantedN x a i=(p:Int):=by
    unfold wantedN
    rw [if_neg hne,eh,if_pos hh]
    exact hpo
   obtain ⟨o1,o2⟩:=Ld hn h g rk hA ha hp (show i%2<2 by omega)
   by_cases e1:x.2.2.2.1.getD (outAt a p (i%2)) 0=-1
   ·exact step p hp hw hpo (by rw [if_pos hh];exact e1)
   ·obtain ⟨q,hq⟩:∃q:Nat,x.2.2.2.1.getD (outAt a p (i%2)) 0=(q:Int):=⟨(x.2.2.2.1.getD (outAt a p (i%2)) 0).toNat,by omega⟩
    obtain ⟨k,k1,k2,k3⟩:=w.o2 a p (i%2) q ha hp (by omega) (by omega) hq
    -- the way of the packet that holds the channel
    obtain ⟨p0,hp0,g1,g2,g3⟩:=ps.gf _ k k2
    obtain ⟨_,⟨q1,q2⟩,⟨q3,q4⟩,_,q5,_⟩:=h.ok p0 hp0
    have hnn:=Yi x
    have q2':p0.2.1<cnt x.1.1 x.1.2.1:=q2
    have q4':p0.2.2.1<cnt x.1.1 x.1.2.1:=q4
    unfold inR at q5
    have hsn:sentP list k.1 (p0.2.1.toNat:Nat) (p0.2.2.1.toNat:Nat) (p0.2.2.2.1.toNat:Nat):=⟨p0,hp0,g1,by omega,by omega,by omega⟩
    obtain ⟨R1,L1,rt1⟩:=Z1 (x:=stat x) (Xk (x:=stat x) hn.1) (s:=p0.2.1.toNat) (t:=p0.2.2.1.toNat) (c:=p0.2.2.2.1.toNat) (show _<nC x by omega) (show _<nC x by omega) (by omega)
    obtain ⟨n1,hn1,e2⟩:=ps.pf _ _ _ R1 L1 (show _<nC x by omega) (show _<nC x by omega) (by omega) rt1 _ k k2 hsn
    have md1:=rt1.md n1 hn1
    have ec:p0.2.2.2.1.toNat=i%2:=by omega
    by_cases hb:x.2.2.1.getD (10*a+2*q+i%2) []=[]
    ·exact chase hn h g rk hA hE w ps (show _<nC x by omega) (show _<nC x by omega) (by omega) rt1 hsn (by rw [← g3];omega) n1 hn1 (by rw [← e2];exact k2) (by rw [← e2];exact hb)
    ·have hB2:=X9 hb
     have ej:10*a+(2*q+i%2)=10*a+2*q+i%2:=by omega
     have hs2:∃u,Str (fr (10*a+(2*q+i%2))) (headL (x.2.2.1.getD (10*a+2*q+i%2) [])::(x.2.2.1.getD (10*a+2*q+i%2) []).drop 1) u:=by
      rw [ej,← hB2]
      rcases g.rc (10*a+2*q+i%2) hb with ⟨a',p',c',h1,h2,h3,h4,e⟩|⟨k',c',h1,h2,e⟩
      ·have:=w.w4 a' p' c' h1 h2 h3 h4
       rw [← e] at this;exact ⟨_,this⟩
      ·have:=w.w5 k' c' h1 h2
       rw [← e] at this;exact ⟨_,this⟩
     have m1:(2*q+i%2)%2=i%2:=by omega
     have m2:(2*q+i%2)/2=q:=by omega
     have hj2:x.2.2.1.getD (10*a+(2*q+i%2)) []=headL (x.2.2.1.getD (10*a+2*q+i%2) [])::(x.2.2.1.getD (10*a+2*q+i%2) []).drop 1:=by rw [ej];exact hB2
     obtain ⟨b1,b2,b3⟩:=Tl hn h g rk hA w ha (show 2*q+i%2<10 by omega) hp hj2 (by rw [ej];exact k2) (by rw [m1,m2];exact hq) hs2
     obtain ⟨f1,f2,_⟩:=S3 hn h g rk hA ha (show 2*q+i%2<10 by omega) hp hj2 b2 b3 (by rw [m1,m2,if_neg (by rw [b1];simp)];exact hq)
     rw [m1] at f2
     obtain ⟨_,_,f3⟩:=M7 hn h g rk ha hi hm hpo (by omega)
     have r2:=rk.lt (tgt x a p (i%2))
     cases d with
     | zero=>omega
     | succ d=>exact E2 d (tgt x a p (i%2)) (by omega) f2
 termination_by d=>d
theorem Cc:idle x:=by
 have hb:∀j,x.2.2.1.getD j []=[]:=fun j=>by
  by_cases e:x.2.2.1.getD j []=[]
  ·exact e
  ·exact (E2 hn h g rk hA hE _ j (Nat.le_refl _) e).elim
 have hs:∀j,x.2.2.2.2.2.1.getD j []=[]:=fun j=>by
  by_cases hj:j<nC x
  ·by_cases e:x.2.2.2.2.2.1.getD j []=[]
   ·exact e
   ·exact (I2 hn h g rk hA hE hj ⟨e,by rw [hb];simp⟩).elim
  ·have lS:x.2.2.2.2.2.1.length=nC x:=g.lS
   simp [List.getD_eq_getElem?_getD,List.getElem?_eq_none (show x.2.2.2.2.2.1.length≤j by omega)]
 have zero:∀S:SSD,(∀j,S.getD j []=[])→flits S=0:=fun S hS=>by
  unfold flits ahead
  rw [List.take_length]
  have:S.map List.length=List.replicate S.length 0:=by
   apply List.ext_getElem
   ·simp
   ·intro i h1 h2
    have:=hS i
    simp at h1
    rw [V2 h1] at this
    simp [this]
  rw [this];simp
 exact ⟨zero _ hb,zero _ hs⟩
end
def hop (x:NetD) (c:Nat) (a t:Int):Nat:=(walk x.1.1 x.1.2.1 x.1.2.2 (tabC x c) a t).length
theorem C4 {x:NetD} (h:tabsOk x) {t c:Nat} (ht:t<nC x) (hc:c<2) {a:Int} {L:Nat} (hL:L≤nC x) (e:itN (nuT x.1.1 x.1.2.1 (tabC x c) t) L a=t) (hs:∀n,n<L→stepOk x.1.1 x.1.2.1 x.1.2.2 (tabC x c) (itN (nuT x.1.1 x.1.2.1 (tabC x c) t) n a) t):hop x c a t=L:=by
 unfold hop walk
 rw [Eb _ _ _ _ _ (Rm h ht hc) L (cnt x.1.1 x.1.2.1).toNat a [] hL e hs]
 simp
theorem Gf {x:NetD} (h:tabsOk x) {a t c p:Nat} (ha:a<nC x) (ht:t<nC x) (hc:c<2) (hne:a≠t) (hp:pO x a c t=(p:Int)):hop x c a t=hop x c (next x.1.1 x.1.2.1 a p) t+1:=by
 obtain ⟨L,h0,h1,h2⟩:=Vd _ _ _ _ _ _ _ _ (((h c hc).2 a ha t ht).2 hne)
 have h0:L≤nC x:=h0
 cases L with
 | zero=>have:(a:Int)=t:=h1;omega
 | succ L=>
  have e:nuT x.1.1 x.1.2.1 (tabC x c) t a=next x.1.1 x.1.2.1 a p:=by
   unfold nuT
   have:portOf x.1.1 x.1.2.1 (tabC x c) a t=(p:Int):=hp
   rw [this]
  rw [C4 h ht hc h0 h1 h2,C4 h ht hc (L:=L) (by omega) (by rw [← e,← Q9];exact h1) (fun n hn=>by rw [← e,← Q9];exact h2 (n+1) (by omega))]
def wb (x:NetD) (j:Nat) (y:FlitD):Nat:=hop x (j%2) ((j/10:Nat):Int) y.2.1+1
def ws (x:NetD) (k:Nat) (y:FlitD):Nat:=hop x y.2.2.1.toNat (k:Int) y.2.1+2
def sumL (f:Nat→FlitD→Nat) (j:Nat) (l:List FlitD):Nat:=(l.map (f j)).sum
def sumS (f:Nat→FlitD→Nat) (S:SSD):Nat:=((List.range S.length).map fun j=>sumL f j (S.getD j [])).sum
theorem Bo {F G:Nat→Nat} {k:Nat} (h:∀j,j≠k→F j=G j):∀n,(k<n→((List.range n).map F).sum+G k=((List.range n).map G).sum+F k)∧(n≤k→((List.range n).map F).sum=((List.range n).map G).sum)
 | 0=>⟨fun h=>by omega,fun _=>rfl⟩
 | n+1=>by
  obtain ⟨i1,i2⟩:=Bo h n
  simp only [List.range_succ,List.map_append,List.sum_append,List.map_cons,List.map_nil,List.sum_cons,List.sum_nil,Nat.add_zero]
  constructor
  ·intro hk
   by_cases e:k=n
   ·subst e;rw [i2 (Nat.le_refl _)];omega
   ·have:=i1 (by omega);have:=h n (by omega);omega
  ·intro hk
   rw [i2 (by omega),h n (by omega)]
theorem On (f:Nat→FlitD→Nat) {S:SSD} {k:Nat} (g:List FlitD→List FlitD) (hk:k<S.length):sumS f (upd S k g)+sumL f k (S.getD k [])=sumS f S+sumL f k (g (S.getD k [])):=by
 have:=(Bo (F:=fun j=>sumL f j ((upd S k g).getD j [])) (G:=fun j=>sumL f j (S.getD j [])) (k:=k) (fun j hj=>by
  show sumL f j ((upd S k g).getD j [])=_
  rw [Q7 _ (fun e=>hj e.symm)]) S.length).1 hk
 unfold sumS
 rw [Ue]
 rw [Ww _ hk] at this
 exact this
theorem Ai (f:Nat→FlitD→Nat) {S:SSD} {k:Nat} {y:FlitD} {r:List FlitD} (hj:S.getD k []=y::r):sumS f (upd S k (List.drop 1))+f k y=sumS f S:=by
 have:=On f (List.drop 1) (C9 hj)
 rw [hj] at this
 simp [sumL] at this
 omega
theorem Gv (f:Nat→FlitD→Nat) {S:SSD} {k:Nat} (y:FlitD) (hk:k<S.length):sumS f (upd S k (·++[y]))=sumS f S+f k y:=by
 have:=On f (·++[y]) hk
 simp [sumL] at this
 omega
theorem Good.port {x:NetD} {list:List PkD} {B:SSD} {O:List Int} {A S:SSD} (g:Good x list B O A S) {a p i:Nat} {y:FlitD} {r:List FlitD} (k:Can x B O a p i y r):pO x a (i%2) y.2.1=(p:Int):=by
 obtain ⟨st,fr,sr,w,ps⟩:=g.wf
 have hj:=k.hj
 have hs:∃u,Str (fr (10*a+i)) (y::r) u:=by
  rcases g.rc (10*a+i) (by rw [hj];simp) with ⟨a',p',c',h1,h2,h3,h4,e⟩|⟨k',c',h1,h2,e⟩
  ·have:=w.w4 a' p' c' h1 h2 h3 h4
   rw [← e,hj] at this;exact ⟨_,this⟩
  ·have:=w.w5 k' c' h1 h2
   rw [← e,hj] at this;exact ⟨_,this⟩
 exact (w.move g.lB g.lO g.lA g.cl k hs).1
theorem ng {x:NetD} {list:List PkD} {B:SSD} {O:List Int} {A S:SSD} (g:Good x list B O A S) (h:Sent x list) (tk:tabsOk x) {a p i:Nat} {y:FlitD} {r:List FlitD} (k:Can x B O a p i y r):sumS (wb x) (mvB x B a p i y)+1≤sumS (wb x) B:=by
 have hp:=g.port k
 have hj:=k.hj
 have hm:y∈B.getD (10*a+i) []:=by rw [hj];exact List.mem_cons_self ..
 obtain ⟨t,c,ht,hc,et,ec⟩:=Jj h (g.gB _ y hm)
 have h1:=Ai (wb x) hj
 have ha:=k.ha
 have hi:=k.hi
 have hp5:=k.hp
 unfold mvB
 split
 ·have:1≤wb x (10*a+i) y:=by unfold wb;omega
  omega
 ·rename_i h4
  have hr:=k.room.resolve_left h4
  obtain ⟨t1,t2,t3,t4⟩:=Zm (c:=i%2) hr (by omega) (by omega)
  rw [Gv (wb x) y (by rw [Ue,g.lB];exact t1)]
  rw [et] at hp
  have hne:a≠t:=fun e=>by
   subst e
   have:=Rm tk ha (show i%2<2 by omega)
   rw [this] at hp;omega
  have e1:wb x (10*a+i) y=hop x (i%2) (a:Int) t+1:=by
   unfold wb
   rw [et,show (10*a+i)%2=i%2 by omega,show (10*a+i)/10=a by omega]
  have e2:wb x (tgt x a p (i%2)) y=hop x (i%2) (next x.1.1 x.1.2.1 a p) t+1:=by
   unfold wb
   rw [et,t2,t3]
  rw [Gf tk ha ht (show i%2<2 by omega) hne hp] at e1
  omega
theorem A8 {x:NetD} {list:List PkD} {B:SSD} {O:List Int} {A S:SSD} (g:Good x list B O A S) {k c:Nat} {y:FlitD} {r:List FlitD} (hk:k<nC x) (hc:c<2) (ec:y.2.2.1=(c:Int)) (hj:S.getD k []=y::r):sumS (wb x) (upd B (10*k+8+c) (·++[y]))+sumS (ws x) (upd S k (List.drop 1))+1=sumS (wb x) B+sumS (ws x) S:=by
 have h1:=Ai (ws x) hj
 have h2:=Gv (wb x) y (S:=B) (k:=10*k+8+c) (by rw [g.lB];omega)
 have e1:wb x (10*k+8+c) y=hop x c (k:Int) y.2.1+1:=by
  unfold wb
  rw [show (10*k+8+c)%2=c by omega,show (10*k+8+c)/10=k by omega]
 have e2:ws x k y=hop x c (k:Int) y.2.1+2:=by
  unfold ws
  rw [ec];rfl
 omega
theorem Ok {x:NetD} {list:List PkD} (h:Sent (stat x) list) (tk:tabsOk (stat x)):∀(l:List GrD) {B:SSD} {O:List Int} {A S:SSD},Good (stat x) list B O A S→(l.map frm).Nodup→(l.map key).Nodup→(∀g∈l,(g.1<nC x∧g.2.1<5∧g.2.2<10∧reqN x g.1 g.2.2 g.2.1)∧Fits x B O g)→
 sumS (wb (stat x)) (l.foldl (bothS x) B)+l.length≤sumS (wb (stat x)) B
 | [],B,O,A,S,g,_,_,_=>Nat.le_refl _
 | a::l,B,O,A,S,g,n1,n2,hf=>by
  obtain ⟨p1,p2⟩:=List.nodup_cons.1 n1
  obtain ⟨q1,q2⟩:=List.nodup_cons.1 n2
  obtain ⟨ha,fa⟩:=hf a (List.mem_cons_self ..)
  have g':=g.move h tk (Co ha fa)
  have m1:=ng g h tk (Co ha fa)
  rw [← Ku,← jr,← kv] at g'
  rw [← Ku] at m1
  simp only [List.foldl_cons,List.length_cons]
  have:=Ok h tk l g' p2 q2 fun b hb=>by
   obtain ⟨hb1,f1,f2,f3⟩:=hf b (List.mem_cons_of_mem _ hb)
   have e1:frm a≠frm b:=fun e=>p1 (e▸List.mem_map_of_mem hb)
   have e2:key a≠key b:=fun e=>q1 (e▸List.mem_map_of_mem hb)
   refine ⟨hb1,?_⟩
   have k1:(popS B a).getD (frm b) []=B.getD (frm b) []:=Q7 _ e1
   have k2:(ownS x O a).getD (outAt b.1 b.2.1 (b.2.2%2)) 0=O.getD (outAt b.1 b.2.1 (b.2.2%2)) 0:=by
    have hne:outAt a.1 a.2.1 (a.2.2%2)≠outAt b.1 b.2.1 (b.2.2%2):=fun e=>by
     obtain ⟨c1,c2,_⟩:=Sx ha.2.1 hb1.2.1 (by omega) (by omega) e
     exact e2 (by unfold key;rw [c1,c2])
    unfold ownS
    simp only [List.getD_eq_getElem?_getD]
    rw [List.getElem?_set_ne hne]
   have k3:(bothS x B a).getD (frm b) []≠[]∧headL ((bothS x B a).getD (frm b) [])=headL (B.getD (frm b) []):=by
    unfold bothS pushS
    split
    ·rw [k1];exact ⟨f1,rfl⟩
    ·have:=Pk (B:=popS B a) (j:=frm b) (k:=tgt x a.1 a.2.1 (a.2.2%2)) (y:=headOf x (frm a)) (by rw [k1];exact f1)
     rw [k1] at this;exact this
   exact ⟨k3.1,k3.2.trans f2,k2.trans f3⟩
  omega
theorem N8 {x:NetD} {list:List PkD} (h:Sent (stat x) list) (tk:tabsOk (stat x)):∀(l:List Nat) {B:SSD} {O:List Int} {A S:SSD},Good (stat x) list B O A S→l.Nodup→(∀k∈l,k<nC x∧S.getD k []≠[]∧headL (S.getD k [])=srcHead x k)→
 sumS (wb (stat x)) (l.foldl (entS x) B)+sumS (ws (stat x)) (l.foldl srcS S)+l.length=sumS (wb (stat x)) B+sumS (ws (stat x)) S
 | [],B,O,A,S,g,_,_=>rfl
 | k::l,B,O,A,S,g,n,hf=>by
  obtain ⟨p1,p2⟩:=List.nodup_cons.1 n
  obtain ⟨hk,f1,f2⟩:=hf k (List.mem_cons_self ..)
  have hS:=X9 f1
  rw [f2] at hS
  obtain ⟨t,c,_,hc,_,ec⟩:=Jj h (g.gS k (srcHead x k) (by rw [hS];exact List.mem_cons_self ..))
  have g':=g.enter h tk (k:=k) (c:=c) hk hc ec hS
  have m1:=A8 g (k:=k) (c:=c) hk hc ec hS
  have e1:entAt x k=10*k+8+c:=by unfold entAt;rw [ec];omega
  have e2:entS x B k=upd B (10*k+8+c) (·++[srcHead x k]):=by unfold entS;rw [e1]
  have e3:srcS S k=upd S k (List.drop 1):=rfl
  rw [← e2,← e3] at g' m1
  simp only [List.foldl_cons,List.length_cons]
  have:=N8 h tk l g' p2 fun j hj=>by
   obtain ⟨c1,c2,c3⟩:=hf j (List.mem_cons_of_mem _ hj)
   have hne:k≠j:=fun e=>p1 (e▸hj)
   refine ⟨c1,?_⟩
   have:(srcS S k).getD j []=S.getD j []:=Q7 _ hne
   rw [this];exact ⟨c2,c3⟩
  omega
def phi (x:NetD):Nat:=sumS (wb (stat x)) x.2.2.1+sumS (ws (stat x)) x.2.2.2.2.2.1
theorem Gr {x:NetD} {list:List PkD} (hc:classesOk x.1.1 x.1.2.1 x.1.2.2 x.2.1.1 x.2.1.2) (h:Sent (stat x) list) (g:GoodN x list):phi (stepN x)+(allN x).length+(enterN x).length≤phi x:=by
 have tk:tabsOk (stat x):=Xk (x:=stat x) hc
 have hg:∀a∈allN x,a.1<nC x∧a.2.1<5∧a.2.2<10∧reqN x a.1 a.2.2 a.2.1:=fun a ha=>by
  obtain ⟨h1,h2⟩:=Yt ha
  have:=Yi x
  exact ⟨by omega,h2⟩
 have hf:∀a∈allN x,(a.1<nC x∧a.2.1<5∧a.2.2<10∧reqN x a.1 a.2.2 a.2.1)∧Fits x x.2.2.1 x.2.2.2.1 a:=fun a ha=>⟨hg a ha,Tm (hg a ha).2.2.2,rfl,rfl⟩
 have k1:Good (stat x) list ((allN x).foldl (bothS x) x.2.2.1) ((allN x).foldl (ownS x) x.2.2.2.1) ((allN x).foldl (arrS x) x.2.2.2.2.2.2.1) x.2.2.2.2.2.1:=
  Good.grants h tk (allN x) g (Uf x) (Y4 x _) hf
 have s1:=Ok h tk (allN x) g (Uf x) (Y4 x _) hf
 rw [Ks x (allN x) x.2.2.1 (Uf x) fun a ha=>Tm (hg a ha).2.2.2] at k1 s1
 have s2:=N8 h tk (enterN x) k1 (Vw x) fun k hk=>by
  obtain ⟨h1,h2⟩:=Xi hk
  have:=Yi x
  exact ⟨by omega,h2.1,rfl⟩
 have e:phi (stepN x)=sumS (wb (stat x)) ((enterN x).foldl (entS x) ((allN x).foldl (pushS x) ((allN x).foldl popS x.2.2.1)))+sumS (ws (stat x)) ((enterN x).foldl srcS x.2.2.2.2.2.1):=rfl
 have e2:phi x=sumS (wb (stat x)) x.2.2.1+sumS (ws (stat x)) x.2.2.2.2.2.1:=rfl
 omega
theorem Gu {x:NetD} {list:List PkD} {ρ:Nat→Nat} (hn:netOk x) (h:Sent (stat x) list) (g:GoodN x list) (rk:Ranked (stat x) ρ):∀k:Nat,x.2.2.2.2.2.2.2+k≤1000000→idle (runN x k)∨phi (runN x k)+k≤phi x
 | 0,_=>.inr (Nat.le_refl _)
 | k+1,hk=>by
  obtain ⟨e,g'⟩:=Z5 hn.1 h g k
  have hn':=Vp hn k (by omega)
  rcases Gu hn h g rk k (by omega) with hi|hp
  ·left
   have:=Lj hi
   show idle (stepN (runN x k))
   rw [this];exact hi
  ·by_cases hi:idle (runN x k)
   ·left
    have:=Lj hi
    show idle (stepN (runN x k))
    rw [this];exact hi
   ·right
    have hp':=Gr hn'.1 (by rw [e];exact h) g'
    have:0<(allN (runN x k)).length+(enterN (runN x k)).length:=by
     rcases Nat.eq_zero_or_pos ((allN (runN x k)).length+(enterN (runN x k)).length) with z|z
     ·exact absurd (Cc hn' (by rw [e];exact h) g' (by rw [e];exact rk) (List.length_eq_zero_iff.1 (by omega)) (List.length_eq_zero_iff.1 (by omega))) hi
     ·exact z
    show phi (stepN (runN x k))+(k+1)≤phi x
    omega
end Go.Proofs.YtaldglgobgjeaaaGreat.V
set_option linter.all false
namespace Go.Proofs.YtaldglgobgjeaaaGreat.V
open Go Go.VM Go.Proofs
set_option maxRecDepth 100000
def rnk (w j:Nat):Nat:=
 if j%10/2=4 then 0
 else if j%2=0 then (if j%10/2=3 then 1+min (j/10%w) 3 else if j%10/2=1 then 1+(3-j/10%w) else if j%10/2=0 then 10+min (j/10/w) 3 else 10+(3-j/10/w))
 else (if j%10/2=0 then 1+min (j/10/w) 3 else if j%10/2=2 then 1+(3-j/10/w) else if j%10/2=3 then 10+min (j/10%w) 3 else 10+(3-j/10%w))
def simP (w c t j:Nat):Nat:=(stdPort (w:Int) (1+(c:Int)) ((j/10:Nat):Int) t).toNat
def simJ (w h c t j:Nat):Nat:=(10*next (w:Int) h ((j/10:Nat):Int) (simP w c t j:Nat)+2*opp ((simP w c t j:Nat):Int)+c).toNat
def simB (w h c t:Nat):Nat→Nat→Bool
 | 0,j=>decide (j/10=t)
 | f+1,j=>decide (j/10=t) || (decide (rnk w j<rnk w (simJ w h c t j))&&simB w h c t f (simJ w h c t j))
def chkB:Bool:=(List.range 5).all fun w=>(List.range 5).all fun h=>(List.range 2).all fun c=>(List.range (w*h)).all fun s=>(List.range (w*h)).all fun t=>simB w h c t 6 (10*s+8+c)
theorem Qbw:chkB=true:=by decide +kernel
theorem qj {x:NetD} {w h s t c:Nat} {R:Nat→Nat} {L:Nat} (rt:Route x s t c R L) (hx:x.1.1=w∧x.1.2.1=h) (hp:∀a,a<nC x→pO x a c t=stdPort w (1+(c:Int)) a t):∀f n,n≤L→simB w h c t f (R n)=true→L≤n+f∧∀m,n≤m→m<L→rnk w (R m)<rnk w (R (m+1)):=by
 have last:∀n,n≤L→R n/10=t→n=L:=fun n hn e=>rt.ij n L hn (Nat.le_refl _) (by rw [e,rt.rt])
 intro f
 induction f with
 | zero=>
  intro n hn e
  have e:R n/10=t:=by simpa [simB] using e
  have:=last n hn e
  exact ⟨by omega,fun m h1 h2=>by omega⟩
 | succ f ih=>
  intro n hn e
  by_cases et:R n/10=t
  ·have:=last n hn et
   exact ⟨by omega,fun m h1 h2=>by omega⟩
  ·have hL:n<L:=by
    rcases Nat.lt_or_ge n L with k|k
    ·exact k
    ·have:n=L:=by omega
     subst this;exact absurd rt.rt et
   unfold simB at e
   rw [decide_eq_false et,Bool.false_or,Bool.and_eq_true,decide_eq_true_eq] at e
   obtain ⟨p,p1,p2,p3,_⟩:=rt.rs n hL
   have hlt:=rt.lt n hn
   rw [hp _ (by omega)] at p2
   have e1:simP w c t (R n)=p:=by unfold simP;rw [p2];rfl
   have e2:simJ w h c t (R n)=R (n+1):=by
    rw [p3];unfold simJ tgt
    rw [e1,hx.1,hx.2]
   rw [e2] at e
   obtain ⟨i1,i2⟩:=ih (n+1) (by omega) e.2
   refine ⟨by omega,fun m h1 h2=>?_⟩
   by_cases em:m=n
   ·subst em;exact e.1
   ·exact i2 m (by omega) h2
def SplitN (w h:Int) (x:NetD):Prop:=x.1=(w,h,[])∧x.2.1=splitT w h
theorem Do {w h:Int} (g:okG w h) {x:NetD} (hx:SplitN w h x) {a c t:Nat} (ha:a<nC x) (ht:t<nC x) (hc:c<2):pO x a c t=stdPort w (1+(c:Int)) a t:=by
 have hn:=Yi x
 obtain ⟨e1,e2⟩:=hx
 have en:nC x=(cnt w h).toNat:=by unfold nC;rw [e1]
 have cn:cnt w h=((cnt w h).toNat:Int):=by have:=Qf w h;omega
 have et:splitT w h=(stdTab w 1 (cnt w h).toNat,stdTab w 2 (cnt w h).toNat):=if_pos g
 unfold pO tabC
 rw [e1,e2,et]
 have ia:isN w h (a:Int):=⟨by omega,by omega⟩
 have it:isN w h (t:Int):=⟨by omega,by omega⟩
 rcases (by omega:c=0∨c=1) with rfl|rfl
 ·simp only [if_neg (show ¬(0:Nat)=1 by omega)]
  rw [U4 cn ia it];rfl
 ·simp only [↓reduceIte]
  rw [U4 cn ia it];rfl
theorem Qec {w h c s t:Nat} (hw:w<5) (hh:h<5) (hc:c<2) (hs:s<w*h) (ht:t<w*h):simB w h c t 6 (10*s+8+c)=true:=by
 have h0:=Qbw
 unfold chkB at h0
 rw [List.all_eq_true] at h0
 have h1:=h0 w (by simpa using hw)
 rw [List.all_eq_true] at h1
 have h2:=h1 h (by simpa using hh)
 rw [List.all_eq_true] at h2
 have h3:=h2 c (by simpa using hc)
 rw [List.all_eq_true] at h3
 have h4:=h3 s (by simpa using hs)
 rw [List.all_eq_true] at h4
 exact h4 t (by simpa using ht)
theorem Dk {w h:Int} (g:okG w h):∃W H:Nat,w=W∧h=H∧W<5∧H<5∧(cnt w h).toNat=W*H:=by
 obtain ⟨⟨a1,a2⟩,b1,b2⟩:=g
 obtain ⟨W,rfl⟩:=Int.eq_ofNat_of_zero_le (show 0≤w by omega)
 obtain ⟨H,rfl⟩:=Int.eq_ofNat_of_zero_le (show 0≤h by omega)
 refine ⟨W,H,rfl,rfl,by omega,by omega,?_⟩
 unfold cnt
 rw [if_pos ⟨⟨a1,a2⟩,b1,b2⟩,← Int.natCast_mul];rfl
theorem xq {w h:Int} (g:okG w h) {x:NetD} (hx:SplitN w h x) {s t c:Nat} {R:Nat→Nat} {L:Nat} (hs:s<nC x) (ht:t<nC x) (hc:c<2) (rt:Route x s t c R L):L≤6∧∀m,m<L→rnk w.toNat (R m)<rnk w.toNat (R (m+1)):=by
 obtain ⟨W,H,rfl,rfl,hW,hH,hn⟩:=Dk g
 have en:nC x=W*H:=by unfold nC;rw [hx.1];exact hn
 obtain ⟨k1,k2⟩:=qj rt (w:=W) (h:=H) ⟨by rw [hx.1],by rw [hx.1]⟩ (fun a ha=>Do g hx ha ht hc) 6 0 (by omega) (by rw [rt.r0];exact Qec hW hH hc (by omega) (by omega))
 exact ⟨by omega,fun m hm=>k2 m (by omega) hm⟩
theorem Lk {x:NetD} (tk:tabsOk x) {s t c:Nat} {R:Nat→Nat} {L:Nat} (hs:s<nC x) (ht:t<nC x) (hc:c<2) (rt:Route x s t c R L):hop x c s t=L:=by
 have key:∀d n,n≤L→L-n=d→hop x c ((R n/10:Nat):Int) t=d:=by
  intro d
  induction d with
  | zero=>
   intro n hn e
   have:n=L:=by omega
   subst this
   rw [rt.rt]
   exact C4 tk ht hc (L:=0) (by omega) rfl (fun n h=>by omega)
  | succ d ih=>
   intro n hn e
   have hL:n<L:=by omega
   obtain ⟨p,p1,p2,p3,p4⟩:=rt.rs n hL
   have hlt:=rt.lt n hn
   have hne:R n/10≠t:=fun e2=>by
    have:=rt.ij n L hn (Nat.le_refl _) (by rw [e2,rt.rt]);omega
   obtain ⟨t1,t2,t3,t4⟩:=Zm (c:=c) p4 p1 hc
   rw [Gf tk (by omega) ht hc hne p2,← t3,← p3,ih (n+1) (by omega) (by omega)]
 have:=key L 0 (by omega) (by omega)
 rw [rt.r0,show (10*s+8+c)/10=s by omega] at this
 exact this
theorem qg {w h:Int} (g:okG w h) {x:NetD} (hx:SplitN w h x) (tk:tabsOk x) {s t c:Nat} (hs:s<nC x) (ht:t<nC x) (hc:c<2):hop x c s t≤6:=by
 obtain ⟨R,L,rt⟩:=Z1 tk hs ht hc
 rw [Lk tk hs ht hc rt]
 exact (xq g hx hs ht hc rt).1
theorem zi (f:Nat→FlitD→Nat) (k:Nat) (l m:List FlitD):sumL f k (l++m)=sumL f k l+sumL f k m:=by simp [sumL]
theorem Bm {f:Nat→FlitD→Nat} {k b:Nat}:∀(l:List FlitD),(∀y∈l,f k y≤b)→sumL f k l≤b*l.length
 | [],_=>by simp [sumL]
 | y::l,h=>by
  have h1:=h y (List.mem_cons_self ..)
  have h2:=Bm l fun z hz=>h z (List.mem_cons_of_mem _ hz)
  have:sumL f k (y::l)=f k y+sumL f k l:=by simp [sumL]
  rw [this,List.length_cons,Nat.mul_succ];omega
theorem Bb {x:NetD} {list:List PkD} (hn:netOk x) (h:Sent (stat x) list) (g:GoodN x list):∀k:Nat,x.2.2.2.2.2.2.2+k≤1000000→phi (runN x k)≤phi x
 | 0,_=>Nat.le_refl _
 | k+1,hk=>by
  obtain ⟨e,g'⟩:=Z5 hn.1 h g k
  have hn':=Vp hn k (by omega)
  have:=Gr hn'.1 (by rw [e];exact h) g'
  have:=Bb hn h g k (by omega)
  show phi (stepN (runN x k))≤_
  omega
theorem Az {x:NetD} {list:List PkD} (g:GoodN x list) {t c:Nat} (ht:t<nC x) (hc:c<2):arrIds x.2.2.2.2.2.2.1 t (c:Int)=tailIds ((x.2.2.2.2.2.2.1.getD t []).filter fun f=>f.2.2.1=(c:Int)):=by
 obtain ⟨st,fr,sr,w,_⟩:=g.wf
 exact R5 _ _ (w.w7 t c ht hc)
theorem Qaq {x:NetD} {list:List PkD} (h:Sent (stat x) list) {p:PkD} (hp:p∈list):∃t c:Nat,t<nC x∧c<2∧p.2.2.1=(t:Int)∧p.2.2.2.1=(c:Int)∧p.2.2.1.toNat=t∧∃s:Nat,s<nC x∧p.2.1=(s:Int):=by
 obtain ⟨_,⟨q1,q2⟩,⟨q3,q4⟩,_,q5,q6⟩:=h.ok p hp
 have hnn:=Yi x
 have q2':p.2.1<cnt x.1.1 x.1.2.1:=q2
 have q4':p.2.2.1<cnt x.1.1 x.1.2.1:=q4
 unfold inR at q5
 exact ⟨p.2.2.1.toNat,p.2.2.2.1.toNat,by omega,by omega,by omega,by omega,rfl,p.2.1.toNat,by omega,by omega⟩
theorem D6 {x:NetD} {list:List PkD} (hn:netOk x) (hi:idle x) (h:Sent (stat x) list) (g:GoodN x list):lacks x list=[]:=by
 unfold lacks
 rw [List.filter_eq_nil_iff.2]
 ·rfl
 intro p hp
 obtain ⟨t,c,ht,hc,et,ec,etn,s,hs,es⟩:=Qaq h hp
 unfold lackP
 rw [etn,ec,Az g ht hc]
 simp only [Bool.not_eq_true,Bool.not_eq_false',decide_eq_true_eq]
 have z:=(Iz hn hi h g).1 s t c hs ht hc
 have ea:=Nd h.u (fun y hy=>(g.gA t y hy).1) s c
 have m1:p.1∈tailIds (flowFl x list s t c):=by
  rw [Og (x:=x) h.ok]
  unfold sentIds
  refine List.mem_map.2 ⟨p,List.mem_filter.2 ⟨hp,?_⟩,rfl⟩
  rw [decide_eq_true_eq]
  exact ⟨es,et,ec⟩
 rw [← z,← ea] at m1
 unfold tailIds at m1 ⊢
 obtain ⟨y,hy,e⟩:=List.mem_map.1 m1
 obtain ⟨y1,y2⟩:=List.mem_filter.1 hy
 exact List.mem_map.2 ⟨y,List.mem_filter.2 ⟨(List.mem_filter.1 y1).1,y2⟩,e⟩
end Go.Proofs.YtaldglgobgjeaaaGreat.V
set_option linter.all false
namespace Go.Proofs.YtaldglgobgjeaaaGreat.V
open Go Go.VM Go.Proofs
set_option maxRecDepth 10000
structure ChipI (w h:Int) (a:ChipD):Prop where
 g:okG w h
 good:GoodC a
 sp:SplitN w h a.1
 ph:phi a.1≤40*a.2.length
theorem Ii {x:NetD} (hB:∀j,x.2.2.1.getD j []=[]) (hS:∀j,x.2.2.2.2.2.1.getD j []=[]):phi x=0:=by
 have z:∀(f:Nat→FlitD→Nat) (S:SSD),(∀j,S.getD j []=[])→sumS f S=0:=fun f S hS=>by
  unfold sumS
  have:((List.range S.length).map fun j=>sumL f j (S.getD j []))=List.replicate S.length 0:=by
   apply List.ext_getElem
   ·simp
   ·intro i h1 h2
    simp only [List.getElem_map,List.getElem_range,List.getElem_replicate]
    rw [hS];rfl
  rw [this];simp
 unfold phi
 rw [z _ _ hB,z _ _ hS]
theorem wt {w h:Int} (g:okG w h):ChipI w h (chipNew w h):=by
 have hg:=mt g
 have hc:=Zv g
 have e:chipNew w h=(netNew (w,h,[]) (splitT w h),[]):=if_pos g
 have e2:netNew (w,h,[]) (splitT w h)=((w,h,[]),splitT w h,List.replicate (10*(cnt w h).toNat) [],List.replicate (10*(cnt w h).toNat) (-1),List.replicate (5*(cnt w h).toNat) 0,List.replicate (cnt w h).toNat [],List.replicate (cnt w h).toNat [],0):=by
  unfold netNew;rw [if_pos hc]
 have rep:∀n j,(List.replicate n ([]:List FlitD)).getD j []=[]:=fun n j=>by
  rw [List.getD_eq_getElem?_getD,List.getElem?_replicate]
  split<;>rfl
 refine ⟨g,hg,?_,?_⟩
 ·rw [e,e2];exact ⟨rfl,rfl⟩
 ·rw [e,e2,Ii (rep _) (rep _)];omega
theorem yn {x:NetD} {list:List PkD} (hc:classesOk x.1.1 x.1.2.1 x.1.2.2 x.2.1.1 x.2.1.2) (h:Sent (stat x) list) (g:GoodN x list) (k:Nat):(runN x k).1=x.1∧(runN x k).2.1=x.2.1:=by
 obtain ⟨e,_⟩:=Z5 hc h g k
 have e1:(stat (runN x k)).1=(stat x).1:=by rw [e]
 have e2:(stat (runN x k)).2.1=(stat x).2.1:=by rw [e]
 exact ⟨e1,e2⟩
theorem Jn {a:ChipD} (h:GoodC a):delivered a=(a.2.length:Int)-(lacks a.1 a.2).length:=by
 have hs:=Zf h.1.2.2.1
 unfold delivered missing
 rw [if_pos h.1,if_pos ⟨h.1.1,hs.ok⟩]
theorem D4 {l m:List Int} (hl:l.Pairwise (· < ·)) (hm:m.Pairwise (· < ·)) (h:∀x,x∈l↔x∈m):l=m:=by
 induction l generalizing m with
 | nil=>
  cases m with
  | nil=>rfl
  | cons b m=>have:=(h b).2 (List.mem_cons_self ..);simp at this
 | cons a l ih=>
  cases m with
  | nil=>have:=(h a).1 (List.mem_cons_self ..);simp at this
  | cons b m=>
   obtain ⟨l1,l2⟩:=List.pairwise_cons.1 hl
   obtain ⟨m1,m2⟩:=List.pairwise_cons.1 hm
   have e:a=b:=by
    rcases List.mem_cons.1 ((h a).1 (List.mem_cons_self ..)) with e|e
    ·exact e
    ·rcases List.mem_cons.1 ((h b).2 (List.mem_cons_self ..)) with e'|e'
     ·exact e'.symm
     ·have:=m1 a e;have:=l1 b e';omega
   subst e
   congr 1
   refine ih l2 m2 fun x=>⟨fun hx=>?_,fun hx=>?_⟩
   ·rcases List.mem_cons.1 ((h x).1 (List.mem_cons_of_mem _ hx)) with e|e
    ·subst e;have:=l1 x hx;omega
    ·exact e
   ·rcases List.mem_cons.1 ((h x).2 (List.mem_cons_of_mem _ hx)) with e|e
    ·subst e;have:=m1 x hx;omega
    ·exact e
def insK (k:Int):List Int→List Int
 | []=>[k]
 | a::l=>if k<a then k::a::l else if k=a then a::l else a::insK k l
theorem Nu (k x:Int):∀l,x∈insK k l↔x=k∨x∈l
 | []=>by simp [insK]
 | a::l=>by
  unfold insK
  split
  ·simp
  ·split
   ·rename_i e;subst e;simp
   ·rw [List.mem_cons,Nu k x l,List.mem_cons]
    constructor
    ·rintro (h|h|h)
     ·exact .inr (.inl h)
     ·exact .inl h
     ·exact .inr (.inr h)
    ·rintro (h|h|h)
     ·exact .inr (.inl h)
     ·exact .inl h
     ·exact .inr (.inr h)
theorem Fr (k:Int):∀l:List Int,l.Pairwise (· < ·)→(insK k l).Pairwise (· < ·)
 | [],_=>by simp [insK]
 | a::l,h=>by
  obtain ⟨h1,h2⟩:=List.pairwise_cons.1 h
  unfold insK
  split
  ·rename_i g
   refine List.pairwise_cons.2 ⟨fun x hx=>?_,h⟩
   rcases List.mem_cons.1 hx with rfl|hx
   ·exact g
   ·have:=h1 x hx;omega
  ·split
   ·exact h
   ·refine List.pairwise_cons.2 ⟨fun x hx=>?_,Fr k l h2⟩
    rcases (Nu k x l).1 hx with rfl|hx
    ·omega
    ·exact h1 x hx
noncomputable def arrK (l:List Int):List Int:=l.foldl (fun s k=>insK k s) []
theorem Of:∀(l s:List Int),s.Pairwise (· < ·)→(l.foldl (fun s k=>insK k s) s).Pairwise (· < ·)∧∀x,x∈l.foldl (fun s k=>insK k s) s↔x∈s∨x∈l
 | [],s,h=>⟨h,fun x=>by simp⟩
 | k::l,s,h=>by
  obtain ⟨i1,i2⟩:=Of l (insK k s) (Fr k s h)
  refine ⟨i1,fun x=>?_⟩
  rw [List.foldl_cons,i2,Nu,List.mem_cons]
  constructor
  ·rintro ((h|h)|h)
   ·exact .inr (.inl h)
   ·exact .inl h
   ·exact .inr (.inr h)
  ·rintro (h|h|h)
   ·exact .inl (.inr h)
   ·exact .inl (.inl h)
   ·exact .inr h
theorem O1 (l:List Int):(arrK l).Pairwise (· < ·):=(Of l [] List.Pairwise.nil).1
theorem Sz (l:List Int) (x:Int):x∈arrK l↔x∈l:=by
 have:=(Of l [] List.Pairwise.nil).2 x
 unfold arrK
 rw [this];simp
end Go.Proofs.YtaldglgobgjeaaaGreat.V
set_option linter.all false
namespace Go.Proofs.YtaldglgobgjeaaaGreat.V
open Go Go.VM Go.Proofs
set_option maxRecDepth 10000
variable {frz:Nat} {H:Heap} {v:Value} {xs:List Int} {e:TypeId} {f:Value}
def Fl.dep:Fl Int:=⟨2,fun k=>[.int .i64 (k/1024),.int .i64 (k%1024)],fun _=>rfl⟩
@[simp] theorem Fl.dep_n:Fl.dep.n=2:=rfl
def dv (k:Int):Value:=.agg #[.int .i64 (k/1024),.int .i64 (k%1024)]
theorem jl (k:Int):Value.agg (Fl.dep.f k).toArray=dv k:=rfl
def KB (k:Int):Prop:=0≤k∧k<1099511627776
def Bd (xs:List Int):Prop:=∀x∈xs,KB x
theorem Bd.G (h:Bd xs) (i:Nat):KB (G xs i):=by
 by_cases hi:i<xs.length
 ·rw [Wz hi];exact h _ (List.getElem_mem hi)
 ·have:V.G xs i=0:=by simp [V.G,List.getD_eq_getElem?_getD,hi]
  rw [this];exact ⟨by decide,by decide⟩
theorem Bd.swp (h:Bd xs) (i j:Nat):Bd (swp xs i j):=fun x hx=>by
 unfold V.swp at hx
 rcases List.mem_or_eq_of_mem_set hx with hx|rfl
 ·rcases List.mem_or_eq_of_mem_set hx with hx|rfl
  ·exact h x hx
  ·exact h.G j
 ·exact h.G i
def OwE (e:TypeId) (H:Heap) (v:Value) (xs:List Int):Prop:=Ow Fl.dep e H v xs∧Bd xs
theorem OwE.rd (h:OwE e H v xs):Rd Fl.dep H v xs:=h.1.rd
theorem OwE.lt (h:OwE e H v xs):∀i∈ids v,i<H.length:=h.1.lt
theorem OwE.app {L:Heap} (h:OwE e H v xs):OwE e (H++L) v xs:=⟨h.1.app,h.2⟩
theorem OwE.chg {H':Heap} {is:List Nat} (h:OwE e H v xs) (k:Chg H H' is) (k':∀i∈ids v,i∉is):OwE e H' v xs:=⟨h.1.chg k k',h.2⟩
theorem Qt (o:OwE e H v xs) {i:Nat} (h1:i<xs.length):vindexAddr Tryz.prog H 125 v (.int .i64 i)=some (elp v (i*2)):=by
 have:=o.rd.idx (P:=Tryz.prog) (ty:=125) (e:=194) (by simp) (i:=(i:Int)) (by omega) (by omega)
 simpa using this
theorem Qu (o:OwE e H v xs) {i:Nat} (h1:i<xs.length):vload Tryz.prog H 194 (elp v (i*2))=some (dv (G xs i)):=by
 have:=o.rd.load (P:=Tryz.prog) (e:=194) (by simp) h1
 rw [Wz h1,← jl]
 exact this
theorem W9 (o:OwE e H v xs) {i j:Nat} (hi:i<xs.length) (hj:j<xs.length) (hf:∀i∈ids v,frz≤i) :
 ∃H1 H2,vstore Tryz.prog frz H 194 (dv (G xs j)) (elp v (i*2))=some H1∧(∀k:Nat,k<xs.length→vindexAddr Tryz.prog H1 125 v (.int .i64 k)=some (elp v (k*2)))∧
  vstore Tryz.prog frz H1 194 (dv (G xs i)) (elp v (j*2))=some H2∧OwE e H2 v (swp xs i j)∧Chg H H2 (ids v)∧H2.length=H.length:=by
 obtain ⟨H1,s1,o1,c1,l1⟩:=o.1.store (P:=Tryz.prog) (frz:=frz) (et:=194) (ag:=true) (by simp) hi (x:=dv (G xs j)) (y:=G xs j) rfl rfl hf
 obtain ⟨H2,s2,o2,c2,l2⟩:=o1.store (P:=Tryz.prog) (frz:=frz) (et:=194) (ag:=true) (by simp) (j:=j) (by simpa using hj) (x:=dv (G xs i)) (y:=G xs i) rfl rfl hf
 have b1:Bd (xs.set i (G xs j)):=fun x hx=>by
  rcases List.mem_or_eq_of_mem_set hx with hx|rfl
  ·exact o.2 x hx
  ·exact o.2.G j
 exact ⟨H1,H2,s1,fun k hk=>Qt ⟨o1,b1⟩ (by simpa using hk),s2,⟨o2,o.2.swp i j⟩,c1.trans c2,by omega⟩
def SwdE (H:Heap) (v:Value) (xs:List Int) (e:TypeId) (a b:Nat) (K:List Int→Prop) (H':Heap):Prop:=
 ∃ys,Sw a b xs ys∧K ys∧OwE e H' v ys∧Chg H H' (ids v)∧H'.length=H.length
def cmpZ (x y:Int):Int:=if x/1024=y/1024 then x%1024-y%1024 else x/1024-y/1024
@[simp] theorem Qhs (x y:Int):cmpZ x y<0↔x<y:=by unfold cmpZ;split<;>omega
def CmpK (f:Value):Prop:=∀F K x y,KB x→KB y→vclos (vcall C F) f [dv x,dv y] K=some (.int .i64 (cmpZ x y),K)
theorem dlt (hc:CmpK f) (o:OwE e H v xs) (F:Nat) (K:Heap) (i j:Nat):vclos (vcall C F) f [dv (G xs i),dv (G xs j)] K=some (.int .i64 (cmpZ (G xs i) (G xs j)),K):=hc F K _ _ (o.2.G i) (o.2.G j)
theorem Fx (a:Int) (b:Nat) (hb:b<18446744073709551616):0≤iand .u64 a b∧iand .u64 a b≤b:=by
 unfold iand
 have h1:(BitVec.ofInt IntKind.u64.bits a&&& BitVec.ofInt IntKind.u64.bits (b:Int)).toNat≤b:=by
  rw [BitVec.toNat_and]
  refine Nat.le_trans Nat.and_le_right ?_
  rw [BitVec.toNat_ofInt]
  have:IntKind.u64.bits=64:=rfl
  rw [this];omega
 rw [w64u (by omega) (by omega)]
 omega
def BoxE (H:Heap) (r:Nat):Prop:=∃s,H[r]? = some ⟨[.int .i64 s],0,3⟩
end Go.Proofs.YtaldglgobgjeaaaGreat.V
set_option linter.all false
namespace Go.Proofs.YtaldglgobgjeaaaGreat.V
open Go Go.VM Go.Proofs
set_option maxRecDepth 10000
variable {frz:Nat} {H:Heap} {v:Value} {xs:List Int} {e:TypeId} {cf:Value} (hK:CmpK cf)
include hK
theorem wj (v:Value) (xs:List Int) (e:TypeId) (a b:Nat) (h:OwE e H v xs) (hab:a≤b) (hb:b≤xs.length) (hl:xs.length≤1073741824) (hf:∀i∈ids v,frz≤i) :
 wp (vcall C frz 205 [v,.int .i64 a,.int .i64 b,cf] H) (fun _ H'=>SwdE H v xs e a b (fun ys=>Srt ys a b) H'):=by
 rw [Qb (fn:=Tryz.f205) Tryz.func205 rfl (by kernel_rfl) rfl]
 simp
 refine Qh (fun n t H'=>∃i:Nat,n=b-i∧(t 0=v∧t 3=cf)∧t 1=.int .i64 a∧t 2=.int .i64 b∧t 8=.int .i64 i∧a+1≤i∧i≤max (a+1) b∧SwdE H v xs e a b (fun ys=>Srt ys a i) H') ?_ (n:=b-(a+1))
  ⟨a+1,by simp,by simp,by simp,by simp,by simp;exact w64 (by omega) (by omega),by omega,by omega,xs,.refl,Srt.short (by omega),h,Chg.refl _,rfl⟩
 rintro n t H' ⟨i,rfl,h0,h1,h2,h6,ha,hi,ys,sw,sr,o,c,l⟩ ih
 simp [h0,h1,h2,h6]
 refine Qc ?_ ?_<;>intro hib
 ·simp [h0,h1,h2,h6]
  refine Qh (fun n t H'=>∃j:Nat,n=j∧(t 0=v∧t 3=cf)∧t 1=.int .i64 a∧t 2=.int .i64 b∧t 8=.int .i64 i∧t 9=.int .i64 j∧a≤j∧j≤i∧SwdE H v xs e a b (fun ys=>Ins ys a i j) H') ?_ (n:=i)
   ⟨i,rfl,by simp [h0],by simp [h1],by simp [h2],by simp [h6],by simp,by omega,by omega,ys,sw,Ins.start sr,o,c,l⟩
  rintro j t H' ⟨_,rfl,h0,h1,h2,h6,h7,haj,hji,ys,sw,ins,o,c,l⟩ ih2
  have len:=sw.len
  simp [h0,h1,h2,h6,h7]
  rw [Qe (h:=by kernel_rfl)]
  simp [h0,h1,h2,h6,h7]
  refine Qz ?_ ?_<;>intro hja
  ·have e1:IntKind.i64.wrap ((j:Int)-1)=((j-1:Nat):Int):=by rw [w64 (by omega) (by omega)];omega
   have p1:j<ys.length:=by omega
   have p2:j-1<ys.length:=by omega
   simp [h0,h1,h2,h6,h7,hja,e1,Qt o p1,Qt o p2,Qu o p1,Qu o p2,dlt hK o]
   have out:∀t':Env,(t' 0=v∧t' 3=cf)→t' 1=.int .i64 a→t' 2=.int .i64 b→t' 8=.int .i64 (IntKind.i64.wrap ((i:Int)+1))→(j=a∨(a<j∧G ys (j-1)≤G ys j))→
    ∃i':Nat,b-(i+1)=b-i'∧(t' 0=v∧t' 3=cf)∧t' 1=.int .i64 a∧t' 2=.int .i64 b∧t' 8=.int .i64 i'∧a+1≤i'∧i'≤max (a+1) b∧SwdE H v xs e a b (fun ys=>Srt ys a i') H':=by
    intro t' g0 g1 g2 g6 hj
    exact ⟨i+1,rfl,g0,g1,g2,by rw [g6,w64 (by omega) (by omega)];simp,by omega,by omega,ys,sw,ins.done hj,o,c,l⟩
   refine Qc ?_ ?_<;>intro hlt
   ·simp [h0,h1,h2,h6,h7]
    rw [Qe (h:=by kernel_rfl)]
    obtain ⟨H1,H2,s1,ix,s2,o2,c2,l2⟩:=W9 o p1 p2 hf
    simp [h0,h1,h2,h6,h7,e1,Qt o p1,Qt o p2,Qu o p1,Qu o p2,s1,ix _ p1,ix _ p2,s2]
    refine ih2 (j-1) _ _ ⟨j-1,rfl,by simp [h0],by simp [h1],by simp [h2],by simp [h6],by simp [e1],by omega,by omega,_,sw.step j (j-1) (by omega) (by omega),?_,o2,c.trans c2,by omega⟩ (by omega)
    exact ins.step (by omega) hja hji hlt
   ·simp [h0,h1,h2,h6,h7]
    refine ih (b-(i+1)) _ _ (out _ ?_ ?_ ?_ ?_ (.inr ⟨hja,by omega⟩)) (by omega)<;>simp [h0,h1,h2]
  ·simp [h0,h1,h2,h6,h7,hja]
   refine ih (b-(i+1)) _ _ ⟨i+1,rfl,by simp [h0],by simp [h1],by simp [h2],?_,by omega,by omega,ys,sw,ins.done (.inl (by omega)),o,c,l⟩ (by omega)
   simp;exact w64 (by omega) (by omega)
 ·have:i=max (a+1) b:=by omega
  simp
  exact ⟨ys,sw,fun p q h1 h2 h3=>sr p q h1 h2 (by omega),o,c,l⟩
theorem N7 (v:Value) (xs:List Int) (e:TypeId) (lo n f:Nat) (h:OwE e H v xs) (hp:Hp xs f (lo+1) n) (hlo:lo≤n) (hn:f+n≤xs.length) (hl:xs.length≤1073741824) (hf:∀i∈ids v,frz≤i) :
 wp (vcall C frz 218 [v,.int .i64 lo,.int .i64 n,.int .i64 f,cf] H) (fun _ H'=>SwdE H v xs e (f+lo) (f+n) (fun ys=>Hp ys f lo n) H'):=by
 rw [Qb (fn:=Tryz.f218) Tryz.func218 rfl (by kernel_rfl) rfl]
 simp
 refine Qh (fun m t H'=>∃r:Nat,m=n-r∧(t 0=v∧t 4=cf)∧t 2=.int .i64 n∧t 3=.int .i64 f∧t 10=.int .i64 r∧lo≤r∧r≤n∧SwdE H v xs e (f+lo) (f+n) (fun ys=>HpB ys f lo n r) H') ?_ (n:=n-lo)
  ⟨lo,rfl,by simp,by simp,by simp,by simp,by omega,by omega,xs,.refl,HpB.start hp,h,Chg.refl _,rfl⟩
 rintro m t H' ⟨r,rfl,h0,h2,h3,h8,hlr,hrn,ys,sw,hb,o,c,l⟩ ih
 have len:=sw.len
 obtain ⟨c1,hc1⟩:∃c1,c1=2*r+1:=⟨_,rfl⟩
 obtain ⟨c2,hc2⟩:∃c2,c2=2*r+2:=⟨_,rfl⟩
 obtain ⟨d0,hd0⟩:∃d0,d0=f+r:=⟨_,rfl⟩
 obtain ⟨d1,hd1⟩:∃d1,d1=f+c1:=⟨_,rfl⟩
 obtain ⟨d2,hd2⟩:∃d2,d2=f+c2:=⟨_,rfl⟩
 have e1:IntKind.i64.wrap (IntKind.i64.wrap (2*(r:Int))+1)=(c1:Int):=by rw [w64 (x:=2*(r:Int)) (by omega) (by omega),w64 (by omega) (by omega)];omega
 simp [h0,h2,h3,h8,e1]
 refine Qc ?_ ?_<;>intro hc
 ·simp
  exact ⟨ys,sw,hb.done (fun q h1 h2=>by omega),o,c,l⟩
 ·have e2:IntKind.i64.wrap ((c1:Int)+1)=(c2:Int):=by rw [w64 (by omega) (by omega)];omega
  have e3:IntKind.i64.wrap ((f:Int)+(c1:Int))=(d1:Int):=by rw [w64 (by omega) (by omega)];omega
  have e4:IntKind.i64.wrap ((d1:Int)+1)=(d2:Int):=by rw [w64 (by omega) (by omega)];omega
  have e5:IntKind.i64.wrap ((f:Int)+(r:Int))=(d0:Int):=by rw [w64 (by omega) (by omega)];omega
  have p0:d0<ys.length:=by omega
  have p1:d1<ys.length:=by omega
  refine (fun (rest:∀(q:Nat) (t':Env),(q=2*r+1∨q=2*r+2)→q<n→(∀p,(p=2*r+1∨p=2*r+2)→p<n→G ys (f+p)≤G ys (f+q))→
   (t' 0=v∧t' 4=cf)→t' 2=.int .i64 n→t' 3=.int .i64 f→t' 10=.int .i64 r→t' 11=.int .i64 q→wp (go ?F ?k .normal t' H') ?Q)=>?main) ?rest
  case main=>
   simp [h0,h2,h3,h8,hc,e2]
   rw [Qe (h:=by kernel_rfl)]
   simp [h0,h2,h3,h8,e2]
   refine Qz ?_ ?_<;>intro g1
   ·have p2:d2<ys.length:=by omega
    simp [h0,h2,h3,h8,e2,g1,e3,e4,Qt o p1,Qt o p2,Qu o p1,Qu o p2,dlt hK o]
    refine Qc ?_ ?_<;>intro g2<;>simp [e2]
    ·refine rest c2 _ (.inr hc2) g1 (fun p g3 g4=>?_) ?_ ?_ ?_ ?_ ?_<;>try simp [h0,h2,h3,h8]
     rw [← hd2]
     rcases g3 with g3|g3
     ·rw [g3,← hc1,← hd1];omega
     ·rw [g3,← hc2,← hd2];omega
    ·refine rest c1 _ (.inl hc1) (by omega) (fun p g3 g4=>?_) ?_ ?_ ?_ ?_ ?_<;>try simp [h0,h2,h3,h8]
     rw [← hd1]
     rcases g3 with g3|g3
     ·rw [g3,← hc1,← hd1];omega
     ·rw [g3,← hc2,← hd2];omega
   ·simp [h0,h2,h3,h8,e2,g1]
    refine rest c1 _ (.inl hc1) (by omega) (fun p g3 g4=>?_) ?_ ?_ ?_ ?_ ?_<;>try simp [h0,h2,h3,h8]
    have:p=c1:=by omega
    rw [this];omega
  case rest=>
   intro q t hq hqn hbig h0 h2 h3 h8 h9
   obtain ⟨dq,hdq⟩:∃dq,dq=f+q:=⟨_,rfl⟩
   have e6:IntKind.i64.wrap ((f:Int)+(q:Int))=(dq:Int):=by rw [w64 (by omega) (by omega)];omega
   have pq:dq<ys.length:=by omega
   rw [← hdq] at hbig
   rw [Qe (h:=by kernel_rfl)]
   simp [h0,h2,h3,h8,h9,e5,e6,Qt o p0,Qt o pq,Qu o p0,Qu o pq,dlt hK o]
   refine Qc ?_ ?_<;>intro g1
   ·simp [h0,h2,h3,h8,h9]
    rw [Qe (h:=by kernel_rfl)]
    obtain ⟨H1,H2,s1,ix,s2,o2,c3,l2⟩:=W9 o p0 pq hf
    simp [h0,h2,h3,h8,h9,e5,e6,Qt o p0,Qt o pq,Qu o p0,Qu o pq,s1,ix _ p0,ix _ pq,s2]
    refine ih (n-q) _ _ ⟨q,rfl,by simp [h0],by simp [h2],by simp [h3],by simp,by omega,by omega,_,sw.step d0 dq (by omega) (by omega),?_,o2,c.trans c3,by omega⟩ (by omega)
    subst hd0 hdq
    exact hb.step (by omega) hlr hq hqn g1 hbig
   ·simp
    subst hd0 hdq
    exact ⟨ys,sw,hb.done (fun p g3 g4=>by have:=hbig p g3 g4;omega),o,c,l⟩
theorem Cs (v:Value) (xs:List Int) (e:TypeId) (a b:Nat) (h:OwE e H v xs) (hab:a<b) (hb:b≤xs.length) (hl:xs.length≤1073741824) (hf:∀i∈ids v,frz≤i) :
 wp (vcall C frz 206 [v,.int .i64 a,.int .i64 b,cf] H) (fun _ H'=>SwdE H v xs e a b (fun ys=>Srt ys a b) H'):=by
 rw [Qb (fn:=Tryz.f206) Tryz.func206 rfl (by kernel_rfl) rfl]
 obtain ⟨n,hn⟩:∃n,n=b-a:=⟨_,rfl⟩
 have e1:IntKind.i64.wrap ((b:Int)-a)=(n:Int):=by rw [w64 (by omega) (by omega)];omega
 have e2:IntKind.i64.wrap ((n:Int)-1)=((n-1:Nat):Int):=by rw [w64 (by omega) (by omega)];omega
 have e3:IntKind.i64.wrap (((n-1:Nat):Int)/2)=(((n-1)/2+1:Nat):Int)-1:=by rw [w64 (by omega) (by omega)];omega
 have e4:((n:Int)-1)=((n-1:Nat):Int):=by omega
 have hbn:a+n=b:=by omega
 simp [e1,e2,e3]
 refine Qh (fun m t H'=>∃k:Nat,m=k∧(t 0=v∧t 3=cf)∧t 8=.int .i64 a∧t 9=.int .i64 0∧t 10=.int .i64 n∧t 11=.int .i64 ((k:Int)-1)∧k≤n∧SwdE H v xs e a b (fun ys=>Hp ys a k n) H') ?_ (n:=(n-1)/2+1)
  ⟨(n-1)/2+1,rfl,by simp,by simp,by simp,by simp,by simp,by omega,xs,.refl,fun r c h1 h2 h3=>by omega,h,Chg.refl _,rfl⟩
 rintro k t H' ⟨_,rfl,h0,h6,h7,h8,h9,hkn,ys,sw,hp,o,c,l⟩ ih
 have len:=sw.len
 simp [h0,h6,h7,h8,h9]
 refine Qc ?_ ?_<;>intro hk
 ·obtain ⟨k,rfl⟩:∃k',k=k'+1:=⟨k-1,by omega⟩
  have e5:((k+1:Nat):Int)-1=(k:Int):=by omega
  rw [e5] at h9
  simp [h0,h6,h7,h8,h9]
  refine Qd (N7 hK v ys e k n a o hp (by omega) (by omega) (by omega) hf) ?_
  rintro _ H1 ⟨zs,sw1,hp1,o1,c1,l1⟩
  simp [h0,h6,h7,h8,h9]
  refine ih k _ _ ⟨k,rfl,by simp [h0],by simp [h6],by simp [h7],by simp [h8],?_,by omega,zs,sw.trans (sw1.mono (by omega) (by omega)),hp1,o1,c.trans c1,by omega⟩ (by omega)
  simp;rw [w64 (by omega) (by omega)]
 ·obtain rfl:k=0:=by omega
  simp [h0,h6,h7,h8,h9,e2]
  refine Qh (fun m t H'=>∃k:Nat,m=k∧(t 0=v∧t 3=cf)∧t 8=.int .i64 a∧t 9=.int .i64 0∧t 12=.int .i64 ((k:Int)-1)∧k≤n∧
   SwdE H v xs e a b (fun ys=>Hp ys a 0 k∧Srt ys (a+k) b∧∀p q,a≤p→p<a+k→a+k≤q→q<b→G ys p≤G ys q) H') ?_ (n:=n)
   ⟨n,rfl,by simp [h0],by simp [h6],by simp [h7],by simp [e4],by omega,ys,sw,⟨hp,Srt.short (by omega),fun p q h1 h2 h3 h4=>by omega⟩,o,c,l⟩
  clear ih h0 h6 h7 h8 h9 o c l hp sw len
  rintro k t H' ⟨_,rfl,h0,h6,h7,h10,hkn,ys,sw,⟨hp,hs,hle⟩,o,c,l⟩ ih
  have len:=sw.len
  simp [h0,h6,h7,h10]
  refine Qc ?_ ?_<;>intro hk
  ·obtain ⟨k,rfl⟩:∃k',k=k'+1:=⟨k-1,by omega⟩
   have e5:((k+1:Nat):Int)-1=(k:Int):=by omega
   rw [e5] at h10
   obtain ⟨d,hd⟩:∃d,d=a+k:=⟨_,rfl⟩
   have e6:IntKind.i64.wrap ((a:Int)+(k:Int))=(d:Int):=by rw [w64 (by omega) (by omega)];omega
   have p0:a<ys.length:=by omega
   have p1:d<ys.length:=by omega
   obtain ⟨H1,H2,s1,ix,s2,o2,c2,l2⟩:=W9 o p0 p1 hf
   simp [h0,h6,h7,h10]
   rw [Qe (h:=by kernel_rfl)]
   simp [h0,h6,h7,h10,e6,Qt o p0,Qt o p1,Qu o p0,Qu o p1,s1,ix _ p0,ix _ p1,s2]
   have gs:=fun q=>Xw (xs:=ys) p0 p1 q
   refine Qd (N7 hK v _ e 0 k a o2 (fun r q h1 h2 h3=>?_) (by omega) (by simp;omega) (by simp;omega) hf) ?_
   ·rw [gs,gs,if_neg (by omega),if_neg (by omega),if_neg (by omega),if_neg (by omega)]
    exact hp r q (by omega) h2 (by omega)
   ·rintro _ H3 ⟨zs,sw1,hp1,o3,c3,l3⟩
    simp only [Nat.add_zero] at sw1
    have hlz:a+k≤(swp ys a d).length:=by simp;omega
    have top:=hp.top
    have hz:∀q,q<a∨a+k≤q→G zs q=G (swp ys a d) q:=fun q hq=>sw1.out hlz hq
    have zd:G zs d=G ys a:=by rw [hz d (by omega),gs,if_pos rfl]
    have zo:∀q,d<q→q<b→G zs q=G ys q:=fun q h1 h2=>by rw [hz q (by omega),gs,if_neg (by omega),if_neg (by omega)]
    have zlo:∀p,a≤p→p<a+k→G zs p≤G ys a∧∀q,d<q→q<b→G zs p≤G ys q:=sw1.all (p:=fun x=>x≤G ys a∧∀q,d<q→q<b→x≤G ys q) hlz (fun p h1 h2=>by
     rw [gs,if_neg (by omega)]
     split
     ·have:=top k (by omega);rw [← hd] at this
      exact ⟨this,fun q g1 g2=>hle d q (by omega) (by omega) (by omega) g2⟩
     ·have:=top (p-a) (by omega);rw [show a+(p-a)=p by omega] at this
      exact ⟨this,fun q g1 g2=>hle p q (by omega) (by omega) (by omega) g2⟩)
    simp [h0,h6,h7,h10]
    refine ih k _ _ ⟨k,rfl,by simp [h0],by simp [h6],by simp [h7],?_,by omega,zs,(sw.step a d (by omega) (by omega)).trans (sw1.mono (by omega) (by omega)),⟨hp1,fun p q h1 h2 h3=>?_,fun p q h1 h2 h3 h4=>?_⟩,o3,c.trans (c2.trans c3),by omega⟩ (by omega)
    ·simp;rw [w64 (by omega) (by omega)]
    ·rw [zo q (by omega) h3]
     by_cases hpd:p=d
     ·rw [hpd,zd];exact hle a q (by omega) (by omega) (by omega) h3
     ·rw [zo p (by omega) (by omega)];exact hs p q (by omega) h2 h3
    ·by_cases hq:q=d
     ·rw [hq,zd];exact (zlo p h1 h2).1
     ·rw [zo q (by omega) h4];exact (zlo p h1 h2).2 q (by omega) h4
  ·obtain rfl:k=0:=by omega
   simp
   exact ⟨ys,sw,hs,o,c,l⟩
include hK
theorem Cb (v:Value) (xs:List Int) (e:TypeId) (a b:Nat) (h:OwE e H v xs) (hab:a<b) (hb:b≤xs.length) (hl:xs.length≤1073741824) (hf:∀i∈ids v,frz≤i) :
 wp (vcall C frz 209 [v,.int .i64 a,.int .i64 b,cf] H) (fun _ H'=>SwdE H v xs e a b (fun ys=>True) H'):=by
 rw [Qb (fn:=Tryz.f209) Tryz.func209 rfl (by kernel_rfl) rfl]
 have e1:IntKind.i64.wrap ((b:Int)-1)=((b-1:Nat):Int):=by rw [w64 (by omega) (by omega)];omega
 simp [e1]
 refine Qh (fun m t H'=>∃i j:Nat,m=j-i∧(t 0=v∧t 3=cf)∧t 8=.int .i64 i∧t 9=.int .i64 j∧a≤i∧j<b∧i≤j+1∧SwdE H v xs e a b (fun ys=>True) H') ?_ (n:=b-1-a)
  ⟨a,b-1,rfl,by simp,by simp,by simp,by omega,by omega,by omega,xs,.refl,trivial,h,Chg.refl _,rfl⟩
 rintro m t H' ⟨i,j,rfl,h0,h6,h7,hi,hj,hij,ys,sw,_,o,c,l⟩ ih
 have len:=sw.len
 simp [h0,h6,h7]
 refine Qc ?_ ?_<;>intro hk
 ·have p0:i<ys.length:=by omega
  have p1:j<ys.length:=by omega
  obtain ⟨H1,H2,s1,ix,s2,o2,c2,l2⟩:=W9 o p0 p1 hf
  simp [h0,h6,h7]
  rw [Qe (h:=by kernel_rfl)]
  simp [h0,h6,h7,Qt o p0,Qt o p1,Qu o p0,Qu o p1,s1,ix _ p0,ix _ p1,s2]
  refine ih (j-1-(i+1)) _ _ ⟨i+1,j-1,rfl,by simp [h0],?_,?_,by omega,by omega,by omega,_,sw.step i j (by omega) (by omega),trivial,o2,c.trans c2,by omega⟩ (by omega)
  ·simp;rw [w64 (by omega) (by omega)]
  ·simp;rw [w64 (by omega) (by omega)];omega
 ·simp
  exact ⟨ys,sw,trivial,o,c,l⟩
theorem P6 (v:Value) (xs:List Int) (e:TypeId) (a b r:Nat) (h:OwE e H v xs) (ha:a<xs.length) (hb:b<xs.length) (hr:BoxE H r) (hf:frz≤r) :
 wp (vcall C frz 221 [v,.int .i64 a,.int .i64 b,.pointer (some ⟨r,0,some 0⟩),cf] H)
  (fun u H'=>(∃a' b':Nat,u=.tuple #[.int .i64 a',.int .i64 b']∧((a'=a∧b'=b)∨(a'=b∧b'=a)))∧Chg H H' [r]∧BoxE H' r):=by
 obtain ⟨s,hs⟩:=hr
 rw [Qb (fn:=Tryz.f221) Tryz.func221 rfl (by kernel_rfl) rfl]
 simp
 rw [Qe (h:=by kernel_rfl)]
 simp [Qt h ha,Qt h hb,Qu h ha,Qu h hb,dlt hK h]
 refine Qc ?_ ?_<;>intro g1
 ·simp [vnil,VM.look,hs,hf]
  exact ⟨⟨b,a,⟨rfl,rfl⟩,.inr ⟨rfl,rfl⟩⟩,Qg _ _,_,Qi hs⟩
 ·simp
  exact ⟨⟨a,b,⟨rfl,rfl⟩,.inl ⟨rfl,rfl⟩⟩,Chg.refl _,_,hs⟩
theorem I9 (v:Value) (xs:List Int) (e:TypeId) (a b c r:Nat) (h:OwE e H v xs) (ha:a<xs.length) (hb:b<xs.length) (hc:c<xs.length) (hr:BoxE H r) (hf:frz≤r) (hn:r∉ids v) :
 wp (vcall C frz 220 [v,.int .i64 a,.int .i64 b,.int .i64 c,.pointer (some ⟨r,0,some 0⟩),cf] H)
  (fun u H'=>(∃m:Nat,u=.int .i64 m∧(m=a∨m=b∨m=c))∧Chg H H' [r]∧BoxE H' r):=by
 rw [Qb (fn:=Tryz.f220) Tryz.func220 rfl (by kernel_rfl) rfl]
 simp
 refine Qd (P6 hK v xs e a b r h ha hb hr hf) ?_
 rintro _ H1 ⟨⟨a1,b1,rfl,h1⟩,c1,r1⟩
 have o1:=h.chg c1 (fun i hi hh=>by simp at hh;subst hh;exact hn hi)
 simp
 refine Qd (P6 hK v xs e b1 c r o1 (by omega) hc r1 hf) ?_
 rintro _ H2 ⟨⟨b2,c2,rfl,h2⟩,c2',r2⟩
 have o2:=o1.chg c2' (fun i hi hh=>by simp at hh;subst hh;exact hn hi)
 simp
 refine Qd (P6 hK v xs e a1 b2 r o2 (by omega) (by omega) r2 hf) ?_
 rintro _ H3 ⟨⟨a3,b3,rfl,h3⟩,c3,r3⟩
 simp
 exact ⟨⟨b3,rfl,by omega⟩,c1.trans (c2'.trans c3),r3⟩
theorem U7 (v:Value) (xs:List Int) (e:TypeId) (a r:Nat) (h:OwE e H v xs) (h0:0<a) (ha:a+1<xs.length) (hl:xs.length≤1073741824) (hr:BoxE H r) (hf:frz≤r) (hn:r∉ids v) :
 wp (vcall C frz 219 [v,.int .i64 a,.pointer (some ⟨r,0,some 0⟩),cf] H)
  (fun u H'=>(∃m:Nat,u=.int .i64 m∧(m+1=a∨m=a∨m=a+1))∧Chg H H' [r]∧BoxE H' r):=by
 rw [Qb (fn:=Tryz.f219) Tryz.func219 rfl (by kernel_rfl) rfl]
 have e1:IntKind.i64.wrap ((a:Int)-1)=((a-1:Nat):Int):=by rw [w64 (by omega) (by omega)];omega
 have e2:IntKind.i64.wrap ((a:Int)+1)=((a+1:Nat):Int):=by rw [w64 (by omega) (by omega)];omega
 simp [e1]
 rw [e2]
 refine Qd (I9 hK v xs e (a-1) a (a+1) r h (by omega) (by omega) ha hr hf hn) ?_
 rintro _ H1 ⟨⟨m,rfl,hm⟩,c1,r1⟩
 simp
 exact ⟨⟨m,rfl,by omega⟩,c1,r1⟩
theorem Mh (v:Value) (xs:List Int) (e:TypeId) (a b:Nat) (h:OwE e H v xs) (hab:a+8≤b) (hb:b≤xs.length) (hl:xs.length≤1073741824) (hf:frz≤H.length) :
 wp (vcall C frz 208 [v,.int .i64 a,.int .i64 b,cf] H)
  (fun u H'=>(∃(m:Nat) (k:Int),u=.tuple #[.int .i64 m,.int .i64 k]∧a≤m∧m<b)∧Chg H H' []):=by
 rw [Qb (fn:=Tryz.f208) Tryz.func208 rfl (by kernel_rfl) rfl]
 obtain ⟨n,hn⟩:∃n,n=b-a:=⟨_,rfl⟩
 have e1:∀[Inhabited Unit],IntKind.i64.wrap ((b:Int)-a)=(n:Int):=by intro _;rw [w64 (by omega) (by omega)];omega
 obtain ⟨q,hq⟩:∃q,q=n/4:=⟨_,rfl⟩
 have e2:∀[Inhabited Unit],IntKind.i64.wrap ((n:Int)/4)=(q:Int):=by intro _;rw [w64 (by omega) (by omega)];omega
 obtain ⟨q2,hq2⟩:∃q2,q2=q*2:=⟨_,rfl⟩
 obtain ⟨q3,hq3⟩:∃q3,q3=q*3:=⟨_,rfl⟩
 obtain ⟨i0,hi0⟩:∃i0,i0=a+q:=⟨_,rfl⟩
 obtain ⟨i1,hi1⟩:∃i1,i1=a+q2:=⟨_,rfl⟩
 obtain ⟨i2,hi2⟩:∃i2,i2=a+q3:=⟨_,rfl⟩
 have e3:∀[Inhabited Unit],IntKind.i64.wrap (q:Int)=(q:Int):=by intro _;rw [w64 (by omega) (by omega)]
 have e4:∀[Inhabited Unit],IntKind.i64.wrap ((q:Int)*2)=(q2:Int):=by intro _;rw [w64 (by omega) (by omega)];omega
 have e5:∀[Inhabited Unit],IntKind.i64.wrap ((q:Int)*3)=(q3:Int):=by intro _;rw [w64 (by omega) (by omega)];omega
 have e6:∀[Inhabited Unit],IntKind.i64.wrap ((a:Int)+q)=(i0:Int):=by intro _;rw [w64 (by omega) (by omega)];omega
 have e7:∀[Inhabited Unit],IntKind.i64.wrap ((a:Int)+q2)=(i1:Int):=by intro _;rw [w64 (by omega) (by omega)];omega
 have e8:∀[Inhabited Unit],IntKind.i64.wrap ((a:Int)+q3)=(i2:Int):=by intro _;rw [w64 (by omega) (by omega)];omega
 have g8:(8:Int)≤n:=by omega
 have lt:=h.lt
 have nin:H.length∉ids v:=fun hh=>by have:=lt _ hh;omega
 simp [e1,e2,e3,e4,e5,e6,e7,e8,g8]
 have b0:BoxE (H++[⟨[.int .i64 0],0,3⟩]) H.length:=⟨0,by simp⟩
 have o0:OwE e (H++[⟨[.int .i64 0],0,3⟩]) v xs:=h.app
 refine Z3 (F:=?F) (k:=?k) (d:=?d) (Q:=?Q) (fun r t=>∃(i0 i1 i2:Nat) (H1:Heap),r=vcall C frz 220 [v,.int .i64 i0,.int .i64 i1,.int .i64 i2,.pointer (some ⟨H.length,0,some 0⟩),cf] H1∧
  (a≤i0∧i0<b)∧(a≤i1∧i1<b)∧(a≤i2∧i2<b)∧t 11=.pointer (some ⟨H.length,0,some 0⟩)∧
  Chg (H++[⟨[.int .i64 0],0,3⟩]) H1 [H.length]∧BoxE H1 H.length) ?main ?rest
 case main=>
  intro rest
  refine Qc ?_ ?_<;>intro g1
  ·simp [e6,e7,e8]
   refine Qd (U7 hK v xs e i0 H.length o0 (by omega) (by omega) hl b0 hf nin) ?_
   rintro _ H1 ⟨⟨j0,rfl,hj0⟩,c1,r1⟩
   have o1:=o0.chg c1 (fun i hi hh=>by simp at hh;subst hh;exact nin hi)
   simp [e6,e7,e8]
   refine Qd (U7 hK v xs e i1 H.length o1 (by omega) (by omega) hl r1 hf nin) ?_
   rintro _ H2 ⟨⟨j1,rfl,hj1⟩,c2,r2⟩
   have o2:=o1.chg c2 (fun i hi hh=>by simp at hh;subst hh;exact nin hi)
   simp [e6,e7,e8]
   refine Qd (U7 hK v xs e i2 H.length o2 (by omega) (by omega) hl r2 hf nin) ?_
   rintro _ H3 ⟨⟨j2,rfl,hj2⟩,c3,r3⟩
   simp [e6,e7,e8]
   refine rest _ _ ?_
   exact ⟨j0,j1,j2,H3,rfl,by omega,by omega,by omega,by simp,c1.trans (c2.trans c3),r3⟩
  ·simp [e6,e7,e8]
   refine rest _ _ ?_
   exact ⟨i0,i1,i2,_,rfl,by omega,by omega,by omega,by simp,Chg.refl _,b0⟩
 case rest=>
  rintro _ t ⟨i0,i1,i2,H1,rfl,h0,h1,h2,t9,c1,r1⟩
  have o1:=o0.chg c1 (fun i hi hh=>by simp at hh;subst hh;exact nin hi)
  refine Qd (I9 hK v xs e i0 i1 i2 H.length o1 (by omega) (by omega) (by omega) r1 hf nin) ?_
  rintro _ H2 ⟨⟨m,rfl,hm⟩,c2,s,hs⟩
  have cc:Chg H H2 []:=(Chg.app (L:=[⟨[.int .i64 0],0,3⟩]) []).trans' (c1.trans c2) (fun i hi=>by simp at hi;subst hi;right;simp)
  simp [t9,VM.look,hs]
  refine Qc ?_ ?_<;>intro g2<;>simp
  ·exact ⟨⟨m,rfl,by omega⟩,cc⟩
  ·refine Qc ?_ ?_<;>intro g3<;>simp
   ·exact ⟨⟨m,rfl,by omega⟩,cc⟩
   ·exact ⟨⟨m,rfl,by omega⟩,cc⟩
include hK
theorem D9 (v:Value) (xs:List Int) (e:TypeId) (a b:Nat) (h:OwE e H v xs) (hab:a≤b) (hb:b≤xs.length) (hl:xs.length≤1073741824) (hf:∀i∈ids v,frz≤i) (hF:frz≤H.length) :
 wp (vcall C frz 207 [v,.int .i64 a,.int .i64 b,cf] H) (fun _ H'=>∃ys,Sw a b xs ys∧OwE e H' v ys∧Chg H H' (ids v)):=by
 rw [Qb (fn:=Tryz.f207) Tryz.func207 rfl (by kernel_rfl) rfl]
 obtain ⟨n,hn⟩:∃n,n=b-a:=⟨_,rfl⟩
 have e1:∀[Inhabited Unit],IntKind.i64.wrap ((b:Int)-a)=(n:Int):=by intro _;rw [w64 (by omega) (by omega)];omega
 simp [e1]
 refine Qc ?_ ?_<;>intro g1
 ·have lt:=h.lt
  have nin:H.length∉ids v:=fun hh=>by have:=lt _ hh;omega
  have e2:∀[Inhabited Unit],IntKind.u64.wrap (n:Int)=(n:Int):=by intro _;exact w64u (by omega) (by omega)
  have e3:∀[Inhabited Unit],IntKind.i64.wrap (n:Int)=(n:Int):=by intro _;exact w64 (by omega) (by omega)
  simp [e1,e2,VM.look,hF]
  refine Qd (jx n (by omega)) ?_
  rintro _ _ ⟨rfl,m,rfl,m1,m2,m3⟩
  obtain ⟨q,hq⟩:∃q,q=n/4:=⟨_,rfl⟩
  obtain ⟨q2,hq2⟩:∃q2,q2=q*2:=⟨_,rfl⟩
  obtain ⟨s,hs⟩:∃s,s=a+q2:=⟨_,rfl⟩
  have e4:∀[Inhabited Unit],IntKind.i64.wrap ((n:Int)/4)=(q:Int):=by intro _;rw [w64 (by omega) (by omega)];omega
  have e5:∀[Inhabited Unit],IntKind.i64.wrap ((q:Int)*2)=(q2:Int):=by intro _;rw [w64 (by omega) (by omega)];omega
  have e6:∀[Inhabited Unit],IntKind.i64.wrap ((a:Int)+q2)=(s:Int):=by intro _;rw [w64 (by omega) (by omega)];omega
  have e7:∀[Inhabited Unit],IntKind.i64.wrap ((s:Int)-1)=((s-1:Nat):Int):=by intro _;rw [w64 (by omega) (by omega)];omega
  have e8:∀[Inhabited Unit],IntKind.i64.wrap ((s:Int)+1)=((s+1:Nat):Int):=by intro _;rw [w64 (by omega) (by omega)];omega
  have e9:∀[Inhabited Unit],IntKind.u64.wrap ((m:Int)-1)=((m-1:Nat):Int):=by intro _;rw [w64u (by omega) (by omega)];omega
  simp [e1,e2,e3,e4,e5,e6,e7]
  refine Qh (fun c t H'=>∃i:Nat,c=s+2-i∧s≤i+1∧i≤s+2∧(t 0=v∧t 3=cf)∧t 1=.int .i64 a∧t 8=.int .i64 n∧t 9=.pointer (some ⟨H.length,0,some 0⟩)∧t 10=.int .u64 m∧t 11=.int .i64 i∧
   BoxX H' H.length∧Chg (H++[⟨[.int .u64 n],0,208⟩]) H' (H.length::ids v)∧∃ys,Sw a b xs ys∧OwE e H' v ys) ?_ (n:=s+2-(s-1))
   ⟨s-1,rfl,by omega,by omega,by simp,by simp,by simp,by simp,by simp,by simp,⟨n,by simp⟩,Chg.refl _,xs,.refl,h.app⟩
  rintro c t H1 ⟨i,rfl,hi1,hi2,t0,t1,t6,t7,t8,t9,bx,ch,ys,sw,o⟩ ih
  have len:=sw.len
  simp [t0,t1,t6,t7,t8,t9,e4,e5,e6,e8]
  refine Qc ?_ ?_<;>intro g2
  ·have p0:i<ys.length:=by omega
   simp [t0,t1,t6,t7,t8,t9]
   refine Qd (Ac H.length bx hF) ?_
   rintro _ H2 ⟨⟨z,rfl⟩,c2,bx2⟩
   have o2:=o.chg c2 (fun i hi hh=>by simp at hh;subst hh;exact nin hi)
   obtain ⟨k,hk⟩:∃k:Nat,iand .u64 z ((m-1:Nat):Int)=k:=⟨_,(Int.toNat_of_nonneg (Fx z (m-1) (by omega)).1).symm⟩
   have hk2:=(Fx z (m-1) (by omega)).2
   rw [hk] at hk2
   have e10:∀[Inhabited Unit],IntKind.i64.wrap (k:Int)=(k:Int):=by intro _;exact w64 (by omega) (by omega)
   have hk':∀[Inhabited Unit],iand .u64 z ((m-1:Nat):Int)=k:=by intro _;exact hk
   clear hk
   simp [t0,t1,t6,t7,t8,t9,e9,hk',e10]
   refine Xc (F:=?F) (k:=?k) (Q:=?Q) (fun t H'=>∃d:Nat,d<n∧H'=H2∧(t 0=v∧t 3=cf)∧t 1=.int .i64 a∧t 8=.int .i64 n∧t 9=.pointer (some ⟨H.length,0,some 0⟩)∧t 10=.int .u64 m∧t 11=.int .i64 i∧t 12=.int .i64 d) ?main ?rest
   case main=>
    intro rest
    refine Qc ?_ ?_<;>intro g3
    ·have e11:∀[Inhabited Unit],IntKind.i64.wrap ((k:Int)-n)=((k-n:Nat):Int):=by intro _;rw [w64 (by omega) (by omega)];omega
     simp [t0,t1,t6,t7,t8,t9,e9,hk',e10,e11]
     refine rest _ _ ?_
     exact ⟨k-n,by omega,rfl,by simp [t0],by simp [t1],by simp [t6],by simp [t7],by simp [t8],by simp [t9],by simp⟩
    ·simp
     refine rest _ _ ?_
     exact ⟨k,by omega,rfl,by simp [t0],by simp [t1],by simp [t6],by simp [t7],by simp [t8],by simp [t9],by simp⟩
   case rest=>
    rintro t _ ⟨d,hd,rfl,t0,t1,t6,t7,t8,t9,t10⟩
    obtain ⟨j,hj⟩:∃j,j=a+d:=⟨_,rfl⟩
    have e12:∀[Inhabited Unit],IntKind.i64.wrap ((a:Int)+d)=(j:Int):=by intro _;rw [w64 (by omega) (by omega)];omega
    have p1:j<ys.length:=by omega
    obtain ⟨H3,H4,s1,ix,s2,o4,c4,l4⟩:=W9 o2 p0 p1 hf
    rw [Qe (h:=by kernel_rfl)]
    simp [t0,t1,t6,t7,t8,t9,t10,e12,Qt o2 p0,Qt o2 p1,Qu o2 p0,Qu o2 p1,s1,ix _ p0,ix _ p1,s2]
    obtain ⟨sx,hsx⟩:=bx2
    have bx4:BoxX H4 H.length:=⟨sx,Qa hsx c4 nin⟩
    refine ih (s+2-(i+1)) _ _ ⟨i+1,rfl,by omega,by omega,by simp [t0],by simp [t1],by simp [t6],by simp [t7],by simp [t8],?_,bx4,?_,_,sw.step i j (by omega) (by omega),o4⟩ (by omega)
    ·simp;rw [w64 (by omega) (by omega)]
    ·exact ch.trans ((c2.mono (by simp)).trans (c4.mono (fun q hq=>by simp [hq])))
  ·simp
   exact ⟨ys,sw,o,(Chg.app (ids v)).trans' ch (fun q hq=>by
    rcases List.mem_cons.1 hq with hq|hq
    ·right;simp [hq]
    ·exact .inl hq)⟩
 ·simp
  exact ⟨xs,.refl,h,Chg.refl _⟩
include hK
theorem gu (v:Value) (xs:List Int) (e:TypeId) (a b p:Nat) (h:OwE e H v xs) (hp:a≤p∧p<b) (hb:b≤xs.length) (hl:xs.length≤1073741824) (hf:∀i∈ids v,frz≤i) :
 wp (vcall C frz 211 [v,.int .i64 a,.int .i64 b,.int .i64 p,cf] H) (fun r H'=>∃m:Nat,r=.int .i64 m∧a<m∧m≤b∧
  SwdE H v xs e a b (fun ys=>(∀k,a≤k→k<m→¬G xs p<G ys k)∧∀k,m≤k→k<b→G xs p<G ys k) H'):=by
 rw [Qb (fn:=Tryz.f211) Tryz.func211 rfl (by kernel_rfl) rfl]
 obtain ⟨x,hx⟩:∃x,x=G xs p:=⟨_,rfl⟩
 obtain ⟨i0,hi0⟩:∃i0,i0=a+1:=⟨_,rfl⟩
 obtain ⟨j0,hj0⟩:∃j0,j0=b-1:=⟨_,rfl⟩
 have e2:∀[Inhabited Unit],IntKind.i64.wrap ((a:Int)+1)=(i0:Int):=by intro _;rw [w64 (by omega) (by omega)];omega
 have e3:∀[Inhabited Unit],IntKind.i64.wrap ((b:Int)-1)=(j0:Int):=by intro _;rw [w64 (by omega) (by omega)];omega
 have p0:a<xs.length:=by omega
 have p1:p<xs.length:=by omega
 simp
 rw [Qe (h:=by kernel_rfl)]
 obtain ⟨H1,H2,s1,ix,s2,o2,c2,l2⟩:=W9 h p0 p1 hf
 simp [Qt h p0,Qt h p1,Qu h p0,Qu h p1,s1,ix _ p0,ix _ p1,s2,e2,e3]
 have pt0:Pt (swp xs a p) a b x (fun y=>¬x<y) i0 j0:=by
  refine ⟨?_,fun k h1 h2=>by omega,fun k h1 h2=>by omega⟩
  rw [Xw p0 p1,hx]
  split
  ·rename_i e;rw [e]
  ·rw [if_pos rfl]
 have sw0:Sw a b xs (swp xs a p):=Sw.refl.step a p (by omega) (by omega)
 refine Qh (fun c t H'=>∃i j:Nat,c=j+1-i∧(t 0=v∧t 4=cf)∧t 1=.int .i64 a∧t 11=.int .i64 i∧t 12=.int .i64 j∧a<i∧i≤j+1∧j<b∧SwdE H v xs e a b (fun ys=>Pt ys a b x (fun y=>¬x<y) i j) H') ?_ (n:=j0+1-i0)
  ⟨i0,j0,rfl,by simp,by simp,by simp,by simp,by omega,by omega,by omega,_,sw0,pt0,o2,c2,l2⟩
 rw [← hx]
 clear pt0 sw0 o2 s1 s2 ix c2 l2 p0 p1
 rintro c t H' ⟨i,j,rfl,h0,h1,hi,hj,hai,hij,hjb,ys,sw,pt,o,c,l⟩ ih
 have len:=sw.len
 have p0:a<ys.length:=by omega
 simp [h0,h1,hi,hj]
 obtain ⟨il,hil⟩:∃il,il=i:=⟨_,rfl⟩
 have hai':il≤i∧a<i:=⟨by omega,hai⟩
 refine Xc (F:=?F1) (k:=?k1) (Q:=?Q1) (fun t H1=>∃i:Nat,(t 0=v∧t 4=cf)∧t 1=.int .i64 a∧t 11=.int .i64 i∧t 12=.int .i64 j∧(il≤i∧a<i)∧i≤j+1∧(i=j+1∨(i≤j∧¬(fun y=>¬x<y) (G ys i)))∧H'=H1∧Pt ys a b x (fun y=>¬x<y) i j) ?main1 ?rest1
 case main1=>
  intro rest
  refine Qh (fun c t H1=>∃i:Nat,c=j+1-i∧(t 0=v∧t 4=cf)∧t 1=.int .i64 a∧t 11=.int .i64 i∧t 12=.int .i64 j∧(il≤i∧a<i)∧i≤j+1∧H'=H1∧Pt ys a b x (fun y=>¬x<y) i j) ?_ (n:=j+1-i)
   ⟨i,rfl,by simp [h0],by simp [h1],by simp [hi],by simp [hj],hai',hij,rfl,pt⟩
  rintro c t _ ⟨i,rfl,h0,h1,hi,hj,hai',hij,rfl,pt⟩ ih2
  have hai:=hai'.2
  simp [h0,h1,hi,hj]
  rw [Qe (h:=by kernel_rfl)]
  simp [h0,h1,hi,hj]
  refine Qz ?_ ?_<;>intro g1
  ·have p1:i<ys.length:=by omega
   simp [h0,h1,hi,hj,g1,Qt o p0,Qt o p1,Qu o p0,Qu o p1,dlt hK o]
   refine Qc ?_ ?_<;>intro g2
   ·simp [h0,h1,hi,hj]
    refine rest _ _ ?_
    exact ⟨i,by simp [h0],by simp [h1],by simp [hi],by simp [hj],hai',by omega,.inr ⟨by omega,by have:=pt.1;show ¬(¬x<G ys i);omega⟩,rfl,pt⟩
   ·simp [h0,h1,hi,hj]
    refine ih2 (j+1-(i+1)) _ _ ⟨i+1,rfl,by simp [h0],by simp [h1],?_,by simp [hj],by omega,by omega,rfl,pt.incr hai (by have:=pt.1;show ¬x<G ys i;omega)⟩ (by omega)
    simp;rw [w64 (by omega) (by omega)]
  ·simp [h0,h1,hi,hj,g1]
   refine rest _ _ ?_
   exact ⟨i,by simp [h0],by simp [h1],by simp [hi],by simp [hj],hai',hij,.inl (by omega),rfl,pt⟩
 case rest1=>
  rintro t _ ⟨i,h0,h1,hi,hj,hai',hij,hex,rfl,pt⟩
  have hai:=hai'.2
  refine Qh (fun c t H1=>∃j':Nat,c=j'+1-i∧(t 0=v∧t 4=cf)∧t 1=.int .i64 a∧t 11=.int .i64 i∧t 12=.int .i64 j'∧j'≤j∧i≤j'+1∧H'=H1∧Pt ys a b x (fun y=>¬x<y) i j') ?_ (n:=j+1-i)
   ⟨j,rfl,by simp [h0],by simp [h1],by simp [hi],by simp [hj],Nat.le_refl _,hij,rfl,pt⟩
  have hex':i<j+1→¬(fun y=>¬x<y) (G ys i):=fun hh=>by rcases hex with hex|hex;omega;exact hex.2
  have hjb0:=hjb
  rintro c t _ ⟨j',rfl,h0,h1,hi,hj,hjj',hij,rfl,pt⟩ ih2
  have hjb:j'<b:=by omega
  simp [h0,h1,hi,hj]
  rw [Qe (h:=by kernel_rfl)]
  simp [h0,h1,hi,hj]
  refine Qz ?_ ?_<;>intro g1
  ·have p1:j'<ys.length:=by omega
   simp [h0,h1,hi,hj,g1,Qt o p0,Qt o p1,Qu o p0,Qu o p1,dlt hK o]
   refine Qc ?_ ?_<;>intro g2
   ·simp [h0,h1,hi,hj]
    refine ih2 (j'-1+1-i) _ _ ⟨j'-1,rfl,by simp [h0],by simp [h1],by simp [hi],?_,by omega,by omega,rfl,pt.decr (by omega) (by have:=pt.1;show ¬(¬x<G ys j');omega)⟩ (by omega)
    simp;rw [w64 (by omega) (by omega)];omega
   ·simp [h0,h1,hi,hj]
    have hnj:¬j'<i:=by omega
    simp [hnj]
    have p2:i<ys.length:=by omega
    have hlo:(fun y=>¬x<y) (G ys j'):=by have:=pt.1;show ¬x<G ys j';omega
    rw [Qe (h:=by kernel_rfl)]
    obtain ⟨H3,H4,s3,ix3,s4,o4,c4,l4⟩:=W9 o p2 p1 hf
    simp [h0,h1,hi,hj,Qt o p2,Qt o p1,Qu o p2,Qu o p1,s3,ix3 _ p2,ix3 _ p1,s4]
    have hlt:i<j':=by
     rcases Nat.lt_or_ge i j' with q|q
     ·exact q
     ·have q2:i=j':=by omega
      exact absurd (q2▸hlo) (hex' (by omega))
    refine ih (j'-1+1-(i+1)) _ _ ⟨i+1,j'-1,rfl,by simp [h0],by simp [h1],?_,?_,by omega,by omega,by omega,_,sw.step i j' (by omega) (by omega),pt.swap hai hlt hjb (by omega) (hex' (by omega)) hlo,o4,c.trans c4,by omega⟩ (by omega)
    ·simp;rw [w64 (by omega) (by omega)]
    ·simp;rw [w64 (by omega) (by omega)];omega
  ·have hij':i=j'+1:=by omega
   have hji:j'<i:=by omega
   simp [h0,h1,hi,hj,g1,hji]
   refine ⟨i,rfl,by omega,by omega,ys,sw,⟨fun k k1 k2=>?_,fun k k1 k2=>?_⟩,o,c,l⟩
   ·by_cases hk:k=a
    ·have:=pt.1;rw [hk];omega
    ·have q:¬x<G ys k:=pt.2.1 k (by omega) k2
     omega
   ·have q:¬¬x<G ys k:=pt.2.2 k (by omega) k2
    omega
theorem Qed (v:Value) (xs:List Int) (e:TypeId) (a b p:Nat) (h:OwE e H v xs) (hp:a≤p∧p<b) (hb:b≤xs.length) (hl:xs.length≤1073741824) (hf:∀i∈ids v,frz≤i) :
 wp (vcall C frz 212 [v,.int .i64 a,.int .i64 b,.int .i64 p,cf] H) (fun r H'=>∃(m:Nat) (d:Bool),r=.tuple #[.int .i64 m,.bool d]∧a≤m∧m<b∧
  SwdE H v xs e a b (fun ys=>(∀k,a≤k→k<m→G ys k<G ys m)∧∀k,m<k→k<b→G ys m≤G ys k) H'):=by
 rw [Qb (fn:=Tryz.f212) Tryz.func212 rfl (by kernel_rfl) rfl]
 obtain ⟨x,hx⟩:∃x,x=G xs p:=⟨_,rfl⟩
 obtain ⟨i0,hi0⟩:∃i0,i0=a+1:=⟨_,rfl⟩
 obtain ⟨j0,hj0⟩:∃j0,j0=b-1:=⟨_,rfl⟩
 have e2:∀[Inhabited Unit],IntKind.i64.wrap ((a:Int)+1)=(i0:Int):=by intro _;rw [w64 (by omega) (by omega)];omega
 have e3:∀[Inhabited Unit],IntKind.i64.wrap ((b:Int)-1)=(j0:Int):=by intro _;rw [w64 (by omega) (by omega)];omega
 have p0:a<xs.length:=by omega
 have p1:p<xs.length:=by omega
 simp
 rw [Qe (h:=by kernel_rfl)]
 obtain ⟨H1,H2,s1,ix,s2,o2,c2,l2⟩:=W9 h p0 p1 hf
 simp [Qt h p0,Qt h p1,Qu h p0,Qu h p1,s1,ix _ p0,ix _ p1,s2,e2,e3]
 have pt0:Pt (swp xs a p) a b x (fun y=>y<x) i0 j0:=by
  refine ⟨?_,fun k h1 h2=>by omega,fun k h1 h2=>by omega⟩
  rw [Xw p0 p1,hx]
  split
  ·rename_i e;rw [e]
  ·rw [if_pos rfl]
 have sw0:Sw a b xs (swp xs a p):=Sw.refl.step a p (by omega) (by omega)
 obtain ⟨ys,sw,o,c,l,pt⟩:∃ys,Sw a b xs ys∧OwE e H2 v ys∧Chg H H2 (ids v)∧H2.length=H.length∧Pt ys a b x (fun y=>y<x) i0 j0:=⟨_,sw0,o2,c2,l2,pt0⟩
 obtain ⟨i,hii⟩:∃i,i0=i:=⟨_,rfl⟩
 obtain ⟨j,hjj⟩:∃j,j0=j:=⟨_,rfl⟩
 rw [hii] at pt ⊢
 rw [hjj] at pt ⊢
 have hai:a<i:=by omega
 have hij:i≤j+1:=by omega
 have hjb:j<b:=by omega
 clear pt0 sw0 o2 s1 s2 ix c2 l2 p0 p1
 have len:=sw.len
 have p0:a<ys.length:=by omega
 refine Xc (F:=?F) (k:=?k) (Q:=?Q) (fun t H1=>H2=H1∧(t 0=v∧t 4=cf)∧t 1=.int .i64 a∧t 12=.int .i64 i∧t 13=.int .i64 j) ?main ?rest
 case main=>intro rest;refine rest _ _ ?_;exact ⟨rfl,by simp,by simp,by simp,by simp⟩
 case rest=>
  rintro t H' ⟨rfl,h0,h1,hi,hj⟩
  obtain ⟨H',hH⟩:∃H',H'=H2:=⟨_,rfl⟩
  subst hH
  obtain ⟨il,hil⟩:∃il,il=i:=⟨_,rfl⟩
  have hai':il≤i∧a<i:=⟨by omega,hai⟩
  refine Xc (F:=?F3) (k:=?k3) (Q:=?Q3) (fun t H1=>∃i:Nat,(t 0=v∧t 4=cf)∧t 1=.int .i64 a∧t 12=.int .i64 i∧t 13=.int .i64 j∧(il≤i∧a<i)∧i≤j+1∧(i=j+1∨(i≤j∧¬(fun y=>y<x) (G ys i)))∧H'=H1∧Pt ys a b x (fun y=>y<x) i j) ?main3 ?rest3
  case main3=>
   intro rest
   refine Qh (fun c t H1=>∃i:Nat,c=j+1-i∧(t 0=v∧t 4=cf)∧t 1=.int .i64 a∧t 12=.int .i64 i∧t 13=.int .i64 j∧(il≤i∧a<i)∧i≤j+1∧H'=H1∧Pt ys a b x (fun y=>y<x) i j) ?_ (n:=j+1-i)
    ⟨i,rfl,by simp [h0],by simp [h1],by simp [hi],by simp [hj],hai',hij,rfl,pt⟩
   rintro c t _ ⟨i,rfl,h0,h1,hi,hj,hai',hij,rfl,pt⟩ ih2
   have hai:=hai'.2
   simp [h0,h1,hi,hj]
   rw [Qe (h:=by kernel_rfl)]
   simp [h0,h1,hi,hj]
   refine Qz ?_ ?_<;>intro g1
   ·have p1:i<ys.length:=by omega
    simp [h0,h1,hi,hj,g1,Qt o p0,Qt o p1,Qu o p0,Qu o p1,dlt hK o]
    refine Qc ?_ ?_<;>intro g2
    ·simp [h0,h1,hi,hj]
     refine ih2 (j+1-(i+1)) _ _ ⟨i+1,rfl,by simp [h0],by simp [h1],?_,by simp [hj],by omega,by omega,rfl,pt.incr hai (by have:=pt.1;show G ys i<x;omega)⟩ (by omega)
     simp;rw [w64 (by omega) (by omega)]
    ·simp [h0,h1,hi,hj]
     refine rest _ _ ?_
     exact ⟨i,by simp [h0],by simp [h1],by simp [hi],by simp [hj],hai',by omega,.inr ⟨by omega,by have:=pt.1;show ¬(G ys i<x);omega⟩,rfl,pt⟩
   ·simp [h0,h1,hi,hj,g1]
    refine rest _ _ ?_
    exact ⟨i,by simp [h0],by simp [h1],by simp [hi],by simp [hj],hai',hij,.inl (by omega),rfl,pt⟩
  case rest3=>
   rintro t _ ⟨i,h0,h1,hi,hj,hai',hij,hex,rfl,pt⟩
   have hai:=hai'.2
   refine Qh (fun c t H1=>∃j':Nat,c=j'+1-i∧(t 0=v∧t 4=cf)∧t 1=.int .i64 a∧t 12=.int .i64 i∧t 13=.int .i64 j'∧j'≤j∧i≤j'+1∧H'=H1∧Pt ys a b x (fun y=>y<x) i j') ?_ (n:=j+1-i)
    ⟨j,rfl,by simp [h0],by simp [h1],by simp [hi],by simp [hj],Nat.le_refl _,hij,rfl,pt⟩
   have hex':i<j+1→¬(fun y=>y<x) (G ys i):=fun hh=>by rcases hex with hex|hex;omega;exact hex.2
   have hjb0:=hjb
   rintro c t _ ⟨j',rfl,h0,h1,hi,hj,hjj',hij,rfl,pt⟩ ih2
   have hjb:j'<b:=by omega
   simp [h0,h1,hi,hj]
   rw [Qe (h:=by kernel_rfl)]
   simp [h0,h1,hi,hj]
   refine Qz ?_ ?_<;>intro g1
   ·have p1:j'<ys.length:=by omega
    simp [h0,h1,hi,hj,g1,Qt o p0,Qt o p1,Qu o p0,Qu o p1,dlt hK o]
    refine Qc ?_ ?_<;>intro g2
    ·simp [h0,h1,hi,hj]
     have hnj:¬j'<i:=by omega
     simp [hnj]
     have p2:i<ys.length:=by omega
     have hlo:(fun y=>y<x) (G ys j'):=by have:=pt.1;show G ys j'<x;omega
     rw [Qe (h:=by kernel_rfl)]
     obtain ⟨H3,H4,s3,ix3,s4,o4,c4,l4⟩:=W9 o p2 p1 hf
     simp [h0,h1,hi,hj,Qt o p2,Qt o p1,Qu o p2,Qu o p1,s3,ix3 _ p2,ix3 _ p1,s4]
     have hlt:i<j':=by
      rcases Nat.lt_or_ge i j' with q|q
      ·exact q
      ·have q2:i=j':=by omega
       exact absurd (q2▸hlo) (hex' (by omega))
     refine Qh (fun c t H'=>∃i j:Nat,c=j+1-i∧(t 0=v∧t 4=cf)∧t 1=.int .i64 a∧t 12=.int .i64 i∧t 13=.int .i64 j∧a<i∧i≤j+1∧j<b∧SwdE H v xs e a b (fun ys=>Pt ys a b x (fun y=>y<x) i j) H') ?_ (n:=j'-1+1-(i+1))
      ⟨i+1,j'-1,rfl,by simp [h0],by simp [h1],by simp;rw [w64 (by omega) (by omega)],by simp;rw [w64 (by omega) (by omega)];omega,by omega,by omega,by omega,_,sw.step i j' (by omega) (by omega),pt.swap hai hlt hjb (by omega) (hex' (by omega)) hlo,o4,c.trans c4,by omega⟩
     rintro c t H' ⟨i,j,rfl,h0,h1,hi,hj,hai,hij,hjb,ys,sw,pt,o,c,l⟩ ih
     have len:=sw.len
     have p0:a<ys.length:=by omega
     simp [h0,h1,hi,hj]
     obtain ⟨il,hil⟩:∃il,il=i:=⟨_,rfl⟩
     have hai':il≤i∧a<i:=⟨by omega,hai⟩
     refine Xc (F:=?F32) (k:=?k2) (Q:=?Q32) (fun t H1=>∃i:Nat,(t 0=v∧t 4=cf)∧t 1=.int .i64 a∧t 12=.int .i64 i∧t 13=.int .i64 j∧(il≤i∧a<i)∧i≤j+1∧(i=j+1∨(i≤j∧¬(fun y=>y<x) (G ys i)))∧H'=H1∧Pt ys a b x (fun y=>y<x) i j) ?main32 ?rest32
     case main32=>
      intro rest
      refine Qh (fun c t H1=>∃i:Nat,c=j+1-i∧(t 0=v∧t 4=cf)∧t 1=.int .i64 a∧t 12=.int .i64 i∧t 13=.int .i64 j∧(il≤i∧a<i)∧i≤j+1∧H'=H1∧Pt ys a b x (fun y=>y<x) i j) ?_ (n:=j+1-i)
       ⟨i,rfl,by simp [h0],by simp [h1],by simp [hi],by simp [hj],hai',hij,rfl,pt⟩
      rintro c t _ ⟨i,rfl,h0,h1,hi,hj,hai',hij,rfl,pt⟩ ih2
      have hai:=hai'.2
      simp [h0,h1,hi,hj]
      rw [Qe (h:=by kernel_rfl)]
      simp [h0,h1,hi,hj]
      refine Qz ?_ ?_<;>intro g1
      ·have p1:i<ys.length:=by omega
       simp [h0,h1,hi,hj,g1,Qt o p0,Qt o p1,Qu o p0,Qu o p1,dlt hK o]
       refine Qc ?_ ?_<;>intro g2
       ·simp [h0,h1,hi,hj]
        refine ih2 (j+1-(i+1)) _ _ ⟨i+1,rfl,by simp [h0],by simp [h1],?_,by simp [hj],by omega,by omega,rfl,pt.incr hai (by have:=pt.1;show G ys i<x;omega)⟩ (by omega)
        simp;rw [w64 (by omega) (by omega)]
       ·simp [h0,h1,hi,hj]
        refine rest _ _ ?_
        exact ⟨i,by simp [h0],by simp [h1],by simp [hi],by simp [hj],hai',by omega,.inr ⟨by omega,by have:=pt.1;show ¬(G ys i<x);omega⟩,rfl,pt⟩
      ·simp [h0,h1,hi,hj,g1]
       refine rest _ _ ?_
       exact ⟨i,by simp [h0],by simp [h1],by simp [hi],by simp [hj],hai',hij,.inl (by omega),rfl,pt⟩
     case rest32=>
      rintro t _ ⟨i,h0,h1,hi,hj,hai',hij,hex,rfl,pt⟩
      have hai:=hai'.2
      refine Qh (fun c t H1=>∃j':Nat,c=j'+1-i∧(t 0=v∧t 4=cf)∧t 1=.int .i64 a∧t 12=.int .i64 i∧t 13=.int .i64 j'∧j'≤j∧i≤j'+1∧H'=H1∧Pt ys a b x (fun y=>y<x) i j') ?_ (n:=j+1-i)
       ⟨j,rfl,by simp [h0],by simp [h1],by simp [hi],by simp [hj],Nat.le_refl _,hij,rfl,pt⟩
      have hex':i<j+1→¬(fun y=>y<x) (G ys i):=fun hh=>by rcases hex with hex|hex;omega;exact hex.2
      have hjb0:=hjb
      rintro c t _ ⟨j',rfl,h0,h1,hi,hj,hjj',hij,rfl,pt⟩ ih2
      have hjb:j'<b:=by omega
      simp [h0,h1,hi,hj]
      rw [Qe (h:=by kernel_rfl)]
      simp [h0,h1,hi,hj]
      refine Qz ?_ ?_<;>intro g1
      ·have p1:j'<ys.length:=by omega
       simp [h0,h1,hi,hj,g1,Qt o p0,Qt o p1,Qu o p0,Qu o p1,dlt hK o]
       refine Qc ?_ ?_<;>intro g2
       ·simp [h0,h1,hi,hj]
        have hnj:¬j'<i:=by omega
        simp [hnj]
        have p2:i<ys.length:=by omega
        have hlo:(fun y=>y<x) (G ys j'):=by have:=pt.1;show G ys j'<x;omega
        rw [Qe (h:=by kernel_rfl)]
        obtain ⟨H3,H4,s3,ix3,s4,o4,c4,l4⟩:=W9 o p2 p1 hf
        simp [h0,h1,hi,hj,Qt o p2,Qt o p1,Qu o p2,Qu o p1,s3,ix3 _ p2,ix3 _ p1,s4]
        have hlt:i<j':=by
         rcases Nat.lt_or_ge i j' with q|q
         ·exact q
         ·have q2:i=j':=by omega
          exact absurd (q2▸hlo) (hex' (by omega))
        refine ih (j'-1+1-(i+1)) _ _ ⟨i+1,j'-1,rfl,by simp [h0],by simp [h1],?_,?_,by omega,by omega,by omega,_,sw.step i j' (by omega) (by omega),pt.swap hai hlt hjb (by omega) (hex' (by omega)) hlo,o4,c.trans c4,by omega⟩ (by omega)
        ·simp;rw [w64 (by omega) (by omega)]
        ·simp;rw [w64 (by omega) (by omega)];omega
       ·simp [h0,h1,hi,hj]
        refine ih2 (j'-1+1-i) _ _ ⟨j'-1,rfl,by simp [h0],by simp [h1],by simp [hi],?_,by omega,by omega,rfl,pt.decr (by omega) (by have:=pt.1;show ¬(G ys j'<x);omega)⟩ (by omega)
        simp;rw [w64 (by omega) (by omega)];omega
      ·have hij':i=j'+1:=by omega
       have hji:j'<i:=by omega
       simp [h0,h1,hi,hj,g1,hji]
       have p3:j'<ys.length:=by omega
       rw [Qe (h:=by kernel_rfl)]
       obtain ⟨H3,H4,s3,ix3,s4,o4,c4,l4⟩:=W9 o p3 p0 hf
       simp [h0,h1,hi,hj,Qt o p3,Qt o p0,Qu o p3,Qu o p0,s3,ix3 _ p3,ix3 _ p0,s4]
       obtain ⟨f1,f2,f3⟩:=pt.fin hij' hai hjb (by omega)
       exact ⟨j',rfl,by omega,by omega,_,sw.step j' a (by omega) (by omega),⟨fun k k1 k2=>by have:=f2 k k1 k2;rw [f1];exact this,fun k k1 k2=>by have:=f3 k k1 k2;rw [f1];omega⟩,o4,c.trans c4,by omega⟩
    ·simp [h0,h1,hi,hj]
     refine ih2 (j'-1+1-i) _ _ ⟨j'-1,rfl,by simp [h0],by simp [h1],by simp [hi],?_,by omega,by omega,rfl,pt.decr (by omega) (by have:=pt.1;show ¬(G ys j'<x);omega)⟩ (by omega)
     simp;rw [w64 (by omega) (by omega)];omega
   ·have hij':i=j'+1:=by omega
    have hji:j'<i:=by omega
    simp [h0,h1,hi,hj,g1,hji]
    have p3:j'<ys.length:=by omega
    rw [Qe (h:=by kernel_rfl)]
    obtain ⟨H3,H4,s3,ix3,s4,o4,c4,l4⟩:=W9 o p3 p0 hf
    simp [h0,h1,hi,hj,Qt o p3,Qt o p0,Qu o p3,Qu o p0,s3,ix3 _ p3,ix3 _ p0,s4]
    obtain ⟨f1,f2,f3⟩:=pt.fin hij' hai hjb (by omega)
    exact ⟨j',rfl,by omega,by omega,_,sw.step j' a (by omega) (by omega),⟨fun k k1 k2=>by have:=f2 k k1 k2;rw [f1];exact this,fun k k1 k2=>by have:=f3 k k1 k2;rw [f1];omega⟩,o4,c.trans c4,by omega⟩
include hK
theorem yk (v:Value) (xs:List Int) (e:TypeId) (a b:Nat) (h:OwE e H v xs) (hab:a<b) (hb:b≤xs.length) (hl:xs.length≤1073741824) (hlo:0<a→∀k,a≤k→k<b→G xs (a-1)≤G xs k) (hf:∀i∈ids v,frz≤i) :
 wp (vcall C frz 210 [v,.int .i64 a,.int .i64 b,cf] H) (fun r H'=>∃d:Bool,r=.bool d∧SwdE H v xs e a b (fun ys=>d=true→Srt ys a b) H'):=by
 rw [Qb (fn:=Tryz.f210) Tryz.func210 rfl (by kernel_rfl) rfl]
 obtain ⟨i0,hi0⟩:∃i0,i0=a+1:=⟨_,rfl⟩
 have e2:∀[Inhabited Unit],IntKind.i64.wrap ((a:Int)+1)=(i0:Int):=by intro _;rw [w64 (by omega) (by omega)];omega
 simp [e2]
 refine Qh (fun c t H'=>∃i s:Nat,c=5-s∧s≤5∧(t 0=v∧t 3=cf)∧t 1=.int .i64 a∧t 2=.int .i64 b∧t 9=.int .i64 i∧t 10=.int .i64 s∧a<i∧i≤b∧SwdE H v xs e a b (fun ys=>Srt ys a i) H') ?_ (n:=5)
  ⟨i0,0,rfl,by omega,by simp,by simp,by simp,by simp,by simp,by omega,by omega,xs,.refl,Srt.short (by omega),h,Chg.refl _,rfl⟩
 rintro c t H' ⟨i,s,rfl,hs,h0,h1,h2,h7,h8,hai,hib,ys,sw,sr,o,c,l⟩ ih
 have len:=sw.len
 simp [h0,h1,h2,h7,h8]
 refine Qc ?_ ?_<;>intro g0
 ·simp [h0,h1,h2,h7,h8]
  refine Sd (F:=?F) (k1:=?k1) (k2:=?k2) (Q:=?Q) (fun c t H1=>∃i:Nat,c=.bool (decide ((i:Int)=b))∧H'=H1∧(t 0=v∧t 3=cf)∧t 1=.int .i64 a∧t 2=.int .i64 b∧t 9=.int .i64 i∧t 10=.int .i64 s∧a<i∧i≤b∧Srt ys a i) ?main ?rest
  case main=>
   intro rest
   refine Qh (fun c t H1=>∃i:Nat,c=b-i∧H'=H1∧(t 0=v∧t 3=cf)∧t 1=.int .i64 a∧t 2=.int .i64 b∧t 9=.int .i64 i∧t 10=.int .i64 s∧a<i∧i≤b∧Srt ys a i) ?_ (n:=b-i)
    ⟨i,rfl,rfl,by simp [h0],by simp [h1],by simp [h2],by simp [h7],by simp [h8],hai,hib,sr⟩
   rintro c t _ ⟨i,rfl,rfl,h0,h1,h2,h7,h8,hai,hib,sr⟩ ih2
   have e3:∀[Inhabited Unit],IntKind.i64.wrap ((i:Int)-1)=((i-1:Nat):Int):=by intro _;rw [w64 (by omega) (by omega)];omega
   simp [h0,h1,h2,h7,h8]
   rw [Qe (h:=by kernel_rfl)]
   simp [h0,h1,h2,h7,h8]
   refine Qz ?_ ?_<;>intro g1
   ·have p1:i<ys.length:=by omega
    have p2:i-1<ys.length:=by omega
    simp [h0,h1,h2,h7,h8,g1,e3,Qt o p1,Qt o p2,Qu o p1,Qu o p2,dlt hK o]
    refine Qc ?_ ?_<;>intro g2
    ·simp [h0,h1,h2,h7,h8]
     refine rest _ _ _ ?_
     exact ⟨i,rfl,rfl,by simp [h0],by simp [h1],by simp [h2],by simp [h7],by simp [h8],hai,hib,sr⟩
    ·simp [h0,h1,h2,h7,h8]
     refine ih2 (b-(i+1)) _ _ ⟨i+1,rfl,rfl,by simp [h0],by simp [h1],by simp [h2],?_,by simp [h8],by omega,by omega,sr.snoc (fun _=>by omega)⟩ (by omega)
     simp;rw [w64 (by omega) (by omega)]
   ·simp [h0,h1,h2,h7,h8,g1]
    refine rest _ _ _ ?_
    exact ⟨i,rfl,rfl,by simp [h0],by simp [h1],by simp [h2],by simp [h7],by simp [h8],hai,hib,sr⟩
  case rest=>
   rintro _ t _ ⟨i,rfl,rfl,h0,h1,h2,h7,h8,hai,hib,sr⟩
   obtain ⟨n,hn⟩:∃n,n=b-a:=⟨_,rfl⟩
   obtain ⟨m,hm⟩:∃m,m=i-a:=⟨_,rfl⟩
   obtain ⟨r,hr⟩:∃r,r=b-i:=⟨_,rfl⟩
   have e4:∀[Inhabited Unit],IntKind.i64.wrap ((b:Int)-a)=(n:Int):=by intro _;rw [w64 (by omega) (by omega)];omega
   have e5:∀[Inhabited Unit],IntKind.i64.wrap ((i:Int)-a)=(m:Int):=by intro _;rw [w64 (by omega) (by omega)];omega
   have e6:∀[Inhabited Unit],IntKind.i64.wrap ((b:Int)-i)=(r:Int):=by intro _;rw [w64 (by omega) (by omega)];omega
   have e3:∀[Inhabited Unit],IntKind.i64.wrap ((i:Int)-1)=((i-1:Nat):Int):=by intro _;rw [w64 (by omega) (by omega)];omega
   refine Qc ?_ ?_<;>intro g1
   ·simp
    have hib:i=b:=by omega
    exact ⟨ys,sw,hib▸sr,o,c,l⟩
   ·simp [h0,h1,h2,h7,h8,e4]
    refine Qc ?_ ?_<;>intro g2
    ·simp
     exact ⟨ys,sw,trivial,o,c,l⟩
    ·have p1:i<ys.length:=by omega
     have p2:i-1<ys.length:=by omega
     simp [h0,h1,h2,h7,h8]
     rw [Qe (h:=by kernel_rfl)]
     obtain ⟨H3,H4,s3,ix3,s4,o4,c4,l4⟩:=W9 o p1 p2 hf
     simp [h0,h1,h2,h7,h8,e3,e5,Qt o p1,Qt o p2,Qu o p1,Qu o p2,s3,ix3 _ p1,ix3 _ p2,s4]
     have sw4:=sw.step i (i-1) (by omega) (by omega)
     have sr4:Srt (swp ys i (i-1)) a (i-1):=Srt.frame (fun p q q1 q2 q3=>sr p q q1 q2 (by omega)) (fun k k1 k2=>by rw [Xw p1 p2,if_neg (by omega),if_neg (by omega)])
     have c5:=c.trans c4
     have l5:H4.length=H.length:=by omega
     generalize swp ys i (i-1)=zs at *
     refine Sd (F:=?F2) (k1:=?k12) (k2:=?k22) (Q:=?Q2) (fun c t H1=>c=.bool (decide (2≤(r:Int)))∧(t 0=v∧t 3=cf)∧t 1=.int .i64 a∧t 2=.int .i64 b∧t 9=.int .i64 i∧t 10=.int .i64 s∧SwdE H v xs e a b (fun ys=>Srt ys a i) H1) ?main2 ?rest2
     case main2=>
      intro rest2
      refine Qc ?_ ?_<;>intro g3
      ·simp [h0,h1,h2,h7,h8,e3]
       refine Qh (fun c t H1=>∃j:Nat,c=j∧(t 0=v∧t 3=cf)∧t 1=.int .i64 a∧t 2=.int .i64 b∧t 9=.int .i64 i∧t 10=.int .i64 s∧t 11=.int .i64 j∧a≤j∧j≤i-1∧SwdE H v xs e a b (fun ys=>Ins ys a (i-1) j) H1) ?_ (n:=i-1)
        ⟨i-1,rfl,by simp [h0],by simp [h1],by simp [h2],by simp [h7],by simp [h8],by simp,by omega,by omega,zs,sw4,Ins.start sr4,o4,c5,l5⟩
       rintro j t H1 ⟨_,rfl,h0,h1,h2,h7,h8,h9,haj,hji,ws,sw,ins,o,c,l⟩ ih2
       have len:=sw.len
       have e7:∀[Inhabited Unit],IntKind.i64.wrap ((j:Int)-1)=((j-1:Nat):Int)∨j=0:=by
        intro _
        by_cases hj:j=0
        ·exact .inr hj
        ·left;rw [w64 (by omega) (by omega)];omega
       simp [h0,h1,h2,h7,h8,h9]
       refine Qc ?_ ?_<;>intro g4
       ·have e7:∀[Inhabited Unit],IntKind.i64.wrap ((j:Int)-1)=((j-1:Nat):Int):=by intro _;rw [w64 (by omega) (by omega)];omega
        have p3:j<ws.length:=by omega
        have p4:j-1<ws.length:=by omega
        simp [h0,h1,h2,h7,h8,h9]
        rw [Qe (h:=by kernel_rfl)]
        simp [h0,h1,h2,h7,h8,h9,e7,Qt o p3,Qt o p4,Qu o p3,Qu o p4,dlt hK o]
        have low:j=a→G ws (j-1)≤G ws j:=by
         intro hja
         have:=sw.all hb (p:=fun y=>G xs (a-1)≤y) (fun k k1 k2=>hlo (by omega) k k1 k2) j haj (by omega)
         rw [hja] at this ⊢
         rw [sw.out hb (k:=a-1) (by omega)];exact this
        refine Qc ?_ ?_<;>intro g5
        ·have haj2:a<j:=by
          rcases Nat.lt_or_ge a j with q|q
          ·exact q
          ·have:=low (by omega);omega
         simp [h0,h1,h2,h7,h8,h9]
         rw [Qe (h:=by kernel_rfl)]
         obtain ⟨H5,H6,s5,ix5,s6,o6,c6,l6⟩:=W9 o p3 p4 hf
         simp [h0,h1,h2,h7,h8,h9,e7,Qt o p3,Qt o p4,Qu o p3,Qu o p4,s5,ix5 _ p3,ix5 _ p4,s6]
         refine ih2 (j-1) _ _ ⟨j-1,rfl,by simp [h0],by simp [h1],by simp [h2],by simp [h7],by simp [h8],by simp [e7],by omega,by omega,_,sw.step j (j-1) (by omega) (by omega),ins.step (by omega) haj2 hji g5,o6,c.trans c6,by omega⟩ (by omega)
        ·have sr6:Srt ws a (i-1+1):=ins.done (by
          rcases Nat.lt_or_ge a j with q|q
          ·exact .inr ⟨q,by omega⟩
          ·exact .inl (by omega))
         rw [show i-1+1=i by omega] at sr6
         simp [h0,h1,h2,h7,h8,h9,e6]
         refine rest2 _ _ _ ?_
         exact ⟨rfl,by simp [h0],by simp [h1],by simp [h2],by simp [h7],by simp [h8],ws,sw,sr6,o,c,l⟩
       ·have sr6:Srt ws a (i-1+1):=ins.done (.inl (by omega))
        rw [show i-1+1=i by omega] at sr6
        simp [h0,h1,h2,h7,h8,h9,e6]
        refine rest2 _ _ _ ?_
        exact ⟨rfl,by simp [h0],by simp [h1],by simp [h2],by simp [h7],by simp [h8],ws,sw,sr6,o,c,l⟩
      ·simp [h0,h1,h2,h7,h8,e6]
       refine rest2 _ _ _ ?_
       exact ⟨rfl,by simp [h0],by simp [h1],by simp [h2],by simp [h7],by simp [h8],zs,sw4,Srt.short (by omega),o4,c5,l5⟩
     case rest2=>
      clear sw4 sr4 o4 c5 l5 s3 s4 ix3 c4 p1 p2
      rintro _ t H1 ⟨rfl,h0,h1,h2,h7,h8,ws,sw,sr,o,c,l⟩
      have fin:∀(t:Env) (H1:Heap),(t 0=v∧t 3=cf)→t 1=.int .i64 a→t 2=.int .i64 b→t 9=.int .i64 i→t 10=.int .i64 (IntKind.i64.wrap ((s:Int)+1))→SwdE H v xs e a b (fun ys=>Srt ys a i) H1→
       ∃i s':Nat,5-(s+1)=5-s'∧s'≤5∧(t 0=v∧t 3=cf)∧t 1=.int .i64 a∧t 2=.int .i64 b∧t 9=.int .i64 i∧t 10=.int .i64 s'∧a<i∧i≤b∧SwdE H v xs e a b (fun ys=>Srt ys a i) H1:=
       fun t H1 g0 g1 g2 g7 g8 gs=>⟨i,s+1,rfl,by omega,g0,g1,g2,g7,by rw [g8,w64 (by omega) (by omega)];simp,hai,hib,gs⟩
      refine Qc ?_ ?_<;>intro g3
      ·have e8:∀[Inhabited Unit],IntKind.i64.wrap ((i:Int)+1)=((i+1:Nat):Int):=by intro _;rw [w64 (by omega) (by omega)];omega
       obtain ⟨j0,hj0⟩:∃j0,j0=i+1:=⟨_,rfl⟩
       rw [← hj0] at e8
       simp [h0,h1,h2,h7,h8,e8]
       refine Qh (fun c t H1=>∃j:Nat,c=b-j∧(t 0=v∧t 3=cf)∧t 1=.int .i64 a∧t 2=.int .i64 b∧t 9=.int .i64 i∧t 10=.int .i64 s∧t 12=.int .i64 j∧i<j∧j≤b∧SwdE H v xs e a b (fun ys=>Srt ys a i) H1) ?_ (n:=b-j0)
        ⟨j0,rfl,by simp [h0],by simp [h1],by simp [h2],by simp [h7],by simp [h8],by simp,by omega,by omega,ws,sw,sr,o,c,l⟩
       rintro _ t H1 ⟨j,rfl,h0,h1,h2,h7,h8,h10,hij,hjb,ws,sw,sr,o,c,l⟩ ih2
       have len:=sw.len
       simp [h0,h1,h2,h7,h8,h10]
       refine Qc ?_ ?_<;>intro g4
       ·have e7:∀[Inhabited Unit],IntKind.i64.wrap ((j:Int)-1)=((j-1:Nat):Int):=by intro _;rw [w64 (by omega) (by omega)];omega
        have p3:j<ws.length:=by omega
        have p4:j-1<ws.length:=by omega
        simp [h0,h1,h2,h7,h8,h10]
        rw [Qe (h:=by kernel_rfl)]
        simp [h0,h1,h2,h7,h8,h10,e7,Qt o p3,Qt o p4,Qu o p3,Qu o p4,dlt hK o]
        refine Qc ?_ ?_<;>intro g5
        ·simp [h0,h1,h2,h7,h8,h10]
         rw [Qe (h:=by kernel_rfl)]
         obtain ⟨H5,H6,s5,ix5,s6,o6,c6,l6⟩:=W9 o p3 p4 hf
         simp [h0,h1,h2,h7,h8,h10,e7,Qt o p3,Qt o p4,Qu o p3,Qu o p4,s5,ix5 _ p3,ix5 _ p4,s6]
         refine ih2 (b-(j+1)) _ _ ⟨j+1,rfl,by simp [h0],by simp [h1],by simp [h2],by simp [h7],by simp [h8],?_,by omega,by omega,_,sw.step j (j-1) (by omega) (by omega),Srt.frame sr (fun k k1 k2=>by rw [Xw p3 p4,if_neg (by omega),if_neg (by omega)]),o6,c.trans c6,by omega⟩ (by omega)
         simp;rw [w64 (by omega) (by omega)]
        ·simp [h0,h1,h2,h7,h8,h10]
         refine ih (5-(s+1)) _ _ (fin _ _ ?_ ?_ ?_ ?_ ?_ ⟨ws,sw,sr,o,c,l⟩) (by omega)<;>simp [h0,h1,h2,h7,h8]
       ·simp [h0,h1,h2,h7,h8,h10]
        refine ih (5-(s+1)) _ _ (fin _ _ ?_ ?_ ?_ ?_ ?_ ⟨ws,sw,sr,o,c,l⟩) (by omega)<;>simp [h0,h1,h2,h7,h8]
      ·simp [h0,h1,h2,h7,h8]
       refine ih (5-(s+1)) _ _ (fin _ _ ?_ ?_ ?_ ?_ ?_ ⟨ws,sw,sr,o,c,l⟩) (by omega)<;>simp [h0,h1,h2,h7,h8]
 ·simp
  exact ⟨ys,sw,trivial,o,c,l⟩
include hK
theorem Qf6:∀(n:Nat) (H:Heap) (v:Value) (xs:List Int) (e:TypeId) (A B:Nat) (L:Int) (h:OwE e H v xs) (hn:B-A≤n) (hab:A≤B) (hb:B≤xs.length) (hl:xs.length≤1073741824)
 (hlo:0<A→∀k,A≤k→k<B→G xs (A-1)≤G xs k) (hf:∀i∈ids v,frz≤i) (hF:frz≤H.length),
 wp (vcall C frz 197 [v,.int .i64 A,.int .i64 B,.int .i64 L,cf] H) (fun _ H'=>∃ys,Sw A B xs ys∧Srt ys A B∧OwE e H' v ys∧Chg H H' (ids v)):=by
 intro n
 induction n using Nat.strongRecOn with
 | _ n IH=>
 intro H v xs e A B L h hn hab hb hl hlo hf hF
 rw [Qb (fn:=Tryz.f197) Tryz.func197 rfl (by kernel_rfl) rfl]
 simp
 refine Qh (fun c t H'=>∃(a b:Nat) (L:Int) (w1 w2:Bool),c=b-a∧(t 0=v∧t 4=cf)∧t 1=.int .i64 a∧t 2=.int .i64 b∧t 3=.int .i64 L∧t 10=.bool w1∧t 11=.bool w2∧
  ∃ys,Sw A B xs ys∧Pq ys A B a b∧OwE e H' v ys∧Chg H H' (ids v)) ?_ (n:=B-A)
  ⟨A,B,L,true,true,rfl,by simp,by simp,by simp,by simp,by simp,by simp,xs,.refl,⟨by omega,Srt.short (by omega),Srt.short (by omega),fun p q h1 h2 h3 h4=>by omega,fun p q h1 h2 h3 h4=>by omega,hlo⟩,h,Chg.refl _⟩
 rintro c t H' ⟨a,b,L,w1,w2,rfl,h0,h1,h2,h3,h8,h9,ys,sw,pq,o,c⟩ ih
 have len:=sw.len
 obtain ⟨l1,l2,l3⟩:=pq.le
 obtain ⟨n1,hn1⟩:∃n1,n1=b-a:=⟨_,rfl⟩
 have e1:∀[Inhabited Unit],IntKind.i64.wrap ((b:Int)-a)=(n1:Int):=by intro _;rw [w64 (by omega) (by omega)];omega
 simp [h0,h1,h2,h3,h8,h9,e1]
 refine Qc ?_ ?_<;>intro g1
 ·simp [h0,h1,h2,h3,h8,h9]
  refine Qd (wj hK v ys e a b o l2 (by omega) (by omega) hf) ?_
  rintro _ H1 ⟨zs,sw1,sr1,o1,c1,k1⟩
  simp
  exact ⟨zs,sw.trans (sw1.mono l1 l3),(pq.sw sw1 (by omega)).done sr1,o1,c.trans c1⟩
 ·simp [h0,h1,h2,h3,h8,h9]
  refine Qc ?_ ?_<;>intro g2
  ·simp [h0,h1,h2,h3,h8,h9]
   refine Qd (Cs hK v ys e a b o (by omega) (by omega) (by omega) hf) ?_
   rintro _ H1 ⟨zs,sw1,sr1,o1,c1,k1⟩
   simp
   exact ⟨zs,sw.trans (sw1.mono l1 l3),(pq.sw sw1 (by omega)).done sr1,o1,c.trans c1⟩
  ·simp [h0,h1,h2,h3,h8,h9]
   refine Z3 (F:=?F1) (k:=?k1) (d:=?d1) (Q:=?Q1) (fun r t=>∃(L:Int) (zs:List Int) (H1:Heap),r=vcall C frz 208 [v,.int .i64 a,.int .i64 b,cf] H1∧(t 0=v∧t 4=cf)∧t 1=.int .i64 a∧t 2=.int .i64 b∧t 3=.int .i64 L∧t 12=.int .i64 n1∧t 10=.bool w1∧t 11=.bool w2∧
    Sw A B xs zs∧Pq zs A B a b∧OwE e H1 v zs∧Chg H H1 (ids v)) ?main1 ?rest1
   case main1=>
    intro rest
    have h10:=True.intro
    refine Pr ?_ ?_<;>intro g3
    ·simp [h0,h1,h2,h3,h8,h9]
     refine rest _ _ ?_
     exact ⟨L,ys,H',rfl,by simp [h0],by simp [h1],by simp [h2],by simp [h3],by simp [h10],by simp [h8],by simp [h9],sw,pq,o,c⟩
    ·simp [h0,h1,h2,h3,h8,h9]
     refine Qd (D9 hK v ys e a b o l2 (by omega) (by omega) hf (by have:=c.1;omega)) ?_
     rintro _ H1 ⟨zs,sw1,o1,c1⟩
     simp [h0,h1,h2,h3,h8,h9]
     refine rest _ _ ?_
     exact ⟨IntKind.i64.wrap (L-1),zs,H1,rfl,by simp [h0],by simp [h1],by simp [h2],by simp,by simp,by simp [h8],by simp [h9],sw.trans (sw1.mono l1 l3),pq.sw sw1 (by omega),o1,c.trans c1⟩
   case rest1=>
    clear h0 h1 h2 h3 h8 h9 sw pq o c len
    rintro _ t ⟨L,ys,H',rfl,h0,h1,h2,h3,h10,h8,h9,sw,pq,o,c⟩
    have len:=sw.len
    refine Qd (Mh hK v ys e a b o (by omega) (by omega) (by omega) (by have:=c.1;omega)) ?_
    rintro _ H1 ⟨⟨p,k,rfl,hp1,hp2⟩,c1⟩
    have o1:=o.chg c1 (by simp)
    have cH1:=c.trans (c1.mono (by simp))
    simp [h0,h1,h2,h3,h8,h9]
    refine Fm (F:=?F2) (k:=?k2) (d:=?d2) (want:=?w2) (op:=?op2) (Q:=?Q2) (fun c t H1=>c=.bool w1∧∃(p:Nat) (k:Int) (zs:List Int),(a≤p∧p<b)∧(t 0=v∧t 4=cf)∧t 1=.int .i64 a∧t 2=.int .i64 b∧t 3=.int .i64 L∧t 12=.int .i64 n1∧t 10=.bool w1∧t 11=.bool w2∧t 13=.int .i64 p∧t 14=.int .i64 k∧t 69=.bool w1∧
     Sw A B xs zs∧Pq zs A B a b∧OwE e H1 v zs∧Chg H H1 (ids v)) ?main2 ?rest2
    case main2=>
     intro rest
     refine Qc ?_ ?_<;>intro g3
     ·simp [h0,h1,h2,h3,h8,h9]
      refine Qd (Cb hK v ys e a b o1 (by omega) (by omega) (by omega) hf) ?_
      rintro _ H2 ⟨zs,sw1,_,o2,c2,k2⟩
      obtain ⟨b1,hb1⟩:∃b1,b1=b-1:=⟨_,rfl⟩
      obtain ⟨p1,hp3⟩:∃p1,p1=p-a:=⟨_,rfl⟩
      obtain ⟨p2,hp4⟩:∃p2,p2=b1-p1:=⟨_,rfl⟩
      have e2:∀[Inhabited Unit],IntKind.i64.wrap ((b:Int)-1)=(b1:Int):=by intro _;rw [w64 (by omega) (by omega)];omega
      have e3:∀[Inhabited Unit],IntKind.i64.wrap ((p:Int)-a)=(p1:Int):=by intro _;rw [w64 (by omega) (by omega)];omega
      have e4:∀[Inhabited Unit],IntKind.i64.wrap ((b1:Int)-p1)=(p2:Int):=by intro _;rw [w64 (by omega) (by omega)];omega
      simp [h0,h1,h2,h3,h8,h9,e2,e3,e4]
      refine rest _ _ _ ?_
      exact ⟨rfl,p2,1,zs,by omega,by simp [h0],by simp [h1],by simp [h2],by simp [h3],by simp [h10],by simp [h8],by simp [h9],by simp,by simp,by simp,sw.trans (sw1.mono l1 l3),pq.sw sw1 (by omega),o2,cH1.trans c2⟩
     ·simp [h0,h1,h2,h3,h8,h9]
      refine rest _ _ _ ?_
      exact ⟨rfl,p,k,ys,by omega,by simp [h0],by simp [h1],by simp [h2],by simp [h3],by simp [h10],by simp [h8],by simp [h9],by simp,by simp,by simp,sw,pq,o1,cH1⟩
    case rest2=>
     clear h0 h1 h2 h3 h8 h9 sw pq o c len o1 c1 cH1 hp1 hp2
     rintro _ t H1 ⟨rfl,p,k,ys,hp,h0,h1,h2,h3,h10,h8,h9,h11,h12,h62,sw,pq,o,c⟩
     have len:=sw.len
     refine Xc (F:=?F3) (k:=?k3) (Q:=?Q3) (fun t H1=>∃(zs:List Int),(t 0=v∧t 4=cf)∧t 1=.int .i64 a∧t 2=.int .i64 b∧t 3=.int .i64 L∧t 12=.int .i64 n1∧t 10=.bool w1∧t 11=.bool w2∧t 13=.int .i64 p∧
      Sw A B xs zs∧Pq zs A B a b∧OwE e H1 v zs∧Chg H H1 (ids v)) ?main3 ?rest3
     case main3=>
      intro rest
      refine Sm ?_ ?_<;>intro g3
      ·simp [h0,h1,h2,h3,h8,h9,h11,h12,h62,g3]
       refine Sm ?_ ?_<;>intro g4
       ·simp [h0,h1,h2,h3,h8,h9,h11,h12,h62,g3,g4]
        refine Qc ?_ ?_<;>intro g5
        ·simp [h0,h1,h2,h3,h8,h9,h11,h12]
         refine Qd (yk hK v ys e a b o (by omega) (by omega) (by omega) (fun h0 k k1 k2=>pq.below h0 k k1 (by omega)) hf) ?_
         rintro _ H2 ⟨d,rfl,zs,sw1,sr1,o2,c2,k2⟩
         simp
         refine Pr ?_ ?_<;>intro g6
         ·simp
          exact ⟨zs,sw.trans (sw1.mono l1 l3),(pq.sw sw1 (by omega)).done (sr1 g6),o2,c.trans c2⟩
         ·simp
          refine rest _ _ ?_
          exact ⟨zs,by simp [h0],by simp [h1],by simp [h2],by simp [h3],by simp [h10],by simp [h8],by simp [h9],by simp [h11],sw.trans (sw1.mono l1 l3),pq.sw sw1 (by omega),o2,c.trans c2⟩
        ·simp
         refine rest _ _ ?_
         exact ⟨ys,by simp [h0],by simp [h1],by simp [h2],by simp [h3],by simp [h10],by simp [h8],by simp [h9],by simp [h11],sw,pq,o,c⟩
       ·simp [h0,h1,h2,h3,h8,h9,h11,h12,h62,g3,g4]
        refine rest _ _ ?_
        exact ⟨ys,by simp [h0],by simp [h1],by simp [h2],by simp [h3],by simp [h10],by simp [h8,g3],by simp [h9,g4],by simp [h11],sw,pq,o,c⟩
      ·simp [h0,h1,h2,h3,h8,h9,h11,h12,h62,g3]
       refine rest _ _ ?_
       exact ⟨ys,by simp [h0],by simp [h1],by simp [h2],by simp [h3],by simp [h10],by simp [h8,g3],by simp [h9],by simp [h11],sw,pq,o,c⟩
     case rest3=>
      clear h0 h1 h2 h3 h8 h9 h11 h12 sw pq o c len
      rintro t H1 ⟨ys,h0,h1,h2,h3,h10,h8,h9,h11,sw,pq,o,c⟩
      have len:=sw.len
      have q1:p<ys.length:=by omega
      rw [Qe (h:=by kernel_rfl)]
      simp [h0,h1,h2,h3,h8,h9,h11]
      refine Z3 (F:=?F4) (k:=?k4) (d:=?d4) (Q:=?Q4) (fun r t=>r=vcall C frz 212 [v,.int .i64 a,.int .i64 b,.int .i64 p,cf] H1∧(t 0=v∧t 4=cf)∧t 1=.int .i64 a∧t 2=.int .i64 b∧t 3=.int .i64 L∧t 12=.int .i64 n1) ?main4 ?rest4
      case main4=>
       intro rest
       refine Qz ?_ ?_<;>intro g3
       ·have e5:∀[Inhabited Unit],IntKind.i64.wrap ((a:Int)-1)=((a-1:Nat):Int):=by intro _;rw [w64 (by omega) (by omega)];omega
        have q2:a-1<ys.length:=by omega
        simp [h0,h1,h2,h3,h8,h9,h11,g3,e5,Qt o q1,Qt o q2,Qu o q1,Qu o q2,dlt hK o]
        refine Qc ?_ ?_<;>intro g4
        ·simp [h0,h1,h2,h3,h8,h9,h11]
         refine rest _ _ ?_
         exact ⟨rfl,by simp [h0],by simp [h1],by simp [h2],by simp [h3],by simp [h10]⟩
        ·simp [h0,h1,h2,h3,h8,h9,h11]
         refine Qd (gu hK v ys e a b p o hp (by omega) (by omega) hf) ?_
         rintro _ H2 ⟨m,rfl,m1,m2,zs,sw1,⟨f1,f2⟩,o2,c2,k2⟩
         simp [h0,h1,h2,h3,h8,h9,h11]
         have low:=(pq.sw sw1 (by omega)).below g3
         have out:=sw1.out (by omega) (k:=a-1) (by omega)
         refine ih (b-m) _ _ ⟨m,b,L,w1,w2,rfl,by simp [h0],by simp,by simp [h2],by simp [h3],by simp [h8],by simp [h9],zs,sw.trans (sw1.mono l1 l3),(pq.sw sw1 (by omega)).eq ⟨m1,m2⟩ (fun k k1 k2=>?_) f1 f2,o2,c.trans c2⟩ (by omega)
         have:=low k k1 (by omega);omega
       ·simp [h0,h1,h2,h3,h8,h9,h11,g3]
        refine rest _ _ ?_
        exact ⟨rfl,by simp [h0],by simp [h1],by simp [h2],by simp [h3],by simp [h10]⟩
      case rest4=>
       rintro _ t ⟨rfl,h0,h1,h2,h3,h10⟩
       refine Qd (Qed hK v ys e a b p o hp (by omega) (by omega) hf) ?_
       rintro _ H2 ⟨m,d,rfl,m1,m2,zs,sw1,⟨f1,f2⟩,o2,c2,k2⟩
       have pq2:=pq.sw sw1 (by omega)
       have len2:=sw1.len
       obtain ⟨r1,hr1⟩:∃r1,r1=m-a:=⟨_,rfl⟩
       obtain ⟨r2,hr2⟩:∃r2,r2=b-m:=⟨_,rfl⟩
       obtain ⟨mm,hmm⟩:∃mm,mm=m+1:=⟨_,rfl⟩
       have e6:∀[Inhabited Unit],IntKind.i64.wrap ((m:Int)-a)=(r1:Int):=by intro _;rw [w64 (by omega) (by omega)];omega
       have e7:∀[Inhabited Unit],IntKind.i64.wrap ((b:Int)-m)=(r2:Int):=by intro _;rw [w64 (by omega) (by omega)];omega
       have e8:∀[Inhabited Unit],IntKind.i64.wrap ((m:Int)+1)=(mm:Int):=by intro _;rw [w64 (by omega) (by omega)];omega
       have f1':∀k,a≤k→k<m→G zs k≤G zs m:=fun k k1 k2=>Int.le_of_lt (f1 k k1 k2)
       have cc:=c.trans c2
       have q8:∀[Inhabited Unit],IntKind.i64.wrap ((n1:Int)/8)=(n1/8:Nat):=by intro _;rw [w64 (by omega) (by omega)];omega
       obtain ⟨n8,hn8⟩:∃n8,n8=n1/8:=⟨_,rfl⟩
       rw [← hn8] at q8
       simp [h0,h1,h2,h3,h10,e6,e7,e8,q8]
       refine Qc ?_ ?_<;>intro g7
       ·simp [h0,h1,h2,h3,h10]
        refine Qd (IH (m-a) (by omega) H2 v zs e a m L o2 (Nat.le_refl _) (by omega) (by omega) (by omega) (fun q0 k k1 k2=>pq2.below q0 k k1 (by omega)) hf (by have:=cc.1;omega)) ?_
        rintro _ H3 ⟨ws,sw3,sr3,o3,c3⟩
        simp [h0,h1,h2,h3,h10,e8]
        have hbz:m≤zs.length:=by omega
        have wm:G ws m=G zs m:=sw3.out hbz (.inr (Nat.le_refl _))
        refine ih (b-mm) _ _ ⟨mm,b,L,decide (n8≤r1),d,rfl,by simp [h0],by simp,by simp [h2],by simp [h3],by simp,by simp,ws,(sw.trans (sw1.mono l1 l3)).trans (sw3.mono l1 (by omega)),?_,o3,cc.trans c3⟩ (by omega)
        rw [hmm]
        refine (pq2.sw (sw3.mono (Nat.le_refl _) (by omega)) (by omega)).goRight ⟨m1,m2⟩ sr3 ?_ (fun k k1 k2=>?_)
        ·rw [wm];exact sw3.all hbz (p:=fun y=>y≤G zs m) f1'
        ·rw [wm,sw3.out hbz (.inr (by omega))];exact f2 k k1 k2
       ·simp [h0,h1,h2,h3,h10,e8]
        refine Qd (IH (b-mm) (by omega) H2 v zs e mm b L o2 (Nat.le_refl _) (by omega) (by omega) (by omega) (fun q0 k k1 k2=>by rw [show mm-1=m by omega];exact f2 k (by omega) k2) hf (by have:=cc.1;omega)) ?_
        rintro _ H3 ⟨ws,sw3,sr3,o3,c3⟩
        simp [h0,h1,h2,h3,h10,e8]
        have hbz:b≤zs.length:=by omega
        have wm:G ws m=G zs m:=sw3.out hbz (.inl (by omega))
        refine ih (m-a) _ _ ⟨a,m,L,decide (n8≤r2),d,rfl,by simp [h0],by simp [h1],by simp,by simp [h3],by simp,by simp,ws,(sw.trans (sw1.mono l1 l3)).trans (sw3.mono (by omega) l3),?_,o3,cc.trans c3⟩ (by omega)
        refine (pq2.sw (sw3.mono (by omega) (Nat.le_refl _)) (by omega)).goLeft ⟨m1,m2⟩ (hmm▸sr3) (fun k k1 k2=>?_) (fun k k1 k2=>?_)
        ·rw [wm,sw3.out hbz (.inl (by omega))];exact f1' k k1 k2
        ·rw [wm];exact sw3.all hbz (p:=fun y=>G zs m≤y) (fun k k1 k2=>f2 k (by omega) k2) k (by omega) k2
theorem Qb6 (v:Value) (xs:List Int) (e:TypeId) (h:OwE e H v xs) (hl:xs.length≤1073741824) (hf:∀i∈ids v,frz≤i) (hF:frz≤H.length) :
 wp (vcall C frz 186 [v,cf] H) (fun _ H'=>∃ys:List Int,ys.Pairwise (·≤·)∧ys.Perm xs∧OwE e H' v ys∧Chg H H' (ids v)):=by
 rw [Qb (fn:=Tryz.f186) Tryz.func186 rfl (by kernel_rfl) rfl]
 have e1:∀[Inhabited Unit],IntKind.u64.wrap (xs.length:Int)=(xs.length:Int):=by intro _;exact w64u (by omega) (by omega)
 simp [h.rd.len,e1]
 refine Qd (ja xs.length (by omega)) ?_
 rintro _ H0 ⟨hH,n,rfl,_⟩
 rw [hH]
 simp
 have:=Qf6 (frz:=frz) hK xs.length H v xs e 0 xs.length n h (by omega) (by omega) (Nat.le_refl _) hl (fun h=>by omega) hf hF
 refine Qd (by simpa using this) ?_
 rintro _ H1 ⟨ys,sw,sr,o,c⟩
 simp
 rw [← sw.len] at sr
 exact ⟨ys,sr.pairwise,sw.perm (Nat.le_refl _),o,c⟩
end Go.Proofs.YtaldglgobgjeaaaGreat.V
