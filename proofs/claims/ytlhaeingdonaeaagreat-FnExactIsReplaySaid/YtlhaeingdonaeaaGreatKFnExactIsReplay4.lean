/- Texts of a proof, joined. -/
import Derived.Test.YtlhaeingdonaeaaGreatKM0
import Derived.Test.YtlhaeingdonaeaaGreatKM1
import Derived.Test.YtlhaeingdonaeaaGreatKFnExactIsReplay0
import Derived.Test.YtlhaeingdonaeaaGreatKFnExactIsReplay1
import Derived.Test.YtlhaeingdonaeaaGreatKFnExactIsReplay2
import Derived.Test.YtlhaeingdonaeaaGreatKFnExactIsReplay3
set_option linter.all false
namespace Go.Proofs.YtlhaeingdonaeaaGreat.V
open Go Go.VM Go.Proofs
set_option maxRecDepth 10000
variable {frz:Nat} {H:Heap}
def brkOk (x:NetD) (c:Int):Prop:=idleOk x∧breakOk x.1.1 x.1.2.1 x.1.2.2 c∧repairOk x.1.1 x.1.2.1 (withBroken x.1.1 x.1.2.1 x.1.2.2 c)=true
noncomputable instance (x:NetD) (c:Int):Decidable (brkOk x c):=inferInstanceAs (Decidable (_∧_))
noncomputable def brk (x:NetD) (c:Int):NetD:=if brkOk x c then fresh x (x.1.1,x.1.2.1,withBroken x.1.1 x.1.2.1 x.1.2.2 c) (repair x.1.1 x.1.2.1 (withBroken x.1.1 x.1.2.1 x.1.2.2 c)) else x
theorem Cy {v:NetV} {x:NetD} {c:Int} (o:dNet.Ow H v x) :
 wp (vcall C frz 145 [dNet.val v x,.int .i64 c] H) (Made2 dNet H (brk x c) (decide (brkOk x c))):=by
 have ones:=Qi o
 have oo:=fun (K:Heap) (ch:Chg H K [])=>Dt.chg (T:=dNet) o ch (by simp)
 have ii:=fun F K (ch:Chg H K [])=>Kk (frz:=F) (H:=K) (v:=v) (x:=x) (oo K ch)
 have ecopy:=fun K (ch:Chg H K [])=>Yp (frz:=H.length) (H:=K) (v:=v) (x:=x) (oo K ch)
 simp only [Qd] at ii ecopy ⊢
 rw [Qb (fn:=Tryz.f145) Tryz.func145 rfl (by kernel_rfl) rfl]
 have key:∀(y:NetD) (n:NetV) (K K0:Heap) (ok:Bool),dNet.Ow K n y→Chg H K0 []→Chg K0 K []→H.length+1<K0.length→K0[H.length+1]? = some ⟨[.int .i64 0,.int .i64 0,.slice none 0 0,.slice none 0 0,.slice none 0 0,.slice none 0 0,.slice none 0 0,.slice none 0 0,.slice none 0 0,.slice none 0 0,.int .i64 0],0,48⟩→(∀i∈dNet.ids n,K0.length≤i)→(dNet.ids n).Nodup→brk x c=y→decide (brkOk x c)=ok→
  K[H.length+1]? = some ⟨[.int .i64 0,.int .i64 0,.slice none 0 0,.slice none 0 0,.slice none 0 0,.slice none 0 0,.slice none 0 0,.slice none 0 0,.slice none 0 0,.slice none 0 0,.int .i64 0],0,48⟩∧Made2 dNet H (brk x c) (decide (brkOk x c)) (.tuple #[dNet.val n y,.bool ok]) (K.set (H.length+1) ⟨[.int .i64 y.1.1,.int .i64 y.1.2.1,n.1,n.2.1.1,n.2.1.2,n.2.2.1.1,n.2.2.2.1,n.2.2.2.2.1,n.2.2.2.2.2.1.1,n.2.2.2.2.2.2.1.1,.int .i64 y.2.2.2.2.2.2.2],0,48⟩):=by
  intro y n K K0 ok on c0 ck hlt hz mn dn e1 e2
  have bR:K[H.length+1]? = some ⟨[.int .i64 0,.int .i64 0,.slice none 0 0,.slice none 0 0,.slice none 0 0,.slice none 0 0,.slice none 0 0,.slice none 0 0,.slice none 0 0,.slice none 0 0,.int .i64 0],0,48⟩:=Qa hz ck (by simp)
  refine ⟨bR,dNet.val n y,by rw [e2],n,by rw [e1],?_,?_,fun i hi=>by have:=mn i hi;omega,dn⟩
  ·rw [e1];exact Dt.chg (T:=dNet) on (Qe _ _) (fun i hi hh=>by have:=mn i hi;simp at hh;omega)
  ·exact (c0.trans ck).trans' (Qe _ _) (fun i hi=>.inr (by simp at hi;omega))
 have fail:¬brkOk x c→brk x c=x∧decide (brkOk x c)=false:=fun hh=>⟨if_neg hh,decide_eq_false hh⟩
 have bad:∀(K0:Heap),Chg H K0 []→H.length+1<K0.length→K0[H.length+1]? = some ⟨[.int .i64 0,.int .i64 0,.slice none 0 0,.slice none 0 0,.slice none 0 0,.slice none 0 0,.slice none 0 0,.slice none 0 0,.slice none 0 0,.slice none 0 0,.int .i64 0],0,48⟩→¬brkOk x c→∀r K,dNet.Made K0 x r K→∃n,r=netVal n x∧dNet.Ow K n x∧K[H.length+1]? = some ⟨[.int .i64 0,.int .i64 0,.slice none 0 0,.slice none 0 0,.slice none 0 0,.slice none 0 0,.slice none 0 0,.slice none 0 0,.slice none 0 0,.slice none 0 0,.int .i64 0],0,48⟩∧Made2 dNet H (brk x c) (decide (brkOk x c)) (.tuple #[dNet.val n x,.bool false]) (K.set (H.length+1) ⟨[.int .i64 x.1.1,.int .i64 x.1.2.1,n.1,n.2.1.1,n.2.1.2,n.2.2.1.1,n.2.2.2.1,n.2.2.2.2.1,n.2.2.2.2.2.1.1,n.2.2.2.2.2.2.1.1,.int .i64 x.2.2.2.2.2.2.2],0,48⟩):=by
  intro K0 c0 hlt hz hb r K hm
  obtain ⟨n,rfl,on,cn,mn,dn⟩:=hm
  obtain ⟨f1,f2⟩:=fail hb
  obtain ⟨k1,k2⟩:=key x n K K0 false on c0 cn hlt hz mn dn f1 f2
  exact ⟨n,rfl,on,k1,k2⟩
 obtain ⟨G,hG⟩:∃G,G=H++[⟨[.int .i64 x.1.1,.int .i64 x.1.2.1,v.1,v.2.1.1,v.2.1.2,v.2.2.1.1,v.2.2.2.1,v.2.2.2.2.1,v.2.2.2.2.2.1.1,v.2.2.2.2.2.2.1.1,.int .i64 x.2.2.2.2.2.2.2],0,48⟩,⟨[.int .i64 0,.int .i64 0,.slice none 0 0,.slice none 0 0,.slice none 0 0,.slice none 0 0,.slice none 0 0,.slice none 0 0,.slice none 0 0,.slice none 0 0,.int .i64 0],0,48⟩]:=⟨_,rfl⟩
 have cG:Chg H G []:=by rw [hG];exact Chg.app _
 have b0:G[H.length]? = some ⟨[.int .i64 x.1.1,.int .i64 x.1.2.1,v.1,v.2.1.1,v.2.1.2,v.2.2.1.1,v.2.2.2.1,v.2.2.2.2.1,v.2.2.2.2.2.1.1,v.2.2.2.2.2.2.1.1,.int .i64 x.2.2.2.2.2.2.2],0,48⟩:=by rw [hG];simp
 have b1:G[H.length+1]? = some ⟨[.int .i64 0,.int .i64 0,.slice none 0 0,.slice none 0 0,.slice none 0 0,.slice none 0 0,.slice none 0 0,.slice none 0 0,.slice none 0 0,.slice none 0 0,.int .i64 0],0,48⟩:=by rw [hG];simp
 have hlG:G.length=H.length+2:=by rw [hG];simp
 simp [ones]
 rw [← hG]
 clear hG
 refine Qf (Lh (c:=c) (oo G cG).1) ?_
 rintro _ K1 ⟨_,rfl,vm,rfl,om,cm,mm,dm⟩
 have c1:Chg H K1 []:=cG.trans cm
 have b01:=Qa b0 cm (by simp)
 have b11:=Qa b1 cm (by simp)
 have hl1:=cm.1
 have onem:=W9 om
 obtain ⟨B,hB⟩:∃B,B=withBroken x.1.1 x.1.2.1 x.1.2.2 c:=⟨_,rfl⟩
 rw [← hB] at om
 have hl1':H.length≤K1.length:=c1.1
 simp [We,onem,VM.look,hl1']
 obtain ⟨K1',hK1⟩:∃K,K=K1++[⟨[.int .i64 x.1.1,.int .i64 x.1.2.1,vm],0,42⟩]:=⟨_,rfl⟩
 have c1':Chg K1 K1' []:=by rw [hK1];exact Chg.app _
 have bm:K1'[K1.length]? = some ⟨[.int .i64 x.1.1,.int .i64 x.1.2.1,vm],0,42⟩:=by rw [hK1];simp
 have om1:=Dt.chg (T:=dMesh) om c1' (by simp)
 rw [← hK1]
 have hrp:=Br (frz:=H.length) om1
 refine Qf hrp ?_
 rintro _ K2 ⟨_,rfl,vc,rfl,oc,cc,mc,dc⟩
 have onec:=Q7 oc
 have hl2:H.length≤K2.length:=Nat.le_trans hl1' (Nat.le_trans c1'.1 cc.1)
 simp [Wa,onec,VM.look,hl2]
 obtain ⟨K3,hK3⟩:∃K,K=K2++[⟨[vc.1,vc.2],0,45⟩]:=⟨_,rfl⟩
 have c3':Chg K2 K3 []:=by rw [hK3];exact Chg.app _
 have bc:K3[K2.length]? = some ⟨[vc.1,vc.2],0,45⟩:=by rw [hK3];simp
 rw [← hK3]
 have c13:Chg K1' K3 []:=cc.trans c3'
 have cG3:Chg G K3 []:=(cm.trans c1').trans c13
 have c3:Chg H K3 []:=cG.trans cG3
 have b03:=Qa b0 cG3 (by simp)
 have b13:=Qa b1 cG3 (by simp)
 have bm3:=Qa bm c13 (by simp)
 have om3:=Dt.chg (T:=dMesh) om1 c13 (by simp)
 have oc3:=Dt.chg (T:=dClasses) oc c3' (by simp)
 have hl3:H.length+1<K3.length:=Qt b13
 have ii':=fun F=>ii F K3 c3
 simp [VM.look,b03,ones,ii']
 have ffail:¬brkOk x c→wp (vcall C H.length 75 [netVal v x] K3) (fun r K=>∃n,r=netVal n x∧dNet.Ow K n x∧K[H.length+1]? = some ⟨[.int .i64 0,.int .i64 0,.slice none 0 0,.slice none 0 0,.slice none 0 0,.slice none 0 0,.slice none 0 0,.slice none 0 0,.slice none 0 0,.slice none 0 0,.int .i64 0],0,48⟩∧Made2 dNet H (brk x c) (decide (brkOk x c)) (.tuple #[dNet.val n x,.bool false]) (K.set (H.length+1) ⟨[.int .i64 x.1.1,.int .i64 x.1.2.1,n.1,n.2.1.1,n.2.1.2,n.2.2.1.1,n.2.2.2.1,n.2.2.2.2.1,n.2.2.2.2.2.1.1,n.2.2.2.2.2.2.1.1,.int .i64 x.2.2.2.2.2.2.2],0,48⟩)):=fun hb=>(ecopy K3 c3).mono (fun r K hm=>bad K3 c3 hl3 b13 hb r K hm)
 unfold netVal at ffail
 by_cases g0:idleOk x
 rotate_left
 ·simp [g0,VM.look,b03,ones]
  refine Qf (ffail (fun k=>g0 k.1)) ?_
  rintro r K ⟨n,rfl,on,bR,hM⟩
  have qn:=Qi on
  have gR:=Qg (r':=⟨[.int .i64 x.1.1,.int .i64 x.1.2.1,n.1,n.2.1.1,n.2.1.2,n.2.2.1.1,n.2.2.2.1,n.2.2.2.2.1,n.2.2.2.2.2.1.1,n.2.2.2.2.2.2.1.1,.int .i64 x.2.2.2.2.2.2.2],0,48⟩) bR
  have hF:H.length≤K.length:=by have:=Qt bR;omega
  simp [netVal,Qd,VM.look,bR,qn,gR,hF]
  exact hM
 by_cases g1:breakOk x.1.1 x.1.2.1 x.1.2.2 c
 rotate_left
 ·simp [g0,g1,VM.look,b03,ones]
  refine Qf (ffail (fun k=>g1 k.2.1)) ?_
  rintro r K ⟨n,rfl,on,bR,hM⟩
  have qn:=Qi on
  have gR:=Qg (r':=⟨[.int .i64 x.1.1,.int .i64 x.1.2.1,n.1,n.2.1.1,n.2.1.2,n.2.2.1.1,n.2.2.2.1,n.2.2.2.2.1,n.2.2.2.2.2.1.1,n.2.2.2.2.2.2.1.1,.int .i64 x.2.2.2.2.2.2.2],0,48⟩) bR
  have hF:H.length≤K.length:=by have:=Qt bR;omega
  simp [netVal,Qd,VM.look,bR,qn,gR,hF]
  exact hM
 by_cases g2:repairOk x.1.1 x.1.2.1 B=true
 rotate_left
 ·simp [g0,g1,g2,VM.look,b03,ones]
  refine Qf (ffail (fun k=>g2 (by rw [hB];exact k.2.2))) ?_
  rintro r K ⟨n,rfl,on,bR,hM⟩
  have qn:=Qi on
  have gR:=Qg (r':=⟨[.int .i64 x.1.1,.int .i64 x.1.2.1,n.1,n.2.1.1,n.2.1.2,n.2.2.1.1,n.2.2.2.1,n.2.2.2.2.1,n.2.2.2.2.2.1.1,n.2.2.2.2.2.2.1.1,.int .i64 x.2.2.2.2.2.2.2],0,48⟩) bR
  have hF:H.length≤K.length:=by have:=Qt bR;omega
  simp [netVal,Qd,VM.look,bR,qn,gR,hF]
  exact hM
 simp [g0,g1,g2,VM.look,b03,ones,bm3,bc,onem,onec]
 have hok:brkOk x c:=⟨g0,g1,by rw [← hB];exact g2⟩
 have hbr:brk x c=fresh x (x.1.1,x.1.2.1,B) (repair x.1.1 x.1.2.1 B):=by rw [hB];exact if_pos hok
 refine Qf (Pv (frz:=H.length) (oo K3 c3) om3 oc3) ?_
 rintro _ K ⟨n,rfl,on,cn,mn,dn⟩
 obtain ⟨bR,hM⟩:=key _ n K K3 true on c3 cn hl3 b13 mn dn hbr (decide_eq_true hok)
 generalize fresh x (x.1.1,x.1.2.1,B) (repair x.1.1 x.1.2.1 B)=y at *
 have qn:=Qi on
 have gR:=Qg (r':=⟨[.int .i64 y.1.1,.int .i64 y.1.2.1,n.1,n.2.1.1,n.2.1.2,n.2.2.1.1,n.2.2.2.1,n.2.2.2.2.1,n.2.2.2.2.2.1.1,n.2.2.2.2.2.2.1.1,.int .i64 y.2.2.2.2.2.2.2],0,48⟩) bR
 have hF:H.length≤K.length:=by have:=Qt bR;omega
 simp [netVal,Qd,VM.look,bR,qn,gR,hF]
 exact hM
theorem Ef {v:NetV} {x:NetD} {c:Int} (o:dNet.Ow H v x) :
 wp (vcall C frz 68 [dNet.val v x,.int .i64 c] H) (Made2 dNet H (brk x c) (decide (brkOk x c))):=by
 have ones:=Qi o
 have oo:=fun (K:Heap) (ch:Chg H K [])=>Dt.chg (T:=dNet) o ch (by simp)
 have ii:=fun F K (ch:Chg H K [])=>N7 (frz:=F) (H:=K) (v:=v) (x:=x) (oo K ch)
 have ecopy:=fun K (ch:Chg H K [])=>Xg (frz:=H.length) (H:=K) (v:=v) (x:=x) (oo K ch)
 simp only [Qd] at ii ecopy ⊢
 rw [Qb (fn:=Tryz.f68) Tryz.func68 rfl (by kernel_rfl) rfl]
 have key:∀(y:NetD) (n:NetV) (K K0:Heap) (ok:Bool),dNet.Ow K n y→Chg H K0 []→Chg K0 K []→H.length+1<K0.length→K0[H.length+1]? = some ⟨[.int .i64 0,.int .i64 0,.slice none 0 0,.slice none 0 0,.slice none 0 0,.slice none 0 0,.slice none 0 0,.slice none 0 0,.slice none 0 0,.slice none 0 0,.int .i64 0],0,48⟩→(∀i∈dNet.ids n,K0.length≤i)→(dNet.ids n).Nodup→brk x c=y→decide (brkOk x c)=ok→
  K[H.length+1]? = some ⟨[.int .i64 0,.int .i64 0,.slice none 0 0,.slice none 0 0,.slice none 0 0,.slice none 0 0,.slice none 0 0,.slice none 0 0,.slice none 0 0,.slice none 0 0,.int .i64 0],0,48⟩∧Made2 dNet H (brk x c) (decide (brkOk x c)) (.tuple #[dNet.val n y,.bool ok]) (K.set (H.length+1) ⟨[.int .i64 y.1.1,.int .i64 y.1.2.1,n.1,n.2.1.1,n.2.1.2,n.2.2.1.1,n.2.2.2.1,n.2.2.2.2.1,n.2.2.2.2.2.1.1,n.2.2.2.2.2.2.1.1,.int .i64 y.2.2.2.2.2.2.2],0,48⟩):=by
  intro y n K K0 ok on c0 ck hlt hz mn dn e1 e2
  have bR:K[H.length+1]? = some ⟨[.int .i64 0,.int .i64 0,.slice none 0 0,.slice none 0 0,.slice none 0 0,.slice none 0 0,.slice none 0 0,.slice none 0 0,.slice none 0 0,.slice none 0 0,.int .i64 0],0,48⟩:=Qa hz ck (by simp)
  refine ⟨bR,dNet.val n y,by rw [e2],n,by rw [e1],?_,?_,fun i hi=>by have:=mn i hi;omega,dn⟩
  ·rw [e1];exact Dt.chg (T:=dNet) on (Qe _ _) (fun i hi hh=>by have:=mn i hi;simp at hh;omega)
  ·exact (c0.trans ck).trans' (Qe _ _) (fun i hi=>.inr (by simp at hi;omega))
 have fail:¬brkOk x c→brk x c=x∧decide (brkOk x c)=false:=fun hh=>⟨if_neg hh,decide_eq_false hh⟩
 have bad:∀(K0:Heap),Chg H K0 []→H.length+1<K0.length→K0[H.length+1]? = some ⟨[.int .i64 0,.int .i64 0,.slice none 0 0,.slice none 0 0,.slice none 0 0,.slice none 0 0,.slice none 0 0,.slice none 0 0,.slice none 0 0,.slice none 0 0,.int .i64 0],0,48⟩→¬brkOk x c→∀r K,dNet.Made K0 x r K→∃n,r=netVal n x∧dNet.Ow K n x∧K[H.length+1]? = some ⟨[.int .i64 0,.int .i64 0,.slice none 0 0,.slice none 0 0,.slice none 0 0,.slice none 0 0,.slice none 0 0,.slice none 0 0,.slice none 0 0,.slice none 0 0,.int .i64 0],0,48⟩∧Made2 dNet H (brk x c) (decide (brkOk x c)) (.tuple #[dNet.val n x,.bool false]) (K.set (H.length+1) ⟨[.int .i64 x.1.1,.int .i64 x.1.2.1,n.1,n.2.1.1,n.2.1.2,n.2.2.1.1,n.2.2.2.1,n.2.2.2.2.1,n.2.2.2.2.2.1.1,n.2.2.2.2.2.2.1.1,.int .i64 x.2.2.2.2.2.2.2],0,48⟩):=by
  intro K0 c0 hlt hz hb r K hm
  obtain ⟨n,rfl,on,cn,mn,dn⟩:=hm
  obtain ⟨f1,f2⟩:=fail hb
  obtain ⟨k1,k2⟩:=key x n K K0 false on c0 cn hlt hz mn dn f1 f2
  exact ⟨n,rfl,on,k1,k2⟩
 obtain ⟨G,hG⟩:∃G,G=H++[⟨[.int .i64 x.1.1,.int .i64 x.1.2.1,v.1,v.2.1.1,v.2.1.2,v.2.2.1.1,v.2.2.2.1,v.2.2.2.2.1,v.2.2.2.2.2.1.1,v.2.2.2.2.2.2.1.1,.int .i64 x.2.2.2.2.2.2.2],0,48⟩,⟨[.int .i64 0,.int .i64 0,.slice none 0 0,.slice none 0 0,.slice none 0 0,.slice none 0 0,.slice none 0 0,.slice none 0 0,.slice none 0 0,.slice none 0 0,.int .i64 0],0,48⟩]:=⟨_,rfl⟩
 have cG:Chg H G []:=by rw [hG];exact Chg.app _
 have b0:G[H.length]? = some ⟨[.int .i64 x.1.1,.int .i64 x.1.2.1,v.1,v.2.1.1,v.2.1.2,v.2.2.1.1,v.2.2.2.1,v.2.2.2.2.1,v.2.2.2.2.2.1.1,v.2.2.2.2.2.2.1.1,.int .i64 x.2.2.2.2.2.2.2],0,48⟩:=by rw [hG];simp
 have b1:G[H.length+1]? = some ⟨[.int .i64 0,.int .i64 0,.slice none 0 0,.slice none 0 0,.slice none 0 0,.slice none 0 0,.slice none 0 0,.slice none 0 0,.slice none 0 0,.slice none 0 0,.int .i64 0],0,48⟩:=by rw [hG];simp
 have hlG:G.length=H.length+2:=by rw [hG];simp
 simp [ones]
 rw [← hG]
 clear hG
 have ii':=fun F=>ii F G cG
 have ffail:∀K3,Chg G K3 []→¬brkOk x c→wp (vcall C H.length 56 [netVal v x] K3) (fun r K=>∃n,r=netVal n x∧dNet.Ow K n x∧K[H.length+1]? = some ⟨[.int .i64 0,.int .i64 0,.slice none 0 0,.slice none 0 0,.slice none 0 0,.slice none 0 0,.slice none 0 0,.slice none 0 0,.slice none 0 0,.slice none 0 0,.int .i64 0],0,48⟩∧Made2 dNet H (brk x c) (decide (brkOk x c)) (.tuple #[dNet.val n x,.bool false]) (K.set (H.length+1) ⟨[.int .i64 x.1.1,.int .i64 x.1.2.1,n.1,n.2.1.1,n.2.1.2,n.2.2.1.1,n.2.2.2.1,n.2.2.2.2.1,n.2.2.2.2.2.1.1,n.2.2.2.2.2.2.1.1,.int .i64 x.2.2.2.2.2.2.2],0,48⟩)):=fun K3 cG3 hb=>(ecopy K3 (cG.trans cG3)).mono (fun r K hm=>bad K3 (cG.trans cG3) (by have:=cG3.1;omega) (Qa b1 cG3 (by simp)) hb r K hm)
 unfold netVal at ffail
 simp [VM.look,b0,ones,ii']
 by_cases g0:idleOk x
 rotate_left
 ·simp [g0,VM.look,b0,ones]
  refine Qf (ffail G (Chg.refl _) (fun k=>g0 k.1)) ?_
  rintro r K ⟨n,rfl,on,bR,hM⟩
  have qn:=Qi on
  have gR:=Qg (r':=⟨[.int .i64 x.1.1,.int .i64 x.1.2.1,n.1,n.2.1.1,n.2.1.2,n.2.2.1.1,n.2.2.2.1,n.2.2.2.2.1,n.2.2.2.2.2.1.1,n.2.2.2.2.2.2.1.1,.int .i64 x.2.2.2.2.2.2.2],0,48⟩) bR
  have hF:H.length≤K.length:=by have:=Qt bR;omega
  simp [netVal,Qd,VM.look,bR,qn,gR,hF]
  exact hM
 simp [g0,VM.look,b0,ones]
 refine Qf (Nm (c:=c) (oo G cG).1) ?_
 rintro _ K1 ⟨_,rfl,vm,rfl,om,cm,mm,dm⟩
 have c1:Chg H K1 []:=cG.trans cm
 have b01:=Qa b0 cm (by simp)
 have b11:=Qa b1 cm (by simp)
 have hl1:=cm.1
 have onem:=W9 om
 obtain ⟨B,hB⟩:∃B,B=withBroken x.1.1 x.1.2.1 x.1.2.2 c:=⟨_,rfl⟩
 rw [← hB] at om
 have hl1':H.length≤K1.length:=c1.1
 simp [We,onem,VM.look,hl1']
 obtain ⟨K1',hK1⟩:∃K,K=K1++[⟨[.int .i64 x.1.1,.int .i64 x.1.2.1,vm],0,42⟩]:=⟨_,rfl⟩
 have c1':Chg K1 K1' []:=by rw [hK1];exact Chg.app _
 have bm:K1'[K1.length]? = some ⟨[.int .i64 x.1.1,.int .i64 x.1.2.1,vm],0,42⟩:=by rw [hK1];simp
 have b01':=Qa b01 c1' (by simp)
 have om1:=Dt.chg (T:=dMesh) om c1' (by simp)
 rw [← hK1]
 by_cases g1:breakOk x.1.1 x.1.2.1 x.1.2.2 c
 rotate_left
 ·simp [g1,VM.look,b01',ones]
  refine Qf (ffail K1' (cm.trans c1') (fun k=>g1 k.2.1)) ?_
  rintro r K ⟨n,rfl,on,bR,hM⟩
  have qn:=Qi on
  have gR:=Qg (r':=⟨[.int .i64 x.1.1,.int .i64 x.1.2.1,n.1,n.2.1.1,n.2.1.2,n.2.2.1.1,n.2.2.2.1,n.2.2.2.2.1,n.2.2.2.2.2.1.1,n.2.2.2.2.2.2.1.1,.int .i64 x.2.2.2.2.2.2.2],0,48⟩) bR
  have hF:H.length≤K.length:=by have:=Qt bR;omega
  simp [netVal,Qd,VM.look,bR,qn,gR,hF]
  exact hM
 simp [g1,VM.look,bm,onem]
 have hrp:=C4 (frz:=H.length) om1
 refine Qf hrp ?_
 rintro _ K2 ⟨_,rfl,vc,rfl,oc,cc,mc,dc⟩
 have onec:=Q7 oc
 have hl2:H.length≤K2.length:=Nat.le_trans hl1' (Nat.le_trans c1'.1 cc.1)
 simp [Wa,onec,VM.look,hl2]
 obtain ⟨K3,hK3⟩:∃K,K=K2++[⟨[vc.1,vc.2],0,45⟩]:=⟨_,rfl⟩
 have c3':Chg K2 K3 []:=by rw [hK3];exact Chg.app _
 have bc:K3[K2.length]? = some ⟨[vc.1,vc.2],0,45⟩:=by rw [hK3];simp
 rw [← hK3]
 have c13:Chg K1' K3 []:=cc.trans c3'
 have cG3:Chg G K3 []:=(cm.trans c1').trans c13
 have c3:Chg H K3 []:=cG.trans cG3
 have b03:=Qa b0 cG3 (by simp)
 have b13:=Qa b1 cG3 (by simp)
 have bm3:=Qa bm c13 (by simp)
 have om3:=Dt.chg (T:=dMesh) om1 c13 (by simp)
 have oc3:=Dt.chg (T:=dClasses) oc c3' (by simp)
 have hl3:H.length+1<K3.length:=Qt b13
 by_cases g2:repairOk x.1.1 x.1.2.1 B=true
 rotate_left
 ·simp [g2,VM.look,b03,ones]
  refine Qf (ffail K3 cG3 (fun k=>g2 (by rw [hB];exact k.2.2))) ?_
  rintro r K ⟨n,rfl,on,bR,hM⟩
  have qn:=Qi on
  have gR:=Qg (r':=⟨[.int .i64 x.1.1,.int .i64 x.1.2.1,n.1,n.2.1.1,n.2.1.2,n.2.2.1.1,n.2.2.2.1,n.2.2.2.2.1,n.2.2.2.2.2.1.1,n.2.2.2.2.2.2.1.1,.int .i64 x.2.2.2.2.2.2.2],0,48⟩) bR
  have hF:H.length≤K.length:=by have:=Qt bR;omega
  simp [netVal,Qd,VM.look,bR,qn,gR,hF]
  exact hM
 simp [g2,VM.look,b03,ones,bm3,bc,onem,onec]
 have hok:brkOk x c:=⟨g0,g1,by rw [← hB];exact g2⟩
 have hbr:brk x c=fresh x (x.1.1,x.1.2.1,B) (repair x.1.1 x.1.2.1 B):=by rw [hB];exact if_pos hok
 refine Qf (Ok (frz:=H.length) (oo K3 c3) om3 oc3) ?_
 rintro _ K ⟨n,rfl,on,cn,mn,dn⟩
 obtain ⟨bR,hM⟩:=key _ n K K3 true on c3 cn hl3 b13 mn dn hbr (decide_eq_true hok)
 generalize fresh x (x.1.1,x.1.2.1,B) (repair x.1.1 x.1.2.1 B)=y at *
 have qn:=Qi on
 have gR:=Qg (r':=⟨[.int .i64 y.1.1,.int .i64 y.1.2.1,n.1,n.2.1.1,n.2.1.2,n.2.2.1.1,n.2.2.2.1,n.2.2.2.2.1,n.2.2.2.2.2.1.1,n.2.2.2.2.2.2.1.1,.int .i64 y.2.2.2.2.2.2.2],0,48⟩) bR
 have hF:H.length≤K.length:=by have:=Qt bR;omega
 simp [netVal,Qd,VM.look,bR,qn,gR,hF]
 exact hM
def replOk (x:NetD) (t:ClassesD):Prop:=idleOk x∧classesOk x.1.1 x.1.2.1 x.1.2.2 t.1 t.2
instance (x:NetD) (t:ClassesD):Decidable (replOk x t):=inferInstanceAs (Decidable (_∧_))
def repl (x:NetD) (t:ClassesD):NetD:=if replOk x t then fresh x x.1 t else x
theorem Cp {v:NetV} {x:NetD} {vc:Value×Value} {t:ClassesD} (o:dNet.Ow H v x) (oc:dClasses.Ow H vc t) :
 wp (vcall C frz 184 [dNet.val v x,dClasses.val vc t] H) (Made2 dNet H (repl x t) (decide (replOk x t))):=by
 have ones:=Qi o
 have onec:=Q7 oc
 have ii:=fun F L=>Kk (frz:=F) (H:=H++L) (v:=v) (x:=x) (Dt.app (T:=dNet) o)
 have ck:=fun F L=>S1 (frz:=F) (H:=H++L) x.1.1 x.1.2.1 v.1 vc.1 vc.2 x.1.2.2 t.1 t.2 (Rd.isI o.1.1.rd.app) (Rd.isI oc.1.1.rd.app) (Rd.isI oc.2.1.rd.app) o.1.2
 have ecopy:=fun L=>Yp (frz:=H.length) (H:=H++L) (v:=v) (x:=x) (Dt.app (T:=dNet) o)
 have efresh:=fun L=>Pv (frz:=H.length) (H:=H++L) (v:=v) (x:=x) (vm:=v.1) (w':=x.1.1) (h':=x.1.2.1) (b':=x.1.2.2) (vc:=vc) (c':=t) (Dt.app (T:=dNet) o) (Dt.app (T:=dMesh) o.1) (Dt.app (T:=dClasses) oc)
 simp only [Qd,Wa] at ii ecopy efresh ⊢
 rw [Qb (fn:=Tryz.f184) Tryz.func184 rfl (by kernel_rfl) rfl]
 have hF:H.length≤H.length+2:=by omega
 have key:∀(y:NetD) (n:NetV) (K:Heap) (ok:Bool),dNet.Ow K n y→Chg (H++[⟨[.int .i64 x.1.1,.int .i64 x.1.2.1,v.1,v.2.1.1,v.2.1.2,v.2.2.1.1,v.2.2.2.1,v.2.2.2.2.1,v.2.2.2.2.2.1.1,v.2.2.2.2.2.2.1.1,.int .i64 x.2.2.2.2.2.2.2],0,48⟩,⟨[vc.1,vc.2],0,45⟩,⟨[.int .i64 0,.int .i64 0,.slice none 0 0,.slice none 0 0,.slice none 0 0,.slice none 0 0,.slice none 0 0,.slice none 0 0,.slice none 0 0,.slice none 0 0,.int .i64 0],0,48⟩]) K []→(∀i∈dNet.ids n,H.length+3≤i)→(dNet.ids n).Nodup→repl x t=y→decide (replOk x t)=ok→
  K[H.length+2]? = some ⟨[.int .i64 0,.int .i64 0,.slice none 0 0,.slice none 0 0,.slice none 0 0,.slice none 0 0,.slice none 0 0,.slice none 0 0,.slice none 0 0,.slice none 0 0,.int .i64 0],0,48⟩∧Made2 dNet H (repl x t) (decide (replOk x t)) (.tuple #[dNet.val n y,.bool ok]) (K.set (H.length+2) ⟨[.int .i64 y.1.1,.int .i64 y.1.2.1,n.1,n.2.1.1,n.2.1.2,n.2.2.1.1,n.2.2.2.1,n.2.2.2.2.1,n.2.2.2.2.2.1.1,n.2.2.2.2.2.2.1.1,.int .i64 y.2.2.2.2.2.2.2],0,48⟩):=by
  intro y n K ok on ck mn dn e1 e2
  have bR:K[H.length+2]? = some ⟨[.int .i64 0,.int .i64 0,.slice none 0 0,.slice none 0 0,.slice none 0 0,.slice none 0 0,.slice none 0 0,.slice none 0 0,.slice none 0 0,.slice none 0 0,.int .i64 0],0,48⟩:=Qa (by simp) ck (by simp)
  refine ⟨bR,dNet.val n y,by rw [e2],n,by rw [e1],?_,?_,fun i hi=>by have:=mn i hi;omega,dn⟩
  ·rw [e1];exact Dt.chg (T:=dNet) on (Qe _ _) (fun i hi hh=>by have:=mn i hi;simp at hh;omega)
  ·exact ((Chg.app []).trans ck).trans' (Qe _ _) (fun i hi=>.inr (by simp at hi;omega))
 have fail:¬replOk x t→repl x t=x∧decide (replOk x t)=false:=fun hh=>⟨if_neg hh,decide_eq_false hh⟩
 simp [ones,onec,ii]
 by_cases g1:idleOk x
 rotate_left
 ·simp [g1,ones,onec]
  refine Qf (ecopy _) ?_
  rintro _ K ⟨n,rfl,on,cn,mn,dn⟩
  obtain ⟨f1,f2⟩:=fail (fun k=>g1 k.1)
  simp at mn
  obtain ⟨bR,hm⟩:=key x n K false on cn mn dn f1 f2
  have qn:=Qi on
  have gR:=Qg (r':=⟨[.int .i64 x.1.1,.int .i64 x.1.2.1,n.1,n.2.1.1,n.2.1.2,n.2.2.1.1,n.2.2.2.1,n.2.2.2.2.1,n.2.2.2.2.2.1.1,n.2.2.2.2.2.2.1.1,.int .i64 x.2.2.2.2.2.2.2],0,48⟩) bR
  simp [Qd,VM.look,bR,qn,gR,hF]
  exact hm
 simp [g1,ones,onec,ck]
 by_cases g2:classesOk x.1.1 x.1.2.1 x.1.2.2 t.1 t.2
 rotate_left
 ·simp [g2,ones,onec]
  refine Qf (ecopy _) ?_
  rintro _ K ⟨n,rfl,on,cn,mn,dn⟩
  obtain ⟨f1,f2⟩:=fail (fun k=>g2 k.2)
  simp at mn
  obtain ⟨bR,hm⟩:=key x n K false on cn mn dn f1 f2
  have qn:=Qi on
  have gR:=Qg (r':=⟨[.int .i64 x.1.1,.int .i64 x.1.2.1,n.1,n.2.1.1,n.2.1.2,n.2.2.1.1,n.2.2.2.1,n.2.2.2.2.1,n.2.2.2.2.2.1.1,n.2.2.2.2.2.2.1.1,.int .i64 x.2.2.2.2.2.2.2],0,48⟩) bR
  simp [Qd,VM.look,bR,qn,gR,hF]
  exact hm
 simp [g2,ones,onec]
 refine Qf (efresh _) ?_
 rintro _ K ⟨n,rfl,on,cn,mn,dn⟩
 simp at mn
 have e1:repl x t=fresh x (x.1.1,x.1.2.1,x.1.2.2) t:=if_pos ⟨g1,g2⟩
 obtain ⟨bR,hm⟩:=key _ n K true on cn mn dn e1 (decide_eq_true ⟨g1,g2⟩)
 have qn:=Qi on
 have gR:=Qg (r':=⟨[.int .i64 (fresh x (x.1.1,x.1.2.1,x.1.2.2) t).1.1,.int .i64 (fresh x (x.1.1,x.1.2.1,x.1.2.2) t).1.2.1,n.1,n.2.1.1,n.2.1.2,n.2.2.1.1,n.2.2.2.1,n.2.2.2.2.1,n.2.2.2.2.2.1.1,n.2.2.2.2.2.2.1.1,.int .i64 (fresh x (x.1.1,x.1.2.1,x.1.2.2) t).2.2.2.2.2.2.2],0,48⟩) bR
 simp [Qd,VM.look,bR,qn,gR,hF]
 exact hm
theorem Fv {v:NetV} {x:NetD} {vc:Value×Value} {t:ClassesD} (o:dNet.Ow H v x) (oc:dClasses.Ow H vc t) :
 wp (vcall C frz 69 [dNet.val v x,dClasses.val vc t] H) (Made2 dNet H (repl x t) (decide (replOk x t))):=by
 have ones:=Qi o
 have onec:=Q7 oc
 have ii:=fun F L=>N7 (frz:=F) (H:=H++L) (v:=v) (x:=x) (Dt.app (T:=dNet) o)
 have ck:=fun F L=>Tk (frz:=F) (H:=H++L) x.1.1 x.1.2.1 v.1 vc.1 vc.2 x.1.2.2 t.1 t.2 (Rd.isI o.1.1.rd.app) (Rd.isI oc.1.1.rd.app) (Rd.isI oc.2.1.rd.app) o.1.2
 have ecopy:=fun L=>Xg (frz:=H.length) (H:=H++L) (v:=v) (x:=x) (Dt.app (T:=dNet) o)
 have efresh:=fun L=>Ok (frz:=H.length) (H:=H++L) (v:=v) (x:=x) (vm:=v.1) (w':=x.1.1) (h':=x.1.2.1) (b':=x.1.2.2) (vc:=vc) (c':=t) (Dt.app (T:=dNet) o) (Dt.app (T:=dMesh) o.1) (Dt.app (T:=dClasses) oc)
 simp only [Qd,Wa] at ii ecopy efresh ⊢
 rw [Qb (fn:=Tryz.f69) Tryz.func69 rfl (by kernel_rfl) rfl]
 have hF:H.length≤H.length+2:=by omega
 have key:∀(y:NetD) (n:NetV) (K:Heap) (ok:Bool),dNet.Ow K n y→Chg (H++[⟨[.int .i64 x.1.1,.int .i64 x.1.2.1,v.1,v.2.1.1,v.2.1.2,v.2.2.1.1,v.2.2.2.1,v.2.2.2.2.1,v.2.2.2.2.2.1.1,v.2.2.2.2.2.2.1.1,.int .i64 x.2.2.2.2.2.2.2],0,48⟩,⟨[vc.1,vc.2],0,45⟩,⟨[.int .i64 0,.int .i64 0,.slice none 0 0,.slice none 0 0,.slice none 0 0,.slice none 0 0,.slice none 0 0,.slice none 0 0,.slice none 0 0,.slice none 0 0,.int .i64 0],0,48⟩]) K []→(∀i∈dNet.ids n,H.length+3≤i)→(dNet.ids n).Nodup→repl x t=y→decide (replOk x t)=ok→
  K[H.length+2]? = some ⟨[.int .i64 0,.int .i64 0,.slice none 0 0,.slice none 0 0,.slice none 0 0,.slice none 0 0,.slice none 0 0,.slice none 0 0,.slice none 0 0,.slice none 0 0,.int .i64 0],0,48⟩∧Made2 dNet H (repl x t) (decide (replOk x t)) (.tuple #[dNet.val n y,.bool ok]) (K.set (H.length+2) ⟨[.int .i64 y.1.1,.int .i64 y.1.2.1,n.1,n.2.1.1,n.2.1.2,n.2.2.1.1,n.2.2.2.1,n.2.2.2.2.1,n.2.2.2.2.2.1.1,n.2.2.2.2.2.2.1.1,.int .i64 y.2.2.2.2.2.2.2],0,48⟩):=by
  intro y n K ok on ck mn dn e1 e2
  have bR:K[H.length+2]? = some ⟨[.int .i64 0,.int .i64 0,.slice none 0 0,.slice none 0 0,.slice none 0 0,.slice none 0 0,.slice none 0 0,.slice none 0 0,.slice none 0 0,.slice none 0 0,.int .i64 0],0,48⟩:=Qa (by simp) ck (by simp)
  refine ⟨bR,dNet.val n y,by rw [e2],n,by rw [e1],?_,?_,fun i hi=>by have:=mn i hi;omega,dn⟩
  ·rw [e1];exact Dt.chg (T:=dNet) on (Qe _ _) (fun i hi hh=>by have:=mn i hi;simp at hh;omega)
  ·exact ((Chg.app []).trans ck).trans' (Qe _ _) (fun i hi=>.inr (by simp at hi;omega))
 have fail:¬replOk x t→repl x t=x∧decide (replOk x t)=false:=fun hh=>⟨if_neg hh,decide_eq_false hh⟩
 simp [ones,onec,ii]
 by_cases g1:idleOk x
 rotate_left
 ·simp [g1,ones,onec]
  refine Qf (ecopy _) ?_
  rintro _ K ⟨n,rfl,on,cn,mn,dn⟩
  obtain ⟨f1,f2⟩:=fail (fun k=>g1 k.1)
  simp at mn
  obtain ⟨bR,hm⟩:=key x n K false on cn mn dn f1 f2
  have qn:=Qi on
  have gR:=Qg (r':=⟨[.int .i64 x.1.1,.int .i64 x.1.2.1,n.1,n.2.1.1,n.2.1.2,n.2.2.1.1,n.2.2.2.1,n.2.2.2.2.1,n.2.2.2.2.2.1.1,n.2.2.2.2.2.2.1.1,.int .i64 x.2.2.2.2.2.2.2],0,48⟩) bR
  simp [Qd,VM.look,bR,qn,gR,hF]
  exact hm
 simp [g1,ones,onec,ck]
 by_cases g2:classesOk x.1.1 x.1.2.1 x.1.2.2 t.1 t.2
 rotate_left
 ·simp [g2,ones,onec]
  refine Qf (ecopy _) ?_
  rintro _ K ⟨n,rfl,on,cn,mn,dn⟩
  obtain ⟨f1,f2⟩:=fail (fun k=>g2 k.2)
  simp at mn
  obtain ⟨bR,hm⟩:=key x n K false on cn mn dn f1 f2
  have qn:=Qi on
  have gR:=Qg (r':=⟨[.int .i64 x.1.1,.int .i64 x.1.2.1,n.1,n.2.1.1,n.2.1.2,n.2.2.1.1,n.2.2.2.1,n.2.2.2.2.1,n.2.2.2.2.2.1.1,n.2.2.2.2.2.2.1.1,.int .i64 x.2.2.2.2.2.2.2],0,48⟩) bR
  simp [Qd,VM.look,bR,qn,gR,hF]
  exact hm
 simp [g2,ones,onec]
 refine Qf (efresh _) ?_
 rintro _ K ⟨n,rfl,on,cn,mn,dn⟩
 simp at mn
 have e1:repl x t=fresh x (x.1.1,x.1.2.1,x.1.2.2) t:=if_pos ⟨g1,g2⟩
 obtain ⟨bR,hm⟩:=key _ n K true on cn mn dn e1 (decide_eq_true ⟨g1,g2⟩)
 have qn:=Qi on
 have gR:=Qg (r':=⟨[.int .i64 (fresh x (x.1.1,x.1.2.1,x.1.2.2) t).1.1,.int .i64 (fresh x (x.1.1,x.1.2.1,x.1.2.2) t).1.2.1,n.1,n.2.1.1,n.2.1.2,n.2.2.1.1,n.2.2.2.1,n.2.2.2.2.1,n.2.2.2.2.2.1.1,n.2.2.2.2.2.2.1.1,.int .i64 (fresh x (x.1.1,x.1.2.1,x.1.2.2) t).2.2.2.2.2.2.2],0,48⟩) bR
 simp [Qd,VM.look,bR,qn,gR,hF]
 exact hm
def sendsOk (a:ChipD) (p:PkD):Prop:=chipOk a∧a.2.length≠200∧sendOk a.1 p
instance (a:ChipD) (p:PkD):Decidable (sendsOk a p):=inferInstanceAs (Decidable (_∧_))
def nextP (a:ChipD) (q2 q3 q4 q5:Int):PkD:=((a.2.length:Int)+1,q2,q3,q4,q5)
def chipSend (a:ChipD) (q2 q3 q4 q5:Int):ChipD:=if sendsOk a (nextP a q2 q3 q4 q5) then (sendNet a.1 (nextP a q2 q3 q4 q5),a.2++[nextP a q2 q3 q4 q5]) else a
theorem U8 {K:Heap} {n:ChipV} {y:ChipD} {ok:Bool} {id:Nat} {r:Row} {a:ChipD} {q2 q3 q4 q5:Int} (hid:id=H.length+1) (o:dChip.Ow K n y) (c:Chg H K []) (m:∀i∈dChip.ids n,H.length+2≤i) (d:(dChip.ids n).Nodup) (e1:chipSend a q2 q3 q4 q5=y) (e2:decide (sendsOk a (nextP a q2 q3 q4 q5))=ok) :
 Made2 dChip H (chipSend a q2 q3 q4 q5) (decide (sendsOk a (nextP a q2 q3 q4 q5))) (.tuple #[dChip.val n y,.bool ok]) (K.set id r):=by
 subst hid
 refine ⟨dChip.val n y,by rw [e2],n,by rw [e1],?_,c.trans' (Qe _ _) (fun i hi=>.inr (by simp at hi;omega)),fun i hi=>by have:=m i hi;omega,d⟩
 rw [e1];exact Dt.chg (T:=dChip) o (Qe _ _) (fun i hi hh=>by have:=m i hi;simp at hh;omega)
theorem Fs {v:ChipV} {a:ChipD} {q2 q3 q4 q5:Int} (o:dChip.Ow H v a) :
 wp (vcall C frz 140 [dChip.val v a,.int .i64 q2,.int .i64 q3,.int .i64 q4,.int .i64 q5] H) (Made2 dChip H (chipSend a q2 q3 q4 q5) (decide (sendsOk a (nextP a q2 q3 q4 q5)))):=by
 have oneA:=Qp o
 have ones:=oneA.1
 have one2:=oneA.2
 have ecopy:=fun K (c:Chg H K [])=>Z5 (frz:=H.length) (H:=K) (v:=v) (a:=a) (Dt.chg (T:=dChip) o c (by simp))
 have ck:=fun F K (c:Chg H K [])=>Ul (frz:=F) (H:=K) (v:=v) (a:=a) (Dt.chg (T:=dChip) o c (by simp))
 have esend:=fun (K:Heap) id nv tail hr on nd hf hid hN hs=>Qde (frz:=H.length) (H:=K) (v:=nv) (x:=a.1) (p:=nextP a q2 q3 q4 q5) (id:=id) (e:=51) (tail:=tail) hr on nd hf hid hN hs
 have hlen:=o.2.2
 have e0:=@w6 ((a.2.length:Int)+1) (by omega)
 unfold pkV nextP at esend
 simp only at esend
 simp only [Qh] at ecopy ck ⊢
 rw [Qb (fn:=Tryz.f140) Tryz.func140 rfl (by kernel_rfl) rfl]
 obtain ⟨G,hG⟩:∃G,G=H++[⟨[.int .i64 a.1.1.1,.int .i64 a.1.1.2.1,v.1.1,v.1.2.1.1,v.1.2.1.2,v.1.2.2.1.1,v.1.2.2.2.1,v.1.2.2.2.2.1,v.1.2.2.2.2.2.1.1,v.1.2.2.2.2.2.2.1.1,.int .i64 a.1.2.2.2.2.2.2.2,v.2],0,51⟩,⟨[.int .i64 0,.int .i64 0,.slice none 0 0,.slice none 0 0,.slice none 0 0,.slice none 0 0,.slice none 0 0,.slice none 0 0,.slice none 0 0,.slice none 0 0,.int .i64 0,.slice none 0 0],0,51⟩]:=⟨_,rfl⟩
 have cG:Chg H G []:=by rw [hG];exact Chg.app _
 have b0:G[H.length]? = some ⟨[.int .i64 a.1.1.1,.int .i64 a.1.1.2.1,v.1.1,v.1.2.1.1,v.1.2.1.2,v.1.2.2.1.1,v.1.2.2.2.1,v.1.2.2.2.2.1,v.1.2.2.2.2.2.1.1,v.1.2.2.2.2.2.2.1.1,.int .i64 a.1.2.2.2.2.2.2.2,v.2],0,51⟩:=by rw [hG];simp
 have bR:G[H.length+1]? = some ⟨[.int .i64 0,.int .i64 0,.slice none 0 0,.slice none 0 0,.slice none 0 0,.slice none 0 0,.slice none 0 0,.slice none 0 0,.slice none 0 0,.slice none 0 0,.int .i64 0,.slice none 0 0],0,51⟩:=by rw [hG];simp
 have lG:G.length=H.length+2:=by rw [hG];simp
 simp [ones,one2]
 rw [← hG]
 clear hG
 have liv:=fun K (c:Chg H K [])=>Wj (o.2.1.chg c (by simp))
 have lp:=fun K (c:Chg H K [])=>(o.2.1.rd.chg c (by simp)).len (P:=Tryz.prog) (ty:=49) (by simp)
 rw [Xz (fl:=([3],[14])) (h:=⟨by kernel_rfl,by kernel_rfl,by kernel_rfl,by kernel_rfl⟩)]
 simp [emps,empOp,empB,VM.look,b0,ones,one2]
 refine Dk (ecopy G cG) ?_
 rintro _ K ⟨n,rfl,on,cn,mn,dn⟩
 refine ⟨by simp,?_⟩
 have cK:Chg H K []:=cG.trans cn
 have b0:=Qa b0 cn (by simp)
 have bR:=Qa bR cn (by simp)
 have oneN:=Qp on
 have qn:=oneN.1
 have qn2:=oneN.2
 have livK:=liv K cK
 have lpK:=lp K cK
 have lK:=cn.1
 have hFK:H.length≤K.length:=by omega
 have hFK1:H.length≤K.length+1:=by omega
 have bA:=fun L=>Ql b0 L
 have livA:=fun L=>liv (K++L) (cK.trans (Chg.app _))
 simp [Qh,emps,empOp,empB,VM.look,b0,bA,ones,one2,qn,qn2,livK,livA,lpK,e0,hFK,hFK1,List.set_append]
 obtain ⟨K2,hK2⟩:∃K2,K2=K++[⟨[.int .i64 a.1.1.1,.int .i64 a.1.1.2.1,n.1.1,n.1.2.1.1,n.1.2.1.2,n.1.2.2.1.1,n.1.2.2.2.1,n.1.2.2.2.2.1,n.1.2.2.2.2.2.1.1,n.1.2.2.2.2.2.2.1.1,.int .i64 a.1.2.2.2.2.2.2.2,n.2],0,51⟩,⟨[.int .i64 (a.2.length+1:Int),.int .i64 q2,.int .i64 q3,.int .i64 q4,.int .i64 q5],0,104⟩]:=⟨_,rfl⟩
 have e2:K++[⟨[.int .i64 a.1.1.1,.int .i64 a.1.1.2.1,n.1.1,n.1.2.1.1,n.1.2.1.2,n.1.2.2.1.1,n.1.2.2.2.1,n.1.2.2.2.2.1,n.1.2.2.2.2.2.1.1,n.1.2.2.2.2.2.2.1.1,.int .i64 a.1.2.2.2.2.2.2.2,n.2],0,51⟩,⟨[.int .i64 (a.2.length+1:Int),.int .i64 q2,.int .i64 q3,.int .i64 q4,.int .i64 q5],0,104⟩]=K2:=hK2.symm
 rw [e2]
 have c12:Chg K K2 []:=by rw [hK2];exact Chg.app _
 have cK2:=cK.trans c12
 have l2:K2.length=K.length+2:=by rw [hK2];simp
 have b0:=Qa b0 c12 (by simp)
 have bR:=Qa bR c12 (by simp)
 have bC:K2[K.length]? = some ⟨[.int .i64 a.1.1.1,.int .i64 a.1.1.2.1,n.1.1,n.1.2.1.1,n.1.2.1.2,n.1.2.2.1.1,n.1.2.2.2.1,n.1.2.2.2.2.1,n.1.2.2.2.2.2.1.1,n.1.2.2.2.2.2.2.1.1,.int .i64 a.1.2.2.2.2.2.2.2,n.2],0,51⟩:=by rw [hK2];simp
 have bP:K2[K.length+1]? = some ⟨[.int .i64 (a.2.length+1:Int),.int .i64 q2,.int .i64 q3,.int .i64 q4,.int .i64 q5],0,104⟩:=by rw [hK2];simp
 have on2:=Dt.chg (T:=dChip) on c12 (by simp)
 clear hK2 e2
 have hF:H.length≤H.length+1:=by omega
 have ff:∀K3,Chg H K3 []→K3[H.length+1]? = some ⟨[.int .i64 0,.int .i64 0,.slice none 0 0,.slice none 0 0,.slice none 0 0,.slice none 0 0,.slice none 0 0,.slice none 0 0,.slice none 0 0,.slice none 0 0,.int .i64 0,.slice none 0 0],0,51⟩→¬sendsOk a (nextP a q2 q3 q4 q5)→wp (vcall C H.length 34 [.agg #[.int .i64 a.1.1.1,.int .i64 a.1.1.2.1,v.1.1,v.1.2.1.1,v.1.2.1.2,v.1.2.2.1.1,v.1.2.2.2.1,v.1.2.2.2.2.1,v.1.2.2.2.2.2.1.1,v.1.2.2.2.2.2.2.1.1,.int .i64 a.1.2.2.2.2.2.2.2,v.2]] K3) (fun r K=>∃n:ChipV,r=dChip.val n a∧dChip.Ow K n a∧K[H.length+1]? = some ⟨[.int .i64 0,.int .i64 0,.slice none 0 0,.slice none 0 0,.slice none 0 0,.slice none 0 0,.slice none 0 0,.slice none 0 0,.slice none 0 0,.slice none 0 0,.int .i64 0,.slice none 0 0],0,51⟩∧Made2 dChip H (chipSend a q2 q3 q4 q5) (decide (sendsOk a (nextP a q2 q3 q4 q5))) (.tuple #[dChip.val n a,.bool false]) (K.set (H.length+1) ⟨[.int .i64 a.1.1.1,.int .i64 a.1.1.2.1,n.1.1,n.1.2.1.1,n.1.2.1.2,n.1.2.2.1.1,n.1.2.2.2.1,n.1.2.2.2.2.1,n.1.2.2.2.2.2.1.1,n.1.2.2.2.2.2.2.1.1,.int .i64 a.1.2.2.2.2.2.2.2,n.2],0,51⟩)):=by
  intro K3 c3 b3 hb
  refine (ecopy K3 c3).mono ?_
  rintro _ K ⟨n,rfl,on,cn,mn,dn⟩
  have h9:=Qt b3
  exact ⟨n,rfl,on,Qa b3 cn (by simp),U8 rfl on (c3.trans cn) (fun i hi=>by have:=mn i hi;omega) dn (if_neg hb) (decide_eq_false hb)⟩
 have ck':=fun F=>ck F K2 cK2
 have lp2:=lp K2 cK2
 by_cases g0:chipOk a
 rotate_left
 ·have hb:¬sendsOk a (nextP a q2 q3 q4 q5):=fun k=>g0 k.1
  simp [VM.look,b0,ones,one2,ck',g0]
  refine Qf (ff K2 cK2 bR hb) ?_
  rintro _ K4 ⟨n4,rfl,on4,b4,hM⟩
  have q4a:=Qp on4
  have gR:=Qg (r':=⟨[.int .i64 a.1.1.1,.int .i64 a.1.1.2.1,n4.1.1,n4.1.2.1.1,n4.1.2.1.2,n4.1.2.2.1.1,n4.1.2.2.2.1,n4.1.2.2.2.2.1,n4.1.2.2.2.2.2.1.1,n4.1.2.2.2.2.2.2.1.1,.int .i64 a.1.2.2.2.2.2.2.2,n4.2],0,51⟩) b4
  simp [Qh,q4a,VM.look,b4,gR,hF]
  simpa [hb,Qh] using hM
 by_cases g1:a.2.length=200
 ·have hb:¬sendsOk a (nextP a q2 q3 q4 q5):=fun k=>k.2.1 g1
  have g1':((a.2.length:Int))=200:=by omega
  simp [VM.look,b0,ones,one2,ck',g0,lp2,g1,g1']
  refine Qf (ff K2 cK2 bR hb) ?_
  rintro _ K4 ⟨n4,rfl,on4,b4,hM⟩
  have q4a:=Qp on4
  have gR:=Qg (r':=⟨[.int .i64 a.1.1.1,.int .i64 a.1.1.2.1,n4.1.1,n4.1.2.1.1,n4.1.2.1.2,n4.1.2.2.1.1,n4.1.2.2.2.1,n4.1.2.2.2.2.1,n4.1.2.2.2.2.2.1.1,n4.1.2.2.2.2.2.2.1.1,.int .i64 a.1.2.2.2.2.2.2.2,n4.2],0,51⟩) b4
  simp [Qh,q4a,VM.look,b4,gR,hF]
  simpa [hb,Qh] using hM
 have g1':¬((a.2.length:Int))=200:=by omega
 simp [VM.look,b0,bC,bP,ones,one2,ck',g0,lp2,g1,g1']
 have hd:=List.nodup_append.1 dn
 have hm1:∀i∈dNet.ids n.1,H.length+2≤i:=fun i hi=>by have:=mn i (List.mem_append_left _ hi);omega
 have hm2:∀i∈VM.ids n.2,H.length+2≤i:=fun i hi=>by have:=mn i (List.mem_append_right _ hi);omega
 have hl1:∀i∈dNet.ids n.1,i<K.length:=fun i hi=>dNet.lt on.1 i hi
 have hl2:∀i∈VM.ids n.2,i<K.length:=fun i hi=>dPk.lt on.2 i hi
 refine Qf (esend K2 K.length n.1 [n.2] bC on2.1 hd.1 (fun i hi=>by have:=hm1 i hi;omega) (fun hh=>by have:=hl1 _ hh;omega) g0.1.2.1.2.2.2.1 (fun l hl=>(g0.1.2.2.2.1 l hl).1)) ?_
 rintro _ K3 ⟨rfl,hps⟩
 by_cases g2:sendOk a.1 (nextP a q2 q3 q4 q5)
 rotate_left
 ·have hb:¬sendsOk a (nextP a q2 q3 q4 q5):=fun k=>g2 k.2.2
  have g2':¬sendOk a.1 ((a.2.length:Int)+1,q2,q3,q4,q5):=g2
  rw [if_neg g2'] at hps
  have b0:=Qa b0 hps (by simp)
  have bR:=Qa bR hps (by simp)
  simp [g2',VM.look,b0,ones,one2]
  refine Qf (ff K3 (cK2.trans hps) bR hb) ?_
  rintro _ K4 ⟨n4,rfl,on4,b4,hM⟩
  have q4a:=Qp on4
  have gR:=Qg (r':=⟨[.int .i64 a.1.1.1,.int .i64 a.1.1.2.1,n4.1.1,n4.1.2.1.1,n4.1.2.1.2,n4.1.2.2.1.1,n4.1.2.2.2.1,n4.1.2.2.2.2.1,n4.1.2.2.2.2.2.1.1,n4.1.2.2.2.2.2.2.1.1,.int .i64 a.1.2.2.2.2.2.2.2,n4.2],0,51⟩) b4
  simp [Qh,q4a,VM.look,b4,gR,hF]
  simpa [hb,Qh] using hM
 have g2':sendOk a.1 ((a.2.length:Int)+1,q2,q3,q4,q5):=g2
 rw [if_pos g2'] at hps
 obtain ⟨hs',o3,d3,i3,c3⟩:=hps
 have hso:sendsOk a (nextP a q2 q3 q4 q5):=⟨g0,g1,g2⟩
 have insrc:=Yr (n:=n.1)
 have bR:=Qa bR c3 (fun hh=>by have:=hm1 _ (insrc _ hh);omega)
 have bC:=Qa bC c3 (fun hh=>by have:=hl1 _ (insrc _ hh);omega)
 have bP:=Qa bP c3 (fun hh=>by have:=hl1 _ (insrc _ hh);omega)
 have op3:=Dt.chg (T:=dPk) on2.2 c3 (fun i hi hh=>hd.2.2 i (insrc _ hh) i hi rfl)
 obtain ⟨r',K4,hap,o4,c4,n4⟩:=op3.1.push (P:=Tryz.prog) (frz:=H.length) (ty:=49) (a:=((a.2.length:Int)+1,q2,q3,q4,q5)) (by simp) rfl (by have:=g0.2.1;omega) (fun i hi=>by have:=hm2 i hi;omega)
 simp only [X0] at hap
 have bR4:=Qa bR c4 (fun hh=>by have:=hm2 _ hh;omega)
 have bC4:=Qa bC c4 (fun hh=>by have:=hl2 _ hh;omega)
 have l3:=c3.1
 have bC3:=fun L=>Ql bC L
 have bP3:=fun L=>Ql bP L
 have qr:=And.intro o4.rd.one' o4.rd.cells
 have gC:=Qg (r':=⟨[.int .i64 a.1.1.1,.int .i64 a.1.1.2.1,n.1.1,n.1.2.1.1,n.1.2.1.2,n.1.2.2.1.1,n.1.2.2.2.1,n.1.2.2.2.2.1,n.1.2.2.2.2.2.1.1,n.1.2.2.2.2.2.2.1.1,.int .i64 a.1.2.2.2.2.2.2.2,r'],0,51⟩) bC4
 have eC:Chg K4 (K4.set K.length ⟨[.int .i64 a.1.1.1,.int .i64 a.1.1.2.1,n.1.1,n.1.2.1.1,n.1.2.1.2,n.1.2.2.1.1,n.1.2.2.2.1,n.1.2.2.2.2.1,n.1.2.2.2.2.2.1.1,n.1.2.2.2.2.2.2.1.1,.int .i64 a.1.2.2.2.2.2.2.2,r'],0,51⟩) [K.length]:=Qe _ _
 have bR5:=Qa bR4 eC (by simp;omega)
 have gR:=Qg (r':=⟨[.int .i64 a.1.1.1,.int .i64 a.1.1.2.1,n.1.1,n.1.2.1.1,n.1.2.1.2,n.1.2.2.1.1,n.1.2.2.2.1,n.1.2.2.2.2.1,n.1.2.2.2.2.2.1.1,n.1.2.2.2.2.2.2.1.1,.int .i64 a.1.2.2.2.2.2.2.2,r'],0,51⟩) bR5
 have hFK:H.length≤K.length:=by omega
 simp [-Qn,-Qv,g2',VM.look,bC,bC3,bP,bP3,hap,bC4,qr,qn,gC,bR5,gR,hF,hFK]
 have hp1:∀i∈dNet.ids (putSrc n.1 (n.1.2.2.2.2.2.1.1,hs')),H.length+2≤i∧i∉VM.ids n.2∧i≠K.length∧i<K3.length:=fun i hi=>by
  have h9:=dNet.lt o3 i hi
  rcases i3 i hi with g|g
  ·exact ⟨hm1 i g,fun hh=>hd.2.2 i g i hh rfl,by have:=hl1 i g;omega,h9⟩
  ·exact ⟨by omega,fun hh=>by have:=hl2 i hh;omega,by omega,h9⟩
 have hp2:∀i∈VM.ids r',(i∈VM.ids n.2∨K3.length≤i)∧i≠K.length∧H.length+2≤i:=fun i hi=>by
  rcases n4 i hi with g|g
  ·exact ⟨.inl g,by have:=hl2 i g;omega,hm2 i g⟩
  ·exact ⟨.inr g,by omega,by omega⟩
 have fo1:=Dt.chg (T:=dNet) (Dt.chg (T:=dNet) o3 c4 (fun i hi=>(hp1 i hi).2.1)) eC (fun i hi hh=>by have:=(hp1 i hi).2.2.1;simp at hh;omega)
 have fo2:dPk.Ow (K4.set K.length ⟨[.int .i64 a.1.1.1,.int .i64 a.1.1.2.1,n.1.1,n.1.2.1.1,n.1.2.1.2,n.1.2.2.1.1,n.1.2.2.2.1,n.1.2.2.2.2.1,n.1.2.2.2.2.2.1.1,n.1.2.2.2.2.2.2.1.1,.int .i64 a.1.2.2.2.2.2.2.2,r'],0,51⟩) r' (a.2++[((a.2.length:Int)+1,q2,q3,q4,q5)]):=⟨o4.chg eC (fun i hi hh=>by have:=(hp2 i hi).2.1;simp at hh;omega),by have:=g0.2.1;simp;omega⟩
 have:=U8 (K:=K4.set K.length ⟨[.int .i64 a.1.1.1,.int .i64 a.1.1.2.1,n.1.1,n.1.2.1.1,n.1.2.1.2,n.1.2.2.1.1,n.1.2.2.2.1,n.1.2.2.2.2.1,n.1.2.2.2.2.2.1.1,n.1.2.2.2.2.2.2.1.1,.int .i64 a.1.2.2.2.2.2.2.2,r'],0,51⟩) (n:=(putSrc n.1 (n.1.2.2.2.2.2.1.1,hs'),r')) (y:=(sendNet a.1 ((a.2.length:Int)+1,q2,q3,q4,q5),a.2++[((a.2.length:Int)+1,q2,q3,q4,q5)])) (a:=a) (q2:=q2) (q3:=q3) (q4:=q4) (q5:=q5) (r:=⟨[.int .i64 a.1.1.1,.int .i64 a.1.1.2.1,n.1.1,n.1.2.1.1,n.1.2.1.2,n.1.2.2.1.1,n.1.2.2.2.1,n.1.2.2.2.2.1,n.1.2.2.2.2.2.1.1,n.1.2.2.2.2.2.2.1.1,.int .i64 a.1.2.2.2.2.2.2.2,r'],0,51⟩) (H:=H) rfl ⟨fo1,fo2⟩
  (((cK2.trans' c3 (fun i hi=>.inr (by have:=hm1 _ (insrc _ hi);omega))).trans' c4 (fun i hi=>.inr (by have:=hm2 _ hi;omega))).trans' eC (fun i hi=>.inr (by simp at hi;omega)))
  (fun i hi=>by
   rcases List.mem_append.1 hi with hi|hi
   ·exact (hp1 i hi).1
   ·exact (hp2 i hi).2.2)
  (List.nodup_append.2 ⟨d3,Qq r',fun x hx y hy e=>by
   subst e
   rcases (hp2 x hy).1 with g|g
   ·exact (hp1 x hx).2.1 g
   ·have:=(hp1 x hx).2.2.2;omega⟩)
  (if_pos hso) (decide_eq_true hso)
 exact this
theorem Ie {v:ChipV} {a:ChipD} {q2 q3 q4 q5:Int} (o:dChip.Ow H v a) :
 wp (vcall C frz 61 [dChip.val v a,.int .i64 q2,.int .i64 q3,.int .i64 q4,.int .i64 q5] H) (Made2 dChip H (chipSend a q2 q3 q4 q5) (decide (sendsOk a (nextP a q2 q3 q4 q5)))):=by
 have oneA:=Qp o
 have ones:=oneA.1
 have one2:=oneA.2
 have ecopy:=fun K (c:Chg H K [])=>Vd (frz:=H.length) (H:=K) (v:=v) (a:=a) (Dt.chg (T:=dChip) o c (by simp))
 have ck:=fun F K (c:Chg H K [])=>Zi (frz:=F) (H:=K) (v:=v) (a:=a) (Dt.chg (T:=dChip) o c (by simp))
 have esend:=fun (K:Heap) (c:Chg H K [])=>Nj (frz:=H.length) (H:=K) (v:=v.1) (x:=a.1) (p:=nextP a q2 q3 q4 q5) (Dt.chg (T:=dNet) o.1 c (by simp))
 have hlen:=o.2.2
 have e0:=@w6 ((a.2.length:Int)+1) (by omega)
 unfold pkV at esend
 simp only [show (nextP a q2 q3 q4 q5).1=(a.2.length:Int)+1 from rfl,show (nextP a q2 q3 q4 q5).2.1=q2 from rfl,show (nextP a q2 q3 q4 q5).2.2.1=q3 from rfl,show (nextP a q2 q3 q4 q5).2.2.2.1=q4 from rfl,show (nextP a q2 q3 q4 q5).2.2.2.2=q5 from rfl,Qd] at esend
 simp only [Qh] at ecopy ck ⊢
 rw [Qb (fn:=Tryz.f61) Tryz.func61 rfl (by kernel_rfl) rfl]
 obtain ⟨G,hG⟩:∃G,G=H++[⟨[.int .i64 a.1.1.1,.int .i64 a.1.1.2.1,v.1.1,v.1.2.1.1,v.1.2.1.2,v.1.2.2.1.1,v.1.2.2.2.1,v.1.2.2.2.2.1,v.1.2.2.2.2.2.1.1,v.1.2.2.2.2.2.2.1.1,.int .i64 a.1.2.2.2.2.2.2.2,v.2],0,51⟩,⟨[.int .i64 0,.int .i64 0,.slice none 0 0,.slice none 0 0,.slice none 0 0,.slice none 0 0,.slice none 0 0,.slice none 0 0,.slice none 0 0,.slice none 0 0,.int .i64 0,.slice none 0 0],0,51⟩]:=⟨_,rfl⟩
 have cG:Chg H G []:=by rw [hG];exact Chg.app _
 have b0:G[H.length]? = some ⟨[.int .i64 a.1.1.1,.int .i64 a.1.1.2.1,v.1.1,v.1.2.1.1,v.1.2.1.2,v.1.2.2.1.1,v.1.2.2.2.1,v.1.2.2.2.2.1,v.1.2.2.2.2.2.1.1,v.1.2.2.2.2.2.2.1.1,.int .i64 a.1.2.2.2.2.2.2.2,v.2],0,51⟩:=by rw [hG];simp
 have bR:G[H.length+1]? = some ⟨[.int .i64 0,.int .i64 0,.slice none 0 0,.slice none 0 0,.slice none 0 0,.slice none 0 0,.slice none 0 0,.slice none 0 0,.slice none 0 0,.slice none 0 0,.int .i64 0,.slice none 0 0],0,51⟩:=by rw [hG];simp
 have lG:G.length=H.length+2:=by rw [hG];simp
 simp [ones,one2]
 rw [← hG]
 clear hG
 have lp:=fun K (c:Chg H K [])=>(o.2.1.rd.chg c (by simp)).len (P:=Tryz.prog) (ty:=49) (by simp)
 try simp [VM.look,b0,ones,one2]
 refine Qf (ecopy G cG) ?_
 rintro _ K ⟨n,rfl,on,cn,mn,dn⟩
 have cK:Chg H K []:=cG.trans cn
 have b0:=Qa b0 cn (by simp)
 have bR:=Qa bR cn (by simp)
 have oneN:=Qp on
 have qn:=oneN.1
 have qn2:=oneN.2
 have lK:=cn.1
 have hFK:H.length≤K.length:=by omega
 obtain ⟨K2,hK2⟩:∃K2,K2=K++[⟨[.int .i64 a.1.1.1,.int .i64 a.1.1.2.1,n.1.1,n.1.2.1.1,n.1.2.1.2,n.1.2.2.1.1,n.1.2.2.2.1,n.1.2.2.2.2.1,n.1.2.2.2.2.2.1.1,n.1.2.2.2.2.2.2.1.1,.int .i64 a.1.2.2.2.2.2.2.2,n.2],0,51⟩]:=⟨_,rfl⟩
 have e2:K++[⟨[.int .i64 a.1.1.1,.int .i64 a.1.1.2.1,n.1.1,n.1.2.1.1,n.1.2.1.2,n.1.2.2.1.1,n.1.2.2.2.1,n.1.2.2.2.2.1,n.1.2.2.2.2.2.1.1,n.1.2.2.2.2.2.2.1.1,.int .i64 a.1.2.2.2.2.2.2.2,n.2],0,51⟩]=K2:=hK2.symm
 have c12:Chg K K2 []:=by rw [hK2];exact Chg.app _
 have cK2:=cK.trans c12
 have l2:K2.length=K.length+1:=by rw [hK2];simp
 have b0:=Qa b0 c12 (by simp)
 have bR:=Qa bR c12 (by simp)
 have bC:K2[K.length]? = some ⟨[.int .i64 a.1.1.1,.int .i64 a.1.1.2.1,n.1.1,n.1.2.1.1,n.1.2.1.2,n.1.2.2.1.1,n.1.2.2.2.1,n.1.2.2.2.2.1,n.1.2.2.2.2.2.1.1,n.1.2.2.2.2.2.2.1.1,.int .i64 a.1.2.2.2.2.2.2.2,n.2],0,51⟩:=by rw [hK2];simp
 have on2:=Dt.chg (T:=dChip) on c12 (by simp)
 have hF:H.length≤H.length+1:=by omega
 have mn':∀i∈dChip.ids n,H.length+2≤i:=fun i hi=>by have:=mn i hi;omega
 have fin:∀K3,Chg K2 K3 []→¬sendsOk a (nextP a q2 q3 q4 q5)→Made2 dChip H (chipSend a q2 q3 q4 q5) (decide (sendsOk a (nextP a q2 q3 q4 q5))) (.tuple #[dChip.val n a,.bool false]) (K3.set (H.length+1) ⟨[.int .i64 a.1.1.1,.int .i64 a.1.1.2.1,n.1.1,n.1.2.1.1,n.1.2.1.2,n.1.2.2.1.1,n.1.2.2.2.1,n.1.2.2.2.2.1,n.1.2.2.2.2.2.1.1,n.1.2.2.2.2.2.2.1.1,.int .i64 a.1.2.2.2.2.2.2.2,n.2],0,51⟩):=fun K3 c3 hb=>
  U8 rfl (Dt.chg (T:=dChip) on2 c3 (by simp)) (cK2.trans c3) mn' dn (if_neg hb) (decide_eq_false hb)
 have ck':=fun F=>ck F K2 cK2
 have lp2:=lp K2 cK2
 simp [Qh,VM.look,qn,qn2,hFK]
 rw [e2]
 clear hK2 e2
 by_cases g0:chipOk a
 rotate_left
 ·have hb:¬sendsOk a (nextP a q2 q3 q4 q5):=fun k=>g0 k.1
  have gR:=Qg (r':=⟨[.int .i64 a.1.1.1,.int .i64 a.1.1.2.1,n.1.1,n.1.2.1.1,n.1.2.1.2,n.1.2.2.1.1,n.1.2.2.2.1,n.1.2.2.2.2.1,n.1.2.2.2.2.2.1.1,n.1.2.2.2.2.2.2.1.1,.int .i64 a.1.2.2.2.2.2.2.2,n.2],0,51⟩) bR
  have hM:=fin K2 (Chg.refl _) hb
  simp [VM.look,b0,bC,ones,one2,ck',g0,qn,qn2,bR,gR,hF]
  simpa [hb,Qh] using hM
 by_cases g1:a.2.length=200
 ·have hb:¬sendsOk a (nextP a q2 q3 q4 q5):=fun k=>k.2.1 g1
  have g1':((a.2.length:Int))=200:=by omega
  have gR:=Qg (r':=⟨[.int .i64 a.1.1.1,.int .i64 a.1.1.2.1,n.1.1,n.1.2.1.1,n.1.2.1.2,n.1.2.2.1.1,n.1.2.2.2.1,n.1.2.2.2.2.1,n.1.2.2.2.2.2.1.1,n.1.2.2.2.2.2.2.1.1,.int .i64 a.1.2.2.2.2.2.2.2,n.2],0,51⟩) bR
  have hM:=fin K2 (Chg.refl _) hb
  simp [VM.look,b0,bC,ones,one2,ck',g0,lp2,g1,g1',qn,qn2,bR,gR,hF]
  simpa [hb,Qh] using hM
 have g1':¬((a.2.length:Int))=200:=by omega
 have hFK2:H.length≤K2.length:=by omega
 simp [VM.look,b0,bC,ones,one2,ck',g0,lp2,g1,g1',e0,hFK2]
 obtain ⟨K3,hK3⟩:∃K3,K3=K2++[⟨[.int .i64 (a.2.length+1:Int),.int .i64 q2,.int .i64 q3,.int .i64 q4,.int .i64 q5],0,104⟩]:=⟨_,rfl⟩
 have e3:K2++[⟨[.int .i64 (a.2.length+1:Int),.int .i64 q2,.int .i64 q3,.int .i64 q4,.int .i64 q5],0,104⟩]=K3:=hK3.symm
 have c23:Chg K2 K3 []:=by rw [hK3];exact Chg.app _
 have l3:K3.length=K2.length+1:=by rw [hK3];simp
 have bP:K3[K2.length]? = some ⟨[.int .i64 (a.2.length+1:Int),.int .i64 q2,.int .i64 q3,.int .i64 q4,.int .i64 q5],0,104⟩:=by rw [hK3];simp
 have b0:=Qa b0 c23 (by simp)
 have bR:=Qa bR c23 (by simp)
 have bC:=Qa bC c23 (by simp)
 rw [e3]
 clear hK3 e3
 simp [VM.look,b0,bP,ones,one2,hFK2]
 refine Qf (esend K3 (cK2.trans c23)) ?_
 rintro _ K4 ⟨_,rfl,n2,rfl,o4,c4,m4,d4⟩
 have bP:=Qa bP c4 (by simp)
 have bR:=Qa bR c4 (by simp)
 have bC:=Qa bC c4 (by simp)
 have one4:=Qi o4
 have l4:=c4.1
 have hFK4:H.length≤K4.length:=by omega
 have bPA:=fun L=>Ql bP L
 have bRA:=fun L=>Ql bR L
 have bCA:=fun L=>Ql bC L
 by_cases g2:sendOk a.1 (nextP a q2 q3 q4 q5)
 rotate_left
 ·have hb:¬sendsOk a (nextP a q2 q3 q4 q5):=fun k=>g2 k.2.2
  have hz:sendP a.1 (nextP a q2 q3 q4 q5)=a.1:=if_neg (fun k=>g2 k.2)
  rw [hz] at o4
  have hM:=fin (K4++[⟨[.int .i64 a.1.1.1,.int .i64 a.1.1.2.1,n2.1,n2.2.1.1,n2.2.1.2,n2.2.2.1.1,n2.2.2.2.1,n2.2.2.2.2.1,n2.2.2.2.2.2.1.1,n2.2.2.2.2.2.2.1.1,.int .i64 a.1.2.2.2.2.2.2.2],0,48⟩]) ((c23.trans c4).trans (Chg.app _)) hb
  have gR:=Qg (r':=⟨[.int .i64 a.1.1.1,.int .i64 a.1.1.2.1,n.1.1,n.1.2.1.1,n.1.2.1.2,n.1.2.2.1.1,n.1.2.2.2.1,n.1.2.2.2.2.1,n.1.2.2.2.2.2.1.1,n.1.2.2.2.2.2.2.1.1,.int .i64 a.1.2.2.2.2.2.2.2,n.2],0,51⟩) (bRA [⟨[.int .i64 a.1.1.1,.int .i64 a.1.1.2.1,n2.1,n2.2.1.1,n2.2.1.2,n2.2.2.1.1,n2.2.2.2.1,n2.2.2.2.2.1,n2.2.2.2.2.2.1.1,n2.2.2.2.2.2.2.1.1,.int .i64 a.1.2.2.2.2.2.2.2],0,48⟩])
  simp [Qd,hz,g0.1,g2,one4,hFK4,VM.look,bCA,bRA,qn,qn2,gR,hF]
  simpa [hb,Qh] using hM
 have hso:sendsOk a (nextP a q2 q3 q4 q5):=⟨g0,g1,g2⟩
 have hz:sendP a.1 (nextP a q2 q3 q4 q5)=sendNet a.1 (nextP a q2 q3 q4 q5):=if_pos ⟨g0.1,g2⟩
 rw [hz] at o4
 obtain ⟨z,hzz⟩:∃z,z=sendNet a.1 (nextP a q2 q3 q4 q5):=⟨_,rfl⟩
 rw [← hzz] at o4 hz
 have hd:=List.nodup_append.1 dn
 have hm2:∀i∈VM.ids n.2,H.length+2≤i:=fun i hi=>mn' i (List.mem_append_right _ hi)
 have hl2:∀i∈VM.ids n.2,i<K.length:=fun i hi=>dPk.lt on.2 i hi
 obtain ⟨K5,hK5⟩:∃K5,K5=K4++[⟨[.int .i64 z.1.1,.int .i64 z.1.2.1,n2.1,n2.2.1.1,n2.2.1.2,n2.2.2.1.1,n2.2.2.2.1,n2.2.2.2.2.1,n2.2.2.2.2.2.1.1,n2.2.2.2.2.2.2.1.1,.int .i64 z.2.2.2.2.2.2.2],0,48⟩]:=⟨_,rfl⟩
 have e5:K4++[⟨[.int .i64 z.1.1,.int .i64 z.1.2.1,n2.1,n2.2.1.1,n2.2.1.2,n2.2.2.1.1,n2.2.2.2.1,n2.2.2.2.2.1,n2.2.2.2.2.2.1.1,n2.2.2.2.2.2.2.1.1,.int .i64 z.2.2.2.2.2.2.2],0,48⟩]=K5:=hK5.symm
 have c45:Chg K4 K5 []:=by rw [hK5];exact Chg.app _
 have l5:K5.length=K4.length+1:=by rw [hK5];simp
 have b5:K5[K4.length]? = some ⟨[.int .i64 z.1.1,.int .i64 z.1.2.1,n2.1,n2.2.1.1,n2.2.1.2,n2.2.2.1.1,n2.2.2.2.1,n2.2.2.2.2.1,n2.2.2.2.2.2.1.1,n2.2.2.2.2.2.2.1.1,.int .i64 z.2.2.2.2.2.2.2],0,48⟩:=by rw [hK5];simp
 have bP:=Qa bP c45 (by simp)
 have bR:=Qa bR c45 (by simp)
 have bC:=Qa bC c45 (by simp)
 have o5:=Dt.chg (T:=dNet) o4 c45 (by simp)
 have op5:=Dt.chg (T:=dPk) (Dt.chg (T:=dPk) on2.2 ((c23.trans c4).trans c45) (by simp)) (Qe (H:=K5) K.length ⟨[.int .i64 z.1.1,.int .i64 z.1.2.1,n2.1,n2.2.1.1,n2.2.1.2,n2.2.2.1.1,n2.2.2.2.1,n2.2.2.2.2.1,n2.2.2.2.2.2.1.1,n2.2.2.2.2.2.2.1.1,.int .i64 z.2.2.2.2.2.2.2,n.2],0,51⟩) (fun i hi hh=>by have:=hl2 i hi;simp at hh;omega)
 have gC1:=Qg (r':=⟨[.int .i64 z.1.1,.int .i64 z.1.2.1,n2.1,n2.2.1.1,n2.2.1.2,n2.2.2.1.1,n2.2.2.2.1,n2.2.2.2.2.1,n2.2.2.2.2.2.1.1,n2.2.2.2.2.2.2.1.1,.int .i64 z.2.2.2.2.2.2.2,n.2],0,51⟩) bC
 have hFKK:H.length≤K.length:=by omega
 simp [Qd,hz,g0.1,g2,one4,hFK4,VM.look]
 rw [e5]
 clear hK5 e5
 obtain ⟨K6,hK6⟩:∃K6,K6=K5.set K.length ⟨[.int .i64 z.1.1,.int .i64 z.1.2.1,n2.1,n2.2.1.1,n2.2.1.2,n2.2.2.1.1,n2.2.2.2.1,n2.2.2.2.2.1,n2.2.2.2.2.2.1.1,n2.2.2.2.2.2.2.1.1,.int .i64 z.2.2.2.2.2.2.2,n.2],0,51⟩:=⟨_,rfl⟩
 have c56:Chg K5 K6 [K.length]:=by rw [hK6];exact Qe _ _
 have l6:K6.length=K5.length:=by rw [hK6];simp
 have b6:=Qa bP c56 (by simp;omega)
 have b6R:=Qa bR c56 (by simp;omega)
 rw [← hK6] at op5 gC1
 simp [VM.look,b5,bC,qn2,one4,hFKK]
 rw [← hK6]
 have o6:=Dt.chg (T:=dNet) o5 c56 (fun i hi hh=>by have:=m4 i hi;simp at hh;omega)
 obtain ⟨r',K7,hap,o7,c7,n7⟩:=op5.1.push (P:=Tryz.prog) (frz:=H.length) (ty:=49) (a:=((a.2.length:Int)+1,q2,q3,q4,q5)) (by simp) rfl (by have:=g0.2.1;omega) (fun i hi=>by have:=hm2 i hi;omega)
 simp only [X0] at hap
 have b6A:=fun L=>Ql b6 L
 have gCA:=fun L=>Ql gC1 L
 have bC7:=Qa gC1 c7 (fun hh=>by have:=hl2 _ hh;omega)
 have bR7:=Qa b6R c7 (fun hh=>by have:=hm2 _ hh;omega)
 have qr:=And.intro o7.rd.one' o7.rd.cells
 have gC:=Qg (r':=⟨[.int .i64 z.1.1,.int .i64 z.1.2.1,n2.1,n2.2.1.1,n2.2.1.2,n2.2.2.1.1,n2.2.2.2.1,n2.2.2.2.2.1,n2.2.2.2.2.2.1.1,n2.2.2.2.2.2.2.1.1,.int .i64 z.2.2.2.2.2.2.2,r'],0,51⟩) bC7
 have eC:Chg K7 (K7.set K.length ⟨[.int .i64 z.1.1,.int .i64 z.1.2.1,n2.1,n2.2.1.1,n2.2.1.2,n2.2.2.1.1,n2.2.2.2.1,n2.2.2.2.2.1,n2.2.2.2.2.2.1.1,n2.2.2.2.2.2.2.1.1,.int .i64 z.2.2.2.2.2.2.2,r'],0,51⟩) [K.length]:=Qe _ _
 have bR8:=Qa bR7 eC (by simp;omega)
 have gR:=Qg (r':=⟨[.int .i64 z.1.1,.int .i64 z.1.2.1,n2.1,n2.2.1.1,n2.2.1.2,n2.2.2.1.1,n2.2.2.2.1,n2.2.2.2.2.1,n2.2.2.2.2.2.1.1,n2.2.2.2.2.2.2.1.1,.int .i64 z.2.2.2.2.2.2.2,r'],0,51⟩) bR8
 simp [-Qn,-Qv,VM.look,gC1,gCA,b6,b6A,hap,bC7,qr,one4,gC,bR8,gR,hF,hFKK]
 have hp2:∀i∈VM.ids r',(i∈VM.ids n.2∨K6.length≤i)∧i≠K.length∧H.length+2≤i:=fun i hi=>by
  rcases n7 i hi with g|g
  ·exact ⟨.inl g,by have:=hl2 i g;omega,hm2 i g⟩
  ·exact ⟨.inr g,by omega,by omega⟩
 have hp1:∀i∈dNet.ids n2,K3.length≤i∧i<K4.length:=fun i hi=>⟨m4 i hi,dNet.lt o4 i hi⟩
 have fo1:=Dt.chg (T:=dNet) (Dt.chg (T:=dNet) o6 c7 (fun i hi hh=>by have:=hp1 i hi;have:=hl2 i hh;omega)) eC (fun i hi hh=>by have:=hp1 i hi;simp at hh;omega)
 have fo2:dPk.Ow (K7.set K.length ⟨[.int .i64 z.1.1,.int .i64 z.1.2.1,n2.1,n2.2.1.1,n2.2.1.2,n2.2.2.1.1,n2.2.2.2.1,n2.2.2.2.2.1,n2.2.2.2.2.2.1.1,n2.2.2.2.2.2.2.1.1,.int .i64 z.2.2.2.2.2.2.2,r'],0,51⟩) r' (a.2++[((a.2.length:Int)+1,q2,q3,q4,q5)]):=⟨o7.chg eC (fun i hi hh=>by have:=(hp2 i hi).2.1;simp at hh;omega),by have:=g0.2.1;simp;omega⟩
 have eC2:chipSend a q2 q3 q4 q5=(z,a.2++[((a.2.length:Int)+1,q2,q3,q4,q5)]):=by rw [hzz];exact if_pos hso
 have:=U8 (K:=K7.set K.length ⟨[.int .i64 z.1.1,.int .i64 z.1.2.1,n2.1,n2.2.1.1,n2.2.1.2,n2.2.2.1.1,n2.2.2.2.1,n2.2.2.2.2.1,n2.2.2.2.2.2.1.1,n2.2.2.2.2.2.2.1.1,.int .i64 z.2.2.2.2.2.2.2,r'],0,51⟩) (n:=(n2,r')) (y:=(z,a.2++[((a.2.length:Int)+1,q2,q3,q4,q5)])) (a:=a) (q2:=q2) (q3:=q3) (q4:=q4) (q5:=q5) (r:=⟨[.int .i64 z.1.1,.int .i64 z.1.2.1,n2.1,n2.2.1.1,n2.2.1.2,n2.2.2.1.1,n2.2.2.2.1,n2.2.2.2.2.1,n2.2.2.2.2.2.1.1,n2.2.2.2.2.2.2.1.1,.int .i64 z.2.2.2.2.2.2.2,r'],0,51⟩) (H:=H) rfl ⟨fo1,fo2⟩
  ((((((cK2.trans c23).trans c4).trans c45).trans' c56 (fun i hi=>.inr (by simp at hi;omega))).trans' c7 (fun i hi=>.inr (by have:=hm2 _ hi;omega))).trans' eC (fun i hi=>.inr (by simp at hi;omega)))
  (fun i hi=>by
   rcases List.mem_append.1 hi with hi|hi
   ·have:=hp1 i hi;omega
   ·exact (hp2 i hi).2.2)
  (List.nodup_append.2 ⟨d4,Qq r',fun x hx y hy e=>by
   subst e
   have h1:=hp1 x hx
   rcases (hp2 x hy).1 with g|g
   ·have:=hl2 x g;omega
   ·omega⟩)
  eC2 (decide_eq_true hso)
 exact this
def alongP (x g:Int):Int:=if x<g then 1 else if g<x then 3 else -1
def acrossP (y g:Int):Int:=if y<g then 2 else if g<y then 0 else -1
def stdPort (w r a to:Int):Int:=
 if a=to then 4 else
 if acrossP (a/w) (to/w)<0∨(0≤alongP (a%w) (to%w)∧((if r=4 then 1+to%2 else r)=1∨((if r=4 then 1+to%2 else r)=3∧alongP (a%w) (to%w)=3))) then alongP (a%w) (to%w) else acrossP (a/w) (to/w)
def stdTab (w r:Int) (n:Nat):List Int:=(List.range (n*n)).map fun i=>stdPort w r (i/n:Nat) (i%n:Nat)
theorem Pi (w r:Int) (n:Nat):(stdTab w r n).length=n*n:=by simp [stdTab]
theorem De (x g:Int):vcall C frz 235 [.int .i64 x,.int .i64 g] H=some (.int .i64 (alongP x g),H):=by
 rw [Qb (fn:=Tryz.f235) Tryz.func235 rfl (by kernel_rfl) rfl]
 simp
 refine Qo _ ?_ ?_<;>intro h1<;>simp [h1,alongP]
 refine Qo _ ?_ ?_<;>intro h2<;>simp [h2]
theorem J9 (x g:Int):vcall C frz 236 [.int .i64 x,.int .i64 g] H=some (.int .i64 (acrossP x g),H):=by
 rw [Qb (fn:=Tryz.f236) Tryz.func236 rfl (by kernel_rfl) rfl]
 simp
 refine Qo _ ?_ ?_<;>intro h1<;>simp [h1,acrossP]
 refine Qo _ ?_ ?_<;>intro h2<;>simp [h2]
theorem Cm (w h r a to:Int) (hr:1≤r∧r≤4) (ha:isN w h a) (hto:isN w h to) :
 vcall C frz 212 [.agg #[.int .i64 w,.int .i64 h],.int .i64 r,.int .i64 a,.int .i64 to] H=some (.int .i64 (stdPort w r a to),H):=by
 rw [Qb (fn:=Tryz.f212) Tryz.func212 rfl (by kernel_rfl) rfl]
 obtain ⟨hg,a0,_,a1⟩:=Yy ha
 obtain ⟨_,t0,_,t1⟩:=Yy hto
 have hw:=hg.1
 have hir:inR 1 r 4:=hr
 have wz:¬w=0:=by omega
 have e1:a.tmod w=a%w:=Int.tmod_eq_emod_of_nonneg a0
 have e2:to.tmod w=to%w:=Int.tmod_eq_emod_of_nonneg t0
 have e3:a.tdiv w=a/w:=Int.tdiv_eq_ediv_of_nonneg a0
 have e4:to.tdiv w=to/w:=Int.tdiv_eq_ediv_of_nonneg t0
 have e5:to.tmod 2=to%2:=Int.tmod_eq_emod_of_nonneg t0
 have d1:0≤a/w∧a/w≤a:=⟨Int.ediv_nonneg a0 (by omega),Int.ediv_le_self _ a0⟩
 have d2:0≤to/w∧to/w≤to:=⟨Int.ediv_nonneg t0 (by omega),Int.ediv_le_self _ t0⟩
 have f3:=@w6 (a/w) (by omega)
 have f4:=@w6 (to/w) (by omega)
 have f5:=@w6 (1+to%2) (by omega)
 simp [W1,ha,hto,Qr,hir]
 refine Qo _ ?_ ?_<;>intro h4
 ·subst h4
  simp [e5,f5]
  rw [Qj (h:=by kernel_rfl)]
  simp [VM.look,wz,e1,e2,e3,e4,f3,f4,De,J9]
  refine Qo _ ?_ ?_<;>intro h5
  ·simp [h5,stdPort]
  ·have est:stdPort w 4 a to=if acrossP (a/w) (to/w)<0∨(0≤alongP (a%w) (to%w)∧(1+to%2=1∨(1+to%2=3∧alongP (a%w) (to%w)=3))) then alongP (a%w) (to%w) else acrossP (a/w) (to/w):=by simp [stdPort,h5]
   rw [est]
   generalize alongP (a%w) (to%w)=X
   generalize acrossP (a/w) (to/w)=Y
   generalize 1+to%2=R
   simp
   by_cases q1:Y<0
   ·simp [q1]
   ·by_cases q2:0≤X
    ·by_cases q3:R=1
     ·simp [q1,q2,q3]
     ·by_cases q4:R=3
      ·by_cases q5:X=3
       ·simp [q1,q2,q3,q4,q5]
       ·simp [q1,q2,q3,q4,q5]
      ·simp [q1,q2,q3,q4]
    ·simp [q1,q2]
 ·simp [h4]
  rw [Qj (h:=by kernel_rfl)]
  simp [VM.look,wz,e1,e2,e3,e4,f3,f4,De,J9]
  refine Qo _ ?_ ?_<;>intro h5
  ·simp [h5,stdPort]
  ·have est:stdPort w r a to=if acrossP (a/w) (to/w)<0∨(0≤alongP (a%w) (to%w)∧(r=1∨(r=3∧alongP (a%w) (to%w)=3))) then alongP (a%w) (to%w) else acrossP (a/w) (to/w):=by simp [stdPort,h4,h5]
   rw [est]
   generalize alongP (a%w) (to%w)=X
   generalize acrossP (a/w) (to/w)=Y
   simp
   by_cases q1:Y<0
   ·simp [q1]
   ·by_cases q2:0≤X
    ·by_cases q3:r=1
     ·simp [q1,q2,q3]
     ·by_cases q4:r=3
      ·by_cases q5:X=3
       ·simp [q1,q2,q3,q4,q5]
       ·simp [q1,q2,q3,q4,q5]
      ·simp [q1,q2,q3,q4]
    ·simp [q1,q2]
theorem P5 (w h r:Int) (n:Nat) (hr:1≤r∧r≤4) (hg:okG w h) (hn:cnt w h=n) :
 wp (vcall C frz 183 [.agg #[.int .i64 w,.int .i64 h],.int .i64 r] H) (Made2 dTable H (stdTab w r n) true):=by
 rw [Qb (fn:=Tryz.f183) Tryz.func183 rfl (by kernel_rfl) rfl]
 have hc:=Qm w h
 have hir:inR 1 r 4:=hr
 have hn2:n*n≤256:=Nat.mul_le_mul (show n≤16 by omega) (show n≤16 by omega)
 simp [Sa,hg,Qr,hir,Wi,hn]
 refine Qk (fun m t H'=>∃(i:Nat) (vo:Value) (o:List Int),m=n-i∧i≤n∧o=(List.range (i*n)).map (fun i=>stdPort w r (i/n:Nat) (i%n:Nat))∧
  t 1=.int .i64 r∧t 2=.pointer (some ⟨H.length,0,some 0⟩)∧t 4=.pointer (some ⟨H.length+1,0,some 0⟩)∧t 6=.pointer (some ⟨H.length+2,0,some 0⟩)∧t 20=.int .i64 n∧t 21=.int .i64 i∧
  Chg H H' []∧H'[H.length]? = some ⟨[.int .i64 w,.int .i64 h],0,40⟩∧H'[H.length+1]? = some ⟨[.slice none 0 0],0,43⟩∧H'[H.length+2]? = some ⟨[vo],0,43⟩∧
  Ow Fl.int 3 H' vo o∧(∀i∈ids vo,H.length+2<i)) ?_ (n:=n) ⟨0,.slice none 0 0,[],by simp,by omega,by simp,by simp,by simp,by simp,by simp,by simp,by simp,Chg.app _,by simp,by simp,by simp,.inl ⟨rfl,rfl⟩,by simp⟩
 rintro m t H' ⟨i,vo,o,rfl,hi,ho,h1,h2,h4,h6,h20,h21,c0,b2,b4,b6,oo,no⟩ ih
 simp [h1,h2,h4,h6,h20,h21]
 refine Qc ?_ ?_<;>intro hin
 ·have hin':i<n:=by omega
  simp [h1,h2,h4,h6,h20,h21,VM.look,b2,Wi,hn]
  refine Qk (fun m t H'=>∃(j:Nat) (vo:Value) (o:List Int),m=n-j∧j≤n∧o=(List.range (i*n+j)).map (fun i=>stdPort w r (i/n:Nat) (i%n:Nat))∧
   t 1=.int .i64 r∧t 2=.pointer (some ⟨H.length,0,some 0⟩)∧t 4=.pointer (some ⟨H.length+1,0,some 0⟩)∧t 6=.pointer (some ⟨H.length+2,0,some 0⟩)∧t 20=.int .i64 n∧t 21=.int .i64 i∧
   t 7=.int .i64 i∧t 25=.int .i64 n∧t 26=.int .i64 j∧
   Chg H H' []∧H'[H.length]? = some ⟨[.int .i64 w,.int .i64 h],0,40⟩∧H'[H.length+1]? = some ⟨[.slice none 0 0],0,43⟩∧H'[H.length+2]? = some ⟨[vo],0,43⟩∧
   Ow Fl.int 3 H' vo o∧(∀i∈ids vo,H.length+2<i)) ?_ (n:=n) ⟨0,vo,o,by simp,by omega,by simpa using ho,by simp [h1],by simp [h2],by simp [h4],by simp [h6],by simp [h20],by simp [h21],by simp,by simp,by simp,c0,b2,b4,b6,oo,no⟩
  clear h1 h2 h4 h6 h20 h21 c0 b2 b4 b6 oo no ho
  rintro m t H' ⟨j,vo,o,rfl,hj,ho,h1,h2,h4,h6,h20,h21,h7,h25,h26,c0,b2,b4,b6,oo,no⟩ ih2
  simp [h1,h2,h4,h6,h20,h21,h7,h25,h26]
  refine Qc ?_ ?_<;>intro hjn
  ·have hjn':j<n:=by omega
   have hol:o.length=i*n+j:=by rw [ho];simp
   have hsm:i*n+j<n*n:=by
    have:=Nat.mul_le_mul_right n (show i+1≤n by omega)
    rw [Nat.succ_mul] at this;omega
   have hdv:(i*n+j)/n=i:=by rw [Nat.mul_comm,Nat.mul_add_div (by omega),Nat.div_eq_of_lt hjn'];omega
   have hmd:(i*n+j)%n=j:=by rw [Nat.mul_comm,Nat.mul_add_mod,Nat.mod_eq_of_lt hjn']
   have sp:=fun F L=>Cm (frz:=F) (H:=L) w h r i j hr ⟨by omega,by omega⟩ ⟨by omega,by omega⟩
   have hx:stdPort w r ((i*n+j)/n:Nat) ((i*n+j)%n:Nat)=stdPort w r i j:=by rw [hdv,hmd]
   simp [h1,h2,h4,h6,h20,h21,h7,h25,h26]
   rw [Qj (h:=by kernel_rfl)]
   obtain ⟨vo',H3,e3,oo3,c3,n3⟩:=oo.push (P:=Tryz.prog) (frz:=H.length) (ty:=24) (a:=stdPort w r i j) (by simp) rfl (by omega) (fun i hi=>by have:=no i hi;omega)
   simp only [Fl.int_f] at e3
   have lc:=Qt b6
   have b2':=Qa b2 c3 (fun hh=>by have:=no _ hh;omega)
   have b4':=Qa b4 c3 (fun hh=>by have:=no _ hh;omega)
   have b6':=Qa b6 c3 (fun hh=>by have:=no _ hh;omega)
   have no3:∀i∈ids vo',H.length+2<i:=fun i hi=>by rcases n3 i hi with h|h;exact no i h;omega
   have one:=And.intro oo.rd.one' oo.rd.cells
   have one3:=And.intro oo3.rd.one' oo3.rd.cells
   have hF:H.length≤H.length+2:=by omega
   simp [VM.look,b2,b6,sp,one,e3,b6',one3,h1,h2,h4,h6,h20,h21,h7,h25,h26]
   refine ih2 (n-(j+1)) _ _ ⟨j+1,vo',o++[stdPort w r i j],rfl,by omega,?_,by simp [h1],by simp [h2],by simp [h4],by simp [h6],by simp [h20],by simp [h21],by simp [h7],by simp [h25],?_,
    (c0.trans' c3 (fun i hi=>.inr (by have:=no i hi;omega))).trans' (Qe _ _) (fun i hi=>.inr (by simp at hi;omega)),Qa b2' (Qe _ _) (by simp),Qa b4' (Qe _ _) (by simp),Qg b6',
    oo3.chg (Qe _ _) (fun i hi hh=>by have:=no3 i hi;simp at hh;omega),no3⟩ (by omega)
   ·rw [← Nat.add_assoc,List.range_succ,List.map_append,← ho];simp only [List.map_cons,List.map_nil,hdv,hmd]
   ·simp;rw [w64 (by omega) (by omega)]
  ·have:j=n:=by omega
   subst this
   simp [h1,h2,h4,h6,h20,h21,h7,h25,h26]
   refine ih (j-(i+1)) _ _ ⟨i+1,vo,o,rfl,by omega,by rw [Nat.succ_mul];exact ho,by simp [h1],by simp [h2],by simp [h4],by simp [h6],by simp [h20],?_,c0,b2,b4,b6,oo,no⟩ (by omega)
   simp;rw [w64 (by omega) (by omega)]
 ·have:i=n:=by omega
  subst this
  have lc:=Qt b6
  have one:=And.intro oo.rd.one' oo.rd.cells
  have g4:=Qg (r':=⟨[vo],0,43⟩) b4
  have hol:o.length=i*i:=by rw [ho];simp
  have hF:H.length≤H.length+1:=by omega
  simp [h1,h2,h4,h6,h20,h21,VM.look,b6,b4,one,g4,hF]
  exact ⟨.agg #[vo],rfl,vo,rfl,⟨(by rw [show stdTab w r i=o from ho.symm];exact oo.chg (Qe _ _) (fun i hi hh=>by have:=no i hi;simp at hh;omega)),by rw [Pi];omega⟩,c0.trans' (Qe _ _) (fun i hi=>.inr (by simp at hi;omega)),fun i hi=>by have:=no i hi;omega,Qq vo⟩
theorem Qbz (w r a to:Int) (hw:1≤w) (ha:0≤a) (ht:0≤to) (hne:a≠to) (R:Int) (hR:R=if r=4 then 1+to%2 else r) :
 stdPort w r a to=(if (if R=2 then a/w=to/w else if R=3 then to%w<a%w∨a/w=to/w else a%w≠to%w) then (if to%w<a%w then 3 else 1) else (if to/w<a/w then 0 else 2))∨¬(1≤R∧R≤3):=by
 have h1:=Int.emod_add_mul_ediv a w
 have h2:=Int.emod_add_mul_ediv to w
 have h3:¬(a%w=to%w∧a/w=to/w):=fun ⟨e1,e2⟩=>hne (by rw [← h1,← h2,e1,e2])
 unfold stdPort
 rw [if_neg hne,← hR]
 generalize a%w=X at *
 generalize to%w=U at *
 generalize a/w=Y at *
 generalize to/w=V at *
 by_cases hr:1≤R∧R≤3
 rotate_left
 ·exact .inr hr
 left
 unfold alongP acrossP
 obtain rfl|rfl|rfl:R=1∨R=2∨R=3:=by omega
 all_goals simp
 all_goals (repeat' split)<;>first|rfl|omega
theorem Wr (x g:Int):vcall C frz 166 [.int .i64 x,.int .i64 g] H=some (.int .i64 (if g<x then 3 else 1),H):=by
 rw [Qb (fn:=Tryz.f166) Tryz.func166 rfl (by kernel_rfl) rfl]
 simp
 refine Qo _ ?_ ?_<;>intro h1<;>simp [h1]
theorem Xe (x g:Int):vcall C frz 167 [.int .i64 x,.int .i64 g] H=some (.int .i64 (if g<x then 0 else 2),H):=by
 rw [Qb (fn:=Tryz.f167) Tryz.func167 rfl (by kernel_rfl) rfl]
 simp
 refine Qo _ ?_ ?_<;>intro h1<;>simp [h1]
theorem Cb (w h r a to:Int) (hr:1≤r∧r≤4) (ha:isN w h a) (hto:isN w h to) :
 vcall C frz 122 [.agg #[.int .i64 w,.int .i64 h],.int .i64 r,.int .i64 a,.int .i64 to] H=some (.int .i64 (stdPort w r a to),H):=by
 rw [Qb (fn:=Tryz.f122) Tryz.func122 rfl (by kernel_rfl) rfl]
 obtain ⟨hg,a0,_,a1⟩:=Yy ha
 obtain ⟨_,t0,_,t1⟩:=Yy hto
 have hw:=hg.1
 have wz:¬w=0:=by omega
 have e1:a.tmod w=a%w:=Int.tmod_eq_emod_of_nonneg a0
 have e2:to.tmod w=to%w:=Int.tmod_eq_emod_of_nonneg t0
 have e3:a.tdiv w=a/w:=Int.tdiv_eq_ediv_of_nonneg a0
 have e4:to.tdiv w=to/w:=Int.tdiv_eq_ediv_of_nonneg t0
 have e5:to.tmod 2=to%2:=Int.tmod_eq_emod_of_nonneg t0
 have d1:0≤a/w∧a/w≤a:=⟨Int.ediv_nonneg a0 (by omega),Int.ediv_le_self _ a0⟩
 have d2:0≤to/w∧to/w≤to:=⟨Int.ediv_nonneg t0 (by omega),Int.ediv_le_self _ t0⟩
 have f3:=@w6 (a/w) (by omega)
 have f4:=@w6 (to/w) (by omega)
 have f5:=@w6 (1+to%2) (by omega)
 have key:a≠to→∀R,(R=if r=4 then 1+to%2 else r)→1≤R→R≤3→stdPort w r a to=if (if R=2 then a/w=to/w else if R=3 then to%w<a%w∨a/w=to/w else a%w≠to%w) then (if to%w<a%w then 3 else 1) else (if to/w<a/w then 0 else 2):=fun hne R hR r1 r2=>by
  rcases Qbz w r a to hw.1 a0 t0 hne R hR with h|h
  ·exact h
  ·exact absurd ⟨r1,r2⟩ h
 simp [VM.look,wz,e1,e2,e3,e4,f3,f4]
 by_cases h4:a=to
 ·subst h4;simp [stdPort]
 have key:=key h4
 clear e1 e2 e3 e4 f3 f4
 generalize a%w=X at *
 generalize to%w=U at *
 generalize a/w=Y at *
 generalize to/w=V at *
 generalize stdPort w r a to=Z at *
 simp [h4]
 have k1:∀[Inhabited Unit],IntKind.i64.wrap 1=1:=by intro _;exact w64 (by omega) (by omega)
 have k2:∀[Inhabited Unit],IntKind.i64.wrap 2=2:=by intro _;exact w64 (by omega) (by omega)
 by_cases r4:r=4
 ·have key:=key _ (if_pos r4).symm (by omega) (by omega)
  have m2:to%2=0∨to%2=1:=by omega
  rcases m2 with m2|m2<;>simp only [m2] at key f5
  ·simp [r4,e5,m2,f5,Wr,Xe,k1,k2]
   by_cases h5:X=U<;>simp [h5] at key<;>simp [h5,key,Wr,Xe,k1,k2]
  ·simp [r4,e5,m2,f5,Wr,Xe,k1,k2]
   by_cases h5:Y=V<;>simp [h5] at key<;>simp [h5,key,Wr,Xe,k1,k2]
 ·have key:=key _ (if_neg r4).symm (by omega) (by omega)
  obtain rfl|rfl|rfl:r=1∨r=2∨r=3:=by omega
  ·simp [Wr,Xe,k1,k2]
   by_cases h5:X=U<;>simp [h5] at key<;>simp [h5,key,Wr,Xe,k1,k2]
  ·simp [Wr,Xe,k1,k2]
   by_cases h5:Y=V<;>simp [h5] at key<;>simp [h5,key,Wr,Xe,k1,k2]
  ·simp [Wr,Xe,k1,k2]
   by_cases h5:U<X
   ·simp [h5] at key;simp [h5,key,Wr,Xe,k1,k2]
   ·by_cases h6:Y=V<;>simp [h5,h6] at key<;>simp [h5,h6,key,Wr,Xe,k1,k2]
end Go.Proofs.YtlhaeingdonaeaaGreat.V
set_option linter.all false
namespace Go.Proofs.YtlhaeingdonaeaaGreat.V
open Go Go.VM Go.Proofs
set_option maxRecDepth 100000
end Go.Proofs.YtlhaeingdonaeaaGreat.V
set_option linter.all false
namespace Go.Proofs.YtlhaeingdonaeaaGreat.V
open Go Go.VM Go.Proofs
set_option maxRecDepth 10000
variable {frz:Nat} {H:Heap}
theorem Mg (w h r:Int) (n:Nat) (hr:1≤r∧r≤4) (hg:okG w h) (hn:cnt w h=n) :
 wp (vcall C frz 70 [.agg #[.int .i64 w,.int .i64 h],.int .i64 r] H) (dTable.Made H (stdTab w r n)):=by
 rw [Qb (fn:=Tryz.f70) Tryz.func70 rfl (by kernel_rfl) rfl]
 have hc:=Qm w h
 have hn2:n*n≤256:=Nat.mul_le_mul (show n≤16 by omega) (show n≤16 by omega)
 have hn2':(n:Int)*(n:Int)≤256:=by
  have:((n*n:Nat):Int)≤256:=by omega
  rwa [Int.natCast_mul] at this
 obtain ⟨M,hM⟩:∃M:Nat,M=n*n:=⟨_,rfl⟩
 have eM:∀[Inhabited Unit],IntKind.i64.wrap ((n:Int)*n)=(M:Int):=by intro _;rw [hM,Int.natCast_mul];exact w64 (by have:=Int.natCast_nonneg (n*n);rw [Int.natCast_mul] at this;omega) (by omega)
 simp [Q6,hn]
 refine Qk (fun m t H'=>∃(i:Nat) (vo:Value) (o:List Int),m=M-i∧i≤M∧o=(List.range i).map (fun i=>stdPort w r (i/n:Nat) (i%n:Nat))∧
  t 1=.int .i64 r∧t 2=.pointer (some ⟨H.length,0,some 0⟩)∧t 4=.pointer (some ⟨H.length+1,0,some 0⟩)∧t 5=.pointer (some ⟨H.length+2,0,some 0⟩)∧t 6=.int .i64 n∧t 7=.int .i64 i∧
  Chg H H' []∧H'[H.length]? = some ⟨[.int .i64 w,.int .i64 h],0,40⟩∧H'[H.length+1]? = some ⟨[.slice none 0 0],0,43⟩∧H'[H.length+2]? = some ⟨[vo],0,43⟩∧
  Ow Fl.int 3 H' vo o∧(∀i∈ids vo,H.length+2<i)) ?_ (n:=M) ⟨0,.slice none 0 0,[],by simp,by omega,by simp,by simp,by simp,by simp,by simp,by simp,by simp,Chg.app _,by simp,by simp,by simp,.inl ⟨rfl,rfl⟩,by simp⟩
 rintro m t H' ⟨i,vo,o,rfl,hi,ho,h1,h2,h4,h5,h6,h7,c0,b2,b4,b6,oo,no⟩ ih
 simp [h1,h2,h4,h5,h6,h7,eM]
 refine Qc ?_ ?_<;>intro hin
 ·have hin':i<M:=by omega
  have hn0:0<n:=by
   rcases Nat.eq_zero_or_pos n with h0|h0
   ·rw [h0] at hM;omega
   ·exact h0
  have hol:o.length=i:=by rw [ho];simp
  have q1:i/n<n:=by rw [Nat.div_lt_iff_lt_mul hn0];omega
  have q2:i%n<n:=Nat.mod_lt _ hn0
  have d1:∀[Inhabited Unit],IntKind.i64.wrap ((i:Int)/(n:Int))=((i/n:Nat):Int):=by intro _;rw [← Int.natCast_ediv];exact w64 (by have:=Int.natCast_nonneg (i/n);omega) (by have:=Int.ofNat_lt.2 q1;omega)
  have d2:(i:Int).tmod n=((i%n:Nat):Int):=by rw [Int.tmod_eq_emod_of_nonneg (by omega)];rfl
  have d3:(i:Int).tdiv n=(i:Int)/n:=Int.tdiv_eq_ediv_of_nonneg (by omega)
  have nz:¬(n:Int)=0:=by omega
  have nz':¬n=0:=by omega
  have sp:=fun F=>Cb (frz:=F) (H:=H') w h r ((i/n:Nat):Int) ((i%n:Nat):Int) hr ⟨Int.natCast_nonneg _,by rw [hn];exact Int.ofNat_lt.2 q1⟩ ⟨Int.natCast_nonneg _,by rw [hn];exact Int.ofNat_lt.2 q2⟩
  obtain ⟨X,hX⟩:∃X,X=((i/n:Nat):Int):=⟨_,rfl⟩
  obtain ⟨Y,hY⟩:∃Y,Y=((i%n:Nat):Int):=⟨_,rfl⟩
  rw [← hX] at d1
  rw [← hY] at d2
  rw [← hX,← hY] at sp
  simp
  rw [Qj (h:=by kernel_rfl)]
  obtain ⟨vo',H3,e3,oo3,c3,n3⟩:=oo.push (P:=Tryz.prog) (frz:=H.length) (ty:=24) (a:=stdPort w r X Y) (by simp) rfl (by omega) (fun i hi=>by have:=no i hi;omega)
  simp only [Fl.int_f] at e3
  have lc:=Qt b6
  have b2':=Qa b2 c3 (fun hh=>by have:=no _ hh;omega)
  have b4':=Qa b4 c3 (fun hh=>by have:=no _ hh;omega)
  have b6':=Qa b6 c3 (fun hh=>by have:=no _ hh;omega)
  have no3:∀i∈ids vo',H.length+2<i:=fun i hi=>by rcases n3 i hi with h|h;exact no i h;omega
  have one:=And.intro oo.rd.one' oo.rd.cells
  have one3:=And.intro oo3.rd.one' oo3.rd.cells
  have hF:H.length≤H.length+2:=by omega
  simp [-Qn,-Qv,VM.look,b2,b6,sp,one,e3,b6',one3,h1,h2,h4,h5,h6,h7,d1,d2,d3,nz,nz',hF]
  refine ih (M-(i+1)) _ _ ⟨i+1,vo',o++[stdPort w r X Y],rfl,by omega,?_,by simp [h1],by simp [h2],by simp [h4],by simp [h5],by simp [h6],?_,
   (c0.trans' c3 (fun i hi=>.inr (by have:=no i hi;omega))).trans' (Qe _ _) (fun i hi=>.inr (by simp at hi;omega)),Qa b2' (Qe _ _) (by simp),Qa b4' (Qe _ _) (by simp),Qg b6',
   oo3.chg (Qe _ _) (fun i hi hh=>by have:=no3 i hi;simp at hh;omega),no3⟩ (by omega)
  ·rw [List.range_succ,List.map_append,← ho];simp only [List.map_cons,List.map_nil,hX,hY]
  ·simp [h7];rw [w64 (by omega) (by omega)]
 ·have:i=M:=by omega
  subst this
  have lc:=Qt b6
  have one:=And.intro oo.rd.one' oo.rd.cells
  have g4:=Qg (r':=⟨[vo],0,43⟩) b4
  have hol:o.length=i:=by rw [ho];simp
  have hF:H.length≤H.length+1:=by omega
  simp [h1,h2,h4,h5,h6,h7,VM.look,b6,b4,one,g4,hF]
  exact ⟨vo,rfl,⟨(by rw [show stdTab w r n=o from by rw [ho,hM];rfl];exact oo.chg (Qe _ _) (fun i hi hh=>by have:=no i hi;simp at hh;omega)),by rw [Pi];omega⟩,c0.trans' (Qe _ _) (fun i hi=>.inr (by simp at hi;omega)),fun i hi=>by have:=no i hi;omega,Qq vo⟩
def tabs (x:NetD) (p q:Int):ClassesD:=(stdTab x.1.1 p (cnt x.1.1 x.1.2.1).toNat,stdTab x.1.1 q (cnt x.1.1 x.1.2.1).toNat)
def ruledOk (x:NetD) (p q:Int):Prop:=¬0<x.1.2.2.length∧replOk x (tabs x p q)
instance (x:NetD) (p q:Int):Decidable (ruledOk x p q):=inferInstanceAs (Decidable (_∧_))
def ruledN (x:NetD) (p q:Int):NetD:=if 0<x.1.2.2.length then x else repl x (tabs x p q)
def zNet:List Value:=[.int .i64 0,.int .i64 0,.slice none 0 0,.slice none 0 0,.slice none 0 0,.slice none 0 0,.slice none 0 0,.slice none 0 0,.slice none 0 0,.slice none 0 0,.int .i64 0]
def NetPost (H:Heap) (v:NetV) (y:NetD) (b:Bool) (r:Value) (H':Heap):Prop:=
 ∃w:NetV,r=.tuple #[dNet.val w y,.bool b]∧dNet.Ow H' w y∧(dNet.ids w).Nodup∧(∀i∈dNet.ids w,i∈dNet.ids v∨H.length≤i)∧Chg H H' []
theorem Qb4 {v:NetV} {x:NetD} {p q:Int} (hp:1≤p∧p≤4) (hq:1≤q∧q≤4) (hg:okG x.1.1 x.1.2.1) (o:dNet.Ow H v x) (nd:(dNet.ids v).Nodup) :
 wp (vcall C frz 146 [dNet.val v x,.int .i64 p,.int .i64 q] H) (NetPost H v (ruledN x p q) (decide (ruledOk x p q))):=by
 have ones:=Qi o
 have hlt:=dNet.lt o
 have st1:=fun K=>P5 (frz:=H.length) (H:=K) x.1.1 x.1.2.1 p (cnt x.1.1 x.1.2.1).toNat hp hg (by have:=Qm x.1.1 x.1.2.1;omega)
 have st2:=fun K=>P5 (frz:=H.length) (H:=K) x.1.1 x.1.2.1 q (cnt x.1.1 x.1.2.1).toNat hq hg (by have:=Qm x.1.1 x.1.2.1;omega)
 have et:tabs x p q=(stdTab x.1.1 p (cnt x.1.1 x.1.2.1).toNat,stdTab x.1.1 q (cnt x.1.1 x.1.2.1).toNat):=rfl
 simp only [Qd]
 rw [Qb (fn:=Tryz.f146) Tryz.func146 rfl (by kernel_rfl) rfl]
 obtain ⟨G,hG⟩:∃G,G=H++[⟨netCells v x,0,48⟩,⟨zNet,0,48⟩]:=⟨_,rfl⟩
 have cG:Chg H G []:=by rw [hG];exact Chg.app _
 have b0:G[H.length]? = some ⟨netCells v x,0,48⟩:=by rw [hG];simp
 have bR:G[H.length+1]? = some ⟨zNet,0,48⟩:=by rw [hG];simp
 have lG:G.length=H.length+2:=by rw [hG];simp
 have hGs:=hG.symm
 have b0':=b0
 unfold netCells zNet at hGs
 unfold netCells at b0'
 simp [ones]
 rw [hGs]
 clear hG hGs
 try simp [VM.look,b0',ones]
 refine Qf (st1 G) ?_
 rintro _ K1 ⟨_,rfl,v1,rfl,o1,c1,m1,d1⟩
 have q1:=Wc o1
 have l1:=c1.1
 have hF1:H.length≤K1.length:=by omega
 obtain ⟨K2,hK2⟩:∃K2,K2=K1++[⟨[v1],0,43⟩]:=⟨_,rfl⟩
 have c12:Chg K1 K2 []:=by rw [hK2];exact Chg.app _
 have l2:K2.length=K1.length+1:=by rw [hK2];simp
 have bA:K2[K1.length]? = some ⟨[v1],0,43⟩:=by rw [hK2];simp
 have b0:=Qa (Qa b0 c1 (by simp)) c12 (by simp)
 have bR:=Qa (Qa bR c1 (by simp)) c12 (by simp)
 have o1:=Dt.chg (T:=dTable) o1 c12 (by simp)
 have hKs:=hK2.symm
 have b0':=b0
 unfold netCells at b0'
 simp [Q9,q1,VM.look,hF1]
 rw [hKs]
 clear hK2 hKs
 simp [VM.look,b0',ones]
 refine Qf (st2 K2) ?_
 rintro _ K3 ⟨_,rfl,v2,rfl,o2,c3,m2,d2⟩
 have q2:=Wc o2
 have l3:=c3.1
 have hF3:H.length≤K3.length:=by omega
 obtain ⟨K4,hK4⟩:∃K4,K4=K3++[⟨[v2],0,43⟩]:=⟨_,rfl⟩
 have c34:Chg K3 K4 []:=by rw [hK4];exact Chg.app _
 have bB:K4[K3.length]? = some ⟨[v2],0,43⟩:=by rw [hK4];simp
 have b0:=Qa (Qa b0 c3 (by simp)) c34 (by simp)
 have bR:=Qa (Qa bR c3 (by simp)) c34 (by simp)
 have bA:=Qa (Qa bA c3 (by simp)) c34 (by simp)
 have o1:=Dt.chg (T:=dTable) (Dt.chg (T:=dTable) o1 c3 (by simp)) c34 (by simp)
 have o2:=Dt.chg (T:=dTable) o2 c34 (by simp)
 have cH4:Chg H K4 []:=(((cG.trans c1).trans c12).trans c3).trans c34
 have on4:=Dt.chg (T:=dNet) o cH4 (by simp)
 have ln:=on4.1.1.rd.len (P:=Tryz.prog) (ty:=24) (by simp)
 have hKs:=hK4.symm
 have b0':=b0
 unfold netCells at b0'
 have hF:H.length≤H.length+1:=by omega
 simp [Q9,q2,VM.look,hF3]
 rw [hKs]
 clear hK4 hKs
 simp [VM.look,b0',ones,ln]
 by_cases g:0<x.1.2.2.length
 ·have gR:=Qg (r':=⟨netCells v x,0,48⟩) bR
  have hM:NetPost H v (ruledN x p q) (decide (ruledOk x p q)) (.tuple #[dNet.val v x,.bool false]) (K4.set (H.length+1) ⟨netCells v x,0,48⟩):=by
   have e1:ruledN x p q=x:=if_pos g
   have e2:decide (ruledOk x p q)=false:=decide_eq_false (fun k=>k.1 g)
   rw [e1,e2]
   exact ⟨v,rfl,Dt.chg (T:=dNet) on4 (Qe _ _) (fun i hi hh=>by have:=hlt i hi;simp at hh;omega),nd,fun i hi=>.inl hi,cH4.trans' (Qe _ _) (fun i hi=>.inr (by simp at hi;omega))⟩
  unfold zNet at bR
  unfold netCells at gR hM
  simp only [Qd] at hM
  simp [VM.look,g,b0',bR,gR,ones,hF]
  simpa using hM
 ·have rp:=Cp (frz:=H.length) on4 (vc:=(v1,v2)) (t:=tabs x p q) ⟨o1,o2⟩
  simp only [Qd,Wa] at rp
  simp [VM.look,g,b0',bA,bB,ones,q1,q2]
  refine Qf rp ?_
  rintro _ K5 ⟨_,rfl,w,rfl,ow,cw,mw,dw⟩
  have l4:=cH4.1
  obtain ⟨y,hy⟩:∃y,y=repl x (tabs x p q):=⟨_,rfl⟩
  rw [← hy] at ow
  have onew:=Qi ow
  have bR:=Qa bR cw (by simp)
  have lR:=Qt bR
  have gR:=Qg (r':=⟨netCells w y,0,48⟩) bR
  have hM:NetPost H v (ruledN x p q) (decide (ruledOk x p q)) (.tuple #[dNet.val w y,.bool (decide (replOk x (tabs x p q)))]) (K5.set (H.length+1) ⟨netCells w y,0,48⟩):=by
   have e1:ruledN x p q=y:=by rw [hy];exact if_neg g
   have e2:decide (ruledOk x p q)=decide (replOk x (tabs x p q)):=by simp [ruledOk,g]
   rw [e1,e2]
   have l12:H.length+2≤K4.length:=by have:=c34.1;omega
   exact ⟨w,rfl,Dt.chg (T:=dNet) ow (Qe _ _) (fun i hi hh=>by have:=mw i hi;simp at hh;omega),dw,fun i hi=>.inr (by have:=mw i hi;omega),(cH4.trans cw).trans' (Qe _ _) (fun i hi=>.inr (by simp at hi;omega))⟩
  unfold zNet at bR
  unfold netCells at gR hM
  simp only [Qd] at hM
  simp [Qd,← hy,VM.look,bR,gR,onew,hF]
  simpa using hM
noncomputable def actN (a:ChipD) (k p q r s:Int):ChipD×Int:=
 if k=1 then (chipSend a p q r s,if sendsOk a (nextP a p q r s) then ((chipSend a p q r s).2.length:Int) else 0)
 else if k=2 then (chipRun a p,(flits (chipRun a p).1.2.2.1:Int)+flits (chipRun a p).1.2.2.2.2.2.1)
 else if k=3 then ((idled a.1,a.2),idleAt a.1)
 else if k=4 then ((brk a.1 p,a.2),if brkOk a.1 p then 1 else 0)
 else ((ruledN a.1 p q,a.2),if ruledOk a.1 p q then 1 else 0)
def ActPost (H:Heap) (v:ChipV) (id:Nat) (y:ChipD) (k:Int) (r:Value) (H':Heap):Prop:=
 r=.int .i64 k∧∃w:ChipV,H'[id]? = some ⟨chipCells w y,0,51⟩∧dChip.Ow H' w y∧(dChip.ids w).Nodup∧(∀i∈dChip.ids w,i∈dChip.ids v∨H.length≤i)∧Chg H H' [id]
theorem Pn {H J:Heap} {v:ChipV} {a:ChipD} {id:Nat} {w:NetV} {y:NetD} {k k':Int} {z:ChipD} (o:dChip.Ow H v a) (nd:(dChip.ids v).Nodup) (hid:id<H.length) (hn:id∉dChip.ids v) (c:Chg H J []) (b:J[id]? = some ⟨chipCells v a,0,51⟩)
 (ow:dNet.Ow J w y) (dw:(dNet.ids w).Nodup) (mw:∀i∈dNet.ids w,i∈dNet.ids v.1∨H.length≤i) (e:z=(y,a.2)) (ek:k'=k) :
 ActPost H v id z k' (.int .i64 k) (J.set id ⟨chipCells (w,v.2) (y,a.2),0,51⟩):=by
 subst e ek
 have hlt:=dChip.lt o
 obtain ⟨n1,n2,n3⟩:=List.nodup_append.1 nd
 have cs:Chg J (J.set id ⟨chipCells (w,v.2) (y,a.2),0,51⟩) [id]:=Qe _ _
 have hw:id∉dNet.ids w:=fun hh=>by
  rcases mw id hh with h|h
  ·exact hn (List.mem_append_left _ h)
  ·omega
 refine ⟨rfl,(w,v.2),Qg b,⟨Dt.chg (T:=dNet) ow cs (fun i hi hh=>by simp at hh;exact hw (hh▸hi)),Dt.chg (T:=dPk) (Dt.chg (T:=dPk) o.2 c (by simp)) cs (fun i hi hh=>by simp at hh;exact hn (List.mem_append_right _ (hh▸hi)))⟩,?_,fun i hi=>?_,(c.mono (fun _ h=>by cases h)).trans cs⟩
 ·refine List.nodup_append.2 ⟨dw,n2,fun x hx z hz e=>?_⟩
  subst e
  rcases mw x hx with h|h
  ·exact n3 x h x hz rfl
  ·have:=hlt x (List.mem_append_right _ hz);omega
 ·rcases List.mem_append.1 hi with h|h
  ·exact (mw i h).imp (fun h=>List.mem_append_left _ h) _root_.id
  ·exact .inl (List.mem_append_right _ h)
theorem Jg {H J:Heap} {v w:ChipV} {y z:ChipD} {id:Nat} {k k':Int} {r:Row} (hid:id<H.length) (c:Chg H J []) (b:J[id]? = some r) (ow:dChip.Ow J w y) (dw:(dChip.ids w).Nodup) (mw:∀i∈dChip.ids w,H.length≤i) (e:z=y) (ek:k'=k) :
 ActPost H v id z k' (.int .i64 k) (J.set id ⟨chipCells w y,0,51⟩):=by
 subst e ek
 exact ⟨rfl,w,Qg b,Dt.chg (T:=dChip) ow (Qe _ _) (fun i hi hh=>by have:=mw i hi;simp at hh;omega),dw,fun i hi=>.inr (mw i hi),(c.mono (fun _ h=>by cases h)).trans (Qe _ _)⟩
theorem ActPost.mono {G J:Heap} {v:ChipV} {id:Nat} {y:ChipD} {k:Int} {r:Value} (h:ActPost G v id y k r J) (c:Chg H G []):ActPost H v id y k r J:=by
 obtain ⟨h1,w,h2,h3,h4,h5,h6⟩:=h
 exact ⟨h1,w,h2,h3,h4,fun i hi=>(h5 i hi).imp _root_.id (fun h=>by have:=c.1;omega),(c.mono (fun _ h=>by cases h)).trans h6⟩
theorem Qhr {v:ChipV} {a:ChipD} {id:Nat} {k p q r s:Int} (hr:H[id]? = some ⟨chipCells v a,0,51⟩) (o:dChip.Ow H v a) (nd:(dChip.ids v).Nodup) (hid:id∉dChip.ids v) (hfi:frz≤id) (hfH:frz≤H.length) (hc:chipOk a) (ha:actOk k p q r s) (h9:allL 66000000 a.1.2.2.2.2.2.2.1) :
 wp (vcall C frz 80 [.pointer (some ⟨id,0,some 0⟩),.agg #[.int .i64 k,.int .i64 p,.int .i64 q,.int .i64 r,.int .i64 s]] H) (ActPost H v id (actN a k p q r s).1 (actN a k p q r s).2):=by
 have oneA:=Qp o
 have ones:=oneA.1
 have one2:=oneA.2
 have hidl:=Qt hr
 rw [Qb (fn:=Tryz.f80) Tryz.func80 rfl (by kernel_rfl) rfl]
 obtain ⟨G,hG⟩:∃G,G=H++[⟨[.int .i64 k,.int .i64 p,.int .i64 q,.int .i64 r,.int .i64 s],0,79⟩]:=⟨_,rfl⟩
 have cG:Chg H G []:=by rw [hG];exact Chg.app _
 have lG:G.length=H.length+1:=by rw [hG];simp
 have bA:G[H.length]? = some ⟨[.int .i64 k,.int .i64 p,.int .i64 q,.int .i64 r,.int .i64 s],0,79⟩:=by rw [hG];simp
 have hGs:=hG.symm
 simp
 rw [hGs]
 clear hG hGs
 have bC:=Qa hr cG (by simp)
 have oG:=Dt.chg (T:=dChip) o cG (by simp)
 have hidG:id<G.length:=by omega
 have bC':=bC
 unfold chipCells netCells at bC'
 simp only [List.cons_append,List.nil_append] at bC'
 have n1:=(List.nodup_append.1 nd).1
 by_cases k1:k=1
 ·have e1:actN a k p q r s=(chipSend a p q r s,if sendsOk a (nextP a p q r s) then ((chipSend a p q r s).2.length:Int) else 0):=if_pos k1
  have cs:=Fs (frz:=frz) (q2:=p) (q3:=q) (q4:=r) (q5:=s) oG
  simp only [Qh] at cs
  rw [e1]
  simp [VM.look,bA,k1]
  rw [Qj (h:=by kernel_rfl)]
  simp [VM.look,VM.vnil,bA,bC',ones,one2]
  refine Qf cs ?_
  rintro _ J ⟨_,rfl,w,rfl,ow,cw,mw,dw⟩
  obtain ⟨y,hy⟩:∃y,y=chipSend a p q r s:=⟨_,rfl⟩
  rw [← hy] at ow
  have onw:=Qp ow
  have bJ:=Qa bC cw (by simp)
  have gC:=Qg (r':=⟨chipCells w y,0,51⟩) bJ
  have cS:Chg J (J.set id ⟨chipCells w y,0,51⟩) [id]:=Qe _ _
  have hidw:id∉dChip.ids w:=fun hh=>by have:=mw _ hh;omega
  have ln:=(Dt.chg (T:=dPk) ow.2 cS (fun i hi hh=>hidw (List.mem_append_right _ (by simp at hh;exact hh▸hi)))).1.rd.len (P:=Tryz.prog) (ty:=49) (by simp)
  have hb:=ow.2.2
  have fl:=fun F H=>Ei (frz:=F) (H:=H)
  obtain ⟨B,hB⟩:∃B,B=decide (sendsOk a (nextP a p q r s)):=⟨_,rfl⟩
  have hM:=(Jg (v:=v) (z:=y) (k:=if B then (y.2.length:Int) else 0) hidG cw bJ ow dw mw rfl rfl).mono cG
  have hq:(if sendsOk a (nextP a p q r s) then (y.2.length:Int) else 0)=if B then (y.2.length:Int) else 0:=by rw [hB];by_cases g:sendsOk a (nextP a p q r s)<;>simp [g]
  rw [← hB,← hy,hq]
  have w1:∀[Inhabited Unit],IntKind.i64.wrap (y.2.length:Int)=y.2.length:=by intro _;exact w64 (by omega) (by omega)
  unfold chipCells netCells at bJ gC ln hM
  simp only [List.cons_append,List.nil_append] at bJ gC ln hM
  simp [Qh,← hy,VM.look,VM.vnil,bJ,onw,hfi]
  rw [Qj (h:=by kernel_rfl)]
  have w0:∀[Inhabited Unit],IntKind.i64.wrap 0=0:=by intro _;exact w64 (by omega) (by omega)
  cases B<;>simp [VM.look,VM.vnil,gC,onw,fl,ln,w1,w0]<;>simpa using hM
 by_cases k2:k=2
 ·have e1:actN a k p q r s=(chipRun a p,(flits (chipRun a p).1.2.2.1:Int)+flits (chipRun a p).1.2.2.2.2.2.1):=by unfold actN;rw [if_neg k1,if_pos k2]
  have cs:=Cw (frz:=frz) (k:=p) oG h9
  simp only [Qh] at cs
  rw [e1]
  simp [VM.look,bA,k1,k2]
  rw [Qj (h:=by kernel_rfl)]
  simp [VM.look,VM.vnil,bA,bC',ones,one2]
  refine Qf cs ?_
  rintro _ J ⟨_,rfl,w,rfl,ow,cw,mw,dw⟩
  obtain ⟨y,hy⟩:∃y,y=chipRun a p:=⟨_,rfl⟩
  rw [← hy] at ow
  have onw:=Qp ow
  have bJ:=Qa bC cw (by simp)
  have gC:=Qg (r':=⟨chipCells w y,0,51⟩) bJ
  have cS:Chg J (J.set id ⟨chipCells w y,0,51⟩) [id]:=Qe _ _
  have hidw:id∉dChip.ids w:=fun hh=>by have:=mw _ hh;omega
  have oS:=Dt.chg (T:=dNet) ow.1 cS (fun i hi hh=>hidw (List.mem_append_left _ (by simp at hh;exact hh▸hi)))
  have f1:=fun F=>Ve (frz:=F) oS.2.2.1
  have f2:=fun F=>Ve (frz:=F) oS.2.2.2.2.2.1
  have z1:=Tg y.1.2.2.1 ow.1.2.2.1.2.1 ow.1.2.2.1.2.2
  have z2:=Tg y.1.2.2.2.2.2.1 ow.1.2.2.2.2.2.1.2.1 ow.1.2.2.2.2.2.1.2.2
  have w1:∀[Inhabited Unit],IntKind.i64.wrap ((flits y.1.2.2.1:Int)+(flits y.1.2.2.2.2.2.1:Int))=(flits y.1.2.2.1:Int)+flits y.1.2.2.2.2.2.1:=by intro _;exact w64 (by omega) (by omega)
  have hM:=(Jg (v:=v) (z:=y) (k:=(flits y.1.2.2.1:Int)+flits y.1.2.2.2.2.2.1) hidG cw bJ ow dw mw rfl rfl).mono cG
  rw [← hy]
  unfold chipCells netCells at bJ gC f1 f2 hM
  simp only [List.cons_append,List.nil_append] at bJ gC f1 f2 hM
  simp [Qh,← hy,VM.look,VM.vnil,bJ,onw,hfi]
  rw [Qj (h:=by kernel_rfl)]
  simp [VM.look,VM.vnil,gC,onw,f1,f2,w1]
  simpa using hM
 by_cases k3:k=3
 ·have e1:actN a k p q r s=((idled a.1,a.2),idleAt a.1):=by unfold actN;rw [if_neg k1,if_neg k2,if_pos k3]
  have cs:=Qal (frz:=frz) oG.1 h9
  simp only [Qd] at cs
  rw [e1]
  simp [VM.look,VM.vnil,bA,bC',ones,one2,k1,k2,k3]
  refine Qf cs ?_
  rintro _ J ⟨_,rfl,w,rfl,ow,cw,mw,dw⟩
  obtain ⟨y,hy⟩:∃y,y=idled a.1:=⟨_,rfl⟩
  rw [← hy] at ow
  have onw:=Qi ow
  have lJ:=cw.1
  have hFJ:frz≤J.length:=by omega
  obtain ⟨J2,hJ2⟩:∃J2,J2=J++[⟨netCells w y,0,48⟩]:=⟨_,rfl⟩
  have c2:Chg J J2 []:=by rw [hJ2];exact Chg.app _
  have bN:J2[J.length]? = some ⟨netCells w y,0,48⟩:=by rw [hJ2];simp
  have bJ:=Qa (Qa bC cw (by simp)) c2 (by simp)
  have ow2:=Dt.chg (T:=dNet) ow c2 (by simp)
  have hM:=(Pn (k:=idleAt a.1) oG nd hidG hid (cw.trans c2) bJ ow2 dw (fun i hi=>.inr (mw i hi)) (z:=(y,a.2)) rfl rfl).mono cG
  have hJs:=hJ2.symm
  rw [← hy]
  unfold chipCells netCells at bJ hM
  unfold netCells at bN hJs
  simp only [List.cons_append,List.nil_append] at bJ hM
  simp [Qd,← hy,onw,hFJ]
  rw [hJs]
  clear hJ2 hJs
  simp [VM.look,VM.vnil,bN,bJ,onw,hfi]
  simpa using hM
 by_cases k4:k=4
 ·have e1:actN a k p q r s=((brk a.1 p,a.2),if brkOk a.1 p then 1 else 0):=by unfold actN;rw [if_neg k1,if_neg k2,if_neg k3,if_pos k4]
  have cs:=Cy (frz:=frz) (c:=p) oG.1
  simp only [Qd] at cs
  rw [e1]
  simp [VM.look,VM.vnil,bA,k1,k2,k3,k4]
  rw [Qj (h:=by kernel_rfl)]
  simp [VM.look,VM.vnil,bA,bC',ones,one2]
  refine Qf cs ?_
  rintro _ J ⟨_,rfl,w,rfl,ow,cw,mw,dw⟩
  obtain ⟨y,hy⟩:∃y,y=brk a.1 p:=⟨_,rfl⟩
  rw [← hy] at ow
  have onw:=Qi ow
  have bJ:=Qa bC cw (by simp)
  have fl:=fun F H=>Ei (frz:=F) (H:=H)
  obtain ⟨B,hB⟩:∃B,B=decide (brkOk a.1 p):=⟨_,rfl⟩
  have hM:=(Pn (k:=if B then (1:Int) else 0) oG nd hidG hid cw bJ ow dw (fun i hi=>.inr (mw i hi)) (z:=(y,a.2)) rfl rfl).mono cG
  have hq:(if brkOk a.1 p then (1:Int) else 0)=if B then 1 else 0:=by rw [hB];by_cases g:brkOk a.1 p<;>simp [g]
  rw [← hB,← hy,hq]
  unfold chipCells netCells at bJ hM
  simp only [List.cons_append,List.nil_append] at bJ hM
  cases B<;>simp [Qd,← hy,VM.look,VM.vnil,bJ,onw,hfi,fl]<;>simpa using hM
 have hk5:k=5∧inR 1 p 4∧inR 1 q 4:=by
  unfold actOk at ha
  rw [if_neg k1,if_neg k2,if_neg k3,if_neg k4] at ha
  exact ⟨ha.1,ha.2.1,ha.2.2.1⟩
 obtain ⟨k5,hp,hq'⟩:=hk5
 have e1:actN a k p q r s=((ruledN a.1 p q,a.2),if ruledOk a.1 p q then 1 else 0):=by unfold actN;rw [if_neg k1,if_neg k2,if_neg k3,if_neg k4]
 have cs:=Qb4 (frz:=frz) hp hq' hc.1.1.1.1.1.2 oG.1 n1
 simp only [Qd] at cs
 rw [e1]
 simp [VM.look,VM.vnil,bA,k1,k2,k3,k4,k5]
 rw [Qj (h:=by kernel_rfl)]
 simp [VM.look,VM.vnil,bA,bC',ones,one2]
 refine Qf cs ?_
 rintro _ J ⟨w,rfl,ow,dw,mw,cw⟩
 obtain ⟨y,hy⟩:∃y,y=ruledN a.1 p q:=⟨_,rfl⟩
 rw [← hy] at ow
 have onw:=Qi ow
 have bJ:=Qa bC cw (by simp)
 have fl:=fun F H=>Ei (frz:=F) (H:=H)
 obtain ⟨B,hB⟩:∃B,B=decide (ruledOk a.1 p q):=⟨_,rfl⟩
 have hM:=(Pn (k:=if B then (1:Int) else 0) oG nd hidG hid cw bJ ow dw mw (z:=(y,a.2)) rfl rfl).mono cG
 have hq:(if ruledOk a.1 p q then (1:Int) else 0)=if B then 1 else 0:=by rw [hB];by_cases g:ruledOk a.1 p q<;>simp [g]
 rw [← hB,← hy,hq]
 unfold chipCells netCells at bJ hM
 simp only [List.cons_append,List.nil_append] at bJ hM
 cases B<;>simp [Qd,← hy,VM.look,VM.vnil,bJ,onw,hfi,fl]<;>simpa using hM
def acts (a:ChipD) (k p q r s:Int):Prop:=chipOk a∧actOk k p q r s
instance (a:ChipD) (k p q r s:Int):Decidable (acts a k p q r s):=inferInstanceAs (Decidable (_∧_))
noncomputable def doAct (a:ChipD) (k p q r s:Int):ChipD×Int:=if acts a k p q r s then actN a k p q r s else (a,-1)
def MadeC (H:Heap) (y:ChipD) (k:Int) (r:Value) (H':Heap):Prop:=∃u,r=.tuple #[u,.int .i64 k]∧dChip.Made H y u H'
theorem madeC {K:Heap} {n:ChipV} {y z:ChipD} {k k':Int} {r:Row} (o:dChip.Ow K n y) (c:Chg H K []) (m:∀i∈dChip.ids n,H.length+3≤i) (d:(dChip.ids n).Nodup) (e1:z=y) (e2:k'=k) :
 MadeC H z k' (.tuple #[dChip.val n y,.int .i64 k]) (K.set (H.length+2) r):=by
 subst e1 e2
 exact ⟨dChip.val n z,rfl,n,rfl,Dt.chg (T:=dChip) o (Qe _ _) (fun i hi hh=>by have:=m i hi;simp at hh;omega),c.trans' (Qe _ _) (fun i hi=>.inr (by simp at hi;omega)),fun i hi=>by have:=m i hi;omega,d⟩
theorem Qbi {v:ChipV} {a:ChipD} {k p q r s:Int} (o:dChip.Ow H v a) (h9:allL 66000000 a.1.2.2.2.2.2.2.1) :
 wp (vcall C frz 36 [dChip.val v a,.agg #[.int .i64 k,.int .i64 p,.int .i64 q,.int .i64 r,.int .i64 s]] H) (MadeC H (doAct a k p q r s).1 (doAct a k p q r s).2):=by
 have oneA:=Qp o
 have ones:=oneA.1
 have one2:=oneA.2
 have ecopy:=fun K (c:Chg H K [])=>Z5 (frz:=H.length) (H:=K) (v:=v) (a:=a) (Dt.chg (T:=dChip) o c (by simp))
 have ck:=fun F K (c:Chg H K [])=>Ul (frz:=F) (H:=K) (v:=v) (a:=a) (Dt.chg (T:=dChip) o c (by simp))
 have ao:=fun F H=>Qbe (frz:=F) (H:=H) k p q r s
 simp only [Qh] at ecopy ck ⊢
 rw [Qb (fn:=Tryz.f36) Tryz.func36 rfl (by kernel_rfl) rfl]
 obtain ⟨G,hG⟩:∃G,G=H++[⟨chipCells v a,0,51⟩,⟨[.int .i64 k,.int .i64 p,.int .i64 q,.int .i64 r,.int .i64 s],0,79⟩,⟨zChip,0,51⟩]:=⟨_,rfl⟩
 have cG:Chg H G []:=by rw [hG];exact Chg.app _
 have b0:G[H.length]? = some ⟨chipCells v a,0,51⟩:=by rw [hG];simp
 have bA:G[H.length+1]? = some ⟨[.int .i64 k,.int .i64 p,.int .i64 q,.int .i64 r,.int .i64 s],0,79⟩:=by rw [hG];simp
 have bR:G[H.length+2]? = some ⟨zChip,0,51⟩:=by rw [hG];simp
 have lG:G.length=H.length+3:=by rw [hG];simp
 have hGs:=hG.symm
 unfold chipCells netCells zChip at hGs
 simp only [List.cons_append,List.nil_append] at hGs
 simp [ones,one2]
 rw [hGs]
 clear hG hGs
 have b0':=b0
 unfold chipCells netCells at b0'
 simp only [List.cons_append,List.nil_append] at b0'
 try simp [VM.look,b0',ones,one2]
 refine Qf (ecopy G cG) ?_
 rintro _ K ⟨n,rfl,on,cn,mn,dn⟩
 have cK:Chg H K []:=cG.trans cn
 have b0:=Qa b0 cn (by simp)
 have bA:=Qa bA cn (by simp)
 have bR:=Qa bR cn (by simp)
 have oneN:=Qp on
 have qn:=oneN.1
 have qn2:=oneN.2
 have lK:=cn.1
 have hFK:H.length≤K.length:=by omega
 obtain ⟨K2,hK2⟩:∃K2,K2=K++[⟨chipCells n a,0,51⟩]:=⟨_,rfl⟩
 have c12:Chg K K2 []:=by rw [hK2];exact Chg.app _
 have cK2:=cK.trans c12
 have l2:K2.length=K.length+1:=by rw [hK2];simp
 have b0:=Qa b0 c12 (by simp)
 have bA:=Qa bA c12 (by simp)
 have bR:=Qa bR c12 (by simp)
 have bC:K2[K.length]? = some ⟨chipCells n a,0,51⟩:=by rw [hK2];simp
 have on2:=Dt.chg (T:=dChip) on c12 (by simp)
 have hF:H.length≤H.length+2:=by omega
 have mn':∀i∈dChip.ids n,H.length+3≤i:=fun i hi=>by have:=mn i hi;omega
 have ltn:∀i∈dChip.ids n,i<K.length:=fun i hi=>dChip.lt on i hi
 have hKs:=hK2.symm
 unfold chipCells netCells at hKs
 simp only [List.cons_append,List.nil_append] at hKs
 simp [Qh,VM.look,qn,qn2,hFK]
 rw [hKs]
 clear hK2 hKs
 have ck':=fun F=>ck F K2 cK2
 have b0':=b0
 have bC':=bC
 unfold chipCells netCells at b0' bC'
 simp only [List.cons_append,List.nil_append] at b0' bC'
 have gR:=Qg (r':=⟨chipCells n a,0,51⟩) bR
 have bad:¬acts a k p q r s→MadeC H (doAct a k p q r s).1 (doAct a k p q r s).2 (.tuple #[dChip.val n a,.int .i64 (-1)]) (K2.set (H.length+2) ⟨chipCells n a,0,51⟩):=fun hb=>by
  have e:doAct a k p q r s=(a,-1):=if_neg hb
  rw [e]
  exact madeC on2 cK2 mn' dn rfl rfl
 have bR':=bR
 unfold zChip at bR'
 unfold chipCells netCells at gR bad
 simp only [List.cons_append,List.nil_append] at gR bad
 by_cases g0:chipOk a
 rotate_left
 ·have hM:=bad (fun h=>g0 h.1)
  simp [VM.look,b0',ones,one2,ck',g0,bC',qn,qn2,bR',gR,hF]
  simpa [Qh] using hM
 by_cases g1:actOk k p q r s
 rotate_left
 ·have hM:=bad (fun h=>g1 h.2)
  simp [VM.look,b0',ones,one2,ck',g0,bA,ao,g1,bC',qn,qn2,bR',gR,hF]
  simpa [Qh] using hM
 have e:doAct a k p q r s=actN a k p q r s:=if_pos ⟨g0,g1⟩
 have ac:=Qhr (frz:=H.length) (id:=K.length) bC on2 dn (fun hh=>by have:=ltn _ hh;omega) hFK (by omega) g0 g1 h9
 rw [e]
 simp [VM.look,b0',ones,one2,ck',g0,bA,ao,g1]
 refine Qf ac ?_
 rintro _ J ⟨rfl,w,bJ,ow,dw,mw,cw⟩
 obtain ⟨y,hy⟩:∃y,y=(actN a k p q r s).1:=⟨_,rfl⟩
 obtain ⟨m,hm⟩:∃m,m=(actN a k p q r s).2:=⟨_,rfl⟩
 rw [← hy] at bJ ow ⊢
 rw [← hm]
 have onw:=Qp ow
 have bRJ:=Qa bR cw (by simp;omega)
 have gJ:=Qg (r':=⟨chipCells w y,0,51⟩) bRJ
 have hM:=madeC (H:=H) (z:=y) (k:=m) (r:=⟨chipCells w y,0,51⟩) ow (cK2.trans' cw (fun i hi=>.inr (by simp at hi;omega))) (fun i hi=>by
  rcases mw i hi with h|h
  ·exact mn' i h
  ·omega) dw rfl rfl
 unfold zChip at bRJ
 unfold chipCells netCells at bJ gJ hM
 simp only [List.cons_append,List.nil_append] at bJ gJ hM
 simp [VM.look,bJ,bRJ,gJ,onw,hF]
 simpa [Qh] using hM
theorem Nf {a:ChipD} (h:chipOk a) (k:Int):netOk (chipRun a k).1:=by
 unfold chipRun
 rw [if_pos h]
 show netOk (runNet a.1 k)
 unfold runNet
 split
 ·rename_i g
  have:=g.2.2
  have:=g.2.1.1
  exact Mj h.1 _ (by omega)
 ·exact h.1
theorem Cd {v:NetV} {x:NetD} (h:netOk x) (o:dNet.Ow H v x):vcall C frz 64 [dNet.val v x] H=some (.int .i64 (flits x.2.2.1),H):=by
 refine wp.exact (by simp) ?_ rfl
 have ones:=Qi o
 have nk:=fun F L=>Yc (frz:=F) (H:=H++L) (v:=v) (x:=x) (Dt.app (T:=dNet) o)
 have f1:=fun F L=>Tr (frz:=F) (H:=H++L) (Dt.app (T:=dSS) o.2.2.1)
 simp only [Qd] at nk ⊢
 rw [Qb (fn:=Tryz.f64) Tryz.func64 rfl (by kernel_rfl) rfl]
 simp [ones,VM.look,nk,h,f1]
theorem Gf {v:NetV} {x:NetD} (h:netOk x) (o:dNet.Ow H v x):vcall C frz 65 [dNet.val v x] H=some (.int .i64 (flits x.2.2.2.2.2.1),H):=by
 refine wp.exact (by simp) ?_ rfl
 have ones:=Qi o
 have nk:=fun F L=>Yc (frz:=F) (H:=H++L) (v:=v) (x:=x) (Dt.app (T:=dNet) o)
 have f1:=fun F L=>Tr (frz:=F) (H:=H++L) (Dt.app (T:=dSS) o.2.2.2.2.2.1)
 simp only [Qd] at nk ⊢
 rw [Qb (fn:=Tryz.f65) Tryz.func65 rfl (by kernel_rfl) rfl]
 simp [ones,VM.look,nk,h,f1]
theorem Qam {v:ChipV} {a:ChipD} {k p q r s:Int} (o:dChip.Ow H v a) (h9:allL 66000000 a.1.2.2.2.2.2.2.1) :
 wp (vcall C frz 30 [dChip.val v a,.agg #[.int .i64 k,.int .i64 p,.int .i64 q,.int .i64 r,.int .i64 s]] H) (MadeC H (doAct a k p q r s).1 (doAct a k p q r s).2):=by
 have oneA:=Qp o
 have ones:=oneA.1
 have one2:=oneA.2
 have ecopy:=fun K (c:Chg H K [])=>Vd (frz:=H.length) (H:=K) (v:=v) (a:=a) (Dt.chg (T:=dChip) o c (by simp))
 have ck:=fun F K (c:Chg H K [])=>Zi (frz:=F) (H:=K) (v:=v) (a:=a) (Dt.chg (T:=dChip) o c (by simp))
 have ao:=fun F H=>B0 (frz:=F) (H:=H) k p q r s
 simp only [Qh] at ecopy ck ⊢
 rw [Qb (fn:=Tryz.f30) Tryz.func30 rfl (by kernel_rfl) rfl]
 obtain ⟨G,hG⟩:∃G,G=H++[⟨chipCells v a,0,51⟩,⟨[.int .i64 k,.int .i64 p,.int .i64 q,.int .i64 r,.int .i64 s],0,79⟩,⟨zChip,0,51⟩]:=⟨_,rfl⟩
 have cG:Chg H G []:=by rw [hG];exact Chg.app _
 have b0:G[H.length]? = some ⟨chipCells v a,0,51⟩:=by rw [hG];simp
 have bA:G[H.length+1]? = some ⟨[.int .i64 k,.int .i64 p,.int .i64 q,.int .i64 r,.int .i64 s],0,79⟩:=by rw [hG];simp
 have bR:G[H.length+2]? = some ⟨zChip,0,51⟩:=by rw [hG];simp
 have lG:G.length=H.length+3:=by rw [hG];simp
 have hGs:=hG.symm
 unfold chipCells netCells zChip at hGs
 simp only [List.cons_append,List.nil_append] at hGs
 simp [ones,one2]
 rw [hGs]
 clear hG hGs
 have b0':=b0
 unfold chipCells netCells at b0'
 simp only [List.cons_append,List.nil_append] at b0'
 try simp [VM.look,b0',ones,one2]
 refine Qf (ecopy G cG) ?_
 rintro _ K ⟨n,rfl,on,cn,mn,dn⟩
 have cK:Chg H K []:=cG.trans cn
 have b0:=Qa b0 cn (by simp)
 have bA:=Qa bA cn (by simp)
 have bR:=Qa bR cn (by simp)
 have oneN:=Qp on
 have qn:=oneN.1
 have qn2:=oneN.2
 have lK:=cn.1
 have hFK:H.length≤K.length:=by omega
 obtain ⟨K2,hK2⟩:∃K2,K2=K++[⟨chipCells n a,0,51⟩]:=⟨_,rfl⟩
 have c12:Chg K K2 []:=by rw [hK2];exact Chg.app _
 have cK2:=cK.trans c12
 have l2:K2.length=K.length+1:=by rw [hK2];simp
 have b0:=Qa b0 c12 (by simp)
 have bA:=Qa bA c12 (by simp)
 have bR:=Qa bR c12 (by simp)
 have bC:K2[K.length]? = some ⟨chipCells n a,0,51⟩:=by rw [hK2];simp
 have on2:=Dt.chg (T:=dChip) on c12 (by simp)
 have hF:H.length≤H.length+2:=by omega
 have mn':∀i∈dChip.ids n,H.length+3≤i:=fun i hi=>by have:=mn i hi;omega
 have ltn:∀i∈dChip.ids n,i<K.length:=fun i hi=>dChip.lt on i hi
 have hKs:=hK2.symm
 unfold chipCells netCells at hKs
 simp only [List.cons_append,List.nil_append] at hKs
 simp [Qh,VM.look,qn,qn2,hFK]
 rw [hKs]
 clear hK2 hKs
 have ck':=fun F=>ck F K2 cK2
 have b0':=b0
 have bC':=bC
 unfold chipCells netCells at b0' bC'
 simp only [List.cons_append,List.nil_append] at b0' bC'
 have gR:=Qg (r':=⟨chipCells n a,0,51⟩) bR
 have bad:¬acts a k p q r s→MadeC H (doAct a k p q r s).1 (doAct a k p q r s).2 (.tuple #[dChip.val n a,.int .i64 (-1)]) (K2.set (H.length+2) ⟨chipCells n a,0,51⟩):=fun hb=>by
  have e:doAct a k p q r s=(a,-1):=if_neg hb
  rw [e]
  exact madeC on2 cK2 mn' dn rfl rfl
 have bR':=bR
 unfold zChip at bR'
 unfold chipCells netCells at gR bad
 simp only [List.cons_append,List.nil_append] at gR bad
 by_cases g0:chipOk a
 rotate_left
 ·have hM:=bad (fun h=>g0 h.1)
  simp [VM.look,b0',ones,one2,ck',g0,bC',qn,qn2,bR',gR,hF]
  simpa [Qh] using hM
 by_cases g1:actOk k p q r s
 rotate_left
 ·have hM:=bad (fun h=>g1 h.2)
  simp [VM.look,b0',ones,one2,ck',g0,bA,ao,g1,bC',qn,qn2,bR',gR,hF]
  simpa [Qh] using hM
 have e:doAct a k p q r s=actN a k p q r s:=if_pos ⟨g0,g1⟩
 rw [e]
 clear bad e
 have oC:=Dt.chg (T:=dChip) o cK2 (by simp)
 have fl:=fun F H=>Bs (frz:=F) (H:=H)
 simp [VM.look,b0',ones,one2,ck',g0,bA,ao,g1]
 -- a chip that is handed back
 have fin1:∀(J:Heap) (w:ChipV) (y:ChipD) (m:Int) (L:Heap),dChip.Ow J w y→Chg K2 J []→(∀i∈dChip.ids w,K2.length≤i)→(dChip.ids w).Nodup→MadeC H y m (.tuple #[dChip.val w y,.int .i64 m]) ((J++L).set (H.length+2) ⟨chipCells w y,0,51⟩):=fun J w y m L ow cw mw dw=>
  madeC (Dt.app (T:=dChip) ow) ((cK2.trans cw).trans (Chg.app _)) (fun i hi=>by have:=mw i hi;omega) dw rfl rfl
 -- a network that is put into the copy
 have fin2:∀(J:Heap) (w:NetV) (y:NetD) (m:Int),dNet.Ow J w y→Chg K2 J []→(∀i∈dNet.ids w,K2.length≤i)→(dNet.ids w).Nodup→MadeC H (y,a.2) m (.tuple #[dChip.val (w,n.2) (y,a.2),.int .i64 m]) ((J.set K.length ⟨chipCells (w,n.2) (y,a.2),0,51⟩).set (H.length+2) ⟨chipCells (w,n.2) (y,a.2),0,51⟩):=fun J w y m ow cw mw dw=>by
  have cS:Chg J (J.set K.length ⟨chipCells (w,n.2) (y,a.2),0,51⟩) [K.length]:=Qe _ _
  have h2:∀i∈VM.ids n.2,H.length+3≤i∧i<K.length:=fun i hi=>⟨mn' i (List.mem_append_right _ hi),ltn i (List.mem_append_right _ hi)⟩
  refine madeC (n:=(w,n.2)) (y:=(y,a.2)) ⟨Dt.chg (T:=dNet) ow cS (fun i hi hh=>by have:=mw i hi;simp at hh;omega),Dt.chg (T:=dPk) (Dt.chg (T:=dPk) on2.2 cw (by simp)) cS (fun i hi hh=>by have:=(h2 i hi).2;simp at hh;omega)⟩ ((cK2.trans cw).trans' cS (fun i hi=>.inr (by simp at hi;omega))) (fun i hi=>?_) ?_ rfl rfl
  ·rcases List.mem_append.1 hi with h|h
   ·have:=mw i h;omega
   ·exact (h2 i h).1
  ·refine List.nodup_append.2 ⟨dw,(List.nodup_append.1 dn).2.1,fun x hx z hz e=>?_⟩
   subst e
   have:=mw x hx
   have:=(h2 x hz).2
   omega
 by_cases k1:k=1
 ·have e1:actN a k p q r s=(chipSend a p q r s,if sendsOk a (nextP a p q r s) then ((chipSend a p q r s).2.length:Int) else 0):=if_pos k1
  have cs:=Ie (frz:=H.length) (q2:=p) (q3:=q) (q4:=r) (q5:=s) oC
  simp only [Qh] at cs
  rw [e1]
  simp [VM.look,bA,b0',ones,one2,k1]
  refine Qf cs ?_
  rintro _ J ⟨_,rfl,w,rfl,ow,cw,mw,dw⟩
  obtain ⟨y,hy⟩:∃y,y=chipSend a p q r s:=⟨_,rfl⟩
  rw [← hy] at ow
  have onw:=Qp ow
  have lJ:=cw.1
  have hFJ:H.length≤J.length:=by omega
  obtain ⟨J2,hJ2⟩:∃J2,J2=J++[⟨chipCells w y,0,51⟩]:=⟨_,rfl⟩
  have bW:J2[J.length]? = some ⟨chipCells w y,0,51⟩:=by rw [hJ2];simp
  have bRJ:J2[H.length+2]? = some ⟨zChip,0,51⟩:=by rw [hJ2];exact Ql (Qa bR cw (by simp)) _
  have gJ:=Qg (r':=⟨chipCells w y,0,51⟩) bRJ
  have o2:dChip.Ow J2 w y:=by rw [hJ2];exact Dt.app (T:=dChip) ow
  have ln:=o2.2.1.rd.len (P:=Tryz.prog) (ty:=49) (by simp)
  have hb:=ow.2.2
  have w1:∀[Inhabited Unit],IntKind.i64.wrap (y.2.length:Int)=y.2.length:=by intro _;exact w64 (by omega) (by omega)
  have w0:∀[Inhabited Unit],IntKind.i64.wrap 0=0:=by intro _;exact w64 (by omega) (by omega)
  obtain ⟨B,hB⟩:∃B,B=decide (sendsOk a (nextP a p q r s)):=⟨_,rfl⟩
  have hq:(if sendsOk a (nextP a p q r s) then (y.2.length:Int) else 0)=if B then (y.2.length:Int) else 0:=by rw [hB];by_cases g:sendsOk a (nextP a p q r s)<;>simp [g]
  have hM:=fin1 J w y (if B then (y.2.length:Int) else 0) [⟨chipCells w y,0,51⟩] ow cw mw dw
  rw [← hJ2] at hM
  have hJs:=hJ2.symm
  rw [← hB,← hy,hq]
  unfold zChip at bRJ
  unfold chipCells netCells at bW gJ hM hJs
  simp only [List.cons_append,List.nil_append] at bW gJ hM hJs
  simp [Qh,← hy,VM.look,onw,hFJ]
  rw [hJs]
  clear hJ2 hJs
  have bM:=Qa bW (Qe (H:=J2) (H.length+2) ⟨[.int .i64 y.1.1.1,.int .i64 y.1.1.2.1,w.1.1,w.1.2.1.1,w.1.2.1.2,w.1.2.2.1.1,w.1.2.2.2.1,w.1.2.2.2.2.1,w.1.2.2.2.2.2.1.1,w.1.2.2.2.2.2.2.1.1,.int .i64 y.1.2.2.2.2.2.2.2,w.2],0,51⟩) (by simp;omega)
  have lv2:=Wj o2.2.1
  have lv3:=Wj (Dt.chg (T:=dPk) o2.2 (Qe (H:=J2) (H.length+2) ⟨[.int .i64 y.1.1.1,.int .i64 y.1.1.2.1,w.1.1,w.1.2.1.1,w.1.2.1.2,w.1.2.2.1.1,w.1.2.2.2.1,w.1.2.2.2.2.1,w.1.2.2.2.2.2.1.1,w.1.2.2.2.2.2.2.1.1,.int .i64 y.1.2.2.2.2.2.2.2,w.2],0,51⟩) (fun i hi hh=>by have:=mw i (List.mem_append_right _ hi);simp at hh;omega)).1
  rw [Xz (fl:=([4],[])) (h:=⟨by kernel_rfl,by kernel_rfl,by kernel_rfl,by kernel_rfl⟩)]
  cases B<;>simp [emps,empOp,empB,VM.look,bW,bRJ,gJ,onw,fl,ln,w1,w0,hF,bM,lv2,lv3]<;>simpa [Qh] using hM
 by_cases k2:k=2
 ·have e1:actN a k p q r s=(chipRun a p,(flits (chipRun a p).1.2.2.1:Int)+flits (chipRun a p).1.2.2.2.2.2.1):=by unfold actN;rw [if_neg k1,if_pos k2]
  have cs:=F9 (frz:=H.length) (k:=p) oC h9
  have hnk:=Nf g0 p
  simp only [Qh] at cs
  rw [e1]
  simp [VM.look,bA,b0',ones,one2,k1,k2]
  refine Qf cs ?_
  rintro _ J ⟨_,rfl,w,rfl,ow,cw,mw,dw⟩
  obtain ⟨y,hy⟩:∃y,y=chipRun a p:=⟨_,rfl⟩
  rw [← hy] at ow hnk
  have onw:=Qp ow
  have lJ:=cw.1
  have hFJ:H.length≤J.length:=by omega
  obtain ⟨J2,hJ2⟩:∃J2,J2=J++[⟨chipCells w y,0,51⟩]:=⟨_,rfl⟩
  have bW:J2[J.length]? = some ⟨chipCells w y,0,51⟩:=by rw [hJ2];simp
  have bRJ:J2[H.length+2]? = some ⟨zChip,0,51⟩:=by rw [hJ2];exact Ql (Qa bR cw (by simp)) _
  have gJ:=Qg (r':=⟨chipCells w y,0,51⟩) bRJ
  have o2:dChip.Ow J2 w y:=by rw [hJ2];exact Dt.app (T:=dChip) ow
  have f1:=fun F=>Cd (frz:=F) hnk o2.1
  have f2:=fun F=>Gf (frz:=F) hnk o2.1
  have z1:=Tg y.1.2.2.1 ow.1.2.2.1.2.1 ow.1.2.2.1.2.2
  have z2:=Tg y.1.2.2.2.2.2.1 ow.1.2.2.2.2.2.1.2.1 ow.1.2.2.2.2.2.1.2.2
  have w1:∀[Inhabited Unit],IntKind.i64.wrap ((flits y.1.2.2.1:Int)+(flits y.1.2.2.2.2.2.1:Int))=(flits y.1.2.2.1:Int)+flits y.1.2.2.2.2.2.1:=by intro _;exact w64 (by omega) (by omega)
  have hM:=fin1 J w y ((flits y.1.2.2.1:Int)+flits y.1.2.2.2.2.2.1) [⟨chipCells w y,0,51⟩] ow cw mw dw
  rw [← hJ2] at hM
  have hJs:=hJ2.symm
  rw [← hy]
  simp only [Qd] at f1 f2
  unfold zChip at bRJ
  unfold chipCells netCells at bW gJ hM hJs
  simp only [List.cons_append,List.nil_append] at bW gJ hM hJs
  simp [Qh,← hy,VM.look,onw,hFJ]
  rw [hJs]
  clear hJ2 hJs
  rw [Qj (h:=by kernel_rfl)]
  simp [VM.look,bW,bRJ,gJ,onw,f1,f2,w1,hF]
  simpa [Qh] using hM
 by_cases k3:k=3
 ·have e1:actN a k p q r s=((idled a.1,a.2),idleAt a.1):=by unfold actN;rw [if_neg k1,if_neg k2,if_pos k3]
  have ss:=fun F=>I5 (frz:=F) oC.1 h9
  have cs:=Fa (frz:=H.length) oC.1 h9
  simp only [Qd] at cs ss
  rw [e1]
  simp [VM.look,bA,b0',ones,one2,k1,k2,k3,ss]
  refine Qf cs ?_
  rintro _ J ⟨_,rfl,w,rfl,ow,cw,mw,dw⟩
  obtain ⟨y,hy⟩:∃y,y=idled a.1:=⟨_,rfl⟩
  rw [← hy] at ow
  have onw:=Qi ow
  have bJ:=Qa bC cw (by simp)
  have bRJ:=Qa bR cw (by simp)
  have gC:=Qg (r':=⟨chipCells (w,n.2) (y,a.2),0,51⟩) bJ
  have bR2:=Qa bRJ (Qe (H:=J) K.length ⟨chipCells (w,n.2) (y,a.2),0,51⟩) (by simp;omega)
  have gJ:=Qg (r':=⟨chipCells (w,n.2) (y,a.2),0,51⟩) bR2
  have hM:=fin2 J w y (idleAt a.1) ow cw mw dw
  rw [← hy]
  unfold zChip at bR2
  unfold chipCells netCells at bJ gC gJ hM bR2
  simp only [List.cons_append,List.nil_append] at bJ gC gJ hM bR2
  simp [Qd,← hy,VM.look,bJ,gC,bR2,gJ,onw,qn2,hF,hFK]
  simpa [Qh] using hM
 by_cases k4:k=4
 ·have e1:actN a k p q r s=((brk a.1 p,a.2),if brkOk a.1 p then 1 else 0):=by unfold actN;rw [if_neg k1,if_neg k2,if_neg k3,if_pos k4]
  have cs:=Ef (frz:=H.length) (c:=p) oC.1
  simp only [Qd] at cs
  rw [e1]
  simp [VM.look,bA,b0',ones,one2,k1,k2,k3,k4]
  refine Qf cs ?_
  rintro _ J ⟨_,rfl,w,rfl,ow,cw,mw,dw⟩
  obtain ⟨y,hy⟩:∃y,y=brk a.1 p:=⟨_,rfl⟩
  rw [← hy] at ow
  have onw:=Qi ow
  have lJ:=cw.1
  have hFJ:H.length≤J.length:=by omega
  obtain ⟨J2,hJ2⟩:∃J2,J2=J++[⟨netCells w y,0,48⟩]:=⟨_,rfl⟩
  have c2:Chg J J2 []:=by rw [hJ2];exact Chg.app _
  have bN:J2[J.length]? = some ⟨netCells w y,0,48⟩:=by rw [hJ2];simp
  have ow2:=Dt.chg (T:=dNet) ow c2 (by simp)
  have bJ:=Qa (Qa bC cw (by simp)) c2 (by simp)
  have bRJ:=Qa (Qa bR cw (by simp)) c2 (by simp)
  have gC:=Qg (r':=⟨chipCells (w,n.2) (y,a.2),0,51⟩) bJ
  have bR2:=Qa bRJ (Qe (H:=J2) K.length ⟨chipCells (w,n.2) (y,a.2),0,51⟩) (by simp;omega)
  have gJ:=Qg (r':=⟨chipCells (w,n.2) (y,a.2),0,51⟩) bR2
  obtain ⟨B,hB⟩:∃B,B=decide (brkOk a.1 p):=⟨_,rfl⟩
  have hq:(if brkOk a.1 p then (1:Int) else 0)=if B then 1 else 0:=by rw [hB];by_cases g:brkOk a.1 p<;>simp [g]
  have hM:=fin2 J2 w y (if B then (1:Int) else 0) ow2 (cw.trans c2) mw dw
  have hJs:=hJ2.symm
  rw [← hB,← hy,hq]
  unfold zChip at bR2
  unfold chipCells netCells at bJ gC gJ hM bR2
  unfold netCells at bN hJs
  simp only [List.cons_append,List.nil_append] at bJ gC gJ hM bR2
  simp [Qd,← hy,VM.look,onw,hFJ]
  rw [hJs]
  clear hJ2 hJs
  simp [VM.look,bN,bJ,gC,bR2,gJ,onw,qn2,hF,hFK]
  rw [Qj (h:=by kernel_rfl)]
  cases B<;>simp [VM.look,bN,bJ,gC,bR2,gJ,onw,qn2,hF,hFK,fl]<;>simpa [Qh] using hM
 have hk5:k=5∧inR 1 p 4∧inR 1 q 4:=by
  unfold actOk at g1
  rw [if_neg k1,if_neg k2,if_neg k3,if_neg k4] at g1
  exact ⟨g1.1,g1.2.1,g1.2.2.1⟩
 obtain ⟨k5,hp,hq'⟩:=hk5
 have e1:actN a k p q r s=((ruledN a.1 p q,a.2),if ruledOk a.1 p q then 1 else 0):=by unfold actN;rw [if_neg k1,if_neg k2,if_neg k3,if_neg k4]
 have ln:=oC.1.1.1.rd.len (P:=Tryz.prog) (ty:=24) (by simp)
 rw [e1]
 simp [VM.look,bA,b0',ones,one2,k1,k2,k3,k4,ln]
 by_cases g:0<a.1.1.2.2.length
 ·have er:ruledN a.1 p q=a.1:=if_pos g
  have eb:(if ruledOk a.1 p q then (1:Int) else 0)=0:=if_neg (fun k=>k.1 g)
  have hM:=madeC (H:=H) (z:=a) (k:=0) (r:=⟨chipCells n a,0,51⟩) on2 cK2 mn' dn rfl rfl
  rw [er,eb]
  unfold chipCells netCells at hM
  simp only [List.cons_append,List.nil_append] at hM
  simp [VM.look,g,bC',qn,qn2,bR',gR,hF]
  simpa [Qh] using hM
 have hg:okG a.1.1.1 a.1.1.2.1:=g0.1.1.1.1.1.2
 have st1:=fun K=>Mg (frz:=H.length) (H:=K) a.1.1.1 a.1.1.2.1 p (cnt a.1.1.1 a.1.1.2.1).toNat hp hg (by have:=Qm a.1.1.1 a.1.1.2.1;omega)
 have st2:=fun K=>Mg (frz:=H.length) (H:=K) a.1.1.1 a.1.1.2.1 q (cnt a.1.1.1 a.1.1.2.1).toNat hq' hg (by have:=Qm a.1.1.1 a.1.1.2.1;omega)
 obtain ⟨M,hM0⟩:∃M,M=K2++[⟨[.int .i64 a.1.1.1,.int .i64 a.1.1.2.1],0,40⟩]:=⟨_,rfl⟩
 have cM:Chg K2 M []:=by rw [hM0];exact Chg.app _
 have bG:M[K2.length]? = some ⟨[.int .i64 a.1.1.1,.int .i64 a.1.1.2.1],0,40⟩:=by rw [hM0];simp
 have hFK2:H.length≤K2.length:=by omega
 have hMs:=hM0.symm
 simp [VM.look,g,b0',hFK2]
 rw [hMs]
 clear hM0 hMs
 have b0M:=Qa b0 cM (by simp)
 have bAM:=Qa bA cM (by simp)
 have b0M':=b0M
 unfold chipCells netCells at b0M'
 simp only [List.cons_append,List.nil_append] at b0M'
 rw [Qj (h:=by kernel_rfl)]
 simp [VM.look,b0M',bAM,bG,ones,one2]
 refine Qf (st1 M) ?_
 rintro _ M1 ⟨v1,rfl,o1,c1,m1,d1⟩
 have q1:=Wc o1
 have bG1:=Qa bG c1 (by simp)
 have bA1:=Qa bAM c1 (by simp)
 simp [Q9,VM.look,bG1,bA1]
 refine Qf (st2 M1) ?_
 rintro _ M2 ⟨v2,rfl,o2,c2,m2,d2⟩
 have q2:=Wc o2
 have cM2:Chg K2 M2 []:=(cM.trans c1).trans c2
 have o1:=Dt.chg (T:=dTable) o1 c2 (by simp)
 have cs:=Fv (frz:=H.length) (Dt.chg (T:=dNet) oC.1 cM2 (by simp)) (vc:=(v1,v2)) (t:=tabs a.1 p q) ⟨o1,o2⟩
 simp only [Qd,Wa] at cs
 simp [Q9,q1,q2]
 refine Qf cs ?_
 rintro _ J ⟨_,rfl,w,rfl,ow,cw,mw,dw⟩
 obtain ⟨y,hy⟩:∃y,y=repl a.1 (tabs a.1 p q):=⟨_,rfl⟩
 rw [← hy] at ow
 have er:ruledN a.1 p q=y:=by rw [hy];exact if_neg g
 have onw:=Qi ow
 have lJ:=cw.1
 have lM:=cM2.1
 have hFJ:H.length≤J.length:=by omega
 obtain ⟨J2,hJ2⟩:∃J2,J2=J++[⟨netCells w y,0,48⟩]:=⟨_,rfl⟩
 have cJ2:Chg J J2 []:=by rw [hJ2];exact Chg.app _
 have bN:J2[J.length]? = some ⟨netCells w y,0,48⟩:=by rw [hJ2];simp
 have ow2:=Dt.chg (T:=dNet) ow cJ2 (by simp)
 have bJ:=Qa (Qa (Qa bC cM2 (by simp)) cw (by simp)) cJ2 (by simp)
 have bRJ:=Qa (Qa (Qa bR cM2 (by simp)) cw (by simp)) cJ2 (by simp)
 have gC:=Qg (r':=⟨chipCells (w,n.2) (y,a.2),0,51⟩) bJ
 have bR2:=Qa bRJ (Qe (H:=J2) K.length ⟨chipCells (w,n.2) (y,a.2),0,51⟩) (by simp;omega)
 have gJ:=Qg (r':=⟨chipCells (w,n.2) (y,a.2),0,51⟩) bR2
 obtain ⟨B,hB⟩:∃B,B=decide (replOk a.1 (tabs a.1 p q)):=⟨_,rfl⟩
 have hq:(if ruledOk a.1 p q then (1:Int) else 0)=if B then 1 else 0:=by rw [hB];by_cases g':replOk a.1 (tabs a.1 p q)<;>simp [ruledOk,g',g]
 have hM:=fin2 J2 w y (if B then (1:Int) else 0) ow2 ((cM2.trans cw).trans cJ2) (fun i hi=>by have:=mw i hi;omega) dw
 have hJs:=hJ2.symm
 rw [er,hq,← hB]
 unfold zChip at bR2
 unfold chipCells netCells at bJ gC gJ hM bR2
 unfold netCells at bN hJs
 simp only [List.cons_append,List.nil_append] at bJ gC gJ hM bR2
 simp [Qd,← hy,VM.look,onw,hFJ]
 rw [hJs]
 clear hJ2 hJs
 simp [VM.look,bN,bJ,gC,bR2,gJ,onw,qn2,hF,hFK]
 rw [Qj (h:=by kernel_rfl)]
 cases B<;>simp [VM.look,bN,bJ,gC,bR2,gJ,onw,qn2,hF,hFK,fl]<;>simpa [Qh] using hM
theorem Gp {x:NetD} (h:netOk x) {L:Nat} (hL:1000≤L):allL L x.2.2.1:=fun l hl=>by
 obtain ⟨i,hi,rfl⟩:=List.getElem_of_mem hl
 have:=(h.2.2.1 i hi).1
 rw [Xk hi] at this
 omega
theorem Jl {x:NetD} (h:netOk x) {L:Nat} (hL:1000≤L) (h9:allL L x.2.2.2.2.2.2.1) {k:Nat} (hk:k≤400):allL (L+38400) (runN x k).2.2.2.2.2.2.1:=
 Wb (O6 (Gp h hL) h9 k).2 (by omega)
theorem Cj {a:ChipD} {k p q r s:Int} {L:Nat} (hL:1000≤L) (h:allL L a.1.2.2.2.2.2.2.1):allL (L+38400) (doAct a k p q r s).1.1.2.2.2.2.2.2.1:=by
 have h0:allL (L+38400) a.1.2.2.2.2.2.2.1:=Wb h (by omega)
 unfold doAct
 by_cases g:acts a k p q r s
 ·rw [if_pos g]
  have nk:netOk a.1:=g.1.1
  unfold actN
  split
  ·unfold chipSend sendNet withSrc;split<;>exact h0
  ·split
   ·unfold chipRun runNet
    split
    ·show allL (L+38400) (if runs a.1 p then runN a.1 p.toNat else a.1).2.2.2.2.2.2.1
     split
     ·rename_i hr;exact Jl nk hL h (by have:=hr.2.1;unfold inR at this;omega)
     ·exact h0
    ·exact h0
   ·split
    ·show allL (L+38400) (idled a.1).2.2.2.2.2.2.1
     unfold idled
     split
     ·rcases Tw a.1 with e|⟨_,e,_⟩
      ·omega
      ·exact Jl nk hL h (by omega)
     ·exact h0
    ·split
     ·show allL (L+38400) (brk a.1 p).2.2.2.2.2.2.1
      unfold brk;split<;>exact h0
     ·show allL (L+38400) (ruledN a.1 p q).2.2.2.2.2.2.1
      unfold ruledN
      split
      ·exact h0
      ·unfold repl;split<;>exact h0
 ·rw [if_neg g];exact h0
noncomputable def actF (z:ChipD×List Int) (c:PkD):ChipD×List Int:=((doAct z.1 c.1 c.2.1 c.2.2.1 c.2.2.2.1 c.2.2.2.2).1,z.2++[(doAct z.1 c.1 c.2.1 c.2.2.1 c.2.2.2.1 c.2.2.2.2).2])
def canAct (a:ChipD) (l:List PkD):Prop:=chipOk a∧l.length≤30
instance (a:ChipD) (l:List PkD):Decidable (canAct a l):=inferInstanceAs (Decidable (_∧_))
noncomputable def runActs (a:ChipD) (l:List PkD):ChipD×List Int:=if canAct a l then l.foldl actF (a,[]) else (a,[])
noncomputable def actsAt (a:ChipD) (l:List PkD) (i:Nat):ChipD×List Int:=(l.take i).foldl actF (a,[])
theorem Y9 {a:ChipD} {l:List PkD} {i:Nat} (h:i<l.length):actsAt a l (i+1)=actF (actsAt a l i) l[i]:=by
 unfold actsAt
 rw [List.take_succ_eq_append_getElem h,List.foldl_append];rfl
theorem Pz {a:ChipD} {l:List PkD} (h:canAct a l):actsAt a l l.length=runActs a l:=by
 unfold actsAt runActs
 rw [if_pos h,List.take_length]
theorem Yu (a:ChipD) (l:List PkD):∀i,i≤l.length→(actsAt a l i).2.length=i
 | 0,_=>rfl
 | i+1,h=>by
  rw [Y9 (by omega)]
  show ((actsAt a l i).2++[_]).length=_
  rw [List.length_append,Yu a l i (by omega)];rfl
theorem Vs {a:ChipD} (l:List PkD) {L:Nat} (hL:1000≤L) (h:allL L a.1.2.2.2.2.2.2.1):∀i,i≤l.length→allL (L+38400*i) (actsAt a l i).1.1.2.2.2.2.2.2.1
 | 0,_=>h
 | i+1,hi=>by
  rw [Y9 (by omega)]
  exact Wb (Cj (by omega) (Vs l hL h i (by omega))) (by omega)
theorem Qce (x:PkD):vcall C frz 33 [.agg (pkF.f x).toArray] H=some (.agg (pkF.f x).toArray,H):=Qbt _ _ _ _ _
theorem Ad (v:Value) (xs:List PkD) (hI:Rd pkF H v xs) (hb:xs.length≤1073741824) :
 wp (vcall C frz 10 [v] H) (fun r H'=>Ow pkF 79 H' r xs∧(∀i∈ids r,H.length≤i)∧Chg H H' []):=by
 rw [Qb (fn:=Tryz.f10) Tryz.func10 rfl (by kernel_rfl) rfl]
 simp [hI.len]
 refine Wh (by omega) ?_
 refine Qk (fun n t H'=>∃i:Nat,n=xs.length-i∧i≤xs.length∧t 0=v∧t 3=.slice (some ⟨H.length,0,some 0⟩) xs.length 0∧t 4=.int .i64 i∧
  Ow pkF 79 H' (.slice (some ⟨H.length,0,some 0⟩) xs.length 0) (xs.take i++List.replicate (xs.length-i) (0,0,0,0,0))∧Chg H H' []) ?_ (n:=xs.length)
  ⟨0,by simp,by omega,by simp,by simp,by simp,Ow.new0 rfl (W6 (D:=pkF) (0,0,0,0,0) _) (by rw [W6 (D:=pkF) (0,0,0,0,0)];exact Tj _) (by simp),Chg.app _⟩
 rintro n t H' ⟨i,rfl,hi,h0,h3,h4,o,c⟩ ih
 have rd:=hI.chg c (by simp)
 simp [h0,h3,h4,rd.len]
 refine Qc ?_ ?_<;>intro h
 ·have h':i<xs.length:=by omega
  have q1:=rd.idx (P:=Tryz.prog) (ty:=37) (e:=83) (by simp) (i:=(i:Int)) (by omega) (by omega)
  have q2:=rd.load (P:=Tryz.prog) (e:=83) (by simp) h'
  have hl:(xs.take i++List.replicate (xs.length-i) ((0,0,0,0,0):PkD)).length=xs.length:=by simp;omega
  have q3:=o.rd.idx (P:=Tryz.prog) (ty:=55) (e:=79) (by simp) (i:=(i:Int)) (by omega) (by omega)
  obtain ⟨H2,s1,o1,c1,l1⟩:=o.store (P:=Tryz.prog) (frz:=H.length) (et:=79) (ag:=true) (x:=.agg (pkF.f xs[i]).toArray) (by simp) (j:=i) (y:=xs[i]) (by omega) (by simp [Value.cells]) (by simp [X0]) (by simp)
  simp only [Int.toNat_natCast,Z9] at q1 q2 q3 s1
  simp [h0,h3,h4,q1,q2,Qce,q3,s1]
  refine ih (xs.length-(i+1)) _ _ ⟨i+1,rfl,by omega,by simp [h0],by simp [h3],?_,?_,c.trans' c1 (by simp)⟩ (by omega)
  ·simp;rw [w64 (by omega) (by omega)]
  ·rw [Ry _ _ h'] at o1;exact o1
 ·have:i=xs.length:=by omega
  subst this
  simp [h0,h3,h4]
  exact ⟨by simpa using o,c⟩
theorem Qap (v:Value) (xs:List PkD) (n:Int) (hI:Rd pkF H v xs) (h0:0≤n) (h1:n≤1048576) (h2:xs.length≤9223372036854775807) :
 vcall C frz 7 [v,.int .i64 n] H=some (.int .i64 (if n<xs.length then -1 else n-xs.length),H):=by
 rw [Qb (fn:=Tryz.f7) Tryz.func7 rfl (by kernel_rfl) rfl]
 simp [hI.len]
 rw [w64 (by omega) (by omega)]
 refine Qo _ ?_ ?_<;>intro h<;>simp [h]
 ·intro hh;omega
 ·intro hh;omega
theorem Qba (x y:PkD):vcall C frz 39 [.agg (pkF.f x).toArray,.agg (pkF.f y).toArray] H=some (.bool (decide (x=y)),H):=by
 obtain ⟨p,t,c,h,l⟩:=x
 obtain ⟨p',t',c',h',l'⟩:=y
 rw [Qb (fn:=Tryz.f39) Tryz.func39 rfl (by kernel_rfl) rfl]
 simp [X0]
 by_cases e1:p=p'
 ·by_cases e2:t=t'
  ·by_cases e3:c=c'
   ·by_cases e4:h=h'
    ·by_cases e5:l=l'<;>simp [e1,e2,e3,e4,e5]
    ·simp [e1,e2,e3,e4]
   ·simp [e1,e2,e3]
  ·simp [e1,e2]
 ·simp [e1]
theorem Qaq (a b:Value) (xs ys:List PkD) (ha:Rd pkF H a xs) (hb:Rd pkF H b ys) (hl:xs.length≤1073741824) :
 vcall C frz 14 [a,b] H=some (.bool (decide (xs=ys)),H):=by
 refine wp.exact (by simp) ?_ rfl
 rw [Qb (fn:=Tryz.f14) Tryz.func14 rfl (by kernel_rfl) rfl]
 simp [ha.len,hb.len]
 refine Qc ?_ ?_<;>intro h0<;>simp [h0]
 ·refine Qk (fun n t H'=>∃i:Nat,n=xs.length-i∧i≤xs.length∧t 0=a∧t 1=b∧t 5=.int .i64 i∧H'=H∧xs.take i=ys.take i) ?_ (n:=xs.length) ⟨0,rfl,by omega,by simp,by simp,by simp,rfl,by simp⟩
  rintro n t H' ⟨i,rfl,hi,h1,h2,h3,rfl,h4⟩ ih
  simp [h1,h2,h3,ha.len]
  refine Qc ?_ ?_<;>intro h
  ·have hx:i<xs.length:=by omega
   have hy:i<ys.length:=by omega
   have q1:=ha.idx (P:=Tryz.prog) (ty:=55) (e:=79) (by simp) (i:=(i:Int)) (by omega) (by omega)
   have q2:=ha.load (P:=Tryz.prog) (e:=79) (by simp) hx
   have q3:=hb.idx (P:=Tryz.prog) (ty:=55) (e:=79) (by simp) (i:=(i:Int)) (by omega) (by omega)
   have q4:=hb.load (P:=Tryz.prog) (e:=79) (by simp) hy
   simp only [Int.toNat_natCast,Z9] at q1 q2 q3 q4
   simp [h1,h2,h3]
   rw [Qj (h:=by kernel_rfl)]
   simp [h1,h2,h3,q1,q2,q3,q4,Qba]
   refine Qc ?_ ?_<;>intro h5
   ·simp [h1,h2,h3]
    refine ih (xs.length-(i+1)) _ _ ⟨i+1,rfl,by omega,by simp [h1],by simp [h2],?_,rfl,?_⟩ (by omega)
    ·simp;rw [w64 (by omega) (by omega)]
    ·rw [List.take_succ_eq_append_getElem hx,List.take_succ_eq_append_getElem hy,h4];simp [h5]
   ·simp [h1,h2,h3]
    intro hh;subst hh;simp at h5
  ·have:i=xs.length:=by omega
   subst this
   simp [h1,h2,h3]
   rw [List.take_length,List.take_of_length_le (by omega)] at h4
   exact h4
 ·intro hh;exact h0 (by rw [hh])
abbrev dAct:Dt Value (List PkD):=dFlat pkF 79 1073741824
theorem P6 {v:Value} {a:List PkD} (h:dAct.Ow H v a):VM.one v=true∧v.cells=#[v]:=⟨h.1.rd.one',h.1.rd.cells⟩
theorem Ws (v:Value) (a:List PkD):dAct.val v a=v:=rfl
theorem P8 (v:Value) (xs:List PkD) (hI:Rd pkF H v xs) (hb:xs.length≤1073741824):wp (vcall C frz 10 [v] H) (dAct.Made H xs):=by
 refine (Ad v xs hI hb).mono ?_
 rintro r H' ⟨o,n,c⟩
 exact ⟨r,rfl,⟨o,hb⟩,c,n,Qq r⟩
theorem Bk {a b:Value} {xs ys:List PkD} (ha:dAct.Ow H a xs) (hb:dAct.Ow H b ys):vcall C frz 14 [a,b] H=some (.bool (decide (xs=ys)),H):=
 Qaq a b xs ys ha.1.rd hb.1.rd ha.2
def MadeR (H:Heap) (y:ChipD×List Int) (r:Value) (H':Heap):Prop:=∃(vc:ChipV) (vi:Value),r=.tuple #[dChip.val vc y.1,vi]∧dChip.Ow H' vc y.1∧dIntS.Ow H' vi y.2∧Chg H H' []∧(∀i∈dChip.ids vc,H.length≤i)∧(dChip.ids vc).Nodup∧(∀i∈dIntS.ids vi,H.length≤i)∧(dIntS.ids vi).Nodup∧∀i∈dChip.ids vc,i∉dIntS.ids vi
theorem Kq {lv:Value} {l:List PkD} {i:Nat} (h:Rd pkF H lv l) (hi:i<l.length) (hl:l.length≤1073741824) :
 vindexAddr Tryz.prog H 55 lv (.int .i64 (i:Int))=some (elp lv (i*5))∧vload Tryz.prog H 79 (elp lv (i*5))=some (.agg #[.int .i64 l[i].1,.int .i64 l[i].2.1,.int .i64 l[i].2.2.1,.int .i64 l[i].2.2.2.1,.int .i64 l[i].2.2.2.2]):=by
 have q1:=h.idx (P:=Tryz.prog) (ty:=55) (e:=79) (by simp) (i:=(i:Int)) (by omega) (by omega)
 have q2:=h.load (P:=Tryz.prog) (e:=79) (by simp) hi
 simp only [Int.toNat_natCast,Z9] at q1 q2
 exact ⟨q1,by simpa [X0] using q2⟩
theorem Xv {α:Type} {D:Fl α} {e:TypeId} {v:Value} {xs:List α} (h:Ow D e H v xs):live1 H v:=by
 rcases h with ⟨rfl,_⟩|⟨id,off,r,rfl,h2,_⟩
 ·trivial
 ·show VM.look H ⟨id,off,some r.gen⟩≠none
  simp [VM.look,h2]
theorem Sg {v:ChipV} {x:ChipD} (o:dChip.Ow H v x):VM.live H (.agg #[.int .i64 x.1.1.1,.int .i64 x.1.1.2.1,v.1.1,v.1.2.1.1,v.1.2.1.2,v.1.2.2.1.1,v.1.2.2.2.1,v.1.2.2.2.2.1,v.1.2.2.2.2.2.1.1,v.1.2.2.2.2.2.2.1.1,.int .i64 x.1.2.2.2.2.2.2.2,v.2]):=fun c hc=>by
 obtain ⟨⟨o1,o2,o3,o4,o5,o6,o7,_⟩,o8⟩:=o
 have a1:=Xv o1.1
 have a2:=Xv o2.1.1
 have a3:=Xv o2.2.1
 have a4:=Xv o3.1.1
 have a5:=Xv o4.1
 have a6:=Xv o5.1
 have a7:=Xv o6.1.1
 have a8:=Xv o7.1.1
 have a9:=Xv o8.1
 simp only [List.mem_cons,List.not_mem_nil,or_false] at hc
 rcases hc with rfl|rfl|rfl|rfl|rfl|rfl|rfl|rfl|rfl|rfl|rfl|rfl<;>first|trivial|assumption
theorem madeR {K:Heap} {n:ChipV} {y z:ChipD×List Int} {vi:Value} {r:Row} (o:dChip.Ow K n y.1) (oi:dIntS.Ow K vi y.2) (c:Chg H K []) (m:∀i∈dChip.ids n,H.length+2≤i) (d:(dChip.ids n).Nodup) (mi:∀i∈dIntS.ids vi,H.length+2≤i)
 (x:∀i∈dChip.ids n,i∉dIntS.ids vi) (e:z=y):MadeR H z (.tuple #[dChip.val n y.1,vi]) (K.set (H.length+1) r):=by
 subst e
 exact ⟨n,vi,rfl,Dt.chg (T:=dChip) o (Qe _ _) (fun i hi hh=>by have:=m i hi;simp at hh;omega),Dt.chg (T:=dIntS) oi (Qe _ _) (fun i hi hh=>by have:=mi i hi;simp at hh;omega),c.trans' (Qe _ _) (fun i hi=>.inr (by simp at hi;omega)),fun i hi=>by have:=m i hi;omega,d,fun i hi=>by have:=mi i hi;omega,Qq vi,x⟩
theorem Cf {v:ChipV} {a:ChipD} {lv:Value} {l:List PkD} (o:dChip.Ow H v a) (ol:dAct.Ow H lv l) (h9:allL 1048576 a.1.2.2.2.2.2.2.1) :
 wp (vcall C frz 11 [dChip.val v a,lv] H) (MadeR H (runActs a l)):=by
 have hr:=ol.1.rd
 have hn:=ol.2
 have oneA:=Qp o
 have ones:=oneA.1
 have one2:=oneA.2
 have ecopy:=fun K (c:Chg H K [])=>Z5 (frz:=H.length) (H:=K) (v:=v) (a:=a) (Dt.chg (T:=dChip) o c (by simp))
 have ck:=fun F K (c:Chg H K [])=>Ul (frz:=F) (H:=K) (v:=v) (a:=a) (Dt.chg (T:=dChip) o c (by simp))
 simp only [Qh] at ecopy ck ⊢
 rw [Qb (fn:=Tryz.f11) Tryz.func11 rfl (by kernel_rfl) rfl]
 obtain ⟨G,hG⟩:∃G,G=H++[⟨chipCells v a,0,51⟩,⟨zChip,0,51⟩]:=⟨_,rfl⟩
 have cG:Chg H G []:=by rw [hG];exact Chg.app _
 have b0:G[H.length]? = some ⟨chipCells v a,0,51⟩:=by rw [hG];simp
 have bR:G[H.length+1]? = some ⟨zChip,0,51⟩:=by rw [hG];simp
 have lG:G.length=H.length+2:=by rw [hG];simp
 have hGs:=hG.symm
 unfold chipCells netCells zChip at hGs
 simp only [List.cons_append,List.nil_append] at hGs
 simp [ones,one2]
 rw [hGs]
 clear hG hGs
 have b0':=b0
 unfold chipCells netCells at b0'
 simp only [List.cons_append,List.nil_append] at b0'
 try simp [VM.look,b0',ones,one2]
 refine Qf (ecopy G cG) ?_
 rintro _ K ⟨n,rfl,on,cn,mn,dn⟩
 have cK:Chg H K []:=cG.trans cn
 have b0:=Qa b0 cn (by simp)
 have bR:=Qa bR cn (by simp)
 have oneN:=Qp on
 have qn:=oneN.1
 have qn2:=oneN.2
 have lK:=cn.1
 have hFK:H.length≤K.length:=by omega
 obtain ⟨K2,hK2⟩:∃K2,K2=K++[⟨[],0,3⟩,⟨chipCells n a,0,51⟩]:=⟨_,rfl⟩
 have c12:Chg K K2 []:=by rw [hK2];exact Chg.app _
 have cK2:=cK.trans c12
 have l2:K2.length=K.length+2:=by rw [hK2];simp
 have b0:=Qa b0 c12 (by simp)
 have bR:=Qa bR c12 (by simp)
 have bC:K2[K.length+1]? = some ⟨chipCells n a,0,51⟩:=by rw [hK2];simp
 have oI:Ow Fl.int 3 K2 (.slice (some ⟨K.length,0,some 0⟩) 0 0) []:=by rw [hK2];exact Ow.new (D:=Fl.int) (xs:=[]) (k:=0) rfl rfl rfl rfl
 have on2:=Dt.chg (T:=dChip) on c12 (by simp)
 have hF:H.length≤H.length+1:=by omega
 have mn':∀i∈dChip.ids n,H.length+2≤i:=fun i hi=>by have:=mn i hi;omega
 have ltn:∀i∈dChip.ids n,i<K.length:=fun i hi=>dChip.lt on i hi
 have hFB:H.length≤K.length+1:=by omega
 have hKs:=hK2.symm
 unfold chipCells netCells at hKs
 simp only [List.cons_append,List.nil_append] at hKs
 simp [Qh,qn,qn2,hFB]
 rw [hKs]
 clear hK2 hKs
 have ck':=fun F=>ck F K2 cK2
 have b0':=b0
 have bC':=bC
 have bR':=bR
 have gR:=Qg (r':=⟨chipCells n a,0,51⟩) bR
 have bad:¬canAct a l→MadeR H (runActs a l) (.tuple #[dChip.val n a,.slice none 0 0]) (K2.set (H.length+1) ⟨chipCells n a,0,51⟩):=fun hb=>
  madeR (y:=(a,[])) on2 ⟨.inl ⟨rfl,rfl⟩,by simp⟩ cK2 mn' dn (by simp [dFlat]) (by simp [dFlat]) (if_neg hb)
 unfold zChip at bR'
 unfold chipCells netCells at b0' bC' gR bad
 simp only [List.cons_append,List.nil_append] at b0' bC' gR bad
 have ll:=fun (J:Heap) (c:Chg H J [])=>(hr.chg c (by simp)).len (P:=Tryz.prog) (ty:=55) (by simp)
 have l2':=ll K2 cK2
 by_cases g0:chipOk a
 rotate_left
 ·have hM:=bad (fun h=>g0 h.1)
  simp [VM.look,b0',ones,one2,ck',g0,bC',qn,qn2,bR',gR,hF]
  simpa [Qh] using hM
 simp [VM.look,b0',ck',g0,l2']
 refine Qc ?_ ?_<;>intro g1
 ·have hM:=bad (fun h=>by have:=h.2;omega)
  simp [VM.look,bC',qn,qn2,bR',gR,hF]
  simpa [Qh] using hM
 have g:canAct a l:=⟨g0,by omega⟩
 simp [l2']
 refine Qk (fun m t H'=>∃(i:Nat) (w:ChipV) (u:Value),m=l.length-i∧i≤l.length∧t 4=.pointer (some ⟨H.length+1,0,some 0⟩)∧t 6=.pointer (some ⟨K.length+1,0,some 0⟩)∧t 7=u∧t 24=lv∧t 25=.int .i64 l.length∧t 26=.int .i64 i∧
  H'[K.length+1]? = some ⟨chipCells w (actsAt a l i).1,0,51⟩∧dChip.Ow H' w (actsAt a l i).1∧(∀j∈dChip.ids w,H.length+2≤j)∧K.length+1∉dChip.ids w∧(dChip.ids w).Nodup∧VM.Ow Fl.int 3 H' u (actsAt a l i).2∧(∀j∈VM.ids u,H.length+2≤j∧j≠K.length+1)∧(∀j∈dChip.ids w,j∉VM.ids u)∧Chg H H' []∧H'[H.length+1]? = some ⟨zChip,0,51⟩) ?_ (n:=l.length)
  ⟨0,n,.slice (some ⟨K.length,0,some 0⟩) 0 0,rfl,by omega,by simp,by simp,by simp,by simp,by simp,by simp,bC,on2,mn',fun hh=>by have:=ltn _ hh;omega,dn,oI,fun j hj=>by simp at hj;omega,fun j hj hh=>by have:=ltn j hj;simp at hh;omega,cK2,bR⟩
 rintro m t J ⟨i,w,u,rfl,hi,t4,t6,t7,t24,t25,t26,bC,ow,mw,nB,dw,ou,mu,xw,cJ,bR⟩ ih
 have lJ:=cJ.1
 have hBJ:=Qt bC
 simp [t26,t25]
 refine Qc ?_ ?_<;>intro h
 rotate_left
 ·have he:i=l.length:=by omega
  subst he
  obtain ⟨y,hy⟩:∃y,y=actsAt a l l.length:=⟨_,rfl⟩
  rw [← hy] at bC ow ou
  have oneW:=Qp ow
  have p1:=oneW.1
  have p2:=oneW.2
  have gR:=Qg (r':=⟨chipCells w y.1,0,51⟩) bR
  have hM:=madeR (r:=⟨chipCells w y.1,0,51⟩) (y:=y) (z:=runActs a l) ow ⟨ou,by rw [hy,Yu a l _ (by omega)];omega⟩ cJ mw dw (fun j hj=>(mu j hj).1) xw (by rw [hy,Pz g])
  unfold zChip at bR
  unfold chipCells netCells at bC gR hM
  simp only [List.cons_append,List.nil_append] at bC gR hM
  simp [t4,t6,t7,VM.look,bC,p1,p2,bR,gR,hF]
  simpa [Qh] using hM
 have hi':i<l.length:=by omega
 obtain ⟨q1,q2⟩:=Kq (hr.chg cJ (by simp)) hi' hn
 have has:=Y9 (a:=a) hi'
 obtain ⟨c,hc⟩:∃c,c=l[i]:=⟨_,rfl⟩
 rw [← hc] at q2 has
 obtain ⟨z,hz⟩:∃z,z=actsAt a l i:=⟨_,rfl⟩
 have harr:allL 66000000 z.1.1.2.2.2.2.2.2.1:=by rw [hz];exact Wb (Vs l (by omega) h9 i hi) (by omega)
 have hzl:z.2.length=i:=by rw [hz];exact Yu a l i hi
 rw [← hz] at bC ow ou has
 have hFJ:H.length≤J.length:=lJ
 obtain ⟨J1,hJ1⟩:∃J1,J1=J++[⟨[.int .i64 c.1,.int .i64 c.2.1,.int .i64 c.2.2.1,.int .i64 c.2.2.2.1,.int .i64 c.2.2.2.2],0,79⟩]:=⟨_,rfl⟩
 have cJ1:Chg J J1 []:=by rw [hJ1];exact Chg.app _
 have lJ1:J1.length=J.length+1:=by rw [hJ1];simp
 have bA:J1[J.length]? = some ⟨[.int .i64 c.1,.int .i64 c.2.1,.int .i64 c.2.2.1,.int .i64 c.2.2.2.1,.int .i64 c.2.2.2.2],0,79⟩:=by rw [hJ1];simp
 have bC1:=Qa bC cJ1 (by simp)
 have bR1:=Qa bR cJ1 (by simp)
 have ow1:=Dt.chg (T:=dChip) ow cJ1 (by simp)
 have ou1:=ou.chg cJ1 (by simp)
 have hJs:=hJ1.symm
 simp [t24,t26,q1,q2,hFJ]
 rw [hJs]
 clear hJ1 hJs
 have oneW:=Qp ow
 have p1:=oneW.1
 have p2:=oneW.2
 have bC1':=bC1
 unfold chipCells netCells at bC1'
 simp only [List.cons_append,List.nil_append] at bC1'
 have od:=Qbi (frz:=H.length) (k:=c.1) (p:=c.2.1) (q:=c.2.2.1) (r:=c.2.2.2.1) (s:=c.2.2.2.2) ow1 harr
 simp only [Qh] at od
 simp [t6,VM.look,bC1',bA]
 refine Qf od ?_
 rintro _ J2 ⟨_,rfl,w2,rfl,o2,c2,m2,d2⟩
 obtain ⟨y,hy⟩:∃y,y=doAct z.1 c.1 c.2.1 c.2.2.1 c.2.2.2.1 c.2.2.2.2:=⟨_,rfl⟩
 have hnx:actsAt a l (i+1)=(y.1,z.2++[y.2]):=by rw [has,hy];rfl
 rw [← hy] at o2
 have oneY:=Qp o2
 have y1:=oneY.1
 have y2:=oneY.2
 have lJ2:=c2.1
 have bC2:=Qa bC1 c2 (by simp)
 have bR2:=Qa bR1 c2 (by simp)
 have ou2:=ou1.chg c2 (by simp)
 obtain ⟨J3,hJ3⟩:∃J3,J3=J2++[⟨chipCells w2 y.1,0,51⟩]:=⟨_,rfl⟩
 have cJ3:Chg J2 J3 []:=by rw [hJ3];exact Chg.app _
 have lJ3:J3.length=J2.length+1:=by rw [hJ3];simp
 have bY:J3[J2.length]? = some ⟨chipCells w2 y.1,0,51⟩:=by rw [hJ3];simp
 have bC3:=Qa bC2 cJ3 (by simp)
 have bR3:=Qa bR2 cJ3 (by simp)
 have ou3:=ou2.chg cJ3 (by simp)
 have o3:=Dt.chg (T:=dChip) o2 cJ3 (by simp)
 have hFJ2:H.length≤J2.length:=by omega
 have hJs:=hJ3.symm
 unfold chipCells netCells at hJs
 simp only [List.cons_append,List.nil_append] at hJs
 simp [Qh,← hy,y1,y2,hFJ2]
 rw [hJs]
 clear hJ3 hJs
 obtain ⟨u',J4,hap,ou4,c4,n4⟩:=ou3.push (P:=Tryz.prog) (frz:=H.length) (ty:=24) (a:=y.2) (by simp) rfl (by omega) (fun j hj=>by have:=(mu j hj).1;omega)
 simp only [Fl.int_f] at hap
 have ltu:∀j∈VM.ids u,j<J.length:=fun j hj=>ou.lt j hj
 have lJ4:=c4.1
 have bY4:=Qa bY c4 (fun hh=>by have:=ltu _ hh;omega)
 have bC4:=Qa bC3 c4 (fun hh=>(mu _ hh).2 rfl)
 have bR4:=Qa bR3 c4 (fun hh=>by have:=(mu _ hh).1;omega)
 have o4:=Dt.chg (T:=dChip) o3 c4 (fun j hj hh=>by have:=m2 j hj;have:=ltu j hh;omega)
 have bY':=bY
 have bY4':=bY4
 have bC4':=bC4
 have gC:=Qg (r':=⟨chipCells w2 y.1,0,51⟩) bC4
 have cS:Chg J4 (J4.set (K.length+1) ⟨chipCells w2 y.1,0,51⟩) [K.length+1]:=Qe _ _
 obtain ⟨J5,hJ5⟩:∃J5,J5=J4.set (K.length+1) ⟨chipCells w2 y.1,0,51⟩:=⟨_,rfl⟩
 rw [← hJ5] at gC cS
 have o5:=Dt.chg (T:=dChip) o4 cS (fun j hj hh=>by have:=m2 j hj;simp at hh;omega)
 have ou5:=ou4.chg cS (fun j hj hh=>by
  simp at hh;subst hh
  rcases n4 _ hj with h|h
  ·exact (mu _ h).2 rfl
  ·omega)
 have bR5:=Qa bR4 cS (by simp;omega)
 have hJs:=hJ5.symm
 have lv3:=Sg o3
 have lv4:=Sg o4
 have bY3L:=fun L=>Ql bY L
 have lv3L:=fun L=>Sg (Dt.app (T:=dChip) (L:=L) o3)
 unfold chipCells netCells at bY' bY4' bC4' hJs bY3L
 simp only [List.cons_append,List.nil_append] at bY' bY4' bC4' hJs bY3L
 rw [Xz (fl:=([0],[5])) (h:=⟨by kernel_rfl,by kernel_rfl,by kernel_rfl,by kernel_rfl⟩)]
 simp [emps,empOp,empB,-Qn,-Qv,t6,t7,VM.look,bY',bY3L,bY4',bC4',lv3,lv3L,lv4,hap,y1,y2,hFB]
 rw [hJs]
 clear hJ5 hJs
 simp [t26]
 have cH5:Chg H J5 []:=(((((cJ.trans cJ1).trans c2).trans cJ3).trans' c4 (fun j hj=>.inr (by have:=(mu j hj).1;omega))).trans' cS (fun j hj=>.inr (by simp at hj;omega)))
 refine ih (l.length-(i+1)) _ _ ⟨i+1,w2,u',rfl,by omega,by simp [t4],by simp [t6],by simp,by simp [t24],by simp [t25],?_,by rw [hnx];exact gC,by rw [hnx];exact o5,fun j hj=>by have:=m2 j hj;omega,fun hh=>by have:=m2 _ hh;omega,d2,by rw [hnx];exact ou5,fun j hj=>?_,fun j hj hh=>?_,cH5,bR5⟩ (by omega)
 ·simp;rw [w64 (by omega) (by omega)]
 ·rcases n4 j hj with h|h
  ·exact mu j h
  ·omega
 ·have hlt:=dChip.lt o2 j hj
  rcases n4 j hh with h|h
  ·have:=m2 j hj;have:=ltu j h;omega
  ·omega
theorem Fd {v:ChipV} {a:ChipD} {lv:Value} {l:List PkD} (o:dChip.Ow H v a) (ol:dAct.Ow H lv l) (h9:allL 1048576 a.1.2.2.2.2.2.2.1) :
 wp (vcall C frz 8 [dChip.val v a,lv] H) (MadeR H (runActs a l)):=by
 have hr:=ol.1.rd
 have hn:=ol.2
 have oneA:=Qp o
 have ones:=oneA.1
 have one2:=oneA.2
 have ecopy:=fun K (c:Chg H K [])=>Vd (frz:=H.length) (H:=K) (v:=v) (a:=a) (Dt.chg (T:=dChip) o c (by simp))
 have ck:=fun F K (c:Chg H K [])=>Zi (frz:=F) (H:=K) (v:=v) (a:=a) (Dt.chg (T:=dChip) o c (by simp))
 simp only [Qh] at ecopy ck ⊢
 rw [Qb (fn:=Tryz.f8) Tryz.func8 rfl (by kernel_rfl) rfl]
 obtain ⟨G,hG⟩:∃G,G=H++[⟨chipCells v a,0,51⟩,⟨zChip,0,51⟩]:=⟨_,rfl⟩
 have cG:Chg H G []:=by rw [hG];exact Chg.app _
 have b0:G[H.length]? = some ⟨chipCells v a,0,51⟩:=by rw [hG];simp
 have bR:G[H.length+1]? = some ⟨zChip,0,51⟩:=by rw [hG];simp
 have lG:G.length=H.length+2:=by rw [hG];simp
 have hGs:=hG.symm
 unfold chipCells netCells zChip at hGs
 simp only [List.cons_append,List.nil_append] at hGs
 simp [ones,one2]
 rw [hGs]
 clear hG hGs
 have b0':=b0
 unfold chipCells netCells at b0'
 simp only [List.cons_append,List.nil_append] at b0'
 try simp [VM.look,b0',ones,one2]
 refine Qf (ecopy G cG) ?_
 rintro _ K ⟨n,rfl,on,cn,mn,dn⟩
 have cK:Chg H K []:=cG.trans cn
 have b0:=Qa b0 cn (by simp)
 have bR:=Qa bR cn (by simp)
 have oneN:=Qp on
 have qn:=oneN.1
 have qn2:=oneN.2
 have lK:=cn.1
 have hFK:H.length≤K.length:=by omega
 obtain ⟨K2,hK2⟩:∃K2,K2=K++[⟨chipCells n a,0,51⟩,⟨[],0,3⟩]:=⟨_,rfl⟩
 have c12:Chg K K2 []:=by rw [hK2];exact Chg.app _
 have cK2:=cK.trans c12
 have l2:K2.length=K.length+2:=by rw [hK2];simp
 have b0:=Qa b0 c12 (by simp)
 have bR:=Qa bR c12 (by simp)
 have bC:K2[K.length]? = some ⟨chipCells n a,0,51⟩:=by rw [hK2];simp
 have oI:Ow Fl.int 3 K2 (.slice (some ⟨K.length+1,0,some 0⟩) 0 0) []:=by rw [hK2];exact Ow.new (D:=Fl.int) (xs:=[]) (k:=1) rfl rfl rfl rfl
 have on2:=Dt.chg (T:=dChip) on c12 (by simp)
 have hF:H.length≤H.length+1:=by omega
 have mn':∀i∈dChip.ids n,H.length+2≤i:=fun i hi=>by have:=mn i hi;omega
 have ltn:∀i∈dChip.ids n,i<K.length:=fun i hi=>dChip.lt on i hi
 have hFB:H.length≤K.length:=by omega
 have hKs:=hK2.symm
 unfold chipCells netCells at hKs
 simp only [List.cons_append,List.nil_append] at hKs
 simp [Qh,VM.look,qn,qn2,hFB]
 rw [hKs]
 clear hK2 hKs
 have ck':=fun F=>ck F K2 cK2
 have b0':=b0
 have bC':=bC
 have bR':=bR
 have gR:=Qg (r':=⟨chipCells n a,0,51⟩) bR
 have bad:¬canAct a l→MadeR H (runActs a l) (.tuple #[dChip.val n a,.slice (some ⟨K.length+1,0,some 0⟩) 0 0]) (K2.set (H.length+1) ⟨chipCells n a,0,51⟩):=fun hb=>
  madeR (y:=(a,[])) on2 ⟨oI,by simp⟩ cK2 mn' dn (fun i hi=>by simp [dFlat] at hi;omega) (fun i hi hh=>by have:=ltn i hi;simp [dFlat] at hh;omega) (if_neg hb)
 unfold zChip at bR'
 unfold chipCells netCells at b0' bC' gR bad
 simp only [List.cons_append,List.nil_append] at b0' bC' gR bad
 have ll:=fun (J:Heap) (c:Chg H J [])=>(hr.chg c (by simp)).len (P:=Tryz.prog) (ty:=55) (by simp)
 have l2':=ll K2 cK2
 by_cases g0:chipOk a
 rotate_left
 ·have hM:=bad (fun h=>g0 h.1)
  simp [VM.look,b0',ones,one2,ck',g0,bC',qn,qn2,bR',gR,hF]
  simpa [Qh] using hM
 simp [VM.look,b0',ck',g0,l2']
 refine Qc ?_ ?_<;>intro g1
 ·have hM:=bad (fun h=>by have:=h.2;omega)
  simp [VM.look,bC',qn,qn2,bR',gR,hF]
  simpa [Qh] using hM
 have g:canAct a l:=⟨g0,by omega⟩
 simp [l2']
 refine Qk (fun m t H'=>∃(i:Nat) (w:ChipV) (u:Value),m=l.length-i∧i≤l.length∧t 1=lv∧t 4=.pointer (some ⟨H.length+1,0,some 0⟩)∧t 6=.pointer (some ⟨K.length,0,some 0⟩)∧t 7=u∧t 8=.int .i64 i∧
  H'[K.length]? = some ⟨chipCells w (actsAt a l i).1,0,51⟩∧dChip.Ow H' w (actsAt a l i).1∧(∀j∈dChip.ids w,H.length+2≤j)∧K.length∉dChip.ids w∧(dChip.ids w).Nodup∧VM.Ow Fl.int 3 H' u (actsAt a l i).2∧(∀j∈VM.ids u,H.length+2≤j∧j≠K.length)∧(∀j∈dChip.ids w,j∉VM.ids u)∧Chg H H' []∧H'[H.length+1]? = some ⟨zChip,0,51⟩) ?_ (n:=l.length)
  ⟨0,n,.slice (some ⟨K.length+1,0,some 0⟩) 0 0,rfl,by omega,by simp,by simp,by simp,by simp,by simp,bC,on2,mn',fun hh=>by have:=ltn _ hh;omega,dn,oI,fun j hj=>by simp at hj;omega,fun j hj hh=>by have:=ltn j hj;simp at hh;omega,cK2,bR⟩
 rintro m t J ⟨i,w,u,rfl,hi,t1,t4,t6,t7,t8,bC,ow,mw,nB,dw,ou,mu,xw,cJ,bR⟩ ih
 have lJ:=cJ.1
 have hBJ:=Qt bC
 have lJl:=ll J cJ
 simp [t8,t1,lJl]
 refine Qc ?_ ?_<;>intro h
 rotate_left
 ·have he:i=l.length:=by omega
  subst he
  obtain ⟨y,hy⟩:∃y,y=actsAt a l l.length:=⟨_,rfl⟩
  rw [← hy] at bC ow ou
  have oneW:=Qp ow
  have p1:=oneW.1
  have p2:=oneW.2
  have gR:=Qg (r':=⟨chipCells w y.1,0,51⟩) bR
  have hM:=madeR (r:=⟨chipCells w y.1,0,51⟩) (y:=y) (z:=runActs a l) ow ⟨ou,by rw [hy,Yu a l _ (by omega)];omega⟩ cJ mw dw (fun j hj=>(mu j hj).1) xw (by rw [hy,Pz g])
  unfold zChip at bR
  unfold chipCells netCells at bC gR hM
  simp only [List.cons_append,List.nil_append] at bC gR hM
  simp [t4,t6,t7,VM.look,bC,p1,p2,bR,gR,hF]
  simpa [Qh] using hM
 have hi':i<l.length:=by omega
 obtain ⟨q1,q2⟩:=Kq (hr.chg cJ (by simp)) hi' hn
 have has:=Y9 (a:=a) hi'
 obtain ⟨c,hc⟩:∃c,c=l[i]:=⟨_,rfl⟩
 rw [← hc] at q2 has
 obtain ⟨z,hz⟩:∃z,z=actsAt a l i:=⟨_,rfl⟩
 have harr:allL 66000000 z.1.1.2.2.2.2.2.2.1:=by rw [hz];exact Wb (Vs l (by omega) h9 i hi) (by omega)
 have hzl:z.2.length=i:=by rw [hz];exact Yu a l i hi
 rw [← hz] at bC ow ou has
 have oneW:=Qp ow
 have p1:=oneW.1
 have p2:=oneW.2
 have bC1':=bC
 unfold chipCells netCells at bC1'
 simp only [List.cons_append,List.nil_append] at bC1'
 have od:=Qam (frz:=H.length) (k:=c.1) (p:=c.2.1) (q:=c.2.2.1) (r:=c.2.2.2.1) (s:=c.2.2.2.2) ow harr
 simp only [Qh] at od
 simp [t1,t6,t8]
 rw [Qj (h:=by kernel_rfl)]
 simp [t1,t6,t8,VM.look,bC1',q1,q2]
 refine Qf od ?_
 rintro _ J2 ⟨_,rfl,w2,rfl,o2,c2,m2,d2⟩
 obtain ⟨y,hy⟩:∃y,y=doAct z.1 c.1 c.2.1 c.2.2.1 c.2.2.2.1 c.2.2.2.2:=⟨_,rfl⟩
 have hnx:actsAt a l (i+1)=(y.1,z.2++[y.2]):=by rw [has,hy];rfl
 rw [← hy] at o2
 have oneY:=Qp o2
 have y1:=oneY.1
 have y2:=oneY.2
 have lJ2:=c2.1
 have bC2:=Qa bC c2 (by simp)
 have bR2:=Qa bR c2 (by simp)
 have ou2:=ou.chg c2 (by simp)
 obtain ⟨J3,hJ3⟩:∃J3,J3=J2++[⟨chipCells w2 y.1,0,51⟩]:=⟨_,rfl⟩
 have cJ3:Chg J2 J3 []:=by rw [hJ3];exact Chg.app _
 have lJ3:J3.length=J2.length+1:=by rw [hJ3];simp
 have bY:J3[J2.length]? = some ⟨chipCells w2 y.1,0,51⟩:=by rw [hJ3];simp
 have bC3:=Qa bC2 cJ3 (by simp)
 have bR3:=Qa bR2 cJ3 (by simp)
 have ou3:=ou2.chg cJ3 (by simp)
 have o3:=Dt.chg (T:=dChip) o2 cJ3 (by simp)
 have hFJ2:H.length≤J2.length:=by omega
 have hJs:=hJ3.symm
 unfold chipCells netCells at hJs
 simp only [List.cons_append,List.nil_append] at hJs
 simp [Qh,← hy,y1,y2,hFJ2]
 rw [hJs]
 clear hJ3 hJs
 have gC:=Qg (r':=⟨chipCells w2 y.1,0,51⟩) bC3
 have cS:Chg J3 (J3.set K.length ⟨chipCells w2 y.1,0,51⟩) [K.length]:=Qe _ _
 obtain ⟨J4,hJ4⟩:∃J4,J4=J3.set K.length ⟨chipCells w2 y.1,0,51⟩:=⟨_,rfl⟩
 have lJ4:J4.length=J3.length:=by rw [hJ4];simp
 rw [← hJ4] at gC cS
 have o4:=Dt.chg (T:=dChip) o3 cS (fun j hj hh=>by have:=m2 j hj;simp at hh;omega)
 have ou4:=ou3.chg cS (fun j hj hh=>by simp at hh;exact (mu j hj).2 hh)
 have bR4:=Qa bR3 cS (by simp;omega)
 have hJs:=hJ4.symm
 have bY':=bY
 have bC3':=bC3
 unfold chipCells netCells at bY' bC3' hJs
 simp only [List.cons_append,List.nil_append] at bY' bC3' hJs
 simp [t6,VM.look,bY',bC3',y1,y2,hFB]
 rw [hJs]
 clear hJ4 hJs
 obtain ⟨u',J5,hap,ou5,c5,n5⟩:=ou4.push (P:=Tryz.prog) (frz:=H.length) (ty:=24) (a:=y.2) (by simp) rfl (by omega) (fun j hj=>by have:=(mu j hj).1;omega)
 simp only [Fl.int_f,lJ4] at hap
 have ltu:∀j∈VM.ids u,j<J.length:=fun j hj=>ou.lt j hj
 have lJ5:=c5.1
 have gC5:=Qa gC c5 (fun hh=>(mu _ hh).2 rfl)
 have bR5:=Qa bR4 c5 (fun hh=>by have:=(mu _ hh).1;omega)
 have o5:=Dt.chg (T:=dChip) o4 c5 (fun j hj hh=>by have:=m2 j hj;have:=ltu j hh;omega)
 simp [-Qn,-Qv,t7,t8,hap]
 have cH5:Chg H J5 []:=((((cJ.trans c2).trans cJ3).trans' cS (fun j hj=>.inr (by simp at hj;omega))).trans' c5 (fun j hj=>.inr (by have:=(mu j hj).1;omega)))
 refine ih (l.length-(i+1)) _ _ ⟨i+1,w2,u',rfl,by omega,by simp [t1],by simp [t4],by simp [t6],by simp,?_,by rw [hnx];exact gC5,by rw [hnx];exact o5,fun j hj=>by have:=m2 j hj;omega,fun hh=>by have:=m2 _ hh;omega,d2,by rw [hnx];exact ou5,fun j hj=>?_,fun j hj hh=>?_,cH5,bR5⟩ (by omega)
 ·simp;rw [w64 (by omega) (by omega)]
 ·rcases n5 j hj with h|h
  ·exact mu j h
  ·omega
 ·have hlt:=dChip.lt o2 j hj
  rcases n5 j hh with h|h
  ·have:=m2 j hj;have:=ltu j h;omega
  ·omega
def isReplay (a:ChipD) (l:List PkD) (ns:List Int):Prop:=canAct a l∧(runActs a l).2=ns
noncomputable instance (a:ChipD) (l:List PkD) (ns:List Int):Decidable (isReplay a l ns):=inferInstanceAs (Decidable (_∧_))
theorem F8 {v:ChipV} {a:ChipD} {lv nv:Value} {l:List PkD} {ns:List Int} (o:dChip.Ow H v a) (ol:dAct.Ow H lv l) (oN:dIntS.Ow H nv ns) (h9:allL 1048576 a.1.2.2.2.2.2.2.1) :
 vcall C frz 22 [dChip.val v a,lv,nv] H=some (.bool (decide (isReplay a l ns)),H):=by
 have hr:=ol.1.rd
 have hn:=ol.2
 have oneA:=Qp o
 have ones:=oneA.1
 have one2:=oneA.2
 refine wp.exact (by simp) ?_ rfl
 have er:=fun F=>Cf (frz:=F) (H:=H++[⟨chipCells v a,0,51⟩]) (Dt.app (T:=dChip) o) (Dt.app (T:=dAct) ol) h9
 simp only [Qh] at er ⊢
 rw [Qb (fn:=Tryz.f22) Tryz.func22 rfl (by kernel_rfl) rfl]
 obtain ⟨G,hG⟩:∃G,G=H++[⟨chipCells v a,0,51⟩]:=⟨_,rfl⟩
 have cG:Chg H G []:=by rw [hG];exact Chg.app _
 have b0:G[H.length]? = some ⟨chipCells v a,0,51⟩:=by rw [hG];simp
 have lG:G.length=H.length+1:=by rw [hG];simp
 rw [← hG] at er
 have hGs:=hG.symm
 unfold chipCells netCells at hGs
 simp only [List.cons_append,List.nil_append] at hGs
 simp [ones,one2]
 rw [hGs]
 clear hG hGs
 have b0':=b0
 unfold chipCells netCells at b0'
 simp only [List.cons_append,List.nil_append] at b0'
 try simp [VM.look,b0',ones,one2]
 refine Qf (er _) ?_
 rintro _ K ⟨w,u,rfl,ow,ou,c1,mw,dw,mu,du,xw⟩
 obtain ⟨y,hy⟩:∃y,y=runActs a l:=⟨_,rfl⟩
 rw [← hy] at ow ou
 have oneW:=Qp ow
 have p1:=oneW.1
 have p2:=oneW.2
 have lK:=c1.1
 have hFK:H.length≤K.length:=by omega
 obtain ⟨K2,hK2⟩:∃K2,K2=K++[⟨chipCells w y.1,0,51⟩]:=⟨_,rfl⟩
 have c12:Chg K K2 []:=by rw [hK2];exact Chg.app _
 have cK2:Chg H K2 []:=(cG.trans c1).trans c12
 have b2:=Qa (Qa b0 c1 (by simp)) c12 (by simp)
 have ou2:=Dt.chg (T:=dIntS) ou c12 (by simp)
 have oN2:=Dt.chg (T:=dIntS) oN cK2 (by simp)
 have ck:=fun F=>Ul (frz:=F) (H:=K2) (v:=v) (a:=a) (Dt.chg (T:=dChip) o cK2 (by simp))
 have ll:=(hr.chg cK2 (by simp)).len (P:=Tryz.prog) (ty:=55) (by simp)
 have se:=fun F=>Ko (frz:=F) (H:=K2) u nv y.2 ns ou2.1.rd oN2.1.rd ou2.2
 simp only [Qh] at ck
 have hKs:=hK2.symm
 unfold chipCells netCells at hKs b2
 simp only [List.cons_append,List.nil_append] at hKs b2
 simp [Qh,← hy,p1,p2,hFK]
 rw [hKs]
 clear hK2 hKs
 by_cases g0:chipOk a
 ·by_cases g1:l.length≤30
  ·have e:decide (isReplay a l ns)=decide (y.2=ns):=by rw [hy];simp [isReplay,canAct,g0,g1]
   have g1':((l.length:Nat):Int)≤30:=by omega
   rw [e]
   simp [VM.look,b2,ck,g0,ll,g1',se]
  ·have e:decide (isReplay a l ns)=false:=by simp [isReplay,canAct,g0,g1]
   have g1':¬((l.length:Nat):Int)≤30:=by omega
   rw [e]
   simp [VM.look,b2,ck,g0,ll,g1',se]
 ·have e:decide (isReplay a l ns)=false:=by simp [isReplay,canAct,g0]
  rw [e]
  simp [VM.look,b2,ck,g0,ll,se]
theorem Jc {v:ChipV} {a:ChipD} {lv nv:Value} {l:List PkD} {ns:List Int} (o:dChip.Ow H v a) (ol:dAct.Ow H lv l) (oN:dIntS.Ow H nv ns) (h9:allL 1048576 a.1.2.2.2.2.2.2.1) :
 vcall C frz 20 [dChip.val v a,lv,nv] H=some (.bool (decide (isReplay a l ns)),H):=by
 have hr:=ol.1.rd
 have hn:=ol.2
 have oneA:=Qp o
 have ones:=oneA.1
 have one2:=oneA.2
 refine wp.exact (by simp) ?_ rfl
 have er:=fun F=>Fd (frz:=F) (H:=H++[⟨chipCells v a,0,51⟩]) (Dt.app (T:=dChip) o) (Dt.app (T:=dAct) ol) h9
 simp only [Qh] at er ⊢
 rw [Qb (fn:=Tryz.f20) Tryz.func20 rfl (by kernel_rfl) rfl]
 obtain ⟨G,hG⟩:∃G,G=H++[⟨chipCells v a,0,51⟩]:=⟨_,rfl⟩
 have cG:Chg H G []:=by rw [hG];exact Chg.app _
 have b0:G[H.length]? = some ⟨chipCells v a,0,51⟩:=by rw [hG];simp
 have lG:G.length=H.length+1:=by rw [hG];simp
 rw [← hG] at er
 have hGs:=hG.symm
 unfold chipCells netCells at hGs
 simp only [List.cons_append,List.nil_append] at hGs
 simp [ones,one2]
 rw [hGs]
 clear hG hGs
 have b0':=b0
 unfold chipCells netCells at b0'
 simp only [List.cons_append,List.nil_append] at b0'
 have ck:=fun F=>Zi (frz:=F) (H:=G) (v:=v) (a:=a) (Dt.chg (T:=dChip) o cG (by simp))
 have ll:=(hr.chg cG (by simp)).len (P:=Tryz.prog) (ty:=55) (by simp)
 simp only [Qh] at ck
 by_cases g0:chipOk a
 rotate_left
 ·have e:decide (isReplay a l ns)=false:=by simp [isReplay,canAct,g0]
  rw [e]
  simp [VM.look,b0',ones,one2,ck,g0]
 by_cases g1:l.length≤30
 rotate_left
 ·have e:decide (isReplay a l ns)=false:=by simp [isReplay,canAct,g0,g1]
  have g1':(30:Int)<((l.length:Nat):Int):=by omega
  rw [e]
  simp [VM.look,b0',ones,one2,ck,g0,ll,g1']
 have g1':¬(30:Int)<((l.length:Nat):Int):=by omega
 simp [VM.look,b0',ones,one2,ck,g0,ll,g1']
 refine Qf (er _) ?_
 rintro _ K ⟨w,u,rfl,ow,ou,c1,mw,dw,mu,du,xw⟩
 obtain ⟨y,hy⟩:∃y,y=runActs a l:=⟨_,rfl⟩
 rw [← hy] at ow ou
 have oneW:=Qp ow
 have p1:=oneW.1
 have p2:=oneW.2
 have lK:=c1.1
 have hFK:H.length≤K.length:=by omega
 obtain ⟨K2,hK2⟩:∃K2,K2=K++[⟨chipCells w y.1,0,51⟩]:=⟨_,rfl⟩
 have c12:Chg K K2 []:=by rw [hK2];exact Chg.app _
 have cK2:Chg H K2 []:=(cG.trans c1).trans c12
 have ou2:=Dt.chg (T:=dIntS) ou c12 (by simp)
 have oN2:=Dt.chg (T:=dIntS) oN cK2 (by simp)
 have se:=fun F=>Cs (frz:=F) (H:=K2) u nv y.2 ns ou2.1.rd oN2.1.rd ou2.2
 have hKs:=hK2.symm
 unfold chipCells netCells at hKs
 simp only [List.cons_append,List.nil_append] at hKs
 simp [Qh,← hy,p1,p2,hFK]
 rw [hKs]
 clear hK2 hKs
 have e:decide (isReplay a l ns)=decide (y.2=ns):=by rw [hy];simp [isReplay,canAct,g0,g1]
 rw [e]
 simp [se]
theorem law_FnExactIsReplay_w {a0_0:Int} {a0_1:Int} {a0_2:List (Int)} {u0_2:Value} {a0_3:List (Int)} {u0_3:Value} {a0_4:List (Int)} {u0_4:Value} {a0_5:List (List (Int×Int×Int×Bool×Bool))} {u0_5:Value} {a0_6:List (Int)} {u0_6:Value} {a0_7:List (Int)} {u0_7:Value} {a0_8:List (List (Int×Int×Int×Bool×Bool))} {u0_8:Value} {a0_9:List (List (Int×Int×Int×Bool×Bool))} {u0_9:Value} {a0_10:Int} {a0_11:List (Int×Int×Int×Int×Int)} {u0_11:Value} {a1:List (Int×Int×Int×Int×Int)} {u1:Value} {a2:List (Int)} {u2:Value} (s0_2:IsS (Kn.int .i64) H u0_2 a0_2) (s0_3:IsS (Kn.int .i64) H u0_3 a0_3) (s0_4:IsS (Kn.int .i64) H u0_4 a0_4) (s0_5:IsS (Kn.slice (Kn.pair (Kn.int .i64) (Kn.pair (Kn.int .i64) (Kn.pair (Kn.int .i64) (Kn.pair Kn.bool Kn.bool))))) H u0_5 a0_5) (s0_6:IsS (Kn.int .i64) H u0_6 a0_6) (s0_7:IsS (Kn.int .i64) H u0_7 a0_7) (s0_8:IsS (Kn.slice (Kn.pair (Kn.int .i64) (Kn.pair (Kn.int .i64) (Kn.pair (Kn.int .i64) (Kn.pair Kn.bool Kn.bool))))) H u0_8 a0_8) (s0_9:IsS (Kn.slice (Kn.pair (Kn.int .i64) (Kn.pair (Kn.int .i64) (Kn.pair (Kn.int .i64) (Kn.pair Kn.bool Kn.bool))))) H u0_9 a0_9) (s0_11:IsS (Kn.pair (Kn.int .i64) (Kn.pair (Kn.int .i64) (Kn.pair (Kn.int .i64) (Kn.pair (Kn.int .i64) (Kn.int .i64))))) H u0_11 a0_11) (s1:IsS (Kn.pair (Kn.int .i64) (Kn.pair (Kn.int .i64) (Kn.pair (Kn.int .i64) (Kn.pair (Kn.int .i64) (Kn.int .i64))))) H u1 a1) (s2:IsS (Kn.int .i64) H u2 a2)
 (w0:(((((Lit.int .i64 a0_0).wf=true)∧((Lit.int .i64 a0_1).wf=true))∧(a0_2.length≤maxLen∧∀x1∈a0_2,(Lit.int .i64 x1).wf=true))∧(((a0_3.length≤maxLen∧∀x2∈a0_3,(Lit.int .i64 x2).wf=true))∧((a0_4.length≤maxLen∧∀x3∈a0_4,(Lit.int .i64 x3).wf=true)))∧(a0_5.length≤maxLen∧∀x4∈a0_5,x4.length≤maxLen∧∀x5∈x4,((Lit.int .i64 x5.1).wf=true)∧((Lit.int .i64 x5.2.1).wf=true)∧((Lit.int .i64 x5.2.2.1).wf=true)∧(True)∧(True))∧(a0_6.length≤maxLen∧∀x6∈a0_6,(Lit.int .i64 x6).wf=true)∧(a0_7.length≤maxLen∧∀x7∈a0_7,(Lit.int .i64 x7).wf=true)∧(a0_8.length≤maxLen∧∀x8∈a0_8,x8.length≤maxLen∧∀x9∈x8,((Lit.int .i64 x9.1).wf=true)∧((Lit.int .i64 x9.2.1).wf=true)∧((Lit.int .i64 x9.2.2.1).wf=true)∧(True)∧(True))∧(a0_9.length≤maxLen∧∀x10∈a0_9,x10.length≤maxLen∧∀x11∈x10,((Lit.int .i64 x11.1).wf=true)∧((Lit.int .i64 x11.2.1).wf=true)∧((Lit.int .i64 x11.2.2.1).wf=true)∧(True)∧(True))∧((Lit.int .i64 a0_10).wf=true))∧(a0_11.length≤maxLen∧∀x12∈a0_11,((Lit.int .i64 x12.1).wf=true)∧((Lit.int .i64 x12.2.1).wf=true)∧((Lit.int .i64 x12.2.2.1).wf=true)∧((Lit.int .i64 x12.2.2.2.1).wf=true)∧((Lit.int .i64 x12.2.2.2.2).wf=true))) (w1:a1.length≤maxLen∧∀x13∈a1,((Lit.int .i64 x13.1).wf=true)∧((Lit.int .i64 x13.2.1).wf=true)∧((Lit.int .i64 x13.2.2.1).wf=true)∧((Lit.int .i64 x13.2.2.2.1).wf=true)∧((Lit.int .i64 x13.2.2.2.2).wf=true)) (w2:a2.length≤maxLen∧∀x14∈a2,(Lit.int .i64 x14).wf=true) :
 wp (vcall C frz 4 [.agg #[.int .i64 a0_0,.int .i64 a0_1,u0_2,u0_3,u0_4,u0_5,u0_6,u0_7,u0_8,u0_9,.int .i64 a0_10,u0_11],u1,u2] H) (fun r _=>r=.bool true):=by
 have r0_2:=s0_2.ints.rd
 have r0_3:=s0_3.ints.rd
 have r0_4:=s0_4.ints.rd
 obtain ⟨h0_5,r0_5⟩:=IsS.rdL_of (fun hh=>IsS.rd_of rfl Fm hh) s0_5
 have r0_6:=s0_6.ints.rd
 have r0_7:=s0_7.ints.rd
 obtain ⟨h0_8,r0_8⟩:=IsS.rdL_of (fun hh=>IsS.rd_of rfl Fm hh) s0_8
 obtain ⟨h0_9,r0_9⟩:=IsS.rdL_of (fun hh=>IsS.rd_of rfl Fm hh) s0_9
 have r0_11:=IsS.rd_of (D:=pkF) rfl Bd s0_11
 have r1:=IsS.rd_of (D:=pkF) rfl Bd s1
 have r2:=s2.ints.rd
 have rl0_2:=fun (L:Heap)=>(Rd.app (L:=L) r0_2).len (P:=Tryz.prog) (ty:=24) (by simp)
 have rm0_2:=r0_2.len (P:=Tryz.prog) (ty:=24) (by simp)
 have rl0_3:=fun (L:Heap)=>(Rd.app (L:=L) r0_3).len (P:=Tryz.prog) (ty:=24) (by simp)
 have rm0_3:=r0_3.len (P:=Tryz.prog) (ty:=24) (by simp)
 have rl0_4:=fun (L:Heap)=>(Rd.app (L:=L) r0_4).len (P:=Tryz.prog) (ty:=24) (by simp)
 have rm0_4:=r0_4.len (P:=Tryz.prog) (ty:=24) (by simp)
 have rl0_6:=fun (L:Heap)=>(Rd.app (L:=L) r0_6).len (P:=Tryz.prog) (ty:=24) (by simp)
 have rm0_6:=r0_6.len (P:=Tryz.prog) (ty:=24) (by simp)
 have rl0_7:=fun (L:Heap)=>(Rd.app (L:=L) r0_7).len (P:=Tryz.prog) (ty:=24) (by simp)
 have rm0_7:=r0_7.len (P:=Tryz.prog) (ty:=24) (by simp)
 have rl0_11:=fun (L:Heap)=>(Rd.app (L:=L) r0_11).len (P:=Tryz.prog) (ty:=34) (by simp)
 have rm0_11:=r0_11.len (P:=Tryz.prog) (ty:=34) (by simp)
 have rl1:=fun (L:Heap)=>(Rd.app (L:=L) r1).len (P:=Tryz.prog) (ty:=37) (by simp)
 have rm1:=r1.len (P:=Tryz.prog) (ty:=37) (by simp)
 have rl2:=fun (L:Heap)=>(Rd.app (L:=L) r2).len (P:=Tryz.prog) (ty:=24) (by simp)
 have rm2:=r2.len (P:=Tryz.prog) (ty:=24) (by simp)
 rw [Qb (fn:=Tryz.f4) Tryz.func4 rfl (by kernel_rfl) rfl]
 have ro0_2:=And.intro r0_2.one' r0_2.cells
 have ro0_3:=And.intro r0_3.one' r0_3.cells
 have ro0_4:=And.intro r0_4.one' r0_4.cells
 have ro0_5:=And.intro r0_5.1.one' r0_5.1.cells
 have ro0_6:=And.intro r0_6.one' r0_6.cells
 have ro0_7:=And.intro r0_7.one' r0_7.cells
 have ro0_8:=And.intro r0_8.1.one' r0_8.1.cells
 have ro0_9:=And.intro r0_9.1.one' r0_9.1.cells
 have ro0_11:=And.intro r0_11.one' r0_11.cells
 have ro1:=And.intro r1.one' r1.cells
 have ro2:=And.intro r2.one' r2.cells
 simp [VM.look,ro0_2,rl0_2,rm0_2,ro0_3,rl0_3,rm0_3,ro0_4,rl0_4,rm0_4,ro0_5,ro0_6,rl0_6,rm0_6,ro0_7,rl0_7,rm0_7,ro0_8,ro0_9,ro0_11,rl0_11,rm0_11,ro1,rl1,rm1,ro2,rl2,rm2]
 refine Qc ?_ ?_<;>intro g1<;>simp [g1]
 try simp [VM.look,ro0_2,rl0_2,rm0_2,ro0_3,rl0_3,rm0_3,ro0_4,rl0_4,rm0_4,ro0_5,ro0_6,rl0_6,rm0_6,ro0_7,rl0_7,rm0_7,ro0_8,ro0_9,ro0_11,rl0_11,rm0_11,ro1,rl1,rm1,ro2,rl2,rm2]
 have sz0:=fun F (L:Heap)=>Qad (frz:=F) (H:=H++L) a0_0 a0_1 a0_10 1048576 u0_2 u0_3 u0_4 u0_5 u0_6 u0_7 u0_8 u0_9 u0_11 h0_5 h0_8 h0_9 a0_2 a0_3 a0_4 a0_6 a0_7 a0_5 a0_8 a0_9 a0_11 (IsI.rd (Rd.isI (Rd.chg r0_2 ((Chg.refl (H:=H) []).trans (Chg.app [])) (by simp)))) (IsI.rd (Rd.isI (Rd.chg r0_3 ((Chg.refl (H:=H) []).trans (Chg.app [])) (by simp)))) (IsI.rd (Rd.isI (Rd.chg r0_4 ((Chg.refl (H:=H) []).trans (Chg.app [])) (by simp)))) (RdL.chg r0_5 ((Chg.refl (H:=H) []).trans (Chg.app [])) (by simp)) (IsI.rd (Rd.isI (Rd.chg r0_6 ((Chg.refl (H:=H) []).trans (Chg.app [])) (by simp)))) (IsI.rd (Rd.isI (Rd.chg r0_7 ((Chg.refl (H:=H) []).trans (Chg.app [])) (by simp)))) (RdL.chg r0_8 ((Chg.refl (H:=H) []).trans (Chg.app [])) (by simp)) (RdL.chg r0_9 ((Chg.refl (H:=H) []).trans (Chg.app [])) (by simp)) (Rd.chg r0_11 ((Chg.refl (H:=H) []).trans (Chg.app [])) (by simp)) (by have:=w0.1.1.2.1;simpa [maxLen] using this) (by have:=w0.1.2.1.1.1;simpa [maxLen] using this) (by have:=w0.1.2.1.2.1;simpa [maxLen] using this) (by have:=w0.1.2.2.1.1;simpa [maxLen] using this) (fun x hx=>by have:=(w0.1.2.2.1.2 x hx).1;simpa [maxLen] using this) (by have:=w0.1.2.2.2.1.1;simpa [maxLen] using this) (by have:=w0.1.2.2.2.2.1.1;simpa [maxLen] using this) (by have:=w0.1.2.2.2.2.2.1.1;simpa [maxLen] using this) (fun x hx=>by have:=(w0.1.2.2.2.2.2.1.2 x hx).1;simpa [maxLen] using this) (by have:=w0.1.2.2.2.2.2.2.1.1;simpa [maxLen] using this) (fun x hx=>by have:=(w0.1.2.2.2.2.2.2.1.2 x hx).1;simpa [maxLen] using this) (by have:=w0.2.1;simpa [maxLen] using this) (by omega) (by omega)
 simp [VM.look,ro0_2,rl0_2,rm0_2,ro0_3,rl0_3,rm0_3,ro0_4,rl0_4,rm0_4,ro0_5,ro0_6,rl0_6,rm0_6,ro0_7,rl0_7,rm0_7,ro0_8,ro0_9,ro0_11,rl0_11,rm0_11,ro1,rl1,rm1,ro2,rl2,rm2,sz0]
 refine Qc ?_ ?_<;>intro g2<;>simp [g2]
 have t0:(a0_2.length:Int)+((a0_3.length:Int)+(a0_4.length:Int))+(tot a0_5:Int)+(a0_6.length:Int)+(a0_7.length:Int)+(tot a0_8:Int)+(tot a0_9:Int)+(a0_11.length:Int)≤1048576:=by split at g2<;>omega
 have f0:¬(1048576:Int)<(a0_2.length:Int)+((a0_3.length:Int)+(a0_4.length:Int))+(tot a0_5:Int)+(a0_6.length:Int)+(a0_7.length:Int)+(tot a0_8:Int)+(tot a0_9:Int)+(a0_11.length:Int):=by omega
 simp only [if_neg f0]
 try simp [VM.look,ro0_2,rl0_2,rm0_2,ro0_3,rl0_3,rm0_3,ro0_4,rl0_4,rm0_4,ro0_5,ro0_6,rl0_6,rm0_6,ro0_7,rl0_7,rm0_7,ro0_8,ro0_9,ro0_11,rl0_11,rm0_11,ro1,rl1,rm1,ro2,rl2,rm2,f0]
 have sz1:=fun F (L:Heap)=>Qap (frz:=F) (H:=H++L) u1 a1 (1048576-((a0_2.length:Int)+((a0_3.length:Int)+(a0_4.length:Int))+(tot a0_5:Int)+(a0_6.length:Int)+(a0_7.length:Int)+(tot a0_8:Int)+(tot a0_9:Int)+(a0_11.length:Int))) (Rd.chg r1 ((Chg.refl (H:=H) []).trans (Chg.app [])) (by simp)) (by omega) (by omega) (by have:=w1.1;simp [maxLen] at this;omega)
 simp [VM.look,ro0_2,rl0_2,rm0_2,ro0_3,rl0_3,rm0_3,ro0_4,rl0_4,rm0_4,ro0_5,ro0_6,rl0_6,rm0_6,ro0_7,rl0_7,rm0_7,ro0_8,ro0_9,ro0_11,rl0_11,rm0_11,ro1,rl1,rm1,ro2,rl2,rm2,sz1,f0]
 refine Qc ?_ ?_<;>intro g3<;>simp [g3]
 have t1:(a1.length:Int)≤(1048576-((a0_2.length:Int)+((a0_3.length:Int)+(a0_4.length:Int))+(tot a0_5:Int)+(a0_6.length:Int)+(a0_7.length:Int)+(tot a0_8:Int)+(tot a0_9:Int)+(a0_11.length:Int))):=by split at g3<;>omega
 have f1:¬((1048576-((a0_2.length:Int)+((a0_3.length:Int)+(a0_4.length:Int))+(tot a0_5:Int)+(a0_6.length:Int)+(a0_7.length:Int)+(tot a0_8:Int)+(tot a0_9:Int)+(a0_11.length:Int))):Int)<(a1.length:Int):=by omega
 simp only [if_neg f1]
 try simp [VM.look,ro0_2,rl0_2,rm0_2,ro0_3,rl0_3,rm0_3,ro0_4,rl0_4,rm0_4,ro0_5,ro0_6,rl0_6,rm0_6,ro0_7,rl0_7,rm0_7,ro0_8,ro0_9,ro0_11,rl0_11,rm0_11,ro1,rl1,rm1,ro2,rl2,rm2,f0,f1]
 refine Qf (Ov a0_0 a0_1 a0_10 u0_2 u0_3 u0_4 u0_5 u0_6 u0_7 u0_8 u0_9 u0_11 h0_5 h0_8 h0_9 a0_2 a0_3 a0_4 a0_6 a0_7 a0_5 a0_8 a0_9 a0_11 (IsI.rd (Rd.isI (Rd.chg r0_2 ((Chg.refl (H:=H) []).trans (Chg.app [])) (by simp)))) (IsI.rd (Rd.isI (Rd.chg r0_3 ((Chg.refl (H:=H) []).trans (Chg.app [])) (by simp)))) (IsI.rd (Rd.isI (Rd.chg r0_4 ((Chg.refl (H:=H) []).trans (Chg.app [])) (by simp)))) (RdL.chg r0_5 ((Chg.refl (H:=H) []).trans (Chg.app [])) (by simp)) (IsI.rd (Rd.isI (Rd.chg r0_6 ((Chg.refl (H:=H) []).trans (Chg.app [])) (by simp)))) (IsI.rd (Rd.isI (Rd.chg r0_7 ((Chg.refl (H:=H) []).trans (Chg.app [])) (by simp)))) (RdL.chg r0_8 ((Chg.refl (H:=H) []).trans (Chg.app [])) (by simp)) (RdL.chg r0_9 ((Chg.refl (H:=H) []).trans (Chg.app [])) (by simp)) (Rd.chg r0_11 ((Chg.refl (H:=H) []).trans (Chg.app [])) (by simp)) (by omega) (by omega) (by omega) (by have:=Yn a0_5;omega) (fun x hx=>by have:=Yv a0_5 x hx;omega) (by omega) (by omega) (by have:=Yn a0_8;omega) (fun x hx=>by have:=Yv a0_8 x hx;omega) (by have:=Yn a0_9;omega) (fun x hx=>by have:=Yv a0_9 x hx;omega) (by omega)) ?_
 rintro _ H1 ⟨v_x0,rfl,o_x0,c1,n_x0,d_x0⟩
 have l1:=c1.1
 try simp at l1
 have b1_3:=Qa ((Jk _ _).trans rfl) c1 (by simp)
 have cH1:Chg H H1 []:=((Chg.refl (H:=H) []).trans (Chg.app [])).trans c1
 have h_x0:=dChip.lt o_x0
 try simp at n_x0
 have one_x0:=Qp o_x0
 simp [VM.look,b1_3,Ql b1_3,cH1.1,Nat.le_add_right_of_le cH1.1,one_x0,ro0_2,ro0_3,ro0_4,ro0_5,ro0_6,ro0_7,ro0_8,ro0_9,ro0_11,ro1,ro2,Qh,f0,f1]
 refine Qf (P8 u1 a1 (Rd.chg r1 cH1 (by simp)) (by omega)) ?_
 rintro _ H2 ⟨v_x1,rfl,o_x1,c2,n_x1,d_x1⟩
 have l2:=c2.1
 try simp at l2
 have b2_3:=Qa b1_3 c2 (by simp)
 have o2_x0:=Dt.chg0 o_x0 c2
 have cH2:Chg H H2 []:=(cH1).trans c2
 have h_x1:=dAct.lt o_x1
 try simp at n_x1
 have one_x1:=P6 o_x1
 simp [VM.look,b2_3,Ql b2_3,cH2.1,Nat.le_add_right_of_le cH2.1,one_x0,one_x1,ro0_2,ro0_3,ro0_4,ro0_5,ro0_6,ro0_7,ro0_8,ro0_9,ro0_11,ro1,ro2,Qh,Ws,f0,f1]
 refine Qf (Ue u2 a2 (Rd.isI (Rd.chg r2 cH2 (by simp))) (by omega)) ?_
 rintro _ H3 ⟨v_x2,rfl,o_x2,c3,n_x2,d_x2⟩
 have l3:=c3.1
 try simp at l3
 have b3_3:=Qa b2_3 c3 (by simp)
 have o3_x0:=Dt.chg0 o2_x0 c3
 have o3_x1:=Dt.chg0 o_x1 c3
 have cH3:Chg H H3 []:=(cH2).trans c3
 have h_x2:=dIntS.lt o_x2
 try simp at n_x2
 have one_x2:=W2 o_x2
 simp [VM.look,b3_3,Ql b3_3,cH3.1,Nat.le_add_right_of_le cH3.1,one_x0,one_x1,one_x2,ro0_2,ro0_3,ro0_4,ro0_5,ro0_6,ro0_7,ro0_8,ro0_9,ro0_11,ro1,ro2,Qh,Ws,Wl,f0,f1]
 have ex4:=fun F=>Jc (frz:=F) (H:=H3) o3_x0 o3_x1 o_x2 (fun x hx=>by have:=Yv a0_9 x hx;omega)
 try simp only [Qh] at ex4
 try simp only [Ws] at ex4
 try simp only [Wl] at ex4
 simp [VM.look,b3_3,Ql b3_3,cH3.1,Nat.le_add_right_of_le cH3.1,one_x0,one_x1,one_x2,ro0_2,ro0_3,ro0_4,ro0_5,ro0_6,ro0_7,ro0_8,ro0_9,ro0_11,ro1,ro2,Qh,Ws,Wl,ex4,f0,f1]
 refine Qf (Ov a0_0 a0_1 a0_10 u0_2 u0_3 u0_4 u0_5 u0_6 u0_7 u0_8 u0_9 u0_11 h0_5 h0_8 h0_9 a0_2 a0_3 a0_4 a0_6 a0_7 a0_5 a0_8 a0_9 a0_11 (IsI.rd (Rd.isI (Rd.chg r0_2 cH3 (by simp)))) (IsI.rd (Rd.isI (Rd.chg r0_3 cH3 (by simp)))) (IsI.rd (Rd.isI (Rd.chg r0_4 cH3 (by simp)))) (RdL.chg r0_5 cH3 (by simp)) (IsI.rd (Rd.isI (Rd.chg r0_6 cH3 (by simp)))) (IsI.rd (Rd.isI (Rd.chg r0_7 cH3 (by simp)))) (RdL.chg r0_8 cH3 (by simp)) (RdL.chg r0_9 cH3 (by simp)) (Rd.chg r0_11 cH3 (by simp)) (by omega) (by omega) (by omega) (by have:=Yn a0_5;omega) (fun x hx=>by have:=Yv a0_5 x hx;omega) (by omega) (by omega) (by have:=Yn a0_8;omega) (fun x hx=>by have:=Yv a0_8 x hx;omega) (by have:=Yn a0_9;omega) (fun x hx=>by have:=Yv a0_9 x hx;omega) (by omega)) ?_
 rintro _ H5 ⟨v_x3,rfl,o_x3,c5,n_x3,d_x3⟩
 have l5:=c5.1
 try simp at l5
 have b5_3:=Qa b3_3 c5 (by simp)
 have o5_x0:=Dt.chg0 o3_x0 c5
 have o5_x1:=Dt.chg0 o3_x1 c5
 have o5_x2:=Dt.chg0 o_x2 c5
 have cH5:Chg H H5 []:=(cH3).trans c5
 have h_x3:=dChip.lt o_x3
 try simp at n_x3
 have one_x3:=Qp o_x3
 simp [VM.look,b5_3,Ql b5_3,cH5.1,Nat.le_add_right_of_le cH5.1,one_x0,one_x1,one_x2,one_x3,ro0_2,ro0_3,ro0_4,ro0_5,ro0_6,ro0_7,ro0_8,ro0_9,ro0_11,ro1,ro2,Qh,Ws,Wl,f0,f1]
 refine Qf (P8 u1 a1 (Rd.chg r1 (cH5.trans (Chg.app [])) (by simp)) (by omega)) ?_
 rintro _ H6 ⟨v_x4,rfl,o_x4,c6,n_x4,d_x4⟩
 have l6:=c6.1
 try simp at l6
 have b6_9:=Qa ((Jk _ _).trans rfl) c6 (by simp)
 have b6_3:=Qa (Ql b5_3 _) c6 (by simp)
 have o6_x0:=Dt.chg0 (Dt.app o5_x0) c6
 have o6_x1:=Dt.chg0 (Dt.app o5_x1) c6
 have o6_x2:=Dt.chg0 (Dt.app o5_x2) c6
 have o6_x3:=Dt.chg0 (Dt.app o_x3) c6
 have cH6:Chg H H6 []:=(cH5.trans (Chg.app [])).trans c6
 have h_x4:=dAct.lt o_x4
 try simp at n_x4
 have one_x4:=P6 o_x4
 simp [VM.look,b6_3,b6_9,Ql b6_3,Ql b6_9,cH6.1,Nat.le_add_right_of_le cH6.1,one_x0,one_x1,one_x2,one_x3,one_x4,ro0_2,ro0_3,ro0_4,ro0_5,ro0_6,ro0_7,ro0_8,ro0_9,ro0_11,ro1,ro2,Qh,Ws,Wl,f0,f1]
 refine Qf (Ue u2 a2 (Rd.isI (Rd.chg r2 cH6 (by simp))) (by omega)) ?_
 rintro _ H7 ⟨v_x5,rfl,o_x5,c7,n_x5,d_x5⟩
 have l7:=c7.1
 try simp at l7
 have b7_3:=Qa b6_3 c7 (by simp)
 have b7_9:=Qa b6_9 c7 (by simp)
 have o7_x0:=Dt.chg0 o6_x0 c7
 have o7_x1:=Dt.chg0 o6_x1 c7
 have o7_x2:=Dt.chg0 o6_x2 c7
 have o7_x3:=Dt.chg0 o6_x3 c7
 have o7_x4:=Dt.chg0 o_x4 c7
 have cH7:Chg H H7 []:=(cH6).trans c7
 have h_x5:=dIntS.lt o_x5
 try simp at n_x5
 have one_x5:=W2 o_x5
 simp [VM.look,b7_3,b7_9,Ql b7_3,Ql b7_9,cH7.1,Nat.le_add_right_of_le cH7.1,one_x0,one_x1,one_x2,one_x3,one_x4,one_x5,ro0_2,ro0_3,ro0_4,ro0_5,ro0_6,ro0_7,ro0_8,ro0_9,ro0_11,ro1,ro2,Qh,Ws,Wl,f0,f1]
 have ex8:=fun F=>F8 (frz:=F) (H:=H7) o7_x3 o7_x4 o_x5 (fun x hx=>by have:=Yv a0_9 x hx;omega)
 try simp only [Qh] at ex8
 try simp only [Ws] at ex8
 try simp only [Wl] at ex8
 simp [VM.look,b7_3,b7_9,Ql b7_3,Ql b7_9,cH7.1,Nat.le_add_right_of_le cH7.1,one_x0,one_x1,one_x2,one_x3,one_x4,one_x5,ro0_2,ro0_3,ro0_4,ro0_5,ro0_6,ro0_7,ro0_8,ro0_9,ro0_11,ro1,ro2,Qh,Ws,Wl,ex8,f0,f1]
 rw [Qj (h:=by kernel_rfl)]
 simp [VM.look,b7_3,b7_9,Ql b7_3,Ql b7_9,cH7.1,Nat.le_add_right_of_le cH7.1,one_x0,one_x1,one_x2,one_x3,one_x4,one_x5,ro0_2,ro0_3,ro0_4,ro0_5,ro0_6,ro0_7,ro0_8,ro0_9,ro0_11,ro1,ro2,Qh,Ws,Wl,f0,f1]
 refine Qf (Ov a0_0 a0_1 a0_10 u0_2 u0_3 u0_4 u0_5 u0_6 u0_7 u0_8 u0_9 u0_11 h0_5 h0_8 h0_9 a0_2 a0_3 a0_4 a0_6 a0_7 a0_5 a0_8 a0_9 a0_11 (IsI.rd (Rd.isI (Rd.chg r0_2 cH7 (by simp)))) (IsI.rd (Rd.isI (Rd.chg r0_3 cH7 (by simp)))) (IsI.rd (Rd.isI (Rd.chg r0_4 cH7 (by simp)))) (RdL.chg r0_5 cH7 (by simp)) (IsI.rd (Rd.isI (Rd.chg r0_6 cH7 (by simp)))) (IsI.rd (Rd.isI (Rd.chg r0_7 cH7 (by simp)))) (RdL.chg r0_8 cH7 (by simp)) (RdL.chg r0_9 cH7 (by simp)) (Rd.chg r0_11 cH7 (by simp)) (by omega) (by omega) (by omega) (by have:=Yn a0_5;omega) (fun x hx=>by have:=Yv a0_5 x hx;omega) (by omega) (by omega) (by have:=Yn a0_8;omega) (fun x hx=>by have:=Yv a0_8 x hx;omega) (by have:=Yn a0_9;omega) (fun x hx=>by have:=Yv a0_9 x hx;omega) (by omega)) ?_
 rintro _ H9 ⟨v_x6,rfl,o_x6,c9,n_x6,d_x6⟩
 have l9:=c9.1
 try simp at l9
 have b9_3:=Qa b7_3 c9 (by simp)
 have b9_9:=Qa b7_9 c9 (by simp)
 have o9_x0:=Dt.chg0 o7_x0 c9
 have o9_x1:=Dt.chg0 o7_x1 c9
 have o9_x2:=Dt.chg0 o7_x2 c9
 have o9_x3:=Dt.chg0 o7_x3 c9
 have o9_x4:=Dt.chg0 o7_x4 c9
 have o9_x5:=Dt.chg0 o_x5 c9
 have cH9:Chg H H9 []:=(cH7).trans c9
 have h_x6:=dChip.lt o_x6
 try simp at n_x6
 have one_x6:=Qp o_x6
 simp [VM.look,b9_3,b9_9,Ql b9_3,Ql b9_9,cH9.1,Nat.le_add_right_of_le cH9.1,one_x0,one_x1,one_x2,one_x3,one_x4,one_x5,one_x6,ro0_2,ro0_3,ro0_4,ro0_5,ro0_6,ro0_7,ro0_8,ro0_9,ro0_11,ro1,ro2,Qh,Ws,Wl,f0,f1]
 have eq10:=fun F=>Be (frz:=F) (H:=H9) o9_x3 o_x6
 try simp only [Qh] at eq10
 simp [eq10,VM.look,b9_3,b9_9,Ql b9_3,Ql b9_9,cH9.1,Nat.le_add_right_of_le cH9.1,one_x0,one_x1,one_x2,one_x3,one_x4,one_x5,one_x6,ro0_2,ro0_3,ro0_4,ro0_5,ro0_6,ro0_7,ro0_8,ro0_9,ro0_11,ro1,ro2,Qh,Ws,Wl,f0,f1]
 refine Qf (P8 u1 a1 (Rd.chg r1 cH9 (by simp)) (by omega)) ?_
 rintro _ H11 ⟨v_x7,rfl,o_x7,c11,n_x7,d_x7⟩
 have l11:=c11.1
 try simp at l11
 have b11_3:=Qa b9_3 c11 (by simp)
 have b11_9:=Qa b9_9 c11 (by simp)
 have o11_x0:=Dt.chg0 o9_x0 c11
 have o11_x1:=Dt.chg0 o9_x1 c11
 have o11_x2:=Dt.chg0 o9_x2 c11
 have o11_x3:=Dt.chg0 o9_x3 c11
 have o11_x4:=Dt.chg0 o9_x4 c11
 have o11_x5:=Dt.chg0 o9_x5 c11
 have o11_x6:=Dt.chg0 o_x6 c11
 have cH11:Chg H H11 []:=(cH9).trans c11
 have h_x7:=dAct.lt o_x7
 try simp at n_x7
 have one_x7:=P6 o_x7
 simp [VM.look,b11_3,b11_9,Ql b11_3,Ql b11_9,cH11.1,Nat.le_add_right_of_le cH11.1,one_x0,one_x1,one_x2,one_x3,one_x4,one_x5,one_x6,one_x7,ro0_2,ro0_3,ro0_4,ro0_5,ro0_6,ro0_7,ro0_8,ro0_9,ro0_11,ro1,ro2,Qh,Ws,Wl,f0,f1]
 have eq12:=fun F=>Bk (frz:=F) (H:=H11) o11_x4 o_x7
 try simp only [Ws] at eq12
 simp [eq12,VM.look,b11_3,b11_9,Ql b11_3,Ql b11_9,cH11.1,Nat.le_add_right_of_le cH11.1,one_x0,one_x1,one_x2,one_x3,one_x4,one_x5,one_x6,one_x7,ro0_2,ro0_3,ro0_4,ro0_5,ro0_6,ro0_7,ro0_8,ro0_9,ro0_11,ro1,ro2,Qh,Ws,Wl,f0,f1]
 refine Qf (Ue u2 a2 (Rd.isI (Rd.chg r2 cH11 (by simp))) (by omega)) ?_
 rintro _ H13 ⟨v_x8,rfl,o_x8,c13,n_x8,d_x8⟩
 have l13:=c13.1
 try simp at l13
 have b13_3:=Qa b11_3 c13 (by simp)
 have b13_9:=Qa b11_9 c13 (by simp)
 have o13_x0:=Dt.chg0 o11_x0 c13
 have o13_x1:=Dt.chg0 o11_x1 c13
 have o13_x2:=Dt.chg0 o11_x2 c13
 have o13_x3:=Dt.chg0 o11_x3 c13
 have o13_x4:=Dt.chg0 o11_x4 c13
 have o13_x5:=Dt.chg0 o11_x5 c13
 have o13_x6:=Dt.chg0 o11_x6 c13
 have o13_x7:=Dt.chg0 o_x7 c13
 have cH13:Chg H H13 []:=(cH11).trans c13
 have h_x8:=dIntS.lt o_x8
 try simp at n_x8
 have one_x8:=W2 o_x8
 simp [VM.look,b13_3,b13_9,Ql b13_3,Ql b13_9,cH13.1,Nat.le_add_right_of_le cH13.1,one_x0,one_x1,one_x2,one_x3,one_x4,one_x5,one_x6,one_x7,one_x8,ro0_2,ro0_3,ro0_4,ro0_5,ro0_6,ro0_7,ro0_8,ro0_9,ro0_11,ro1,ro2,Qh,Ws,Wl,f0,f1]
 have eq14:=fun F=>Oy (frz:=F) (H:=H13) o13_x5 o_x8
 try simp only [Wl] at eq14
 simp [eq14,VM.look,b13_3,b13_9,Ql b13_3,Ql b13_9,cH13.1,Nat.le_add_right_of_le cH13.1,one_x0,one_x1,one_x2,one_x3,one_x4,one_x5,one_x6,one_x7,one_x8,ro0_2,ro0_3,ro0_4,ro0_5,ro0_6,ro0_7,ro0_8,ro0_9,ro0_11,ro1,ro2,Qh,Ws,Wl,f0,f1]
theorem law_FnExactIsReplay {a0_0:Int} {a0_1:Int} {a0_2:List (Int)} {u0_2:Value} {a0_3:List (Int)} {u0_3:Value} {a0_4:List (Int)} {u0_4:Value} {a0_5:List (List (Int×Int×Int×Bool×Bool))} {u0_5:Value} {a0_6:List (Int)} {u0_6:Value} {a0_7:List (Int)} {u0_7:Value} {a0_8:List (List (Int×Int×Int×Bool×Bool))} {u0_8:Value} {a0_9:List (List (Int×Int×Int×Bool×Bool))} {u0_9:Value} {a0_10:Int} {a0_11:List (Int×Int×Int×Int×Int)} {u0_11:Value} {a1:List (Int×Int×Int×Int×Int)} {u1:Value} {a2:List (Int)} {u2:Value} (s0_2:IsS (Kn.int .i64) H u0_2 a0_2) (s0_3:IsS (Kn.int .i64) H u0_3 a0_3) (s0_4:IsS (Kn.int .i64) H u0_4 a0_4) (s0_5:IsS (Kn.slice (Kn.pair (Kn.int .i64) (Kn.pair (Kn.int .i64) (Kn.pair (Kn.int .i64) (Kn.pair Kn.bool Kn.bool))))) H u0_5 a0_5) (s0_6:IsS (Kn.int .i64) H u0_6 a0_6) (s0_7:IsS (Kn.int .i64) H u0_7 a0_7) (s0_8:IsS (Kn.slice (Kn.pair (Kn.int .i64) (Kn.pair (Kn.int .i64) (Kn.pair (Kn.int .i64) (Kn.pair Kn.bool Kn.bool))))) H u0_8 a0_8) (s0_9:IsS (Kn.slice (Kn.pair (Kn.int .i64) (Kn.pair (Kn.int .i64) (Kn.pair (Kn.int .i64) (Kn.pair Kn.bool Kn.bool))))) H u0_9 a0_9) (s0_11:IsS (Kn.pair (Kn.int .i64) (Kn.pair (Kn.int .i64) (Kn.pair (Kn.int .i64) (Kn.pair (Kn.int .i64) (Kn.int .i64))))) H u0_11 a0_11) (s1:IsS (Kn.pair (Kn.int .i64) (Kn.pair (Kn.int .i64) (Kn.pair (Kn.int .i64) (Kn.pair (Kn.int .i64) (Kn.int .i64))))) H u1 a1) (s2:IsS (Kn.int .i64) H u2 a2)
 (w0:(((((Lit.int .i64 a0_0).wf=true)∧((Lit.int .i64 a0_1).wf=true))∧(a0_2.length≤maxLen∧∀x1∈a0_2,(Lit.int .i64 x1).wf=true))∧(((a0_3.length≤maxLen∧∀x2∈a0_3,(Lit.int .i64 x2).wf=true))∧((a0_4.length≤maxLen∧∀x3∈a0_4,(Lit.int .i64 x3).wf=true)))∧(a0_5.length≤maxLen∧∀x4∈a0_5,x4.length≤maxLen∧∀x5∈x4,((Lit.int .i64 x5.1).wf=true)∧((Lit.int .i64 x5.2.1).wf=true)∧((Lit.int .i64 x5.2.2.1).wf=true)∧(True)∧(True))∧(a0_6.length≤maxLen∧∀x6∈a0_6,(Lit.int .i64 x6).wf=true)∧(a0_7.length≤maxLen∧∀x7∈a0_7,(Lit.int .i64 x7).wf=true)∧(a0_8.length≤maxLen∧∀x8∈a0_8,x8.length≤maxLen∧∀x9∈x8,((Lit.int .i64 x9.1).wf=true)∧((Lit.int .i64 x9.2.1).wf=true)∧((Lit.int .i64 x9.2.2.1).wf=true)∧(True)∧(True))∧(a0_9.length≤maxLen∧∀x10∈a0_9,x10.length≤maxLen∧∀x11∈x10,((Lit.int .i64 x11.1).wf=true)∧((Lit.int .i64 x11.2.1).wf=true)∧((Lit.int .i64 x11.2.2.1).wf=true)∧(True)∧(True))∧((Lit.int .i64 a0_10).wf=true))∧(a0_11.length≤maxLen∧∀x12∈a0_11,((Lit.int .i64 x12.1).wf=true)∧((Lit.int .i64 x12.2.1).wf=true)∧((Lit.int .i64 x12.2.2.1).wf=true)∧((Lit.int .i64 x12.2.2.2.1).wf=true)∧((Lit.int .i64 x12.2.2.2.2).wf=true))) (w1:a1.length≤maxLen∧∀x13∈a1,((Lit.int .i64 x13.1).wf=true)∧((Lit.int .i64 x13.2.1).wf=true)∧((Lit.int .i64 x13.2.2.1).wf=true)∧((Lit.int .i64 x13.2.2.2.1).wf=true)∧((Lit.int .i64 x13.2.2.2.2).wf=true)) (w2:a2.length≤maxLen∧∀x14∈a2,(Lit.int .i64 x14).wf=true) :
 vcall C frz 4 [.agg #[.int .i64 a0_0,.int .i64 a0_1,u0_2,u0_3,u0_4,u0_5,u0_6,u0_7,u0_8,u0_9,.int .i64 a0_10,u0_11],u1,u2] H=some (.bool true,H):=
 (law_FnExactIsReplay_w s0_2 s0_3 s0_4 s0_5 s0_6 s0_7 s0_8 s0_9 s0_11 s1 s2 w0 w1 w2).exact (by simp) rfl
end Go.Proofs.YtlhaeingdonaeaaGreat.V
