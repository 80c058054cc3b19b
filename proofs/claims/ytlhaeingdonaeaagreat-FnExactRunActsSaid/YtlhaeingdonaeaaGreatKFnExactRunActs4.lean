/- Texts of a proof, joined. -/
import Derived.Test.YtlhaeingdonaeaaGreatKM0
import Derived.Test.YtlhaeingdonaeaaGreatKM1
import Derived.Test.YtlhaeingdonaeaaGreatKFnExactRunActs0
import Derived.Test.YtlhaeingdonaeaaGreatKFnExactRunActs1
import Derived.Test.YtlhaeingdonaeaaGreatKFnExactRunActs2
import Derived.Test.YtlhaeingdonaeaaGreatKFnExactRunActs3
set_option linter.all false
namespace Go.Proofs.YtlhaeingdonaeaaGreat.V
open Go Go.VM Go.Proofs
set_option maxRecDepth 10000
variable {frz:Nat} {H:Qd}
def Y1 (x:Qu) (c:Int):Prop:=Tm x∧Vv x.1.1 x.1.2.1 x.1.2.2 c∧V3 x.1.1 x.1.2.1 (W3 x.1.1 x.1.2.1 x.1.2.2 c)=true
noncomputable instance (x:Qu) (c:Int):Decidable (Y1 x c):=inferInstanceAs (Decidable (_∧_))
noncomputable def Ch (x:Qu) (c:Int):Qu:=if Y1 x c then fresh x (x.1.1,x.1.2.1,W3 x.1.1 x.1.2.1 x.1.2.2 c) (St x.1.1 x.1.2.1 (W3 x.1.1 x.1.2.1 x.1.2.2 c)) else x
theorem Qcz {v:Wo} {x:Qu} {c:Int} (o:Qe.Ow H v x) :
 wp (Qh C frz 145 [Qe.val v x,.int .i64 c] H) (Xr Qe H (Ch x c) (decide (Y1 x c))):=by
 have ones:=Qr o
 have oo:=fun (K:Qd) (ch:Qp H K [])=>Dt.chg (T:=Qe) o ch (by simp)
 have ii:=fun F K (ch:Qp H K [])=>ze (frz:=F) (H:=K) (v:=v) (x:=x) (oo K ch)
 have ecopy:=fun K (ch:Qp H K [])=>Sp (frz:=H.length) (H:=K) (v:=v) (x:=x) (oo K ch)
 simp only [Qk] at ii ecopy ⊢
 rw [Qb (fn:=Tryz.f145) Tryz.func145 rfl (by kernel_rfl) rfl]
 have key:∀(y:Qu) (n:Wo) (K K0:Qd) (ok:Bool),Qe.Ow K n y→Qp H K0 []→Qp K0 K []→H.length+1<K0.length→K0[H.length+1]? = some ⟨[.int .i64 0,.int .i64 0,.slice none 0 0,.slice none 0 0,.slice none 0 0,.slice none 0 0,.slice none 0 0,.slice none 0 0,.slice none 0 0,.slice none 0 0,.int .i64 0],0,48⟩→(∀i∈Qe.ids n,K0.length≤i)→(Qe.ids n).Nodup→Ch x c=y→decide (Y1 x c)=ok→
  K[H.length+1]? = some ⟨[.int .i64 0,.int .i64 0,.slice none 0 0,.slice none 0 0,.slice none 0 0,.slice none 0 0,.slice none 0 0,.slice none 0 0,.slice none 0 0,.slice none 0 0,.int .i64 0],0,48⟩∧Xr Qe H (Ch x c) (decide (Y1 x c)) (.tuple #[Qe.val n y,.bool ok]) (K.set (H.length+1) ⟨[.int .i64 y.1.1,.int .i64 y.1.2.1,n.1,n.2.1.1,n.2.1.2,n.2.2.1.1,n.2.2.2.1,n.2.2.2.2.1,n.2.2.2.2.2.1.1,n.2.2.2.2.2.2.1.1,.int .i64 y.2.2.2.2.2.2.2],0,48⟩):=by
  intro y n K K0 ok on c0 ck hlt hz mn dn e1 e2
  have bR:K[H.length+1]? = some ⟨[.int .i64 0,.int .i64 0,.slice none 0 0,.slice none 0 0,.slice none 0 0,.slice none 0 0,.slice none 0 0,.slice none 0 0,.slice none 0 0,.slice none 0 0,.int .i64 0],0,48⟩:=Qa hz ck (by simp)
  refine ⟨bR,Qe.val n y,by rw [e2],n,by rw [e1],?_,?_,fun i hi=>by have:=mn i hi;omega,dn⟩
  ·rw [e1];exact Dt.chg (T:=Qe) on (Qn _ _) (fun i hi hh=>by have:=mn i hi;simp at hh;omega)
  ·exact (c0.trans ck).trans' (Qn _ _) (fun i hi=>.inr (by simp at hi;omega))
 have fail:¬Y1 x c→Ch x c=x∧decide (Y1 x c)=false:=fun hh=>⟨if_neg hh,decide_eq_false hh⟩
 have bad:∀(K0:Qd),Qp H K0 []→H.length+1<K0.length→K0[H.length+1]? = some ⟨[.int .i64 0,.int .i64 0,.slice none 0 0,.slice none 0 0,.slice none 0 0,.slice none 0 0,.slice none 0 0,.slice none 0 0,.slice none 0 0,.slice none 0 0,.int .i64 0],0,48⟩→¬Y1 x c→∀r K,Qe.Made K0 x r K→∃n,r=Yp n x∧Qe.Ow K n x∧K[H.length+1]? = some ⟨[.int .i64 0,.int .i64 0,.slice none 0 0,.slice none 0 0,.slice none 0 0,.slice none 0 0,.slice none 0 0,.slice none 0 0,.slice none 0 0,.slice none 0 0,.int .i64 0],0,48⟩∧Xr Qe H (Ch x c) (decide (Y1 x c)) (.tuple #[Qe.val n x,.bool false]) (K.set (H.length+1) ⟨[.int .i64 x.1.1,.int .i64 x.1.2.1,n.1,n.2.1.1,n.2.1.2,n.2.2.1.1,n.2.2.2.1,n.2.2.2.2.1,n.2.2.2.2.2.1.1,n.2.2.2.2.2.2.1.1,.int .i64 x.2.2.2.2.2.2.2],0,48⟩):=by
  intro K0 c0 hlt hz hb r K hm
  obtain ⟨n,rfl,on,cn,mn,dn⟩:=hm
  obtain ⟨f1,f2⟩:=fail hb
  obtain ⟨k1,k2⟩:=key x n K K0 false on c0 cn hlt hz mn dn f1 f2
  exact ⟨n,rfl,on,k1,k2⟩
 obtain ⟨G,hG⟩:∃G,G=H++[⟨[.int .i64 x.1.1,.int .i64 x.1.2.1,v.1,v.2.1.1,v.2.1.2,v.2.2.1.1,v.2.2.2.1,v.2.2.2.2.1,v.2.2.2.2.2.1.1,v.2.2.2.2.2.2.1.1,.int .i64 x.2.2.2.2.2.2.2],0,48⟩,⟨[.int .i64 0,.int .i64 0,.slice none 0 0,.slice none 0 0,.slice none 0 0,.slice none 0 0,.slice none 0 0,.slice none 0 0,.slice none 0 0,.slice none 0 0,.int .i64 0],0,48⟩]:=⟨_,rfl⟩
 have cG:Qp H G []:=by rw [hG];exact Qp.app _
 have b0:G[H.length]? = some ⟨[.int .i64 x.1.1,.int .i64 x.1.2.1,v.1,v.2.1.1,v.2.1.2,v.2.2.1.1,v.2.2.2.1,v.2.2.2.2.1,v.2.2.2.2.2.1.1,v.2.2.2.2.2.2.1.1,.int .i64 x.2.2.2.2.2.2.2],0,48⟩:=by rw [hG];simp
 have b1:G[H.length+1]? = some ⟨[.int .i64 0,.int .i64 0,.slice none 0 0,.slice none 0 0,.slice none 0 0,.slice none 0 0,.slice none 0 0,.slice none 0 0,.slice none 0 0,.slice none 0 0,.int .i64 0],0,48⟩:=by rw [hG];simp
 have hlG:G.length=H.length+2:=by rw [hG];simp
 simp [ones]
 rw [← hG]
 clear hG
 refine Ql (Ay (c:=c) (oo G cG).1) ?_
 rintro _ K1 ⟨_,rfl,vm,rfl,om,cm,mm,dm⟩
 have c1:Qp H K1 []:=cG.trans cm
 have b01:=Qa b0 cm (by simp)
 have b11:=Qa b1 cm (by simp)
 have hl1:=cm.1
 have onem:=Zs om
 obtain ⟨B,hB⟩:∃B,B=W3 x.1.1 x.1.2.1 x.1.2.2 c:=⟨_,rfl⟩
 rw [← hB] at om
 have Qgu:H.length≤K1.length:=c1.1
 simp [W5,onem,VM.look,Qgu]
 obtain ⟨K1',hK1⟩:∃K,K=K1++[⟨[.int .i64 x.1.1,.int .i64 x.1.2.1,vm],0,42⟩]:=⟨_,rfl⟩
 have c1':Qp K1 K1' []:=by rw [hK1];exact Qp.app _
 have bm:K1'[K1.length]? = some ⟨[.int .i64 x.1.1,.int .i64 x.1.2.1,vm],0,42⟩:=by rw [hK1];simp
 have om1:=Dt.chg (T:=Qx) om c1' (by simp)
 rw [← hK1]
 have hrp:=Qfj (frz:=H.length) om1
 refine Ql hrp ?_
 rintro _ K2 ⟨_,rfl,vc,rfl,oc,cc,mc,dc⟩
 have onec:=W6 oc
 have hl2:H.length≤K2.length:=Nat.le_trans Qgu (Nat.le_trans c1'.1 cc.1)
 simp [Wz,onec,VM.look,hl2]
 obtain ⟨K3,hK3⟩:∃K,K=K2++[⟨[vc.1,vc.2],0,45⟩]:=⟨_,rfl⟩
 have c3':Qp K2 K3 []:=by rw [hK3];exact Qp.app _
 have bc:K3[K2.length]? = some ⟨[vc.1,vc.2],0,45⟩:=by rw [hK3];simp
 rw [← hK3]
 have c13:Qp K1' K3 []:=cc.trans c3'
 have cG3:Qp G K3 []:=(cm.trans c1').trans c13
 have c3:Qp H K3 []:=cG.trans cG3
 have b03:=Qa b0 cG3 (by simp)
 have b13:=Qa b1 cG3 (by simp)
 have bm3:=Qa bm c13 (by simp)
 have om3:=Dt.chg (T:=Qx) om1 c13 (by simp)
 have oc3:=Dt.chg (T:=Qi) oc c3' (by simp)
 have hl3:H.length+1<K3.length:=Wj b13
 have ii':=fun F=>ii F K3 c3
 simp [VM.look,b03,ones,ii']
 have ffail:¬Y1 x c→wp (Qh C H.length 75 [Yp v x] K3) (fun r K=>∃n,r=Yp n x∧Qe.Ow K n x∧K[H.length+1]? = some ⟨[.int .i64 0,.int .i64 0,.slice none 0 0,.slice none 0 0,.slice none 0 0,.slice none 0 0,.slice none 0 0,.slice none 0 0,.slice none 0 0,.slice none 0 0,.int .i64 0],0,48⟩∧Xr Qe H (Ch x c) (decide (Y1 x c)) (.tuple #[Qe.val n x,.bool false]) (K.set (H.length+1) ⟨[.int .i64 x.1.1,.int .i64 x.1.2.1,n.1,n.2.1.1,n.2.1.2,n.2.2.1.1,n.2.2.2.1,n.2.2.2.2.1,n.2.2.2.2.2.1.1,n.2.2.2.2.2.2.1.1,.int .i64 x.2.2.2.2.2.2.2],0,48⟩)):=fun hb=>(ecopy K3 c3).mono (fun r K hm=>bad K3 c3 hl3 b13 hb r K hm)
 unfold Yp at ffail
 by_cases g0:Tm x
 rotate_left
 ·simp [g0,VM.look,b03,ones]
  refine Ql (ffail (fun k=>g0 k.1)) ?_
  rintro r K ⟨n,rfl,on,bR,hM⟩
  have qn:=Qr on
  have gR:=Qq (r':=⟨[.int .i64 x.1.1,.int .i64 x.1.2.1,n.1,n.2.1.1,n.2.1.2,n.2.2.1.1,n.2.2.2.1,n.2.2.2.2.1,n.2.2.2.2.2.1.1,n.2.2.2.2.2.2.1.1,.int .i64 x.2.2.2.2.2.2.2],0,48⟩) bR
  have hF:H.length≤K.length:=by have:=Wj bR;omega
  simp [Yp,Qk,VM.look,bR,qn,gR,hF]
  exact hM
 by_cases g1:Vv x.1.1 x.1.2.1 x.1.2.2 c
 rotate_left
 ·simp [g0,g1,VM.look,b03,ones]
  refine Ql (ffail (fun k=>g1 k.2.1)) ?_
  rintro r K ⟨n,rfl,on,bR,hM⟩
  have qn:=Qr on
  have gR:=Qq (r':=⟨[.int .i64 x.1.1,.int .i64 x.1.2.1,n.1,n.2.1.1,n.2.1.2,n.2.2.1.1,n.2.2.2.1,n.2.2.2.2.1,n.2.2.2.2.2.1.1,n.2.2.2.2.2.2.1.1,.int .i64 x.2.2.2.2.2.2.2],0,48⟩) bR
  have hF:H.length≤K.length:=by have:=Wj bR;omega
  simp [Yp,Qk,VM.look,bR,qn,gR,hF]
  exact hM
 by_cases g2:V3 x.1.1 x.1.2.1 B=true
 rotate_left
 ·simp [g0,g1,g2,VM.look,b03,ones]
  refine Ql (ffail (fun k=>g2 (by rw [hB];exact k.2.2))) ?_
  rintro r K ⟨n,rfl,on,bR,hM⟩
  have qn:=Qr on
  have gR:=Qq (r':=⟨[.int .i64 x.1.1,.int .i64 x.1.2.1,n.1,n.2.1.1,n.2.1.2,n.2.2.1.1,n.2.2.2.1,n.2.2.2.2.1,n.2.2.2.2.2.1.1,n.2.2.2.2.2.2.1.1,.int .i64 x.2.2.2.2.2.2.2],0,48⟩) bR
  have hF:H.length≤K.length:=by have:=Wj bR;omega
  simp [Yp,Qk,VM.look,bR,qn,gR,hF]
  exact hM
 simp [g0,g1,g2,VM.look,b03,ones,bm3,bc,onem,onec]
 have hok:Y1 x c:=⟨g0,g1,by rw [← hB];exact g2⟩
 have hbr:Ch x c=fresh x (x.1.1,x.1.2.1,B) (St x.1.1 x.1.2.1 B):=by rw [hB];exact if_pos hok
 refine Ql (Db (frz:=H.length) (oo K3 c3) om3 oc3) ?_
 rintro _ K ⟨n,rfl,on,cn,mn,dn⟩
 obtain ⟨bR,hM⟩:=key _ n K K3 true on c3 cn hl3 b13 mn dn hbr (decide_eq_true hok)
 generalize fresh x (x.1.1,x.1.2.1,B) (St x.1.1 x.1.2.1 B)=y at *
 have qn:=Qr on
 have gR:=Qq (r':=⟨[.int .i64 y.1.1,.int .i64 y.1.2.1,n.1,n.2.1.1,n.2.1.2,n.2.2.1.1,n.2.2.2.1,n.2.2.2.2.1,n.2.2.2.2.2.1.1,n.2.2.2.2.2.2.1.1,.int .i64 y.2.2.2.2.2.2.2],0,48⟩) bR
 have hF:H.length≤K.length:=by have:=Wj bR;omega
 simp [Yp,Qk,VM.look,bR,qn,gR,hF]
 exact hM
theorem mz {v:Wo} {x:Qu} {c:Int} (o:Qe.Ow H v x) :
 wp (Qh C frz 68 [Qe.val v x,.int .i64 c] H) (Xr Qe H (Ch x c) (decide (Y1 x c))):=by
 have ones:=Qr o
 have oo:=fun (K:Qd) (ch:Qp H K [])=>Dt.chg (T:=Qe) o ch (by simp)
 have ii:=fun F K (ch:Qp H K [])=>Cz (frz:=F) (H:=K) (v:=v) (x:=x) (oo K ch)
 have ecopy:=fun K (ch:Qp H K [])=>U4 (frz:=H.length) (H:=K) (v:=v) (x:=x) (oo K ch)
 simp only [Qk] at ii ecopy ⊢
 rw [Qb (fn:=Tryz.f68) Tryz.func68 rfl (by kernel_rfl) rfl]
 have key:∀(y:Qu) (n:Wo) (K K0:Qd) (ok:Bool),Qe.Ow K n y→Qp H K0 []→Qp K0 K []→H.length+1<K0.length→K0[H.length+1]? = some ⟨[.int .i64 0,.int .i64 0,.slice none 0 0,.slice none 0 0,.slice none 0 0,.slice none 0 0,.slice none 0 0,.slice none 0 0,.slice none 0 0,.slice none 0 0,.int .i64 0],0,48⟩→(∀i∈Qe.ids n,K0.length≤i)→(Qe.ids n).Nodup→Ch x c=y→decide (Y1 x c)=ok→
  K[H.length+1]? = some ⟨[.int .i64 0,.int .i64 0,.slice none 0 0,.slice none 0 0,.slice none 0 0,.slice none 0 0,.slice none 0 0,.slice none 0 0,.slice none 0 0,.slice none 0 0,.int .i64 0],0,48⟩∧Xr Qe H (Ch x c) (decide (Y1 x c)) (.tuple #[Qe.val n y,.bool ok]) (K.set (H.length+1) ⟨[.int .i64 y.1.1,.int .i64 y.1.2.1,n.1,n.2.1.1,n.2.1.2,n.2.2.1.1,n.2.2.2.1,n.2.2.2.2.1,n.2.2.2.2.2.1.1,n.2.2.2.2.2.2.1.1,.int .i64 y.2.2.2.2.2.2.2],0,48⟩):=by
  intro y n K K0 ok on c0 ck hlt hz mn dn e1 e2
  have bR:K[H.length+1]? = some ⟨[.int .i64 0,.int .i64 0,.slice none 0 0,.slice none 0 0,.slice none 0 0,.slice none 0 0,.slice none 0 0,.slice none 0 0,.slice none 0 0,.slice none 0 0,.int .i64 0],0,48⟩:=Qa hz ck (by simp)
  refine ⟨bR,Qe.val n y,by rw [e2],n,by rw [e1],?_,?_,fun i hi=>by have:=mn i hi;omega,dn⟩
  ·rw [e1];exact Dt.chg (T:=Qe) on (Qn _ _) (fun i hi hh=>by have:=mn i hi;simp at hh;omega)
  ·exact (c0.trans ck).trans' (Qn _ _) (fun i hi=>.inr (by simp at hi;omega))
 have fail:¬Y1 x c→Ch x c=x∧decide (Y1 x c)=false:=fun hh=>⟨if_neg hh,decide_eq_false hh⟩
 have bad:∀(K0:Qd),Qp H K0 []→H.length+1<K0.length→K0[H.length+1]? = some ⟨[.int .i64 0,.int .i64 0,.slice none 0 0,.slice none 0 0,.slice none 0 0,.slice none 0 0,.slice none 0 0,.slice none 0 0,.slice none 0 0,.slice none 0 0,.int .i64 0],0,48⟩→¬Y1 x c→∀r K,Qe.Made K0 x r K→∃n,r=Yp n x∧Qe.Ow K n x∧K[H.length+1]? = some ⟨[.int .i64 0,.int .i64 0,.slice none 0 0,.slice none 0 0,.slice none 0 0,.slice none 0 0,.slice none 0 0,.slice none 0 0,.slice none 0 0,.slice none 0 0,.int .i64 0],0,48⟩∧Xr Qe H (Ch x c) (decide (Y1 x c)) (.tuple #[Qe.val n x,.bool false]) (K.set (H.length+1) ⟨[.int .i64 x.1.1,.int .i64 x.1.2.1,n.1,n.2.1.1,n.2.1.2,n.2.2.1.1,n.2.2.2.1,n.2.2.2.2.1,n.2.2.2.2.2.1.1,n.2.2.2.2.2.2.1.1,.int .i64 x.2.2.2.2.2.2.2],0,48⟩):=by
  intro K0 c0 hlt hz hb r K hm
  obtain ⟨n,rfl,on,cn,mn,dn⟩:=hm
  obtain ⟨f1,f2⟩:=fail hb
  obtain ⟨k1,k2⟩:=key x n K K0 false on c0 cn hlt hz mn dn f1 f2
  exact ⟨n,rfl,on,k1,k2⟩
 obtain ⟨G,hG⟩:∃G,G=H++[⟨[.int .i64 x.1.1,.int .i64 x.1.2.1,v.1,v.2.1.1,v.2.1.2,v.2.2.1.1,v.2.2.2.1,v.2.2.2.2.1,v.2.2.2.2.2.1.1,v.2.2.2.2.2.2.1.1,.int .i64 x.2.2.2.2.2.2.2],0,48⟩,⟨[.int .i64 0,.int .i64 0,.slice none 0 0,.slice none 0 0,.slice none 0 0,.slice none 0 0,.slice none 0 0,.slice none 0 0,.slice none 0 0,.slice none 0 0,.int .i64 0],0,48⟩]:=⟨_,rfl⟩
 have cG:Qp H G []:=by rw [hG];exact Qp.app _
 have b0:G[H.length]? = some ⟨[.int .i64 x.1.1,.int .i64 x.1.2.1,v.1,v.2.1.1,v.2.1.2,v.2.2.1.1,v.2.2.2.1,v.2.2.2.2.1,v.2.2.2.2.2.1.1,v.2.2.2.2.2.2.1.1,.int .i64 x.2.2.2.2.2.2.2],0,48⟩:=by rw [hG];simp
 have b1:G[H.length+1]? = some ⟨[.int .i64 0,.int .i64 0,.slice none 0 0,.slice none 0 0,.slice none 0 0,.slice none 0 0,.slice none 0 0,.slice none 0 0,.slice none 0 0,.slice none 0 0,.int .i64 0],0,48⟩:=by rw [hG];simp
 have hlG:G.length=H.length+2:=by rw [hG];simp
 simp [ones]
 rw [← hG]
 clear hG
 have ii':=fun F=>ii F G cG
 have ffail:∀K3,Qp G K3 []→¬Y1 x c→wp (Qh C H.length 56 [Yp v x] K3) (fun r K=>∃n,r=Yp n x∧Qe.Ow K n x∧K[H.length+1]? = some ⟨[.int .i64 0,.int .i64 0,.slice none 0 0,.slice none 0 0,.slice none 0 0,.slice none 0 0,.slice none 0 0,.slice none 0 0,.slice none 0 0,.slice none 0 0,.int .i64 0],0,48⟩∧Xr Qe H (Ch x c) (decide (Y1 x c)) (.tuple #[Qe.val n x,.bool false]) (K.set (H.length+1) ⟨[.int .i64 x.1.1,.int .i64 x.1.2.1,n.1,n.2.1.1,n.2.1.2,n.2.2.1.1,n.2.2.2.1,n.2.2.2.2.1,n.2.2.2.2.2.1.1,n.2.2.2.2.2.2.1.1,.int .i64 x.2.2.2.2.2.2.2],0,48⟩)):=fun K3 cG3 hb=>(ecopy K3 (cG.trans cG3)).mono (fun r K hm=>bad K3 (cG.trans cG3) (by have:=cG3.1;omega) (Qa b1 cG3 (by simp)) hb r K hm)
 unfold Yp at ffail
 simp [VM.look,b0,ones,ii']
 by_cases g0:Tm x
 rotate_left
 ·simp [g0,VM.look,b0,ones]
  refine Ql (ffail G (Qp.refl _) (fun k=>g0 k.1)) ?_
  rintro r K ⟨n,rfl,on,bR,hM⟩
  have qn:=Qr on
  have gR:=Qq (r':=⟨[.int .i64 x.1.1,.int .i64 x.1.2.1,n.1,n.2.1.1,n.2.1.2,n.2.2.1.1,n.2.2.2.1,n.2.2.2.2.1,n.2.2.2.2.2.1.1,n.2.2.2.2.2.2.1.1,.int .i64 x.2.2.2.2.2.2.2],0,48⟩) bR
  have hF:H.length≤K.length:=by have:=Wj bR;omega
  simp [Yp,Qk,VM.look,bR,qn,gR,hF]
  exact hM
 simp [g0,VM.look,b0,ones]
 refine Ql (Cg (c:=c) (oo G cG).1) ?_
 rintro _ K1 ⟨_,rfl,vm,rfl,om,cm,mm,dm⟩
 have c1:Qp H K1 []:=cG.trans cm
 have b01:=Qa b0 cm (by simp)
 have b11:=Qa b1 cm (by simp)
 have hl1:=cm.1
 have onem:=Zs om
 obtain ⟨B,hB⟩:∃B,B=W3 x.1.1 x.1.2.1 x.1.2.2 c:=⟨_,rfl⟩
 rw [← hB] at om
 have Qgu:H.length≤K1.length:=c1.1
 simp [W5,onem,VM.look,Qgu]
 obtain ⟨K1',hK1⟩:∃K,K=K1++[⟨[.int .i64 x.1.1,.int .i64 x.1.2.1,vm],0,42⟩]:=⟨_,rfl⟩
 have c1':Qp K1 K1' []:=by rw [hK1];exact Qp.app _
 have bm:K1'[K1.length]? = some ⟨[.int .i64 x.1.1,.int .i64 x.1.2.1,vm],0,42⟩:=by rw [hK1];simp
 have Q0l:=Qa b01 c1' (by simp)
 have om1:=Dt.chg (T:=Qx) om c1' (by simp)
 rw [← hK1]
 by_cases g1:Vv x.1.1 x.1.2.1 x.1.2.2 c
 rotate_left
 ·simp [g1,VM.look,Q0l,ones]
  refine Ql (ffail K1' (cm.trans c1') (fun k=>g1 k.2.1)) ?_
  rintro r K ⟨n,rfl,on,bR,hM⟩
  have qn:=Qr on
  have gR:=Qq (r':=⟨[.int .i64 x.1.1,.int .i64 x.1.2.1,n.1,n.2.1.1,n.2.1.2,n.2.2.1.1,n.2.2.2.1,n.2.2.2.2.1,n.2.2.2.2.2.1.1,n.2.2.2.2.2.2.1.1,.int .i64 x.2.2.2.2.2.2.2],0,48⟩) bR
  have hF:H.length≤K.length:=by have:=Wj bR;omega
  simp [Yp,Qk,VM.look,bR,qn,gR,hF]
  exact hM
 simp [g1,VM.look,bm,onem]
 have hrp:=Qcr (frz:=H.length) om1
 refine Ql hrp ?_
 rintro _ K2 ⟨_,rfl,vc,rfl,oc,cc,mc,dc⟩
 have onec:=W6 oc
 have hl2:H.length≤K2.length:=Nat.le_trans Qgu (Nat.le_trans c1'.1 cc.1)
 simp [Wz,onec,VM.look,hl2]
 obtain ⟨K3,hK3⟩:∃K,K=K2++[⟨[vc.1,vc.2],0,45⟩]:=⟨_,rfl⟩
 have c3':Qp K2 K3 []:=by rw [hK3];exact Qp.app _
 have bc:K3[K2.length]? = some ⟨[vc.1,vc.2],0,45⟩:=by rw [hK3];simp
 rw [← hK3]
 have c13:Qp K1' K3 []:=cc.trans c3'
 have cG3:Qp G K3 []:=(cm.trans c1').trans c13
 have c3:Qp H K3 []:=cG.trans cG3
 have b03:=Qa b0 cG3 (by simp)
 have b13:=Qa b1 cG3 (by simp)
 have bm3:=Qa bm c13 (by simp)
 have om3:=Dt.chg (T:=Qx) om1 c13 (by simp)
 have oc3:=Dt.chg (T:=Qi) oc c3' (by simp)
 have hl3:H.length+1<K3.length:=Wj b13
 by_cases g2:V3 x.1.1 x.1.2.1 B=true
 rotate_left
 ·simp [g2,VM.look,b03,ones]
  refine Ql (ffail K3 cG3 (fun k=>g2 (by rw [hB];exact k.2.2))) ?_
  rintro r K ⟨n,rfl,on,bR,hM⟩
  have qn:=Qr on
  have gR:=Qq (r':=⟨[.int .i64 x.1.1,.int .i64 x.1.2.1,n.1,n.2.1.1,n.2.1.2,n.2.2.1.1,n.2.2.2.1,n.2.2.2.2.1,n.2.2.2.2.2.1.1,n.2.2.2.2.2.2.1.1,.int .i64 x.2.2.2.2.2.2.2],0,48⟩) bR
  have hF:H.length≤K.length:=by have:=Wj bR;omega
  simp [Yp,Qk,VM.look,bR,qn,gR,hF]
  exact hM
 simp [g2,VM.look,b03,ones,bm3,bc,onem,onec]
 have hok:Y1 x c:=⟨g0,g1,by rw [← hB];exact g2⟩
 have hbr:Ch x c=fresh x (x.1.1,x.1.2.1,B) (St x.1.1 x.1.2.1 B):=by rw [hB];exact if_pos hok
 refine Ql (Di (frz:=H.length) (oo K3 c3) om3 oc3) ?_
 rintro _ K ⟨n,rfl,on,cn,mn,dn⟩
 obtain ⟨bR,hM⟩:=key _ n K K3 true on c3 cn hl3 b13 mn dn hbr (decide_eq_true hok)
 generalize fresh x (x.1.1,x.1.2.1,B) (St x.1.1 x.1.2.1 B)=y at *
 have qn:=Qr on
 have gR:=Qq (r':=⟨[.int .i64 y.1.1,.int .i64 y.1.2.1,n.1,n.2.1.1,n.2.1.2,n.2.2.1.1,n.2.2.2.1,n.2.2.2.2.1,n.2.2.2.2.2.1.1,n.2.2.2.2.2.2.1.1,.int .i64 y.2.2.2.2.2.2.2],0,48⟩) bR
 have hF:H.length≤K.length:=by have:=Wj bR;omega
 simp [Yp,Qk,VM.look,bR,qn,gR,hF]
 exact hM
def U0 (x:Qu) (t:Yt):Prop:=Tm x∧Y9 x.1.1 x.1.2.1 x.1.2.2 t.1 t.2
instance (x:Qu) (t:Yt):Decidable (U0 x t):=inferInstanceAs (Decidable (_∧_))
def Ks (x:Qu) (t:Yt):Qu:=if U0 x t then fresh x x.1 t else x
theorem Qdq {v:Wo} {x:Qu} {vc:Value×Value} {t:Yt} (o:Qe.Ow H v x) (oc:Qi.Ow H vc t) :
 wp (Qh C frz 184 [Qe.val v x,Qi.val vc t] H) (Xr Qe H (Ks x t) (decide (U0 x t))):=by
 have ones:=Qr o
 have onec:=W6 oc
 have ii:=fun F L=>ze (frz:=F) (H:=H++L) (v:=v) (x:=x) (Dt.app (T:=Qe) o)
 have ck:=fun F L=>I2 (frz:=F) (H:=H++L) x.1.1 x.1.2.1 v.1 vc.1 vc.2 x.1.2.2 t.1 t.2 (Rd.isI o.1.1.rd.app) (Rd.isI oc.1.1.rd.app) (Rd.isI oc.2.1.rd.app) o.1.2
 have ecopy:=fun L=>Sp (frz:=H.length) (H:=H++L) (v:=v) (x:=x) (Dt.app (T:=Qe) o)
 have efresh:=fun L=>Db (frz:=H.length) (H:=H++L) (v:=v) (x:=x) (vm:=v.1) (w':=x.1.1) (h':=x.1.2.1) (b':=x.1.2.2) (vc:=vc) (c':=t) (Dt.app (T:=Qe) o) (Dt.app (T:=Qx) o.1) (Dt.app (T:=Qi) oc)
 simp only [Qk,Wz] at ii ecopy efresh ⊢
 rw [Qb (fn:=Tryz.f184) Tryz.func184 rfl (by kernel_rfl) rfl]
 have hF:H.length≤H.length+2:=by omega
 have key:∀(y:Qu) (n:Wo) (K:Qd) (ok:Bool),Qe.Ow K n y→Qp (H++[⟨[.int .i64 x.1.1,.int .i64 x.1.2.1,v.1,v.2.1.1,v.2.1.2,v.2.2.1.1,v.2.2.2.1,v.2.2.2.2.1,v.2.2.2.2.2.1.1,v.2.2.2.2.2.2.1.1,.int .i64 x.2.2.2.2.2.2.2],0,48⟩,⟨[vc.1,vc.2],0,45⟩,⟨[.int .i64 0,.int .i64 0,.slice none 0 0,.slice none 0 0,.slice none 0 0,.slice none 0 0,.slice none 0 0,.slice none 0 0,.slice none 0 0,.slice none 0 0,.int .i64 0],0,48⟩]) K []→(∀i∈Qe.ids n,H.length+3≤i)→(Qe.ids n).Nodup→Ks x t=y→decide (U0 x t)=ok→
  K[H.length+2]? = some ⟨[.int .i64 0,.int .i64 0,.slice none 0 0,.slice none 0 0,.slice none 0 0,.slice none 0 0,.slice none 0 0,.slice none 0 0,.slice none 0 0,.slice none 0 0,.int .i64 0],0,48⟩∧Xr Qe H (Ks x t) (decide (U0 x t)) (.tuple #[Qe.val n y,.bool ok]) (K.set (H.length+2) ⟨[.int .i64 y.1.1,.int .i64 y.1.2.1,n.1,n.2.1.1,n.2.1.2,n.2.2.1.1,n.2.2.2.1,n.2.2.2.2.1,n.2.2.2.2.2.1.1,n.2.2.2.2.2.2.1.1,.int .i64 y.2.2.2.2.2.2.2],0,48⟩):=by
  intro y n K ok on ck mn dn e1 e2
  have bR:K[H.length+2]? = some ⟨[.int .i64 0,.int .i64 0,.slice none 0 0,.slice none 0 0,.slice none 0 0,.slice none 0 0,.slice none 0 0,.slice none 0 0,.slice none 0 0,.slice none 0 0,.int .i64 0],0,48⟩:=Qa (by simp) ck (by simp)
  refine ⟨bR,Qe.val n y,by rw [e2],n,by rw [e1],?_,?_,fun i hi=>by have:=mn i hi;omega,dn⟩
  ·rw [e1];exact Dt.chg (T:=Qe) on (Qn _ _) (fun i hi hh=>by have:=mn i hi;simp at hh;omega)
  ·exact ((Qp.app []).trans ck).trans' (Qn _ _) (fun i hi=>.inr (by simp at hi;omega))
 have fail:¬U0 x t→Ks x t=x∧decide (U0 x t)=false:=fun hh=>⟨if_neg hh,decide_eq_false hh⟩
 simp [ones,onec,ii]
 by_cases g1:Tm x
 rotate_left
 ·simp [g1,ones,onec]
  refine Ql (ecopy _) ?_
  rintro _ K ⟨n,rfl,on,cn,mn,dn⟩
  obtain ⟨f1,f2⟩:=fail (fun k=>g1 k.1)
  simp at mn
  obtain ⟨bR,hm⟩:=key x n K false on cn mn dn f1 f2
  have qn:=Qr on
  have gR:=Qq (r':=⟨[.int .i64 x.1.1,.int .i64 x.1.2.1,n.1,n.2.1.1,n.2.1.2,n.2.2.1.1,n.2.2.2.1,n.2.2.2.2.1,n.2.2.2.2.2.1.1,n.2.2.2.2.2.2.1.1,.int .i64 x.2.2.2.2.2.2.2],0,48⟩) bR
  simp [Qk,VM.look,bR,qn,gR,hF]
  exact hm
 simp [g1,ones,onec,ck]
 by_cases g2:Y9 x.1.1 x.1.2.1 x.1.2.2 t.1 t.2
 rotate_left
 ·simp [g2,ones,onec]
  refine Ql (ecopy _) ?_
  rintro _ K ⟨n,rfl,on,cn,mn,dn⟩
  obtain ⟨f1,f2⟩:=fail (fun k=>g2 k.2)
  simp at mn
  obtain ⟨bR,hm⟩:=key x n K false on cn mn dn f1 f2
  have qn:=Qr on
  have gR:=Qq (r':=⟨[.int .i64 x.1.1,.int .i64 x.1.2.1,n.1,n.2.1.1,n.2.1.2,n.2.2.1.1,n.2.2.2.1,n.2.2.2.2.1,n.2.2.2.2.2.1.1,n.2.2.2.2.2.2.1.1,.int .i64 x.2.2.2.2.2.2.2],0,48⟩) bR
  simp [Qk,VM.look,bR,qn,gR,hF]
  exact hm
 simp [g2,ones,onec]
 refine Ql (efresh _) ?_
 rintro _ K ⟨n,rfl,on,cn,mn,dn⟩
 simp at mn
 have e1:Ks x t=fresh x (x.1.1,x.1.2.1,x.1.2.2) t:=if_pos ⟨g1,g2⟩
 obtain ⟨bR,hm⟩:=key _ n K true on cn mn dn e1 (decide_eq_true ⟨g1,g2⟩)
 have qn:=Qr on
 have gR:=Qq (r':=⟨[.int .i64 (fresh x (x.1.1,x.1.2.1,x.1.2.2) t).1.1,.int .i64 (fresh x (x.1.1,x.1.2.1,x.1.2.2) t).1.2.1,n.1,n.2.1.1,n.2.1.2,n.2.2.1.1,n.2.2.2.1,n.2.2.2.2.1,n.2.2.2.2.2.1.1,n.2.2.2.2.2.2.1.1,.int .i64 (fresh x (x.1.1,x.1.2.1,x.1.2.2) t).2.2.2.2.2.2.2],0,48⟩) bR
 simp [Qk,VM.look,bR,qn,gR,hF]
 exact hm
theorem gm {v:Wo} {x:Qu} {vc:Value×Value} {t:Yt} (o:Qe.Ow H v x) (oc:Qi.Ow H vc t) :
 wp (Qh C frz 69 [Qe.val v x,Qi.val vc t] H) (Xr Qe H (Ks x t) (decide (U0 x t))):=by
 have ones:=Qr o
 have onec:=W6 oc
 have ii:=fun F L=>Cz (frz:=F) (H:=H++L) (v:=v) (x:=x) (Dt.app (T:=Qe) o)
 have ck:=fun F L=>L9 (frz:=F) (H:=H++L) x.1.1 x.1.2.1 v.1 vc.1 vc.2 x.1.2.2 t.1 t.2 (Rd.isI o.1.1.rd.app) (Rd.isI oc.1.1.rd.app) (Rd.isI oc.2.1.rd.app) o.1.2
 have ecopy:=fun L=>U4 (frz:=H.length) (H:=H++L) (v:=v) (x:=x) (Dt.app (T:=Qe) o)
 have efresh:=fun L=>Di (frz:=H.length) (H:=H++L) (v:=v) (x:=x) (vm:=v.1) (w':=x.1.1) (h':=x.1.2.1) (b':=x.1.2.2) (vc:=vc) (c':=t) (Dt.app (T:=Qe) o) (Dt.app (T:=Qx) o.1) (Dt.app (T:=Qi) oc)
 simp only [Qk,Wz] at ii ecopy efresh ⊢
 rw [Qb (fn:=Tryz.f69) Tryz.func69 rfl (by kernel_rfl) rfl]
 have hF:H.length≤H.length+2:=by omega
 have key:∀(y:Qu) (n:Wo) (K:Qd) (ok:Bool),Qe.Ow K n y→Qp (H++[⟨[.int .i64 x.1.1,.int .i64 x.1.2.1,v.1,v.2.1.1,v.2.1.2,v.2.2.1.1,v.2.2.2.1,v.2.2.2.2.1,v.2.2.2.2.2.1.1,v.2.2.2.2.2.2.1.1,.int .i64 x.2.2.2.2.2.2.2],0,48⟩,⟨[vc.1,vc.2],0,45⟩,⟨[.int .i64 0,.int .i64 0,.slice none 0 0,.slice none 0 0,.slice none 0 0,.slice none 0 0,.slice none 0 0,.slice none 0 0,.slice none 0 0,.slice none 0 0,.int .i64 0],0,48⟩]) K []→(∀i∈Qe.ids n,H.length+3≤i)→(Qe.ids n).Nodup→Ks x t=y→decide (U0 x t)=ok→
  K[H.length+2]? = some ⟨[.int .i64 0,.int .i64 0,.slice none 0 0,.slice none 0 0,.slice none 0 0,.slice none 0 0,.slice none 0 0,.slice none 0 0,.slice none 0 0,.slice none 0 0,.int .i64 0],0,48⟩∧Xr Qe H (Ks x t) (decide (U0 x t)) (.tuple #[Qe.val n y,.bool ok]) (K.set (H.length+2) ⟨[.int .i64 y.1.1,.int .i64 y.1.2.1,n.1,n.2.1.1,n.2.1.2,n.2.2.1.1,n.2.2.2.1,n.2.2.2.2.1,n.2.2.2.2.2.1.1,n.2.2.2.2.2.2.1.1,.int .i64 y.2.2.2.2.2.2.2],0,48⟩):=by
  intro y n K ok on ck mn dn e1 e2
  have bR:K[H.length+2]? = some ⟨[.int .i64 0,.int .i64 0,.slice none 0 0,.slice none 0 0,.slice none 0 0,.slice none 0 0,.slice none 0 0,.slice none 0 0,.slice none 0 0,.slice none 0 0,.int .i64 0],0,48⟩:=Qa (by simp) ck (by simp)
  refine ⟨bR,Qe.val n y,by rw [e2],n,by rw [e1],?_,?_,fun i hi=>by have:=mn i hi;omega,dn⟩
  ·rw [e1];exact Dt.chg (T:=Qe) on (Qn _ _) (fun i hi hh=>by have:=mn i hi;simp at hh;omega)
  ·exact ((Qp.app []).trans ck).trans' (Qn _ _) (fun i hi=>.inr (by simp at hi;omega))
 have fail:¬U0 x t→Ks x t=x∧decide (U0 x t)=false:=fun hh=>⟨if_neg hh,decide_eq_false hh⟩
 simp [ones,onec,ii]
 by_cases g1:Tm x
 rotate_left
 ·simp [g1,ones,onec]
  refine Ql (ecopy _) ?_
  rintro _ K ⟨n,rfl,on,cn,mn,dn⟩
  obtain ⟨f1,f2⟩:=fail (fun k=>g1 k.1)
  simp at mn
  obtain ⟨bR,hm⟩:=key x n K false on cn mn dn f1 f2
  have qn:=Qr on
  have gR:=Qq (r':=⟨[.int .i64 x.1.1,.int .i64 x.1.2.1,n.1,n.2.1.1,n.2.1.2,n.2.2.1.1,n.2.2.2.1,n.2.2.2.2.1,n.2.2.2.2.2.1.1,n.2.2.2.2.2.2.1.1,.int .i64 x.2.2.2.2.2.2.2],0,48⟩) bR
  simp [Qk,VM.look,bR,qn,gR,hF]
  exact hm
 simp [g1,ones,onec,ck]
 by_cases g2:Y9 x.1.1 x.1.2.1 x.1.2.2 t.1 t.2
 rotate_left
 ·simp [g2,ones,onec]
  refine Ql (ecopy _) ?_
  rintro _ K ⟨n,rfl,on,cn,mn,dn⟩
  obtain ⟨f1,f2⟩:=fail (fun k=>g2 k.2)
  simp at mn
  obtain ⟨bR,hm⟩:=key x n K false on cn mn dn f1 f2
  have qn:=Qr on
  have gR:=Qq (r':=⟨[.int .i64 x.1.1,.int .i64 x.1.2.1,n.1,n.2.1.1,n.2.1.2,n.2.2.1.1,n.2.2.2.1,n.2.2.2.2.1,n.2.2.2.2.2.1.1,n.2.2.2.2.2.2.1.1,.int .i64 x.2.2.2.2.2.2.2],0,48⟩) bR
  simp [Qk,VM.look,bR,qn,gR,hF]
  exact hm
 simp [g2,ones,onec]
 refine Ql (efresh _) ?_
 rintro _ K ⟨n,rfl,on,cn,mn,dn⟩
 simp at mn
 have e1:Ks x t=fresh x (x.1.1,x.1.2.1,x.1.2.2) t:=if_pos ⟨g1,g2⟩
 obtain ⟨bR,hm⟩:=key _ n K true on cn mn dn e1 (decide_eq_true ⟨g1,g2⟩)
 have qn:=Qr on
 have gR:=Qq (r':=⟨[.int .i64 (fresh x (x.1.1,x.1.2.1,x.1.2.2) t).1.1,.int .i64 (fresh x (x.1.1,x.1.2.1,x.1.2.2) t).1.2.1,n.1,n.2.1.1,n.2.1.2,n.2.2.1.1,n.2.2.2.1,n.2.2.2.2.1,n.2.2.2.2.2.1.1,n.2.2.2.2.2.2.1.1,.int .i64 (fresh x (x.1.1,x.1.2.1,x.1.2.2) t).2.2.2.2.2.2.2],0,48⟩) bR
 simp [Qk,VM.look,bR,qn,gR,hF]
 exact hm
def Xk (a:Ww) (p:Yy):Prop:=Xq a∧a.2.length≠200∧Ym a.1 p
instance (a:Ww) (p:Yy):Decidable (Xk a p):=inferInstanceAs (Decidable (_∧_))
def Xu (a:Ww) (q2 q3 q4 q5:Int):Yy:=((a.2.length:Int)+1,q2,q3,q4,q5)
def Yu (a:Ww) (q2 q3 q4 q5:Int):Ww:=if Xk a (Xu a q2 q3 q4 q5) then (U2 a.1 (Xu a q2 q3 q4 q5),a.2++[Xu a q2 q3 q4 q5]) else a
theorem Nt {K:Qd} {n:Yj} {y:Ww} {ok:Bool} {id:Nat} {r:Row} {a:Ww} {q2 q3 q4 q5:Int} (hid:id=H.length+1) (o:Qs.Ow K n y) (c:Qp H K []) (m:∀i∈Qs.ids n,H.length+2≤i) (d:(Qs.ids n).Nodup) (e1:Yu a q2 q3 q4 q5=y) (e2:decide (Xk a (Xu a q2 q3 q4 q5))=ok) :
 Xr Qs H (Yu a q2 q3 q4 q5) (decide (Xk a (Xu a q2 q3 q4 q5))) (.tuple #[Qs.val n y,.bool ok]) (K.set id r):=by
 subst hid
 refine ⟨Qs.val n y,by rw [e2],n,by rw [e1],?_,c.trans' (Qn _ _) (fun i hi=>.inr (by simp at hi;omega)),fun i hi=>by have:=m i hi;omega,d⟩
 rw [e1];exact Dt.chg (T:=Qs) o (Qn _ _) (fun i hi hh=>by have:=m i hi;simp at hh;omega)
theorem Qac {v:Yj} {a:Ww} {q2 q3 q4 q5:Int} (o:Qs.Ow H v a) :
 wp (Qh C frz 140 [Qs.val v a,.int .i64 q2,.int .i64 q3,.int .i64 q4,.int .i64 q5] H) (Xr Qs H (Yu a q2 q3 q4 q5) (decide (Xk a (Xu a q2 q3 q4 q5)))):=by
 have oneA:=Q8 o
 have ones:=oneA.1
 have Wi:=oneA.2
 have ecopy:=fun K (c:Qp H K [])=>Od (frz:=H.length) (H:=K) (v:=v) (a:=a) (Dt.chg (T:=Qs) o c (by simp))
 have ck:=fun F K (c:Qp H K [])=>Kz (frz:=F) (H:=K) (v:=v) (a:=a) (Dt.chg (T:=Qs) o c (by simp))
 have esend:=fun (K:Qd) id nv tail hr on nd hf hid hN hs=>Qkg (frz:=H.length) (H:=K) (v:=nv) (x:=a.1) (p:=Xu a q2 q3 q4 q5) (id:=id) (e:=51) (tail:=tail) hr on nd hf hid hN hs
 have hlen:=o.2.2
 have e0:=@w6 ((a.2.length:Int)+1) (by omega)
 unfold Ja Xu at esend
 simp only at esend
 simp only [Qo] at ecopy ck ⊢
 rw [Qb (fn:=Tryz.f140) Tryz.func140 rfl (by kernel_rfl) rfl]
 obtain ⟨G,hG⟩:∃G,G=H++[⟨[.int .i64 a.1.1.1,.int .i64 a.1.1.2.1,v.1.1,v.1.2.1.1,v.1.2.1.2,v.1.2.2.1.1,v.1.2.2.2.1,v.1.2.2.2.2.1,v.1.2.2.2.2.2.1.1,v.1.2.2.2.2.2.2.1.1,.int .i64 a.1.2.2.2.2.2.2.2,v.2],0,51⟩,⟨[.int .i64 0,.int .i64 0,.slice none 0 0,.slice none 0 0,.slice none 0 0,.slice none 0 0,.slice none 0 0,.slice none 0 0,.slice none 0 0,.slice none 0 0,.int .i64 0,.slice none 0 0],0,51⟩]:=⟨_,rfl⟩
 have cG:Qp H G []:=by rw [hG];exact Qp.app _
 have b0:G[H.length]? = some ⟨[.int .i64 a.1.1.1,.int .i64 a.1.1.2.1,v.1.1,v.1.2.1.1,v.1.2.1.2,v.1.2.2.1.1,v.1.2.2.2.1,v.1.2.2.2.2.1,v.1.2.2.2.2.2.1.1,v.1.2.2.2.2.2.2.1.1,.int .i64 a.1.2.2.2.2.2.2.2,v.2],0,51⟩:=by rw [hG];simp
 have bR:G[H.length+1]? = some ⟨[.int .i64 0,.int .i64 0,.slice none 0 0,.slice none 0 0,.slice none 0 0,.slice none 0 0,.slice none 0 0,.slice none 0 0,.slice none 0 0,.slice none 0 0,.int .i64 0,.slice none 0 0],0,51⟩:=by rw [hG];simp
 have lG:G.length=H.length+2:=by rw [hG];simp
 simp [ones,Wi]
 rw [← hG]
 clear hG
 have liv:=fun K (c:Qp H K [])=>Xy (o.2.1.chg c (by simp))
 have lp:=fun K (c:Qp H K [])=>(o.2.1.rd.chg c (by simp)).len (P:=Tryz.prog) (ty:=49) (by simp)
 rw [V8 (fl:=([3],[14])) (h:=⟨by kernel_rfl,by kernel_rfl,by kernel_rfl,by kernel_rfl⟩)]
 simp [Sd,Zi,Vs,VM.look,b0,ones,Wi]
 refine Qa5 (ecopy G cG) ?_
 rintro _ K ⟨n,rfl,on,cn,mn,dn⟩
 refine ⟨by simp,?_⟩
 have cK:Qp H K []:=cG.trans cn
 have b0:=Qa b0 cn (by simp)
 have bR:=Qa bR cn (by simp)
 have oneN:=Q8 on
 have qn:=oneN.1
 have qn2:=oneN.2
 have livK:=liv K cK
 have lpK:=lp K cK
 have lK:=cn.1
 have hFK:H.length≤K.length:=by omega
 have Q0s:H.length≤K.length+1:=by omega
 have bA:=fun L=>Qj b0 L
 have livA:=fun L=>liv (K++L) (cK.trans (Qp.app _))
 simp [Qo,Sd,Zi,Vs,VM.look,b0,bA,ones,Wi,qn,qn2,livK,livA,lpK,e0,hFK,Q0s,List.set_append]
 obtain ⟨K2,hK2⟩:∃K2,K2=K++[⟨[.int .i64 a.1.1.1,.int .i64 a.1.1.2.1,n.1.1,n.1.2.1.1,n.1.2.1.2,n.1.2.2.1.1,n.1.2.2.2.1,n.1.2.2.2.2.1,n.1.2.2.2.2.2.1.1,n.1.2.2.2.2.2.2.1.1,.int .i64 a.1.2.2.2.2.2.2.2,n.2],0,51⟩,⟨[.int .i64 (a.2.length+1:Int),.int .i64 q2,.int .i64 q3,.int .i64 q4,.int .i64 q5],0,104⟩]:=⟨_,rfl⟩
 have e2:K++[⟨[.int .i64 a.1.1.1,.int .i64 a.1.1.2.1,n.1.1,n.1.2.1.1,n.1.2.1.2,n.1.2.2.1.1,n.1.2.2.2.1,n.1.2.2.2.2.1,n.1.2.2.2.2.2.1.1,n.1.2.2.2.2.2.2.1.1,.int .i64 a.1.2.2.2.2.2.2.2,n.2],0,51⟩,⟨[.int .i64 (a.2.length+1:Int),.int .i64 q2,.int .i64 q3,.int .i64 q4,.int .i64 q5],0,104⟩]=K2:=hK2.symm
 rw [e2]
 have c12:Qp K K2 []:=by rw [hK2];exact Qp.app _
 have cK2:=cK.trans c12
 have l2:K2.length=K.length+2:=by rw [hK2];simp
 have b0:=Qa b0 c12 (by simp)
 have bR:=Qa bR c12 (by simp)
 have bC:K2[K.length]? = some ⟨[.int .i64 a.1.1.1,.int .i64 a.1.1.2.1,n.1.1,n.1.2.1.1,n.1.2.1.2,n.1.2.2.1.1,n.1.2.2.2.1,n.1.2.2.2.2.1,n.1.2.2.2.2.2.1.1,n.1.2.2.2.2.2.2.1.1,.int .i64 a.1.2.2.2.2.2.2.2,n.2],0,51⟩:=by rw [hK2];simp
 have bP:K2[K.length+1]? = some ⟨[.int .i64 (a.2.length+1:Int),.int .i64 q2,.int .i64 q3,.int .i64 q4,.int .i64 q5],0,104⟩:=by rw [hK2];simp
 have on2:=Dt.chg (T:=Qs) on c12 (by simp)
 clear hK2 e2
 have hF:H.length≤H.length+1:=by omega
 have ff:∀K3,Qp H K3 []→K3[H.length+1]? = some ⟨[.int .i64 0,.int .i64 0,.slice none 0 0,.slice none 0 0,.slice none 0 0,.slice none 0 0,.slice none 0 0,.slice none 0 0,.slice none 0 0,.slice none 0 0,.int .i64 0,.slice none 0 0],0,51⟩→¬Xk a (Xu a q2 q3 q4 q5)→wp (Qh C H.length 34 [.agg #[.int .i64 a.1.1.1,.int .i64 a.1.1.2.1,v.1.1,v.1.2.1.1,v.1.2.1.2,v.1.2.2.1.1,v.1.2.2.2.1,v.1.2.2.2.2.1,v.1.2.2.2.2.2.1.1,v.1.2.2.2.2.2.2.1.1,.int .i64 a.1.2.2.2.2.2.2.2,v.2]] K3) (fun r K=>∃n:Yj,r=Qs.val n a∧Qs.Ow K n a∧K[H.length+1]? = some ⟨[.int .i64 0,.int .i64 0,.slice none 0 0,.slice none 0 0,.slice none 0 0,.slice none 0 0,.slice none 0 0,.slice none 0 0,.slice none 0 0,.slice none 0 0,.int .i64 0,.slice none 0 0],0,51⟩∧Xr Qs H (Yu a q2 q3 q4 q5) (decide (Xk a (Xu a q2 q3 q4 q5))) (.tuple #[Qs.val n a,.bool false]) (K.set (H.length+1) ⟨[.int .i64 a.1.1.1,.int .i64 a.1.1.2.1,n.1.1,n.1.2.1.1,n.1.2.1.2,n.1.2.2.1.1,n.1.2.2.2.1,n.1.2.2.2.2.1,n.1.2.2.2.2.2.1.1,n.1.2.2.2.2.2.2.1.1,.int .i64 a.1.2.2.2.2.2.2.2,n.2],0,51⟩)):=by
  intro K3 c3 b3 hb
  refine (ecopy K3 c3).mono ?_
  rintro _ K ⟨n,rfl,on,cn,mn,dn⟩
  have h9:=Wj b3
  exact ⟨n,rfl,on,Qa b3 cn (by simp),Nt rfl on (c3.trans cn) (fun i hi=>by have:=mn i hi;omega) dn (if_neg hb) (decide_eq_false hb)⟩
 have ck':=fun F=>ck F K2 cK2
 have lp2:=lp K2 cK2
 by_cases g0:Xq a
 rotate_left
 ·have hb:¬Xk a (Xu a q2 q3 q4 q5):=fun k=>g0 k.1
  simp [VM.look,b0,ones,Wi,ck',g0]
  refine Ql (ff K2 cK2 bR hb) ?_
  rintro _ K4 ⟨n4,rfl,on4,b4,hM⟩
  have q4a:=Q8 on4
  have gR:=Qq (r':=⟨[.int .i64 a.1.1.1,.int .i64 a.1.1.2.1,n4.1.1,n4.1.2.1.1,n4.1.2.1.2,n4.1.2.2.1.1,n4.1.2.2.2.1,n4.1.2.2.2.2.1,n4.1.2.2.2.2.2.1.1,n4.1.2.2.2.2.2.2.1.1,.int .i64 a.1.2.2.2.2.2.2.2,n4.2],0,51⟩) b4
  simp [Qo,q4a,VM.look,b4,gR,hF]
  simpa [hb,Qo] using hM
 by_cases g1:a.2.length=200
 ·have hb:¬Xk a (Xu a q2 q3 q4 q5):=fun k=>k.2.1 g1
  have g1':((a.2.length:Int))=200:=by omega
  simp [VM.look,b0,ones,Wi,ck',g0,lp2,g1,g1']
  refine Ql (ff K2 cK2 bR hb) ?_
  rintro _ K4 ⟨n4,rfl,on4,b4,hM⟩
  have q4a:=Q8 on4
  have gR:=Qq (r':=⟨[.int .i64 a.1.1.1,.int .i64 a.1.1.2.1,n4.1.1,n4.1.2.1.1,n4.1.2.1.2,n4.1.2.2.1.1,n4.1.2.2.2.1,n4.1.2.2.2.2.1,n4.1.2.2.2.2.2.1.1,n4.1.2.2.2.2.2.2.1.1,.int .i64 a.1.2.2.2.2.2.2.2,n4.2],0,51⟩) b4
  simp [Qo,q4a,VM.look,b4,gR,hF]
  simpa [hb,Qo] using hM
 have g1':¬((a.2.length:Int))=200:=by omega
 simp [VM.look,b0,bC,bP,ones,Wi,ck',g0,lp2,g1,g1']
 have hd:=List.nodup_append.1 dn
 have hm1:∀i∈Qe.ids n.1,H.length+2≤i:=fun i hi=>by have:=mn i (List.mem_append_left _ hi);omega
 have hm2:∀i∈VM.ids n.2,H.length+2≤i:=fun i hi=>by have:=mn i (List.mem_append_right _ hi);omega
 have hl1:∀i∈Qe.ids n.1,i<K.length:=fun i hi=>Qe.lt on.1 i hi
 have hl2:∀i∈VM.ids n.2,i<K.length:=fun i hi=>Ov.lt on.2 i hi
 refine Ql (esend K2 K.length n.1 [n.2] bC on2.1 hd.1 (fun i hi=>by have:=hm1 i hi;omega) (fun hh=>by have:=hl1 _ hh;omega) g0.1.2.1.2.2.2.1 (fun l hl=>(g0.1.2.2.2.1 l hl).1)) ?_
 rintro _ K3 ⟨rfl,hps⟩
 by_cases g2:Ym a.1 (Xu a q2 q3 q4 q5)
 rotate_left
 ·have hb:¬Xk a (Xu a q2 q3 q4 q5):=fun k=>g2 k.2.2
  have g2':¬Ym a.1 ((a.2.length:Int)+1,q2,q3,q4,q5):=g2
  rw [if_neg g2'] at hps
  have b0:=Qa b0 hps (by simp)
  have bR:=Qa bR hps (by simp)
  simp [g2',VM.look,b0,ones,Wi]
  refine Ql (ff K3 (cK2.trans hps) bR hb) ?_
  rintro _ K4 ⟨n4,rfl,on4,b4,hM⟩
  have q4a:=Q8 on4
  have gR:=Qq (r':=⟨[.int .i64 a.1.1.1,.int .i64 a.1.1.2.1,n4.1.1,n4.1.2.1.1,n4.1.2.1.2,n4.1.2.2.1.1,n4.1.2.2.2.1,n4.1.2.2.2.2.1,n4.1.2.2.2.2.2.1.1,n4.1.2.2.2.2.2.2.1.1,.int .i64 a.1.2.2.2.2.2.2.2,n4.2],0,51⟩) b4
  simp [Qo,q4a,VM.look,b4,gR,hF]
  simpa [hb,Qo] using hM
 have g2':Ym a.1 ((a.2.length:Int)+1,q2,q3,q4,q5):=g2
 rw [if_pos g2'] at hps
 obtain ⟨hs',o3,d3,i3,c3⟩:=hps
 have hso:Xk a (Xu a q2 q3 q4 q5):=⟨g0,g1,g2⟩
 have insrc:=Sl (n:=n.1)
 have bR:=Qa bR c3 (fun hh=>by have:=hm1 _ (insrc _ hh);omega)
 have bC:=Qa bC c3 (fun hh=>by have:=hl1 _ (insrc _ hh);omega)
 have bP:=Qa bP c3 (fun hh=>by have:=hl1 _ (insrc _ hh);omega)
 have op3:=Dt.chg (T:=Ov) on2.2 c3 (fun i hi hh=>hd.2.2 i (insrc _ hh) i hi rfl)
 obtain ⟨r',K4,hap,o4,c4,n4⟩:=op3.1.push (P:=Tryz.prog) (frz:=H.length) (ty:=49) (a:=((a.2.length:Int)+1,q2,q3,q4,q5)) (by simp) rfl (by have:=g0.2.1;omega) (fun i hi=>by have:=hm2 i hi;omega)
 simp only [Zj] at hap
 have bR4:=Qa bR c4 (fun hh=>by have:=hm2 _ hh;omega)
 have bC4:=Qa bC c4 (fun hh=>by have:=hl2 _ hh;omega)
 have l3:=c3.1
 have bC3:=fun L=>Qj bC L
 have bP3:=fun L=>Qj bP L
 have qr:=And.intro o4.rd.one' o4.rd.cells
 have gC:=Qq (r':=⟨[.int .i64 a.1.1.1,.int .i64 a.1.1.2.1,n.1.1,n.1.2.1.1,n.1.2.1.2,n.1.2.2.1.1,n.1.2.2.2.1,n.1.2.2.2.2.1,n.1.2.2.2.2.2.1.1,n.1.2.2.2.2.2.2.1.1,.int .i64 a.1.2.2.2.2.2.2.2,r'],0,51⟩) bC4
 have eC:Qp K4 (K4.set K.length ⟨[.int .i64 a.1.1.1,.int .i64 a.1.1.2.1,n.1.1,n.1.2.1.1,n.1.2.1.2,n.1.2.2.1.1,n.1.2.2.2.1,n.1.2.2.2.2.1,n.1.2.2.2.2.2.1.1,n.1.2.2.2.2.2.2.1.1,.int .i64 a.1.2.2.2.2.2.2.2,r'],0,51⟩) [K.length]:=Qn _ _
 have bR5:=Qa bR4 eC (by simp;omega)
 have gR:=Qq (r':=⟨[.int .i64 a.1.1.1,.int .i64 a.1.1.2.1,n.1.1,n.1.2.1.1,n.1.2.1.2,n.1.2.2.1.1,n.1.2.2.2.1,n.1.2.2.2.2.1,n.1.2.2.2.2.2.1.1,n.1.2.2.2.2.2.2.1.1,.int .i64 a.1.2.2.2.2.2.2.2,r'],0,51⟩) bR5
 have hFK:H.length≤K.length:=by omega
 simp [-Q5,-Wm,g2',VM.look,bC,bC3,bP,bP3,hap,bC4,qr,qn,gC,bR5,gR,hF,hFK]
 have hp1:∀i∈Qe.ids (Rb n.1 (n.1.2.2.2.2.2.1.1,hs')),H.length+2≤i∧i∉VM.ids n.2∧i≠K.length∧i<K3.length:=fun i hi=>by
  have h9:=Qe.lt o3 i hi
  rcases i3 i hi with g|g
  ·exact ⟨hm1 i g,fun hh=>hd.2.2 i g i hh rfl,by have:=hl1 i g;omega,h9⟩
  ·exact ⟨by omega,fun hh=>by have:=hl2 i hh;omega,by omega,h9⟩
 have hp2:∀i∈VM.ids r',(i∈VM.ids n.2∨K3.length≤i)∧i≠K.length∧H.length+2≤i:=fun i hi=>by
  rcases n4 i hi with g|g
  ·exact ⟨.inl g,by have:=hl2 i g;omega,hm2 i g⟩
  ·exact ⟨.inr g,by omega,by omega⟩
 have fo1:=Dt.chg (T:=Qe) (Dt.chg (T:=Qe) o3 c4 (fun i hi=>(hp1 i hi).2.1)) eC (fun i hi hh=>by have:=(hp1 i hi).2.2.1;simp at hh;omega)
 have fo2:Ov.Ow (K4.set K.length ⟨[.int .i64 a.1.1.1,.int .i64 a.1.1.2.1,n.1.1,n.1.2.1.1,n.1.2.1.2,n.1.2.2.1.1,n.1.2.2.2.1,n.1.2.2.2.2.1,n.1.2.2.2.2.2.1.1,n.1.2.2.2.2.2.2.1.1,.int .i64 a.1.2.2.2.2.2.2.2,r'],0,51⟩) r' (a.2++[((a.2.length:Int)+1,q2,q3,q4,q5)]):=⟨o4.chg eC (fun i hi hh=>by have:=(hp2 i hi).2.1;simp at hh;omega),by have:=g0.2.1;simp;omega⟩
 have:=Nt (K:=K4.set K.length ⟨[.int .i64 a.1.1.1,.int .i64 a.1.1.2.1,n.1.1,n.1.2.1.1,n.1.2.1.2,n.1.2.2.1.1,n.1.2.2.2.1,n.1.2.2.2.2.1,n.1.2.2.2.2.2.1.1,n.1.2.2.2.2.2.2.1.1,.int .i64 a.1.2.2.2.2.2.2.2,r'],0,51⟩) (n:=(Rb n.1 (n.1.2.2.2.2.2.1.1,hs'),r')) (y:=(U2 a.1 ((a.2.length:Int)+1,q2,q3,q4,q5),a.2++[((a.2.length:Int)+1,q2,q3,q4,q5)])) (a:=a) (q2:=q2) (q3:=q3) (q4:=q4) (q5:=q5) (r:=⟨[.int .i64 a.1.1.1,.int .i64 a.1.1.2.1,n.1.1,n.1.2.1.1,n.1.2.1.2,n.1.2.2.1.1,n.1.2.2.2.1,n.1.2.2.2.2.1,n.1.2.2.2.2.2.1.1,n.1.2.2.2.2.2.2.1.1,.int .i64 a.1.2.2.2.2.2.2.2,r'],0,51⟩) (H:=H) rfl ⟨fo1,fo2⟩
  (((cK2.trans' c3 (fun i hi=>.inr (by have:=hm1 _ (insrc _ hi);omega))).trans' c4 (fun i hi=>.inr (by have:=hm2 _ hi;omega))).trans' eC (fun i hi=>.inr (by simp at hi;omega)))
  (fun i hi=>by
   rcases List.mem_append.1 hi with hi|hi
   ·exact (hp1 i hi).1
   ·exact (hp2 i hi).2.2)
  (List.nodup_append.2 ⟨d3,Wa r',fun x hx y hy e=>by
   subst e
   rcases (hp2 x hy).1 with g|g
   ·exact (hp1 x hx).2.1 g
   ·have:=(hp1 x hx).2.2.2;omega⟩)
  (if_pos hso) (decide_eq_true hso)
 exact this
theorem xg {v:Yj} {a:Ww} {q2 q3 q4 q5:Int} (o:Qs.Ow H v a) :
 wp (Qh C frz 61 [Qs.val v a,.int .i64 q2,.int .i64 q3,.int .i64 q4,.int .i64 q5] H) (Xr Qs H (Yu a q2 q3 q4 q5) (decide (Xk a (Xu a q2 q3 q4 q5)))):=by
 have oneA:=Q8 o
 have ones:=oneA.1
 have Wi:=oneA.2
 have ecopy:=fun K (c:Qp H K [])=>Ma (frz:=H.length) (H:=K) (v:=v) (a:=a) (Dt.chg (T:=Qs) o c (by simp))
 have ck:=fun F K (c:Qp H K [])=>N5 (frz:=F) (H:=K) (v:=v) (a:=a) (Dt.chg (T:=Qs) o c (by simp))
 have esend:=fun (K:Qd) (c:Qp H K [])=>Ca (frz:=H.length) (H:=K) (v:=v.1) (x:=a.1) (p:=Xu a q2 q3 q4 q5) (Dt.chg (T:=Qe) o.1 c (by simp))
 have hlen:=o.2.2
 have e0:=@w6 ((a.2.length:Int)+1) (by omega)
 unfold Ja at esend
 simp only [show (Xu a q2 q3 q4 q5).1=(a.2.length:Int)+1 from rfl,show (Xu a q2 q3 q4 q5).2.1=q2 from rfl,show (Xu a q2 q3 q4 q5).2.2.1=q3 from rfl,show (Xu a q2 q3 q4 q5).2.2.2.1=q4 from rfl,show (Xu a q2 q3 q4 q5).2.2.2.2=q5 from rfl,Qk] at esend
 simp only [Qo] at ecopy ck ⊢
 rw [Qb (fn:=Tryz.f61) Tryz.func61 rfl (by kernel_rfl) rfl]
 obtain ⟨G,hG⟩:∃G,G=H++[⟨[.int .i64 a.1.1.1,.int .i64 a.1.1.2.1,v.1.1,v.1.2.1.1,v.1.2.1.2,v.1.2.2.1.1,v.1.2.2.2.1,v.1.2.2.2.2.1,v.1.2.2.2.2.2.1.1,v.1.2.2.2.2.2.2.1.1,.int .i64 a.1.2.2.2.2.2.2.2,v.2],0,51⟩,⟨[.int .i64 0,.int .i64 0,.slice none 0 0,.slice none 0 0,.slice none 0 0,.slice none 0 0,.slice none 0 0,.slice none 0 0,.slice none 0 0,.slice none 0 0,.int .i64 0,.slice none 0 0],0,51⟩]:=⟨_,rfl⟩
 have cG:Qp H G []:=by rw [hG];exact Qp.app _
 have b0:G[H.length]? = some ⟨[.int .i64 a.1.1.1,.int .i64 a.1.1.2.1,v.1.1,v.1.2.1.1,v.1.2.1.2,v.1.2.2.1.1,v.1.2.2.2.1,v.1.2.2.2.2.1,v.1.2.2.2.2.2.1.1,v.1.2.2.2.2.2.2.1.1,.int .i64 a.1.2.2.2.2.2.2.2,v.2],0,51⟩:=by rw [hG];simp
 have bR:G[H.length+1]? = some ⟨[.int .i64 0,.int .i64 0,.slice none 0 0,.slice none 0 0,.slice none 0 0,.slice none 0 0,.slice none 0 0,.slice none 0 0,.slice none 0 0,.slice none 0 0,.int .i64 0,.slice none 0 0],0,51⟩:=by rw [hG];simp
 have lG:G.length=H.length+2:=by rw [hG];simp
 simp [ones,Wi]
 rw [← hG]
 clear hG
 have lp:=fun K (c:Qp H K [])=>(o.2.1.rd.chg c (by simp)).len (P:=Tryz.prog) (ty:=49) (by simp)
 try simp [VM.look,b0,ones,Wi]
 refine Ql (ecopy G cG) ?_
 rintro _ K ⟨n,rfl,on,cn,mn,dn⟩
 have cK:Qp H K []:=cG.trans cn
 have b0:=Qa b0 cn (by simp)
 have bR:=Qa bR cn (by simp)
 have oneN:=Q8 on
 have qn:=oneN.1
 have qn2:=oneN.2
 have lK:=cn.1
 have hFK:H.length≤K.length:=by omega
 obtain ⟨K2,hK2⟩:∃K2,K2=K++[⟨[.int .i64 a.1.1.1,.int .i64 a.1.1.2.1,n.1.1,n.1.2.1.1,n.1.2.1.2,n.1.2.2.1.1,n.1.2.2.2.1,n.1.2.2.2.2.1,n.1.2.2.2.2.2.1.1,n.1.2.2.2.2.2.2.1.1,.int .i64 a.1.2.2.2.2.2.2.2,n.2],0,51⟩]:=⟨_,rfl⟩
 have e2:K++[⟨[.int .i64 a.1.1.1,.int .i64 a.1.1.2.1,n.1.1,n.1.2.1.1,n.1.2.1.2,n.1.2.2.1.1,n.1.2.2.2.1,n.1.2.2.2.2.1,n.1.2.2.2.2.2.1.1,n.1.2.2.2.2.2.2.1.1,.int .i64 a.1.2.2.2.2.2.2.2,n.2],0,51⟩]=K2:=hK2.symm
 have c12:Qp K K2 []:=by rw [hK2];exact Qp.app _
 have cK2:=cK.trans c12
 have l2:K2.length=K.length+1:=by rw [hK2];simp
 have b0:=Qa b0 c12 (by simp)
 have bR:=Qa bR c12 (by simp)
 have bC:K2[K.length]? = some ⟨[.int .i64 a.1.1.1,.int .i64 a.1.1.2.1,n.1.1,n.1.2.1.1,n.1.2.1.2,n.1.2.2.1.1,n.1.2.2.2.1,n.1.2.2.2.2.1,n.1.2.2.2.2.2.1.1,n.1.2.2.2.2.2.2.1.1,.int .i64 a.1.2.2.2.2.2.2.2,n.2],0,51⟩:=by rw [hK2];simp
 have on2:=Dt.chg (T:=Qs) on c12 (by simp)
 have hF:H.length≤H.length+1:=by omega
 have mn':∀i∈Qs.ids n,H.length+2≤i:=fun i hi=>by have:=mn i hi;omega
 have fin:∀K3,Qp K2 K3 []→¬Xk a (Xu a q2 q3 q4 q5)→Xr Qs H (Yu a q2 q3 q4 q5) (decide (Xk a (Xu a q2 q3 q4 q5))) (.tuple #[Qs.val n a,.bool false]) (K3.set (H.length+1) ⟨[.int .i64 a.1.1.1,.int .i64 a.1.1.2.1,n.1.1,n.1.2.1.1,n.1.2.1.2,n.1.2.2.1.1,n.1.2.2.2.1,n.1.2.2.2.2.1,n.1.2.2.2.2.2.1.1,n.1.2.2.2.2.2.2.1.1,.int .i64 a.1.2.2.2.2.2.2.2,n.2],0,51⟩):=fun K3 c3 hb=>
  Nt rfl (Dt.chg (T:=Qs) on2 c3 (by simp)) (cK2.trans c3) mn' dn (if_neg hb) (decide_eq_false hb)
 have ck':=fun F=>ck F K2 cK2
 have lp2:=lp K2 cK2
 simp [Qo,VM.look,qn,qn2,hFK]
 rw [e2]
 clear hK2 e2
 by_cases g0:Xq a
 rotate_left
 ·have hb:¬Xk a (Xu a q2 q3 q4 q5):=fun k=>g0 k.1
  have gR:=Qq (r':=⟨[.int .i64 a.1.1.1,.int .i64 a.1.1.2.1,n.1.1,n.1.2.1.1,n.1.2.1.2,n.1.2.2.1.1,n.1.2.2.2.1,n.1.2.2.2.2.1,n.1.2.2.2.2.2.1.1,n.1.2.2.2.2.2.2.1.1,.int .i64 a.1.2.2.2.2.2.2.2,n.2],0,51⟩) bR
  have hM:=fin K2 (Qp.refl _) hb
  simp [VM.look,b0,bC,ones,Wi,ck',g0,qn,qn2,bR,gR,hF]
  simpa [hb,Qo] using hM
 by_cases g1:a.2.length=200
 ·have hb:¬Xk a (Xu a q2 q3 q4 q5):=fun k=>k.2.1 g1
  have g1':((a.2.length:Int))=200:=by omega
  have gR:=Qq (r':=⟨[.int .i64 a.1.1.1,.int .i64 a.1.1.2.1,n.1.1,n.1.2.1.1,n.1.2.1.2,n.1.2.2.1.1,n.1.2.2.2.1,n.1.2.2.2.2.1,n.1.2.2.2.2.2.1.1,n.1.2.2.2.2.2.2.1.1,.int .i64 a.1.2.2.2.2.2.2.2,n.2],0,51⟩) bR
  have hM:=fin K2 (Qp.refl _) hb
  simp [VM.look,b0,bC,ones,Wi,ck',g0,lp2,g1,g1',qn,qn2,bR,gR,hF]
  simpa [hb,Qo] using hM
 have g1':¬((a.2.length:Int))=200:=by omega
 have Qhz:H.length≤K2.length:=by omega
 simp [VM.look,b0,bC,ones,Wi,ck',g0,lp2,g1,g1',e0,Qhz]
 obtain ⟨K3,hK3⟩:∃K3,K3=K2++[⟨[.int .i64 (a.2.length+1:Int),.int .i64 q2,.int .i64 q3,.int .i64 q4,.int .i64 q5],0,104⟩]:=⟨_,rfl⟩
 have e3:K2++[⟨[.int .i64 (a.2.length+1:Int),.int .i64 q2,.int .i64 q3,.int .i64 q4,.int .i64 q5],0,104⟩]=K3:=hK3.symm
 have c23:Qp K2 K3 []:=by rw [hK3];exact Qp.app _
 have l3:K3.length=K2.length+1:=by rw [hK3];simp
 have bP:K3[K2.length]? = some ⟨[.int .i64 (a.2.length+1:Int),.int .i64 q2,.int .i64 q3,.int .i64 q4,.int .i64 q5],0,104⟩:=by rw [hK3];simp
 have b0:=Qa b0 c23 (by simp)
 have bR:=Qa bR c23 (by simp)
 have bC:=Qa bC c23 (by simp)
 rw [e3]
 clear hK3 e3
 simp [VM.look,b0,bP,ones,Wi,Qhz]
 refine Ql (esend K3 (cK2.trans c23)) ?_
 rintro _ K4 ⟨_,rfl,n2,rfl,o4,c4,m4,d4⟩
 have bP:=Qa bP c4 (by simp)
 have bR:=Qa bR c4 (by simp)
 have bC:=Qa bC c4 (by simp)
 have Zg:=Qr o4
 have l4:=c4.1
 have Qot:H.length≤K4.length:=by omega
 have bPA:=fun L=>Qj bP L
 have bRA:=fun L=>Qj bR L
 have bCA:=fun L=>Qj bC L
 by_cases g2:Ym a.1 (Xu a q2 q3 q4 q5)
 rotate_left
 ·have hb:¬Xk a (Xu a q2 q3 q4 q5):=fun k=>g2 k.2.2
  have hz:Ew a.1 (Xu a q2 q3 q4 q5)=a.1:=if_neg (fun k=>g2 k.2)
  rw [hz] at o4
  have hM:=fin (K4++[⟨[.int .i64 a.1.1.1,.int .i64 a.1.1.2.1,n2.1,n2.2.1.1,n2.2.1.2,n2.2.2.1.1,n2.2.2.2.1,n2.2.2.2.2.1,n2.2.2.2.2.2.1.1,n2.2.2.2.2.2.2.1.1,.int .i64 a.1.2.2.2.2.2.2.2],0,48⟩]) ((c23.trans c4).trans (Qp.app _)) hb
  have gR:=Qq (r':=⟨[.int .i64 a.1.1.1,.int .i64 a.1.1.2.1,n.1.1,n.1.2.1.1,n.1.2.1.2,n.1.2.2.1.1,n.1.2.2.2.1,n.1.2.2.2.2.1,n.1.2.2.2.2.2.1.1,n.1.2.2.2.2.2.2.1.1,.int .i64 a.1.2.2.2.2.2.2.2,n.2],0,51⟩) (bRA [⟨[.int .i64 a.1.1.1,.int .i64 a.1.1.2.1,n2.1,n2.2.1.1,n2.2.1.2,n2.2.2.1.1,n2.2.2.2.1,n2.2.2.2.2.1,n2.2.2.2.2.2.1.1,n2.2.2.2.2.2.2.1.1,.int .i64 a.1.2.2.2.2.2.2.2],0,48⟩])
  simp [Qk,hz,g0.1,g2,Zg,Qot,VM.look,bCA,bRA,qn,qn2,gR,hF]
  simpa [hb,Qo] using hM
 have hso:Xk a (Xu a q2 q3 q4 q5):=⟨g0,g1,g2⟩
 have hz:Ew a.1 (Xu a q2 q3 q4 q5)=U2 a.1 (Xu a q2 q3 q4 q5):=if_pos ⟨g0.1,g2⟩
 rw [hz] at o4
 obtain ⟨z,hzz⟩:∃z,z=U2 a.1 (Xu a q2 q3 q4 q5):=⟨_,rfl⟩
 rw [← hzz] at o4 hz
 have hd:=List.nodup_append.1 dn
 have hm2:∀i∈VM.ids n.2,H.length+2≤i:=fun i hi=>mn' i (List.mem_append_right _ hi)
 have hl2:∀i∈VM.ids n.2,i<K.length:=fun i hi=>Ov.lt on.2 i hi
 obtain ⟨K5,hK5⟩:∃K5,K5=K4++[⟨[.int .i64 z.1.1,.int .i64 z.1.2.1,n2.1,n2.2.1.1,n2.2.1.2,n2.2.2.1.1,n2.2.2.2.1,n2.2.2.2.2.1,n2.2.2.2.2.2.1.1,n2.2.2.2.2.2.2.1.1,.int .i64 z.2.2.2.2.2.2.2],0,48⟩]:=⟨_,rfl⟩
 have e5:K4++[⟨[.int .i64 z.1.1,.int .i64 z.1.2.1,n2.1,n2.2.1.1,n2.2.1.2,n2.2.2.1.1,n2.2.2.2.1,n2.2.2.2.2.1,n2.2.2.2.2.2.1.1,n2.2.2.2.2.2.2.1.1,.int .i64 z.2.2.2.2.2.2.2],0,48⟩]=K5:=hK5.symm
 have c45:Qp K4 K5 []:=by rw [hK5];exact Qp.app _
 have l5:K5.length=K4.length+1:=by rw [hK5];simp
 have b5:K5[K4.length]? = some ⟨[.int .i64 z.1.1,.int .i64 z.1.2.1,n2.1,n2.2.1.1,n2.2.1.2,n2.2.2.1.1,n2.2.2.2.1,n2.2.2.2.2.1,n2.2.2.2.2.2.1.1,n2.2.2.2.2.2.2.1.1,.int .i64 z.2.2.2.2.2.2.2],0,48⟩:=by rw [hK5];simp
 have bP:=Qa bP c45 (by simp)
 have bR:=Qa bR c45 (by simp)
 have bC:=Qa bC c45 (by simp)
 have o5:=Dt.chg (T:=Qe) o4 c45 (by simp)
 have op5:=Dt.chg (T:=Ov) (Dt.chg (T:=Ov) on2.2 ((c23.trans c4).trans c45) (by simp)) (Qn (H:=K5) K.length ⟨[.int .i64 z.1.1,.int .i64 z.1.2.1,n2.1,n2.2.1.1,n2.2.1.2,n2.2.2.1.1,n2.2.2.2.1,n2.2.2.2.2.1,n2.2.2.2.2.2.1.1,n2.2.2.2.2.2.2.1.1,.int .i64 z.2.2.2.2.2.2.2,n.2],0,51⟩) (fun i hi hh=>by have:=hl2 i hi;simp at hh;omega)
 have gC1:=Qq (r':=⟨[.int .i64 z.1.1,.int .i64 z.1.2.1,n2.1,n2.2.1.1,n2.2.1.2,n2.2.2.1.1,n2.2.2.2.1,n2.2.2.2.2.1,n2.2.2.2.2.2.1.1,n2.2.2.2.2.2.2.1.1,.int .i64 z.2.2.2.2.2.2.2,n.2],0,51⟩) bC
 have Qo9:H.length≤K.length:=by omega
 simp [Qk,hz,g0.1,g2,Zg,Qot,VM.look]
 rw [e5]
 clear hK5 e5
 obtain ⟨K6,hK6⟩:∃K6,K6=K5.set K.length ⟨[.int .i64 z.1.1,.int .i64 z.1.2.1,n2.1,n2.2.1.1,n2.2.1.2,n2.2.2.1.1,n2.2.2.2.1,n2.2.2.2.2.1,n2.2.2.2.2.2.1.1,n2.2.2.2.2.2.2.1.1,.int .i64 z.2.2.2.2.2.2.2,n.2],0,51⟩:=⟨_,rfl⟩
 have c56:Qp K5 K6 [K.length]:=by rw [hK6];exact Qn _ _
 have l6:K6.length=K5.length:=by rw [hK6];simp
 have b6:=Qa bP c56 (by simp;omega)
 have b6R:=Qa bR c56 (by simp;omega)
 rw [← hK6] at op5 gC1
 simp [VM.look,b5,bC,qn2,Zg,Qo9]
 rw [← hK6]
 have o6:=Dt.chg (T:=Qe) o5 c56 (fun i hi hh=>by have:=m4 i hi;simp at hh;omega)
 obtain ⟨r',K7,hap,o7,c7,n7⟩:=op5.1.push (P:=Tryz.prog) (frz:=H.length) (ty:=49) (a:=((a.2.length:Int)+1,q2,q3,q4,q5)) (by simp) rfl (by have:=g0.2.1;omega) (fun i hi=>by have:=hm2 i hi;omega)
 simp only [Zj] at hap
 have b6A:=fun L=>Qj b6 L
 have gCA:=fun L=>Qj gC1 L
 have bC7:=Qa gC1 c7 (fun hh=>by have:=hl2 _ hh;omega)
 have bR7:=Qa b6R c7 (fun hh=>by have:=hm2 _ hh;omega)
 have qr:=And.intro o7.rd.one' o7.rd.cells
 have gC:=Qq (r':=⟨[.int .i64 z.1.1,.int .i64 z.1.2.1,n2.1,n2.2.1.1,n2.2.1.2,n2.2.2.1.1,n2.2.2.2.1,n2.2.2.2.2.1,n2.2.2.2.2.2.1.1,n2.2.2.2.2.2.2.1.1,.int .i64 z.2.2.2.2.2.2.2,r'],0,51⟩) bC7
 have eC:Qp K7 (K7.set K.length ⟨[.int .i64 z.1.1,.int .i64 z.1.2.1,n2.1,n2.2.1.1,n2.2.1.2,n2.2.2.1.1,n2.2.2.2.1,n2.2.2.2.2.1,n2.2.2.2.2.2.1.1,n2.2.2.2.2.2.2.1.1,.int .i64 z.2.2.2.2.2.2.2,r'],0,51⟩) [K.length]:=Qn _ _
 have bR8:=Qa bR7 eC (by simp;omega)
 have gR:=Qq (r':=⟨[.int .i64 z.1.1,.int .i64 z.1.2.1,n2.1,n2.2.1.1,n2.2.1.2,n2.2.2.1.1,n2.2.2.2.1,n2.2.2.2.2.1,n2.2.2.2.2.2.1.1,n2.2.2.2.2.2.2.1.1,.int .i64 z.2.2.2.2.2.2.2,r'],0,51⟩) bR8
 simp [-Q5,-Wm,VM.look,gC1,gCA,b6,b6A,hap,bC7,qr,Zg,gC,bR8,gR,hF,Qo9]
 have hp2:∀i∈VM.ids r',(i∈VM.ids n.2∨K6.length≤i)∧i≠K.length∧H.length+2≤i:=fun i hi=>by
  rcases n7 i hi with g|g
  ·exact ⟨.inl g,by have:=hl2 i g;omega,hm2 i g⟩
  ·exact ⟨.inr g,by omega,by omega⟩
 have hp1:∀i∈Qe.ids n2,K3.length≤i∧i<K4.length:=fun i hi=>⟨m4 i hi,Qe.lt o4 i hi⟩
 have fo1:=Dt.chg (T:=Qe) (Dt.chg (T:=Qe) o6 c7 (fun i hi hh=>by have:=hp1 i hi;have:=hl2 i hh;omega)) eC (fun i hi hh=>by have:=hp1 i hi;simp at hh;omega)
 have fo2:Ov.Ow (K7.set K.length ⟨[.int .i64 z.1.1,.int .i64 z.1.2.1,n2.1,n2.2.1.1,n2.2.1.2,n2.2.2.1.1,n2.2.2.2.1,n2.2.2.2.2.1,n2.2.2.2.2.2.1.1,n2.2.2.2.2.2.2.1.1,.int .i64 z.2.2.2.2.2.2.2,r'],0,51⟩) r' (a.2++[((a.2.length:Int)+1,q2,q3,q4,q5)]):=⟨o7.chg eC (fun i hi hh=>by have:=(hp2 i hi).2.1;simp at hh;omega),by have:=g0.2.1;simp;omega⟩
 have eC2:Yu a q2 q3 q4 q5=(z,a.2++[((a.2.length:Int)+1,q2,q3,q4,q5)]):=by rw [hzz];exact if_pos hso
 have:=Nt (K:=K7.set K.length ⟨[.int .i64 z.1.1,.int .i64 z.1.2.1,n2.1,n2.2.1.1,n2.2.1.2,n2.2.2.1.1,n2.2.2.2.1,n2.2.2.2.2.1,n2.2.2.2.2.2.1.1,n2.2.2.2.2.2.2.1.1,.int .i64 z.2.2.2.2.2.2.2,r'],0,51⟩) (n:=(n2,r')) (y:=(z,a.2++[((a.2.length:Int)+1,q2,q3,q4,q5)])) (a:=a) (q2:=q2) (q3:=q3) (q4:=q4) (q5:=q5) (r:=⟨[.int .i64 z.1.1,.int .i64 z.1.2.1,n2.1,n2.2.1.1,n2.2.1.2,n2.2.2.1.1,n2.2.2.2.1,n2.2.2.2.2.1,n2.2.2.2.2.2.1.1,n2.2.2.2.2.2.2.1.1,.int .i64 z.2.2.2.2.2.2.2,r'],0,51⟩) (H:=H) rfl ⟨fo1,fo2⟩
  ((((((cK2.trans c23).trans c4).trans c45).trans' c56 (fun i hi=>.inr (by simp at hi;omega))).trans' c7 (fun i hi=>.inr (by have:=hm2 _ hi;omega))).trans' eC (fun i hi=>.inr (by simp at hi;omega)))
  (fun i hi=>by
   rcases List.mem_append.1 hi with hi|hi
   ·have:=hp1 i hi;omega
   ·exact (hp2 i hi).2.2)
  (List.nodup_append.2 ⟨d4,Wa r',fun x hx y hy e=>by
   subst e
   have h1:=hp1 x hx
   rcases (hp2 x hy).1 with g|g
   ·have:=hl2 x g;omega
   ·omega⟩)
  eC2 (decide_eq_true hso)
 exact this
def mkP (k:Int):Yy:=(k,k+1,k+2,k+3,k+4)
def Y2 (k:Int):Nat→List Yy
 | 0=>[]
 | n+1=>Y2 k n++[mkP (k+5*n)]
@[simp] theorem M5 (k:Int):∀n,(Y2 k n).length=n
 | 0=>rfl
 | n+1=>by simp [Y2,M5 k n]
theorem Fi (k:Int) {i:Nat}:∀n (h:i<n),(Y2 k n)[i]'(by simpa using h)=mkP (k+5*i)
 | 0,h=>by omega
 | n+1,h=>by
  simp only [Y2]
  by_cases hi:i<n
  ·rw [List.getElem_append_left (by simpa using hi)];exact Fi k n hi
  ·have:i=n:=by omega
   subst this
   rw [List.getElem_append_right (by simp)];simp
theorem Da (k:Int) (xs:List Yy) {i:Nat} (h:i<xs.length):(Y2 k i++xs.drop i).set i (mkP (k+5*i))=Y2 k (i+1)++xs.drop (i+1):=by
 rw [List.set_append_right _ _ (by simp),M5,Nat.sub_self,List.drop_eq_getElem_cons h,List.set_cons_zero,Y2]
 simp
theorem D8 (v:Value) (xs:List Yy) (e:TypeId) (k:Int) (h:Ow U7 e H v xs) (hl:xs.length≤1073741824) (hk:0≤k∧k≤4611686018427387904) (hf:∀i∈ids v,frz≤i) :
 wp (Qh C frz 41 [v,.int .i64 k] H) (fun r H'=>r=.int .i64 (k+5*xs.length)∧Ow U7 e H' v (Y2 k xs.length)∧Qp H H' (ids v)∧H'.length=H.length):=by
 rw [Qb (fn:=Tryz.f41) Tryz.func41 rfl (by kernel_rfl) rfl]
 simp
 refine Qw (fun n t H'=>∃i:Nat,n=xs.length-i∧i≤xs.length∧t 0=v∧t 1=.int .i64 (k+5*i)∧t 5=.int .i64 i∧Ow U7 e H' v (Y2 k i++xs.drop i)∧Qp H H' (ids v)∧H'.length=H.length) ?_ (n:=xs.length)
  ⟨0,by simp,by omega,by simp,by simp,by simp,by simpa [Y2] using h,Qp.refl _,rfl⟩
 rintro n t H' ⟨i,rfl,hi,h0,h1,h5,o,c,l⟩ ih
 have hlen:(Y2 k i++xs.drop i).length=xs.length:=by simp;omega
 have ll:=o.rd.len (P:=Tryz.prog) (ty:=49) (by simp)
 rw [hlen] at ll
 simp [h0,h1,h5,ll]
 refine Qm ?_ ?_<;>intro h6
 ·have hi':i<xs.length:=by omega
  have hms:=Da k xs hi'
  generalize Y2 k i++xs.drop i=ys at *
  have hy:i<ys.length:=by omega
  obtain ⟨K,hK⟩:∃K,K=k+5*(i:Int):=⟨_,rfl⟩
  obtain ⟨K1,hK1⟩:∃K1,K1=K+1:=⟨_,rfl⟩
  obtain ⟨K2,hK2⟩:∃K1,K1=K+2:=⟨_,rfl⟩
  obtain ⟨K3,hK3⟩:∃K1,K1=K+3:=⟨_,rfl⟩
  obtain ⟨K4,hK4⟩:∃K1,K1=K+4:=⟨_,rfl⟩
  have hmk:mkP K=(K,K1,K2,K3,K4):=by rw [hK1,hK2,hK3,hK4];rfl
  have w1:∀[Inhabited Unit],IntKind.i64.wrap (K+1)=K1:=by intro _;rw [Q0 (by omega) (by omega),hK1]
  have w2:∀[Inhabited Unit],IntKind.i64.wrap (K1+1)=K2:=by intro _;rw [Q0 (by omega) (by omega)];omega
  have w3:∀[Inhabited Unit],IntKind.i64.wrap (K2+1)=K3:=by intro _;rw [Q0 (by omega) (by omega)];omega
  have w4:∀[Inhabited Unit],IntKind.i64.wrap (K3+1)=K4:=by intro _;rw [Q0 (by omega) (by omega)];omega
  have w5:∀[Inhabited Unit],IntKind.i64.wrap (K4+1)=k+5*((i+1:Nat):Int):=by intro _;rw [Q0 (by omega) (by omega)];omega
  rw [← hK] at hms h1
  obtain ⟨z,hz⟩:∃z,z=ys[i]:=⟨_,rfl⟩
  have ix:=fun {G:Qd} {zs:List Yy} (oo:Ow U7 e G v zs) (hh:i<zs.length)=>oo.rd.idx (P:=Tryz.prog) (ty:=49) (e:=104) (by simp) (i:=(i:Int)) (by omega) (by omega)
  have fa:=fun {G:Qd} {zs:List Yy} (oo:Ow U7 e G v zs) (hh:i<zs.length)=>(show _∧_∧_∧_∧_ from
   ⟨oo.rd.field (P:=Tryz.prog) (s:=104) (f:=0) (o:=0) (n:=1) (ag:=false) (by simp) (j:=i*5) (by omega),oo.rd.field (P:=Tryz.prog) (s:=104) (f:=1) (o:=1) (n:=1) (ag:=false) (by simp) (j:=i*5) (by omega),
    oo.rd.field (P:=Tryz.prog) (s:=104) (f:=2) (o:=2) (n:=1) (ag:=false) (by simp) (j:=i*5) (by omega),oo.rd.field (P:=Tryz.prog) (s:=104) (f:=3) (o:=3) (n:=1) (ag:=false) (by simp) (j:=i*5) (by omega),
    oo.rd.field (P:=Tryz.prog) (s:=104) (f:=4) (o:=4) (n:=1) (ag:=false) (by simp) (j:=i*5) (by omega)⟩)
  obtain ⟨H1,s1,o1,c1,l1⟩:=o.store1 (P:=Tryz.prog) (frz:=frz) (et:=3) (ag:=false) (x:=.int .i64 K) (by simp) (j:=i) (c:=0) (y:=(K,z.2)) hy (by decide) rfl rfl (by rw [← hz];rfl) hf
  obtain ⟨H2,s2,o2,c2,l2⟩:=o1.store1 (P:=Tryz.prog) (frz:=frz) (et:=3) (ag:=false) (x:=.int .i64 K1) (by simp) (j:=i) (c:=1) (y:=(K,K1,z.2.2)) (by simpa using hy) (by decide) rfl rfl (by simp [Zj]) hf
  obtain ⟨H3,s3,o3,c3,l3⟩:=o2.store1 (P:=Tryz.prog) (frz:=frz) (et:=3) (ag:=false) (x:=.int .i64 K2) (by simp) (j:=i) (c:=2) (y:=(K,K1,K2,z.2.2.2)) (by simpa using hy) (by decide) rfl rfl (by simp [Zj]) hf
  obtain ⟨H4,s4,o4,c4,l4⟩:=o3.store1 (P:=Tryz.prog) (frz:=frz) (et:=3) (ag:=false) (x:=.int .i64 K3) (by simp) (j:=i) (c:=3) (y:=(K,K1,K2,K3,z.2.2.2.2)) (by simpa using hy) (by decide) rfl rfl (by simp [Zj]) hf
  obtain ⟨H5,s5,o5,c5,l5⟩:=o4.store1 (P:=Tryz.prog) (frz:=frz) (et:=3) (ag:=false) (x:=.int .i64 K4) (by simp) (j:=i) (c:=4) (y:=(K,K1,K2,K3,K4)) (by simpa using hy) (by decide) rfl rfl (by simp [Zj]) hf
  have i0:=ix o hy
  have i1:=ix o1 (by simpa using hy)
  have i2:=ix o2 (by simpa using hy)
  have i3:=ix o3 (by simpa using hy)
  have i4:=ix o4 (by simpa using hy)
  have f0:=(fa o hy).1
  have f1:=(fa o1 (by simpa using hy)).2.1
  have f2:=(fa o2 (by simpa using hy)).2.2.1
  have f3:=(fa o3 (by simpa using hy)).2.2.2.1
  have f4:=(fa o4 (by simpa using hy)).2.2.2.2
  simp only [Int.toNat_natCast,S4,Nat.add_zero] at i0 i1 i2 i3 i4 s1 s2 s3 s4 s5 f0
  simp [-Qy,Wr,h0,h1,h5,i0,i1,i2,i3,i4,f0,f1,f2,f3,f4,s1,s2,s3,s4,s5,w1,w2,w3,w4,w5]
  refine ih (xs.length-(i+1)) _ _ ⟨i+1,rfl,by omega,by simp [h0],?_,?_,?_,(((((c.trans c1).trans c2).trans c3).trans c4).trans c5),by omega⟩ (by omega)
  ·simp
  ·simp;rw [Q0 (by omega) (by omega)]
  ·rw [← hms,hmk];simpa only [List.set_set] using o5
 ·have:i=xs.length:=by omega
  subst this
  simp [h0,h1,h5]
  exact ⟨by simpa using o,c,l⟩
theorem D7 (v:Value) (n:Nat) (k:Int) (h:Rd U7 H v (Y2 k n)) (hl:n≤1073741824) (hk:0≤k∧k≤4611686018427387904) :
 Qh C frz 43 [v,.int .i64 k] H=some (.int .i64 (k+5*n),H):=by
 refine wp.exact (by simp) ?_ rfl
 rw [Qb (fn:=Tryz.f43) Tryz.func43 rfl (by kernel_rfl) rfl]
 have ll:=h.len (P:=Tryz.prog) (ty:=49) (by simp)
 rw [M5] at ll
 simp
 refine Qw (fun m t H'=>∃i:Nat,m=n-i∧i≤n∧t 0=v∧t 1=.int .i64 (k+5*i)∧t 5=.int .i64 i∧H'=H) ?_ (n:=n) ⟨0,rfl,by omega,by simp,by simp,by simp,rfl⟩
 rintro m t H' ⟨i,rfl,hi,h0,h1,h5,rfl⟩ ih
 simp [h0,h1,h5,ll]
 refine Qm ?_ ?_<;>intro h6
 ·have hi':i<n:=by omega
  have hy:i<(Y2 k n).length:=by simpa using hi'
  obtain ⟨K,hK⟩:∃K,K=k+5*(i:Int):=⟨_,rfl⟩
  obtain ⟨K1,hK1⟩:∃K1,K1=K+1:=⟨_,rfl⟩
  obtain ⟨K2,hK2⟩:∃K1,K1=K+2:=⟨_,rfl⟩
  obtain ⟨K3,hK3⟩:∃K1,K1=K+3:=⟨_,rfl⟩
  obtain ⟨K4,hK4⟩:∃K1,K1=K+4:=⟨_,rfl⟩
  have hmk:(Y2 k n)[i]=(K,K1,K2,K3,K4):=by rw [Fi k n hi',hK1,hK2,hK3,hK4,hK];rfl
  have w1:∀[Inhabited Unit],IntKind.i64.wrap (K+1)=K1:=by intro _;rw [Q0 (by omega) (by omega),hK1]
  have w2:∀[Inhabited Unit],IntKind.i64.wrap (K1+1)=K2:=by intro _;rw [Q0 (by omega) (by omega)];omega
  have w3:∀[Inhabited Unit],IntKind.i64.wrap (K2+1)=K3:=by intro _;rw [Q0 (by omega) (by omega)];omega
  have w4:∀[Inhabited Unit],IntKind.i64.wrap (K3+1)=K4:=by intro _;rw [Q0 (by omega) (by omega)];omega
  have w5:∀[Inhabited Unit],IntKind.i64.wrap (K4+1)=k+5*((i+1:Nat):Int):=by intro _;rw [Q0 (by omega) (by omega)];omega
  rw [← hK] at h1
  have i0:=h.idx (P:=Tryz.prog) (ty:=49) (e:=104) (by simp) (i:=(i:Int)) (by omega) (by omega)
  have f0:=h.field (P:=Tryz.prog) (s:=104) (f:=0) (o:=0) (n:=1) (ag:=false) (by simp) (j:=i*5) (by omega)
  have f1:=h.field (P:=Tryz.prog) (s:=104) (f:=1) (o:=1) (n:=1) (ag:=false) (by simp) (j:=i*5) (by omega)
  have f2:=h.field (P:=Tryz.prog) (s:=104) (f:=2) (o:=2) (n:=1) (ag:=false) (by simp) (j:=i*5) (by omega)
  have f3:=h.field (P:=Tryz.prog) (s:=104) (f:=3) (o:=3) (n:=1) (ag:=false) (by simp) (j:=i*5) (by omega)
  have f4:=h.field (P:=Tryz.prog) (s:=104) (f:=4) (o:=4) (n:=1) (ag:=false) (by simp) (j:=i*5) (by omega)
  have c0:=h.cell (P:=Tryz.prog) (e:=3) (by simp) hy (c:=0) (by decide)
  have c1:=h.cell (P:=Tryz.prog) (e:=3) (by simp) hy (c:=1) (by decide)
  have c2:=h.cell (P:=Tryz.prog) (e:=3) (by simp) hy (c:=2) (by decide)
  have c3:=h.cell (P:=Tryz.prog) (e:=3) (by simp) hy (c:=3) (by decide)
  have c4:=h.cell (P:=Tryz.prog) (e:=3) (by simp) hy (c:=4) (by decide)
  rw [hmk] at c0 c1 c2 c3 c4
  simp only [Int.toNat_natCast,S4,Zj,Nat.add_zero] at i0 f0 c0 c1 c2 c3 c4
  simp at c0 c1 c2 c3 c4
  simp [-Qy,Wr,h0,h1,h5,i0,f0,f1,f2,f3,f4,c0,c1,c2,c3,c4,w1,w2,w3,w4,w5]
  refine ih (n-(i+1)) _ _ ⟨i+1,rfl,by omega,by simp [h0],?_,?_,rfl⟩ (by omega)
  ·simp
  ·simp;rw [Q0 (by omega) (by omega)]
 ·have:i=n:=by omega
  subst this
  simp [h0,h1,h5]
theorem Qef {v:Value} {a:List Yy} {k:Int} (h:Ov.Ow H v a) (hd:(Ov.ids v).Nodup) (hk:0≤k∧k≤2305843009213693952) (hf:∀i∈Ov.ids v,frz≤i) :
 wp (Qh C frz 41 [v,.int .i64 k] H) (Marks 5368709120 Ov 43 H v a k):=by
 refine (D8 v a _ k h.1 h.2 ⟨by omega,by omega⟩ hf).mono ?_
 rintro r H' ⟨rfl,o,c,l⟩
 have:=h.2
 refine ⟨5*(a.length:Int),Y2 k a.length,rfl,by omega,rfl,⟨o,by simpa using h.2⟩,c,fun F H2 h2=>?_⟩
 exact D7 v a.length k h2.1.rd h.2 ⟨by omega,by omega⟩
theorem Ey {v:Yj} {a:Ww} {k:Int} (h:Qs.Ow H v a) (hd:(Qs.ids v).Nodup) (hk:0≤k∧k≤576460752303423488) (hf:∀i∈Qs.ids v,frz≤i) :
 wp (Qh C frz 15 [Qs.val v a,.int .i64 k] H) (Marks 9007199254740992 Qs 18 H v a k):=by
 have oneA:=Q8 h
 obtain ⟨v1,v2⟩:=v
 obtain ⟨⟨⟨w,g,b⟩,r2,r3,r4,r5,r6,r7,tm⟩,a2⟩:=a
 obtain ⟨h1,h2⟩:=h
 have ones:=oneA.1
 have Wi:=oneA.2
 simp only at h1 h2 ones Wi
 rw [Qo]
 rw [Qb (fn:=Tryz.f15) Tryz.func15 rfl (by kernel_rfl) rfl]
 have Qbs:Qs.ids (v1,v2)=Qe.ids v1++Ov.ids v2:=rfl
 rw [Qbs] at hd hf
 obtain ⟨d1,d2,x1⟩:=List.nodup_append.1 hd
 have z2_1:∀i∈Ov.ids v2,i∉Qe.ids v1:=fun i hi hh=>x1 i hh i hi rfl
 have z1_2:∀i∈Qe.ids v1,i∉Ov.ids v2:=fun i hh hi=>x1 i hh i hi rfl
 have lt1:=Qe.lt h1
 have lt2:=Ov.lt h2
 simp [ones,Wi]
 obtain ⟨G0,hG0⟩:∃G,G=H++[⟨[.int .i64 w,.int .i64 g,v1.1,v1.2.1.1,v1.2.1.2,v1.2.2.1.1,v1.2.2.2.1,v1.2.2.2.2.1,v1.2.2.2.2.2.1.1,v1.2.2.2.2.2.2.1.1,.int .i64 tm,v2],0,51⟩]:=⟨_,rfl⟩
 have b0:G0[H.length]? = some ⟨[.int .i64 w,.int .i64 g,v1.1,v1.2.1.1,v1.2.1.2,v1.2.2.1.1,v1.2.2.2.1,v1.2.2.2.2.1,v1.2.2.2.2.2.1.1,v1.2.2.2.2.2.2.1.1,.int .i64 tm,v2],0,51⟩:=by rw [hG0];simp
 have cH:Qp H G0 (Qs.ids (v1,v2)):=by rw [hG0];exact Qp.app _
 have h1:=(by rw [hG0];exact Dt.app (T:=Qe) h1:Qe.Ow G0 v1 ((w,g,b),r2,r3,r4,r5,r6,r7,tm))
 have h2:=(by rw [hG0];exact Dt.app (T:=Ov) h2:Ov.Ow G0 v2 a2)
 rw [← hG0]
 clear hG0
 have m1:=Qc7 (frz:=frz) (k:=k) h1 d1 (by omega) (fun i hi=>hf i (List.mem_append.2 (.inl hi)))
 simp only [Qk] at m1
 refine Ql m1 ?_
 rintro _ G1 ⟨n1,a1',rfl,hn1,hv1,o1,c1,he1⟩
 clear m1
 have b0:=Qa b0 c1 (fun hh=>by have:=lt1 _ hh;omega)
 have h2:=Dt.chg (T:=Ov) h2 c1 z2_1
 have cH:=cH.trans (c1.mono (fun i hi=>List.mem_append.2 (.inl hi)))
 have m2:=Qef (frz:=frz) (k:=k+n1) h2 d2 (by omega) (fun i hi=>hf i (List.mem_append.2 (.inr hi)))
 simp [VM.look,b0,ones,Wi]
 refine Ql m2 ?_
 rintro _ G2 ⟨n2,a2',rfl,hn2,hv2,o2,c2,he2⟩
 clear m2
 have o1:=Dt.chg (T:=Qe) o1 c2 z1_2
 have cH:=cH.trans (c2.mono (fun i hi=>List.mem_append.2 (.inr hi)))
 simp
 obtain ⟨⟨w',g',b'⟩,s2,s3,s4,s5,s6,s7,tm'⟩:=a1'
 obtain ⟨e1,e2,e3⟩:w'=w∧g'=g∧tm'=tm:=by simpa [Qk] using hv1
 subst e1 e2 e3
 refine ⟨n1+n2,(((w',g',b'),s2,s3,s4,s5,s6,s7,tm'),a2'),by congr 1;omega,by omega,by rw [Qo,Qo],⟨o1,o2⟩,cH,fun F H3 q=>?_⟩
 obtain ⟨p1,p2⟩:=q
 simp only at p1 p2
 rw [Qo]
 rw [Qb (fn:=Tryz.f18) Tryz.func18 rfl (by kernel_rfl) rfl]
 have y1:=fun F=>he1 F (H3++[⟨[.int .i64 w',.int .i64 g',v1.1,v1.2.1.1,v1.2.1.2,v1.2.2.1.1,v1.2.2.2.1,v1.2.2.2.2.1,v1.2.2.2.2.2.1.1,v1.2.2.2.2.2.2.1.1,.int .i64 tm',v2],0,51⟩]) (Dt.app (T:=Qe) p1)
 simp only [Qk] at y1
 have f1:¬k+n1<0:=by omega
 have y2:=fun F=>he2 F (H3++[⟨[.int .i64 w',.int .i64 g',v1.1,v1.2.1.1,v1.2.1.2,v1.2.2.1.1,v1.2.2.2.1,v1.2.2.2.2.1,v1.2.2.2.2.2.1.1,v1.2.2.2.2.2.2.1.1,.int .i64 tm',v2],0,51⟩]) (Dt.app (T:=Ov) p2)
 simp only [show ∀(v:Value) (a:List Yy),Ov.val v a=v from fun _ _=>rfl] at y2
 have f2:¬k+n1+n2<0:=by omega
 simp [ones,Wi,y1,f1]
 simp [ones,Wi,y2,f2]
 omega
def V2 (x g:Int):Int:=if x<g then 1 else if g<x then 3 else -1
def Vx (y g:Int):Int:=if y<g then 2 else if g<y then 0 else -1
def X2 (w r a to:Int):Int:=
 if a=to then 4 else
 if Vx (a/w) (to/w)<0∨(0≤V2 (a%w) (to%w)∧((if r=4 then 1+to%2 else r)=1∨((if r=4 then 1+to%2 else r)=3∧V2 (a%w) (to%w)=3))) then V2 (a%w) (to%w) else Vx (a/w) (to/w)
def Ry (w r:Int) (n:Nat):List Int:=(List.range (n*n)).map fun i=>X2 w r (i/n:Nat) (i%n:Nat)
theorem Ex (w r:Int) (n:Nat):(Ry w r n).length=n*n:=by simp [Ry]
theorem Qa8 (x g:Int):Qh C frz 235 [.int .i64 x,.int .i64 g] H=some (.int .i64 (V2 x g),H):=by
 rw [Qb (fn:=Tryz.f235) Tryz.func235 rfl (by kernel_rfl) rfl]
 simp
 refine Q7 _ ?_ ?_<;>intro h1<;>simp [h1,V2]
 refine Q7 _ ?_ ?_<;>intro h2<;>simp [h2]
theorem xl (x g:Int):Qh C frz 236 [.int .i64 x,.int .i64 g] H=some (.int .i64 (Vx x g),H):=by
 rw [Qb (fn:=Tryz.f236) Tryz.func236 rfl (by kernel_rfl) rfl]
 simp
 refine Q7 _ ?_ ?_<;>intro h1<;>simp [h1,Vx]
 refine Q7 _ ?_ ?_<;>intro h2<;>simp [h2]
theorem Qca (w h r a to:Int) (hr:1≤r∧r≤4) (ha:Y6 w h a) (hto:Y6 w h to) :
 Qh C frz 212 [.agg #[.int .i64 w,.int .i64 h],.int .i64 r,.int .i64 a,.int .i64 to] H=some (.int .i64 (X2 w r a to),H):=by
 rw [Qb (fn:=Tryz.f212) Tryz.func212 rfl (by kernel_rfl) rfl]
 obtain ⟨hg,a0,_,a1⟩:=S8 ha
 obtain ⟨_,t0,_,t1⟩:=S8 hto
 have hw:=hg.1
 have hir:Xa 1 r 4:=hr
 have wz:¬w=0:=by omega
 have e1:a.tmod w=a%w:=Int.tmod_eq_emod_of_nonneg a0
 have e2:to.tmod w=to%w:=Int.tmod_eq_emod_of_nonneg t0
 have e3:a.tdiv w=a/w:=Int.tdiv_eq_ediv_of_nonneg a0
 have e4:to.tdiv w=to/w:=Int.tdiv_eq_ediv_of_nonneg t0
 have e5:to.tmod 2=to%2:=Int.tmod_eq_emod_of_nonneg t0
 have d1:0≤a/w∧a/w≤a:=⟨Int.ediv_nonneg a0 (by omega),Int.ediv_le_self _ a0⟩
 have d2:0≤to/w∧to/w≤to:=⟨Int.ediv_nonneg t0 (by omega),Int.ediv_le_self _ t0⟩
 have f3:=@w6 (a/w) (by omega)
 have f4:=@w6 (to/w) (by omega)
 have f5:=@w6 (1+to%2) (by omega)
 simp [Zm,ha,hto,Wd,hir]
 refine Q7 _ ?_ ?_<;>intro h4
 ·subst h4
  simp [e5,f5]
  rw [Qv (h:=by kernel_rfl)]
  simp [VM.look,wz,e1,e2,e3,e4,f3,f4,Qa8,xl]
  refine Q7 _ ?_ ?_<;>intro h5
  ·simp [h5,X2]
  ·have est:X2 w 4 a to=if Vx (a/w) (to/w)<0∨(0≤V2 (a%w) (to%w)∧(1+to%2=1∨(1+to%2=3∧V2 (a%w) (to%w)=3))) then V2 (a%w) (to%w) else Vx (a/w) (to/w):=by simp [X2,h5]
   rw [est]
   generalize V2 (a%w) (to%w)=X
   generalize Vx (a/w) (to/w)=Y
   generalize 1+to%2=R
   simp
   by_cases q1:Y<0
   ·simp [q1]
   ·by_cases q2:0≤X
    ·by_cases q3:R=1
     ·simp [q1,q2,q3]
     ·by_cases q4:R=3
      ·by_cases q5:X=3
       ·simp [q1,q2,q3,q4,q5]
       ·simp [q1,q2,q3,q4,q5]
      ·simp [q1,q2,q3,q4]
    ·simp [q1,q2]
 ·simp [h4]
  rw [Qv (h:=by kernel_rfl)]
  simp [VM.look,wz,e1,e2,e3,e4,f3,f4,Qa8,xl]
  refine Q7 _ ?_ ?_<;>intro h5
  ·simp [h5,X2]
  ·have est:X2 w r a to=if Vx (a/w) (to/w)<0∨(0≤V2 (a%w) (to%w)∧(r=1∨(r=3∧V2 (a%w) (to%w)=3))) then V2 (a%w) (to%w) else Vx (a/w) (to/w):=by simp [X2,h4,h5]
   rw [est]
   generalize V2 (a%w) (to%w)=X
   generalize Vx (a/w) (to/w)=Y
   simp
   by_cases q1:Y<0
   ·simp [q1]
   ·by_cases q2:0≤X
    ·by_cases q3:r=1
     ·simp [q1,q2,q3]
     ·by_cases q4:r=3
      ·by_cases q5:X=3
       ·simp [q1,q2,q3,q4,q5]
       ·simp [q1,q2,q3,q4,q5]
      ·simp [q1,q2,q3,q4]
    ·simp [q1,q2]
theorem Gp (w h r:Int) (n:Nat) (hr:1≤r∧r≤4) (hg:wi w h) (hn:cnt w h=n) :
 wp (Qh C frz 183 [.agg #[.int .i64 w,.int .i64 h],.int .i64 r] H) (Xr Wu H (Ry w r n) true):=by
 rw [Qb (fn:=Tryz.f183) Tryz.func183 rfl (by kernel_rfl) rfl]
 have hc:=Qz w h
 have hir:Xa 1 r 4:=hr
 have hn2:n*n≤256:=Nat.mul_le_mul (show n≤16 by omega) (show n≤16 by omega)
 simp [Kj,hg,Wd,hir,Xx,hn]
 refine Qw (fun m t H'=>∃(i:Nat) (vo:Value) (o:List Int),m=n-i∧i≤n∧o=(List.range (i*n)).map (fun i=>X2 w r (i/n:Nat) (i%n:Nat))∧
  t 1=.int .i64 r∧t 2=.pointer (some ⟨H.length,0,some 0⟩)∧t 4=.pointer (some ⟨H.length+1,0,some 0⟩)∧t 6=.pointer (some ⟨H.length+2,0,some 0⟩)∧t 20=.int .i64 n∧t 21=.int .i64 i∧
  Qp H H' []∧H'[H.length]? = some ⟨[.int .i64 w,.int .i64 h],0,40⟩∧H'[H.length+1]? = some ⟨[.slice none 0 0],0,43⟩∧H'[H.length+2]? = some ⟨[vo],0,43⟩∧
  Ow Fl.int 3 H' vo o∧(∀i∈ids vo,H.length+2<i)) ?_ (n:=n) ⟨0,.slice none 0 0,[],by simp,by omega,by simp,by simp,by simp,by simp,by simp,by simp,by simp,Qp.app _,by simp,by simp,by simp,.inl ⟨rfl,rfl⟩,by simp⟩
 rintro m t H' ⟨i,vo,o,rfl,hi,ho,h1,h2,h4,h6,h20,h21,c0,b2,b4,b6,oo,no⟩ ih
 simp [h1,h2,h4,h6,h20,h21]
 refine Qm ?_ ?_<;>intro hin
 ·have hin':i<n:=by omega
  simp [h1,h2,h4,h6,h20,h21,VM.look,b2,Xx,hn]
  refine Qw (fun m t H'=>∃(j:Nat) (vo:Value) (o:List Int),m=n-j∧j≤n∧o=(List.range (i*n+j)).map (fun i=>X2 w r (i/n:Nat) (i%n:Nat))∧
   t 1=.int .i64 r∧t 2=.pointer (some ⟨H.length,0,some 0⟩)∧t 4=.pointer (some ⟨H.length+1,0,some 0⟩)∧t 6=.pointer (some ⟨H.length+2,0,some 0⟩)∧t 20=.int .i64 n∧t 21=.int .i64 i∧
   t 7=.int .i64 i∧t 25=.int .i64 n∧t 26=.int .i64 j∧
   Qp H H' []∧H'[H.length]? = some ⟨[.int .i64 w,.int .i64 h],0,40⟩∧H'[H.length+1]? = some ⟨[.slice none 0 0],0,43⟩∧H'[H.length+2]? = some ⟨[vo],0,43⟩∧
   Ow Fl.int 3 H' vo o∧(∀i∈ids vo,H.length+2<i)) ?_ (n:=n) ⟨0,vo,o,by simp,by omega,by simpa using ho,by simp [h1],by simp [h2],by simp [h4],by simp [h6],by simp [h20],by simp [h21],by simp,by simp,by simp,c0,b2,b4,b6,oo,no⟩
  clear h1 h2 h4 h6 h20 h21 c0 b2 b4 b6 oo no ho
  rintro m t H' ⟨j,vo,o,rfl,hj,ho,h1,h2,h4,h6,h20,h21,h7,h25,h26,c0,b2,b4,b6,oo,no⟩ ih2
  simp [h1,h2,h4,h6,h20,h21,h7,h25,h26]
  refine Qm ?_ ?_<;>intro hjn
  ·have hjn':j<n:=by omega
   have hol:o.length=i*n+j:=by rw [ho];simp
   have hsm:i*n+j<n*n:=by
    have:=Nat.mul_le_mul_right n (show i+1≤n by omega)
    rw [Nat.succ_mul] at this;omega
   have hdv:(i*n+j)/n=i:=by rw [Nat.mul_comm,Nat.mul_add_div (by omega),Nat.div_eq_of_lt hjn'];omega
   have hmd:(i*n+j)%n=j:=by rw [Nat.mul_comm,Nat.mul_add_mod,Nat.mod_eq_of_lt hjn']
   have sp:=fun F L=>Qca (frz:=F) (H:=L) w h r i j hr ⟨by omega,by omega⟩ ⟨by omega,by omega⟩
   have hx:X2 w r ((i*n+j)/n:Nat) ((i*n+j)%n:Nat)=X2 w r i j:=by rw [hdv,hmd]
   simp [h1,h2,h4,h6,h20,h21,h7,h25,h26]
   rw [Qv (h:=by kernel_rfl)]
   obtain ⟨vo',H3,e3,oo3,c3,n3⟩:=oo.push (P:=Tryz.prog) (frz:=H.length) (ty:=24) (a:=X2 w r i j) (by simp) rfl (by omega) (fun i hi=>by have:=no i hi;omega)
   simp only [Fl.int_f] at e3
   have lc:=Wj b6
   have b2':=Qa b2 c3 (fun hh=>by have:=no _ hh;omega)
   have b4':=Qa b4 c3 (fun hh=>by have:=no _ hh;omega)
   have b6':=Qa b6 c3 (fun hh=>by have:=no _ hh;omega)
   have no3:∀i∈ids vo',H.length+2<i:=fun i hi=>by rcases n3 i hi with h|h;exact no i h;omega
   have one:=And.intro oo.rd.one' oo.rd.cells
   have Xz:=And.intro oo3.rd.one' oo3.rd.cells
   have hF:H.length≤H.length+2:=by omega
   simp [VM.look,b2,b6,sp,one,e3,b6',Xz,h1,h2,h4,h6,h20,h21,h7,h25,h26]
   refine ih2 (n-(j+1)) _ _ ⟨j+1,vo',o++[X2 w r i j],rfl,by omega,?_,by simp [h1],by simp [h2],by simp [h4],by simp [h6],by simp [h20],by simp [h21],by simp [h7],by simp [h25],?_,
    (c0.trans' c3 (fun i hi=>.inr (by have:=no i hi;omega))).trans' (Qn _ _) (fun i hi=>.inr (by simp at hi;omega)),Qa b2' (Qn _ _) (by simp),Qa b4' (Qn _ _) (by simp),Qq b6',
    oo3.chg (Qn _ _) (fun i hi hh=>by have:=no3 i hi;simp at hh;omega),no3⟩ (by omega)
   ·rw [← Nat.add_assoc,List.range_succ,List.map_append,← ho];simp only [List.map_cons,List.map_nil,hdv,hmd]
   ·simp;rw [Q0 (by omega) (by omega)]
  ·have:j=n:=by omega
   subst this
   simp [h1,h2,h4,h6,h20,h21,h7,h25,h26]
   refine ih (j-(i+1)) _ _ ⟨i+1,vo,o,rfl,by omega,by rw [Nat.succ_mul];exact ho,by simp [h1],by simp [h2],by simp [h4],by simp [h6],by simp [h20],?_,c0,b2,b4,b6,oo,no⟩ (by omega)
   simp;rw [Q0 (by omega) (by omega)]
 ·have:i=n:=by omega
  subst this
  have lc:=Wj b6
  have one:=And.intro oo.rd.one' oo.rd.cells
  have g4:=Qq (r':=⟨[vo],0,43⟩) b4
  have hol:o.length=i*i:=by rw [ho];simp
  have hF:H.length≤H.length+1:=by omega
  simp [h1,h2,h4,h6,h20,h21,VM.look,b6,b4,one,g4,hF]
  exact ⟨.agg #[vo],rfl,vo,rfl,⟨(by rw [show Ry w r i=o from ho.symm];exact oo.chg (Qn _ _) (fun i hi hh=>by have:=no i hi;simp at hh;omega)),by rw [Ex];omega⟩,c0.trans' (Qn _ _) (fun i hi=>.inr (by simp at hi;omega)),fun i hi=>by have:=no i hi;omega,Wa vo⟩
theorem Qiz (w r a to:Int) (hw:1≤w) (ha:0≤a) (ht:0≤to) (hne:a≠to) (R:Int) (hR:R=if r=4 then 1+to%2 else r) :
 X2 w r a to=(if (if R=2 then a/w=to/w else if R=3 then to%w<a%w∨a/w=to/w else a%w≠to%w) then (if to%w<a%w then 3 else 1) else (if to/w<a/w then 0 else 2))∨¬(1≤R∧R≤3):=by
 have h1:=Int.emod_add_mul_ediv a w
 have h2:=Int.emod_add_mul_ediv to w
 have h3:¬(a%w=to%w∧a/w=to/w):=fun ⟨e1,e2⟩=>hne (by rw [← h1,← h2,e1,e2])
 unfold X2
 rw [if_neg hne,← hR]
 generalize a%w=X at *
 generalize to%w=U at *
 generalize a/w=Y at *
 generalize to/w=V at *
 by_cases hr:1≤R∧R≤3
 rotate_left
 ·exact .inr hr
 left
 unfold V2 Vx
 obtain rfl|rfl|rfl:R=1∨R=2∨R=3:=by omega
 all_goals simp
 all_goals (repeat' split)<;>first|rfl|omega
theorem Yg (x g:Int):Qh C frz 166 [.int .i64 x,.int .i64 g] H=some (.int .i64 (if g<x then 3 else 1),H):=by
 rw [Qb (fn:=Tryz.f166) Tryz.func166 rfl (by kernel_rfl) rfl]
 simp
 refine Q7 _ ?_ ?_<;>intro h1<;>simp [h1]
theorem Uz (x g:Int):Qh C frz 167 [.int .i64 x,.int .i64 g] H=some (.int .i64 (if g<x then 0 else 2),H):=by
 rw [Qb (fn:=Tryz.f167) Tryz.func167 rfl (by kernel_rfl) rfl]
 simp
 refine Q7 _ ?_ ?_<;>intro h1<;>simp [h1]
theorem Qdn (w h r a to:Int) (hr:1≤r∧r≤4) (ha:Y6 w h a) (hto:Y6 w h to) :
 Qh C frz 122 [.agg #[.int .i64 w,.int .i64 h],.int .i64 r,.int .i64 a,.int .i64 to] H=some (.int .i64 (X2 w r a to),H):=by
 rw [Qb (fn:=Tryz.f122) Tryz.func122 rfl (by kernel_rfl) rfl]
 obtain ⟨hg,a0,_,a1⟩:=S8 ha
 obtain ⟨_,t0,_,t1⟩:=S8 hto
 have hw:=hg.1
 have wz:¬w=0:=by omega
 have e1:a.tmod w=a%w:=Int.tmod_eq_emod_of_nonneg a0
 have e2:to.tmod w=to%w:=Int.tmod_eq_emod_of_nonneg t0
 have e3:a.tdiv w=a/w:=Int.tdiv_eq_ediv_of_nonneg a0
 have e4:to.tdiv w=to/w:=Int.tdiv_eq_ediv_of_nonneg t0
 have e5:to.tmod 2=to%2:=Int.tmod_eq_emod_of_nonneg t0
 have d1:0≤a/w∧a/w≤a:=⟨Int.ediv_nonneg a0 (by omega),Int.ediv_le_self _ a0⟩
 have d2:0≤to/w∧to/w≤to:=⟨Int.ediv_nonneg t0 (by omega),Int.ediv_le_self _ t0⟩
 have f3:=@w6 (a/w) (by omega)
 have f4:=@w6 (to/w) (by omega)
 have f5:=@w6 (1+to%2) (by omega)
 have key:a≠to→∀R,(R=if r=4 then 1+to%2 else r)→1≤R→R≤3→X2 w r a to=if (if R=2 then a/w=to/w else if R=3 then to%w<a%w∨a/w=to/w else a%w≠to%w) then (if to%w<a%w then 3 else 1) else (if to/w<a/w then 0 else 2):=fun hne R hR r1 r2=>by
  rcases Qiz w r a to hw.1 a0 t0 hne R hR with h|h
  ·exact h
  ·exact absurd ⟨r1,r2⟩ h
 simp [VM.look,wz,e1,e2,e3,e4,f3,f4]
 by_cases h4:a=to
 ·subst h4;simp [X2]
 have key:=key h4
 clear e1 e2 e3 e4 f3 f4
 generalize a%w=X at *
 generalize to%w=U at *
 generalize a/w=Y at *
 generalize to/w=V at *
 generalize X2 w r a to=Z at *
 simp [h4]
 have k1:∀[Inhabited Unit],IntKind.i64.wrap 1=1:=by intro _;exact Q0 (by omega) (by omega)
 have k2:∀[Inhabited Unit],IntKind.i64.wrap 2=2:=by intro _;exact Q0 (by omega) (by omega)
 by_cases r4:r=4
 ·have key:=key _ (if_pos r4).symm (by omega) (by omega)
  have m2:to%2=0∨to%2=1:=by omega
  rcases m2 with m2|m2<;>simp only [m2] at key f5
  ·simp [r4,e5,m2,f5,Yg,Uz,k1,k2]
   by_cases h5:X=U<;>simp [h5] at key<;>simp [h5,key,Yg,Uz,k1,k2]
  ·simp [r4,e5,m2,f5,Yg,Uz,k1,k2]
   by_cases h5:Y=V<;>simp [h5] at key<;>simp [h5,key,Yg,Uz,k1,k2]
 ·have key:=key _ (if_neg r4).symm (by omega) (by omega)
  obtain rfl|rfl|rfl:r=1∨r=2∨r=3:=by omega
  ·simp [Yg,Uz,k1,k2]
   by_cases h5:X=U<;>simp [h5] at key<;>simp [h5,key,Yg,Uz,k1,k2]
  ·simp [Yg,Uz,k1,k2]
   by_cases h5:Y=V<;>simp [h5] at key<;>simp [h5,key,Yg,Uz,k1,k2]
  ·simp [Yg,Uz,k1,k2]
   by_cases h5:U<X
   ·simp [h5] at key;simp [h5,key,Yg,Uz,k1,k2]
   ·by_cases h6:Y=V<;>simp [h5,h6] at key<;>simp [h5,h6,key,Yg,Uz,k1,k2]
end Go.Proofs.YtlhaeingdonaeaaGreat.V
set_option linter.all false
namespace Go.Proofs.YtlhaeingdonaeaaGreat.V
open Go Go.VM Go.Proofs
set_option maxRecDepth 100000
end Go.Proofs.YtlhaeingdonaeaaGreat.V
set_option linter.all false
namespace Go.Proofs.YtlhaeingdonaeaaGreat.V
open Go Go.VM Go.Proofs
set_option maxRecDepth 10000
variable {frz:Nat} {H:Qd}
theorem C5 (w h r:Int) (n:Nat) (hr:1≤r∧r≤4) (hg:wi w h) (hn:cnt w h=n) :
 wp (Qh C frz 70 [.agg #[.int .i64 w,.int .i64 h],.int .i64 r] H) (Wu.Made H (Ry w r n)):=by
 rw [Qb (fn:=Tryz.f70) Tryz.func70 rfl (by kernel_rfl) rfl]
 have hc:=Qz w h
 have hn2:n*n≤256:=Nat.mul_le_mul (show n≤16 by omega) (show n≤16 by omega)
 have Q3i:(n:Int)*(n:Int)≤256:=by
  have:((n*n:Nat):Int)≤256:=by omega
  rwa [Int.natCast_mul] at this
 obtain ⟨M,hM⟩:∃M:Nat,M=n*n:=⟨_,rfl⟩
 have eM:∀[Inhabited Unit],IntKind.i64.wrap ((n:Int)*n)=(M:Int):=by intro _;rw [hM,Int.natCast_mul];exact Q0 (by have:=Int.natCast_nonneg (n*n);rw [Int.natCast_mul] at this;omega) (by omega)
 simp [W8,hn]
 refine Qw (fun m t H'=>∃(i:Nat) (vo:Value) (o:List Int),m=M-i∧i≤M∧o=(List.range i).map (fun i=>X2 w r (i/n:Nat) (i%n:Nat))∧
  t 1=.int .i64 r∧t 2=.pointer (some ⟨H.length,0,some 0⟩)∧t 4=.pointer (some ⟨H.length+1,0,some 0⟩)∧t 5=.pointer (some ⟨H.length+2,0,some 0⟩)∧t 6=.int .i64 n∧t 7=.int .i64 i∧
  Qp H H' []∧H'[H.length]? = some ⟨[.int .i64 w,.int .i64 h],0,40⟩∧H'[H.length+1]? = some ⟨[.slice none 0 0],0,43⟩∧H'[H.length+2]? = some ⟨[vo],0,43⟩∧
  Ow Fl.int 3 H' vo o∧(∀i∈ids vo,H.length+2<i)) ?_ (n:=M) ⟨0,.slice none 0 0,[],by simp,by omega,by simp,by simp,by simp,by simp,by simp,by simp,by simp,Qp.app _,by simp,by simp,by simp,.inl ⟨rfl,rfl⟩,by simp⟩
 rintro m t H' ⟨i,vo,o,rfl,hi,ho,h1,h2,h4,h5,h6,h7,c0,b2,b4,b6,oo,no⟩ ih
 simp [h1,h2,h4,h5,h6,h7,eM]
 refine Qm ?_ ?_<;>intro hin
 ·have hin':i<M:=by omega
  have hn0:0<n:=by
   rcases Nat.eq_zero_or_pos n with h0|h0
   ·rw [h0] at hM;omega
   ·exact h0
  have hol:o.length=i:=by rw [ho];simp
  have q1:i/n<n:=by rw [Nat.div_lt_iff_lt_mul hn0];omega
  have q2:i%n<n:=Nat.mod_lt _ hn0
  have d1:∀[Inhabited Unit],IntKind.i64.wrap ((i:Int)/(n:Int))=((i/n:Nat):Int):=by intro _;rw [← Int.natCast_ediv];exact Q0 (by have:=Int.natCast_nonneg (i/n);omega) (by have:=Int.ofNat_lt.2 q1;omega)
  have d2:(i:Int).tmod n=((i%n:Nat):Int):=by rw [Int.tmod_eq_emod_of_nonneg (by omega)];rfl
  have d3:(i:Int).tdiv n=(i:Int)/n:=Int.tdiv_eq_ediv_of_nonneg (by omega)
  have nz:¬(n:Int)=0:=by omega
  have nz':¬n=0:=by omega
  have sp:=fun F=>Qdn (frz:=F) (H:=H') w h r ((i/n:Nat):Int) ((i%n:Nat):Int) hr ⟨Int.natCast_nonneg _,by rw [hn];exact Int.ofNat_lt.2 q1⟩ ⟨Int.natCast_nonneg _,by rw [hn];exact Int.ofNat_lt.2 q2⟩
  obtain ⟨X,hX⟩:∃X,X=((i/n:Nat):Int):=⟨_,rfl⟩
  obtain ⟨Y,hY⟩:∃Y,Y=((i%n:Nat):Int):=⟨_,rfl⟩
  rw [← hX] at d1
  rw [← hY] at d2
  rw [← hX,← hY] at sp
  simp
  rw [Qv (h:=by kernel_rfl)]
  obtain ⟨vo',H3,e3,oo3,c3,n3⟩:=oo.push (P:=Tryz.prog) (frz:=H.length) (ty:=24) (a:=X2 w r X Y) (by simp) rfl (by omega) (fun i hi=>by have:=no i hi;omega)
  simp only [Fl.int_f] at e3
  have lc:=Wj b6
  have b2':=Qa b2 c3 (fun hh=>by have:=no _ hh;omega)
  have b4':=Qa b4 c3 (fun hh=>by have:=no _ hh;omega)
  have b6':=Qa b6 c3 (fun hh=>by have:=no _ hh;omega)
  have no3:∀i∈ids vo',H.length+2<i:=fun i hi=>by rcases n3 i hi with h|h;exact no i h;omega
  have one:=And.intro oo.rd.one' oo.rd.cells
  have Xz:=And.intro oo3.rd.one' oo3.rd.cells
  have hF:H.length≤H.length+2:=by omega
  simp [-Q5,-Wm,VM.look,b2,b6,sp,one,e3,b6',Xz,h1,h2,h4,h5,h6,h7,d1,d2,d3,nz,nz',hF]
  refine ih (M-(i+1)) _ _ ⟨i+1,vo',o++[X2 w r X Y],rfl,by omega,?_,by simp [h1],by simp [h2],by simp [h4],by simp [h5],by simp [h6],?_,
   (c0.trans' c3 (fun i hi=>.inr (by have:=no i hi;omega))).trans' (Qn _ _) (fun i hi=>.inr (by simp at hi;omega)),Qa b2' (Qn _ _) (by simp),Qa b4' (Qn _ _) (by simp),Qq b6',
   oo3.chg (Qn _ _) (fun i hi hh=>by have:=no3 i hi;simp at hh;omega),no3⟩ (by omega)
  ·rw [List.range_succ,List.map_append,← ho];simp only [List.map_cons,List.map_nil,hX,hY]
  ·simp [h7];rw [Q0 (by omega) (by omega)]
 ·have:i=M:=by omega
  subst this
  have lc:=Wj b6
  have one:=And.intro oo.rd.one' oo.rd.cells
  have g4:=Qq (r':=⟨[vo],0,43⟩) b4
  have hol:o.length=i:=by rw [ho];simp
  have hF:H.length≤H.length+1:=by omega
  simp [h1,h2,h4,h5,h6,h7,VM.look,b6,b4,one,g4,hF]
  exact ⟨vo,rfl,⟨(by rw [show Ry w r n=o from by rw [ho,hM];rfl];exact oo.chg (Qn _ _) (fun i hi hh=>by have:=no i hi;simp at hh;omega)),by rw [Ex];omega⟩,c0.trans' (Qn _ _) (fun i hi=>.inr (by simp at hi;omega)),fun i hi=>by have:=no i hi;omega,Wa vo⟩
def tabs (x:Qu) (p q:Int):Yt:=(Ry x.1.1 p (cnt x.1.1 x.1.2.1).toNat,Ry x.1.1 q (cnt x.1.1 x.1.2.1).toNat)
def Zk (x:Qu) (p q:Int):Prop:=¬0<x.1.2.2.length∧U0 x (tabs x p q)
instance (x:Qu) (p q:Int):Decidable (Zk x p q):=inferInstanceAs (Decidable (_∧_))
def Th (x:Qu) (p q:Int):Qu:=if 0<x.1.2.2.length then x else Ks x (tabs x p q)
def Qf0:List Value:=[.int .i64 0,.int .i64 0,.slice none 0 0,.slice none 0 0,.slice none 0 0,.slice none 0 0,.slice none 0 0,.slice none 0 0,.slice none 0 0,.slice none 0 0,.int .i64 0]
def At (H:Qd) (v:Wo) (y:Qu) (b:Bool) (r:Value) (H':Qd):Prop:=
 ∃w:Wo,r=.tuple #[Qe.val w y,.bool b]∧Qe.Ow H' w y∧(Qe.ids w).Nodup∧(∀i∈Qe.ids w,i∈Qe.ids v∨H.length≤i)∧Qp H H' []
theorem Qh6 {v:Wo} {x:Qu} {p q:Int} (hp:1≤p∧p≤4) (hq:1≤q∧q≤4) (hg:wi x.1.1 x.1.2.1) (o:Qe.Ow H v x) (nd:(Qe.ids v).Nodup) :
 wp (Qh C frz 146 [Qe.val v x,.int .i64 p,.int .i64 q] H) (At H v (Th x p q) (decide (Zk x p q))):=by
 have ones:=Qr o
 have hlt:=Qe.lt o
 have st1:=fun K=>Gp (frz:=H.length) (H:=K) x.1.1 x.1.2.1 p (cnt x.1.1 x.1.2.1).toNat hp hg (by have:=Qz x.1.1 x.1.2.1;omega)
 have st2:=fun K=>Gp (frz:=H.length) (H:=K) x.1.1 x.1.2.1 q (cnt x.1.1 x.1.2.1).toNat hq hg (by have:=Qz x.1.1 x.1.2.1;omega)
 have et:tabs x p q=(Ry x.1.1 p (cnt x.1.1 x.1.2.1).toNat,Ry x.1.1 q (cnt x.1.1 x.1.2.1).toNat):=rfl
 simp only [Qk]
 rw [Qb (fn:=Tryz.f146) Tryz.func146 rfl (by kernel_rfl) rfl]
 obtain ⟨G,hG⟩:∃G,G=H++[⟨Qc v x,0,48⟩,⟨Qf0,0,48⟩]:=⟨_,rfl⟩
 have cG:Qp H G []:=by rw [hG];exact Qp.app _
 have b0:G[H.length]? = some ⟨Qc v x,0,48⟩:=by rw [hG];simp
 have bR:G[H.length+1]? = some ⟨Qf0,0,48⟩:=by rw [hG];simp
 have lG:G.length=H.length+2:=by rw [hG];simp
 have hGs:=hG.symm
 have b0':=b0
 unfold Qc Qf0 at hGs
 unfold Qc at b0'
 simp [ones]
 rw [hGs]
 clear hG hGs
 try simp [VM.look,b0',ones]
 refine Ql (st1 G) ?_
 rintro _ K1 ⟨_,rfl,v1,rfl,o1,c1,m1,d1⟩
 have q1:=Xc o1
 have l1:=c1.1
 have hF1:H.length≤K1.length:=by omega
 obtain ⟨K2,hK2⟩:∃K2,K2=K1++[⟨[v1],0,43⟩]:=⟨_,rfl⟩
 have c12:Qp K1 K2 []:=by rw [hK2];exact Qp.app _
 have l2:K2.length=K1.length+1:=by rw [hK2];simp
 have bA:K2[K1.length]? = some ⟨[v1],0,43⟩:=by rw [hK2];simp
 have b0:=Qa (Qa b0 c1 (by simp)) c12 (by simp)
 have bR:=Qa (Qa bR c1 (by simp)) c12 (by simp)
 have o1:=Dt.chg (T:=Wu) o1 c12 (by simp)
 have hKs:=hK2.symm
 have b0':=b0
 unfold Qc at b0'
 simp [Wx,q1,VM.look,hF1]
 rw [hKs]
 clear hK2 hKs
 simp [VM.look,b0',ones]
 refine Ql (st2 K2) ?_
 rintro _ K3 ⟨_,rfl,v2,rfl,o2,c3,m2,d2⟩
 have q2:=Xc o2
 have l3:=c3.1
 have hF3:H.length≤K3.length:=by omega
 obtain ⟨K4,hK4⟩:∃K4,K4=K3++[⟨[v2],0,43⟩]:=⟨_,rfl⟩
 have c34:Qp K3 K4 []:=by rw [hK4];exact Qp.app _
 have bB:K4[K3.length]? = some ⟨[v2],0,43⟩:=by rw [hK4];simp
 have b0:=Qa (Qa b0 c3 (by simp)) c34 (by simp)
 have bR:=Qa (Qa bR c3 (by simp)) c34 (by simp)
 have bA:=Qa (Qa bA c3 (by simp)) c34 (by simp)
 have o1:=Dt.chg (T:=Wu) (Dt.chg (T:=Wu) o1 c3 (by simp)) c34 (by simp)
 have o2:=Dt.chg (T:=Wu) o2 c34 (by simp)
 have cH4:Qp H K4 []:=(((cG.trans c1).trans c12).trans c3).trans c34
 have on4:=Dt.chg (T:=Qe) o cH4 (by simp)
 have ln:=on4.1.1.rd.len (P:=Tryz.prog) (ty:=24) (by simp)
 have hKs:=hK4.symm
 have b0':=b0
 unfold Qc at b0'
 have hF:H.length≤H.length+1:=by omega
 simp [Wx,q2,VM.look,hF3]
 rw [hKs]
 clear hK4 hKs
 simp [VM.look,b0',ones,ln]
 by_cases g:0<x.1.2.2.length
 ·have gR:=Qq (r':=⟨Qc v x,0,48⟩) bR
  have hM:At H v (Th x p q) (decide (Zk x p q)) (.tuple #[Qe.val v x,.bool false]) (K4.set (H.length+1) ⟨Qc v x,0,48⟩):=by
   have e1:Th x p q=x:=if_pos g
   have e2:decide (Zk x p q)=false:=decide_eq_false (fun k=>k.1 g)
   rw [e1,e2]
   exact ⟨v,rfl,Dt.chg (T:=Qe) on4 (Qn _ _) (fun i hi hh=>by have:=hlt i hi;simp at hh;omega),nd,fun i hi=>.inl hi,cH4.trans' (Qn _ _) (fun i hi=>.inr (by simp at hi;omega))⟩
  unfold Qf0 at bR
  unfold Qc at gR hM
  simp only [Qk] at hM
  simp [VM.look,g,b0',bR,gR,ones,hF]
  simpa using hM
 ·have rp:=Qdq (frz:=H.length) on4 (vc:=(v1,v2)) (t:=tabs x p q) ⟨o1,o2⟩
  simp only [Qk,Wz] at rp
  simp [VM.look,g,b0',bA,bB,ones,q1,q2]
  refine Ql rp ?_
  rintro _ K5 ⟨_,rfl,w,rfl,ow,cw,mw,dw⟩
  have l4:=cH4.1
  obtain ⟨y,hy⟩:∃y,y=Ks x (tabs x p q):=⟨_,rfl⟩
  rw [← hy] at ow
  have onew:=Qr ow
  have bR:=Qa bR cw (by simp)
  have lR:=Wj bR
  have gR:=Qq (r':=⟨Qc w y,0,48⟩) bR
  have hM:At H v (Th x p q) (decide (Zk x p q)) (.tuple #[Qe.val w y,.bool (decide (U0 x (tabs x p q)))]) (K5.set (H.length+1) ⟨Qc w y,0,48⟩):=by
   have e1:Th x p q=y:=by rw [hy];exact if_neg g
   have e2:decide (Zk x p q)=decide (U0 x (tabs x p q)):=by simp [Zk,g]
   rw [e1,e2]
   have l12:H.length+2≤K4.length:=by have:=c34.1;omega
   exact ⟨w,rfl,Dt.chg (T:=Qe) ow (Qn _ _) (fun i hi hh=>by have:=mw i hi;simp at hh;omega),dw,fun i hi=>.inr (by have:=mw i hi;omega),(cH4.trans cw).trans' (Qn _ _) (fun i hi=>.inr (by simp at hi;omega))⟩
  unfold Qf0 at bR
  unfold Qc at gR hM
  simp only [Qk] at hM
  simp [Qk,← hy,VM.look,bR,gR,onew,hF]
  simpa using hM
noncomputable def Tu (a:Ww) (k p q r s:Int):Ww×Int:=
 if k=1 then (Yu a p q r s,if Xk a (Xu a p q r s) then ((Yu a p q r s).2.length:Int) else 0)
 else if k=2 then (Yk a p,(Xo (Yk a p).1.2.2.1:Int)+Xo (Yk a p).1.2.2.2.2.2.1)
 else if k=3 then ((Ux a.1,a.2),X8 a.1)
 else if k=4 then ((Ch a.1 p,a.2),if Y1 a.1 p then 1 else 0)
 else ((Th a.1 p q,a.2),if Zk a.1 p q then 1 else 0)
def Mc (H:Qd) (v:Yj) (id:Nat) (y:Ww) (k:Int) (r:Value) (H':Qd):Prop:=
 r=.int .i64 k∧∃w:Yj,H'[id]? = some ⟨Qg w y,0,51⟩∧Qs.Ow H' w y∧(Qs.ids w).Nodup∧(∀i∈Qs.ids w,i∈Qs.ids v∨H.length≤i)∧Qp H H' [id]
theorem Eb {H J:Qd} {v:Yj} {a:Ww} {id:Nat} {w:Wo} {y:Qu} {k k':Int} {z:Ww} (o:Qs.Ow H v a) (nd:(Qs.ids v).Nodup) (hid:id<H.length) (hn:id∉Qs.ids v) (c:Qp H J []) (b:J[id]? = some ⟨Qg v a,0,51⟩)
 (ow:Qe.Ow J w y) (dw:(Qe.ids w).Nodup) (mw:∀i∈Qe.ids w,i∈Qe.ids v.1∨H.length≤i) (e:z=(y,a.2)) (ek:k'=k) :
 Mc H v id z k' (.int .i64 k) (J.set id ⟨Qg (w,v.2) (y,a.2),0,51⟩):=by
 subst e ek
 have hlt:=Qs.lt o
 obtain ⟨n1,n2,n3⟩:=List.nodup_append.1 nd
 have cs:Qp J (J.set id ⟨Qg (w,v.2) (y,a.2),0,51⟩) [id]:=Qn _ _
 have hw:id∉Qe.ids w:=fun hh=>by
  rcases mw id hh with h|h
  ·exact hn (List.mem_append_left _ h)
  ·omega
 refine ⟨rfl,(w,v.2),Qq b,⟨Dt.chg (T:=Qe) ow cs (fun i hi hh=>by simp at hh;exact hw (hh▸hi)),Dt.chg (T:=Ov) (Dt.chg (T:=Ov) o.2 c (by simp)) cs (fun i hi hh=>by simp at hh;exact hn (List.mem_append_right _ (hh▸hi)))⟩,?_,fun i hi=>?_,(c.mono (fun _ h=>by cases h)).trans cs⟩
 ·refine List.nodup_append.2 ⟨dw,n2,fun x hx z hz e=>?_⟩
  subst e
  rcases mw x hx with h|h
  ·exact n3 x h x hz rfl
  ·have:=hlt x (List.mem_append_right _ hz);omega
 ·rcases List.mem_append.1 hi with h|h
  ·exact (mw i h).imp (fun h=>List.mem_append_left _ h) _root_.id
  ·exact .inl (List.mem_append_right _ h)
theorem xd {H J:Qd} {v w:Yj} {y z:Ww} {id:Nat} {k k':Int} {r:Row} (hid:id<H.length) (c:Qp H J []) (b:J[id]? = some r) (ow:Qs.Ow J w y) (dw:(Qs.ids w).Nodup) (mw:∀i∈Qs.ids w,H.length≤i) (e:z=y) (ek:k'=k) :
 Mc H v id z k' (.int .i64 k) (J.set id ⟨Qg w y,0,51⟩):=by
 subst e ek
 exact ⟨rfl,w,Qq b,Dt.chg (T:=Qs) ow (Qn _ _) (fun i hi hh=>by have:=mw i hi;simp at hh;omega),dw,fun i hi=>.inr (mw i hi),(c.mono (fun _ h=>by cases h)).trans (Qn _ _)⟩
theorem Mc.mono {G J:Qd} {v:Yj} {id:Nat} {y:Ww} {k:Int} {r:Value} (h:Mc G v id y k r J) (c:Qp H G []):Mc H v id y k r J:=by
 obtain ⟨h1,w,h2,h3,h4,h5,h6⟩:=h
 exact ⟨h1,w,h2,h3,h4,fun i hi=>(h5 i hi).imp _root_.id (fun h=>by have:=c.1;omega),(c.mono (fun _ h=>by cases h)).trans h6⟩
theorem Qp7 {v:Yj} {a:Ww} {id:Nat} {k p q r s:Int} (hr:H[id]? = some ⟨Qg v a,0,51⟩) (o:Qs.Ow H v a) (nd:(Qs.ids v).Nodup) (hid:id∉Qs.ids v) (hfi:frz≤id) (hfH:frz≤H.length) (hc:Xq a) (ha:Ol k p q r s) (h9:Xf 66000000 a.1.2.2.2.2.2.2.1) :
 wp (Qh C frz 80 [.pointer (some ⟨id,0,some 0⟩),.agg #[.int .i64 k,.int .i64 p,.int .i64 q,.int .i64 r,.int .i64 s]] H) (Mc H v id (Tu a k p q r s).1 (Tu a k p q r s).2):=by
 have oneA:=Q8 o
 have ones:=oneA.1
 have Wi:=oneA.2
 have hidl:=Wj hr
 rw [Qb (fn:=Tryz.f80) Tryz.func80 rfl (by kernel_rfl) rfl]
 obtain ⟨G,hG⟩:∃G,G=H++[⟨[.int .i64 k,.int .i64 p,.int .i64 q,.int .i64 r,.int .i64 s],0,79⟩]:=⟨_,rfl⟩
 have cG:Qp H G []:=by rw [hG];exact Qp.app _
 have lG:G.length=H.length+1:=by rw [hG];simp
 have bA:G[H.length]? = some ⟨[.int .i64 k,.int .i64 p,.int .i64 q,.int .i64 r,.int .i64 s],0,79⟩:=by rw [hG];simp
 have hGs:=hG.symm
 simp
 rw [hGs]
 clear hG hGs
 have bC:=Qa hr cG (by simp)
 have oG:=Dt.chg (T:=Qs) o cG (by simp)
 have hidG:id<G.length:=by omega
 have bC':=bC
 unfold Qg Qc at bC'
 simp only [List.cons_append,List.nil_append] at bC'
 have n1:=(List.nodup_append.1 nd).1
 by_cases k1:k=1
 ·have e1:Tu a k p q r s=(Yu a p q r s,if Xk a (Xu a p q r s) then ((Yu a p q r s).2.length:Int) else 0):=if_pos k1
  have cs:=Qac (frz:=frz) (q2:=p) (q3:=q) (q4:=r) (q5:=s) oG
  simp only [Qo] at cs
  rw [e1]
  simp [VM.look,bA,k1]
  rw [Qv (h:=by kernel_rfl)]
  simp [VM.look,VM.vnil,bA,bC',ones,Wi]
  refine Ql cs ?_
  rintro _ J ⟨_,rfl,w,rfl,ow,cw,mw,dw⟩
  obtain ⟨y,hy⟩:∃y,y=Yu a p q r s:=⟨_,rfl⟩
  rw [← hy] at ow
  have onw:=Q8 ow
  have bJ:=Qa bC cw (by simp)
  have gC:=Qq (r':=⟨Qg w y,0,51⟩) bJ
  have cS:Qp J (J.set id ⟨Qg w y,0,51⟩) [id]:=Qn _ _
  have hidw:id∉Qs.ids w:=fun hh=>by have:=mw _ hh;omega
  have ln:=(Dt.chg (T:=Ov) ow.2 cS (fun i hi hh=>hidw (List.mem_append_right _ (by simp at hh;exact hh▸hi)))).1.rd.len (P:=Tryz.prog) (ty:=49) (by simp)
  have hb:=ow.2.2
  have fl:=fun F H=>vx (frz:=F) (H:=H)
  obtain ⟨B,hB⟩:∃B,B=decide (Xk a (Xu a p q r s)):=⟨_,rfl⟩
  have hM:=(xd (v:=v) (z:=y) (k:=if B then (y.2.length:Int) else 0) hidG cw bJ ow dw mw rfl rfl).mono cG
  have hq:(if Xk a (Xu a p q r s) then (y.2.length:Int) else 0)=if B then (y.2.length:Int) else 0:=by rw [hB];by_cases g:Xk a (Xu a p q r s)<;>simp [g]
  rw [← hB,← hy,hq]
  have w1:∀[Inhabited Unit],IntKind.i64.wrap (y.2.length:Int)=y.2.length:=by intro _;exact Q0 (by omega) (by omega)
  unfold Qg Qc at bJ gC ln hM
  simp only [List.cons_append,List.nil_append] at bJ gC ln hM
  simp [Qo,← hy,VM.look,VM.vnil,bJ,onw,hfi]
  rw [Qv (h:=by kernel_rfl)]
  have w0:∀[Inhabited Unit],IntKind.i64.wrap 0=0:=by intro _;exact Q0 (by omega) (by omega)
  cases B<;>simp [VM.look,VM.vnil,gC,onw,fl,ln,w1,w0]<;>simpa using hM
 by_cases k2:k=2
 ·have e1:Tu a k p q r s=(Yk a p,(Xo (Yk a p).1.2.2.1:Int)+Xo (Yk a p).1.2.2.2.2.2.1):=by unfold Tu;rw [if_neg k1,if_pos k2]
  have cs:=Qds (frz:=frz) (k:=p) oG h9
  simp only [Qo] at cs
  rw [e1]
  simp [VM.look,bA,k1,k2]
  rw [Qv (h:=by kernel_rfl)]
  simp [VM.look,VM.vnil,bA,bC',ones,Wi]
  refine Ql cs ?_
  rintro _ J ⟨_,rfl,w,rfl,ow,cw,mw,dw⟩
  obtain ⟨y,hy⟩:∃y,y=Yk a p:=⟨_,rfl⟩
  rw [← hy] at ow
  have onw:=Q8 ow
  have bJ:=Qa bC cw (by simp)
  have gC:=Qq (r':=⟨Qg w y,0,51⟩) bJ
  have cS:Qp J (J.set id ⟨Qg w y,0,51⟩) [id]:=Qn _ _
  have hidw:id∉Qs.ids w:=fun hh=>by have:=mw _ hh;omega
  have oS:=Dt.chg (T:=Qe) ow.1 cS (fun i hi hh=>hidw (List.mem_append_left _ (by simp at hh;exact hh▸hi)))
  have f1:=fun F=>Mb (frz:=F) oS.2.2.1
  have f2:=fun F=>Mb (frz:=F) oS.2.2.2.2.2.1
  have z1:=K8 y.1.2.2.1 ow.1.2.2.1.2.1 ow.1.2.2.1.2.2
  have z2:=K8 y.1.2.2.2.2.2.1 ow.1.2.2.2.2.2.1.2.1 ow.1.2.2.2.2.2.1.2.2
  have w1:∀[Inhabited Unit],IntKind.i64.wrap ((Xo y.1.2.2.1:Int)+(Xo y.1.2.2.2.2.2.1:Int))=(Xo y.1.2.2.1:Int)+Xo y.1.2.2.2.2.2.1:=by intro _;exact Q0 (by omega) (by omega)
  have hM:=(xd (v:=v) (z:=y) (k:=(Xo y.1.2.2.1:Int)+Xo y.1.2.2.2.2.2.1) hidG cw bJ ow dw mw rfl rfl).mono cG
  rw [← hy]
  unfold Qg Qc at bJ gC f1 f2 hM
  simp only [List.cons_append,List.nil_append] at bJ gC f1 f2 hM
  simp [Qo,← hy,VM.look,VM.vnil,bJ,onw,hfi]
  rw [Qv (h:=by kernel_rfl)]
  simp [VM.look,VM.vnil,gC,onw,f1,f2,w1]
  simpa using hM
 by_cases k3:k=3
 ·have e1:Tu a k p q r s=((Ux a.1,a.2),X8 a.1):=by unfold Tu;rw [if_neg k1,if_neg k2,if_pos k3]
  have cs:=Qe6 (frz:=frz) oG.1 h9
  simp only [Qk] at cs
  rw [e1]
  simp [VM.look,VM.vnil,bA,bC',ones,Wi,k1,k2,k3]
  refine Ql cs ?_
  rintro _ J ⟨_,rfl,w,rfl,ow,cw,mw,dw⟩
  obtain ⟨y,hy⟩:∃y,y=Ux a.1:=⟨_,rfl⟩
  rw [← hy] at ow
  have onw:=Qr ow
  have lJ:=cw.1
  have hFJ:frz≤J.length:=by omega
  obtain ⟨J2,hJ2⟩:∃J2,J2=J++[⟨Qc w y,0,48⟩]:=⟨_,rfl⟩
  have c2:Qp J J2 []:=by rw [hJ2];exact Qp.app _
  have bN:J2[J.length]? = some ⟨Qc w y,0,48⟩:=by rw [hJ2];simp
  have bJ:=Qa (Qa bC cw (by simp)) c2 (by simp)
  have ow2:=Dt.chg (T:=Qe) ow c2 (by simp)
  have hM:=(Eb (k:=X8 a.1) oG nd hidG hid (cw.trans c2) bJ ow2 dw (fun i hi=>.inr (mw i hi)) (z:=(y,a.2)) rfl rfl).mono cG
  have hJs:=hJ2.symm
  rw [← hy]
  unfold Qg Qc at bJ hM
  unfold Qc at bN hJs
  simp only [List.cons_append,List.nil_append] at bJ hM
  simp [Qk,← hy,onw,hFJ]
  rw [hJs]
  clear hJ2 hJs
  simp [VM.look,VM.vnil,bN,bJ,onw,hfi]
  simpa using hM
 by_cases k4:k=4
 ·have e1:Tu a k p q r s=((Ch a.1 p,a.2),if Y1 a.1 p then 1 else 0):=by unfold Tu;rw [if_neg k1,if_neg k2,if_neg k3,if_pos k4]
  have cs:=Qcz (frz:=frz) (c:=p) oG.1
  simp only [Qk] at cs
  rw [e1]
  simp [VM.look,VM.vnil,bA,k1,k2,k3,k4]
  rw [Qv (h:=by kernel_rfl)]
  simp [VM.look,VM.vnil,bA,bC',ones,Wi]
  refine Ql cs ?_
  rintro _ J ⟨_,rfl,w,rfl,ow,cw,mw,dw⟩
  obtain ⟨y,hy⟩:∃y,y=Ch a.1 p:=⟨_,rfl⟩
  rw [← hy] at ow
  have onw:=Qr ow
  have bJ:=Qa bC cw (by simp)
  have fl:=fun F H=>vx (frz:=F) (H:=H)
  obtain ⟨B,hB⟩:∃B,B=decide (Y1 a.1 p):=⟨_,rfl⟩
  have hM:=(Eb (k:=if B then (1:Int) else 0) oG nd hidG hid cw bJ ow dw (fun i hi=>.inr (mw i hi)) (z:=(y,a.2)) rfl rfl).mono cG
  have hq:(if Y1 a.1 p then (1:Int) else 0)=if B then 1 else 0:=by rw [hB];by_cases g:Y1 a.1 p<;>simp [g]
  rw [← hB,← hy,hq]
  unfold Qg Qc at bJ hM
  simp only [List.cons_append,List.nil_append] at bJ hM
  cases B<;>simp [Qk,← hy,VM.look,VM.vnil,bJ,onw,hfi,fl]<;>simpa using hM
 have hk5:k=5∧Xa 1 p 4∧Xa 1 q 4:=by
  unfold Ol at ha
  rw [if_neg k1,if_neg k2,if_neg k3,if_neg k4] at ha
  exact ⟨ha.1,ha.2.1,ha.2.2.1⟩
 obtain ⟨k5,hp,hq'⟩:=hk5
 have e1:Tu a k p q r s=((Th a.1 p q,a.2),if Zk a.1 p q then 1 else 0):=by unfold Tu;rw [if_neg k1,if_neg k2,if_neg k3,if_neg k4]
 have cs:=Qh6 (frz:=frz) hp hq' hc.1.1.1.1.1.2 oG.1 n1
 simp only [Qk] at cs
 rw [e1]
 simp [VM.look,VM.vnil,bA,k1,k2,k3,k4,k5]
 rw [Qv (h:=by kernel_rfl)]
 simp [VM.look,VM.vnil,bA,bC',ones,Wi]
 refine Ql cs ?_
 rintro _ J ⟨w,rfl,ow,dw,mw,cw⟩
 obtain ⟨y,hy⟩:∃y,y=Th a.1 p q:=⟨_,rfl⟩
 rw [← hy] at ow
 have onw:=Qr ow
 have bJ:=Qa bC cw (by simp)
 have fl:=fun F H=>vx (frz:=F) (H:=H)
 obtain ⟨B,hB⟩:∃B,B=decide (Zk a.1 p q):=⟨_,rfl⟩
 have hM:=(Eb (k:=if B then (1:Int) else 0) oG nd hidG hid cw bJ ow dw mw (z:=(y,a.2)) rfl rfl).mono cG
 have hq:(if Zk a.1 p q then (1:Int) else 0)=if B then 1 else 0:=by rw [hB];by_cases g:Zk a.1 p q<;>simp [g]
 rw [← hB,← hy,hq]
 unfold Qg Qc at bJ hM
 simp only [List.cons_append,List.nil_append] at bJ hM
 cases B<;>simp [Qk,← hy,VM.look,VM.vnil,bJ,onw,hfi,fl]<;>simpa using hM
def acts (a:Ww) (k p q r s:Int):Prop:=Xq a∧Ol k p q r s
instance (a:Ww) (k p q r s:Int):Decidable (acts a k p q r s):=inferInstanceAs (Decidable (_∧_))
noncomputable def Tg (a:Ww) (k p q r s:Int):Ww×Int:=if acts a k p q r s then Tu a k p q r s else (a,-1)
def F9 (H:Qd) (y:Ww) (k:Int) (r:Value) (H':Qd):Prop:=∃u,r=.tuple #[u,.int .i64 k]∧Qs.Made H y u H'
theorem Bm {K:Qd} {n:Yj} {y z:Ww} {k k':Int} {r:Row} (o:Qs.Ow K n y) (c:Qp H K []) (m:∀i∈Qs.ids n,H.length+3≤i) (d:(Qs.ids n).Nodup) (e1:z=y) (e2:k'=k) :
 F9 H z k' (.tuple #[Qs.val n y,.int .i64 k]) (K.set (H.length+2) r):=by
 subst e1 e2
 exact ⟨Qs.val n z,rfl,n,rfl,Dt.chg (T:=Qs) o (Qn _ _) (fun i hi hh=>by have:=m i hi;simp at hh;omega),c.trans' (Qn _ _) (fun i hi=>.inr (by simp at hi;omega)),fun i hi=>by have:=m i hi;omega,d⟩
theorem Qhv {v:Yj} {a:Ww} {k p q r s:Int} (o:Qs.Ow H v a) (h9:Xf 66000000 a.1.2.2.2.2.2.2.1) :
 wp (Qh C frz 36 [Qs.val v a,.agg #[.int .i64 k,.int .i64 p,.int .i64 q,.int .i64 r,.int .i64 s]] H) (F9 H (Tg a k p q r s).1 (Tg a k p q r s).2):=by
 have oneA:=Q8 o
 have ones:=oneA.1
 have Wi:=oneA.2
 have ecopy:=fun K (c:Qp H K [])=>Od (frz:=H.length) (H:=K) (v:=v) (a:=a) (Dt.chg (T:=Qs) o c (by simp))
 have ck:=fun F K (c:Qp H K [])=>Kz (frz:=F) (H:=K) (v:=v) (a:=a) (Dt.chg (T:=Qs) o c (by simp))
 have ao:=fun F H=>Qip (frz:=F) (H:=H) k p q r s
 simp only [Qo] at ecopy ck ⊢
 rw [Qb (fn:=Tryz.f36) Tryz.func36 rfl (by kernel_rfl) rfl]
 obtain ⟨G,hG⟩:∃G,G=H++[⟨Qg v a,0,51⟩,⟨[.int .i64 k,.int .i64 p,.int .i64 q,.int .i64 r,.int .i64 s],0,79⟩,⟨X5,0,51⟩]:=⟨_,rfl⟩
 have cG:Qp H G []:=by rw [hG];exact Qp.app _
 have b0:G[H.length]? = some ⟨Qg v a,0,51⟩:=by rw [hG];simp
 have bA:G[H.length+1]? = some ⟨[.int .i64 k,.int .i64 p,.int .i64 q,.int .i64 r,.int .i64 s],0,79⟩:=by rw [hG];simp
 have bR:G[H.length+2]? = some ⟨X5,0,51⟩:=by rw [hG];simp
 have lG:G.length=H.length+3:=by rw [hG];simp
 have hGs:=hG.symm
 unfold Qg Qc X5 at hGs
 simp only [List.cons_append,List.nil_append] at hGs
 simp [ones,Wi]
 rw [hGs]
 clear hG hGs
 have b0':=b0
 unfold Qg Qc at b0'
 simp only [List.cons_append,List.nil_append] at b0'
 try simp [VM.look,b0',ones,Wi]
 refine Ql (ecopy G cG) ?_
 rintro _ K ⟨n,rfl,on,cn,mn,dn⟩
 have cK:Qp H K []:=cG.trans cn
 have b0:=Qa b0 cn (by simp)
 have bA:=Qa bA cn (by simp)
 have bR:=Qa bR cn (by simp)
 have oneN:=Q8 on
 have qn:=oneN.1
 have qn2:=oneN.2
 have lK:=cn.1
 have hFK:H.length≤K.length:=by omega
 obtain ⟨K2,hK2⟩:∃K2,K2=K++[⟨Qg n a,0,51⟩]:=⟨_,rfl⟩
 have c12:Qp K K2 []:=by rw [hK2];exact Qp.app _
 have cK2:=cK.trans c12
 have l2:K2.length=K.length+1:=by rw [hK2];simp
 have b0:=Qa b0 c12 (by simp)
 have bA:=Qa bA c12 (by simp)
 have bR:=Qa bR c12 (by simp)
 have bC:K2[K.length]? = some ⟨Qg n a,0,51⟩:=by rw [hK2];simp
 have on2:=Dt.chg (T:=Qs) on c12 (by simp)
 have hF:H.length≤H.length+2:=by omega
 have mn':∀i∈Qs.ids n,H.length+3≤i:=fun i hi=>by have:=mn i hi;omega
 have ltn:∀i∈Qs.ids n,i<K.length:=fun i hi=>Qs.lt on i hi
 have hKs:=hK2.symm
 unfold Qg Qc at hKs
 simp only [List.cons_append,List.nil_append] at hKs
 simp [Qo,VM.look,qn,qn2,hFK]
 rw [hKs]
 clear hK2 hKs
 have ck':=fun F=>ck F K2 cK2
 have b0':=b0
 have bC':=bC
 unfold Qg Qc at b0' bC'
 simp only [List.cons_append,List.nil_append] at b0' bC'
 have gR:=Qq (r':=⟨Qg n a,0,51⟩) bR
 have bad:¬acts a k p q r s→F9 H (Tg a k p q r s).1 (Tg a k p q r s).2 (.tuple #[Qs.val n a,.int .i64 (-1)]) (K2.set (H.length+2) ⟨Qg n a,0,51⟩):=fun hb=>by
  have e:Tg a k p q r s=(a,-1):=if_neg hb
  rw [e]
  exact Bm on2 cK2 mn' dn rfl rfl
 have bR':=bR
 unfold X5 at bR'
 unfold Qg Qc at gR bad
 simp only [List.cons_append,List.nil_append] at gR bad
 by_cases g0:Xq a
 rotate_left
 ·have hM:=bad (fun h=>g0 h.1)
  simp [VM.look,b0',ones,Wi,ck',g0,bC',qn,qn2,bR',gR,hF]
  simpa [Qo] using hM
 by_cases g1:Ol k p q r s
 rotate_left
 ·have hM:=bad (fun h=>g1 h.2)
  simp [VM.look,b0',ones,Wi,ck',g0,bA,ao,g1,bC',qn,qn2,bR',gR,hF]
  simpa [Qo] using hM
 have e:Tg a k p q r s=Tu a k p q r s:=if_pos ⟨g0,g1⟩
 have ac:=Qp7 (frz:=H.length) (id:=K.length) bC on2 dn (fun hh=>by have:=ltn _ hh;omega) hFK (by omega) g0 g1 h9
 rw [e]
 simp [VM.look,b0',ones,Wi,ck',g0,bA,ao,g1]
 refine Ql ac ?_
 rintro _ J ⟨rfl,w,bJ,ow,dw,mw,cw⟩
 obtain ⟨y,hy⟩:∃y,y=(Tu a k p q r s).1:=⟨_,rfl⟩
 obtain ⟨m,hm⟩:∃m,m=(Tu a k p q r s).2:=⟨_,rfl⟩
 rw [← hy] at bJ ow ⊢
 rw [← hm]
 have onw:=Q8 ow
 have bRJ:=Qa bR cw (by simp;omega)
 have gJ:=Qq (r':=⟨Qg w y,0,51⟩) bRJ
 have hM:=Bm (H:=H) (z:=y) (k:=m) (r:=⟨Qg w y,0,51⟩) ow (cK2.trans' cw (fun i hi=>.inr (by simp at hi;omega))) (fun i hi=>by
  rcases mw i hi with h|h
  ·exact mn' i h
  ·omega) dw rfl rfl
 unfold X5 at bRJ
 unfold Qg Qc at bJ gJ hM
 simp only [List.cons_append,List.nil_append] at bJ gJ hM
 simp [VM.look,bJ,bRJ,gJ,onw,hF]
 simpa [Qo] using hM
theorem Cc {a:Ww} (h:Xq a) (k:Int):W9 (Yk a k).1:=by
 unfold Yk
 rw [if_pos h]
 show W9 (Vz a.1 k)
 unfold Vz
 split
 ·rename_i g
  have:=g.2.2
  have:=g.2.1.1
  exact Bo h.1 _ (by omega)
 ·exact h.1
theorem Qc6 {v:Wo} {x:Qu} (h:W9 x) (o:Qe.Ow H v x):Qh C frz 64 [Qe.val v x] H=some (.int .i64 (Xo x.2.2.1),H):=by
 refine wp.exact (by simp) ?_ rfl
 have ones:=Qr o
 have nk:=fun F L=>T1 (frz:=F) (H:=H++L) (v:=v) (x:=x) (Dt.app (T:=Qe) o)
 have f1:=fun F L=>Ls (frz:=F) (H:=H++L) (Dt.app (T:=Qt) o.2.2.1)
 simp only [Qk] at nk ⊢
 rw [Qb (fn:=Tryz.f64) Tryz.func64 rfl (by kernel_rfl) rfl]
 simp [ones,VM.look,nk,h,f1]
theorem Qav {v:Wo} {x:Qu} (h:W9 x) (o:Qe.Ow H v x):Qh C frz 65 [Qe.val v x] H=some (.int .i64 (Xo x.2.2.2.2.2.1),H):=by
 refine wp.exact (by simp) ?_ rfl
 have ones:=Qr o
 have nk:=fun F L=>T1 (frz:=F) (H:=H++L) (v:=v) (x:=x) (Dt.app (T:=Qe) o)
 have f1:=fun F L=>Ls (frz:=F) (H:=H++L) (Dt.app (T:=Qt) o.2.2.2.2.2.1)
 simp only [Qk] at nk ⊢
 rw [Qb (fn:=Tryz.f65) Tryz.func65 rfl (by kernel_rfl) rfl]
 simp [ones,VM.look,nk,h,f1]
theorem Qf3 {v:Yj} {a:Ww} {k p q r s:Int} (o:Qs.Ow H v a) (h9:Xf 66000000 a.1.2.2.2.2.2.2.1) :
 wp (Qh C frz 30 [Qs.val v a,.agg #[.int .i64 k,.int .i64 p,.int .i64 q,.int .i64 r,.int .i64 s]] H) (F9 H (Tg a k p q r s).1 (Tg a k p q r s).2):=by
 have oneA:=Q8 o
 have ones:=oneA.1
 have Wi:=oneA.2
 have ecopy:=fun K (c:Qp H K [])=>Ma (frz:=H.length) (H:=K) (v:=v) (a:=a) (Dt.chg (T:=Qs) o c (by simp))
 have ck:=fun F K (c:Qp H K [])=>N5 (frz:=F) (H:=K) (v:=v) (a:=a) (Dt.chg (T:=Qs) o c (by simp))
 have ao:=fun F H=>Qer (frz:=F) (H:=H) k p q r s
 simp only [Qo] at ecopy ck ⊢
 rw [Qb (fn:=Tryz.f30) Tryz.func30 rfl (by kernel_rfl) rfl]
 obtain ⟨G,hG⟩:∃G,G=H++[⟨Qg v a,0,51⟩,⟨[.int .i64 k,.int .i64 p,.int .i64 q,.int .i64 r,.int .i64 s],0,79⟩,⟨X5,0,51⟩]:=⟨_,rfl⟩
 have cG:Qp H G []:=by rw [hG];exact Qp.app _
 have b0:G[H.length]? = some ⟨Qg v a,0,51⟩:=by rw [hG];simp
 have bA:G[H.length+1]? = some ⟨[.int .i64 k,.int .i64 p,.int .i64 q,.int .i64 r,.int .i64 s],0,79⟩:=by rw [hG];simp
 have bR:G[H.length+2]? = some ⟨X5,0,51⟩:=by rw [hG];simp
 have lG:G.length=H.length+3:=by rw [hG];simp
 have hGs:=hG.symm
 unfold Qg Qc X5 at hGs
 simp only [List.cons_append,List.nil_append] at hGs
 simp [ones,Wi]
 rw [hGs]
 clear hG hGs
 have b0':=b0
 unfold Qg Qc at b0'
 simp only [List.cons_append,List.nil_append] at b0'
 try simp [VM.look,b0',ones,Wi]
 refine Ql (ecopy G cG) ?_
 rintro _ K ⟨n,rfl,on,cn,mn,dn⟩
 have cK:Qp H K []:=cG.trans cn
 have b0:=Qa b0 cn (by simp)
 have bA:=Qa bA cn (by simp)
 have bR:=Qa bR cn (by simp)
 have oneN:=Q8 on
 have qn:=oneN.1
 have qn2:=oneN.2
 have lK:=cn.1
 have hFK:H.length≤K.length:=by omega
 obtain ⟨K2,hK2⟩:∃K2,K2=K++[⟨Qg n a,0,51⟩]:=⟨_,rfl⟩
 have c12:Qp K K2 []:=by rw [hK2];exact Qp.app _
 have cK2:=cK.trans c12
 have l2:K2.length=K.length+1:=by rw [hK2];simp
 have b0:=Qa b0 c12 (by simp)
 have bA:=Qa bA c12 (by simp)
 have bR:=Qa bR c12 (by simp)
 have bC:K2[K.length]? = some ⟨Qg n a,0,51⟩:=by rw [hK2];simp
 have on2:=Dt.chg (T:=Qs) on c12 (by simp)
 have hF:H.length≤H.length+2:=by omega
 have mn':∀i∈Qs.ids n,H.length+3≤i:=fun i hi=>by have:=mn i hi;omega
 have ltn:∀i∈Qs.ids n,i<K.length:=fun i hi=>Qs.lt on i hi
 have hKs:=hK2.symm
 unfold Qg Qc at hKs
 simp only [List.cons_append,List.nil_append] at hKs
 simp [Qo,VM.look,qn,qn2,hFK]
 rw [hKs]
 clear hK2 hKs
 have ck':=fun F=>ck F K2 cK2
 have b0':=b0
 have bC':=bC
 unfold Qg Qc at b0' bC'
 simp only [List.cons_append,List.nil_append] at b0' bC'
 have gR:=Qq (r':=⟨Qg n a,0,51⟩) bR
 have bad:¬acts a k p q r s→F9 H (Tg a k p q r s).1 (Tg a k p q r s).2 (.tuple #[Qs.val n a,.int .i64 (-1)]) (K2.set (H.length+2) ⟨Qg n a,0,51⟩):=fun hb=>by
  have e:Tg a k p q r s=(a,-1):=if_neg hb
  rw [e]
  exact Bm on2 cK2 mn' dn rfl rfl
 have bR':=bR
 unfold X5 at bR'
 unfold Qg Qc at gR bad
 simp only [List.cons_append,List.nil_append] at gR bad
 by_cases g0:Xq a
 rotate_left
 ·have hM:=bad (fun h=>g0 h.1)
  simp [VM.look,b0',ones,Wi,ck',g0,bC',qn,qn2,bR',gR,hF]
  simpa [Qo] using hM
 by_cases g1:Ol k p q r s
 rotate_left
 ·have hM:=bad (fun h=>g1 h.2)
  simp [VM.look,b0',ones,Wi,ck',g0,bA,ao,g1,bC',qn,qn2,bR',gR,hF]
  simpa [Qo] using hM
 have e:Tg a k p q r s=Tu a k p q r s:=if_pos ⟨g0,g1⟩
 rw [e]
 clear bad e
 have oC:=Dt.chg (T:=Qs) o cK2 (by simp)
 have fl:=fun F H=>Qes (frz:=F) (H:=H)
 simp [VM.look,b0',ones,Wi,ck',g0,bA,ao,g1]
 -- a chip that is handed back
 have Qqm:∀(J:Qd) (w:Yj) (y:Ww) (m:Int) (L:Qd),Qs.Ow J w y→Qp K2 J []→(∀i∈Qs.ids w,K2.length≤i)→(Qs.ids w).Nodup→F9 H y m (.tuple #[Qs.val w y,.int .i64 m]) ((J++L).set (H.length+2) ⟨Qg w y,0,51⟩):=fun J w y m L ow cw mw dw=>
  Bm (Dt.app (T:=Qs) ow) ((cK2.trans cw).trans (Qp.app _)) (fun i hi=>by have:=mw i hi;omega) dw rfl rfl
 -- a network that is put into the copy
 have Qkp:∀(J:Qd) (w:Wo) (y:Qu) (m:Int),Qe.Ow J w y→Qp K2 J []→(∀i∈Qe.ids w,K2.length≤i)→(Qe.ids w).Nodup→F9 H (y,a.2) m (.tuple #[Qs.val (w,n.2) (y,a.2),.int .i64 m]) ((J.set K.length ⟨Qg (w,n.2) (y,a.2),0,51⟩).set (H.length+2) ⟨Qg (w,n.2) (y,a.2),0,51⟩):=fun J w y m ow cw mw dw=>by
  have cS:Qp J (J.set K.length ⟨Qg (w,n.2) (y,a.2),0,51⟩) [K.length]:=Qn _ _
  have h2:∀i∈VM.ids n.2,H.length+3≤i∧i<K.length:=fun i hi=>⟨mn' i (List.mem_append_right _ hi),ltn i (List.mem_append_right _ hi)⟩
  refine Bm (n:=(w,n.2)) (y:=(y,a.2)) ⟨Dt.chg (T:=Qe) ow cS (fun i hi hh=>by have:=mw i hi;simp at hh;omega),Dt.chg (T:=Ov) (Dt.chg (T:=Ov) on2.2 cw (by simp)) cS (fun i hi hh=>by have:=(h2 i hi).2;simp at hh;omega)⟩ ((cK2.trans cw).trans' cS (fun i hi=>.inr (by simp at hi;omega))) (fun i hi=>?_) ?_ rfl rfl
  ·rcases List.mem_append.1 hi with h|h
   ·have:=mw i h;omega
   ·exact (h2 i h).1
  ·refine List.nodup_append.2 ⟨dw,(List.nodup_append.1 dn).2.1,fun x hx z hz e=>?_⟩
   subst e
   have:=mw x hx
   have:=(h2 x hz).2
   omega
 by_cases k1:k=1
 ·have e1:Tu a k p q r s=(Yu a p q r s,if Xk a (Xu a p q r s) then ((Yu a p q r s).2.length:Int) else 0):=if_pos k1
  have cs:=xg (frz:=H.length) (q2:=p) (q3:=q) (q4:=r) (q5:=s) oC
  simp only [Qo] at cs
  rw [e1]
  simp [VM.look,bA,b0',ones,Wi,k1]
  refine Ql cs ?_
  rintro _ J ⟨_,rfl,w,rfl,ow,cw,mw,dw⟩
  obtain ⟨y,hy⟩:∃y,y=Yu a p q r s:=⟨_,rfl⟩
  rw [← hy] at ow
  have onw:=Q8 ow
  have lJ:=cw.1
  have hFJ:H.length≤J.length:=by omega
  obtain ⟨J2,hJ2⟩:∃J2,J2=J++[⟨Qg w y,0,51⟩]:=⟨_,rfl⟩
  have bW:J2[J.length]? = some ⟨Qg w y,0,51⟩:=by rw [hJ2];simp
  have bRJ:J2[H.length+2]? = some ⟨X5,0,51⟩:=by rw [hJ2];exact Qj (Qa bR cw (by simp)) _
  have gJ:=Qq (r':=⟨Qg w y,0,51⟩) bRJ
  have o2:Qs.Ow J2 w y:=by rw [hJ2];exact Dt.app (T:=Qs) ow
  have ln:=o2.2.1.rd.len (P:=Tryz.prog) (ty:=49) (by simp)
  have hb:=ow.2.2
  have w1:∀[Inhabited Unit],IntKind.i64.wrap (y.2.length:Int)=y.2.length:=by intro _;exact Q0 (by omega) (by omega)
  have w0:∀[Inhabited Unit],IntKind.i64.wrap 0=0:=by intro _;exact Q0 (by omega) (by omega)
  obtain ⟨B,hB⟩:∃B,B=decide (Xk a (Xu a p q r s)):=⟨_,rfl⟩
  have hq:(if Xk a (Xu a p q r s) then (y.2.length:Int) else 0)=if B then (y.2.length:Int) else 0:=by rw [hB];by_cases g:Xk a (Xu a p q r s)<;>simp [g]
  have hM:=Qqm J w y (if B then (y.2.length:Int) else 0) [⟨Qg w y,0,51⟩] ow cw mw dw
  rw [← hJ2] at hM
  have hJs:=hJ2.symm
  rw [← hB,← hy,hq]
  unfold X5 at bRJ
  unfold Qg Qc at bW gJ hM hJs
  simp only [List.cons_append,List.nil_append] at bW gJ hM hJs
  simp [Qo,← hy,VM.look,onw,hFJ]
  rw [hJs]
  clear hJ2 hJs
  have bM:=Qa bW (Qn (H:=J2) (H.length+2) ⟨[.int .i64 y.1.1.1,.int .i64 y.1.1.2.1,w.1.1,w.1.2.1.1,w.1.2.1.2,w.1.2.2.1.1,w.1.2.2.2.1,w.1.2.2.2.2.1,w.1.2.2.2.2.2.1.1,w.1.2.2.2.2.2.2.1.1,.int .i64 y.1.2.2.2.2.2.2.2,w.2],0,51⟩) (by simp;omega)
  have lv2:=Xy o2.2.1
  have lv3:=Xy (Dt.chg (T:=Ov) o2.2 (Qn (H:=J2) (H.length+2) ⟨[.int .i64 y.1.1.1,.int .i64 y.1.1.2.1,w.1.1,w.1.2.1.1,w.1.2.1.2,w.1.2.2.1.1,w.1.2.2.2.1,w.1.2.2.2.2.1,w.1.2.2.2.2.2.1.1,w.1.2.2.2.2.2.2.1.1,.int .i64 y.1.2.2.2.2.2.2.2,w.2],0,51⟩) (fun i hi hh=>by have:=mw i (List.mem_append_right _ hi);simp at hh;omega)).1
  rw [V8 (fl:=([4],[])) (h:=⟨by kernel_rfl,by kernel_rfl,by kernel_rfl,by kernel_rfl⟩)]
  cases B<;>simp [Sd,Zi,Vs,VM.look,bW,bRJ,gJ,onw,fl,ln,w1,w0,hF,bM,lv2,lv3]<;>simpa [Qo] using hM
 by_cases k2:k=2
 ·have e1:Tu a k p q r s=(Yk a p,(Xo (Yk a p).1.2.2.1:Int)+Xo (Yk a p).1.2.2.2.2.2.1):=by unfold Tu;rw [if_neg k1,if_pos k2]
  have cs:=vk (frz:=H.length) (k:=p) oC h9
  have hnk:=Cc g0 p
  simp only [Qo] at cs
  rw [e1]
  simp [VM.look,bA,b0',ones,Wi,k1,k2]
  refine Ql cs ?_
  rintro _ J ⟨_,rfl,w,rfl,ow,cw,mw,dw⟩
  obtain ⟨y,hy⟩:∃y,y=Yk a p:=⟨_,rfl⟩
  rw [← hy] at ow hnk
  have onw:=Q8 ow
  have lJ:=cw.1
  have hFJ:H.length≤J.length:=by omega
  obtain ⟨J2,hJ2⟩:∃J2,J2=J++[⟨Qg w y,0,51⟩]:=⟨_,rfl⟩
  have bW:J2[J.length]? = some ⟨Qg w y,0,51⟩:=by rw [hJ2];simp
  have bRJ:J2[H.length+2]? = some ⟨X5,0,51⟩:=by rw [hJ2];exact Qj (Qa bR cw (by simp)) _
  have gJ:=Qq (r':=⟨Qg w y,0,51⟩) bRJ
  have o2:Qs.Ow J2 w y:=by rw [hJ2];exact Dt.app (T:=Qs) ow
  have f1:=fun F=>Qc6 (frz:=F) hnk o2.1
  have f2:=fun F=>Qav (frz:=F) hnk o2.1
  have z1:=K8 y.1.2.2.1 ow.1.2.2.1.2.1 ow.1.2.2.1.2.2
  have z2:=K8 y.1.2.2.2.2.2.1 ow.1.2.2.2.2.2.1.2.1 ow.1.2.2.2.2.2.1.2.2
  have w1:∀[Inhabited Unit],IntKind.i64.wrap ((Xo y.1.2.2.1:Int)+(Xo y.1.2.2.2.2.2.1:Int))=(Xo y.1.2.2.1:Int)+Xo y.1.2.2.2.2.2.1:=by intro _;exact Q0 (by omega) (by omega)
  have hM:=Qqm J w y ((Xo y.1.2.2.1:Int)+Xo y.1.2.2.2.2.2.1) [⟨Qg w y,0,51⟩] ow cw mw dw
  rw [← hJ2] at hM
  have hJs:=hJ2.symm
  rw [← hy]
  simp only [Qk] at f1 f2
  unfold X5 at bRJ
  unfold Qg Qc at bW gJ hM hJs
  simp only [List.cons_append,List.nil_append] at bW gJ hM hJs
  simp [Qo,← hy,VM.look,onw,hFJ]
  rw [hJs]
  clear hJ2 hJs
  rw [Qv (h:=by kernel_rfl)]
  simp [VM.look,bW,bRJ,gJ,onw,f1,f2,w1,hF]
  simpa [Qo] using hM
 by_cases k3:k=3
 ·have e1:Tu a k p q r s=((Ux a.1,a.2),X8 a.1):=by unfold Tu;rw [if_neg k1,if_neg k2,if_pos k3]
  have ss:=fun F=>wo (frz:=F) oC.1 h9
  have cs:=Qaj (frz:=H.length) oC.1 h9
  simp only [Qk] at cs ss
  rw [e1]
  simp [VM.look,bA,b0',ones,Wi,k1,k2,k3,ss]
  refine Ql cs ?_
  rintro _ J ⟨_,rfl,w,rfl,ow,cw,mw,dw⟩
  obtain ⟨y,hy⟩:∃y,y=Ux a.1:=⟨_,rfl⟩
  rw [← hy] at ow
  have onw:=Qr ow
  have bJ:=Qa bC cw (by simp)
  have bRJ:=Qa bR cw (by simp)
  have gC:=Qq (r':=⟨Qg (w,n.2) (y,a.2),0,51⟩) bJ
  have bR2:=Qa bRJ (Qn (H:=J) K.length ⟨Qg (w,n.2) (y,a.2),0,51⟩) (by simp;omega)
  have gJ:=Qq (r':=⟨Qg (w,n.2) (y,a.2),0,51⟩) bR2
  have hM:=Qkp J w y (X8 a.1) ow cw mw dw
  rw [← hy]
  unfold X5 at bR2
  unfold Qg Qc at bJ gC gJ hM bR2
  simp only [List.cons_append,List.nil_append] at bJ gC gJ hM bR2
  simp [Qk,← hy,VM.look,bJ,gC,bR2,gJ,onw,qn2,hF,hFK]
  simpa [Qo] using hM
 by_cases k4:k=4
 ·have e1:Tu a k p q r s=((Ch a.1 p,a.2),if Y1 a.1 p then 1 else 0):=by unfold Tu;rw [if_neg k1,if_neg k2,if_neg k3,if_pos k4]
  have cs:=mz (frz:=H.length) (c:=p) oC.1
  simp only [Qk] at cs
  rw [e1]
  simp [VM.look,bA,b0',ones,Wi,k1,k2,k3,k4]
  refine Ql cs ?_
  rintro _ J ⟨_,rfl,w,rfl,ow,cw,mw,dw⟩
  obtain ⟨y,hy⟩:∃y,y=Ch a.1 p:=⟨_,rfl⟩
  rw [← hy] at ow
  have onw:=Qr ow
  have lJ:=cw.1
  have hFJ:H.length≤J.length:=by omega
  obtain ⟨J2,hJ2⟩:∃J2,J2=J++[⟨Qc w y,0,48⟩]:=⟨_,rfl⟩
  have c2:Qp J J2 []:=by rw [hJ2];exact Qp.app _
  have bN:J2[J.length]? = some ⟨Qc w y,0,48⟩:=by rw [hJ2];simp
  have ow2:=Dt.chg (T:=Qe) ow c2 (by simp)
  have bJ:=Qa (Qa bC cw (by simp)) c2 (by simp)
  have bRJ:=Qa (Qa bR cw (by simp)) c2 (by simp)
  have gC:=Qq (r':=⟨Qg (w,n.2) (y,a.2),0,51⟩) bJ
  have bR2:=Qa bRJ (Qn (H:=J2) K.length ⟨Qg (w,n.2) (y,a.2),0,51⟩) (by simp;omega)
  have gJ:=Qq (r':=⟨Qg (w,n.2) (y,a.2),0,51⟩) bR2
  obtain ⟨B,hB⟩:∃B,B=decide (Y1 a.1 p):=⟨_,rfl⟩
  have hq:(if Y1 a.1 p then (1:Int) else 0)=if B then 1 else 0:=by rw [hB];by_cases g:Y1 a.1 p<;>simp [g]
  have hM:=Qkp J2 w y (if B then (1:Int) else 0) ow2 (cw.trans c2) mw dw
  have hJs:=hJ2.symm
  rw [← hB,← hy,hq]
  unfold X5 at bR2
  unfold Qg Qc at bJ gC gJ hM bR2
  unfold Qc at bN hJs
  simp only [List.cons_append,List.nil_append] at bJ gC gJ hM bR2
  simp [Qk,← hy,VM.look,onw,hFJ]
  rw [hJs]
  clear hJ2 hJs
  simp [VM.look,bN,bJ,gC,bR2,gJ,onw,qn2,hF,hFK]
  rw [Qv (h:=by kernel_rfl)]
  cases B<;>simp [VM.look,bN,bJ,gC,bR2,gJ,onw,qn2,hF,hFK,fl]<;>simpa [Qo] using hM
 have hk5:k=5∧Xa 1 p 4∧Xa 1 q 4:=by
  unfold Ol at g1
  rw [if_neg k1,if_neg k2,if_neg k3,if_neg k4] at g1
  exact ⟨g1.1,g1.2.1,g1.2.2.1⟩
 obtain ⟨k5,hp,hq'⟩:=hk5
 have e1:Tu a k p q r s=((Th a.1 p q,a.2),if Zk a.1 p q then 1 else 0):=by unfold Tu;rw [if_neg k1,if_neg k2,if_neg k3,if_neg k4]
 have ln:=oC.1.1.1.rd.len (P:=Tryz.prog) (ty:=24) (by simp)
 rw [e1]
 simp [VM.look,bA,b0',ones,Wi,k1,k2,k3,k4,ln]
 by_cases g:0<a.1.1.2.2.length
 ·have er:Th a.1 p q=a.1:=if_pos g
  have eb:(if Zk a.1 p q then (1:Int) else 0)=0:=if_neg (fun k=>k.1 g)
  have hM:=Bm (H:=H) (z:=a) (k:=0) (r:=⟨Qg n a,0,51⟩) on2 cK2 mn' dn rfl rfl
  rw [er,eb]
  unfold Qg Qc at hM
  simp only [List.cons_append,List.nil_append] at hM
  simp [VM.look,g,bC',qn,qn2,bR',gR,hF]
  simpa [Qo] using hM
 have hg:wi a.1.1.1 a.1.1.2.1:=g0.1.1.1.1.1.2
 have st1:=fun K=>C5 (frz:=H.length) (H:=K) a.1.1.1 a.1.1.2.1 p (cnt a.1.1.1 a.1.1.2.1).toNat hp hg (by have:=Qz a.1.1.1 a.1.1.2.1;omega)
 have st2:=fun K=>C5 (frz:=H.length) (H:=K) a.1.1.1 a.1.1.2.1 q (cnt a.1.1.1 a.1.1.2.1).toNat hq' hg (by have:=Qz a.1.1.1 a.1.1.2.1;omega)
 obtain ⟨M,hM0⟩:∃M,M=K2++[⟨[.int .i64 a.1.1.1,.int .i64 a.1.1.2.1],0,40⟩]:=⟨_,rfl⟩
 have cM:Qp K2 M []:=by rw [hM0];exact Qp.app _
 have bG:M[K2.length]? = some ⟨[.int .i64 a.1.1.1,.int .i64 a.1.1.2.1],0,40⟩:=by rw [hM0];simp
 have Qhz:H.length≤K2.length:=by omega
 have hMs:=hM0.symm
 simp [VM.look,g,b0',Qhz]
 rw [hMs]
 clear hM0 hMs
 have b0M:=Qa b0 cM (by simp)
 have bAM:=Qa bA cM (by simp)
 have b0M':=b0M
 unfold Qg Qc at b0M'
 simp only [List.cons_append,List.nil_append] at b0M'
 rw [Qv (h:=by kernel_rfl)]
 simp [VM.look,b0M',bAM,bG,ones,Wi]
 refine Ql (st1 M) ?_
 rintro _ M1 ⟨v1,rfl,o1,c1,m1,d1⟩
 have q1:=Xc o1
 have bG1:=Qa bG c1 (by simp)
 have bA1:=Qa bAM c1 (by simp)
 simp [Wx,VM.look,bG1,bA1]
 refine Ql (st2 M1) ?_
 rintro _ M2 ⟨v2,rfl,o2,c2,m2,d2⟩
 have q2:=Xc o2
 have cM2:Qp K2 M2 []:=(cM.trans c1).trans c2
 have o1:=Dt.chg (T:=Wu) o1 c2 (by simp)
 have cs:=gm (frz:=H.length) (Dt.chg (T:=Qe) oC.1 cM2 (by simp)) (vc:=(v1,v2)) (t:=tabs a.1 p q) ⟨o1,o2⟩
 simp only [Qk,Wz] at cs
 simp [Wx,q1,q2]
 refine Ql cs ?_
 rintro _ J ⟨_,rfl,w,rfl,ow,cw,mw,dw⟩
 obtain ⟨y,hy⟩:∃y,y=Ks a.1 (tabs a.1 p q):=⟨_,rfl⟩
 rw [← hy] at ow
 have er:Th a.1 p q=y:=by rw [hy];exact if_neg g
 have onw:=Qr ow
 have lJ:=cw.1
 have lM:=cM2.1
 have hFJ:H.length≤J.length:=by omega
 obtain ⟨J2,hJ2⟩:∃J2,J2=J++[⟨Qc w y,0,48⟩]:=⟨_,rfl⟩
 have cJ2:Qp J J2 []:=by rw [hJ2];exact Qp.app _
 have bN:J2[J.length]? = some ⟨Qc w y,0,48⟩:=by rw [hJ2];simp
 have ow2:=Dt.chg (T:=Qe) ow cJ2 (by simp)
 have bJ:=Qa (Qa (Qa bC cM2 (by simp)) cw (by simp)) cJ2 (by simp)
 have bRJ:=Qa (Qa (Qa bR cM2 (by simp)) cw (by simp)) cJ2 (by simp)
 have gC:=Qq (r':=⟨Qg (w,n.2) (y,a.2),0,51⟩) bJ
 have bR2:=Qa bRJ (Qn (H:=J2) K.length ⟨Qg (w,n.2) (y,a.2),0,51⟩) (by simp;omega)
 have gJ:=Qq (r':=⟨Qg (w,n.2) (y,a.2),0,51⟩) bR2
 obtain ⟨B,hB⟩:∃B,B=decide (U0 a.1 (tabs a.1 p q)):=⟨_,rfl⟩
 have hq:(if Zk a.1 p q then (1:Int) else 0)=if B then 1 else 0:=by rw [hB];by_cases g':U0 a.1 (tabs a.1 p q)<;>simp [Zk,g',g]
 have hM:=Qkp J2 w y (if B then (1:Int) else 0) ow2 ((cM2.trans cw).trans cJ2) (fun i hi=>by have:=mw i hi;omega) dw
 have hJs:=hJ2.symm
 rw [er,hq,← hB]
 unfold X5 at bR2
 unfold Qg Qc at bJ gC gJ hM bR2
 unfold Qc at bN hJs
 simp only [List.cons_append,List.nil_append] at bJ gC gJ hM bR2
 simp [Qk,← hy,VM.look,onw,hFJ]
 rw [hJs]
 clear hJ2 hJs
 simp [VM.look,bN,bJ,gC,bR2,gJ,onw,qn2,hF,hFK]
 rw [Qv (h:=by kernel_rfl)]
 cases B<;>simp [VM.look,bN,bJ,gC,bR2,gJ,onw,qn2,hF,hFK,fl]<;>simpa [Qo] using hM
theorem Qam {x:Qu} (h:W9 x) {L:Nat} (hL:1000≤L):Xf L x.2.2.1:=fun l hl=>by
 obtain ⟨i,hi,rfl⟩:=List.getElem_of_mem hl
 have:=(h.2.2.1 i hi).1
 rw [Vc hi] at this
 omega
theorem jj {x:Qu} (h:W9 x) {L:Nat} (hL:1000≤L) (h9:Xf L x.2.2.2.2.2.2.1) {k:Nat} (hk:k≤400):Xf (L+38400) (runN x k).2.2.2.2.2.2.1:=
 Xe (E5 (Qam h hL) h9 k).2 (by omega)
theorem Qda {a:Ww} {k p q r s:Int} {L:Nat} (hL:1000≤L) (h:Xf L a.1.2.2.2.2.2.2.1):Xf (L+38400) (Tg a k p q r s).1.1.2.2.2.2.2.2.1:=by
 have h0:Xf (L+38400) a.1.2.2.2.2.2.2.1:=Xe h (by omega)
 unfold Tg
 by_cases g:acts a k p q r s
 ·rw [if_pos g]
  have nk:W9 a.1:=g.1.1
  unfold Tu
  split
  ·unfold Yu U2 Ps;split<;>exact h0
  ·split
   ·unfold Yk Vz
    split
    ·show Xf (L+38400) (if runs a.1 p then runN a.1 p.toNat else a.1).2.2.2.2.2.2.1
     split
     ·rename_i hr;exact jj nk hL h (by have:=hr.2.1;unfold Xa at this;omega)
     ·exact h0
    ·exact h0
   ·split
    ·show Xf (L+38400) (Ux a.1).2.2.2.2.2.2.1
     unfold Ux
     split
     ·rcases Kb a.1 with e|⟨_,e,_⟩
      ·omega
      ·exact jj nk hL h (by omega)
     ·exact h0
    ·split
     ·show Xf (L+38400) (Ch a.1 p).2.2.2.2.2.2.1
      unfold Ch;split<;>exact h0
     ·show Xf (L+38400) (Th a.1 p q).2.2.2.2.2.2.1
      unfold Th
      split
      ·exact h0
      ·unfold Ks;split<;>exact h0
 ·rw [if_neg g];exact h0
noncomputable def Qls (z:Ww×List Int) (c:Yy):Ww×List Int:=((Tg z.1 c.1 c.2.1 c.2.2.1 c.2.2.2.1 c.2.2.2.2).1,z.2++[(Tg z.1 c.1 c.2.1 c.2.2.1 c.2.2.2.1 c.2.2.2.2).2])
def M4 (a:Ww) (l:List Yy):Prop:=Xq a∧l.length≤30
instance (a:Ww) (l:List Yy):Decidable (M4 a l):=inferInstanceAs (Decidable (_∧_))
noncomputable def Rt (a:Ww) (l:List Yy):Ww×List Int:=if M4 a l then l.foldl Qls (a,[]) else (a,[])
noncomputable def Zr (a:Ww) (l:List Yy) (i:Nat):Ww×List Int:=(l.take i).foldl Qls (a,[])
theorem Rr {a:Ww} {l:List Yy} {i:Nat} (h:i<l.length):Zr a l (i+1)=Qls (Zr a l i) l[i]:=by
 unfold Zr
 rw [List.take_succ_eq_append_getElem h,List.foldl_append];rfl
theorem Ej {a:Ww} {l:List Yy} (h:M4 a l):Zr a l l.length=Rt a l:=by
 unfold Zr Rt
 rw [if_pos h,List.take_length]
theorem S7 (a:Ww) (l:List Yy):∀i,i≤l.length→(Zr a l i).2.length=i
 | 0,_=>rfl
 | i+1,h=>by
  rw [Rr (by omega)]
  show ((Zr a l i).2++[_]).length=_
  rw [List.length_append,S7 a l i (by omega)];rfl
theorem Lm {a:Ww} (l:List Yy) {L:Nat} (hL:1000≤L) (h:Xf L a.1.2.2.2.2.2.2.1):∀i,i≤l.length→Xf (L+38400*i) (Zr a l i).1.1.2.2.2.2.2.2.1
 | 0,_=>h
 | i+1,hi=>by
  rw [Rr (by omega)]
  exact Xe (Qda (by omega) (Lm l hL h i (by omega))) (by omega)
theorem Qh3 (x:Yy):Qh C frz 33 [.agg (U7.f x).toArray] H=some (.agg (U7.f x).toArray,H):=Qhm _ _ _ _ _
theorem Qfm (v:Value) (xs:List Yy) (hI:Rd U7 H v xs) (hb:xs.length≤1073741824) :
 wp (Qh C frz 10 [v] H) (fun r H'=>Ow U7 79 H' r xs∧(∀i∈ids r,H.length≤i)∧Qp H H' []):=by
 rw [Qb (fn:=Tryz.f10) Tryz.func10 rfl (by kernel_rfl) rfl]
 simp [hI.len]
 refine Xt (by omega) ?_
 refine Qw (fun n t H'=>∃i:Nat,n=xs.length-i∧i≤xs.length∧t 0=v∧t 3=.slice (some ⟨H.length,0,some 0⟩) xs.length 0∧t 4=.int .i64 i∧
  Ow U7 79 H' (.slice (some ⟨H.length,0,some 0⟩) xs.length 0) (xs.take i++List.replicate (xs.length-i) (0,0,0,0,0))∧Qp H H' []) ?_ (n:=xs.length)
  ⟨0,by simp,by omega,by simp,by simp,by simp,Ow.new0 rfl (Uh (D:=U7) (0,0,0,0,0) _) (by rw [Uh (D:=U7) (0,0,0,0,0)];exact Kp _) (by simp),Qp.app _⟩
 rintro n t H' ⟨i,rfl,hi,h0,h3,h4,o,c⟩ ih
 have rd:=hI.chg c (by simp)
 simp [h0,h3,h4,rd.len]
 refine Qm ?_ ?_<;>intro h
 ·have h':i<xs.length:=by omega
  have q1:=rd.idx (P:=Tryz.prog) (ty:=37) (e:=83) (by simp) (i:=(i:Int)) (by omega) (by omega)
  have q2:=rd.load (P:=Tryz.prog) (e:=83) (by simp) h'
  have hl:(xs.take i++List.replicate (xs.length-i) ((0,0,0,0,0):Yy)).length=xs.length:=by simp;omega
  have q3:=o.rd.idx (P:=Tryz.prog) (ty:=55) (e:=79) (by simp) (i:=(i:Int)) (by omega) (by omega)
  obtain ⟨H2,s1,o1,c1,l1⟩:=o.store (P:=Tryz.prog) (frz:=H.length) (et:=79) (ag:=true) (x:=.agg (U7.f xs[i]).toArray) (by simp) (j:=i) (y:=xs[i]) (by omega) (by simp [Value.cells]) (by simp [Zj]) (by simp)
  simp only [Int.toNat_natCast,S4] at q1 q2 q3 s1
  simp [h0,h3,h4,q1,q2,Qh3,q3,s1]
  refine ih (xs.length-(i+1)) _ _ ⟨i+1,rfl,by omega,by simp [h0],by simp [h3],?_,?_,c.trans' c1 (by simp)⟩ (by omega)
  ·simp;rw [Q0 (by omega) (by omega)]
  ·rw [Gt _ _ h'] at o1;exact o1
 ·have:i=xs.length:=by omega
  subst this
  simp [h0,h3,h4]
  exact ⟨by simpa using o,c⟩
theorem Qfk (v:Value) (xs:List Yy) (n:Int) (hI:Rd U7 H v xs) (h0:0≤n) (h1:n≤1048576) (h2:xs.length≤9223372036854775807) :
 Qh C frz 7 [v,.int .i64 n] H=some (.int .i64 (if n<xs.length then -1 else n-xs.length),H):=by
 rw [Qb (fn:=Tryz.f7) Tryz.func7 rfl (by kernel_rfl) rfl]
 simp [hI.len]
 rw [Q0 (by omega) (by omega)]
 refine Q7 _ ?_ ?_<;>intro h<;>simp [h]
 ·intro hh;omega
 ·intro hh;omega
theorem Qi2 (x y:Yy):Qh C frz 39 [.agg (U7.f x).toArray,.agg (U7.f y).toArray] H=some (.bool (decide (x=y)),H):=by
 obtain ⟨p,t,c,h,l⟩:=x
 obtain ⟨p',t',c',h',l'⟩:=y
 rw [Qb (fn:=Tryz.f39) Tryz.func39 rfl (by kernel_rfl) rfl]
 simp [Zj]
 by_cases e1:p=p'
 ·by_cases e2:t=t'
  ·by_cases e3:c=c'
   ·by_cases e4:h=h'
    ·by_cases e5:l=l'<;>simp [e1,e2,e3,e4,e5]
    ·simp [e1,e2,e3,e4]
   ·simp [e1,e2,e3]
  ·simp [e1,e2]
 ·simp [e1]
theorem Qgf (a b:Value) (xs ys:List Yy) (ha:Rd U7 H a xs) (hb:Rd U7 H b ys) (hl:xs.length≤1073741824) :
 Qh C frz 14 [a,b] H=some (.bool (decide (xs=ys)),H):=by
 refine wp.exact (by simp) ?_ rfl
 rw [Qb (fn:=Tryz.f14) Tryz.func14 rfl (by kernel_rfl) rfl]
 simp [ha.len,hb.len]
 refine Qm ?_ ?_<;>intro h0<;>simp [h0]
 ·refine Qw (fun n t H'=>∃i:Nat,n=xs.length-i∧i≤xs.length∧t 0=a∧t 1=b∧t 5=.int .i64 i∧H'=H∧xs.take i=ys.take i) ?_ (n:=xs.length) ⟨0,rfl,by omega,by simp,by simp,by simp,rfl,by simp⟩
  rintro n t H' ⟨i,rfl,hi,h1,h2,h3,rfl,h4⟩ ih
  simp [h1,h2,h3,ha.len]
  refine Qm ?_ ?_<;>intro h
  ·have hx:i<xs.length:=by omega
   have hy:i<ys.length:=by omega
   have q1:=ha.idx (P:=Tryz.prog) (ty:=55) (e:=79) (by simp) (i:=(i:Int)) (by omega) (by omega)
   have q2:=ha.load (P:=Tryz.prog) (e:=79) (by simp) hx
   have q3:=hb.idx (P:=Tryz.prog) (ty:=55) (e:=79) (by simp) (i:=(i:Int)) (by omega) (by omega)
   have q4:=hb.load (P:=Tryz.prog) (e:=79) (by simp) hy
   simp only [Int.toNat_natCast,S4] at q1 q2 q3 q4
   simp [h1,h2,h3]
   rw [Qv (h:=by kernel_rfl)]
   simp [h1,h2,h3,q1,q2,q3,q4,Qi2]
   refine Qm ?_ ?_<;>intro h5
   ·simp [h1,h2,h3]
    refine ih (xs.length-(i+1)) _ _ ⟨i+1,rfl,by omega,by simp [h1],by simp [h2],?_,rfl,?_⟩ (by omega)
    ·simp;rw [Q0 (by omega) (by omega)]
    ·rw [List.take_succ_eq_append_getElem hx,List.take_succ_eq_append_getElem hy,h4];simp [h5]
   ·simp [h1,h2,h3]
    intro hh;subst hh;simp at h5
  ·have:i=xs.length:=by omega
   subst this
   simp [h1,h2,h3]
   rw [List.take_length,List.take_of_length_le (by omega)] at h4
   exact h4
 ·intro hh;exact h0 (by rw [hh])
theorem Qau (v:Value) (xs:List Yy) (e:TypeId) (k:Int) (h:Ow U7 e H v xs) (hl:xs.length≤1073741824) (hk:0≤k∧k≤4611686018427387904) (hf:∀i∈ids v,frz≤i) :
 wp (Qh C frz 16 [v,.int .i64 k] H) (fun r H'=>r=.int .i64 (k+5*xs.length)∧Ow U7 e H' v (Y2 k xs.length)∧Qp H H' (ids v)∧H'.length=H.length):=by
 rw [Qb (fn:=Tryz.f16) Tryz.func16 rfl (by kernel_rfl) rfl]
 simp
 refine Qw (fun n t H'=>∃i:Nat,n=xs.length-i∧i≤xs.length∧t 0=v∧t 1=.int .i64 (k+5*i)∧t 5=.int .i64 i∧Ow U7 e H' v (Y2 k i++xs.drop i)∧Qp H H' (ids v)∧H'.length=H.length) ?_ (n:=xs.length)
  ⟨0,by simp,by omega,by simp,by simp,by simp,by simpa [Y2] using h,Qp.refl _,rfl⟩
 rintro n t H' ⟨i,rfl,hi,h0,h1,h5,o,c,l⟩ ih
 have hlen:(Y2 k i++xs.drop i).length=xs.length:=by simp;omega
 have ll:=o.rd.len (P:=Tryz.prog) (ty:=55) (by simp)
 rw [hlen] at ll
 simp [h0,h1,h5,ll]
 refine Qm ?_ ?_<;>intro h6
 ·have hi':i<xs.length:=by omega
  have hms:=Da k xs hi'
  generalize Y2 k i++xs.drop i=ys at *
  have hy:i<ys.length:=by omega
  obtain ⟨K,hK⟩:∃K,K=k+5*(i:Int):=⟨_,rfl⟩
  obtain ⟨K1,hK1⟩:∃K1,K1=K+1:=⟨_,rfl⟩
  obtain ⟨K2,hK2⟩:∃K1,K1=K+2:=⟨_,rfl⟩
  obtain ⟨K3,hK3⟩:∃K1,K1=K+3:=⟨_,rfl⟩
  obtain ⟨K4,hK4⟩:∃K1,K1=K+4:=⟨_,rfl⟩
  have hmk:mkP K=(K,K1,K2,K3,K4):=by rw [hK1,hK2,hK3,hK4];rfl
  have w1:∀[Inhabited Unit],IntKind.i64.wrap (K+1)=K1:=by intro _;rw [Q0 (by omega) (by omega),hK1]
  have w2:∀[Inhabited Unit],IntKind.i64.wrap (K1+1)=K2:=by intro _;rw [Q0 (by omega) (by omega)];omega
  have w3:∀[Inhabited Unit],IntKind.i64.wrap (K2+1)=K3:=by intro _;rw [Q0 (by omega) (by omega)];omega
  have w4:∀[Inhabited Unit],IntKind.i64.wrap (K3+1)=K4:=by intro _;rw [Q0 (by omega) (by omega)];omega
  have w5:∀[Inhabited Unit],IntKind.i64.wrap (K4+1)=k+5*((i+1:Nat):Int):=by intro _;rw [Q0 (by omega) (by omega)];omega
  rw [← hK] at hms h1
  obtain ⟨z,hz⟩:∃z,z=ys[i]:=⟨_,rfl⟩
  have ix:=fun {G:Qd} {zs:List Yy} (oo:Ow U7 e G v zs) (hh:i<zs.length)=>oo.rd.idx (P:=Tryz.prog) (ty:=55) (e:=79) (by simp) (i:=(i:Int)) (by omega) (by omega)
  have fa:=fun {G:Qd} {zs:List Yy} (oo:Ow U7 e G v zs) (hh:i<zs.length)=>(show _∧_∧_∧_∧_ from
   ⟨oo.rd.field (P:=Tryz.prog) (s:=79) (f:=0) (o:=0) (n:=1) (ag:=false) (by simp) (j:=i*5) (by omega),oo.rd.field (P:=Tryz.prog) (s:=79) (f:=1) (o:=1) (n:=1) (ag:=false) (by simp) (j:=i*5) (by omega),
    oo.rd.field (P:=Tryz.prog) (s:=79) (f:=2) (o:=2) (n:=1) (ag:=false) (by simp) (j:=i*5) (by omega),oo.rd.field (P:=Tryz.prog) (s:=79) (f:=3) (o:=3) (n:=1) (ag:=false) (by simp) (j:=i*5) (by omega),
    oo.rd.field (P:=Tryz.prog) (s:=79) (f:=4) (o:=4) (n:=1) (ag:=false) (by simp) (j:=i*5) (by omega)⟩)
  obtain ⟨H1,s1,o1,c1,l1⟩:=o.store1 (P:=Tryz.prog) (frz:=frz) (et:=3) (ag:=false) (x:=.int .i64 K) (by simp) (j:=i) (c:=0) (y:=(K,z.2)) hy (by decide) rfl rfl (by rw [← hz];rfl) hf
  obtain ⟨H2,s2,o2,c2,l2⟩:=o1.store1 (P:=Tryz.prog) (frz:=frz) (et:=3) (ag:=false) (x:=.int .i64 K1) (by simp) (j:=i) (c:=1) (y:=(K,K1,z.2.2)) (by simpa using hy) (by decide) rfl rfl (by simp [Zj]) hf
  obtain ⟨H3,s3,o3,c3,l3⟩:=o2.store1 (P:=Tryz.prog) (frz:=frz) (et:=3) (ag:=false) (x:=.int .i64 K2) (by simp) (j:=i) (c:=2) (y:=(K,K1,K2,z.2.2.2)) (by simpa using hy) (by decide) rfl rfl (by simp [Zj]) hf
  obtain ⟨H4,s4,o4,c4,l4⟩:=o3.store1 (P:=Tryz.prog) (frz:=frz) (et:=3) (ag:=false) (x:=.int .i64 K3) (by simp) (j:=i) (c:=3) (y:=(K,K1,K2,K3,z.2.2.2.2)) (by simpa using hy) (by decide) rfl rfl (by simp [Zj]) hf
  obtain ⟨H5,s5,o5,c5,l5⟩:=o4.store1 (P:=Tryz.prog) (frz:=frz) (et:=3) (ag:=false) (x:=.int .i64 K4) (by simp) (j:=i) (c:=4) (y:=(K,K1,K2,K3,K4)) (by simpa using hy) (by decide) rfl rfl (by simp [Zj]) hf
  have i0:=ix o hy
  have i1:=ix o1 (by simpa using hy)
  have i2:=ix o2 (by simpa using hy)
  have i3:=ix o3 (by simpa using hy)
  have i4:=ix o4 (by simpa using hy)
  have f0:=(fa o hy).1
  have f1:=(fa o1 (by simpa using hy)).2.1
  have f2:=(fa o2 (by simpa using hy)).2.2.1
  have f3:=(fa o3 (by simpa using hy)).2.2.2.1
  have f4:=(fa o4 (by simpa using hy)).2.2.2.2
  simp only [Int.toNat_natCast,S4,Nat.add_zero] at i0 i1 i2 i3 i4 s1 s2 s3 s4 s5 f0
  simp [-Qy,Wr,h0,h1,h5,i0,i1,i2,i3,i4,f0,f1,f2,f3,f4,s1,s2,s3,s4,s5,w1,w2,w3,w4,w5]
  refine ih (xs.length-(i+1)) _ _ ⟨i+1,rfl,by omega,by simp [h0],?_,?_,?_,(((((c.trans c1).trans c2).trans c3).trans c4).trans c5),by omega⟩ (by omega)
  ·simp
  ·simp;rw [Q0 (by omega) (by omega)]
  ·rw [← hms,hmk];simpa only [List.set_set] using o5
 ·have:i=xs.length:=by omega
  subst this
  simp [h0,h1,h5]
  exact ⟨by simpa using o,c,l⟩
abbrev Ox:Dt Value (List Yy):=Ip U7 79 1073741824
theorem Lu {v:Value} {a:List Yy} (h:Ox.Ow H v a):VM.one v=true∧v.cells=#[v]:=⟨h.1.rd.one',h.1.rd.cells⟩
theorem Wv (v:Value) (a:List Yy):Ox.val v a=v:=rfl
theorem Lq (v:Value) (xs:List Yy) (hI:Rd U7 H v xs) (hb:xs.length≤1073741824):wp (Qh C frz 10 [v] H) (Ox.Made H xs):=by
 refine (Qfm v xs hI hb).mono ?_
 rintro r H' ⟨o,n,c⟩
 exact ⟨r,rfl,⟨o,hb⟩,c,n,Wa r⟩
theorem Qfx {a b:Value} {xs ys:List Yy} (ha:Ox.Ow H a xs) (hb:Ox.Ow H b ys):Qh C frz 14 [a,b] H=some (.bool (decide (xs=ys)),H):=
 Qgf a b xs ys ha.1.rd hb.1.rd ha.2
theorem gi {v:Value} {xs:List Yy} {k:Int} (h:Ox.Ow H v xs) (hd:(Ox.ids v).Nodup) (hk:0≤k∧k≤4611686018427387904) (hf:∀i∈Ox.ids v,frz≤i) :
 wp (Qh C frz 16 [v,.int .i64 k] H) (fun r H'=>∃(m:Nat) (a':List Yy),r=.int .i64 (k+m)∧m≤5368709120∧Ox.val v a'=Ox.val v xs∧Ox.Ow H' v a'∧Qp H H' (Ox.ids v)∧True):=by
 refine (Qau v xs _ k h.1 h.2 hk hf).mono ?_
 rintro r H' ⟨rfl,o,c,l⟩
 have:=h.2
 exact ⟨5*xs.length,Y2 k xs.length,by simp,by omega,rfl,⟨o,by simpa using h.2⟩,c,trivial⟩
def yy (H:Qd) (y:Ww×List Int) (r:Value) (H':Qd):Prop:=∃(vc:Yj) (vi:Value),r=.tuple #[Qs.val vc y.1,vi]∧Qs.Ow H' vc y.1∧Qf.Ow H' vi y.2∧Qp H H' []∧(∀i∈Qs.ids vc,H.length≤i)∧(Qs.ids vc).Nodup∧(∀i∈Qf.ids vi,H.length≤i)∧(Qf.ids vi).Nodup∧∀i∈Qs.ids vc,i∉Qf.ids vi
theorem jg {lv:Value} {l:List Yy} {i:Nat} (h:Rd U7 H lv l) (hi:i<l.length) (hl:l.length≤1073741824) :
 Q6 Tryz.prog H 55 lv (.int .i64 (i:Int))=some (Yi lv (i*5))∧Xh Tryz.prog H 79 (Yi lv (i*5))=some (.agg #[.int .i64 l[i].1,.int .i64 l[i].2.1,.int .i64 l[i].2.2.1,.int .i64 l[i].2.2.2.1,.int .i64 l[i].2.2.2.2]):=by
 have q1:=h.idx (P:=Tryz.prog) (ty:=55) (e:=79) (by simp) (i:=(i:Int)) (by omega) (by omega)
 have q2:=h.load (P:=Tryz.prog) (e:=79) (by simp) hi
 simp only [Int.toNat_natCast,S4] at q1 q2
 exact ⟨q1,by simpa [Zj] using q2⟩
theorem V9 {α:Type} {D:Fl α} {e:TypeId} {v:Value} {xs:List α} (h:Ow D e H v xs):Cr H v:=by
 rcases h with ⟨rfl,_⟩|⟨id,off,r,rfl,h2,_⟩
 ·trivial
 ·show VM.look H ⟨id,off,some r.gen⟩≠none
  simp [VM.look,h2]
theorem Jr {v:Yj} {x:Ww} (o:Qs.Ow H v x):VM.live H (.agg #[.int .i64 x.1.1.1,.int .i64 x.1.1.2.1,v.1.1,v.1.2.1.1,v.1.2.1.2,v.1.2.2.1.1,v.1.2.2.2.1,v.1.2.2.2.2.1,v.1.2.2.2.2.2.1.1,v.1.2.2.2.2.2.2.1.1,.int .i64 x.1.2.2.2.2.2.2.2,v.2]):=fun c hc=>by
 obtain ⟨⟨o1,o2,o3,o4,o5,o6,o7,_⟩,o8⟩:=o
 have a1:=V9 o1.1
 have a2:=V9 o2.1.1
 have a3:=V9 o2.2.1
 have a4:=V9 o3.1.1
 have a5:=V9 o4.1
 have a6:=V9 o5.1
 have a7:=V9 o6.1.1
 have a8:=V9 o7.1.1
 have a9:=V9 o8.1
 simp only [List.mem_cons,List.not_mem_nil,or_false] at hc
 rcases hc with rfl|rfl|rfl|rfl|rfl|rfl|rfl|rfl|rfl|rfl|rfl|rfl<;>first|trivial|assumption
theorem Qbb {K:Qd} {n:Yj} {y z:Ww×List Int} {vi:Value} {r:Row} (o:Qs.Ow K n y.1) (oi:Qf.Ow K vi y.2) (c:Qp H K []) (m:∀i∈Qs.ids n,H.length+2≤i) (d:(Qs.ids n).Nodup) (mi:∀i∈Qf.ids vi,H.length+2≤i)
 (x:∀i∈Qs.ids n,i∉Qf.ids vi) (e:z=y):yy H z (.tuple #[Qs.val n y.1,vi]) (K.set (H.length+1) r):=by
 subst e
 exact ⟨n,vi,rfl,Dt.chg (T:=Qs) o (Qn _ _) (fun i hi hh=>by have:=m i hi;simp at hh;omega),Dt.chg (T:=Qf) oi (Qn _ _) (fun i hi hh=>by have:=mi i hi;simp at hh;omega),c.trans' (Qn _ _) (fun i hi=>.inr (by simp at hi;omega)),fun i hi=>by have:=m i hi;omega,d,fun i hi=>by have:=mi i hi;omega,Wa vi,x⟩
theorem C4 {v:Yj} {a:Ww} {lv:Value} {l:List Yy} (o:Qs.Ow H v a) (ol:Ox.Ow H lv l) (h9:Xf 1048576 a.1.2.2.2.2.2.2.1) :
 wp (Qh C frz 11 [Qs.val v a,lv] H) (yy H (Rt a l)):=by
 have hr:=ol.1.rd
 have hn:=ol.2
 have oneA:=Q8 o
 have ones:=oneA.1
 have Wi:=oneA.2
 have ecopy:=fun K (c:Qp H K [])=>Od (frz:=H.length) (H:=K) (v:=v) (a:=a) (Dt.chg (T:=Qs) o c (by simp))
 have ck:=fun F K (c:Qp H K [])=>Kz (frz:=F) (H:=K) (v:=v) (a:=a) (Dt.chg (T:=Qs) o c (by simp))
 simp only [Qo] at ecopy ck ⊢
 rw [Qb (fn:=Tryz.f11) Tryz.func11 rfl (by kernel_rfl) rfl]
 obtain ⟨G,hG⟩:∃G,G=H++[⟨Qg v a,0,51⟩,⟨X5,0,51⟩]:=⟨_,rfl⟩
 have cG:Qp H G []:=by rw [hG];exact Qp.app _
 have b0:G[H.length]? = some ⟨Qg v a,0,51⟩:=by rw [hG];simp
 have bR:G[H.length+1]? = some ⟨X5,0,51⟩:=by rw [hG];simp
 have lG:G.length=H.length+2:=by rw [hG];simp
 have hGs:=hG.symm
 unfold Qg Qc X5 at hGs
 simp only [List.cons_append,List.nil_append] at hGs
 simp [ones,Wi]
 rw [hGs]
 clear hG hGs
 have b0':=b0
 unfold Qg Qc at b0'
 simp only [List.cons_append,List.nil_append] at b0'
 try simp [VM.look,b0',ones,Wi]
 refine Ql (ecopy G cG) ?_
 rintro _ K ⟨n,rfl,on,cn,mn,dn⟩
 have cK:Qp H K []:=cG.trans cn
 have b0:=Qa b0 cn (by simp)
 have bR:=Qa bR cn (by simp)
 have oneN:=Q8 on
 have qn:=oneN.1
 have qn2:=oneN.2
 have lK:=cn.1
 have hFK:H.length≤K.length:=by omega
 obtain ⟨K2,hK2⟩:∃K2,K2=K++[⟨[],0,3⟩,⟨Qg n a,0,51⟩]:=⟨_,rfl⟩
 have c12:Qp K K2 []:=by rw [hK2];exact Qp.app _
 have cK2:=cK.trans c12
 have l2:K2.length=K.length+2:=by rw [hK2];simp
 have b0:=Qa b0 c12 (by simp)
 have bR:=Qa bR c12 (by simp)
 have bC:K2[K.length+1]? = some ⟨Qg n a,0,51⟩:=by rw [hK2];simp
 have oI:Ow Fl.int 3 K2 (.slice (some ⟨K.length,0,some 0⟩) 0 0) []:=by rw [hK2];exact Ow.new (D:=Fl.int) (xs:=[]) (k:=0) rfl rfl rfl rfl
 have on2:=Dt.chg (T:=Qs) on c12 (by simp)
 have hF:H.length≤H.length+1:=by omega
 have mn':∀i∈Qs.ids n,H.length+2≤i:=fun i hi=>by have:=mn i hi;omega
 have ltn:∀i∈Qs.ids n,i<K.length:=fun i hi=>Qs.lt on i hi
 have hFB:H.length≤K.length+1:=by omega
 have hKs:=hK2.symm
 unfold Qg Qc at hKs
 simp only [List.cons_append,List.nil_append] at hKs
 simp [Qo,qn,qn2,hFB]
 rw [hKs]
 clear hK2 hKs
 have ck':=fun F=>ck F K2 cK2
 have b0':=b0
 have bC':=bC
 have bR':=bR
 have gR:=Qq (r':=⟨Qg n a,0,51⟩) bR
 have bad:¬M4 a l→yy H (Rt a l) (.tuple #[Qs.val n a,.slice none 0 0]) (K2.set (H.length+1) ⟨Qg n a,0,51⟩):=fun hb=>
  Qbb (y:=(a,[])) on2 ⟨.inl ⟨rfl,rfl⟩,by simp⟩ cK2 mn' dn (by simp [Ip]) (by simp [Ip]) (if_neg hb)
 unfold X5 at bR'
 unfold Qg Qc at b0' bC' gR bad
 simp only [List.cons_append,List.nil_append] at b0' bC' gR bad
 have ll:=fun (J:Qd) (c:Qp H J [])=>(hr.chg c (by simp)).len (P:=Tryz.prog) (ty:=55) (by simp)
 have l2':=ll K2 cK2
 by_cases g0:Xq a
 rotate_left
 ·have hM:=bad (fun h=>g0 h.1)
  simp [VM.look,b0',ones,Wi,ck',g0,bC',qn,qn2,bR',gR,hF]
  simpa [Qo] using hM
 simp [VM.look,b0',ck',g0,l2']
 refine Qm ?_ ?_<;>intro g1
 ·have hM:=bad (fun h=>by have:=h.2;omega)
  simp [VM.look,bC',qn,qn2,bR',gR,hF]
  simpa [Qo] using hM
 have g:M4 a l:=⟨g0,by omega⟩
 simp [l2']
 refine Qw (fun m t H'=>∃(i:Nat) (w:Yj) (u:Value),m=l.length-i∧i≤l.length∧t 4=.pointer (some ⟨H.length+1,0,some 0⟩)∧t 6=.pointer (some ⟨K.length+1,0,some 0⟩)∧t 7=u∧t 24=lv∧t 25=.int .i64 l.length∧t 26=.int .i64 i∧
  H'[K.length+1]? = some ⟨Qg w (Zr a l i).1,0,51⟩∧Qs.Ow H' w (Zr a l i).1∧(∀j∈Qs.ids w,H.length+2≤j)∧K.length+1∉Qs.ids w∧(Qs.ids w).Nodup∧VM.Ow Fl.int 3 H' u (Zr a l i).2∧(∀j∈VM.ids u,H.length+2≤j∧j≠K.length+1)∧(∀j∈Qs.ids w,j∉VM.ids u)∧Qp H H' []∧H'[H.length+1]? = some ⟨X5,0,51⟩) ?_ (n:=l.length)
  ⟨0,n,.slice (some ⟨K.length,0,some 0⟩) 0 0,rfl,by omega,by simp,by simp,by simp,by simp,by simp,by simp,bC,on2,mn',fun hh=>by have:=ltn _ hh;omega,dn,oI,fun j hj=>by simp at hj;omega,fun j hj hh=>by have:=ltn j hj;simp at hh;omega,cK2,bR⟩
 rintro m t J ⟨i,w,u,rfl,hi,t4,t6,t7,t24,t25,t26,bC,ow,mw,nB,dw,ou,mu,xw,cJ,bR⟩ ih
 have lJ:=cJ.1
 have hBJ:=Wj bC
 simp [t26,t25]
 refine Qm ?_ ?_<;>intro h
 rotate_left
 ·have he:i=l.length:=by omega
  subst he
  obtain ⟨y,hy⟩:∃y,y=Zr a l l.length:=⟨_,rfl⟩
  rw [← hy] at bC ow ou
  have oneW:=Q8 ow
  have p1:=oneW.1
  have p2:=oneW.2
  have gR:=Qq (r':=⟨Qg w y.1,0,51⟩) bR
  have hM:=Qbb (r:=⟨Qg w y.1,0,51⟩) (y:=y) (z:=Rt a l) ow ⟨ou,by rw [hy,S7 a l _ (by omega)];omega⟩ cJ mw dw (fun j hj=>(mu j hj).1) xw (by rw [hy,Ej g])
  unfold X5 at bR
  unfold Qg Qc at bC gR hM
  simp only [List.cons_append,List.nil_append] at bC gR hM
  simp [t4,t6,t7,VM.look,bC,p1,p2,bR,gR,hF]
  simpa [Qo] using hM
 have hi':i<l.length:=by omega
 obtain ⟨q1,q2⟩:=jg (hr.chg cJ (by simp)) hi' hn
 have has:=Rr (a:=a) hi'
 obtain ⟨c,hc⟩:∃c,c=l[i]:=⟨_,rfl⟩
 rw [← hc] at q2 has
 obtain ⟨z,hz⟩:∃z,z=Zr a l i:=⟨_,rfl⟩
 have harr:Xf 66000000 z.1.1.2.2.2.2.2.2.1:=by rw [hz];exact Xe (Lm l (by omega) h9 i hi) (by omega)
 have hzl:z.2.length=i:=by rw [hz];exact S7 a l i hi
 rw [← hz] at bC ow ou has
 have hFJ:H.length≤J.length:=lJ
 obtain ⟨J1,hJ1⟩:∃J1,J1=J++[⟨[.int .i64 c.1,.int .i64 c.2.1,.int .i64 c.2.2.1,.int .i64 c.2.2.2.1,.int .i64 c.2.2.2.2],0,79⟩]:=⟨_,rfl⟩
 have cJ1:Qp J J1 []:=by rw [hJ1];exact Qp.app _
 have lJ1:J1.length=J.length+1:=by rw [hJ1];simp
 have bA:J1[J.length]? = some ⟨[.int .i64 c.1,.int .i64 c.2.1,.int .i64 c.2.2.1,.int .i64 c.2.2.2.1,.int .i64 c.2.2.2.2],0,79⟩:=by rw [hJ1];simp
 have bC1:=Qa bC cJ1 (by simp)
 have bR1:=Qa bR cJ1 (by simp)
 have ow1:=Dt.chg (T:=Qs) ow cJ1 (by simp)
 have ou1:=ou.chg cJ1 (by simp)
 have hJs:=hJ1.symm
 simp [t24,t26,q1,q2,hFJ]
 rw [hJs]
 clear hJ1 hJs
 have oneW:=Q8 ow
 have p1:=oneW.1
 have p2:=oneW.2
 have Qan:=bC1
 unfold Qg Qc at Qan
 simp only [List.cons_append,List.nil_append] at Qan
 have od:=Qhv (frz:=H.length) (k:=c.1) (p:=c.2.1) (q:=c.2.2.1) (r:=c.2.2.2.1) (s:=c.2.2.2.2) ow1 harr
 simp only [Qo] at od
 simp [t6,VM.look,Qan,bA]
 refine Ql od ?_
 rintro _ J2 ⟨_,rfl,w2,rfl,o2,c2,m2,d2⟩
 obtain ⟨y,hy⟩:∃y,y=Tg z.1 c.1 c.2.1 c.2.2.1 c.2.2.2.1 c.2.2.2.2:=⟨_,rfl⟩
 have hnx:Zr a l (i+1)=(y.1,z.2++[y.2]):=by rw [has,hy];rfl
 rw [← hy] at o2
 have oneY:=Q8 o2
 have y1:=oneY.1
 have y2:=oneY.2
 have lJ2:=c2.1
 have bC2:=Qa bC1 c2 (by simp)
 have bR2:=Qa bR1 c2 (by simp)
 have ou2:=ou1.chg c2 (by simp)
 obtain ⟨J3,hJ3⟩:∃J3,J3=J2++[⟨Qg w2 y.1,0,51⟩]:=⟨_,rfl⟩
 have cJ3:Qp J2 J3 []:=by rw [hJ3];exact Qp.app _
 have lJ3:J3.length=J2.length+1:=by rw [hJ3];simp
 have bY:J3[J2.length]? = some ⟨Qg w2 y.1,0,51⟩:=by rw [hJ3];simp
 have bC3:=Qa bC2 cJ3 (by simp)
 have bR3:=Qa bR2 cJ3 (by simp)
 have ou3:=ou2.chg cJ3 (by simp)
 have o3:=Dt.chg (T:=Qs) o2 cJ3 (by simp)
 have Qec:H.length≤J2.length:=by omega
 have hJs:=hJ3.symm
 unfold Qg Qc at hJs
 simp only [List.cons_append,List.nil_append] at hJs
 simp [Qo,← hy,y1,y2,Qec]
 rw [hJs]
 clear hJ3 hJs
 obtain ⟨u',J4,hap,ou4,c4,n4⟩:=ou3.push (P:=Tryz.prog) (frz:=H.length) (ty:=24) (a:=y.2) (by simp) rfl (by omega) (fun j hj=>by have:=(mu j hj).1;omega)
 simp only [Fl.int_f] at hap
 have ltu:∀j∈VM.ids u,j<J.length:=fun j hj=>ou.lt j hj
 have lJ4:=c4.1
 have bY4:=Qa bY c4 (fun hh=>by have:=ltu _ hh;omega)
 have bC4:=Qa bC3 c4 (fun hh=>(mu _ hh).2 rfl)
 have bR4:=Qa bR3 c4 (fun hh=>by have:=(mu _ hh).1;omega)
 have o4:=Dt.chg (T:=Qs) o3 c4 (fun j hj hh=>by have:=m2 j hj;have:=ltu j hh;omega)
 have bY':=bY
 have Qlb:=bY4
 have Qlj:=bC4
 have gC:=Qq (r':=⟨Qg w2 y.1,0,51⟩) bC4
 have cS:Qp J4 (J4.set (K.length+1) ⟨Qg w2 y.1,0,51⟩) [K.length+1]:=Qn _ _
 obtain ⟨J5,hJ5⟩:∃J5,J5=J4.set (K.length+1) ⟨Qg w2 y.1,0,51⟩:=⟨_,rfl⟩
 rw [← hJ5] at gC cS
 have o5:=Dt.chg (T:=Qs) o4 cS (fun j hj hh=>by have:=m2 j hj;simp at hh;omega)
 have ou5:=ou4.chg cS (fun j hj hh=>by
  simp at hh;subst hh
  rcases n4 _ hj with h|h
  ·exact (mu _ h).2 rfl
  ·omega)
 have bR5:=Qa bR4 cS (by simp;omega)
 have hJs:=hJ5.symm
 have lv3:=Jr o3
 have lv4:=Jr o4
 have bY3L:=fun L=>Qj bY L
 have lv3L:=fun L=>Jr (Dt.app (T:=Qs) (L:=L) o3)
 unfold Qg Qc at bY' Qlb Qlj hJs bY3L
 simp only [List.cons_append,List.nil_append] at bY' Qlb Qlj hJs bY3L
 rw [V8 (fl:=([0],[5])) (h:=⟨by kernel_rfl,by kernel_rfl,by kernel_rfl,by kernel_rfl⟩)]
 simp [Sd,Zi,Vs,-Q5,-Wm,t6,t7,VM.look,bY',bY3L,Qlb,Qlj,lv3,lv3L,lv4,hap,y1,y2,hFB]
 rw [hJs]
 clear hJ5 hJs
 simp [t26]
 have cH5:Qp H J5 []:=(((((cJ.trans cJ1).trans c2).trans cJ3).trans' c4 (fun j hj=>.inr (by have:=(mu j hj).1;omega))).trans' cS (fun j hj=>.inr (by simp at hj;omega)))
 refine ih (l.length-(i+1)) _ _ ⟨i+1,w2,u',rfl,by omega,by simp [t4],by simp [t6],by simp,by simp [t24],by simp [t25],?_,by rw [hnx];exact gC,by rw [hnx];exact o5,fun j hj=>by have:=m2 j hj;omega,fun hh=>by have:=m2 _ hh;omega,d2,by rw [hnx];exact ou5,fun j hj=>?_,fun j hj hh=>?_,cH5,bR5⟩ (by omega)
 ·simp;rw [Q0 (by omega) (by omega)]
 ·rcases n4 j hj with h|h
  ·exact mu j h
  ·omega
 ·have hlt:=Qs.lt o2 j hj
  rcases n4 j hh with h|h
  ·have:=m2 j hj;have:=ltu j h;omega
  ·omega
theorem gw {v:Yj} {a:Ww} {lv:Value} {l:List Yy} (o:Qs.Ow H v a) (ol:Ox.Ow H lv l) (h9:Xf 1048576 a.1.2.2.2.2.2.2.1) :
 wp (Qh C frz 8 [Qs.val v a,lv] H) (yy H (Rt a l)):=by
 have hr:=ol.1.rd
 have hn:=ol.2
 have oneA:=Q8 o
 have ones:=oneA.1
 have Wi:=oneA.2
 have ecopy:=fun K (c:Qp H K [])=>Ma (frz:=H.length) (H:=K) (v:=v) (a:=a) (Dt.chg (T:=Qs) o c (by simp))
 have ck:=fun F K (c:Qp H K [])=>N5 (frz:=F) (H:=K) (v:=v) (a:=a) (Dt.chg (T:=Qs) o c (by simp))
 simp only [Qo] at ecopy ck ⊢
 rw [Qb (fn:=Tryz.f8) Tryz.func8 rfl (by kernel_rfl) rfl]
 obtain ⟨G,hG⟩:∃G,G=H++[⟨Qg v a,0,51⟩,⟨X5,0,51⟩]:=⟨_,rfl⟩
 have cG:Qp H G []:=by rw [hG];exact Qp.app _
 have b0:G[H.length]? = some ⟨Qg v a,0,51⟩:=by rw [hG];simp
 have bR:G[H.length+1]? = some ⟨X5,0,51⟩:=by rw [hG];simp
 have lG:G.length=H.length+2:=by rw [hG];simp
 have hGs:=hG.symm
 unfold Qg Qc X5 at hGs
 simp only [List.cons_append,List.nil_append] at hGs
 simp [ones,Wi]
 rw [hGs]
 clear hG hGs
 have b0':=b0
 unfold Qg Qc at b0'
 simp only [List.cons_append,List.nil_append] at b0'
 try simp [VM.look,b0',ones,Wi]
 refine Ql (ecopy G cG) ?_
 rintro _ K ⟨n,rfl,on,cn,mn,dn⟩
 have cK:Qp H K []:=cG.trans cn
 have b0:=Qa b0 cn (by simp)
 have bR:=Qa bR cn (by simp)
 have oneN:=Q8 on
 have qn:=oneN.1
 have qn2:=oneN.2
 have lK:=cn.1
 have hFK:H.length≤K.length:=by omega
 obtain ⟨K2,hK2⟩:∃K2,K2=K++[⟨Qg n a,0,51⟩,⟨[],0,3⟩]:=⟨_,rfl⟩
 have c12:Qp K K2 []:=by rw [hK2];exact Qp.app _
 have cK2:=cK.trans c12
 have l2:K2.length=K.length+2:=by rw [hK2];simp
 have b0:=Qa b0 c12 (by simp)
 have bR:=Qa bR c12 (by simp)
 have bC:K2[K.length]? = some ⟨Qg n a,0,51⟩:=by rw [hK2];simp
 have oI:Ow Fl.int 3 K2 (.slice (some ⟨K.length+1,0,some 0⟩) 0 0) []:=by rw [hK2];exact Ow.new (D:=Fl.int) (xs:=[]) (k:=1) rfl rfl rfl rfl
 have on2:=Dt.chg (T:=Qs) on c12 (by simp)
 have hF:H.length≤H.length+1:=by omega
 have mn':∀i∈Qs.ids n,H.length+2≤i:=fun i hi=>by have:=mn i hi;omega
 have ltn:∀i∈Qs.ids n,i<K.length:=fun i hi=>Qs.lt on i hi
 have hFB:H.length≤K.length:=by omega
 have hKs:=hK2.symm
 unfold Qg Qc at hKs
 simp only [List.cons_append,List.nil_append] at hKs
 simp [Qo,VM.look,qn,qn2,hFB]
 rw [hKs]
 clear hK2 hKs
 have ck':=fun F=>ck F K2 cK2
 have b0':=b0
 have bC':=bC
 have bR':=bR
 have gR:=Qq (r':=⟨Qg n a,0,51⟩) bR
 have bad:¬M4 a l→yy H (Rt a l) (.tuple #[Qs.val n a,.slice (some ⟨K.length+1,0,some 0⟩) 0 0]) (K2.set (H.length+1) ⟨Qg n a,0,51⟩):=fun hb=>
  Qbb (y:=(a,[])) on2 ⟨oI,by simp⟩ cK2 mn' dn (fun i hi=>by simp [Ip] at hi;omega) (fun i hi hh=>by have:=ltn i hi;simp [Ip] at hh;omega) (if_neg hb)
 unfold X5 at bR'
 unfold Qg Qc at b0' bC' gR bad
 simp only [List.cons_append,List.nil_append] at b0' bC' gR bad
 have ll:=fun (J:Qd) (c:Qp H J [])=>(hr.chg c (by simp)).len (P:=Tryz.prog) (ty:=55) (by simp)
 have l2':=ll K2 cK2
 by_cases g0:Xq a
 rotate_left
 ·have hM:=bad (fun h=>g0 h.1)
  simp [VM.look,b0',ones,Wi,ck',g0,bC',qn,qn2,bR',gR,hF]
  simpa [Qo] using hM
 simp [VM.look,b0',ck',g0,l2']
 refine Qm ?_ ?_<;>intro g1
 ·have hM:=bad (fun h=>by have:=h.2;omega)
  simp [VM.look,bC',qn,qn2,bR',gR,hF]
  simpa [Qo] using hM
 have g:M4 a l:=⟨g0,by omega⟩
 simp [l2']
 refine Qw (fun m t H'=>∃(i:Nat) (w:Yj) (u:Value),m=l.length-i∧i≤l.length∧t 1=lv∧t 4=.pointer (some ⟨H.length+1,0,some 0⟩)∧t 6=.pointer (some ⟨K.length,0,some 0⟩)∧t 7=u∧t 8=.int .i64 i∧
  H'[K.length]? = some ⟨Qg w (Zr a l i).1,0,51⟩∧Qs.Ow H' w (Zr a l i).1∧(∀j∈Qs.ids w,H.length+2≤j)∧K.length∉Qs.ids w∧(Qs.ids w).Nodup∧VM.Ow Fl.int 3 H' u (Zr a l i).2∧(∀j∈VM.ids u,H.length+2≤j∧j≠K.length)∧(∀j∈Qs.ids w,j∉VM.ids u)∧Qp H H' []∧H'[H.length+1]? = some ⟨X5,0,51⟩) ?_ (n:=l.length)
  ⟨0,n,.slice (some ⟨K.length+1,0,some 0⟩) 0 0,rfl,by omega,by simp,by simp,by simp,by simp,by simp,bC,on2,mn',fun hh=>by have:=ltn _ hh;omega,dn,oI,fun j hj=>by simp at hj;omega,fun j hj hh=>by have:=ltn j hj;simp at hh;omega,cK2,bR⟩
 rintro m t J ⟨i,w,u,rfl,hi,t1,t4,t6,t7,t8,bC,ow,mw,nB,dw,ou,mu,xw,cJ,bR⟩ ih
 have lJ:=cJ.1
 have hBJ:=Wj bC
 have lJl:=ll J cJ
 simp [t8,t1,lJl]
 refine Qm ?_ ?_<;>intro h
 rotate_left
 ·have he:i=l.length:=by omega
  subst he
  obtain ⟨y,hy⟩:∃y,y=Zr a l l.length:=⟨_,rfl⟩
  rw [← hy] at bC ow ou
  have oneW:=Q8 ow
  have p1:=oneW.1
  have p2:=oneW.2
  have gR:=Qq (r':=⟨Qg w y.1,0,51⟩) bR
  have hM:=Qbb (r:=⟨Qg w y.1,0,51⟩) (y:=y) (z:=Rt a l) ow ⟨ou,by rw [hy,S7 a l _ (by omega)];omega⟩ cJ mw dw (fun j hj=>(mu j hj).1) xw (by rw [hy,Ej g])
  unfold X5 at bR
  unfold Qg Qc at bC gR hM
  simp only [List.cons_append,List.nil_append] at bC gR hM
  simp [t4,t6,t7,VM.look,bC,p1,p2,bR,gR,hF]
  simpa [Qo] using hM
 have hi':i<l.length:=by omega
 obtain ⟨q1,q2⟩:=jg (hr.chg cJ (by simp)) hi' hn
 have has:=Rr (a:=a) hi'
 obtain ⟨c,hc⟩:∃c,c=l[i]:=⟨_,rfl⟩
 rw [← hc] at q2 has
 obtain ⟨z,hz⟩:∃z,z=Zr a l i:=⟨_,rfl⟩
 have harr:Xf 66000000 z.1.1.2.2.2.2.2.2.1:=by rw [hz];exact Xe (Lm l (by omega) h9 i hi) (by omega)
 have hzl:z.2.length=i:=by rw [hz];exact S7 a l i hi
 rw [← hz] at bC ow ou has
 have oneW:=Q8 ow
 have p1:=oneW.1
 have p2:=oneW.2
 have Qan:=bC
 unfold Qg Qc at Qan
 simp only [List.cons_append,List.nil_append] at Qan
 have od:=Qf3 (frz:=H.length) (k:=c.1) (p:=c.2.1) (q:=c.2.2.1) (r:=c.2.2.2.1) (s:=c.2.2.2.2) ow harr
 simp only [Qo] at od
 simp [t1,t6,t8]
 rw [Qv (h:=by kernel_rfl)]
 simp [t1,t6,t8,VM.look,Qan,q1,q2]
 refine Ql od ?_
 rintro _ J2 ⟨_,rfl,w2,rfl,o2,c2,m2,d2⟩
 obtain ⟨y,hy⟩:∃y,y=Tg z.1 c.1 c.2.1 c.2.2.1 c.2.2.2.1 c.2.2.2.2:=⟨_,rfl⟩
 have hnx:Zr a l (i+1)=(y.1,z.2++[y.2]):=by rw [has,hy];rfl
 rw [← hy] at o2
 have oneY:=Q8 o2
 have y1:=oneY.1
 have y2:=oneY.2
 have lJ2:=c2.1
 have bC2:=Qa bC c2 (by simp)
 have bR2:=Qa bR c2 (by simp)
 have ou2:=ou.chg c2 (by simp)
 obtain ⟨J3,hJ3⟩:∃J3,J3=J2++[⟨Qg w2 y.1,0,51⟩]:=⟨_,rfl⟩
 have cJ3:Qp J2 J3 []:=by rw [hJ3];exact Qp.app _
 have lJ3:J3.length=J2.length+1:=by rw [hJ3];simp
 have bY:J3[J2.length]? = some ⟨Qg w2 y.1,0,51⟩:=by rw [hJ3];simp
 have bC3:=Qa bC2 cJ3 (by simp)
 have bR3:=Qa bR2 cJ3 (by simp)
 have ou3:=ou2.chg cJ3 (by simp)
 have o3:=Dt.chg (T:=Qs) o2 cJ3 (by simp)
 have Qec:H.length≤J2.length:=by omega
 have hJs:=hJ3.symm
 unfold Qg Qc at hJs
 simp only [List.cons_append,List.nil_append] at hJs
 simp [Qo,← hy,y1,y2,Qec]
 rw [hJs]
 clear hJ3 hJs
 have gC:=Qq (r':=⟨Qg w2 y.1,0,51⟩) bC3
 have cS:Qp J3 (J3.set K.length ⟨Qg w2 y.1,0,51⟩) [K.length]:=Qn _ _
 obtain ⟨J4,hJ4⟩:∃J4,J4=J3.set K.length ⟨Qg w2 y.1,0,51⟩:=⟨_,rfl⟩
 have lJ4:J4.length=J3.length:=by rw [hJ4];simp
 rw [← hJ4] at gC cS
 have o4:=Dt.chg (T:=Qs) o3 cS (fun j hj hh=>by have:=m2 j hj;simp at hh;omega)
 have ou4:=ou3.chg cS (fun j hj hh=>by simp at hh;exact (mu j hj).2 hh)
 have bR4:=Qa bR3 cS (by simp;omega)
 have hJs:=hJ4.symm
 have bY':=bY
 have Qkm:=bC3
 unfold Qg Qc at bY' Qkm hJs
 simp only [List.cons_append,List.nil_append] at bY' Qkm hJs
 simp [t6,VM.look,bY',Qkm,y1,y2,hFB]
 rw [hJs]
 clear hJ4 hJs
 obtain ⟨u',J5,hap,ou5,c5,n5⟩:=ou4.push (P:=Tryz.prog) (frz:=H.length) (ty:=24) (a:=y.2) (by simp) rfl (by omega) (fun j hj=>by have:=(mu j hj).1;omega)
 simp only [Fl.int_f,lJ4] at hap
 have ltu:∀j∈VM.ids u,j<J.length:=fun j hj=>ou.lt j hj
 have lJ5:=c5.1
 have gC5:=Qa gC c5 (fun hh=>(mu _ hh).2 rfl)
 have bR5:=Qa bR4 c5 (fun hh=>by have:=(mu _ hh).1;omega)
 have o5:=Dt.chg (T:=Qs) o4 c5 (fun j hj hh=>by have:=m2 j hj;have:=ltu j hh;omega)
 simp [-Q5,-Wm,t7,t8,hap]
 have cH5:Qp H J5 []:=((((cJ.trans c2).trans cJ3).trans' cS (fun j hj=>.inr (by simp at hj;omega))).trans' c5 (fun j hj=>.inr (by have:=(mu j hj).1;omega)))
 refine ih (l.length-(i+1)) _ _ ⟨i+1,w2,u',rfl,by omega,by simp [t1],by simp [t4],by simp [t6],by simp,?_,by rw [hnx];exact gC5,by rw [hnx];exact o5,fun j hj=>by have:=m2 j hj;omega,fun hh=>by have:=m2 _ hh;omega,d2,by rw [hnx];exact ou5,fun j hj=>?_,fun j hj hh=>?_,cH5,bR5⟩ (by omega)
 ·simp;rw [Q0 (by omega) (by omega)]
 ·rcases n5 j hj with h|h
  ·exact mu j h
  ·omega
 ·have hlt:=Qs.lt o2 j hj
  rcases n5 j hh with h|h
  ·have:=m2 j hj;have:=ltu j h;omega
  ·omega
theorem law_FnExactRunActs_w {a0_0:Int} {a0_1:Int} {a0_2:List (Int)} {u0_2:Value} {a0_3:List (Int)} {u0_3:Value} {a0_4:List (Int)} {u0_4:Value} {a0_5:List (List (Int×Int×Int×Bool×Bool))} {u0_5:Value} {a0_6:List (Int)} {u0_6:Value} {a0_7:List (Int)} {u0_7:Value} {a0_8:List (List (Int×Int×Int×Bool×Bool))} {u0_8:Value} {a0_9:List (List (Int×Int×Int×Bool×Bool))} {u0_9:Value} {a0_10:Int} {a0_11:List (Int×Int×Int×Int×Int)} {u0_11:Value} {a1:List (Int×Int×Int×Int×Int)} {u1:Value} (s0_2:Pn (Kn.int .i64) H u0_2 a0_2) (s0_3:Pn (Kn.int .i64) H u0_3 a0_3) (s0_4:Pn (Kn.int .i64) H u0_4 a0_4) (s0_5:Pn (Kn.slice (Kn.pair (Kn.int .i64) (Kn.pair (Kn.int .i64) (Kn.pair (Kn.int .i64) (Kn.pair Kn.bool Kn.bool))))) H u0_5 a0_5) (s0_6:Pn (Kn.int .i64) H u0_6 a0_6) (s0_7:Pn (Kn.int .i64) H u0_7 a0_7) (s0_8:Pn (Kn.slice (Kn.pair (Kn.int .i64) (Kn.pair (Kn.int .i64) (Kn.pair (Kn.int .i64) (Kn.pair Kn.bool Kn.bool))))) H u0_8 a0_8) (s0_9:Pn (Kn.slice (Kn.pair (Kn.int .i64) (Kn.pair (Kn.int .i64) (Kn.pair (Kn.int .i64) (Kn.pair Kn.bool Kn.bool))))) H u0_9 a0_9) (s0_11:Pn (Kn.pair (Kn.int .i64) (Kn.pair (Kn.int .i64) (Kn.pair (Kn.int .i64) (Kn.pair (Kn.int .i64) (Kn.int .i64))))) H u0_11 a0_11) (s1:Pn (Kn.pair (Kn.int .i64) (Kn.pair (Kn.int .i64) (Kn.pair (Kn.int .i64) (Kn.pair (Kn.int .i64) (Kn.int .i64))))) H u1 a1)
 (w0:(((((Lit.int .i64 a0_0).wf=true)∧((Lit.int .i64 a0_1).wf=true))∧(a0_2.length≤maxLen∧∀x1∈a0_2,(Lit.int .i64 x1).wf=true))∧(((a0_3.length≤maxLen∧∀x2∈a0_3,(Lit.int .i64 x2).wf=true))∧((a0_4.length≤maxLen∧∀x3∈a0_4,(Lit.int .i64 x3).wf=true)))∧(a0_5.length≤maxLen∧∀x4∈a0_5,x4.length≤maxLen∧∀x5∈x4,((Lit.int .i64 x5.1).wf=true)∧((Lit.int .i64 x5.2.1).wf=true)∧((Lit.int .i64 x5.2.2.1).wf=true)∧(True)∧(True))∧(a0_6.length≤maxLen∧∀x6∈a0_6,(Lit.int .i64 x6).wf=true)∧(a0_7.length≤maxLen∧∀x7∈a0_7,(Lit.int .i64 x7).wf=true)∧(a0_8.length≤maxLen∧∀x8∈a0_8,x8.length≤maxLen∧∀x9∈x8,((Lit.int .i64 x9.1).wf=true)∧((Lit.int .i64 x9.2.1).wf=true)∧((Lit.int .i64 x9.2.2.1).wf=true)∧(True)∧(True))∧(a0_9.length≤maxLen∧∀x10∈a0_9,x10.length≤maxLen∧∀x11∈x10,((Lit.int .i64 x11.1).wf=true)∧((Lit.int .i64 x11.2.1).wf=true)∧((Lit.int .i64 x11.2.2.1).wf=true)∧(True)∧(True))∧((Lit.int .i64 a0_10).wf=true))∧(a0_11.length≤maxLen∧∀x12∈a0_11,((Lit.int .i64 x12.1).wf=true)∧((Lit.int .i64 x12.2.1).wf=true)∧((Lit.int .i64 x12.2.2.1).wf=true)∧((Lit.int .i64 x12.2.2.2.1).wf=true)∧((Lit.int .i64 x12.2.2.2.2).wf=true))) (w1:a1.length≤maxLen∧∀x13∈a1,((Lit.int .i64 x13.1).wf=true)∧((Lit.int .i64 x13.2.1).wf=true)∧((Lit.int .i64 x13.2.2.1).wf=true)∧((Lit.int .i64 x13.2.2.2.1).wf=true)∧((Lit.int .i64 x13.2.2.2.2).wf=true)) :
 wp (Qh C frz 3 [.agg #[.int .i64 a0_0,.int .i64 a0_1,u0_2,u0_3,u0_4,u0_5,u0_6,u0_7,u0_8,u0_9,.int .i64 a0_10,u0_11],u1] H) (fun r _=>r=.bool true):=by
 have r0_2:=s0_2.ints.rd
 have r0_3:=s0_3.ints.rd
 have r0_4:=s0_4.ints.rd
 obtain ⟨h0_5,r0_5⟩:=Pn.rdL_of (fun hh=>Pn.rd_of rfl Qao hh) s0_5
 have r0_6:=s0_6.ints.rd
 have r0_7:=s0_7.ints.rd
 obtain ⟨h0_8,r0_8⟩:=Pn.rdL_of (fun hh=>Pn.rd_of rfl Qao hh) s0_8
 obtain ⟨h0_9,r0_9⟩:=Pn.rdL_of (fun hh=>Pn.rd_of rfl Qao hh) s0_9
 have r0_11:=Pn.rd_of (D:=U7) rfl Qe2 s0_11
 have r1:=Pn.rd_of (D:=U7) rfl Qe2 s1
 have rl0_2:=fun (L:Qd)=>(Rd.app (L:=L) r0_2).len (P:=Tryz.prog) (ty:=24) (by simp)
 have rm0_2:=r0_2.len (P:=Tryz.prog) (ty:=24) (by simp)
 have rl0_3:=fun (L:Qd)=>(Rd.app (L:=L) r0_3).len (P:=Tryz.prog) (ty:=24) (by simp)
 have rm0_3:=r0_3.len (P:=Tryz.prog) (ty:=24) (by simp)
 have rl0_4:=fun (L:Qd)=>(Rd.app (L:=L) r0_4).len (P:=Tryz.prog) (ty:=24) (by simp)
 have rm0_4:=r0_4.len (P:=Tryz.prog) (ty:=24) (by simp)
 have rl0_6:=fun (L:Qd)=>(Rd.app (L:=L) r0_6).len (P:=Tryz.prog) (ty:=24) (by simp)
 have rm0_6:=r0_6.len (P:=Tryz.prog) (ty:=24) (by simp)
 have rl0_7:=fun (L:Qd)=>(Rd.app (L:=L) r0_7).len (P:=Tryz.prog) (ty:=24) (by simp)
 have rm0_7:=r0_7.len (P:=Tryz.prog) (ty:=24) (by simp)
 have rl0_11:=fun (L:Qd)=>(Rd.app (L:=L) r0_11).len (P:=Tryz.prog) (ty:=34) (by simp)
 have rm0_11:=r0_11.len (P:=Tryz.prog) (ty:=34) (by simp)
 have rl1:=fun (L:Qd)=>(Rd.app (L:=L) r1).len (P:=Tryz.prog) (ty:=37) (by simp)
 have rm1:=r1.len (P:=Tryz.prog) (ty:=37) (by simp)
 rw [Qb (fn:=Tryz.f3) Tryz.func3 rfl (by kernel_rfl) rfl]
 have ro0_2:=And.intro r0_2.one' r0_2.cells
 have ro0_3:=And.intro r0_3.one' r0_3.cells
 have ro0_4:=And.intro r0_4.one' r0_4.cells
 have ro0_5:=And.intro r0_5.1.one' r0_5.1.cells
 have ro0_6:=And.intro r0_6.one' r0_6.cells
 have ro0_7:=And.intro r0_7.one' r0_7.cells
 have ro0_8:=And.intro r0_8.1.one' r0_8.1.cells
 have ro0_9:=And.intro r0_9.1.one' r0_9.1.cells
 have ro0_11:=And.intro r0_11.one' r0_11.cells
 have ro1:=And.intro r1.one' r1.cells
 simp [VM.look,ro0_2,rl0_2,rm0_2,ro0_3,rl0_3,rm0_3,ro0_4,rl0_4,rm0_4,ro0_5,ro0_6,rl0_6,rm0_6,ro0_7,rl0_7,rm0_7,ro0_8,ro0_9,ro0_11,rl0_11,rm0_11,ro1,rl1,rm1]
 have sz0:=fun F (L:Qd)=>Qek (frz:=F) (H:=H++L) a0_0 a0_1 a0_10 1048576 u0_2 u0_3 u0_4 u0_5 u0_6 u0_7 u0_8 u0_9 u0_11 h0_5 h0_8 h0_9 a0_2 a0_3 a0_4 a0_6 a0_7 a0_5 a0_8 a0_9 a0_11 (W7.rd (Rd.isI (Rd.chg r0_2 ((Qp.refl (H:=H) []).trans (Qp.app [])) (by simp)))) (W7.rd (Rd.isI (Rd.chg r0_3 ((Qp.refl (H:=H) []).trans (Qp.app [])) (by simp)))) (W7.rd (Rd.isI (Rd.chg r0_4 ((Qp.refl (H:=H) []).trans (Qp.app [])) (by simp)))) (To.chg r0_5 ((Qp.refl (H:=H) []).trans (Qp.app [])) (by simp)) (W7.rd (Rd.isI (Rd.chg r0_6 ((Qp.refl (H:=H) []).trans (Qp.app [])) (by simp)))) (W7.rd (Rd.isI (Rd.chg r0_7 ((Qp.refl (H:=H) []).trans (Qp.app [])) (by simp)))) (To.chg r0_8 ((Qp.refl (H:=H) []).trans (Qp.app [])) (by simp)) (To.chg r0_9 ((Qp.refl (H:=H) []).trans (Qp.app [])) (by simp)) (Rd.chg r0_11 ((Qp.refl (H:=H) []).trans (Qp.app [])) (by simp)) (by have:=w0.1.1.2.1;simpa [maxLen] using this) (by have:=w0.1.2.1.1.1;simpa [maxLen] using this) (by have:=w0.1.2.1.2.1;simpa [maxLen] using this) (by have:=w0.1.2.2.1.1;simpa [maxLen] using this) (fun x hx=>by have:=(w0.1.2.2.1.2 x hx).1;simpa [maxLen] using this) (by have:=w0.1.2.2.2.1.1;simpa [maxLen] using this) (by have:=w0.1.2.2.2.2.1.1;simpa [maxLen] using this) (by have:=w0.1.2.2.2.2.2.1.1;simpa [maxLen] using this) (fun x hx=>by have:=(w0.1.2.2.2.2.2.1.2 x hx).1;simpa [maxLen] using this) (by have:=w0.1.2.2.2.2.2.2.1.1;simpa [maxLen] using this) (fun x hx=>by have:=(w0.1.2.2.2.2.2.2.1.2 x hx).1;simpa [maxLen] using this) (by have:=w0.2.1;simpa [maxLen] using this) (by omega) (by omega)
 simp [VM.look,ro0_2,rl0_2,rm0_2,ro0_3,rl0_3,rm0_3,ro0_4,rl0_4,rm0_4,ro0_5,ro0_6,rl0_6,rm0_6,ro0_7,rl0_7,rm0_7,ro0_8,ro0_9,ro0_11,rl0_11,rm0_11,ro1,rl1,rm1,sz0]
 refine Qm ?_ ?_<;>intro g1<;>simp [g1]
 have t0:(a0_2.length:Int)+((a0_3.length:Int)+(a0_4.length:Int))+(R3 a0_5:Int)+(a0_6.length:Int)+(a0_7.length:Int)+(R3 a0_8:Int)+(R3 a0_9:Int)+(a0_11.length:Int)≤1048576:=by split at g1<;>omega
 have f0:¬(1048576:Int)<(a0_2.length:Int)+((a0_3.length:Int)+(a0_4.length:Int))+(R3 a0_5:Int)+(a0_6.length:Int)+(a0_7.length:Int)+(R3 a0_8:Int)+(R3 a0_9:Int)+(a0_11.length:Int):=by omega
 simp only [if_neg f0]
 try simp [VM.look,ro0_2,rl0_2,rm0_2,ro0_3,rl0_3,rm0_3,ro0_4,rl0_4,rm0_4,ro0_5,ro0_6,rl0_6,rm0_6,ro0_7,rl0_7,rm0_7,ro0_8,ro0_9,ro0_11,rl0_11,rm0_11,ro1,rl1,rm1,f0]
 have sz1:=fun F (L:Qd)=>Qfk (frz:=F) (H:=H++L) u1 a1 (1048576-((a0_2.length:Int)+((a0_3.length:Int)+(a0_4.length:Int))+(R3 a0_5:Int)+(a0_6.length:Int)+(a0_7.length:Int)+(R3 a0_8:Int)+(R3 a0_9:Int)+(a0_11.length:Int))) (Rd.chg r1 ((Qp.refl (H:=H) []).trans (Qp.app [])) (by simp)) (by omega) (by omega) (by have:=w1.1;simp [maxLen] at this;omega)
 simp [VM.look,ro0_2,rl0_2,rm0_2,ro0_3,rl0_3,rm0_3,ro0_4,rl0_4,rm0_4,ro0_5,ro0_6,rl0_6,rm0_6,ro0_7,rl0_7,rm0_7,ro0_8,ro0_9,ro0_11,rl0_11,rm0_11,ro1,rl1,rm1,sz1,f0]
 refine Qm ?_ ?_<;>intro g2<;>simp [g2]
 have t1:(a1.length:Int)≤(1048576-((a0_2.length:Int)+((a0_3.length:Int)+(a0_4.length:Int))+(R3 a0_5:Int)+(a0_6.length:Int)+(a0_7.length:Int)+(R3 a0_8:Int)+(R3 a0_9:Int)+(a0_11.length:Int))):=by split at g2<;>omega
 have f1:¬((1048576-((a0_2.length:Int)+((a0_3.length:Int)+(a0_4.length:Int))+(R3 a0_5:Int)+(a0_6.length:Int)+(a0_7.length:Int)+(R3 a0_8:Int)+(R3 a0_9:Int)+(a0_11.length:Int))):Int)<(a1.length:Int):=by omega
 simp only [if_neg f1]
 try simp [VM.look,ro0_2,rl0_2,rm0_2,ro0_3,rl0_3,rm0_3,ro0_4,rl0_4,rm0_4,ro0_5,ro0_6,rl0_6,rm0_6,ro0_7,rl0_7,rm0_7,ro0_8,ro0_9,ro0_11,rl0_11,rm0_11,ro1,rl1,rm1,f0,f1]
 refine Ql (Lt a0_0 a0_1 a0_10 u0_2 u0_3 u0_4 u0_5 u0_6 u0_7 u0_8 u0_9 u0_11 h0_5 h0_8 h0_9 a0_2 a0_3 a0_4 a0_6 a0_7 a0_5 a0_8 a0_9 a0_11 (W7.rd (Rd.isI (Rd.chg r0_2 ((Qp.refl (H:=H) []).trans (Qp.app [])) (by simp)))) (W7.rd (Rd.isI (Rd.chg r0_3 ((Qp.refl (H:=H) []).trans (Qp.app [])) (by simp)))) (W7.rd (Rd.isI (Rd.chg r0_4 ((Qp.refl (H:=H) []).trans (Qp.app [])) (by simp)))) (To.chg r0_5 ((Qp.refl (H:=H) []).trans (Qp.app [])) (by simp)) (W7.rd (Rd.isI (Rd.chg r0_6 ((Qp.refl (H:=H) []).trans (Qp.app [])) (by simp)))) (W7.rd (Rd.isI (Rd.chg r0_7 ((Qp.refl (H:=H) []).trans (Qp.app [])) (by simp)))) (To.chg r0_8 ((Qp.refl (H:=H) []).trans (Qp.app [])) (by simp)) (To.chg r0_9 ((Qp.refl (H:=H) []).trans (Qp.app [])) (by simp)) (Rd.chg r0_11 ((Qp.refl (H:=H) []).trans (Qp.app [])) (by simp)) (by omega) (by omega) (by omega) (by have:=Vg a0_5;omega) (fun x hx=>by have:=Vh a0_5 x hx;omega) (by omega) (by omega) (by have:=Vg a0_8;omega) (fun x hx=>by have:=Vh a0_8 x hx;omega) (by have:=Vg a0_9;omega) (fun x hx=>by have:=Vh a0_9 x hx;omega) (by omega)) ?_
 rintro _ H1 ⟨v_x0,rfl,o_x0,c1,n_x0,d_x0⟩
 have l1:=c1.1
 try simp at l1
 have b1_2:=Qa ((Kk _ _).trans rfl) c1 (by simp)
 have cH1:Qp H H1 []:=((Qp.refl (H:=H) []).trans (Qp.app [])).trans c1
 have h_x0:=Qs.lt o_x0
 try simp at n_x0
 have one_x0:=Q8 o_x0
 simp [VM.look,b1_2,Qj b1_2,cH1.1,Nat.le_add_right_of_le cH1.1,one_x0,ro0_2,ro0_3,ro0_4,ro0_5,ro0_6,ro0_7,ro0_8,ro0_9,ro0_11,ro1,Qo,f0,f1]
 refine Ql (Lq u1 a1 (Rd.chg r1 cH1 (by simp)) (by omega)) ?_
 rintro _ H2 ⟨v_x1,rfl,o_x1,c2,n_x1,d_x1⟩
 have l2:=c2.1
 try simp at l2
 have b2_2:=Qa b1_2 c2 (by simp)
 have o2_x0:=Dt.chg0 o_x0 c2
 have cH2:Qp H H2 []:=(cH1).trans c2
 have h_x1:=Ox.lt o_x1
 try simp at n_x1
 have one_x1:=Lu o_x1
 simp [VM.look,b2_2,Qj b2_2,cH2.1,Nat.le_add_right_of_le cH2.1,one_x0,one_x1,ro0_2,ro0_3,ro0_4,ro0_5,ro0_6,ro0_7,ro0_8,ro0_9,ro0_11,ro1,Qo,Wv,f0,f1]
 have ex3:=gw (frz:=H.length) (H:=H2) o2_x0 o_x1 (fun x hx=>by have:=Vh a0_9 x hx;omega)
 try simp only [Qo,Wv] at ex3
 refine Ql ex3 ?_
 rintro _ H3 ⟨v_w2,v_w3,rfl,o_w2,o_w3,c3,n_w2,d_w2,n_w3,d_w3,z_w2⟩
 clear ex3
 have l3:=c3.1
 try simp at l3
 have b3_2:=Qa b2_2 c3 (by simp)
 have o3_x0:=Dt.chg0 o2_x0 c3
 have o3_x1:=Dt.chg0 o_x1 c3
 have cH3:Qp H H3 []:=(cH2).trans c3
 have h_w2:=Qs.lt o_w2
 try simp at n_w2
 have one_w2:=Q8 o_w2
 have h_w3:=Qf.lt o_w3
 try simp at n_w3
 have one_w3:=Zt o_w3
 simp [VM.look,b3_2,Qj b3_2,cH3.1,Nat.le_add_right_of_le cH3.1,one_x0,one_x1,one_w2,one_w3,ro0_2,ro0_3,ro0_4,ro0_5,ro0_6,ro0_7,ro0_8,ro0_9,ro0_11,ro1,Qo,Wv,Wl,f0,f1]
 refine Ql (Lt a0_0 a0_1 a0_10 u0_2 u0_3 u0_4 u0_5 u0_6 u0_7 u0_8 u0_9 u0_11 h0_5 h0_8 h0_9 a0_2 a0_3 a0_4 a0_6 a0_7 a0_5 a0_8 a0_9 a0_11 (W7.rd (Rd.isI (Rd.chg r0_2 (cH3.trans (Qp.app [])) (by simp)))) (W7.rd (Rd.isI (Rd.chg r0_3 (cH3.trans (Qp.app [])) (by simp)))) (W7.rd (Rd.isI (Rd.chg r0_4 (cH3.trans (Qp.app [])) (by simp)))) (To.chg r0_5 (cH3.trans (Qp.app [])) (by simp)) (W7.rd (Rd.isI (Rd.chg r0_6 (cH3.trans (Qp.app [])) (by simp)))) (W7.rd (Rd.isI (Rd.chg r0_7 (cH3.trans (Qp.app [])) (by simp)))) (To.chg r0_8 (cH3.trans (Qp.app [])) (by simp)) (To.chg r0_9 (cH3.trans (Qp.app [])) (by simp)) (Rd.chg r0_11 (cH3.trans (Qp.app [])) (by simp)) (by omega) (by omega) (by omega) (by have:=Vg a0_5;omega) (fun x hx=>by have:=Vh a0_5 x hx;omega) (by omega) (by omega) (by have:=Vg a0_8;omega) (fun x hx=>by have:=Vh a0_8 x hx;omega) (by have:=Vg a0_9;omega) (fun x hx=>by have:=Vh a0_9 x hx;omega) (by omega)) ?_
 rintro _ H4 ⟨v_x4,rfl,o_x4,c4,n_x4,d_x4⟩
 have l4:=c4.1
 try simp at l4
 have b4_6:=Qa ((Kk _ _).trans rfl) c4 (by simp)
 have b4_2:=Qa (Qj b3_2 _) c4 (by simp)
 have o4_x0:=Dt.chg0 (Dt.app o3_x0) c4
 have o4_x1:=Dt.chg0 (Dt.app o3_x1) c4
 have o4_w2:=Dt.chg0 (Dt.app o_w2) c4
 have o4_w3:=Dt.chg0 (Dt.app o_w3) c4
 have cH4:Qp H H4 []:=(cH3.trans (Qp.app [])).trans c4
 have h_x4:=Qs.lt o_x4
 try simp at n_x4
 have one_x4:=Q8 o_x4
 simp [VM.look,b4_2,b4_6,Qj b4_2,Qj b4_6,cH4.1,Nat.le_add_right_of_le cH4.1,one_x0,one_x1,one_w2,one_w3,one_x4,ro0_2,ro0_3,ro0_4,ro0_5,ro0_6,ro0_7,ro0_8,ro0_9,ro0_11,ro1,Qo,Wv,Wl,f0,f1]
 refine Ql (Lq u1 a1 (Rd.chg r1 (cH4.trans (Qp.app [])) (by simp)) (by omega)) ?_
 rintro _ H5 ⟨v_x5,rfl,o_x5,c5,n_x5,d_x5⟩
 have l5:=c5.1
 try simp at l5
 have b5_8:=Qa ((Kk _ _).trans rfl) c5 (by simp)
 have b5_2:=Qa (Qj b4_2 _) c5 (by simp)
 have b5_6:=Qa (Qj b4_6 _) c5 (by simp)
 have o5_x0:=Dt.chg0 (Dt.app o4_x0) c5
 have o5_x1:=Dt.chg0 (Dt.app o4_x1) c5
 have o5_w2:=Dt.chg0 (Dt.app o4_w2) c5
 have o5_w3:=Dt.chg0 (Dt.app o4_w3) c5
 have o5_x4:=Dt.chg0 (Dt.app o_x4) c5
 have cH5:Qp H H5 []:=(cH4.trans (Qp.app [])).trans c5
 have h_x5:=Ox.lt o_x5
 try simp at n_x5
 have one_x5:=Lu o_x5
 simp [VM.look,b5_2,b5_6,b5_8,Qj b5_2,Qj b5_6,Qj b5_8,cH5.1,Nat.le_add_right_of_le cH5.1,one_x0,one_x1,one_w2,one_w3,one_x4,one_x5,ro0_2,ro0_3,ro0_4,ro0_5,ro0_6,ro0_7,ro0_8,ro0_9,ro0_11,ro1,Qo,Wv,Wl,f0,f1]
 have ex6:=C4 (frz:=H.length) (H:=H5) o5_x4 o_x5 (fun x hx=>by have:=Vh a0_9 x hx;omega)
 try simp only [Qo,Wv] at ex6
 refine Ql ex6 ?_
 rintro _ H6 ⟨v_g6,v_g7,rfl,o_g6,o_g7,c6,n_g6,d_g6,n_g7,d_g7,z_g6⟩
 clear ex6
 have l6:=c6.1
 try simp at l6
 have b6_2:=Qa b5_2 c6 (by simp)
 have b6_6:=Qa b5_6 c6 (by simp)
 have b6_8:=Qa b5_8 c6 (by simp)
 have o6_x0:=Dt.chg0 o5_x0 c6
 have o6_x1:=Dt.chg0 o5_x1 c6
 have o6_w2:=Dt.chg0 o5_w2 c6
 have o6_w3:=Dt.chg0 o5_w3 c6
 have o6_x4:=Dt.chg0 o5_x4 c6
 have o6_x5:=Dt.chg0 o_x5 c6
 have cH6:Qp H H6 []:=(cH5).trans c6
 have h_g6:=Qs.lt o_g6
 try simp at n_g6
 have one_g6:=Q8 o_g6
 have h_g7:=Qf.lt o_g7
 try simp at n_g7
 have one_g7:=Zt o_g7
 simp [VM.look,b6_2,b6_6,b6_8,Qj b6_2,Qj b6_6,Qj b6_8,cH6.1,Nat.le_add_right_of_le cH6.1,one_x0,one_x1,one_w2,one_w3,one_x4,one_x5,one_g6,one_g7,ro0_2,ro0_3,ro0_4,ro0_5,ro0_6,ro0_7,ro0_8,ro0_9,ro0_11,ro1,Qo,Wv,Wl,f0,f1]
 have eq7:=fun F (L:Qd)=>Kt (frz:=F) (H:=H6++L) (Dt.app o_g6) (Dt.app o6_w2)
 try simp only [Qo] at eq7
 simp [eq7,VM.look,b6_2,b6_6,b6_8,Qj b6_2,Qj b6_6,Qj b6_8,cH6.1,Nat.le_add_right_of_le cH6.1,one_x0,one_x1,one_w2,one_w3,one_x4,one_x5,one_g6,one_g7,ro0_2,ro0_3,ro0_4,ro0_5,ro0_6,ro0_7,ro0_8,ro0_9,ro0_11,ro1,Qo,Wv,Wl,f0,f1]
 have eq8:=fun F (L:Qd)=>Na (frz:=F) (H:=H6++L) (Dt.app o_g7) (Dt.app o6_w3)
 try simp only [Wl] at eq8
 simp [eq8,VM.look,b6_2,b6_6,b6_8,Qj b6_2,Qj b6_6,Qj b6_8,cH6.1,Nat.le_add_right_of_le cH6.1,one_x0,one_x1,one_w2,one_w3,one_x4,one_x5,one_g6,one_g7,ro0_2,ro0_3,ro0_4,ro0_5,ro0_6,ro0_7,ro0_8,ro0_9,ro0_11,ro1,Qo,Wv,Wl,f0,f1]
 rw [Qv (h:=by kernel_rfl)]
 simp [VM.look,b6_2,b6_6,b6_8,Qj b6_2,Qj b6_6,Qj b6_8,cH6.1,Nat.le_add_right_of_le cH6.1,one_x0,one_x1,one_w2,one_w3,one_x4,one_x5,one_g6,one_g7,ro0_2,ro0_3,ro0_4,ro0_5,ro0_6,ro0_7,ro0_8,ro0_9,ro0_11,ro1,Qo,Wv,Wl,f0,f1]
 refine Ql (Lt a0_0 a0_1 a0_10 u0_2 u0_3 u0_4 u0_5 u0_6 u0_7 u0_8 u0_9 u0_11 h0_5 h0_8 h0_9 a0_2 a0_3 a0_4 a0_6 a0_7 a0_5 a0_8 a0_9 a0_11 (W7.rd (Rd.isI (Rd.chg r0_2 (cH6.trans (Qp.app [])) (by simp)))) (W7.rd (Rd.isI (Rd.chg r0_3 (cH6.trans (Qp.app [])) (by simp)))) (W7.rd (Rd.isI (Rd.chg r0_4 (cH6.trans (Qp.app [])) (by simp)))) (To.chg r0_5 (cH6.trans (Qp.app [])) (by simp)) (W7.rd (Rd.isI (Rd.chg r0_6 (cH6.trans (Qp.app [])) (by simp)))) (W7.rd (Rd.isI (Rd.chg r0_7 (cH6.trans (Qp.app [])) (by simp)))) (To.chg r0_8 (cH6.trans (Qp.app [])) (by simp)) (To.chg r0_9 (cH6.trans (Qp.app [])) (by simp)) (Rd.chg r0_11 (cH6.trans (Qp.app [])) (by simp)) (by omega) (by omega) (by omega) (by have:=Vg a0_5;omega) (fun x hx=>by have:=Vh a0_5 x hx;omega) (by omega) (by omega) (by have:=Vg a0_8;omega) (fun x hx=>by have:=Vh a0_8 x hx;omega) (by have:=Vg a0_9;omega) (fun x hx=>by have:=Vh a0_9 x hx;omega) (by omega)) ?_
 rintro _ H9 ⟨v_x8,rfl,o_x8,c9,n_x8,d_x8⟩
 have l9:=c9.1
 try simp at l9
 have b9_10:=Qa ((Kk _ _).trans rfl) c9 (by simp)
 have b9_2:=Qa (Qj b6_2 _) c9 (by simp)
 have b9_6:=Qa (Qj b6_6 _) c9 (by simp)
 have b9_8:=Qa (Qj b6_8 _) c9 (by simp)
 have o9_x0:=Dt.chg0 (Dt.app o6_x0) c9
 have o9_x1:=Dt.chg0 (Dt.app o6_x1) c9
 have o9_w2:=Dt.chg0 (Dt.app o6_w2) c9
 have o9_w3:=Dt.chg0 (Dt.app o6_w3) c9
 have o9_x4:=Dt.chg0 (Dt.app o6_x4) c9
 have o9_x5:=Dt.chg0 (Dt.app o6_x5) c9
 have o9_g6:=Dt.chg0 (Dt.app o_g6) c9
 have o9_g7:=Dt.chg0 (Dt.app o_g7) c9
 have cH9:Qp H H9 []:=(cH6.trans (Qp.app [])).trans c9
 have h_x8:=Qs.lt o_x8
 try simp at n_x8
 have one_x8:=Q8 o_x8
 simp [VM.look,b9_2,b9_6,b9_8,b9_10,Qj b9_2,Qj b9_6,Qj b9_8,Qj b9_10,cH9.1,Nat.le_add_right_of_le cH9.1,one_x0,one_x1,one_w2,one_w3,one_x4,one_x5,one_g6,one_g7,one_x8,ro0_2,ro0_3,ro0_4,ro0_5,ro0_6,ro0_7,ro0_8,ro0_9,ro0_11,ro1,Qo,Wv,Wl,f0,f1]
 have Qqt:=fun F=>Kt (frz:=F) (H:=H9) o9_x4 o_x8
 try simp only [Qo] at Qqt
 simp [Qqt,VM.look,b9_2,b9_6,b9_8,b9_10,Qj b9_2,Qj b9_6,Qj b9_8,Qj b9_10,cH9.1,Nat.le_add_right_of_le cH9.1,one_x0,one_x1,one_w2,one_w3,one_x4,one_x5,one_g6,one_g7,one_x8,ro0_2,ro0_3,ro0_4,ro0_5,ro0_6,ro0_7,ro0_8,ro0_9,ro0_11,ro1,Qo,Wv,Wl,f0,f1]
 refine Ql (Lq u1 a1 (Rd.chg r1 cH9 (by simp)) (by omega)) ?_
 rintro _ H11 ⟨v_x9,rfl,o_x9,c11,n_x9,d_x9⟩
 have l11:=c11.1
 try simp at l11
 have b11_2:=Qa b9_2 c11 (by simp)
 have b11_6:=Qa b9_6 c11 (by simp)
 have b11_8:=Qa b9_8 c11 (by simp)
 have b11_10:=Qa b9_10 c11 (by simp)
 have o11_x0:=Dt.chg0 o9_x0 c11
 have o11_x1:=Dt.chg0 o9_x1 c11
 have o11_w2:=Dt.chg0 o9_w2 c11
 have o11_w3:=Dt.chg0 o9_w3 c11
 have o11_x4:=Dt.chg0 o9_x4 c11
 have o11_x5:=Dt.chg0 o9_x5 c11
 have o11_g6:=Dt.chg0 o9_g6 c11
 have o11_g7:=Dt.chg0 o9_g7 c11
 have o11_x8:=Dt.chg0 o_x8 c11
 have Qad:Qp H H11 []:=(cH9).trans c11
 have h_x9:=Ox.lt o_x9
 try simp at n_x9
 have one_x9:=Lu o_x9
 simp [VM.look,b11_2,b11_6,b11_8,b11_10,Qj b11_2,Qj b11_6,Qj b11_8,Qj b11_10,Qad.1,Nat.le_add_right_of_le Qad.1,one_x0,one_x1,one_w2,one_w3,one_x4,one_x5,one_g6,one_g7,one_x8,one_x9,ro0_2,ro0_3,ro0_4,ro0_5,ro0_6,ro0_7,ro0_8,ro0_9,ro0_11,ro1,Qo,Wv,Wl,f0,f1]
 have Qpz:=fun F=>Qfx (frz:=F) (H:=H11) o11_x5 o_x9
 try simp only [Wv] at Qpz
 simp [Qpz,VM.look,b11_2,b11_6,b11_8,b11_10,Qj b11_2,Qj b11_6,Qj b11_8,Qj b11_10,Qad.1,Nat.le_add_right_of_le Qad.1,one_x0,one_x1,one_w2,one_w3,one_x4,one_x5,one_g6,one_g7,one_x8,one_x9,ro0_2,ro0_3,ro0_4,ro0_5,ro0_6,ro0_7,ro0_8,ro0_9,ro0_11,ro1,Qo,Wv,Wl,f0,f1]
 have Qlo:=Ey (frz:=H.length) (H:=H11) (k:=1) o11_x4 d_x4 (by omega) (fun i hi=>by have:=n_x4 i hi;have:=Qad.1;omega)
 try simp only [Qo] at Qlo
 refine Ql Qlo ?_
 rintro _ H13 ⟨m13,a_x4,rfl,Q3d,Q1m,o13_x4,c13,Q0y⟩
 clear Qlo
 have l13:=c13.1
 try simp at l13
 have b13_2:=Qa b11_2 c13 (fun hh=>by have:=n_x4 _ hh;have:=h_x4 _ hh;omega)
 have b13_6:=Qa b11_6 c13 (fun hh=>by have:=n_x4 _ hh;have:=h_x4 _ hh;omega)
 have b13_8:=Qa b11_8 c13 (fun hh=>by have:=n_x4 _ hh;have:=h_x4 _ hh;omega)
 have b13_10:=Qa b11_10 c13 (fun hh=>by have:=n_x4 _ hh;have:=h_x4 _ hh;omega)
 have o13_x0:=Dt.chg o11_x0 c13 (fun i hi hh=>by have:=n_x0 i hi;have:=h_x0 i hi;have:=n_x4 i hh;have:=h_x4 i hh;omega)
 have o13_x1:=Dt.chg o11_x1 c13 (fun i hi hh=>by have:=n_x1 i hi;have:=h_x1 i hi;have:=n_x4 i hh;have:=h_x4 i hh;omega)
 have o13_w2:=Dt.chg o11_w2 c13 (fun i hi hh=>by have:=n_w2 i hi;have:=h_w2 i hi;have:=n_x4 i hh;have:=h_x4 i hh;omega)
 have o13_w3:=Dt.chg o11_w3 c13 (fun i hi hh=>by have:=n_w3 i hi;have:=h_w3 i hi;have:=n_x4 i hh;have:=h_x4 i hh;omega)
 have o13_x5:=Dt.chg o11_x5 c13 (fun i hi hh=>by have:=n_x5 i hi;have:=h_x5 i hi;have:=n_x4 i hh;have:=h_x4 i hh;omega)
 have o13_g6:=Dt.chg o11_g6 c13 (fun i hi hh=>by have:=n_g6 i hi;have:=h_g6 i hi;have:=n_x4 i hh;have:=h_x4 i hh;omega)
 have o13_g7:=Dt.chg o11_g7 c13 (fun i hi hh=>by have:=n_g7 i hi;have:=h_g7 i hi;have:=n_x4 i hh;have:=h_x4 i hh;omega)
 have o13_x8:=Dt.chg o11_x8 c13 (fun i hi hh=>by have:=n_x8 i hi;have:=h_x8 i hi;have:=n_x4 i hh;have:=h_x4 i hh;omega)
 have o13_x9:=Dt.chg o_x9 c13 (fun i hi hh=>by have:=n_x9 i hi;have:=h_x9 i hi;have:=n_x4 i hh;have:=h_x4 i hh;omega)
 have Qf7:Qp H H13 []:=(Qad).trans' c13 (fun i hi=>.inr (by have:=n_x4 i hi;have:=Qad.1;omega))
 try simp only [Q1m,Qo] at Q0y
 have Lk:¬(1+m13<0):=by omega
 simp [VM.look,b13_2,b13_6,b13_8,b13_10,Qj b13_2,Qj b13_6,Qj b13_8,Qj b13_10,Qf7.1,Nat.le_add_right_of_le Qf7.1,one_x0,one_x1,one_w2,one_w3,one_x4,one_x5,one_g6,one_g7,one_x8,one_x9,ro0_2,ro0_3,ro0_4,ro0_5,ro0_6,ro0_7,ro0_8,ro0_9,ro0_11,ro1,Qo,Wv,Wl,f0,f1,Lk]
 have Qmf:=gi (frz:=H.length) (H:=H13) (k:=1+m13) o13_x5 d_x5 (by omega) (fun i hi=>by have:=n_x5 i hi;have:=Qf7.1;omega)
 try simp only [Wv] at Qmf
 refine Ql Qmf ?_
 rintro _ H14 ⟨m14,a_x5,rfl,Q3e,Q0o,o14_x5,c14,Qyt⟩
 clear Qmf
 have l14:=c14.1
 try simp at l14
 have b14_2:=Qa b13_2 c14 (fun hh=>by have:=n_x5 _ hh;have:=h_x5 _ hh;omega)
 have b14_6:=Qa b13_6 c14 (fun hh=>by have:=n_x5 _ hh;have:=h_x5 _ hh;omega)
 have b14_8:=Qa b13_8 c14 (fun hh=>by have:=n_x5 _ hh;have:=h_x5 _ hh;omega)
 have b14_10:=Qa b13_10 c14 (fun hh=>by have:=n_x5 _ hh;have:=h_x5 _ hh;omega)
 have o14_x0:=Dt.chg o13_x0 c14 (fun i hi hh=>by have:=n_x0 i hi;have:=h_x0 i hi;have:=n_x5 i hh;have:=h_x5 i hh;omega)
 have o14_x1:=Dt.chg o13_x1 c14 (fun i hi hh=>by have:=n_x1 i hi;have:=h_x1 i hi;have:=n_x5 i hh;have:=h_x5 i hh;omega)
 have o14_w2:=Dt.chg o13_w2 c14 (fun i hi hh=>by have:=n_w2 i hi;have:=h_w2 i hi;have:=n_x5 i hh;have:=h_x5 i hh;omega)
 have o14_w3:=Dt.chg o13_w3 c14 (fun i hi hh=>by have:=n_w3 i hi;have:=h_w3 i hi;have:=n_x5 i hh;have:=h_x5 i hh;omega)
 have o14_x4:=Dt.chg o13_x4 c14 (fun i hi hh=>by have:=n_x4 i hi;have:=h_x4 i hi;have:=n_x5 i hh;have:=h_x5 i hh;omega)
 have o14_g6:=Dt.chg o13_g6 c14 (fun i hi hh=>by have:=n_g6 i hi;have:=h_g6 i hi;have:=n_x5 i hh;have:=h_x5 i hh;omega)
 have o14_g7:=Dt.chg o13_g7 c14 (fun i hi hh=>by have:=n_g7 i hi;have:=h_g7 i hi;have:=n_x5 i hh;have:=h_x5 i hh;omega)
 have o14_x8:=Dt.chg o13_x8 c14 (fun i hi hh=>by have:=n_x8 i hi;have:=h_x8 i hi;have:=n_x5 i hh;have:=h_x5 i hh;omega)
 have o14_x9:=Dt.chg o13_x9 c14 (fun i hi hh=>by have:=n_x9 i hi;have:=h_x9 i hi;have:=n_x5 i hh;have:=h_x5 i hh;omega)
 have Aq:Qp H H14 []:=(Qf7).trans' c14 (fun i hi=>.inr (by have:=n_x5 i hi;have:=Qf7.1;omega))
 try simp only [Q0o,Wv] at Qyt
 have Kq:¬(1+m13+m14<0):=by omega
 simp [VM.look,b14_2,b14_6,b14_8,b14_10,Qj b14_2,Qj b14_6,Qj b14_8,Qj b14_10,Aq.1,Nat.le_add_right_of_le Aq.1,one_x0,one_x1,one_w2,one_w3,one_x4,one_x5,one_g6,one_g7,one_x8,one_x9,ro0_2,ro0_3,ro0_4,ro0_5,ro0_6,ro0_7,ro0_8,ro0_9,ro0_11,ro1,Qo,Wv,Wl,f0,f1,Lk,Kq]
 have Qps:=fun F=>Kt (frz:=F) (H:=H14) o14_g6 o14_w2
 try simp only [Qo] at Qps
 simp [Qps,VM.look,b14_2,b14_6,b14_8,b14_10,Qj b14_2,Qj b14_6,Qj b14_8,Qj b14_10,Aq.1,Nat.le_add_right_of_le Aq.1,one_x0,one_x1,one_w2,one_w3,one_x4,one_x5,one_g6,one_g7,one_x8,one_x9,ro0_2,ro0_3,ro0_4,ro0_5,ro0_6,ro0_7,ro0_8,ro0_9,ro0_11,ro1,Qo,Wv,Wl,f0,f1,Lk,Kq]
 have Qpo:=fun F=>Na (frz:=F) (H:=H14) o14_g7 o14_w3
 try simp only [Wl] at Qpo
 simp [Qpo,VM.look,b14_2,b14_6,b14_8,b14_10,Qj b14_2,Qj b14_6,Qj b14_8,Qj b14_10,Aq.1,Nat.le_add_right_of_le Aq.1,one_x0,one_x1,one_w2,one_w3,one_x4,one_x5,one_g6,one_g7,one_x8,one_x9,ro0_2,ro0_3,ro0_4,ro0_5,ro0_6,ro0_7,ro0_8,ro0_9,ro0_11,ro1,Qo,Wv,Wl,f0,f1,Lk,Kq]
 have Qj1:=Ey (frz:=H.length) (H:=H14) (k:=1) o14_g6 d_g6 (by omega) (fun i hi=>by have:=n_g6 i hi;have:=Aq.1;omega)
 try simp only [Qo] at Qj1
 refine Ql Qj1 ?_
 rintro _ H17 ⟨m17,a_g6,rfl,Q28,Q0e,o17_g6,c17,Qkr⟩
 clear Qj1
 have l17:=c17.1
 try simp at l17
 have b17_2:=Qa b14_2 c17 (fun hh=>by have:=n_g6 _ hh;have:=h_g6 _ hh;omega)
 have b17_6:=Qa b14_6 c17 (fun hh=>by have:=n_g6 _ hh;have:=h_g6 _ hh;omega)
 have b17_8:=Qa b14_8 c17 (fun hh=>by have:=n_g6 _ hh;have:=h_g6 _ hh;omega)
 have b17_10:=Qa b14_10 c17 (fun hh=>by have:=n_g6 _ hh;have:=h_g6 _ hh;omega)
 have o17_x0:=Dt.chg o14_x0 c17 (fun i hi hh=>by have:=n_x0 i hi;have:=h_x0 i hi;have:=n_g6 i hh;have:=h_g6 i hh;omega)
 have o17_x1:=Dt.chg o14_x1 c17 (fun i hi hh=>by have:=n_x1 i hi;have:=h_x1 i hi;have:=n_g6 i hh;have:=h_g6 i hh;omega)
 have o17_w2:=Dt.chg o14_w2 c17 (fun i hi hh=>by have:=n_w2 i hi;have:=h_w2 i hi;have:=n_g6 i hh;have:=h_g6 i hh;omega)
 have o17_w3:=Dt.chg o14_w3 c17 (fun i hi hh=>by have:=n_w3 i hi;have:=h_w3 i hi;have:=n_g6 i hh;have:=h_g6 i hh;omega)
 have o17_x4:=Dt.chg o14_x4 c17 (fun i hi hh=>by have:=n_x4 i hi;have:=h_x4 i hi;have:=n_g6 i hh;have:=h_g6 i hh;omega)
 have o17_x5:=Dt.chg o14_x5 c17 (fun i hi hh=>by have:=n_x5 i hi;have:=h_x5 i hi;have:=n_g6 i hh;have:=h_g6 i hh;omega)
 have o17_g7:=Dt.chg o14_g7 c17 (fun i hi hh=>z_g6 i hh hi)
 have o17_x8:=Dt.chg o14_x8 c17 (fun i hi hh=>by have:=n_x8 i hi;have:=h_x8 i hi;have:=n_g6 i hh;have:=h_g6 i hh;omega)
 have o17_x9:=Dt.chg o14_x9 c17 (fun i hi hh=>by have:=n_x9 i hi;have:=h_x9 i hi;have:=n_g6 i hh;have:=h_g6 i hh;omega)
 have Qea:Qp H H17 []:=(Aq).trans' c17 (fun i hi=>.inr (by have:=n_g6 i hi;have:=Aq.1;omega))
 try simp only [Q0e,Qo] at Qkr
 have Fr:¬(1+m17<0):=by omega
 simp [VM.look,b17_2,b17_6,b17_8,b17_10,Qj b17_2,Qj b17_6,Qj b17_8,Qj b17_10,Qea.1,Nat.le_add_right_of_le Qea.1,one_x0,one_x1,one_w2,one_w3,one_x4,one_x5,one_g6,one_g7,one_x8,one_x9,ro0_2,ro0_3,ro0_4,ro0_5,ro0_6,ro0_7,ro0_8,ro0_9,ro0_11,ro1,Qo,Wv,Wl,f0,f1,Lk,Kq,Fr]
 have Qk2:=S9 (frz:=H.length) (H:=H17) (k:=1+m17) o17_g7 d_g7 (by omega) (fun i hi=>by have:=n_g7 i hi;have:=Qea.1;omega)
 try simp only [Wl] at Qk2
 refine Ql Qk2 ?_
 rintro _ H18 ⟨m18,a_g7,rfl,Q3f,Q0t,o18_g7,c18,Qkd⟩
 clear Qk2
 have l18:=c18.1
 try simp at l18
 have b18_2:=Qa b17_2 c18 (fun hh=>by have:=n_g7 _ hh;have:=h_g7 _ hh;omega)
 have b18_6:=Qa b17_6 c18 (fun hh=>by have:=n_g7 _ hh;have:=h_g7 _ hh;omega)
 have b18_8:=Qa b17_8 c18 (fun hh=>by have:=n_g7 _ hh;have:=h_g7 _ hh;omega)
 have b18_10:=Qa b17_10 c18 (fun hh=>by have:=n_g7 _ hh;have:=h_g7 _ hh;omega)
 have o18_x0:=Dt.chg o17_x0 c18 (fun i hi hh=>by have:=n_x0 i hi;have:=h_x0 i hi;have:=n_g7 i hh;have:=h_g7 i hh;omega)
 have o18_x1:=Dt.chg o17_x1 c18 (fun i hi hh=>by have:=n_x1 i hi;have:=h_x1 i hi;have:=n_g7 i hh;have:=h_g7 i hh;omega)
 have o18_w2:=Dt.chg o17_w2 c18 (fun i hi hh=>by have:=n_w2 i hi;have:=h_w2 i hi;have:=n_g7 i hh;have:=h_g7 i hh;omega)
 have o18_w3:=Dt.chg o17_w3 c18 (fun i hi hh=>by have:=n_w3 i hi;have:=h_w3 i hi;have:=n_g7 i hh;have:=h_g7 i hh;omega)
 have o18_x4:=Dt.chg o17_x4 c18 (fun i hi hh=>by have:=n_x4 i hi;have:=h_x4 i hi;have:=n_g7 i hh;have:=h_g7 i hh;omega)
 have o18_x5:=Dt.chg o17_x5 c18 (fun i hi hh=>by have:=n_x5 i hi;have:=h_x5 i hi;have:=n_g7 i hh;have:=h_g7 i hh;omega)
 have o18_g6:=Dt.chg o17_g6 c18 (fun i hi hh=>z_g6 i hi hh)
 have o18_x8:=Dt.chg o17_x8 c18 (fun i hi hh=>by have:=n_x8 i hi;have:=h_x8 i hi;have:=n_g7 i hh;have:=h_g7 i hh;omega)
 have o18_x9:=Dt.chg o17_x9 c18 (fun i hi hh=>by have:=n_x9 i hi;have:=h_x9 i hi;have:=n_g7 i hh;have:=h_g7 i hh;omega)
 have Me:Qp H H18 []:=(Qea).trans' c18 (fun i hi=>.inr (by have:=n_g7 i hi;have:=Qea.1;omega))
 try simp only [Q0t,Wl] at Qkd
 have Dy:¬(1+m17+m18<0):=by omega
 simp [VM.look,b18_2,b18_6,b18_8,b18_10,Qj b18_2,Qj b18_6,Qj b18_8,Qj b18_10,Me.1,Nat.le_add_right_of_le Me.1,one_x0,one_x1,one_w2,one_w3,one_x4,one_x5,one_g6,one_g7,one_x8,one_x9,ro0_2,ro0_3,ro0_4,ro0_5,ro0_6,ro0_7,ro0_8,ro0_9,ro0_11,ro1,Qo,Wv,Wl,f0,f1,Lk,Kq,Fr,Dy]
 have Q0q:=fun F=>Qkr F _ o18_g6
 simp [Q0q,VM.look,b18_2,b18_6,b18_8,b18_10,Qj b18_2,Qj b18_6,Qj b18_8,Qj b18_10,Me.1,Nat.le_add_right_of_le Me.1,one_x0,one_x1,one_w2,one_w3,one_x4,one_x5,one_g6,one_g7,one_x8,one_x9,ro0_2,ro0_3,ro0_4,ro0_5,ro0_6,ro0_7,ro0_8,ro0_9,ro0_11,ro1,Qo,Wv,Wl,f0,f1,Lk,Kq,Fr,Dy]
 have Qym:=fun F=>Qkd F _ o18_g7
 simp [Qym,VM.look,b18_2,b18_6,b18_8,b18_10,Qj b18_2,Qj b18_6,Qj b18_8,Qj b18_10,Me.1,Nat.le_add_right_of_le Me.1,one_x0,one_x1,one_w2,one_w3,one_x4,one_x5,one_g6,one_g7,one_x8,one_x9,ro0_2,ro0_3,ro0_4,ro0_5,ro0_6,ro0_7,ro0_8,ro0_9,ro0_11,ro1,Qo,Wv,Wl,f0,f1,Lk,Kq,Fr,Dy]
 refine Ql (Lt a0_0 a0_1 a0_10 u0_2 u0_3 u0_4 u0_5 u0_6 u0_7 u0_8 u0_9 u0_11 h0_5 h0_8 h0_9 a0_2 a0_3 a0_4 a0_6 a0_7 a0_5 a0_8 a0_9 a0_11 (W7.rd (Rd.isI (Rd.chg r0_2 Me (by simp)))) (W7.rd (Rd.isI (Rd.chg r0_3 Me (by simp)))) (W7.rd (Rd.isI (Rd.chg r0_4 Me (by simp)))) (To.chg r0_5 Me (by simp)) (W7.rd (Rd.isI (Rd.chg r0_6 Me (by simp)))) (W7.rd (Rd.isI (Rd.chg r0_7 Me (by simp)))) (To.chg r0_8 Me (by simp)) (To.chg r0_9 Me (by simp)) (Rd.chg r0_11 Me (by simp)) (by omega) (by omega) (by omega) (by have:=Vg a0_5;omega) (fun x hx=>by have:=Vh a0_5 x hx;omega) (by omega) (by omega) (by have:=Vg a0_8;omega) (fun x hx=>by have:=Vh a0_8 x hx;omega) (by have:=Vg a0_9;omega) (fun x hx=>by have:=Vh a0_9 x hx;omega) (by omega)) ?_
 rintro _ H21 ⟨v_x10,rfl,o_x10,c21,n_x10,d_x10⟩
 have l21:=c21.1
 try simp at l21
 have b21_2:=Qa b18_2 c21 (by simp)
 have b21_6:=Qa b18_6 c21 (by simp)
 have b21_8:=Qa b18_8 c21 (by simp)
 have b21_10:=Qa b18_10 c21 (by simp)
 have o21_x0:=Dt.chg0 o18_x0 c21
 have o21_x1:=Dt.chg0 o18_x1 c21
 have o21_w2:=Dt.chg0 o18_w2 c21
 have o21_w3:=Dt.chg0 o18_w3 c21
 have o21_x4:=Dt.chg0 o18_x4 c21
 have o21_x5:=Dt.chg0 o18_x5 c21
 have o21_g6:=Dt.chg0 o18_g6 c21
 have o21_g7:=Dt.chg0 o18_g7 c21
 have o21_x8:=Dt.chg0 o18_x8 c21
 have o21_x9:=Dt.chg0 o18_x9 c21
 have Qie:Qp H H21 []:=(Me).trans c21
 have h_x10:=Qs.lt o_x10
 try simp at n_x10
 have one_x10:=Q8 o_x10
 simp [VM.look,b21_2,b21_6,b21_8,b21_10,Qj b21_2,Qj b21_6,Qj b21_8,Qj b21_10,Qie.1,Nat.le_add_right_of_le Qie.1,one_x0,one_x1,one_w2,one_w3,one_x4,one_x5,one_g6,one_g7,one_x8,one_x9,one_x10,ro0_2,ro0_3,ro0_4,ro0_5,ro0_6,ro0_7,ro0_8,ro0_9,ro0_11,ro1,Qo,Wv,Wl,f0,f1,Lk,Kq,Fr,Dy]
 refine Ql (Lq u1 a1 (Rd.chg r1 Qie (by simp)) (by omega)) ?_
 rintro _ H22 ⟨v_x11,rfl,o_x11,c22,n_x11,d_x11⟩
 have l22:=c22.1
 try simp at l22
 have b22_2:=Qa b21_2 c22 (by simp)
 have b22_6:=Qa b21_6 c22 (by simp)
 have b22_8:=Qa b21_8 c22 (by simp)
 have b22_10:=Qa b21_10 c22 (by simp)
 have o22_x0:=Dt.chg0 o21_x0 c22
 have o22_x1:=Dt.chg0 o21_x1 c22
 have o22_w2:=Dt.chg0 o21_w2 c22
 have o22_w3:=Dt.chg0 o21_w3 c22
 have o22_x4:=Dt.chg0 o21_x4 c22
 have o22_x5:=Dt.chg0 o21_x5 c22
 have o22_g6:=Dt.chg0 o21_g6 c22
 have o22_g7:=Dt.chg0 o21_g7 c22
 have o22_x8:=Dt.chg0 o21_x8 c22
 have o22_x9:=Dt.chg0 o21_x9 c22
 have o22_x10:=Dt.chg0 o_x10 c22
 have Qly:Qp H H22 []:=(Qie).trans c22
 have h_x11:=Ox.lt o_x11
 try simp at n_x11
 have one_x11:=Lu o_x11
 simp [VM.look,b22_2,b22_6,b22_8,b22_10,Qj b22_2,Qj b22_6,Qj b22_8,Qj b22_10,Qly.1,Nat.le_add_right_of_le Qly.1,one_x0,one_x1,one_w2,one_w3,one_x4,one_x5,one_g6,one_g7,one_x8,one_x9,one_x10,one_x11,ro0_2,ro0_3,ro0_4,ro0_5,ro0_6,ro0_7,ro0_8,ro0_9,ro0_11,ro1,Qo,Wv,Wl,f0,f1,Lk,Kq,Fr,Dy]
 have Ql4:=C4 (frz:=H.length) (H:=H22) o22_x10 o_x11 (fun x hx=>by have:=Vh a0_9 x hx;omega)
 try simp only [Qo,Wv] at Ql4
 refine Ql Ql4 ?_
 rintro _ H23 ⟨v_g12,v_g13,rfl,o_g12,o_g13,c23,n_g12,d_g12,n_g13,d_g13,z_g12⟩
 clear Ql4
 have l23:=c23.1
 try simp at l23
 have b23_2:=Qa b22_2 c23 (by simp)
 have b23_6:=Qa b22_6 c23 (by simp)
 have b23_8:=Qa b22_8 c23 (by simp)
 have b23_10:=Qa b22_10 c23 (by simp)
 have o23_x0:=Dt.chg0 o22_x0 c23
 have o23_x1:=Dt.chg0 o22_x1 c23
 have o23_w2:=Dt.chg0 o22_w2 c23
 have o23_w3:=Dt.chg0 o22_w3 c23
 have o23_x4:=Dt.chg0 o22_x4 c23
 have o23_x5:=Dt.chg0 o22_x5 c23
 have o23_g6:=Dt.chg0 o22_g6 c23
 have o23_g7:=Dt.chg0 o22_g7 c23
 have o23_x8:=Dt.chg0 o22_x8 c23
 have o23_x9:=Dt.chg0 o22_x9 c23
 have o23_x10:=Dt.chg0 o22_x10 c23
 have o23_x11:=Dt.chg0 o_x11 c23
 have D2:Qp H H23 []:=(Qly).trans c23
 have h_g12:=Qs.lt o_g12
 try simp at n_g12
 have one_g12:=Q8 o_g12
 have h_g13:=Qf.lt o_g13
 try simp at n_g13
 have one_g13:=Zt o_g13
 simp [VM.look,b23_2,b23_6,b23_8,b23_10,Qj b23_2,Qj b23_6,Qj b23_8,Qj b23_10,D2.1,Nat.le_add_right_of_le D2.1,one_x0,one_x1,one_w2,one_w3,one_x4,one_x5,one_g6,one_g7,one_x8,one_x9,one_x10,one_x11,one_g12,one_g13,ro0_2,ro0_3,ro0_4,ro0_5,ro0_6,ro0_7,ro0_8,ro0_9,ro0_11,ro1,Qo,Wv,Wl,f0,f1,Lk,Kq,Fr,Dy]
 have Qp9:=fun F (L:Qd)=>Kt (frz:=F) (H:=H23++L) (Dt.app o_g12) (Dt.app o23_w2)
 try simp only [Qo] at Qp9
 simp [Qp9,VM.look,b23_2,b23_6,b23_8,b23_10,Qj b23_2,Qj b23_6,Qj b23_8,Qj b23_10,D2.1,Nat.le_add_right_of_le D2.1,one_x0,one_x1,one_w2,one_w3,one_x4,one_x5,one_g6,one_g7,one_x8,one_x9,one_x10,one_x11,one_g12,one_g13,ro0_2,ro0_3,ro0_4,ro0_5,ro0_6,ro0_7,ro0_8,ro0_9,ro0_11,ro1,Qo,Wv,Wl,f0,f1,Lk,Kq,Fr,Dy]
 have Qpq:=fun F (L:Qd)=>Na (frz:=F) (H:=H23++L) (Dt.app o_g13) (Dt.app o23_w3)
 try simp only [Wl] at Qpq
 simp [Qpq,VM.look,b23_2,b23_6,b23_8,b23_10,Qj b23_2,Qj b23_6,Qj b23_8,Qj b23_10,D2.1,Nat.le_add_right_of_le D2.1,one_x0,one_x1,one_w2,one_w3,one_x4,one_x5,one_g6,one_g7,one_x8,one_x9,one_x10,one_x11,one_g12,one_g13,ro0_2,ro0_3,ro0_4,ro0_5,ro0_6,ro0_7,ro0_8,ro0_9,ro0_11,ro1,Qo,Wv,Wl,f0,f1,Lk,Kq,Fr,Dy]
 have Qyb:=fun F (L:Qd)=>Qkr F (H23++L) (Dt.app o23_g6)
 simp [Qyb,VM.look,b23_2,b23_6,b23_8,b23_10,Qj b23_2,Qj b23_6,Qj b23_8,Qj b23_10,D2.1,Nat.le_add_right_of_le D2.1,one_x0,one_x1,one_w2,one_w3,one_x4,one_x5,one_g6,one_g7,one_x8,one_x9,one_x10,one_x11,one_g12,one_g13,ro0_2,ro0_3,ro0_4,ro0_5,ro0_6,ro0_7,ro0_8,ro0_9,ro0_11,ro1,Qo,Wv,Wl,f0,f1,Lk,Kq,Fr,Dy]
 have Q1o:=fun F (L:Qd)=>Qkd F (H23++L) (Dt.app o23_g7)
 simp [Q1o,VM.look,b23_2,b23_6,b23_8,b23_10,Qj b23_2,Qj b23_6,Qj b23_8,Qj b23_10,D2.1,Nat.le_add_right_of_le D2.1,one_x0,one_x1,one_w2,one_w3,one_x4,one_x5,one_g6,one_g7,one_x8,one_x9,one_x10,one_x11,one_g12,one_g13,ro0_2,ro0_3,ro0_4,ro0_5,ro0_6,ro0_7,ro0_8,ro0_9,ro0_11,ro1,Qo,Wv,Wl,f0,f1,Lk,Kq,Fr,Dy]
theorem law_FnExactRunActs {a0_0:Int} {a0_1:Int} {a0_2:List (Int)} {u0_2:Value} {a0_3:List (Int)} {u0_3:Value} {a0_4:List (Int)} {u0_4:Value} {a0_5:List (List (Int×Int×Int×Bool×Bool))} {u0_5:Value} {a0_6:List (Int)} {u0_6:Value} {a0_7:List (Int)} {u0_7:Value} {a0_8:List (List (Int×Int×Int×Bool×Bool))} {u0_8:Value} {a0_9:List (List (Int×Int×Int×Bool×Bool))} {u0_9:Value} {a0_10:Int} {a0_11:List (Int×Int×Int×Int×Int)} {u0_11:Value} {a1:List (Int×Int×Int×Int×Int)} {u1:Value} (s0_2:Pn (Kn.int .i64) H u0_2 a0_2) (s0_3:Pn (Kn.int .i64) H u0_3 a0_3) (s0_4:Pn (Kn.int .i64) H u0_4 a0_4) (s0_5:Pn (Kn.slice (Kn.pair (Kn.int .i64) (Kn.pair (Kn.int .i64) (Kn.pair (Kn.int .i64) (Kn.pair Kn.bool Kn.bool))))) H u0_5 a0_5) (s0_6:Pn (Kn.int .i64) H u0_6 a0_6) (s0_7:Pn (Kn.int .i64) H u0_7 a0_7) (s0_8:Pn (Kn.slice (Kn.pair (Kn.int .i64) (Kn.pair (Kn.int .i64) (Kn.pair (Kn.int .i64) (Kn.pair Kn.bool Kn.bool))))) H u0_8 a0_8) (s0_9:Pn (Kn.slice (Kn.pair (Kn.int .i64) (Kn.pair (Kn.int .i64) (Kn.pair (Kn.int .i64) (Kn.pair Kn.bool Kn.bool))))) H u0_9 a0_9) (s0_11:Pn (Kn.pair (Kn.int .i64) (Kn.pair (Kn.int .i64) (Kn.pair (Kn.int .i64) (Kn.pair (Kn.int .i64) (Kn.int .i64))))) H u0_11 a0_11) (s1:Pn (Kn.pair (Kn.int .i64) (Kn.pair (Kn.int .i64) (Kn.pair (Kn.int .i64) (Kn.pair (Kn.int .i64) (Kn.int .i64))))) H u1 a1)
 (w0:(((((Lit.int .i64 a0_0).wf=true)∧((Lit.int .i64 a0_1).wf=true))∧(a0_2.length≤maxLen∧∀x1∈a0_2,(Lit.int .i64 x1).wf=true))∧(((a0_3.length≤maxLen∧∀x2∈a0_3,(Lit.int .i64 x2).wf=true))∧((a0_4.length≤maxLen∧∀x3∈a0_4,(Lit.int .i64 x3).wf=true)))∧(a0_5.length≤maxLen∧∀x4∈a0_5,x4.length≤maxLen∧∀x5∈x4,((Lit.int .i64 x5.1).wf=true)∧((Lit.int .i64 x5.2.1).wf=true)∧((Lit.int .i64 x5.2.2.1).wf=true)∧(True)∧(True))∧(a0_6.length≤maxLen∧∀x6∈a0_6,(Lit.int .i64 x6).wf=true)∧(a0_7.length≤maxLen∧∀x7∈a0_7,(Lit.int .i64 x7).wf=true)∧(a0_8.length≤maxLen∧∀x8∈a0_8,x8.length≤maxLen∧∀x9∈x8,((Lit.int .i64 x9.1).wf=true)∧((Lit.int .i64 x9.2.1).wf=true)∧((Lit.int .i64 x9.2.2.1).wf=true)∧(True)∧(True))∧(a0_9.length≤maxLen∧∀x10∈a0_9,x10.length≤maxLen∧∀x11∈x10,((Lit.int .i64 x11.1).wf=true)∧((Lit.int .i64 x11.2.1).wf=true)∧((Lit.int .i64 x11.2.2.1).wf=true)∧(True)∧(True))∧((Lit.int .i64 a0_10).wf=true))∧(a0_11.length≤maxLen∧∀x12∈a0_11,((Lit.int .i64 x12.1).wf=true)∧((Lit.int .i64 x12.2.1).wf=true)∧((Lit.int .i64 x12.2.2.1).wf=true)∧((Lit.int .i64 x12.2.2.2.1).wf=true)∧((Lit.int .i64 x12.2.2.2.2).wf=true))) (w1:a1.length≤maxLen∧∀x13∈a1,((Lit.int .i64 x13.1).wf=true)∧((Lit.int .i64 x13.2.1).wf=true)∧((Lit.int .i64 x13.2.2.1).wf=true)∧((Lit.int .i64 x13.2.2.2.1).wf=true)∧((Lit.int .i64 x13.2.2.2.2).wf=true)) :
 Qh C frz 3 [.agg #[.int .i64 a0_0,.int .i64 a0_1,u0_2,u0_3,u0_4,u0_5,u0_6,u0_7,u0_8,u0_9,.int .i64 a0_10,u0_11],u1] H=some (.bool true,H):=
 (law_FnExactRunActs_w s0_2 s0_3 s0_4 s0_5 s0_6 s0_7 s0_8 s0_9 s0_11 s1 w0 w1).exact (by simp) rfl
end Go.Proofs.YtlhaeingdonaeaaGreat.V
