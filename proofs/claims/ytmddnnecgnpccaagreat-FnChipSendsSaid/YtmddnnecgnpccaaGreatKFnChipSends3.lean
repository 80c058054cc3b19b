/- Texts of a proof, joined. -/
import Derived.Test.YtmddnnecgnpccaaGreatKM0
import Derived.Test.YtmddnnecgnpccaaGreatKM1
import Derived.Test.YtmddnnecgnpccaaGreatKFnChipSends0
import Derived.Test.YtmddnnecgnpccaaGreatKFnChipSends1
import Derived.Test.YtmddnnecgnpccaaGreatKFnChipSends2
set_option linter.all false
namespace Go.Proofs.YtmddnnecgnpccaaGreat.V
open Go Go.VM Go.Proofs
set_option maxRecDepth 10000
variable {frz:Nat} {H:Heap}
def chipCells (v:ChipV) (a:ChipD):List Value:=netCells v.1 a.1++[v.2]
def chipRuns (a:ChipD) (k:Int):Prop:=chipOk a∧runs a.1 k
instance (a:ChipD) (k:Int):Decidable (chipRuns a k):=inferInstanceAs (Decidable (_∧_))
noncomputable def chipRun (a:ChipD) (k:Int):ChipD:=if chipOk a then (runNet a.1 k,a.2) else a
def zChip:List Value:=[.int .i64 0,.int .i64 0,.slice none 0 0,.slice none 0 0,.slice none 0 0,.slice none 0 0,.slice none 0 0,.slice none 0 0,.slice none 0 0,.slice none 0 0,.int .i64 0,.slice none 0 0]
theorem Zi {K:Heap} {n:ChipV} {y z:ChipD} {ok ok':Bool} {r:Row} (o:dChip.Ow K n y) (c:Chg H K []) (m:∀i∈dChip.ids n,H.length+2≤i) (d:(dChip.ids n).Nodup) (e1:z=y) (e2:ok'=ok) :
 Made2 dChip H z ok' (.tuple #[dChip.val n y,.bool ok]) (K.set (H.length+1) r):=by
 subst e1 e2
 exact ⟨dChip.val n z,rfl,n,rfl,Dt.chg (T:=dChip) o (Ql _ _) (fun i hi hh=>by have:=m i hi;simp at hh;omega),c.trans' (Ql _ _) (fun i hi=>.inr (by simp at hi;omega)),fun i hi=>by have:=m i hi;omega,d⟩
theorem F9 {v:ChipV} {a:ChipD} {k:Int} (o:dChip.Ow H v a) (h9:allL 66000000 a.1.2.2.2.2.2.2.1) :
 wp (vcall C frz 8 [dChip.val v a,.int .i64 k] H) (Made2 dChip H (chipRun a k) (decide (chipRuns a k))):=by
 have oneA:=Qt o
 have ones:=oneA.1
 have one2:=oneA.2
 have ecopy:=fun K (c:Chg H K [])=>Pc (frz:=H.length) (H:=K) (v:=v) (a:=a) (Dt.chg (T:=dChip) o c (by simp))
 have ck:=fun F K (c:Chg H K [])=>S0 (frz:=F) (H:=K) (v:=v) (a:=a) (Dt.chg (T:=dChip) o c (by simp))
 have er:=fun K (c:Chg H K [])=>D9 (frz:=H.length) (H:=K) (v:=v.1) (x:=a.1) (k:=k) (Dt.chg (T:=dNet) o.1 c (by simp)) h9
 simp only [Qc] at er
 simp only [Qj] at ecopy ck ⊢
 rw [Qb (fn:=Tryz.f8) Tryz.func8 rfl (by kernel_rfl) rfl]
 obtain ⟨G,hG⟩:∃G,G=H++[⟨chipCells v a,0,38⟩,⟨zChip,0,38⟩]:=⟨_,rfl⟩
 have cG:Chg H G []:=by rw [hG];exact Chg.app _
 have b0:G[H.length]? = some ⟨chipCells v a,0,38⟩:=by rw [hG];simp
 have bR:G[H.length+1]? = some ⟨zChip,0,38⟩:=by rw [hG];simp
 have lG:G.length=H.length+2:=by rw [hG];simp
 have hGs:=hG.symm
 unfold chipCells netCells zChip at hGs
 simp only [List.cons_append,List.nil_append] at hGs
 simp [ones,one2]
 rw [hGs]
 clear hG hGs
 have b0':=b0
 unfold chipCells netCells at b0'
 simp only [List.cons_append,List.nil_append] at b0'
 try simp [VM.look,b0',ones,one2]
 refine Qd (ecopy G cG) ?_
 rintro _ K ⟨n,rfl,on,cn,mn,dn⟩
 have cK:Chg H K []:=cG.trans cn
 have b0:=Qa b0 cn (by simp)
 have bR:=Qa bR cn (by simp)
 have oneN:=Qt on
 have qn:=oneN.1
 have qn2:=oneN.2
 have lK:=cn.1
 have hFK:H.length≤K.length:=by omega
 obtain ⟨K2,hK2⟩:∃K2,K2=K++[⟨chipCells n a,0,38⟩]:=⟨_,rfl⟩
 have c12:Chg K K2 []:=by rw [hK2];exact Chg.app _
 have cK2:=cK.trans c12
 have l2:K2.length=K.length+1:=by rw [hK2];simp
 have b0:=Qa b0 c12 (by simp)
 have bR:=Qa bR c12 (by simp)
 have bC:K2[K.length]? = some ⟨chipCells n a,0,38⟩:=by rw [hK2];simp
 have on2:=Dt.chg (T:=dChip) on c12 (by simp)
 have hF:H.length≤H.length+1:=by omega
 have mn':∀i∈dChip.ids n,H.length+2≤i:=fun i hi=>by have:=mn i hi;omega
 have ltn:∀i∈dChip.ids n,i<K.length:=fun i hi=>dChip.lt on i hi
 have hKs:=hK2.symm
 unfold chipCells netCells at hKs
 simp only [List.cons_append,List.nil_append] at hKs
 simp [Qj,VM.look,qn,qn2,hFK]
 rw [hKs]
 clear hK2 hKs
 have ck':=fun F=>ck F K2 cK2
 have b0':=b0
 have bC':=bC
 unfold chipCells netCells at b0' bC'
 simp only [List.cons_append,List.nil_append] at b0' bC'
 by_cases g0:chipOk a
 rotate_left
 ·have hb:¬chipRuns a k:=fun h=>g0 h.1
  have gR:=Qi (r':=⟨chipCells n a,0,38⟩) bR
  have hM:=Zi (H:=H) (r:=⟨chipCells n a,0,38⟩) on2 cK2 mn' dn (show chipRun a k=a from if_neg g0) (decide_eq_false hb)
  unfold zChip at bR
  unfold chipCells netCells at gR hM
  simp only [List.cons_append,List.nil_append] at gR hM
  simp [VM.look,b0',ones,one2,ck',g0,bC',qn,qn2,bR,gR,hF]
  simpa [hb,Qj] using hM
 have eR:=er K2 cK2
 simp [VM.look,b0',ones,one2,ck',g0]
 refine Qd eR ?_
 rintro _ K3 ⟨_,rfl,n2,rfl,o3,c3,m3,d3⟩
 obtain ⟨z,hz⟩:∃z,z=runNet a.1 k:=⟨_,rfl⟩
 rw [← hz] at o3
 have one3:=Qh o3
 have l3:=c3.1
 have hFK3:H.length≤K3.length:=by omega
 obtain ⟨K4,hK4⟩:∃K4,K4=K3++[⟨netCells n2 z,0,35⟩]:=⟨_,rfl⟩
 have c34:Chg K3 K4 []:=by rw [hK4];exact Chg.app _
 have l4:K4.length=K3.length+1:=by rw [hK4];simp
 have bN:K4[K3.length]? = some ⟨netCells n2 z,0,35⟩:=by rw [hK4];simp
 have bC4:=Qa (Qa bC c3 (by simp)) c34 (by simp)
 have bR4:=Qa (Qa bR c3 (by simp)) c34 (by simp)
 have hKs:=hK4.symm
 unfold netCells at hKs
 have eb:decide (chipRuns a k)=decide (runs a.1 k):=by simp [chipRuns,g0]
 have ec:chipRun a k=(z,a.2):=by rw [hz];exact if_pos g0
 have o4:=Dt.chg (T:=dNet) o3 c34 (by simp)
 have op4:=Dt.chg (T:=dPk) (Dt.chg (T:=dPk) on2.2 c3 (by simp)) c34 (by simp)
 simp [Qc,← hz,one3,hFK3,VM.look]
 rw [hKs]
 clear hK4 hKs
 have gC:=Qi (r':=⟨chipCells (n2,n.2) (z,a.2),0,38⟩) bC4
 have cC:Chg K4 (K4.set K.length ⟨chipCells (n2,n.2) (z,a.2),0,38⟩) [K.length]:=Ql _ _
 have bR5:=Qa bR4 cC (by simp;omega)
 have gR:=Qi (r':=⟨chipCells (n2,n.2) (z,a.2),0,38⟩) bR5
 have hi1:∀i∈dNet.ids n2,K2.length≤i:=m3
 have hi2:∀i∈VM.ids n.2,H.length+2≤i∧i<K.length:=fun i hi=>⟨mn' i (List.mem_append_right _ hi),ltn i (List.mem_append_right _ hi)⟩
 have hM:=Zi (H:=H) (n:=(n2,n.2)) (y:=(z,a.2)) (r:=⟨chipCells (n2,n.2) (z,a.2),0,38⟩) (K:=K4.set K.length ⟨chipCells (n2,n.2) (z,a.2),0,38⟩)
  ⟨Dt.chg (T:=dNet) o4 cC (fun i hi hh=>by have:=hi1 i hi;simp at hh;omega),Dt.chg (T:=dPk) op4 cC (fun i hi hh=>by have:=(hi2 i hi).2;simp at hh;omega)⟩
  (((cK2.trans c3).trans c34).trans' cC (fun i hi=>.inr (by simp at hi;omega)))
  (fun i hi=>by
   rcases List.mem_append.1 hi with h|h
   ·have:=hi1 i h;omega
   ·exact (hi2 i h).1)
  (List.nodup_append.2 ⟨d3,Qw n.2,fun x hx y hy e=>by
   subst e
   have:=hi1 x hx
   have:=(hi2 x hy).2
   omega⟩) ec eb
 unfold chipCells netCells zChip at bR5
 unfold chipCells netCells at gC bC4 gR hM
 unfold netCells at bN
 simp only [List.cons_append,List.nil_append] at gC bC4 gR hM bR5
 simp [VM.look,bN,bC4,gC,bR5,gR,one3,qn2,hF,hFK]
 rw [ec,eb]
 rw [ec,eb] at hM
 simpa [Qj] using hM
theorem Ij {v:ChipV} {a:ChipD} {k:Int} (o:dChip.Ow H v a) (h9:allL 66000000 a.1.2.2.2.2.2.2.1) :
 wp (vcall C frz 27 [dChip.val v a,.int .i64 k] H) (Made2 dChip H (chipRun a k) (decide (chipRuns a k))):=by
 have oneA:=Qt o
 have ones:=oneA.1
 have one2:=oneA.2
 have ecopy:=fun K (c:Chg H K [])=>O6 (frz:=H.length) (H:=K) (v:=v) (a:=a) (Dt.chg (T:=dChip) o c (by simp))
 have ck:=fun F K (c:Chg H K [])=>Om (frz:=F) (H:=K) (v:=v) (a:=a) (Dt.chg (T:=dChip) o c (by simp))
 have er:=fun K (c:Chg H K [])=>F7 (frz:=H.length) (H:=K) (v:=v.1) (x:=a.1) (k:=k) (Dt.chg (T:=dNet) o.1 c (by simp)) h9
 simp only [Qc] at er
 simp only [Qj] at ecopy ck ⊢
 rw [Qb (fn:=Tryz.f27) Tryz.func27 rfl (by kernel_rfl) rfl]
 obtain ⟨G,hG⟩:∃G,G=H++[⟨chipCells v a,0,38⟩,⟨zChip,0,38⟩]:=⟨_,rfl⟩
 have cG:Chg H G []:=by rw [hG];exact Chg.app _
 have b0:G[H.length]? = some ⟨chipCells v a,0,38⟩:=by rw [hG];simp
 have bR:G[H.length+1]? = some ⟨zChip,0,38⟩:=by rw [hG];simp
 have lG:G.length=H.length+2:=by rw [hG];simp
 have hGs:=hG.symm
 unfold chipCells netCells zChip at hGs
 simp only [List.cons_append,List.nil_append] at hGs
 simp [ones,one2]
 rw [hGs]
 clear hG hGs
 have b0':=b0
 unfold chipCells netCells at b0'
 simp only [List.cons_append,List.nil_append] at b0'
 try simp [VM.look,b0',ones,one2]
 refine Qd (ecopy G cG) ?_
 rintro _ K ⟨n,rfl,on,cn,mn,dn⟩
 have cK:Chg H K []:=cG.trans cn
 have b0:=Qa b0 cn (by simp)
 have bR:=Qa bR cn (by simp)
 have oneN:=Qt on
 have qn:=oneN.1
 have qn2:=oneN.2
 have lK:=cn.1
 have hFK:H.length≤K.length:=by omega
 obtain ⟨K2,hK2⟩:∃K2,K2=K++[⟨chipCells n a,0,38⟩]:=⟨_,rfl⟩
 have c12:Chg K K2 []:=by rw [hK2];exact Chg.app _
 have cK2:=cK.trans c12
 have l2:K2.length=K.length+1:=by rw [hK2];simp
 have b0:=Qa b0 c12 (by simp)
 have bR:=Qa bR c12 (by simp)
 have bC:K2[K.length]? = some ⟨chipCells n a,0,38⟩:=by rw [hK2];simp
 have on2:=Dt.chg (T:=dChip) on c12 (by simp)
 have hF:H.length≤H.length+1:=by omega
 have mn':∀i∈dChip.ids n,H.length+2≤i:=fun i hi=>by have:=mn i hi;omega
 have ltn:∀i∈dChip.ids n,i<K.length:=fun i hi=>dChip.lt on i hi
 have hKs:=hK2.symm
 unfold chipCells netCells at hKs
 simp only [List.cons_append,List.nil_append] at hKs
 simp [Qj,VM.look,qn,qn2,hFK]
 rw [hKs]
 clear hK2 hKs
 have ck':=fun F=>ck F K2 cK2
 have b0':=b0
 have bC':=bC
 unfold chipCells netCells at b0' bC'
 simp only [List.cons_append,List.nil_append] at b0' bC'
 by_cases g0:chipOk a
 rotate_left
 ·have hb:¬chipRuns a k:=fun h=>g0 h.1
  have gR:=Qi (r':=⟨chipCells n a,0,38⟩) bR
  have hM:=Zi (H:=H) (r:=⟨chipCells n a,0,38⟩) on2 cK2 mn' dn (show chipRun a k=a from if_neg g0) (decide_eq_false hb)
  unfold zChip at bR
  unfold chipCells netCells at gR hM
  simp only [List.cons_append,List.nil_append] at gR hM
  simp [VM.look,b0',ones,one2,ck',g0,bC',qn,qn2,bR,gR,hF]
  simpa [hb,Qj] using hM
 have eR:=er K2 cK2
 simp [VM.look,b0',ones,one2,ck',g0]
 refine Qd eR ?_
 rintro _ K3 ⟨_,rfl,n2,rfl,o3,c3,m3,d3⟩
 obtain ⟨z,hz⟩:∃z,z=runNet a.1 k:=⟨_,rfl⟩
 rw [← hz] at o3
 have one3:=Qh o3
 have l3:=c3.1
 have hFK3:H.length≤K3.length:=by omega
 obtain ⟨K4,hK4⟩:∃K4,K4=K3++[⟨netCells n2 z,0,35⟩]:=⟨_,rfl⟩
 have c34:Chg K3 K4 []:=by rw [hK4];exact Chg.app _
 have l4:K4.length=K3.length+1:=by rw [hK4];simp
 have bN:K4[K3.length]? = some ⟨netCells n2 z,0,35⟩:=by rw [hK4];simp
 have bC4:=Qa (Qa bC c3 (by simp)) c34 (by simp)
 have bR4:=Qa (Qa bR c3 (by simp)) c34 (by simp)
 have hKs:=hK4.symm
 unfold netCells at hKs
 have eb:decide (chipRuns a k)=decide (runs a.1 k):=by simp [chipRuns,g0]
 have ec:chipRun a k=(z,a.2):=by rw [hz];exact if_pos g0
 have o4:=Dt.chg (T:=dNet) o3 c34 (by simp)
 have op4:=Dt.chg (T:=dPk) (Dt.chg (T:=dPk) on2.2 c3 (by simp)) c34 (by simp)
 simp [Qc,← hz,one3,hFK3,VM.look]
 rw [hKs]
 clear hK4 hKs
 have gC:=Qi (r':=⟨chipCells (n2,n.2) (z,a.2),0,38⟩) bC4
 have cC:Chg K4 (K4.set K.length ⟨chipCells (n2,n.2) (z,a.2),0,38⟩) [K.length]:=Ql _ _
 have bR5:=Qa bR4 cC (by simp;omega)
 have gR:=Qi (r':=⟨chipCells (n2,n.2) (z,a.2),0,38⟩) bR5
 have hi1:∀i∈dNet.ids n2,K2.length≤i:=m3
 have hi2:∀i∈VM.ids n.2,H.length+2≤i∧i<K.length:=fun i hi=>⟨mn' i (List.mem_append_right _ hi),ltn i (List.mem_append_right _ hi)⟩
 have hM:=Zi (H:=H) (n:=(n2,n.2)) (y:=(z,a.2)) (r:=⟨chipCells (n2,n.2) (z,a.2),0,38⟩) (K:=K4.set K.length ⟨chipCells (n2,n.2) (z,a.2),0,38⟩)
  ⟨Dt.chg (T:=dNet) o4 cC (fun i hi hh=>by have:=hi1 i hi;simp at hh;omega),Dt.chg (T:=dPk) op4 cC (fun i hi hh=>by have:=(hi2 i hi).2;simp at hh;omega)⟩
  (((cK2.trans c3).trans c34).trans' cC (fun i hi=>.inr (by simp at hi;omega)))
  (fun i hi=>by
   rcases List.mem_append.1 hi with h|h
   ·have:=hi1 i h;omega
   ·exact (hi2 i h).1)
  (List.nodup_append.2 ⟨d3,Qw n.2,fun x hx y hy e=>by
   subst e
   have:=hi1 x hx
   have:=(hi2 x hy).2
   omega⟩) ec eb
 unfold chipCells netCells zChip at bR5
 unfold chipCells netCells at gC bC4 gR hM
 unfold netCells at bN
 simp only [List.cons_append,List.nil_append] at gC bC4 gR hM bR5
 simp [VM.look,bN,bC4,gC,bR5,gR,one3,qn2,hF,hFK]
 rw [ec,eb]
 rw [ec,eb] at hM
 simpa [Qj] using hM
theorem J9 {x:NetD} (h:netOk x) {L:Nat} (hL:1000≤L):allL L x.2.2.1:=fun l hl=>by
 obtain ⟨i,hi,rfl⟩:=List.getElem_of_mem hl
 have:=(h.2.2.1 i hi).1
 rw [Wx hi] at this
 omega
theorem D7 {x:NetD} (h:netOk x) {L:Nat} (hL:1000≤L) (h9:allL L x.2.2.2.2.2.2.1) {k:Nat} (hk:k≤400):allL (L+38400) (runN x k).2.2.2.2.2.2.1:=
 Qu (Sy (J9 h hL) h9 k).2 (by omega)
theorem Xa {α:Type} {D:Fl α} {e:TypeId} {v:Value} {xs:List α} (h:Ow D e H v xs):live1 H v:=by
 rcases h with ⟨rfl,_⟩|⟨id,off,r,rfl,h2,_⟩
 ·trivial
 ·show VM.look H ⟨id,off,some r.gen⟩≠none
  simp [VM.look,h2]
theorem O4 {v:ChipV} {x:ChipD} (o:dChip.Ow H v x):VM.live H (.agg #[.int .i64 x.1.1.1,.int .i64 x.1.1.2.1,v.1.1,v.1.2.1.1,v.1.2.1.2,v.1.2.2.1.1,v.1.2.2.2.1,v.1.2.2.2.2.1,v.1.2.2.2.2.2.1.1,v.1.2.2.2.2.2.2.1.1,.int .i64 x.1.2.2.2.2.2.2.2,v.2]):=fun c hc=>by
 obtain ⟨⟨o1,o2,o3,o4,o5,o6,o7,_⟩,o8⟩:=o
 have a1:=Xa o1.1
 have a2:=Xa o2.1.1
 have a3:=Xa o2.2.1
 have a4:=Xa o3.1.1
 have a5:=Xa o4.1
 have a6:=Xa o5.1
 have a7:=Xa o6.1.1
 have a8:=Xa o7.1.1
 have a9:=Xa o8.1
 simp only [List.mem_cons,List.not_mem_nil,or_false] at hc
 rcases hc with rfl|rfl|rfl|rfl|rfl|rfl|rfl|rfl|rfl|rfl|rfl|rfl<;>first|trivial|assumption
end Go.Proofs.YtmddnnecgnpccaaGreat.V
set_option linter.all false
namespace Go.Proofs.YtmddnnecgnpccaaGreat.V
open Go Go.VM Go.Proofs
set_option maxRecDepth 10000
theorem Zk {x:NetD} {list:List PkD} (h:sentOk x.1.1 x.1.2.1 list):Sent (stat x) list:=by
 have at':∀p∈list,∃i,i<list.length∧list.getD i pk0=p∧p.1=(i:Int)+1∧packetOk x.1.1 x.1.2.1 p:=fun p hp=>by
  obtain ⟨i,hi,rfl⟩:=List.mem_iff_getElem.1 hp
  obtain ⟨h1,h2⟩:=h i hi
  have e:list.getD i pk0=list[i]:=by simp [List.getD_eq_getElem?_getD,hi]
  rw [e] at h1 h2
  exact ⟨i,hi,e,h2,h1⟩
 refine ⟨fun p hp q hq e=>?_,fun p hp=>?_⟩
 ·obtain ⟨i,hi,e1,e2,_⟩:=at' p hp
  obtain ⟨j,hj,f1,f2,_⟩:=at' q hq
  have:i=j:=by omega
  subst this
  exact e1.symm.trans f1
 ·obtain ⟨_,_,_,_,k⟩:=at' p hp;exact k
theorem Dp {w h:Int} {list:List PkD} (k:sentOk w h list):∀p∈list,p.1≤list.length:=fun p hp=>by
 obtain ⟨i,hi,rfl⟩:=List.mem_iff_getElem.1 hp
 have h2:=(k i hi).2
 have e:list.getD i pk0=list[i]:=by simp [List.getD_eq_getElem?_getD,hi]
 rw [e] at h2;omega
theorem Df {x:NetD} {list:List PkD} {p:PkD} (hn:netOk x) (hS:Sent (stat x) list) (hnew:∀q∈list,q.1≠p.1) (hp:packetOk x.1.1 x.1.2.1 p) (g:GoodN x list):GoodN (sendNet x p) (list++[p]):=by
 have hnn:=Xt x
 have hp0:=hp
 obtain ⟨_,⟨q1,q2⟩,_,_,q3,_⟩:=hp
 have hk:p.2.1.toNat<nC x:=by omega
 have gen:∀y,Gen list y→Gen (list++[p]) y:=fun y ⟨q,hq,e⟩=>⟨q,List.mem_append_left _ hq,e⟩
 have genp:∀y,y∈flitsOf x.1.1 x.1.2.1 p→Gen (list++[p]) y:=fun y hy=>⟨p,by simp,Ub hy⟩
 have inO:∀s t c y,Gen list y→inF (list++[p]) s t c y=inF list s t c y:=fun s t c y ⟨q,hq,e1,_⟩=>by
  unfold inF
  congr 1
  apply propext
  constructor
  ·rintro ⟨r,hr,r1,r2⟩
   rcases List.mem_append.1 hr with hr|hr
   ·exact ⟨r,hr,r1,r2⟩
   ·rw [List.mem_singleton.1 hr] at r1
    exact absurd (e1.trans r1.symm) (hnew q hq)
  ·rintro ⟨r,hr,r1,r2⟩
   exact ⟨r,List.mem_append_left _ hr,r1,r2⟩
 have inP:∀(s t c:Nat) y,y∈flitsOf x.1.1 x.1.2.1 p→inF (list++[p]) s t c y=decide (isFlow s t c p):=fun s t c y hy=>by
  obtain ⟨e1,_,_⟩:=Ub hy
  unfold inF
  congr 1
  apply propext
  constructor
  ·rintro ⟨r,hr,r1,r2⟩
   rcases List.mem_append.1 hr with hr|hr
   ·exact absurd (r1.trans e1.symm) (hnew r hr)
   ·rw [← List.mem_singleton.1 hr];exact r2
  ·intro r;exact ⟨p,by simp,e1,r⟩
 have lS:x.2.2.2.2.2.1.length=nC x:=g.lS
 have eS:(sendNet x p).2.2.2.2.2.1=x.2.2.2.2.2.1.set p.2.1.toNat (x.2.2.2.2.2.1.getD p.2.1.toNat []++flitsOf x.1.1 x.1.2.1 p):=rfl
 have at1:(x.2.2.2.2.2.1.set p.2.1.toNat (x.2.2.2.2.2.1.getD p.2.1.toNat []++flitsOf x.1.1 x.1.2.1 p)).getD p.2.1.toNat []=x.2.2.2.2.2.1.getD p.2.1.toNat []++flitsOf x.1.1 x.1.2.1 p:=by
  rw [List.getD_eq_getElem?_getD,List.getElem?_set_self (by omega)];rfl
 have at2:∀k,k≠p.2.1.toNat→(x.2.2.2.2.2.1.set p.2.1.toNat (x.2.2.2.2.2.1.getD p.2.1.toNat []++flitsOf x.1.1 x.1.2.1 p)).getD k []=x.2.2.2.2.2.1.getD k []:=fun k hne=>by
  simp only [List.getD_eq_getElem?_getD]
  rw [List.getElem?_set_ne (fun e=>hne e.symm)]
 obtain ⟨st,fr,sr,w,ps⟩:=g.wf
 show Good (stat x) (list++[p]) x.2.2.1 x.2.2.2.1 x.2.2.2.2.2.2.1 (x.2.2.2.2.2.1.set p.2.1.toNat (x.2.2.2.2.2.1.getD p.2.1.toNat []++flitsOf x.1.1 x.1.2.1 p))
 generalize x.2.2.2.2.2.1.set p.2.1.toNat (x.2.2.2.2.2.1.getD p.2.1.toNat []++flitsOf x.1.1 x.1.2.1 p)=S' at *
 have lS':S'.length=nC x:=by
  have:=congrArg List.length eS
  unfold sendNet withSrc at this
  simp at this
  omega
 have sO:∀(k:Key),(∃q∈list,q.1=k.1∧q.2.2.1=k.2.1∧q.2.2.2.1=k.2.2)→∀s t c:Nat,sentP (list++[p]) k.1 s t c→sentP list k.1 s t c:=fun k ⟨q,hq,e1,_⟩ s t c ⟨r,hr,r1,r2⟩=>by
  rcases List.mem_append.1 hr with hr|hr
  ·exact ⟨r,hr,r1,r2⟩
  ·rw [List.mem_singleton.1 hr] at r1
   exact absurd (e1.trans r1.symm) (hnew q hq)
 have pos':Pos (stat x) (list++[p]) fr sr:=
  ⟨fun j k e=>by obtain ⟨q,hq,e1⟩:=ps.gf j k e;exact ⟨q,List.mem_append_left _ hq,e1⟩,fun j k e=>by obtain ⟨q,hq,e1⟩:=ps.gs j k e;exact ⟨q,List.mem_append_left _ hq,e1⟩,
   fun s t c R L h1 h2 h3 rt j k e hq=>ps.pf s t c R L h1 h2 h3 rt j k e (sO k (ps.gf j k e) s t c hq),fun s t c h1 h2 h3 j k e hq=>ps.ps s t c h1 h2 h3 j k e (sO k (ps.gs j k e) s t c hq)⟩
 refine ⟨g.lB,g.lO,g.lA,lS',g.cl,fun j y hy=>gen y (g.gB j y hy),fun j y hy=>?_,fun t y hy=>⟨gen y (g.gA t y hy).1,(g.gA t y hy).2⟩,g.rc,⟨st,fr,sr,⟨w.o1,w.o2,w.o3,w.w4,w.w5,fun k hk'=>?_,w.w7⟩,pos'⟩,fun s t c R L h1 h2 h3 rt=>?_⟩
 ·by_cases e:j=p.2.1.toNat
  ·subst e
   rw [at1] at hy
   rcases List.mem_append.1 hy with hy|hy
   ·exact gen y (g.gS _ y hy)
   ·exact genp y hy
  ·rw [at2 j e] at hy;exact gen y (g.gS _ y hy)
 ·by_cases e:k=p.2.1.toNat
  ·subst e
   rw [at1]
   exact (w.w6 _ hk').app (T8 hp0)
  ·rw [at2 k e];exact w.w6 k hk'
 ·obtain ⟨z1,z2,z3⟩:=g.fl s t c R L h1 h2 h3 rt
  have eA:(x.2.2.2.2.2.2.1.getD t []).filter (inF (list++[p]) s t c)=(x.2.2.2.2.2.2.1.getD t []).filter (inF list s t c):=List.filter_congr fun y hy=>inO s t c y (g.gA t y hy).1
  have eB:∀j,(x.2.2.1.getD j []).filter (inF (list++[p]) s t c)=(x.2.2.1.getD j []).filter (inF list s t c):=fun j=>List.filter_congr fun y hy=>inO s t c y (g.gB j y hy)
  have eO:∀j,(x.2.2.2.2.2.1.getD j []).filter (inF (list++[p]) s t c)=(x.2.2.2.2.2.1.getD j []).filter (inF list s t c):=fun j=>List.filter_congr fun y hy=>inO s t c y (g.gS j y hy)
  have eF:flowFl (stat x) (list++[p]) s t c=flowFl (stat x) list s t c++(if isFlow s t c p then flitsOf x.1.1 x.1.2.1 p else []):=by
   unfold flowFl
   rw [List.filter_append,List.flatMap_append]
   congr 1
   by_cases e:isFlow s t c p
   ·rw [if_pos e,List.filter_cons_of_pos (by simpa using e)];simp;rfl
   ·rw [if_neg e,List.filter_cons_of_neg (by simpa using e)];rfl
  refine ⟨?_,fun j y hy hF=>z2 j y hy (by rw [← inO s t c y (g.gB j y hy)];exact hF),fun k y hy hF=>?_⟩
  ·rw [eA,Y2 L (fun n _=>eB (R n)),eF,← z1]
   have eS2:(S'.getD s []).filter (inF (list++[p]) s t c)=(x.2.2.2.2.2.1.getD s []).filter (inF list s t c)++(if isFlow s t c p then flitsOf x.1.1 x.1.2.1 p else []):=by
    by_cases e:s=p.2.1.toNat
    ·subst e
     rw [at1,List.filter_append,eO]
     congr 1
     by_cases e2:isFlow (p.2.1.toNat:Nat) t c p
     ·rw [if_pos e2,List.filter_eq_self.2]
      intro y hy
      rw [inP _ _ _ y hy];simpa using e2
     ·rw [if_neg e2,List.filter_eq_nil_iff.2]
      intro y hy
      rw [inP _ _ _ y hy];simpa using e2
    ·rw [at2 s e,eO,if_neg,List.append_nil]
     intro e2
     have:=e2.1
     omega
   rw [eS2]
   simp only [List.append_assoc]
  ·by_cases e:k=p.2.1.toNat
   ·subst e
    rw [at1] at hy
    rcases List.mem_append.1 hy with hy|hy
    ·exact z3 _ y hy (by rw [← inO s t c y (g.gS _ y hy)];exact hF)
    ·rw [inP s t c y hy] at hF
     have:=(of_decide_eq_true hF).1
     omega
   ·rw [at2 k e] at hy
    exact z3 k y hy (by rw [← inO s t c y (g.gS _ y hy)];exact hF)
theorem Fb {x:NetD} {list:List PkD} {p:PkD} (hn:netOk x) (hs:sentOk x.1.1 x.1.2.1 list) (hp:packetOk x.1.1 x.1.2.1 p) (hid:p.1=(list.length:Int)+1) (g:GoodN x list):GoodN (sendNet x p) (list++[p]):=
 Df hn (Zk hs) (fun q hq e=>by have:=Dp hs q hq;omega) hp g
def GoodC (a:ChipD):Prop:=chipOk a∧GoodN a.1 a.2
theorem Re {x:NetD} {list:List PkD} (hn:netOk x) (hl:list.length≤200) (hs:sentOk x.1.1 x.1.2.1 list) (g:GoodN x list):GoodC (x,list):=
 ⟨⟨hn,hl,hs,Dj hn (Zk hs) g⟩,g⟩
theorem P5 {a:ChipD} (h:GoodC a) (p q r s:Int):GoodC (chipSend a p q r s):=by
 unfold chipSend
 split
 ·rename_i k
  obtain ⟨⟨h1,h2,h3,h4⟩,g⟩:=h
  obtain ⟨_,k2,k3⟩:=k
  have hk:=F5 h1 (nextP a p q r s)
  have e:sendP a.1 (nextP a p q r s)=sendNet a.1 (nextP a p q r s):=if_pos ⟨h1,k3⟩
  rw [e] at hk
  refine Re hk.ok (by rw [List.length_append];show a.2.length+1≤200;omega) ?_ (Fb h1 h3 k3.1 rfl g)
  have em:=hk.m
  show sentOk (sendNet a.1 _).1.1 (sendNet a.1 _).1.2.1 _
  rw [em]
  intro i hi
  simp at hi
  by_cases e:i<a.2.length
  ·have e2:(a.2++[nextP a p q r s]).getD i pk0=a.2.getD i pk0:=by simp only [List.getD_eq_getElem?_getD];rw [List.getElem?_append_left e]
   rw [e2];exact h3 i e
  ·have e3:i=a.2.length:=by omega
   subst e3
   have e2:(a.2++[nextP a p q r s]).getD a.2.length pk0=nextP a p q r s:=by simp [List.getD_eq_getElem?_getD]
   rw [e2];exact ⟨k3.1,rfl⟩
 ·exact h
theorem Rp {a:ChipD} (h:GoodC a) {k:Nat} (hk:a.1.2.2.2.2.2.2.2+k≤1000000):GoodC (runN a.1 k,a.2):=by
 obtain ⟨⟨h1,h2,h3,h4⟩,g⟩:=h
 obtain ⟨e,g'⟩:=Zw h1.1 (Zk h3) g k
 have e1':(stat (runN a.1 k)).1=(stat a.1).1:=by rw [e]
 have e1:(runN a.1 k).1=a.1.1:=e1'
 exact Re (Ud h1 k hk) h2 (by show sentOk (runN a.1 k).1.1 (runN a.1 k).1.2.1 a.2;rw [e1];exact h3) g'
theorem E2 {w h:Int} (g:okG w h):GoodC (chipNew w h):=by
 have hc:=Uc g
 have e:chipNew w h=(netNew (w,h,[]) (splitT w h),[]):=if_pos g
 rw [e]
 obtain ⟨hn,k2,_,_⟩:=Ea (m:=(w,h,[])) (t:=splitT w h) hc
 have e2:netNew (w,h,[]) (splitT w h)=((w,h,[]),splitT w h,List.replicate (10*(cnt w h).toNat) [],List.replicate (10*(cnt w h).toNat) (-1),List.replicate (5*(cnt w h).toNat) 0,List.replicate (cnt w h).toNat [],List.replicate (cnt w h).toNat [],0):=by
  unfold netNew;rw [if_pos hc]
 have rep:∀n j,(List.replicate n ([]:List FlitD)).getD j []=[]:=fun n j=>by
  rw [List.getD_eq_getElem?_getD,List.getElem?_replicate]
  split<;>rfl
 refine Re hn (by simp) (fun i hi=>by simp at hi) ?_
 rw [e2]
 unfold GoodN
 refine Good.still ?_ ?_ ?_ ?_ (rep _) (rep _) (fun o ho=>List.eq_of_mem_replicate ho) (fun t y hy=>?_) (fun t c _ _=>?_) (fun s t c _ _ _=>?_)
 ·show (List.replicate _ _).length=_;rw [List.length_replicate];rfl
 ·show (List.replicate _ _).length=_;rw [List.length_replicate];rfl
 ·show (List.replicate _ _).length=_;rw [List.length_replicate];rfl
 ·show (List.replicate _ _).length=_;rw [List.length_replicate];rfl
 ·have hy:y∈(List.replicate (cnt w h).toNat ([]:List FlitD)).getD t []:=hy
  rw [rep] at hy;simp at hy
 ·show Str none (((List.replicate (cnt w h).toNat ([]:List FlitD)).getD t []).filter _) none
  rw [rep];rfl
 ·show ((List.replicate (cnt w h).toNat ([]:List FlitD)).getD t []).filter _=_
  rw [rep];rfl
structure Ranked (x:NetD) (ρ:Nat→Nat):Prop where
 lt:∀j,ρ j<1000
 up:∀(s t c:Nat) R L,s<nC x→t<nC x→c<2→Route x s t c R L→∀n,n<L→ρ (R n)<ρ (R (n+1))
theorem Ib {x:NetD} {a p:Nat} {st:List GrD×List Bool} (h:(grStep x a st p).1=[]):st.1=[]∧grStep x a st p=st∧¬0≤pickN x a p st.2:=by
 unfold grStep at h ⊢
 split at h
 ·simp at h
 ·rename_i g;rw [if_neg g];exact ⟨h,rfl,g⟩
theorem Kb (x:NetD) (a:Nat):∀p,(grTo x a p).1=[]→(grTo x a p).2=List.replicate 5 false∧∀q,q<p→¬0≤pickN x a q (List.replicate 5 false)
 | 0,_=>⟨rfl,fun q h=>by omega⟩
 | p+1,h=>by
  rw [X8] at h
  obtain ⟨h1,h2,h3⟩:=Ib h
  obtain ⟨i1,i2⟩:=Kb x a p h1
  rw [X8,h2]
  refine ⟨i1,fun q hq=>?_⟩
  by_cases e:q=p
  ·subst e;rw [i1] at h3;exact h3
  ·exact i2 q (by omega)
theorem Jl {t:Int} {y:Int} {l:List Int} (h:∀z∈y::l,0≤z):0≤firstF t (y::l):=by
 unfold firstF
 rw [List.foldl_cons,if_pos (.inl (by omega))]
 rcases Ug t l y with e|e
 ·rw [e];exact h y (List.mem_cons_self ..)
 ·exact h _ (List.mem_cons_of_mem _ e)
theorem qc {x:NetD} {a:Nat} (h:grN x a=[]) {p i:Nat} (hp:p<5) (hi:i<10):¬reqN x a i p:=fun r=>by
 have:=(Kb x a 5 h).2 p hp
 apply this
 have hm:i∈freeN x a p (List.replicate 5 false):=by
  unfold freeN reqsN
  refine List.mem_filter.2 ⟨List.mem_filter.2 ⟨List.mem_range.2 hi,by simpa using r⟩,?_⟩
  have:(List.replicate 5 false).getD (i/2) false=false:=by
   rw [List.getD_eq_getElem?_getD,List.getElem?_replicate];split<;>rfl
  rw [this];rfl
 unfold pickN
 cases hl:freeN x a p (List.replicate 5 false) with
 | nil=>rw [hl] at hm;simp at hm
 | cons b l=>
  rw [List.map_cons]
  refine Jl fun z hz=>?_
  rw [← List.map_cons (f:=Int.ofNat)] at hz
  obtain ⟨n,_,rfl⟩:=List.mem_map.1 hz
  exact Int.natCast_nonneg n
theorem qz {x:NetD} (h:allN x=[]) {a:Nat} (ha:a<nC x):grN x a=[]:=by
 unfold allN allTo at h
 rw [List.flatMap_eq_nil_iff] at h
 exact h a (List.mem_range.2 ha)
section
variable {x:NetD} {list:List PkD} {ρ:Nat→Nat} (hn:netOk x) (h:Sent (stat x) list) (g:GoodN x list) (rk:Ranked (stat x) ρ) (hA:allN x=[]) (hE:enterN x=[])
include h g
theorem Lz {a i:Nat} {y:FlitD} (ha:a<nC x) (hi:i<10) (hy:y∈x.2.2.1.getD (10*a+i) []) (hn:netOk x):∃(s t:Nat) (R:Nat→Nat) (L n:Nat),s<nC x∧t<nC x∧Route (stat x) s t (i%2) R L∧n≤L∧10*a+i=R n∧y.2.1=(t:Int):=by
 obtain ⟨p,hp,e1,e2,e3⟩:=g.gB _ y hy
 obtain ⟨_,⟨q1,q2⟩,⟨q3,q4⟩,_,q5,_⟩:=h.ok p hp
 have hnn:=Xt x
 have q2':p.2.1<cnt x.1.1 x.1.2.1:=q2
 have q4':p.2.2.1<cnt x.1.1 x.1.2.1:=q4
 unfold inR at q5
 have ec:=g.cl _ y hy
 have c1:p.2.2.2.1=((i%2:Nat):Int):=by rw [e3,ec];omega
 have s1:p.2.1=((p.2.1.toNat:Nat):Int):=by omega
 have t1:p.2.2.1=((p.2.2.1.toNat:Nat):Int):=by omega
 obtain ⟨R,L,rt⟩:=Yu (x:=stat x) (W7 (x:=stat x) hn.1) (s:=p.2.1.toNat) (t:=p.2.2.1.toNat) (c:=i%2) (show _<nC x by omega) (show _<nC x by omega) (by omega)
 obtain ⟨n,hn1,hn2⟩:=(g.fl _ _ _ R L (show _<nC x by omega) (show _<nC x by omega) (by omega) rt).z2 _ y hy (by unfold inF;rw [decide_eq_true_eq];exact ⟨p,hp,e1,s1,t1,c1⟩)
 exact ⟨_,_,R,L,n,by omega,by omega,rt,hn1,hn2,by rw [← e2];exact t1⟩
include hn rk
theorem On {a i p:Nat} {y:FlitD} (ha:a<nC x) (hi:i<10) (hy:y∈x.2.2.1.getD (10*a+i) []) (hp:pO x a (i%2) y.2.1=(p:Int)) (h4:p≠4):p<4∧hasP x a p∧ρ (10*a+i)<ρ (tgt x a p (i%2)):=by
 obtain ⟨s,t,R,L,n,h1,h2,rt,h3,h5,h6⟩:=Lz h g ha hi hy hn
 have ea:R n/10=a:=by omega
 rw [h6] at hp
 rcases Nat.lt_or_ge n L with hL|hL
 ·obtain ⟨p',p1,p2,p3,p4⟩:=rt.rs n hL
  have p2':pO x (R n/10) (i%2) t=(p':Int):=p2
  rw [ea,hp] at p2'
  have:p=p':=by omega
  subst this
  rw [ea] at p3 p4
  have:=rk.up s t (i%2) R L h1 h2 (by omega) rt n hL
  rw [p3,← h5] at this
  exact ⟨p1,p4,this⟩
 ·have:n=L:=by omega
  subst this
  have r4:pO x t (i%2) t=4:=rt.r4
  have rt':=rt.rt
  rw [ea] at rt'
  rw [rt',r4] at hp
  omega
include hA
theorem Tj {a i p:Nat} {y:FlitD} {r:List FlitD} (ha:a<nC x) (hi:i<10) (hp:p<5) (hj:x.2.2.1.getD (10*a+i) []=y::r) (hw:wantedN x a i=(p:Int)) (hpo:pO x a (i%2) y.2.1=(p:Int)) (ho:x.2.2.2.1.getD (outAt a p (i%2)) 0=if y.2.2.2.1 then -1 else ((i/2:Nat):Int)) :
 p<4∧x.2.2.1.getD (tgt x a p (i%2)) []≠[]∧ρ (10*a+i)<ρ (tgt x a p (i%2)):=by
 have eh:headOf x (10*a+i)=y:=by unfold headOf;rw [hj];rfl
 have nr:=qc (qz hA ha) hp hi
 have hm:y∈x.2.2.1.getD (10*a+i) []:=by rw [hj];exact List.mem_cons_self ..
 have nroom:¬roomN x a p (i%2):=fun k=>nr ⟨hw,k,by rw [eh];exact ho⟩
 have h4:p≠4:=fun e=>nroom (.inl e)
 obtain ⟨n1,n2,n3⟩:=On hn h g rk ha hi hm hpo h4
 refine ⟨n1,fun e=>nroom (.inr ⟨n2,?_⟩),n3⟩
 rw [e];simp
theorem Uz {st fr sr:Nat→Option Key} (w:Wf (stat x) x.2.2.1 x.2.2.2.1 x.2.2.2.2.2.2.1 x.2.2.2.2.2.1 st fr sr) {a i p:Nat} {y:FlitD} {r:List FlitD} {k:Key} (ha:a<nC x) (hi:i<10) (hp:p<5) (hj:x.2.2.1.getD (10*a+i) []=y::r) (hf:fr (10*a+i)=some k)
 (ho:x.2.2.2.1.getD (outAt a p (i%2)) 0=((i/2:Nat):Int)) (hs:∃u,Str (fr (10*a+i)) (y::r) u):y.2.2.2.1=false∧wantedN x a i=(p:Int)∧pO x a (i%2) y.2.1=(p:Int):=by
 obtain ⟨u,hu⟩:=hs
 obtain ⟨b,rfl⟩:=S1 hu.pop.1 hf
 have ei:10*a+2*(i/2)+i%2=10*a+i:=by omega
 have only:∀p',p'<5→x.2.2.2.1.getD (outAt a p' (i%2)) 0=((i/2:Nat):Int)→pO x a (i%2) y.2.1=(p':Int):=fun p' hp' e=>by
  obtain ⟨k,_,k2,k3⟩:=w.o2 a p' (i%2) (i/2) ha hp' (by omega) (by omega) e
  rw [ei,hf] at k2
  have:fkey y=k:=by simpa using k2
  subst this
  exact k3
 have eh:headOf x (10*a+i)=y:=by unfold headOf;rw [hj];rfl
 refine ⟨b,?_,only p hp ho⟩
 unfold wantedN
 rw [if_neg (by rw [hj];simp),eh,if_neg (by simp [b])]
 cases hf2:(List.range 5).find? (fun p=>decide (x.2.2.2.1.getD (outAt a p (i%2)) 0=((i/2:Nat):Int))) with
 | none=>
  have:=List.find?_eq_none.1 hf2 p (List.mem_range.2 hp)
  simp at this
  exact absurd ho (by simpa using this)
 | some p'=>
  have e1:=List.find?_some hf2
  have e2:=List.mem_range.1 (List.mem_of_find?_eq_some hf2)
  have e3:=only p' e2 (by simpa using e1)
  rw [only p hp ho] at e3
  exact e3.symm
end
section
variable {x:NetD} {list:List PkD} {ρ:Nat→Nat} (hn:netOk x) (h:Sent (stat x) list) (g:GoodN x list) (rk:Ranked (stat x) ρ) (hA:allN x=[]) (hE:enterN x=[])
include hn h g rk hA
theorem P8 {a p c:Nat} (ha:a<nC x) (hp:p<5) (hc:c<2) : -1≤x.2.2.2.1.getD (outAt a p c) 0∧x.2.2.2.1.getD (outAt a p c) 0≤4:=by
 have hl:outAt a p c<x.2.2.2.1.length:=by have:x.2.2.2.1.length=10*nC x:=g.lO;unfold outAt;omega
 have:=hn.2.2.2.2.1 _ (List.getElem_mem hl)
 rw [List.getD_eq_getElem?_getD,List.getElem?_eq_getElem hl]
 exact this
include hE
theorem Ln {k:Nat} (hk:k<nC x):¬entersN x k:=fun e=>by
 have:k∈enterN x:=List.mem_filter.2 ⟨List.mem_range.2 hk,by simpa using e⟩
 rw [hE] at this;simp at this
theorem chase {st fr sr:Nat→Option Key} (w:Wf (stat x) x.2.2.1 x.2.2.2.1 x.2.2.2.2.2.2.1 x.2.2.2.2.2.1 st fr sr) (ps:Pos (stat x) list fr sr) {s t c:Nat} {R:Nat→Nat} {L:Nat} (hs:s<nC x) (ht:t<nC x) (hc:c<2) (rt:Route (stat x) s t c R L) {k:Key} (hk:sentP list k.1 s t c) (kc:k.2.2=(c:Int)) :
 ∀n,n≤L→fr (R n)=some k→x.2.2.1.getD (R n) []=[]→False
 | 0,_,hf,hb=>by
  have r0:=rt.r0
  have w5:=w.w5 s c hs hc
  rw [← r0,hb,hf] at w5
  have w5:some k=inc (sr s) c:=w5
  have hsr:sr s=some k:=by
   cases hq:sr s with
   | none=>rw [hq] at w5;simp [inc] at w5
   | some q=>
    rw [hq] at w5
    simp only [inc] at w5
    split at w5
    ·exact w5.symm
    ·simp at w5
  have w6:=w.w6 s hs
  rw [hsr] at w6
  have hne:x.2.2.2.2.2.1.getD s []≠[]:=fun e=>by
   rw [e] at w6
   have:some k=(none:Option Key):=w6
   simp at this
  have hS:=Xm hne
  rw [hS] at w6
  obtain ⟨b,kk⟩:=S1 w6.pop.1 rfl
  have cls:(srcHead x s).2.2.1=(c:Int):=by
   have:fkey (srcHead x s)=k:=kk.symm
   rw [← kc,← this];rfl
  have ea:entAt x s=R 0:=by rw [r0];unfold entAt;rw [cls];omega
  exact Ln hn h g rk hA hE hs ⟨hne,by rw [ea,hb];simp⟩
 | n+1,hL,hf,hb=>by
  obtain ⟨p',p1,p2,p3,p4⟩:=rt.rs n (by omega)
  have hlt:=rt.lt n (by omega)
  have ha:R n/10<nC x:=by have:R n<10*nC x:=hlt;omega
  have w4:=w.w4 (R n/10) p' c ha p1 hc p4
  rw [← p3,hb,hf] at w4
  have w4:some k=st (outAt (R n/10) p' c):=w4
  obtain ⟨o1,o2⟩:=P8 hn h g rk hA ha (show p'<5 by omega) hc
  by_cases e1:x.2.2.2.1.getD (outAt (R n/10) p' c) 0=-1
  ·have:=w.o1 (R n/10) p' c ha (by omega) hc e1
   rw [this] at w4;simp at w4
  ·obtain ⟨q,hq⟩:∃q:Nat,x.2.2.2.1.getD (outAt (R n/10) p' c) 0=(q:Int):=⟨(x.2.2.2.1.getD (outAt (R n/10) p' c) 0).toNat,by omega⟩
   obtain ⟨k',k1,k2,k3⟩:=w.o2 (R n/10) p' c q ha (by omega) hc (by omega) hq
   rw [← w4] at k1
   have:k=k':=by simpa using k1
   subst this
   obtain ⟨m,hm,em⟩:=ps.pf s t c R L hs ht hc rt _ k k2 hk
   have:m=n:=rt.ij m n hm (by omega) (by omega)
   subst this
   rw [em] at k2
   by_cases hb2:x.2.2.1.getD (R m) []=[]
   ·exact chase w ps hs ht hc rt hk kc m (by omega) k2 hb2
   ·have hB:=Xm hb2
    have md:=rt.md m (by omega)
    have ei:10*(R m/10)+R m%10=R m:=by omega
    have ec:R m%10%2=c:=by omega
    have eq2:R m%10/2=q:=by omega
    have hs':∃u,Str (fr (10*(R m/10)+R m%10)) (headL (x.2.2.1.getD (R m) [])::(x.2.2.1.getD (R m) []).drop 1) u:=by
     rw [ei,← hB]
     rcases g.rc (R m) hb2 with ⟨a',p',c',h1,h2,h3,h4,e⟩|⟨k',c',h1,h2,e⟩
     ·have:=w.w4 a' p' c' h1 h2 h3 h4
      rw [← e] at this;exact ⟨_,this⟩
     ·have:=w.w5 k' c' h1 h2
      rw [← e] at this;exact ⟨_,this⟩
    have hj:x.2.2.1.getD (10*(R m/10)+R m%10) []=headL (x.2.2.1.getD (R m) [])::(x.2.2.1.getD (R m) []).drop 1:=by rw [ei];exact hB
    obtain ⟨b1,b2,b3⟩:=Uz hn h g rk hA w ha (show R m%10<10 by omega) (show p'<5 by omega) hj (by rw [ei];exact k2) (by rw [ec,eq2];exact hq) hs'
    obtain ⟨_,f2,_⟩:=Tj hn h g rk hA ha (show R m%10<10 by omega) (show p'<5 by omega) hj b2 b3 (by rw [ec,eq2,if_neg (by rw [b1];simp)];exact hq)
    rw [ec] at f2
    have p3':R (m+1)=tgt x (R m/10) p' c:=p3
    rw [← p3'] at f2
    exact f2 hb
theorem Jv:∀(d j:Nat),1000-ρ j≤d→x.2.2.1.getD j []≠[]→False
 | d,j,hd,hne=>by
  obtain ⟨st,fr,sr,w,ps⟩:=g.wf
  have hB:=Xm hne
  generalize headL (x.2.2.1.getD j [])=y at hB
  generalize (x.2.2.1.getD j []).drop 1=r at hB
  have hl:j<10*nC x:=by
   have:=Iv hB
   have lb:x.2.2.1.length=10*nC x:=g.lB
   omega
  obtain ⟨a,i,ha,hi,rfl⟩:∃a i,a<nC x∧i<10∧j=10*a+i:=⟨j/10,j%10,by omega,by omega,by omega⟩
  have hm:y∈x.2.2.1.getD (10*a+i) []:=by rw [hB];exact List.mem_cons_self ..
  have r1:=rk.lt (10*a+i)
  have hs:∃u,Str (fr (10*a+i)) (y::r) u:=by
   rw [← hB]
   rcases g.rc (10*a+i) hne with ⟨a',p',c',h1,h2,h3,h4,e⟩|⟨k',c',h1,h2,e⟩
   ·have:=w.w4 a' p' c' h1 h2 h3 h4
    rw [← e] at this;exact ⟨_,this⟩
   ·have:=w.w5 k' c' h1 h2
    rw [← e] at this;exact ⟨_,this⟩
  have hs':=hs
  obtain ⟨u,hu⟩:=hs
  have ok:=hu.pop.1
  have ei:10*a+2*(i/2)+i%2=10*a+i:=by omega
  have eh:headOf x (10*a+i)=y:=by unfold headOf;rw [hB];rfl
  have step:∀p:Nat,p<5→wantedN x a i=(p:Int)→pO x a (i%2) y.2.1=(p:Int)→(x.2.2.2.1.getD (outAt a p (i%2)) 0=if y.2.2.2.1 then -1 else ((i/2:Nat):Int))→False:=fun p hp hw hpo ho=>by
   obtain ⟨f1,f2,f3⟩:=Tj hn h g rk hA ha hi hp hB hw hpo ho
   have r2:=rk.lt (tgt x a p (i%2))
   cases d with
   | zero=>omega
   | succ d=>exact Jv d (tgt x a p (i%2)) (by omega) f2
  cases hh:y.2.2.2.1 with
  | false=>
   have hf:=F1 ok hh
   obtain ⟨p,hp,ho⟩:=w.o3 a (i/2) (i%2) (fkey y) ha (by omega) (by omega) (by rw [ei];exact hf)
   obtain ⟨b1,b2,b3⟩:=Uz hn h g rk hA w ha hi hp hB hf ho hs'
   exact step p hp b2 b3 (by rw [if_neg (by simp [hh])];exact ho)
  | true=>
   obtain ⟨s,t,R,L,n,h1,h2,rt,h3,h5,h6⟩:=Lz h g ha hi hm hn
   have hp:∃p:Nat,p<5∧pO x a (i%2) y.2.1=(p:Int):=by
    have tk:=W7 (x:=x) hn.1
    have hnn:=Xt x
    have:=I3 (tk (i%2) (by omega)) (a:=(a:Int)) (c:=y.2.1) ⟨by omega,by omega⟩ (by rw [h6];exact ⟨by omega,by omega⟩)
    unfold inR at this
    exact ⟨(pO x a (i%2) y.2.1).toNat,by unfold pO;omega,by unfold pO;omega⟩
   obtain ⟨p,hp,hpo⟩:=hp
   have hw:wantedN x a i=(p:Int):=by
    unfold wantedN
    rw [if_neg hne,eh,if_pos hh]
    exact hpo
   obtain ⟨o1,o2⟩:=P8 hn h g rk hA ha hp (show i%2<2 by omega)
   by_cases e1:x.2.2.2.1.getD (outAt a p (i%2)) 0=-1
   ·exact step p hp hw hpo (by rw [if_pos hh];exact e1)
   ·obtain ⟨q,hq⟩:∃q:Nat,x.2.2.2.1.getD (outAt a p (i%2)) 0=(q:Int):=⟨(x.2.2.2.1.getD (outAt a p (i%2)) 0).toNat,by omega⟩
    obtain ⟨k,k1,k2,k3⟩:=w.o2 a p (i%2) q ha hp (by omega) (by omega) hq
    -- the way of the packet that holds the channel
    obtain ⟨p0,hp0,g1,g2,g3⟩:=ps.gf _ k k2
    obtain ⟨_,⟨q1,q2⟩,⟨q3,q4⟩,_,q5,_⟩:=h.ok p0 hp0
    have hnn:=Xt x
    have q2':p0.2.1<cnt x.1.1 x.1.2.1:=q2
    have q4':p0.2.2.1<cnt x.1.1 x.1.2.1:=q4
    unfold inR at q5
    have hsn:sentP list k.1 (p0.2.1.toNat:Nat) (p0.2.2.1.toNat:Nat) (p0.2.2.2.1.toNat:Nat):=⟨p0,hp0,g1,by omega,by omega,by omega⟩
    obtain ⟨R1,L1,rt1⟩:=Yu (x:=stat x) (W7 (x:=stat x) hn.1) (s:=p0.2.1.toNat) (t:=p0.2.2.1.toNat) (c:=p0.2.2.2.1.toNat) (show _<nC x by omega) (show _<nC x by omega) (by omega)
    obtain ⟨n1,hn1,e2⟩:=ps.pf _ _ _ R1 L1 (show _<nC x by omega) (show _<nC x by omega) (by omega) rt1 _ k k2 hsn
    have md1:=rt1.md n1 hn1
    have ec:p0.2.2.2.1.toNat=i%2:=by omega
    by_cases hb:x.2.2.1.getD (10*a+2*q+i%2) []=[]
    ·exact chase hn h g rk hA hE w ps (show _<nC x by omega) (show _<nC x by omega) (by omega) rt1 hsn (by rw [← g3];omega) n1 hn1 (by rw [← e2];exact k2) (by rw [← e2];exact hb)
    ·have hB2:=Xm hb
     have ej:10*a+(2*q+i%2)=10*a+2*q+i%2:=by omega
     have hs2:∃u,Str (fr (10*a+(2*q+i%2))) (headL (x.2.2.1.getD (10*a+2*q+i%2) [])::(x.2.2.1.getD (10*a+2*q+i%2) []).drop 1) u:=by
      rw [ej,← hB2]
      rcases g.rc (10*a+2*q+i%2) hb with ⟨a',p',c',h1,h2,h3,h4,e⟩|⟨k',c',h1,h2,e⟩
      ·have:=w.w4 a' p' c' h1 h2 h3 h4
       rw [← e] at this;exact ⟨_,this⟩
      ·have:=w.w5 k' c' h1 h2
       rw [← e] at this;exact ⟨_,this⟩
     have m1:(2*q+i%2)%2=i%2:=by omega
     have m2:(2*q+i%2)/2=q:=by omega
     have hj2:x.2.2.1.getD (10*a+(2*q+i%2)) []=headL (x.2.2.1.getD (10*a+2*q+i%2) [])::(x.2.2.1.getD (10*a+2*q+i%2) []).drop 1:=by rw [ej];exact hB2
     obtain ⟨b1,b2,b3⟩:=Uz hn h g rk hA w ha (show 2*q+i%2<10 by omega) hp hj2 (by rw [ej];exact k2) (by rw [m1,m2];exact hq) hs2
     obtain ⟨f1,f2,_⟩:=Tj hn h g rk hA ha (show 2*q+i%2<10 by omega) hp hj2 b2 b3 (by rw [m1,m2,if_neg (by rw [b1];simp)];exact hq)
     rw [m1] at f2
     obtain ⟨_,_,f3⟩:=On hn h g rk ha hi hm hpo (by omega)
     have r2:=rk.lt (tgt x a p (i%2))
     cases d with
     | zero=>omega
     | succ d=>exact Jv d (tgt x a p (i%2)) (by omega) f2
 termination_by d=>d
theorem Ir:idle x:=by
 have hb:∀j,x.2.2.1.getD j []=[]:=fun j=>by
  by_cases e:x.2.2.1.getD j []=[]
  ·exact e
  ·exact (Jv hn h g rk hA hE _ j (Nat.le_refl _) e).elim
 have hs:∀j,x.2.2.2.2.2.1.getD j []=[]:=fun j=>by
  by_cases hj:j<nC x
  ·by_cases e:x.2.2.2.2.2.1.getD j []=[]
   ·exact e
   ·exact (Ln hn h g rk hA hE hj ⟨e,by rw [hb];simp⟩).elim
  ·have lS:x.2.2.2.2.2.1.length=nC x:=g.lS
   simp [List.getD_eq_getElem?_getD,List.getElem?_eq_none (show x.2.2.2.2.2.1.length≤j by omega)]
 have zero:∀S:SSD,(∀j,S.getD j []=[])→flits S=0:=fun S hS=>by
  unfold flits ahead
  rw [List.take_length]
  have:S.map List.length=List.replicate S.length 0:=by
   apply List.ext_getElem
   ·simp
   ·intro i h1 h2
    have:=hS i
    simp at h1
    rw [Wx h1] at this
    simp [this]
  rw [this];simp
 exact ⟨zero _ hb,zero _ hs⟩
end
theorem Ml (w h:Int) (b T:List Int) (to:Int) (h4:portOf w h T to to=4):∀L F a out,L≤F→itN (nuT w h T to) L a=to→(∀n,n<L→stepOk w h b T (itN (nuT w h T to) n a) to)→(walkN w h b T to F a out).length=out.length+L
 | 0,F,a,out,_,e,_=>by
  have e:a=to:=e
  subst e
  cases F with
  | zero=>unfold walkN;rw [if_pos h4,if_pos rfl];rfl
  | succ F=>unfold walkN;rw [if_pos h4,if_pos rfl];rfl
 | L+1,F,a,out,hF,e,hs=>by
  have s0:stepOk w h b T a to:=hs 0 (by omega)
  have hne:¬portOf w h T a to=4:=fun k=>by have:=s0.1;unfold inR at this;omega
  cases F with
  | zero=>omega
  | succ F=>
   unfold walkN
   rw [if_neg hne,if_pos s0]
   rw [Ml w h b T to h4 L F _ _ (by omega) (by have:=e;rw [Xc] at this;exact this) fun n hn=>by have:=hs (n+1) (by omega);rw [Xc] at this;exact this]
   simp;omega
theorem Tq (w h:Int) (b T:List Int) (to:Int):∀F a out,walkN w h b T to F a out≠[]→∃L,L≤F∧itN (nuT w h T to) L a=to∧∀n,n<L→stepOk w h b T (itN (nuT w h T to) n a) to
 | 0,a,out,hne=>by
  unfold walkN at hne
  by_cases e:portOf w h T a to=4
  ·rw [if_pos e] at hne
   by_cases e2:a=to
   ·exact ⟨0,by omega,e2,fun n h=>by omega⟩
   ·rw [if_neg e2] at hne;exact absurd rfl hne
  ·rw [if_neg e] at hne;exact absurd rfl hne
 | F+1,a,out,hne=>by
  unfold walkN at hne
  by_cases e:portOf w h T a to=4
  ·rw [if_pos e] at hne
   by_cases e2:a=to
   ·exact ⟨0,by omega,e2,fun n h=>by omega⟩
   ·rw [if_neg e2] at hne;exact absurd rfl hne
  ·rw [if_neg e] at hne
   by_cases e2:stepOk w h b T a to
   ·rw [if_pos e2] at hne
    obtain ⟨L,h0,h1,h2⟩:=Tq w h b T to F _ _ hne
    refine ⟨L+1,by omega,by rw [Xc];exact h1,fun n hn=>?_⟩
    cases n with
    | zero=>exact e2
    | succ n=>rw [Xc];exact h2 n (by omega)
   ·rw [if_neg e2] at hne;exact absurd rfl hne
def hop (x:NetD) (c:Nat) (a t:Int):Nat:=(walk x.1.1 x.1.2.1 x.1.2.2 (tabC x c) a t).length
theorem Je {x:NetD} (h:tabsOk x) {t c:Nat} (ht:t<nC x) (hc:c<2) {a:Int} {L:Nat} (hL:L≤nC x) (e:itN (nuT x.1.1 x.1.2.1 (tabC x c) t) L a=t) (hs:∀n,n<L→stepOk x.1.1 x.1.2.1 x.1.2.2 (tabC x c) (itN (nuT x.1.1 x.1.2.1 (tabC x c) t) n a) t):hop x c a t=L:=by
 unfold hop walk
 rw [Ml _ _ _ _ _ (Ta h ht hc) L (cnt x.1.1 x.1.2.1).toNat a [] hL e hs]
 simp
theorem Lq {x:NetD} (h:tabsOk x) {a t c p:Nat} (ha:a<nC x) (ht:t<nC x) (hc:c<2) (hne:a≠t) (hp:pO x a c t=(p:Int)):hop x c a t=hop x c (next x.1.1 x.1.2.1 a p) t+1:=by
 obtain ⟨L,h0,h1,h2⟩:=Tq _ _ _ _ _ _ _ _ (((h c hc).2 a ha t ht).2 hne)
 have h0:L≤nC x:=h0
 cases L with
 | zero=>have:(a:Int)=t:=h1;omega
 | succ L=>
  have e:nuT x.1.1 x.1.2.1 (tabC x c) t a=next x.1.1 x.1.2.1 a p:=by
   unfold nuT
   have:portOf x.1.1 x.1.2.1 (tabC x c) a t=(p:Int):=hp
   rw [this]
  rw [Je h ht hc h0 h1 h2,Je h ht hc (L:=L) (by omega) (by rw [← e,← Xc];exact h1) (fun n hn=>by rw [← e,← Xc];exact h2 (n+1) (by omega))]
def wb (x:NetD) (j:Nat) (y:FlitD):Nat:=hop x (j%2) ((j/10:Nat):Int) y.2.1+1
def ws (x:NetD) (k:Nat) (y:FlitD):Nat:=hop x y.2.2.1.toNat (k:Int) y.2.1+2
def sumL (f:Nat→FlitD→Nat) (j:Nat) (l:List FlitD):Nat:=(l.map (f j)).sum
def sumS (f:Nat→FlitD→Nat) (S:SSD):Nat:=((List.range S.length).map fun j=>sumL f j (S.getD j [])).sum
theorem Gl {F G:Nat→Nat} {k:Nat} (h:∀j,j≠k→F j=G j):∀n,(k<n→((List.range n).map F).sum+G k=((List.range n).map G).sum+F k)∧(n≤k→((List.range n).map F).sum=((List.range n).map G).sum)
 | 0=>⟨fun h=>by omega,fun _=>rfl⟩
 | n+1=>by
  obtain ⟨i1,i2⟩:=Gl h n
  simp only [List.range_succ,List.map_append,List.sum_append,List.map_cons,List.map_nil,List.sum_cons,List.sum_nil,Nat.add_zero]
  constructor
  ·intro hk
   by_cases e:k=n
   ·subst e;rw [i2 (Nat.le_refl _)];omega
   ·have:=i1 (by omega);have:=h n (by omega);omega
  ·intro hk
   rw [i2 (by omega),h n (by omega)]
theorem Rk (f:Nat→FlitD→Nat) {S:SSD} {k:Nat} (g:List FlitD→List FlitD) (hk:k<S.length):sumS f (upd S k g)+sumL f k (S.getD k [])=sumS f S+sumL f k (g (S.getD k [])):=by
 have:=(Gl (F:=fun j=>sumL f j ((upd S k g).getD j [])) (G:=fun j=>sumL f j (S.getD j [])) (k:=k) (fun j hj=>by
  show sumL f j ((upd S k g).getD j [])=_
  rw [Qy _ (fun e=>hj e.symm)]) S.length).1 hk
 unfold sumS
 rw [Yj]
 rw [Wd _ hk] at this
 exact this
theorem Iy (f:Nat→FlitD→Nat) {S:SSD} {k:Nat} {y:FlitD} {r:List FlitD} (hj:S.getD k []=y::r):sumS f (upd S k (List.drop 1))+f k y=sumS f S:=by
 have:=Rk f (List.drop 1) (Iv hj)
 rw [hj] at this
 simp [sumL] at this
 omega
theorem Mj (f:Nat→FlitD→Nat) {S:SSD} {k:Nat} (y:FlitD) (hk:k<S.length):sumS f (upd S k (·++[y]))=sumS f S+f k y:=by
 have:=Rk f (·++[y]) hk
 simp [sumL] at this
 omega
theorem Good.port {x:NetD} {list:List PkD} {B:SSD} {O:List Int} {A S:SSD} (g:Good x list B O A S) {a p i:Nat} {y:FlitD} {r:List FlitD} (k:Can x B O a p i y r):pO x a (i%2) y.2.1=(p:Int):=by
 obtain ⟨st,fr,sr,w,ps⟩:=g.wf
 have hj:=k.hj
 have hs:∃u,Str (fr (10*a+i)) (y::r) u:=by
  rcases g.rc (10*a+i) (by rw [hj];simp) with ⟨a',p',c',h1,h2,h3,h4,e⟩|⟨k',c',h1,h2,e⟩
  ·have:=w.w4 a' p' c' h1 h2 h3 h4
   rw [← e,hj] at this;exact ⟨_,this⟩
  ·have:=w.w5 k' c' h1 h2
   rw [← e,hj] at this;exact ⟨_,this⟩
 exact (w.move g.lB g.lO g.lA g.cl k hs).1
theorem Ct {x:NetD} {list:List PkD} {B:SSD} {O:List Int} {A S:SSD} (g:Good x list B O A S) (h:Sent x list) (tk:tabsOk x) {a p i:Nat} {y:FlitD} {r:List FlitD} (k:Can x B O a p i y r):sumS (wb x) (mvB x B a p i y)+1≤sumS (wb x) B:=by
 have hp:=g.port k
 have hj:=k.hj
 have hm:y∈B.getD (10*a+i) []:=by rw [hj];exact List.mem_cons_self ..
 obtain ⟨t,c,ht,hc,et,ec⟩:=Ma h (g.gB _ y hm)
 have h1:=Iy (wb x) hj
 have ha:=k.ha
 have hi:=k.hi
 have hp5:=k.hp
 unfold mvB
 split
 ·have:1≤wb x (10*a+i) y:=by unfold wb;omega
  omega
 ·rename_i h4
  have hr:=k.room.resolve_left h4
  obtain ⟨t1,t2,t3,t4⟩:=Zr (c:=i%2) hr (by omega) (by omega)
  rw [Mj (wb x) y (by rw [Yj,g.lB];exact t1)]
  rw [et] at hp
  have hne:a≠t:=fun e=>by
   subst e
   have:=Ta tk ha (show i%2<2 by omega)
   rw [this] at hp;omega
  have e1:wb x (10*a+i) y=hop x (i%2) (a:Int) t+1:=by
   unfold wb
   rw [et,show (10*a+i)%2=i%2 by omega,show (10*a+i)/10=a by omega]
  have e2:wb x (tgt x a p (i%2)) y=hop x (i%2) (next x.1.1 x.1.2.1 a p) t+1:=by
   unfold wb
   rw [et,t2,t3]
  rw [Lq tk ha ht (show i%2<2 by omega) hne hp] at e1
  omega
theorem Ej {x:NetD} {list:List PkD} {B:SSD} {O:List Int} {A S:SSD} (g:Good x list B O A S) {k c:Nat} {y:FlitD} {r:List FlitD} (hk:k<nC x) (hc:c<2) (ec:y.2.2.1=(c:Int)) (hj:S.getD k []=y::r):sumS (wb x) (upd B (10*k+8+c) (·++[y]))+sumS (ws x) (upd S k (List.drop 1))+1=sumS (wb x) B+sumS (ws x) S:=by
 have h1:=Iy (ws x) hj
 have h2:=Mj (wb x) y (S:=B) (k:=10*k+8+c) (by rw [g.lB];omega)
 have e1:wb x (10*k+8+c) y=hop x c (k:Int) y.2.1+1:=by
  unfold wb
  rw [show (10*k+8+c)%2=c by omega,show (10*k+8+c)/10=k by omega]
 have e2:ws x k y=hop x c (k:Int) y.2.1+2:=by
  unfold ws
  rw [ec];rfl
 omega
theorem Rh {x:NetD} {list:List PkD} (h:Sent (stat x) list) (tk:tabsOk (stat x)):∀(l:List GrD) {B:SSD} {O:List Int} {A S:SSD},Good (stat x) list B O A S→(l.map frm).Nodup→(l.map key).Nodup→(∀g∈l,(g.1<nC x∧g.2.1<5∧g.2.2<10∧reqN x g.1 g.2.2 g.2.1)∧Fits x B O g)→
 sumS (wb (stat x)) (l.foldl (bothS x) B)+l.length≤sumS (wb (stat x)) B
 | [],B,O,A,S,g,_,_,_=>Nat.le_refl _
 | a::l,B,O,A,S,g,n1,n2,hf=>by
  obtain ⟨p1,p2⟩:=List.nodup_cons.1 n1
  obtain ⟨q1,q2⟩:=List.nodup_cons.1 n2
  obtain ⟨ha,fa⟩:=hf a (List.mem_cons_self ..)
  have g':=g.move h tk (Jk ha fa)
  have m1:=Ct g h tk (Jk ha fa)
  rw [← Nj,← Ci,← Db] at g'
  rw [← Nj] at m1
  simp only [List.foldl_cons,List.length_cons]
  have:=Rh h tk l g' p2 q2 fun b hb=>by
   obtain ⟨hb1,f1,f2,f3⟩:=hf b (List.mem_cons_of_mem _ hb)
   have e1:frm a≠frm b:=fun e=>p1 (e▸List.mem_map_of_mem hb)
   have e2:key a≠key b:=fun e=>q1 (e▸List.mem_map_of_mem hb)
   refine ⟨hb1,?_⟩
   have k1:(popS B a).getD (frm b) []=B.getD (frm b) []:=Qy _ e1
   have k2:(ownS x O a).getD (outAt b.1 b.2.1 (b.2.2%2)) 0=O.getD (outAt b.1 b.2.1 (b.2.2%2)) 0:=by
    have hne:outAt a.1 a.2.1 (a.2.2%2)≠outAt b.1 b.2.1 (b.2.2%2):=fun e=>by
     obtain ⟨c1,c2,_⟩:=Vg ha.2.1 hb1.2.1 (by omega) (by omega) e
     exact e2 (by unfold key;rw [c1,c2])
    unfold ownS
    simp only [List.getD_eq_getElem?_getD]
    rw [List.getElem?_set_ne hne]
   have k3:(bothS x B a).getD (frm b) []≠[]∧headL ((bothS x B a).getD (frm b) [])=headL (B.getD (frm b) []):=by
    unfold bothS pushS
    split
    ·rw [k1];exact ⟨f1,rfl⟩
    ·have:=Tv (B:=popS B a) (j:=frm b) (k:=tgt x a.1 a.2.1 (a.2.2%2)) (y:=headOf x (frm a)) (by rw [k1];exact f1)
     rw [k1] at this;exact this
   exact ⟨k3.1,k3.2.trans f2,k2.trans f3⟩
  omega
theorem R7 {x:NetD} {list:List PkD} (h:Sent (stat x) list) (tk:tabsOk (stat x)):∀(l:List Nat) {B:SSD} {O:List Int} {A S:SSD},Good (stat x) list B O A S→l.Nodup→(∀k∈l,k<nC x∧S.getD k []≠[]∧headL (S.getD k [])=srcHead x k)→
 sumS (wb (stat x)) (l.foldl (entS x) B)+sumS (ws (stat x)) (l.foldl srcS S)+l.length=sumS (wb (stat x)) B+sumS (ws (stat x)) S
 | [],B,O,A,S,g,_,_=>rfl
 | k::l,B,O,A,S,g,n,hf=>by
  obtain ⟨p1,p2⟩:=List.nodup_cons.1 n
  obtain ⟨hk,f1,f2⟩:=hf k (List.mem_cons_self ..)
  have hS:=Xm f1
  rw [f2] at hS
  obtain ⟨t,c,_,hc,_,ec⟩:=Ma h (g.gS k (srcHead x k) (by rw [hS];exact List.mem_cons_self ..))
  have g':=g.enter h tk (k:=k) (c:=c) hk hc ec hS
  have m1:=Ej g (k:=k) (c:=c) hk hc ec hS
  have e1:entAt x k=10*k+8+c:=by unfold entAt;rw [ec];omega
  have e2:entS x B k=upd B (10*k+8+c) (·++[srcHead x k]):=by unfold entS;rw [e1]
  have e3:srcS S k=upd S k (List.drop 1):=rfl
  rw [← e2,← e3] at g' m1
  simp only [List.foldl_cons,List.length_cons]
  have:=R7 h tk l g' p2 fun j hj=>by
   obtain ⟨c1,c2,c3⟩:=hf j (List.mem_cons_of_mem _ hj)
   have hne:k≠j:=fun e=>p1 (e▸hj)
   refine ⟨c1,?_⟩
   have:(srcS S k).getD j []=S.getD j []:=Qy _ hne
   rw [this];exact ⟨c2,c3⟩
  omega
def phi (x:NetD):Nat:=sumS (wb (stat x)) x.2.2.1+sumS (ws (stat x)) x.2.2.2.2.2.1
theorem Km {x:NetD} {list:List PkD} (hc:classesOk x.1.1 x.1.2.1 x.1.2.2 x.2.1.1 x.2.1.2) (h:Sent (stat x) list) (g:GoodN x list):phi (stepN x)+(allN x).length+(enterN x).length≤phi x:=by
 have tk:tabsOk (stat x):=W7 (x:=stat x) hc
 have hg:∀a∈allN x,a.1<nC x∧a.2.1<5∧a.2.2<10∧reqN x a.1 a.2.2 a.2.1:=fun a ha=>by
  obtain ⟨h1,h2⟩:=W4 ha
  have:=Xt x
  exact ⟨by omega,h2⟩
 have hf:∀a∈allN x,(a.1<nC x∧a.2.1<5∧a.2.2<10∧reqN x a.1 a.2.2 a.2.1)∧Fits x x.2.2.1 x.2.2.2.1 a:=fun a ha=>⟨hg a ha,Yn (hg a ha).2.2.2,rfl,rfl⟩
 have k1:Good (stat x) list ((allN x).foldl (bothS x) x.2.2.1) ((allN x).foldl (ownS x) x.2.2.2.1) ((allN x).foldl (arrS x) x.2.2.2.2.2.2.1) x.2.2.2.2.2.1:=
  Good.grants h tk (allN x) g (Xz x) (Yf x _) hf
 have s1:=Rh h tk (allN x) g (Xz x) (Yf x _) hf
 rw [Sq x (allN x) x.2.2.1 (Xz x) fun a ha=>Yn (hg a ha).2.2.2] at k1 s1
 have s2:=R7 h tk (enterN x) k1 (Y6 x) fun k hk=>by
  obtain ⟨h1,h2⟩:=Wu hk
  have:=Xt x
  exact ⟨by omega,h2.1,rfl⟩
 have e:phi (stepN x)=sumS (wb (stat x)) ((enterN x).foldl (entS x) ((allN x).foldl (pushS x) ((allN x).foldl popS x.2.2.1)))+sumS (ws (stat x)) ((enterN x).foldl srcS x.2.2.2.2.2.1):=rfl
 have e2:phi x=sumS (wb (stat x)) x.2.2.1+sumS (ws (stat x)) x.2.2.2.2.2.1:=rfl
 omega
theorem L9 {x:NetD} {list:List PkD} {ρ:Nat→Nat} (hn:netOk x) (h:Sent (stat x) list) (g:GoodN x list) (rk:Ranked (stat x) ρ):∀k:Nat,x.2.2.2.2.2.2.2+k≤1000000→idle (runN x k)∨phi (runN x k)+k≤phi x
 | 0,_=>.inr (Nat.le_refl _)
 | k+1,hk=>by
  obtain ⟨e,g'⟩:=Zw hn.1 h g k
  have hn':=Ud hn k (by omega)
  rcases L9 hn h g rk k (by omega) with hi|hp
  ·left
   have:=Tb hi
   show idle (stepN (runN x k))
   rw [this];exact hi
  ·by_cases hi:idle (runN x k)
   ·left
    have:=Tb hi
    show idle (stepN (runN x k))
    rw [this];exact hi
   ·right
    have hp':=Km hn'.1 (by rw [e];exact h) g'
    have:0<(allN (runN x k)).length+(enterN (runN x k)).length:=by
     rcases Nat.eq_zero_or_pos ((allN (runN x k)).length+(enterN (runN x k)).length) with z|z
     ·exact absurd (Ir hn' (by rw [e];exact h) g' (by rw [e];exact rk) (List.length_eq_zero_iff.1 (by omega)) (List.length_eq_zero_iff.1 (by omega))) hi
     ·exact z
    show phi (stepN (runN x k))+(k+1)≤phi x
    omega
end Go.Proofs.YtmddnnecgnpccaaGreat.V
set_option linter.all false
namespace Go.Proofs.YtmddnnecgnpccaaGreat.V
open Go Go.VM Go.Proofs
set_option maxRecDepth 100000
def rnk (w j:Nat):Nat:=
 if j%10/2=4 then 0
 else if j%2=0 then (if j%10/2=3 then 1+min (j/10%w) 3 else if j%10/2=1 then 1+(3-j/10%w) else if j%10/2=0 then 10+min (j/10/w) 3 else 10+(3-j/10/w))
 else (if j%10/2=0 then 1+min (j/10/w) 3 else if j%10/2=2 then 1+(3-j/10/w) else if j%10/2=3 then 10+min (j/10%w) 3 else 10+(3-j/10%w))
theorem qo (w j:Nat):rnk w j<1000:=by
 unfold rnk
 generalize j/10/w=u
 generalize j/10%w=v
 repeat' split
 all_goals omega
def simP (w c t j:Nat):Nat:=(stdPort (w:Int) (1+(c:Int)) ((j/10:Nat):Int) t).toNat
def simJ (w h c t j:Nat):Nat:=(10*next (w:Int) h ((j/10:Nat):Int) (simP w c t j:Nat)+2*opp ((simP w c t j:Nat):Int)+c).toNat
def simB (w h c t:Nat):Nat→Nat→Bool
 | 0,j=>decide (j/10=t)
 | f+1,j=>decide (j/10=t) || (decide (rnk w j<rnk w (simJ w h c t j))&&simB w h c t f (simJ w h c t j))
def chkB:Bool:=(List.range 5).all fun w=>(List.range 5).all fun h=>(List.range 2).all fun c=>(List.range (w*h)).all fun s=>(List.range (w*h)).all fun t=>simB w h c t 6 (10*s+8+c)
theorem Br:chkB=true:=by decide +kernel
theorem Ei {x:NetD} {w h s t c:Nat} {R:Nat→Nat} {L:Nat} (rt:Route x s t c R L) (hx:x.1.1=w∧x.1.2.1=h) (hp:∀a,a<nC x→pO x a c t=stdPort w (1+(c:Int)) a t):∀f n,n≤L→simB w h c t f (R n)=true→L≤n+f∧∀m,n≤m→m<L→rnk w (R m)<rnk w (R (m+1)):=by
 have last:∀n,n≤L→R n/10=t→n=L:=fun n hn e=>rt.ij n L hn (Nat.le_refl _) (by rw [e,rt.rt])
 intro f
 induction f with
 | zero=>
  intro n hn e
  have e:R n/10=t:=by simpa [simB] using e
  have:=last n hn e
  exact ⟨by omega,fun m h1 h2=>by omega⟩
 | succ f ih=>
  intro n hn e
  by_cases et:R n/10=t
  ·have:=last n hn et
   exact ⟨by omega,fun m h1 h2=>by omega⟩
  ·have hL:n<L:=by
    rcases Nat.lt_or_ge n L with k|k
    ·exact k
    ·have:n=L:=by omega
     subst this;exact absurd rt.rt et
   unfold simB at e
   rw [decide_eq_false et,Bool.false_or,Bool.and_eq_true,decide_eq_true_eq] at e
   obtain ⟨p,p1,p2,p3,_⟩:=rt.rs n hL
   have hlt:=rt.lt n hn
   rw [hp _ (by omega)] at p2
   have e1:simP w c t (R n)=p:=by unfold simP;rw [p2];rfl
   have e2:simJ w h c t (R n)=R (n+1):=by
    rw [p3];unfold simJ tgt
    rw [e1,hx.1,hx.2]
   rw [e2] at e
   obtain ⟨i1,i2⟩:=ih (n+1) (by omega) e.2
   refine ⟨by omega,fun m h1 h2=>?_⟩
   by_cases em:m=n
   ·subst em;exact e.1
   ·exact i2 m (by omega) h2
def SplitN (w h:Int) (x:NetD):Prop:=x.1=(w,h,[])∧x.2.1=splitT w h
theorem If {w h:Int} (g:okG w h) {x:NetD} (hx:SplitN w h x) {a c t:Nat} (ha:a<nC x) (ht:t<nC x) (hc:c<2):pO x a c t=stdPort w (1+(c:Int)) a t:=by
 have hn:=Xt x
 obtain ⟨e1,e2⟩:=hx
 have en:nC x=(cnt w h).toNat:=by unfold nC;rw [e1]
 have cn:cnt w h=((cnt w h).toNat:Int):=by have:=Qg w h;omega
 have et:splitT w h=(stdTab w 1 (cnt w h).toNat,stdTab w 2 (cnt w h).toNat):=if_pos g
 unfold pO tabC
 rw [e1,e2,et]
 have ia:isN w h (a:Int):=⟨by omega,by omega⟩
 have it:isN w h (t:Int):=⟨by omega,by omega⟩
 rcases (by omega:c=0∨c=1) with rfl|rfl
 ·simp only [if_neg (show ¬(0:Nat)=1 by omega)]
  rw [Z6 cn ia it];rfl
 ·simp only [↓reduceIte]
  rw [Z6 cn ia it];rfl
theorem A9 {w h c s t:Nat} (hw:w<5) (hh:h<5) (hc:c<2) (hs:s<w*h) (ht:t<w*h):simB w h c t 6 (10*s+8+c)=true:=by
 have h0:=Br
 unfold chkB at h0
 rw [List.all_eq_true] at h0
 have h1:=h0 w (by simpa using hw)
 rw [List.all_eq_true] at h1
 have h2:=h1 h (by simpa using hh)
 rw [List.all_eq_true] at h2
 have h3:=h2 c (by simpa using hc)
 rw [List.all_eq_true] at h3
 have h4:=h3 s (by simpa using hs)
 rw [List.all_eq_true] at h4
 exact h4 t (by simpa using ht)
theorem Il {w h:Int} (g:okG w h):∃W H:Nat,w=W∧h=H∧W<5∧H<5∧(cnt w h).toNat=W*H:=by
 obtain ⟨⟨a1,a2⟩,b1,b2⟩:=g
 obtain ⟨W,rfl⟩:=Int.eq_ofNat_of_zero_le (show 0≤w by omega)
 obtain ⟨H,rfl⟩:=Int.eq_ofNat_of_zero_le (show 0≤h by omega)
 refine ⟨W,H,rfl,rfl,by omega,by omega,?_⟩
 unfold cnt
 rw [if_pos ⟨⟨a1,a2⟩,b1,b2⟩,← Int.natCast_mul];rfl
theorem Ob {w h:Int} (g:okG w h) {x:NetD} (hx:SplitN w h x) {s t c:Nat} {R:Nat→Nat} {L:Nat} (hs:s<nC x) (ht:t<nC x) (hc:c<2) (rt:Route x s t c R L):L≤6∧∀m,m<L→rnk w.toNat (R m)<rnk w.toNat (R (m+1)):=by
 obtain ⟨W,H,rfl,rfl,hW,hH,hn⟩:=Il g
 have en:nC x=W*H:=by unfold nC;rw [hx.1];exact hn
 obtain ⟨k1,k2⟩:=Ei rt (w:=W) (h:=H) ⟨by rw [hx.1],by rw [hx.1]⟩ (fun a ha=>If g hx ha ht hc) 6 0 (by omega) (by rw [rt.r0];exact A9 hW hH hc (by omega) (by omega))
 exact ⟨by omega,fun m hm=>k2 m (by omega) hm⟩
theorem Ng {w h:Int} (g:okG w h) {x:NetD} (hx:SplitN w h x):Ranked x (rnk w.toNat):=
 ⟨qo _,fun s t c R L hs ht hc rt n hn=>(Ob g hx hs ht hc rt).2 n hn⟩
theorem Fj {x:NetD} (tk:tabsOk x) {s t c:Nat} {R:Nat→Nat} {L:Nat} (hs:s<nC x) (ht:t<nC x) (hc:c<2) (rt:Route x s t c R L):hop x c s t=L:=by
 have key:∀d n,n≤L→L-n=d→hop x c ((R n/10:Nat):Int) t=d:=by
  intro d
  induction d with
  | zero=>
   intro n hn e
   have:n=L:=by omega
   subst this
   rw [rt.rt]
   exact Je tk ht hc (L:=0) (by omega) rfl (fun n h=>by omega)
  | succ d ih=>
   intro n hn e
   have hL:n<L:=by omega
   obtain ⟨p,p1,p2,p3,p4⟩:=rt.rs n hL
   have hlt:=rt.lt n hn
   have hne:R n/10≠t:=fun e2=>by
    have:=rt.ij n L hn (Nat.le_refl _) (by rw [e2,rt.rt]);omega
   obtain ⟨t1,t2,t3,t4⟩:=Zr (c:=c) p4 p1 hc
   rw [Lq tk (by omega) ht hc hne p2,← t3,← p3,ih (n+1) (by omega) (by omega)]
 have:=key L 0 (by omega) (by omega)
 rw [rt.r0,show (10*s+8+c)/10=s by omega] at this
 exact this
theorem Ep {w h:Int} (g:okG w h) {x:NetD} (hx:SplitN w h x) (tk:tabsOk x) {s t c:Nat} (hs:s<nC x) (ht:t<nC x) (hc:c<2):hop x c s t≤6:=by
 obtain ⟨R,L,rt⟩:=Yu tk hs ht hc
 rw [Fj tk hs ht hc rt]
 exact (Ob g hx hs ht hc rt).1
theorem Dk (f:Nat→FlitD→Nat) (k:Nat) (l m:List FlitD):sumL f k (l++m)=sumL f k l+sumL f k m:=by simp [sumL]
theorem Ga {f:Nat→FlitD→Nat} {k b:Nat}:∀(l:List FlitD),(∀y∈l,f k y≤b)→sumL f k l≤b*l.length
 | [],_=>by simp [sumL]
 | y::l,h=>by
  have h1:=h y (List.mem_cons_self ..)
  have h2:=Ga l fun z hz=>h z (List.mem_cons_of_mem _ hz)
  have:sumL f k (y::l)=f k y+sumL f k l:=by simp [sumL]
  rw [this,List.length_cons,Nat.mul_succ];omega
theorem E4 {w h:Int} (g:okG w h) {x:NetD} (hx:SplitN w h x) (hn:netOk x) {p:PkD} (hp:packetOk x.1.1 x.1.2.1 p):phi (sendNet x p)≤phi x+40:=by
 have tk:tabsOk (stat x):=W7 (x:=stat x) hn.1
 have hnn:=Xt x
 have hp':=hp
 obtain ⟨_,⟨q1,q2⟩,⟨q3,q4⟩,_,q5,q6⟩:=hp'
 have q2':p.2.1<cnt x.1.1 x.1.2.1:=q2
 have q4':p.2.2.1<cnt x.1.1 x.1.2.1:=q4
 unfold inR at q5 q6
 have lS:x.2.2.2.2.2.1.length=nC x:=by have:=hn.2.1.2.2.2.1;omega
 have hop6:hop (stat x) p.2.2.2.1.toNat p.2.1 p.2.2.1≤6:=by
  have:=Ep (x:=stat x) g hx tk (s:=p.2.1.toNat) (t:=p.2.2.1.toNat) (c:=p.2.2.2.1.toNat) (show _<nC x by omega) (show _<nC x by omega) (by omega)
  rw [show ((p.2.1.toNat:Nat):Int)=p.2.1 by omega,show ((p.2.2.1.toNat:Nat):Int)=p.2.2.1 by omega] at this
  exact this
 have e:phi (sendNet x p)=sumS (wb (stat x)) x.2.2.1+sumS (ws (stat x)) (upd x.2.2.2.2.2.1 p.2.1.toNat (·++flitsOf x.1.1 x.1.2.1 p)):=rfl
 have e2:phi x=sumS (wb (stat x)) x.2.2.1+sumS (ws (stat x)) x.2.2.2.2.2.1:=rfl
 have s1:=Rk (ws (stat x)) (S:=x.2.2.2.2.2.1) (k:=p.2.1.toNat) (·++flitsOf x.1.1 x.1.2.1 p) (by omega)
 rw [Dk] at s1
 have s2:=Ga (f:=ws (stat x)) (k:=p.2.1.toNat) (b:=8) (flitsOf x.1.1 x.1.2.1 p) fun y hy=>by
  obtain ⟨_,f2,f3⟩:=Ub hy
  unfold ws
  rw [← f2,← f3,show ((p.2.1.toNat:Nat):Int)=p.2.1 by omega]
  omega
 have s3:=Zl hp
 have s4:(flitsOf x.1.1 x.1.2.1 p).length≤5:=by omega
 have:8*(flitsOf x.1.1 x.1.2.1 p).length≤8*5:=Nat.mul_le_mul_left _ s4
 omega
theorem Ge {x:NetD} {list:List PkD} (hn:netOk x) (h:Sent (stat x) list) (g:GoodN x list):∀k:Nat,x.2.2.2.2.2.2.2+k≤1000000→phi (runN x k)≤phi x
 | 0,_=>Nat.le_refl _
 | k+1,hk=>by
  obtain ⟨e,g'⟩:=Zw hn.1 h g k
  have hn':=Ud hn k (by omega)
  have:=Km hn'.1 (by rw [e];exact h) g'
  have:=Ge hn h g k (by omega)
  show phi (stepN (runN x k))≤_
  omega
theorem Ft {x:NetD} {list:List PkD} (g:GoodN x list) {t c:Nat} (ht:t<nC x) (hc:c<2):arrIds x.2.2.2.2.2.2.1 t (c:Int)=tailIds ((x.2.2.2.2.2.2.1.getD t []).filter fun f=>f.2.2.1=(c:Int)):=by
 obtain ⟨st,fr,sr,w,_⟩:=g.wf
 exact T0 _ _ (w.w7 t c ht hc)
theorem Bg {x:NetD} {list:List PkD} (h:Sent (stat x) list) {p:PkD} (hp:p∈list):∃t c:Nat,t<nC x∧c<2∧p.2.2.1=(t:Int)∧p.2.2.2.1=(c:Int)∧p.2.2.1.toNat=t∧∃s:Nat,s<nC x∧p.2.1=(s:Int):=by
 obtain ⟨_,⟨q1,q2⟩,⟨q3,q4⟩,_,q5,q6⟩:=h.ok p hp
 have hnn:=Xt x
 have q2':p.2.1<cnt x.1.1 x.1.2.1:=q2
 have q4':p.2.2.1<cnt x.1.1 x.1.2.1:=q4
 unfold inR at q5
 exact ⟨p.2.2.1.toNat,p.2.2.2.1.toNat,by omega,by omega,by omega,by omega,rfl,p.2.1.toNat,by omega,by omega⟩
theorem Jy {x:NetD} {list:List PkD} (hn:netOk x) (hi:idle x) (h:Sent (stat x) list) (g:GoodN x list):lacks x list=[]:=by
 unfold lacks
 rw [List.filter_eq_nil_iff.2]
 ·rfl
 intro p hp
 obtain ⟨t,c,ht,hc,et,ec,etn,s,hs,es⟩:=Bg h hp
 unfold lackP
 rw [etn,ec,Ft g ht hc]
 simp only [Bool.not_eq_true,Bool.not_eq_false',decide_eq_true_eq]
 have z:=(Ds hn hi h g).1 s t c hs ht hc
 have ea:=R2 h.u (fun y hy=>(g.gA t y hy).1) s c
 have m1:p.1∈tailIds (flowFl x list s t c):=by
  rw [S8 (x:=x) h.ok]
  unfold sentIds
  refine List.mem_map.2 ⟨p,List.mem_filter.2 ⟨hp,?_⟩,rfl⟩
  rw [decide_eq_true_eq]
  exact ⟨es,et,ec⟩
 rw [← z,← ea] at m1
 unfold tailIds at m1 ⊢
 obtain ⟨y,hy,e⟩:=List.mem_map.1 m1
 obtain ⟨y1,y2⟩:=List.mem_filter.1 hy
 exact List.mem_map.2 ⟨y,List.mem_filter.2 ⟨(List.mem_filter.1 y1).1,y2⟩,e⟩
end Go.Proofs.YtmddnnecgnpccaaGreat.V
set_option linter.all false
namespace Go.Proofs.YtmddnnecgnpccaaGreat.V
open Go Go.VM Go.Proofs
set_option maxRecDepth 10000
structure ChipI (w h:Int) (a:ChipD):Prop where
 g:okG w h
 good:GoodC a
 sp:SplitN w h a.1
 ph:phi a.1≤40*a.2.length
theorem Dy {x:NetD} (hB:∀j,x.2.2.1.getD j []=[]) (hS:∀j,x.2.2.2.2.2.1.getD j []=[]):phi x=0:=by
 have z:∀(f:Nat→FlitD→Nat) (S:SSD),(∀j,S.getD j []=[])→sumS f S=0:=fun f S hS=>by
  unfold sumS
  have:((List.range S.length).map fun j=>sumL f j (S.getD j []))=List.replicate S.length 0:=by
   apply List.ext_getElem
   ·simp
   ·intro i h1 h2
    simp only [List.getElem_map,List.getElem_range,List.getElem_replicate]
    rw [hS];rfl
  rw [this];simp
 unfold phi
 rw [z _ _ hB,z _ _ hS]
theorem Fq {w h:Int} (g:okG w h):ChipI w h (chipNew w h):=by
 have hg:=E2 g
 have hc:=Uc g
 have e:chipNew w h=(netNew (w,h,[]) (splitT w h),[]):=if_pos g
 have e2:netNew (w,h,[]) (splitT w h)=((w,h,[]),splitT w h,List.replicate (10*(cnt w h).toNat) [],List.replicate (10*(cnt w h).toNat) (-1),List.replicate (5*(cnt w h).toNat) 0,List.replicate (cnt w h).toNat [],List.replicate (cnt w h).toNat [],0):=by
  unfold netNew;rw [if_pos hc]
 have rep:∀n j,(List.replicate n ([]:List FlitD)).getD j []=[]:=fun n j=>by
  rw [List.getD_eq_getElem?_getD,List.getElem?_replicate]
  split<;>rfl
 refine ⟨g,hg,?_,?_⟩
 ·rw [e,e2];exact ⟨rfl,rfl⟩
 ·rw [e,e2,Dy (rep _) (rep _)];omega
theorem Pg {w h:Int} {a:ChipD} (i:ChipI w h a) (p q r s:Int):ChipI w h (chipSend a p q r s)∧(chipSend a p q r s).2.length≤a.2.length+1∧(chipSend a p q r s).1.2.2.2.2.2.2=a.1.2.2.2.2.2.2:=by
 have hg:=P5 i.good p q r s
 unfold chipSend at hg ⊢
 split
 ·rename_i k
  rw [if_pos k] at hg
  obtain ⟨_,k2,k3⟩:=k
  refine ⟨⟨i.g,hg,⟨i.sp.1,i.sp.2⟩,?_⟩,by simp,rfl⟩
  have:=E4 i.g i.sp i.good.1.1 k3.1
  have:=i.ph
  show phi (sendNet a.1 _)≤40*(a.2++[_]).length
  rw [List.length_append,List.length_singleton];omega
 ·exact ⟨i,by omega,rfl⟩
theorem De {x:NetD} {list:List PkD} (hc:classesOk x.1.1 x.1.2.1 x.1.2.2 x.2.1.1 x.2.1.2) (h:Sent (stat x) list) (g:GoodN x list) (k:Nat):(runN x k).1=x.1∧(runN x k).2.1=x.2.1:=by
 obtain ⟨e,_⟩:=Zw hc h g k
 have e1:(stat (runN x k)).1=(stat x).1:=by rw [e]
 have e2:(stat (runN x k)).2.1=(stat x).2.1:=by rw [e]
 exact ⟨e1,e2⟩
theorem Of {w h:Int} {a:ChipD} (i:ChipI w h a) {k:Nat} (hk:k≤400) (ht:a.1.2.2.2.2.2.2.2+k≤1000000):chipRun a k=(runN a.1 k,a.2)∧ChipI w h (runN a.1 k,a.2):=by
 have hn:=i.good.1.1
 have hs:=Zk i.good.1.2.2.1
 have hr:runs a.1 (k:Int):=⟨hn,⟨by omega,by omega⟩,by omega⟩
 have e:chipRun a k=(runN a.1 k,a.2):=by
  unfold chipRun runNet
  rw [if_pos i.good.1,if_pos hr]
  simp
 obtain ⟨s1,s2⟩:=De hn.1 hs i.good.2 k
 refine ⟨e,i.g,Rp i.good (by omega),⟨?_,?_⟩,?_⟩
 ·show (runN a.1 k).1=_;rw [s1];exact i.sp.1
 ·show (runN a.1 k).2.1=_;rw [s2];exact i.sp.2
 ·have:=Ge hn hs i.good.2 k (by omega)
  have:=i.ph
  show phi (runN a.1 k)≤40*a.2.length
  omega
theorem Nv {a:ChipD} (h:GoodC a):delivered a=(a.2.length:Int)-(lacks a.1 a.2).length:=by
 have hs:=Zk h.1.2.2.1
 unfold delivered missing
 rw [if_pos h.1,if_pos ⟨h.1.1,hs.ok⟩]
theorem P7 {w h:Int} {a:ChipD} (i:ChipI w h a) (hl:a.2.length≤9) (ht:a.1.2.2.2.2.2.2.2+400≤1000000):delivered (runN a.1 400,a.2)=a.2.length:=by
 have hs:=Zk i.good.1.2.2.1
 have hg:=Rp i.good (k:=400) (by omega)
 have hi:idle (runN a.1 400):=by
  rcases L9 i.good.1.1 hs i.good.2 (Ng (x:=stat a.1) i.g i.sp) 400 (by omega) with h|h
  ·exact h
  ·have:=i.ph;omega
 rw [Nv hg]
 show (a.2.length:Int)-(lacks (runN a.1 400) a.2).length=_
 rw [Jy hg.1.1 hi (Zk hg.1.2.2.1) hg.2]
 simp
end Go.Proofs.YtmddnnecgnpccaaGreat.V
set_option linter.all false
namespace Go.Proofs.YtmddnnecgnpccaaGreat.V
open Go Go.VM Go.Proofs
set_option maxRecDepth 10000
variable {frz:Nat} {H:Heap} {r:Nat} {vb:Value} {code:List Int}
theorem So {v:Value} {xs:List Int} {e:TypeId} (o:Ow Fl.int e H v xs) {i:Nat} (h1:i<xs.length):vindexAddr Tryz.prog H 26 v (.int .i64 (i:Nat))=some (elp v i)∧vload Tryz.prog H 3 (elp v i)=some (.int .i64 xs[i]):=by
 have h2:=o.rd.isI.idx (P:=Tryz.prog) (ty:=26) (e:=3) (by simp) (i:=(i:Int)) (by omega) (by omega)
 have h3:=(o.rd.isI.load (P:=Tryz.prog) (e:=3) (by simp) h1).trans (by rw [Q6 _ _ h1])
 exact ⟨by simpa using h2,h3⟩
theorem Ce {w h:Int} (g:okG w h) (L:Nat):allL L (chipNew w h).1.2.2.2.2.2.2.1∧(chipNew w h).1.2.2.2.2.2.2.2=0∧(chipNew w h).2=[]:=by
 have hc:=Uc g
 have e:chipNew w h=(netNew (w,h,[]) (splitT w h),[]):=if_pos g
 have e2:netNew (w,h,[]) (splitT w h)=((w,h,[]),splitT w h,List.replicate (10*(cnt w h).toNat) [],List.replicate (10*(cnt w h).toNat) (-1),List.replicate (5*(cnt w h).toNat) 0,List.replicate (cnt w h).toNat [],List.replicate (cnt w h).toNat [],0):=by
  unfold netNew;rw [if_pos hc]
 rw [e,e2]
 refine ⟨fun l hl=>?_,rfl,rfl⟩
 have hl:l∈List.replicate (cnt w h).toNat ([]:List FlitD):=hl
 rw [List.eq_of_mem_replicate hl];simp
theorem Ac {w h:Int} (g:okG w h):allL (5*0) (chipNew w h).1.2.2.2.2.2.1:=by
 have hc:=Uc g
 have e:chipNew w h=(netNew (w,h,[]) (splitT w h),[]):=if_pos g
 have e2:netNew (w,h,[]) (splitT w h)=((w,h,[]),splitT w h,List.replicate (10*(cnt w h).toNat) [],List.replicate (10*(cnt w h).toNat) (-1),List.replicate (5*(cnt w h).toNat) 0,List.replicate (cnt w h).toNat [],List.replicate (cnt w h).toNat [],0):=by
  unfold netNew;rw [if_pos hc]
 rw [e,e2]
 intro l hl
 have hl:l∈List.replicate (cnt w h).toNat ([]:List FlitD):=hl
 rw [List.eq_of_mem_replicate hl];simp
structure ChipJ (w h:Int) (n:Nat) (a:ChipD):Prop where
 i:ChipI w h a
 len:a.2.length≤n
 tm:a.1.2.2.2.2.2.2.2≤12*n
 arr:allL (1000+38400*n) a.1.2.2.2.2.2.2.1
 src:allL (5*n) a.1.2.2.2.2.2.1
theorem ChipJ.time0 {w h:Int} {n:Nat} {a:ChipD} (j:ChipJ w h n a):0≤a.1.2.2.2.2.2.2.2:=j.i.good.1.1.2.2.2.2.2.2.1
theorem Ms {n:Nat} {a:ChipD} (h:allL (5*n) a.1.2.2.2.2.2.1) (p q r s:Int):allL (5*(n+1)) (chipSend a p q r s).1.2.2.2.2.2.1:=by
 unfold chipSend
 split
 ·rename_i k
  obtain ⟨_,_,k3⟩:=k
  have hf:=Zl k3.1
  have h5:=k3.1.2.2.2.2.2
  unfold inR at h5
  intro l hl
  have hl:l∈a.1.2.2.2.2.2.1.set (nextP a p q r s).2.1.toNat (a.1.2.2.2.2.2.1.getD (nextP a p q r s).2.1.toNat []++flitsOf a.1.1.1 a.1.1.2.1 (nextP a p q r s)):=hl
  rcases List.mem_or_eq_of_mem_set hl with hl|rfl
  ·have:=h l hl;omega
  ·rw [List.length_append]
   have:(a.1.2.2.2.2.2.1.getD (nextP a p q r s).2.1.toNat []).length≤5*n:=by
    by_cases hk:(nextP a p q r s).2.1.toNat<a.1.2.2.2.2.2.1.length
    ·exact h _ (Yh hk)
    ·simp [List.getD_eq_getElem?_getD,List.getElem?_eq_none (Nat.le_of_not_lt hk)]
   omega
 ·exact Qu h (by omega)
theorem Gy {x:NetD} {L:Nat} (h:allL L x.2.2.2.2.2.1):∀k,allL L (runN x k).2.2.2.2.2.1
 | 0=>h
 | k+1=>Ox (enterN (runN x k)) _ (Gy h k)
theorem ChipJ.send {w h:Int} {n:Nat} {a:ChipD} (j:ChipJ w h n a) (p q r s:Int):ChipJ w h (n+1) (chipSend a p q r s):=by
 obtain ⟨i1,i2,i3⟩:=Pg j.i p q r s
 have h1:=j.len
 have h2:=j.tm
 refine ⟨i1,by omega,?_,?_,Ms j.src p q r s⟩
 ·rw [i3];omega
 ·rw [i3];exact Qu j.arr (by omega)
theorem ChipJ.run {w h:Int} {n:Nat} {a b:ChipD} (j:ChipJ w h n b) (p q r s:Int) (e:a=chipSend b p q r s) {k:Nat} (hk:k<12) (hn:n≤5):ChipJ w h (n+1) (chipRun a k):=by
 subst e
 obtain ⟨i1,i2,i3⟩:=Pg j.i p q r s
 have h1:=j.len
 have h2:=j.tm
 have ht:(chipSend b p q r s).1.2.2.2.2.2.2.2+k≤1000000:=by rw [i3];omega
 obtain ⟨e1,e2⟩:=Of i1 (k:=k) (by omega) ht
 rw [e1]
 refine ⟨e2,by show (chipSend b p q r s).2.length≤_;omega,?_,?_,Gy (Ms j.src p q r s) k⟩
 ·show (runN (chipSend b p q r s).1 k).2.2.2.2.2.2.2≤_
  rw [Vl,i3];omega
 ·have:allL (1000+38400*n) (chipSend b p q r s).1.2.2.2.2.2.2.1:=by rw [i3];exact j.arr
  exact Qu (D7 i1.good.1.1 (by omega) this (k:=k) (by omega)) (by omega)
def ChipD' (H:Heap) (is:List Nat) (u:Value) (H':Heap):Prop:=∃(w h:Int) (v:ChipV) (a:ChipD),u=dChip.val v a∧ChipJ w h 5 a∧2≤cnt w h∧dChip.Ow H' v a∧(dChip.ids v).Nodup∧(∀i∈dChip.ids v,H.length≤i)∧Chg H H' is
theorem Eo (c:Cur H r vb code) (hf:frz≤r):wp (vcall C frz 12 [.pointer (some ⟨r,0,some 0⟩)] H) (fun u H'=>ChipD' H [r] u H'):=by
 have lt:=c.lt
 have vlt:=c.vlt
 rw [Qb (fn:=Tryz.f12) Tryz.func12 rfl (by kernel_rfl) rfl]
 simp
 refine Qd (Fw (c.app _) hf) ?_
 rintro _ K ⟨⟨w,h,rfl,hg,h2⟩,c1,d1⟩
 have cK:Chg H K [r]:=(Chg.app [r]).trans c1
 have lK:=c1.1
 simp at lK
 have bR:K[H.length]? = some ⟨zChip,0,38⟩:=Qa (by simp [zChip]) c1 (by simp;omega)
 have hFK:frz≤K.length:=by omega
 obtain ⟨K1,hK1⟩:∃K1,K1=K++[⟨[.int .i64 w,.int .i64 h],0,25⟩]:=⟨_,rfl⟩
 have cK1:Chg K K1 []:=by rw [hK1];exact Chg.app _
 have l1:K1.length=K.length+1:=by rw [hK1];simp
 have bG:K1[K.length]? = some ⟨[.int .i64 w,.int .i64 h],0,25⟩:=by rw [hK1];simp
 have bR:=Qa bR cK1 (by simp)
 have d1:Cur K1 r vb code:=d1.chg cK1 (by simp) (by simp)
 have hKs:=hK1.symm
 simp [hFK]
 rw [hKs]
 clear hK1 hKs
 try simp [VM.look,bG]
 refine Qd (Ig w h) ?_
 rintro _ K2 ⟨_,rfl,v,rfl,ov,c2,m2,n2⟩
 have bG:=Qa bG c2 (by simp)
 have bR:=Qa bR c2 (by simp)
 have d2:Cur K2 r vb code:=d1.chg c2 (by simp) (by simp)
 have l2:=c2.1
 have j0:ChipJ w h 0 (chipNew w h):=by
  obtain ⟨e1,e2,e3⟩:=Ce hg 1000
  exact ⟨Fq hg,by rw [e3];simp,by rw [e2];simp,e1,Ac hg⟩
 obtain ⟨a,ha⟩:∃a,a=chipNew w h:=⟨_,rfl⟩
 rw [← ha] at ov j0
 have one:=Qt ov
 have o1:=one.1
 have o2:=one.2
 have ltv:∀i∈dChip.ids v,i<K2.length:=fun i hi=>dChip.lt ov i hi
 obtain ⟨K3,hK3⟩:∃K3,K3=K2++[⟨chipCells v a,0,38⟩]:=⟨_,rfl⟩
 have c3:Chg K2 K3 []:=by rw [hK3];exact Chg.app _
 have bX:K3[K2.length]? = some ⟨chipCells v a,0,38⟩:=by rw [hK3];simp
 have l3:K3.length=K2.length+1:=by rw [hK3];simp
 have bG:=Qa bG c3 (by simp)
 have bR:=Qa bR c3 (by simp)
 have d3:Cur K3 r vb code:=d2.chg c3 (by simp) (by simp)
 have ov3:=Dt.chg (T:=dChip) ov c3 (by simp)
 have hKs:=hK3.symm
 unfold chipCells netCells at hKs
 simp only [List.cons_append,List.nil_append] at hKs
 have hF2:frz≤K2.length:=by omega
 simp [Qj,← ha,o1,o2,hF2]
 rw [hKs]
 clear hK3 hKs
 have ltr:=d1.lt
 have cK3:Chg H K3 [r]:=((cK.trans (cK1.mono (fun _ h=>by cases h))).trans (c2.mono (fun _ h=>by cases h))).trans (c3.mono (fun _ h=>by cases h))
 have rlt:r<H.length:=lt
 refine Qm (fun q t J=>∃(i:Nat) (v:ChipV) (a:ChipD),q=6-i∧i≤5∧t 0=.pointer (some ⟨r,0,some 0⟩)∧t 2=.pointer (some ⟨H.length,0,some 0⟩)∧t 3=.pointer (some ⟨K.length,0,some 0⟩)∧t 4=.pointer (some ⟨K2.length,0,some 0⟩)∧t 6=.int .i64 i∧Cur J r vb code∧
  J[K2.length]? = some ⟨chipCells v a,0,38⟩∧J[K.length]? = some ⟨[.int .i64 w,.int .i64 h],0,25⟩∧J[H.length]? = some ⟨zChip,0,38⟩∧ChipJ w h i a∧dChip.Ow J v a∧(dChip.ids v).Nodup∧(∀i∈dChip.ids v,K1.length≤i∧i≠K2.length)∧Chg H J [r]∧K3.length≤J.length) ?_ (n:=6)
  ⟨0,v,a,rfl,by omega,by simp,by simp,by simp,by simp,by simp,d3,bX,bG,bR,j0,ov3,n2,fun i hi=>⟨m2 i hi,by have:=ltv i hi;omega⟩,cK3,Nat.le_refl _⟩
 rintro q t J ⟨i,v,a,rfl,hi,t0,t2,t3,t4,t6,dJ,bX,bG,bR,jA,oA,nA,mA,cJ,lJ⟩ ih
 simp [t0,t2,t3,t4,t6]
 have bl:=Wq (frz:=frz) dJ hf 6 (by decide) (by decide)
 refine Qd (by simpa using bl) ?_
 rintro _ J1 ⟨⟨y,rfl,hy⟩,e1,f1⟩
 have bX:=Qa bX e1 (by simp;omega)
 have bG:=Qa bG e1 (by simp;omega)
 have bR:=Qa bR e1 (by simp;omega)
 have oA:=Dt.chg (T:=dChip) oA e1 (fun i hi hh=>by have:=mA i hi;simp at hh;omega)
 have g1:=e1.1
 simp [t0,t2,t3,t4,t6]
 refine Qf ?_ ?_<;>intro hlt
 ·simp [t0,t2,t3,t4,t6,VM.look,bG]
  refine Qd (Ld (frz:=frz) (id:=1) (by omega) hg h2 f1 hf) ?_
  rintro _ J2 ⟨⟨p,rfl⟩,e2,f2⟩
  have bX:=Qa bX e2 (by simp;omega)
  have bG:=Qa bG e2 (by simp;omega)
  have bR:=Qa bR e2 (by simp;omega)
  have oA:=Dt.chg (T:=dChip) oA e2 (fun i hi hh=>by have:=mA i hi;simp at hh;omega)
  have g2:=e2.1
  obtain ⟨p1,p2,p3,p4,p5⟩:=p
  have hFJ:frz≤J2.length:=by omega
  obtain ⟨J3,hJ3⟩:∃J3,J3=J2++[⟨[.int .i64 p1,.int .i64 p2,.int .i64 p3,.int .i64 p4,.int .i64 p5],0,47⟩]:=⟨_,rfl⟩
  have e3:Chg J2 J3 []:=by rw [hJ3];exact Chg.app _
  have bP:J3[J2.length]? = some ⟨[.int .i64 p1,.int .i64 p2,.int .i64 p3,.int .i64 p4,.int .i64 p5],0,47⟩:=by rw [hJ3];simp
  have g3:J3.length=J2.length+1:=by rw [hJ3];simp
  have bX:=Qa bX e3 (by simp)
  have bG:=Qa bG e3 (by simp)
  have bR:=Qa bR e3 (by simp)
  have oA:=Dt.chg (T:=dChip) oA e3 (by simp)
  have f3:Cur J3 r vb code:=f2.chg e3 (by simp) (by simp)
  have oneA:=Qt oA
  have q1:=oneA.1
  have q2:=oneA.2
  have hJs:=hJ3.symm
  have bX':=bX
  unfold chipCells netCells at bX'
  simp only [List.cons_append,List.nil_append] at bX'
  simp [pkV,t0,t2,t3,t4,t6,hFJ]
  rw [hJs]
  clear hJ3 hJs
  have sd:=Kk (frz:=frz) (q2:=p2) (q3:=p3) (q4:=p4) (q5:=p5) oA
  simp only [Qj] at sd
  simp [t0,t2,t3,t4,t6,VM.look,bX',bP,q1,q2]
  refine Qd sd ?_
  rintro _ J4 ⟨_,rfl,v2,rfl,oB,e4,mB,nB⟩
  obtain ⟨b,hb⟩:∃b,b=chipSend a p2 p3 p4 p5:=⟨_,rfl⟩
  have jB:ChipJ w h (i+1) b:=by rw [hb];exact jA.send p2 p3 p4 p5
  rw [← hb] at oB
  have oneB:=Qt oB
  have r1:=oneB.1
  have r2:=oneB.2
  have g4:=e4.1
  have bX:=Qa bX e4 (by simp)
  have bG:=Qa bG e4 (by simp)
  have bR:=Qa bR e4 (by simp)
  have f4:Cur J4 r vb code:=f3.chg e4 (by simp) (by simp)
  have ltB:∀i∈dChip.ids v2,i<J4.length:=fun i hi=>dChip.lt oB i hi
  have gX:=Qi (r':=⟨chipCells v2 b,0,38⟩) bX
  have e5:Chg J4 (J4.set K2.length ⟨chipCells v2 b,0,38⟩) [K2.length]:=Ql _ _
  have bG:=Qa bG e5 (by simp;omega)
  have bR:=Qa bR e5 (by simp;omega)
  have f5:Cur (J4.set K2.length ⟨chipCells v2 b,0,38⟩) r vb code:=f4.chg e5 (by simp;omega) (fun i hi hh=>by have:=vlt i hi;simp at hh;omega)
  have oB5:=Dt.chg (T:=dChip) oB e5 (fun i hi hh=>by have:=mB i hi;simp at hh;omega)
  have cJ5:Chg H (J4.set K2.length ⟨chipCells v2 b,0,38⟩) [r]:=((((cJ.trans e1).trans e2).trans (e3.mono (fun _ h=>by cases h))).trans (e4.mono (fun _ h=>by cases h))).trans' e5 (fun i hi=>.inr (by simp at hi;omega))
  have l5:(J4.set K2.length ⟨chipCells v2 b,0,38⟩).length=J4.length:=by simp
  obtain ⟨J5,hJ5⟩:∃J5,J5=J4.set K2.length ⟨chipCells v2 b,0,38⟩:=⟨_,rfl⟩
  rw [← hJ5] at gX e5 bG bR f5 oB5 cJ5 l5
  have hJs:=hJ5.symm
  unfold chipCells netCells at bX hJs
  simp only [List.cons_append,List.nil_append] at bX hJs
  have hF4:frz≤K2.length:=hF2
  simp [t0,t2,t3,t4,t6,Qj,← hb,r1,r2,hF4,VM.look,bX]
  rw [hJs]
  clear hJ5 hJs
  have eI:∀[Inhabited Unit],IntKind.i64.wrap ((i:Int)+1)=((i+1:Nat):Int):=by intro _;rw [w64 (by omega) (by omega)];omega
  refine Qd (Ed (frz:=frz) f5 hf 2 (by decide) (by decide)) ?_
  rintro _ J6 ⟨⟨bb,rfl⟩,e6,f6⟩
  have gX:=Qa gX e6 (by simp;omega)
  have bG:=Qa bG e6 (by simp;omega)
  have bR:=Qa bR e6 (by simp;omega)
  have oB6:=Dt.chg (T:=dChip) oB5 e6 (fun i hi hh=>by have:=mB i hi;simp at hh;omega)
  have g6:=e6.1
  have cJ6:=cJ5.trans e6
  have i5:i+1≤5:=by omega
  simp
  refine By ?_ ?_<;>intro hbb
  ·have oneC:=Qt oB6
   have gX':=gX
   unfold chipCells netCells at gX'
   simp only [List.cons_append,List.nil_append] at gX'
   have lv:=O4 oB6
   rw [Xo (fl:=([0],[3,7])) (h:=⟨by kernel_rfl,by kernel_rfl,by kernel_rfl,by kernel_rfl⟩)]
   simp [emps,empOp,empB,VM.look,t0,t2,t3,t4,t6,gX',r1,r2,lv]
   have bl:=Wq (frz:=frz) f6 hf 12 (by decide) (by decide)
   refine Si (by simpa using bl) ?_
   rintro _ J7 ⟨⟨k,rfl,hk⟩,e7,f7⟩
   have gX:=Qa gX e7 (by simp;omega)
   have bG:=Qa bG e7 (by simp;omega)
   have bR:=Qa bR e7 (by simp;omega)
   have oB7:=Dt.chg (T:=dChip) oB6 e7 (fun i hi hh=>by have:=mB i hi;simp at hh;omega)
   have g7:=e7.1
   have lv7:=O4 oB7
   have gX7:=gX
   unfold chipCells netCells at gX7
   simp only [List.cons_append,List.nil_append] at gX7
   refine ⟨by simp [VM.look,gX7,r1,r2,lv7],?_⟩
   have rd:=Ij (frz:=frz) (k:=(k:Int)) oB7 (Qu jB.arr (by omega))
   simp only [Qj] at rd
   simp
   refine Si rd ?_
   rintro _ J8 ⟨_,rfl,v3,rfl,oC,e8,mC,nC⟩
   obtain ⟨cc,hcc⟩:∃cc,cc=chipRun b k:=⟨_,rfl⟩
   have jC:ChipJ w h (i+1) cc:=by rw [hcc];exact jA.run p2 p3 p4 p5 hb hk (by omega)
   rw [← hcc] at oC
   have oneC:=Qt oC
   have s1:=oneC.1
   have s2:=oneC.2
   have gX:=Qa gX e8 (by simp)
   have bG:=Qa bG e8 (by simp)
   have bR:=Qa bR e8 (by simp)
   have f8:Cur J8 r vb code:=f7.chg e8 (by simp) (by simp)
   have g8:=e8.1
   have ltC:∀i∈dChip.ids v3,i<J8.length:=fun i hi=>dChip.lt oC i hi
   have gX9:=Qi (r':=⟨chipCells v3 cc,0,38⟩) gX
   have e9:Chg J8 (J8.set K2.length ⟨chipCells v3 cc,0,38⟩) [K2.length]:=Ql _ _
   have gX8:=gX
   unfold chipCells netCells at gX8
   simp only [List.cons_append,List.nil_append] at gX8
   have hJn:=ih (6-(i+1))
   refine ⟨by simp [VM.look,gX8,s1,s2],?_⟩
   simp [t0,t2,t3,t4,t6,Qj,← hcc,s1,s2,hF4,VM.look,gX8,eI]
   refine ih (6-(i+1)) _ _ ⟨i+1,v3,cc,rfl,i5,by simp [t0],by simp [t2],by simp [t3],by simp [t4],by simp [t6],f8.chg e9 (by simp;omega) (fun i hi hh=>by have:=vlt i hi;simp at hh;omega),gX9,Qa bG e9 (by simp;omega),Qa bR e9 (by simp;omega),jC,Dt.chg (T:=dChip) oC e9 (fun i hi hh=>by have:=mC i hi;simp at hh;omega),nC,fun j hj=>by have:=mC j hj;omega,(((cJ6.trans e7).trans (e8.mono (fun _ h=>by cases h))).trans' e9 (fun i hi=>.inr (by simp at hi;omega))),by simp;omega⟩ (by omega)
  ·simp [t0,t2,t3,t4,t6,eI]
   refine ih (6-(i+1)) _ _ ⟨i+1,v2,b,rfl,i5,by simp [t0],by simp [t2],by simp [t3],by simp [t4],by simp [t6],f6,gX,bG,bR,jB,oB6,nB,fun j hj=>by have:=mB j hj;omega,cJ6,by omega⟩ (by omega)
 ·have oneA:=Qt oA
  have q1:=oneA.1
  have q2:=oneA.2
  have gR:=Qi (r':=⟨chipCells v a,0,38⟩) bR
  have e2:Chg J1 (J1.set H.length ⟨chipCells v a,0,38⟩) [H.length]:=Ql _ _
  have hM:ChipD' H [r] (dChip.val v a) (J1.set H.length ⟨chipCells v a,0,38⟩):=by
   have hj:=jA.tm
   refine ⟨w,h,v,a,rfl,⟨jA.i,by have:=jA.len;omega,by omega,Qu jA.arr (by omega),Qu jA.src (by omega)⟩,h2,Dt.chg (T:=dChip) oA e2 (fun i hi hh=>by have:=mA i hi;simp at hh;omega),nA,fun i hi=>by have:=mA i hi;omega,(cJ.trans e1).trans' e2 (fun i hi=>.inr (by simp at hi;omega))⟩
  have bX':=bX
  have bR':=bR
  unfold zChip at bR'
  unfold chipCells netCells at bX' gR hM
  simp only [List.cons_append,List.nil_append,Qj] at bX' gR hM
  have hFH:frz≤H.length:=by omega
  simp [t0,t2,t3,t4,t6,VM.look,bX',bR',gR,q1,q2,hFH]
  exact hM
theorem Jd (vb:Value) (code:List Int) (hb:Rd Fl.u8 H vb code) (hl:code.length≤1073741824):wp (vcall C frz 6 [vb] H) (fun u H'=>ChipD' H [] u H'):=by
 rw [Qb (fn:=Tryz.f6) Tryz.func6 rfl (by kernel_rfl) rfl]
 simp
 refine Qd (Lw vb code hb.app hl) ?_
 rintro _ H1 ⟨r,rfl,hr,c1,ch1⟩
 have cH:Chg H H1 []:=(Chg.app []).trans ch1
 have b1:H1[H.length]? = some ⟨zChip,0,38⟩:=Qa (by simp [zChip]) ch1 (by simp)
 simp at hr
 simp
 refine Qd (Eo c1 (by omega)) ?_
 rintro _ H2 ⟨w,h,v,a,rfl,j,h2,o,nd,nv,c2⟩
 have b2:=Qa b1 c2 (by simp;omega)
 have g2:=Qi (r':=⟨chipCells v a,0,38⟩) b2
 have one:=Qt o
 have o1:=one.1
 have o2:=one.2
 have l1:=cH.1
 have k1:=Q0 b1
 have hM:ChipD' H [] (dChip.val v a) (H2.set H.length ⟨chipCells v a,0,38⟩):=⟨w,h,v,a,rfl,j,h2,Dt.chg (T:=dChip) o (Ql _ _) (fun i hi hh=>by have:=nv i hi;simp at hh;omega),nd,fun i hi=>by have:=nv i hi;omega,(cH.trans' c2 (fun i hi=>.inr (by simp at hi;omega))).trans' (Ql _ _) (fun i hi=>.inr (by simp at hi;omega))⟩
 unfold zChip at b2
 unfold chipCells netCells at g2 hM
 simp only [List.cons_append,List.nil_append,Qj] at g2 hM
 simp [Qj,VM.look,b2,g2,o1,o2]
 exact hM
end Go.Proofs.YtmddnnecgnpccaaGreat.V
set_option linter.all false
namespace Go.Proofs.YtmddnnecgnpccaaGreat.V
open Go Go.VM Go.Proofs
set_option maxRecDepth 10000
variable {frz:Nat} {H:Heap}
theorem law_FnChipSends_w {a0:List Int} {u0:Value} (s0:IsS (Kn.int .u8) H u0 a0)
 (w0:a0.length≤maxLen∧∀x1∈a0,(Lit.int .u8 x1).wf=true) :
 wp (vcall C frz 4 [u0] H) (fun r _=>r=.bool true):=by
 have r0:=Eu s0
 rw [Qb (fn:=Tryz.f4) Tryz.func4 rfl (by kernel_rfl) rfl]
 simp [jb _ _ r0]
 refine Qf ?_ ?_<;>intro g0
 ·simp
 simp
 refine Qd (Jd u0 a0 r0 (by omega)) ?_
 rintro _ H1 ⟨w,h,v,a,rfl,j,h2,ov,nv,mv,c1⟩
 have one:=Qt ov
 have o1:=one.1
 have o2:=one.2
 have hF1:=c1.1
 obtain ⟨H2,hH2⟩:∃H2,H2=H1++[⟨chipCells v a,0,38⟩]:=⟨_,rfl⟩
 have c12:Chg H1 H2 []:=by rw [hH2];exact Chg.app _
 have l2:H2.length=H1.length+1:=by rw [hH2];simp
 have b2:H2[H1.length]? = some ⟨chipCells v a,0,38⟩:=by rw [hH2];simp
 have ov2:=Dt.chg (T:=dChip) ov c12 (by simp)
 have hHs:=hH2.symm
 unfold chipCells netCells at hHs
 simp only [List.cons_append,List.nil_append] at hHs
 simp [Qj,o1,o2,hF1]
 rw [hHs]
 clear hH2 hHs
 refine Qd (N7 u0 a0 (r0.chg (c1.trans c12) (by simp)) (by omega)) ?_
 rintro up H3 ⟨ps,op,hx,hr,nup,c3⟩
 have l3:=c3.1
 have e0:=hr ps[0] (List.getElem_mem (by omega))
 have ov3:=Dt.chg (T:=dChip) ov2 c3 (by simp)
 have b3:=Qa b2 c3 (by simp)
 have b3':=b3
 unfold chipCells netCells at b3'
 simp only [List.cons_append,List.nil_append] at b3'
 have e1:=hr ps[1] (List.getElem_mem (by omega))
 have e2:=hr ps[2] (List.getElem_mem (by omega))
 have e3:=hr ps[3] (List.getElem_mem (by omega))
 have p0:=So op (i:=0) (by omega)
 have p1:=So op (i:=1) (by omega)
 have p2:=So op (i:=2) (by omega)
 have p3:=So op (i:=3) (by omega)
 simp only [Int.natCast_zero,Int.natCast_one] at p0 p1
 rw [show ((2:Nat):Int)=2 from rfl] at p2
 rw [show ((3:Nat):Int)=3 from rfl] at p3
 obtain ⟨N,hN⟩:∃N:Nat,cnt w h=N:=⟨(cnt w h).toNat,by have:=Qg w h;omega⟩
 have cr:=Qg w h
 have gr:=j.i.g
 have ewh:w*h=N:=by rw [← hN];unfold cnt;rw [if_pos gr]
 have em1:a.1.1.1=w:=by rw [j.i.sp.1]
 have em2:a.1.1.2.1=h:=by rw [j.i.sp.1]
 obtain ⟨X0,hX0⟩:∃X:Nat,ps[0]=(X:Int):=⟨ps[0].toNat,by omega⟩
 obtain ⟨X1,hX1⟩:∃X:Nat,ps[1]=(X:Int):=⟨ps[1].toNat,by omega⟩
 obtain ⟨X2,hX2⟩:∃X:Nat,ps[2]=(X:Int):=⟨ps[2].toNat,by omega⟩
 obtain ⟨X3,hX3⟩:∃X:Nat,ps[3]=(X:Int):=⟨ps[3].toNat,by omega⟩
 rw [hX0] at p0 e0
 rw [hX1] at p1 e1
 rw [hX2] at p2 e2
 rw [hX3] at p3 e3
 have hN0:0<N:=by omega
 obtain ⟨A,hA⟩:∃A,A=X0%N:=⟨_,rfl⟩
 obtain ⟨B,hB⟩:∃B,B=X1%N:=⟨_,rfl⟩
 obtain ⟨Cc,hC⟩:∃C,C=X2%2:=⟨_,rfl⟩
 obtain ⟨D,hD⟩:∃D,D=X3%5:=⟨_,rfl⟩
 have lA:A<N:=by rw [hA];exact Nat.mod_lt _ hN0
 have lB:B<N:=by rw [hB];exact Nat.mod_lt _ hN0
 have lC:Cc<2:=by omega
 have lD:D<5:=by omega
 have tA:(X0:Int).tmod (N:Int)=(A:Int):=by rw [hA,Int.tmod_eq_emod_of_nonneg (by omega)];rfl
 have tB:(X1:Int).tmod (N:Int)=(B:Int):=by rw [hB,Int.tmod_eq_emod_of_nonneg (by omega)];rfl
 have tC:(X2:Int).tmod 2=(Cc:Int):=by rw [hC,Int.tmod_eq_emod_of_nonneg (by omega)];rfl
 have tD:(X3:Int).tmod 5=(D:Int):=by rw [hD,Int.tmod_eq_emod_of_nonneg (by omega)];rfl
 have wN:∀[Inhabited Unit],IntKind.i64.wrap (w*h)=(N:Int):=by intro _;rw [ewh];exact w64 (by omega) (by omega)
 have wA:∀[Inhabited Unit],IntKind.i64.wrap (A:Int)=(A:Int):=by intro _;exact w64 (by omega) (by omega)
 have wB:∀[Inhabited Unit],IntKind.i64.wrap (B:Int)=(B:Int):=by intro _;exact w64 (by omega) (by omega)
 have wC:∀[Inhabited Unit],IntKind.i64.wrap (Cc:Int)=(Cc:Int):=by intro _;exact w64 (by omega) (by omega)
 have wD:∀[Inhabited Unit],IntKind.i64.wrap (D:Int)=(D:Int):=by intro _;exact w64 (by omega) (by omega)
 have wD1:=@w6 (1+(D:Int)) (by omega)
 have nN:¬(N:Int)=0:=by omega
 have nN':¬N=0:=by omega
 have p01:=p0.1
 have p02:=p0.2
 have p11:=p1.1
 have p12:=p1.2
 have p21:=p2.1
 have p22:=p2.2
 have p31:=p3.1
 have p32:=p3.2
 have sd:=Ih (frz:=H.length) (q2:=(A:Int)) (q3:=(B:Int)) (q4:=(Cc:Int)) (q5:=1+(D:Int)) ov3
 simp only [Qj,em1,em2] at sd
 simp [VM.look,b3',o1,o2,em1,em2,wN,p01,p02,p11,p12,tA,tB,wA,wB,nN,nN']
 rw [Qp (h:=by kernel_rfl)]
 simp [VM.look,b3',o1,o2,em1,em2,p21,p22,p31,p32,tC,tD,wC,wD,wD1]
 refine Qd sd ?_
 rintro _ H4 ⟨_,rfl,v1,rfl,oa,c4,m4,n4⟩
 have l4:=c4.1
 have ok:sendsOk a (nextP a (A:Int) (B:Int) (Cc:Int) (1+(D:Int)))↔A≠B:=by
  constructor
  ·intro k e
   have:=k.2.2.1.2.2.2.1
   exact this (by show (A:Int)=B;rw [e])
  ·intro hne
   have hl:=j.len
   have hsrc:(a.1.2.2.2.2.2.1.getD A []).length≤25:=by
    by_cases hk:A<a.1.2.2.2.2.2.1.length
    ·exact j.src _ (Yh hk)
    ·simp [List.getD_eq_getElem?_getD,List.getElem?_eq_none (Nat.le_of_not_lt hk)]
   refine ⟨j.i.good.1,by omega,⟨⟨?_,?_⟩,⟨?_,?_⟩,⟨?_,?_⟩,?_,⟨?_,?_⟩,?_,?_⟩,?_⟩
   ·show (1:Int)≤(a.2.length:Int)+1;omega
   ·show (a.2.length:Int)+1≤9999;omega
   ·show (0:Int)≤(A:Int);omega
   ·show (A:Int)<cnt a.1.1.1 a.1.1.2.1;rw [em1,em2,hN];omega
   ·show (0:Int)≤(B:Int);omega
   ·show (B:Int)<cnt a.1.1.1 a.1.1.2.1;rw [em1,em2,hN];omega
   ·show (A:Int)≠(B:Int);omega
   ·show (0:Int)≤(Cc:Int);omega
   ·show (Cc:Int)≤1;omega
   ·show (1:Int)≤1+(D:Int);omega
   ·show 1+(D:Int)≤5;omega
   ·show ((a.1.2.2.2.2.2.1.getD ((A:Int)).toNat []).length:Int)+(1+(D:Int))≤60
    rw [Int.toNat_natCast];omega
 obtain ⟨y,hy⟩:∃y,y=chipSend a (A:Int) (B:Int) (Cc:Int) (1+(D:Int)):=⟨_,rfl⟩
 have jy:ChipJ w h 6 y:=by rw [hy];exact j.send _ _ _ _
 rw [← hy] at oa
 have onea:=Qt oa
 have q1:=onea.1
 have q2:=onea.2
 have b4:=Qa b3 c4 (by simp)
 have ov4:=Dt.chg (T:=dChip) ov3 c4 (by simp)
 have hF4:H.length≤H4.length:=by omega
 obtain ⟨H5,hH5⟩:∃H5,H5=H4++[⟨chipCells v1 y,0,38⟩]:=⟨_,rfl⟩
 have c45:Chg H4 H5 []:=by rw [hH5];exact Chg.app _
 have l5:H5.length=H4.length+1:=by rw [hH5];simp
 have bA:H5[H4.length]? = some ⟨chipCells v1 y,0,38⟩:=by rw [hH5];simp
 have b5:=Qa b4 c45 (by simp)
 have ov5:=Dt.chg (T:=dChip) ov4 c45 (by simp)
 have oa5:=Dt.chg (T:=dChip) oa c45 (by simp)
 have hHs:=hH5.symm
 have b5':=b5
 have bA':=bA
 unfold chipCells netCells at hHs b5' bA'
 simp only [List.cons_append,List.nil_append] at hHs b5' bA'
 obtain ⟨S,hS⟩:∃S,S=decide (sendsOk a (nextP a (A:Int) (B:Int) (Cc:Int) (1+(D:Int)))):=⟨_,rfl⟩
 simp [Qj,← hy,q1,q2,hF4,← hS]
 rw [hHs]
 clear hH5 hHs
 have eAB:((A:Int)=(B:Int))↔A=B:=by omega
 simp [eAB]
 refine Qf ?_ ?_<;>intro gAB
 ·have dA:=fun F=>Z5 (frz:=F) oa5
  have dV:=fun F=>Z5 (frz:=F) ov5
  simp only [Qj] at dA dV
  have ns:¬sendsOk a (nextP a (A:Int) (B:Int) (Cc:Int) (1+(D:Int))):=fun k=>(ok.1 k) gAB
  have ey:y=a:=by rw [hy];unfold chipSend;exact if_neg ns
  have eS:S=false:=by rw [hS];exact decide_eq_false ns
  simp only [ey] at dA bA'
  simp
  rw [Qp (h:=by kernel_rfl)]
  simp [VM.look,b5',bA',o1,o2,q1,q2,dA,dV,eS]
 ·have sk:=ok.2 gAB
  have eS:S=true:=by rw [hS];exact decide_eq_true sk
  have ey2:y.2=a.2++[nextP a (A:Int) (B:Int) (Cc:Int) (1+(D:Int))]:=by rw [hy];unfold chipSend;rw [if_pos sk]
  have jt:=jy.tm
  have j0:=jy.time0
  obtain ⟨r2,i2⟩:=Of jy.i (k:=400) (by omega) (by omega)
  have d2:=P7 jy.i (by have:=jy.len;omega) (by omega)
  have k2:chipRuns y 400:=⟨jy.i.good.1,jy.i.good.1.1,⟨by omega,by omega⟩,by omega⟩
  have arr:allL 66000000 y.1.2.2.2.2.2.2.1:=Qu jy.arr (by omega)
  have rd2:=F9 (frz:=H.length) (k:=400) oa5 arr
  have r2':chipRun y 400=(runN y.1 400,y.2):=r2
  rw [r2',decide_eq_true k2] at rd2
  simp only [Qj] at rd2
  simp [VM.look,bA',q1,q2]
  refine Qd rd2 ?_
  rintro _ H6 ⟨_,rfl,v2,rfl,ob,c6,m6,n6⟩
  obtain ⟨y2,hy2⟩:∃y2,y2=(runN y.1 400,y.2):=⟨_,rfl⟩
  rw [← hy2] at ob d2
  have oneb:=Qt ob
  have q3:=oneb.1
  have q4:=oneb.2
  have l6:=c6.1
  have b6:=Qa b5 c6 (by simp)
  have bA6:=Qa bA c6 (by simp)
  have ov6:=Dt.chg (T:=dChip) ov5 c6 (by simp)
  have oa6:=Dt.chg (T:=dChip) oa5 c6 (by simp)
  have hF6:H.length≤H6.length:=by omega
  obtain ⟨H7,hH7⟩:∃H7,H7=H6++[⟨chipCells v2 y2,0,38⟩]:=⟨_,rfl⟩
  have c67:Chg H6 H7 []:=by rw [hH7];exact Chg.app _
  have bB:H7[H6.length]? = some ⟨chipCells v2 y2,0,38⟩:=by rw [hH7];simp
  have b7:=Qa b6 c67 (by simp)
  have bA7:=Qa bA6 c67 (by simp)
  have ov7:=Dt.chg (T:=dChip) ov6 c67 (by simp)
  have oa7:=Dt.chg (T:=dChip) oa6 c67 (by simp)
  have ob7:=Dt.chg (T:=dChip) ob c67 (by simp)
  have hHs:=hH7.symm
  have b7':=b7
  have bA7':=bA7
  have bB':=bB
  unfold chipCells netCells at hHs b7' bA7' bB'
  simp only [List.cons_append,List.nil_append] at hHs b7' bA7' bB'
  simp [Qj,← hy2,q3,q4,hF6]
  rw [hHs]
  clear hH7 hHs
  have dB:=fun F=>Z5 (frz:=F) ob7
  simp only [Qj,d2] at dB
  have la:=ov7.2.1.rd.len (P:=Tryz.prog) (ty:=36) (by simp)
  have rdy:=oa7.2.1.rd
  have ly:=rdy.len (P:=Tryz.prog) (ty:=36) (by simp)
  have eln:y.2.length=a.2.length+1:=by rw [ey2];simp
  have hia:a.2.length<y.2.length:=by omega
  have x1:=rdy.idx (P:=Tryz.prog) (ty:=36) (e:=47) (by simp) (i:=(a.2.length:Int)) (by omega) (by omega)
  have x2:=rdy.field (P:=Tryz.prog) (s:=47) (f:=0) (o:=0) (n:=1) (ag:=false) (by simp) (j:=a.2.length*5) (by omega)
  have x3:=rdy.cell (P:=Tryz.prog) (e:=3) (by simp) hia (c:=0) (by decide)
  have eg:y.2[a.2.length]=nextP a (A:Int) (B:Int) (Cc:Int) (1+(D:Int)):=by simp [ey2]
  simp only [Int.toNat_natCast,Uw,Nat.add_zero] at x1 x2 x3
  simp only [Xw,eg,nextP] at x3
  simp at x3
  rw [eln] at ly
  have eW:∀[Inhabited Unit],IntKind.i64.wrap ((a.2.length:Int)+1)=(a.2.length:Int)+1:=by intro _;have:=j.len;exact w64 (by omega) (by omega)
  rw [Qp (h:=by kernel_rfl)]
  simp [-vfieldAddr,Qs,VM.look,b7',bA7',bB',o1,o2,q1,q2,q3,q4,eS,la,ly,eW,x1,x2,x3,dB,eln]
  done
theorem law_FnChipSends {a0:List Int} {u0:Value} (s0:IsS (Kn.int .u8) H u0 a0)
 (w0:a0.length≤maxLen∧∀x1∈a0,(Lit.int .u8 x1).wf=true) :
 vcall C frz 4 [u0] H=some (.bool true,H):=(law_FnChipSends_w s0 w0).exact (by simp) rfl
end Go.Proofs.YtmddnnecgnpccaaGreat.V
