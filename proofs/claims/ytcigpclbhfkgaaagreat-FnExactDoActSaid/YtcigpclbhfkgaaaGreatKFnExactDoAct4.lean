/- Texts of a proof, joined. -/
import Derived.Test.YtcigpclbhfkgaaaGreatKM0
import Derived.Test.YtcigpclbhfkgaaaGreatKM1
import Derived.Test.YtcigpclbhfkgaaaGreatKFnExactDoAct0
import Derived.Test.YtcigpclbhfkgaaaGreatKFnExactDoAct1
import Derived.Test.YtcigpclbhfkgaaaGreatKFnExactDoAct2
import Derived.Test.YtcigpclbhfkgaaaGreatKFnExactDoAct3
set_option linter.all false
namespace Go.Proofs.YtcigpclbhfkgaaaGreat.V
open Go Go.VM Go.Proofs
set_option maxRecDepth 10000
variable {frz:Nat} {H:Heap}
def firstPort (w h a u:Int):Int:=if next w h a 0=u then 0 else if next w h a 1=u then 1 else if next w h a 2=u then 2 else if next w h a 3=u then 3 else 4
theorem firstPort_at {w h a u:Int} {p:Nat} (hp:p<4) (h1:next w h a p=u) (h2:∀q<p,next w h a (q:Nat)≠u):firstPort w h a u=p:=by
 unfold firstPort
 have:p=0∨p=1∨p=2∨p=3:=by omega
 have g:∀q:Nat,q<p→∀z:Int,z=q→¬next w h a z=u:=fun q hq z hz=>by rw [hz];exact h2 q hq
 rcases this with rfl|rfl|rfl|rfl
 ·rw [if_pos (by exact_mod_cast h1)];rfl
 ·rw [if_neg (g 0 (by omega) 0 rfl),if_pos (by exact_mod_cast h1)];rfl
 ·rw [if_neg (g 0 (by omega) 0 rfl),if_neg (g 1 (by omega) 1 rfl),if_pos (by exact_mod_cast h1)];rfl
 ·rw [if_neg (g 0 (by omega) 0 rfl),if_neg (g 1 (by omega) 1 rfl),if_neg (g 2 (by omega) 2 rfl),if_pos (by exact_mod_cast h1)];rfl
theorem portTo_c (w h a u:Int) (p:Nat) (hp:p<4) (h1:next w h a p=u) :
 vcall C frz 168 [.agg #[.int .i64 w,.int .i64 h],.int .i64 a,.int .i64 u] H=some (.int .i64 (firstPort w h a u),H):=by
 rw [vcall_go (fn:=Tryz.f168) Tryz.func168 rfl (by kernel_rfl) rfl]
 simp
 refine go_inv (fun n t H'=>∃k:Nat,n=p-k∧k≤p∧t 1=.int .i64 a∧t 2=.int .i64 u∧t 3=.pointer (some ⟨H.length,0,some 0⟩)∧t 7=.int .i64 k∧H'=H++[⟨[.int .i64 w,.int .i64 h],0,38⟩]∧∀q<k,next w h a (q:Nat)≠u) ?_ (n:=p) ⟨0,by simp⟩
 rintro n t H' ⟨k,rfl,hk,k1,k2,k3,k7,rfl,hq⟩ ih
 simp [k1,k2,k3,k7,nextNode_c]
 refine br_dec _ ?_ ?_<;>intro h5
 ·simp [k1,k2,k3,k7]
  exact (firstPort_at (by omega) h5 hq).symm
 ·have hkp:k≠p:=fun hh=>h5 (by rw [hh];exact h1)
  simp [k1,k2,k3,k7,h5]
  refine ih (p-(k+1)) _ _ ⟨k+1,rfl,by omega,by simp [k1],by simp [k2],by simp [k3],?_,rfl,fun q hq'=>?_⟩ (by omega)
  ·simp;rw [w64 (by omega) (by omega)]
  ·by_cases hqk:q<k
   ·exact hq q hqk
   ·have:q=k:=by omega
    rw [this];exact h5
theorem l33Port_c (w h a u:Int) :
 vcall C frz 196 [.agg #[.int .i64 w,.int .i64 h],.int .i64 a,.int .i64 u] H=some (.int .i64 (firstPort w h a u),H):=by
 rw [vcall_go (fn:=Tryz.f196) Tryz.func196 rfl (by kernel_rfl) rfl]
 simp
 refine go_inv (fun n t H'=>∃k:Nat,n=4-k∧k≤4∧t 1=.int .i64 a∧t 2=.int .i64 u∧t 3=.pointer (some ⟨H.length,0,some 0⟩)∧t 7=.int .i64 k∧H'=H++[⟨[.int .i64 w,.int .i64 h],0,38⟩]∧∀q<k,next w h a (q:Nat)≠u) ?_ (n:=4) ⟨0,by simp⟩
 rintro n t H' ⟨k,rfl,hk,k1,k2,k3,k7,rfl,hq⟩ ih
 simp [k1,k2,k3,k7]
 refine br_dec _ ?_ ?_<;>intro h4
 ·simp [k1,k2,k3,k7,sNextNode_c]
  refine br_dec _ ?_ ?_<;>intro h5
  ·simp [k1,k2,k3,k7,h5]
   exact (firstPort_at (by omega) h5 hq).symm
  ·simp [k1,k2,k3,k7,h5]
   refine ih (4-(k+1)) _ _ ⟨k+1,rfl,by omega,by simp [k1],by simp [k2],by simp [k3],?_,rfl,fun q hq'=>?_⟩ (by omega)
   ·simp;rw [w64 (by omega) (by omega)]
   ·by_cases hqk:q<k
    ·exact hq q hqk
    ·have:q=k:=by omega
     rw [this];exact h5
 ·have:k=4:=by omega
  subst this
  simp [k1,k2,k3,k7]
  unfold firstPort
  have q0:=hq 0 (by omega);have q1:=hq 1 (by omega);have q2:=hq 2 (by omega);have q3:=hq 3 (by omega)
  simp at q0 q1 q2 q3
  rw [if_neg q0,if_neg q1,if_neg q2,if_neg q3]
noncomputable def treePort (w h:Int) (P:List Int) (n i:Nat):Int:=if i/n=i%n then 4 else firstPort w h (i/n:Nat) ((treeNodes P (i/n:Nat) (i%n:Nat)).getD 1 0)
noncomputable def treeTab (w h:Int) (b:List Int) (r:Int):List Int:=(List.range ((cnt w h).toNat*(cnt w h).toNat)).map (treePort w h (parents w h b r) (cnt w h).toNat)
def treeOk (w h:Int) (b:List Int) (r:Int):Prop:=conn w h b∧isN w h r
noncomputable instance (w h:Int) (b:List Int) (r:Int):Decidable (treeOk w h b r):=inferInstanceAs (Decidable (_∧_))
noncomputable def treeTable (w h:Int) (b:List Int) (r:Int):List Int:=if treeOk w h b r then treeTab w h b r else []
theorem treeTab_len (w h:Int) (b:List Int) (r:Int):(treeTab w h b r).length≤256:=by
 have:=cnt_range w h
 unfold treeTab
 rw [List.length_map,List.length_range]
 have:(cnt w h).toNat*(cnt w h).toNat≤16*16:=Nat.mul_le_mul (by omega) (by omega)
 omega
theorem treeTable_len (w h:Int) (b:List Int) (r:Int):(treeTable w h b r).length≤256:=by
 unfold treeTable;split
 ·exact treeTab_len w h b r
 ·simp
theorem treeTable_w (w h:Int) (v:Value) (b:List Int) (root:Int) (hI:IsI H v b) (hl:b.length≤1073741824) :
 wp (vcall C frz 109 [.agg #[.int .i64 w,.int .i64 h,v],.int .i64 root] H) (Made2 dTable H (treeTable w h b root) (decide (treeOk w h b root))):=by
 rw [vcall_go (fn:=Tryz.f109) Tryz.func109 rfl (by kernel_rfl) rfl]
 have one:=And.intro hI.one' hI.cells
 have hc:=cnt_range w h
 have no:∀(L:Heap),¬treeOk w h b root→Made2 dTable H (treeTable w h b root) (decide (treeOk w h b root)) (.tuple #[.agg #[.slice none 0 0],.bool false]) (H++L):=fun L hh=>by
  refine ⟨.agg #[.slice none 0 0],by simp [hh],.slice none 0 0,rfl,⟨.inl ⟨rfl,by simp [treeTable,hh]⟩,?_⟩,Chg.app _,by simp [dTable],by simp [dTable]⟩
  simp [treeTable,hh]
 by_cases hcn:conn w h b
 ·by_cases hr:isN w h root
  ·have hok:treeOk w h b root:=⟨hcn,hr⟩
   simp [one,isConnected_c _ _ _ _ (hI.app _) hl,hcn,isNode_c,hr]
   refine wp_thn (treeParents_w w h v b root (hI.app _) hl) ?_
   rintro vp H1 ⟨L,hH1,op,np⟩
   have hpl:=tree_len hcn hr
   have tn:=fun {a c:Int} (ha:isN w h a) (hc:isN w h c) (hne:a≠c)=>tn_first hcn hr ha hc hne
   have ett:treeTable w h b root=(List.range ((cnt w h).toNat*(cnt w h).toNat)).map (treePort w h (parents w h b root) (cnt w h).toNat):=if_pos hok
   have hcc:(cnt w h).toNat≤16:=by omega
   have hlt2:(cnt w h).toNat*(cnt w h).toNat≤256:=Nat.mul_le_mul hcc hcc
   rw [ett]
   generalize parents w h b root=P at *
   have c1:Chg H H1 []:=by rw [hH1];exact (Chg.app []).trans (Chg.app [])
   have b2:H1[H.length]? = some ⟨[.int .i64 w,.int .i64 h,v],0,40⟩:=by rw [hH1];simp
   have b4:H1[H.length+1]? = some ⟨[.slice none 0 0],0,41⟩:=by rw [hH1];simp
   rw [← hH1] at op
   simp at np
   have lp:=op.lt
   have l1:H.length+2≤H1.length:=by rw [hH1];simp
   clear hH1 L
   have lp1:=op.lt
   generalize hB6:H1.length=B6 at *
   have hPl:P.length=(cnt w h).toNat:=by omega
   simp [VM.look,b2,one,hB6,(op.app (L:=[⟨[.slice none 0 0],0,41⟩])).rd.len]
   refine wp_need (by omega) ?_
   refine wp_inv (fun n t H'=>∃(i:Nat) (vo:Value) (o:List Int),n=(cnt w h).toNat-i∧i≤(cnt w h).toNat∧o=(List.range (i*(cnt w h).toNat)).map (treePort w h P (cnt w h).toNat)∧
   t 2=.pointer (some ⟨H.length,0,some 0⟩)∧t 4=.pointer (some ⟨H.length+1,0,some 0⟩)∧t 6=.pointer (some ⟨B6,0,some 0⟩)∧t 7=vp∧t 27=.int .i64 P.length∧t 28=.int .i64 i∧
   Chg H H' []∧H'[H.length]? = some ⟨[.int .i64 w,.int .i64 h,v],0,40⟩∧H'[H.length+1]? = some ⟨[.slice none 0 0],0,41⟩∧H'[B6]? = some ⟨[vo],0,41⟩∧
   Ow Fl.int 3 H' vp P∧Ow Fl.int 3 H' vo o∧(∀i∈ids vo,B6<i)) ?_ (n:=(cnt w h).toNat)
    ⟨0,.slice none 0 0,[],by simp,by omega,by simp,by simp,by simp,by simp,by simp,by simp,by simp,c1.trans (Chg.app []),get_app' b2 _,get_app' b4 _,by rw [← hB6];simp,op.app,.inl ⟨rfl,rfl⟩,by simp⟩
   clear b2 b4 op
   rintro n t H' ⟨i,vo,o,rfl,hi,ho,h2,h4,h6,h7,h27,h28,c0,b2,b4,b6,op,oo,no⟩ ih
   simp [h2,h4,h6,h7,h27,h28]
   refine wp_dec ?_ ?_<;>intro hin
   ·have hin':i<(cnt w h).toNat:=by omega
    simp [h2,h4,h6,h7,h27,h28,op.rd.len]
    refine wp_inv (fun n t H'=>∃(j:Nat) (vo:Value) (o:List Int),n=(cnt w h).toNat-j∧j≤(cnt w h).toNat∧o=(List.range (i*(cnt w h).toNat+j)).map (treePort w h P (cnt w h).toNat)∧
     t 2=.pointer (some ⟨H.length,0,some 0⟩)∧t 4=.pointer (some ⟨H.length+1,0,some 0⟩)∧t 6=.pointer (some ⟨B6,0,some 0⟩)∧t 7=vp∧t 27=.int .i64 P.length∧t 28=.int .i64 i∧
     t 8=.int .i64 i∧t 32=.int .i64 P.length∧t 33=.int .i64 j∧
     Chg H H' []∧H'[H.length]? = some ⟨[.int .i64 w,.int .i64 h,v],0,40⟩∧H'[H.length+1]? = some ⟨[.slice none 0 0],0,41⟩∧H'[B6]? = some ⟨[vo],0,41⟩∧
   Ow Fl.int 3 H' vp P∧Ow Fl.int 3 H' vo o∧(∀i∈ids vo,B6<i)) ?_ (n:=(cnt w h).toNat) ⟨0,vo,o,by simp,by omega,by simpa using ho,by simp [h2],by simp [h4],by simp [h6],by simp [h7],by simp [h27],by simp [h28],by simp,by simp,by simp,c0,b2,b4,b6,op,oo,no⟩
    clear h2 h4 h6 h7 h27 h28 c0 b2 b4 b6 op oo no ho
    rintro n t H' ⟨j,vo,o,rfl,hj,ho,h2,h4,h6,h7,h27,h28,h8,h32,h33,c0,b2,b4,b6,op,oo,no⟩ ih2
    simp [h2,h4,h6,h7,h27,h28,h8,h32,h33]
    refine wp_dec ?_ ?_<;>intro hjn
    ·have hjn':j<(cnt w h).toNat:=by omega
     have hol:o.length=i*(cnt w h).toNat+j:=by rw [ho];simp
     have hsm:i*(cnt w h).toNat+j<(cnt w h).toNat*(cnt w h).toNat:=by
      have:=Nat.mul_le_mul_right (cnt w h).toNat (show i+1≤(cnt w h).toNat by omega)
      rw [Nat.succ_mul] at this;omega
     have hdv:(i*(cnt w h).toNat+j)/(cnt w h).toNat=i:=by rw [Nat.mul_comm,Nat.mul_add_div (by omega),Nat.div_eq_of_lt hjn'];omega
     have hmd:(i*(cnt w h).toNat+j)%(cnt w h).toNat=j:=by rw [Nat.mul_comm,Nat.mul_add_mod,Nat.mod_eq_of_lt hjn']
     simp [h2,h4,h6,h7,h27,h28,h8,h32,h33]
     refine wp_dec ?_ ?_<;>intro hij
     ·have hx:treePort w h P (cnt w h).toNat (i*(cnt w h).toNat+j)=4:=by unfold treePort;rw [hdv,hmd,if_pos (by omega)]
      simp [VM.look,b6,h2,h4,h6,h7,h27,h28,h8,h32,h33]
      obtain ⟨vo',H3,e3,oo3,c3,n3⟩:=oo.push (P:=Tryz.prog) (frz:=H.length) (ty:=24) (a:=4) (by simp) rfl (by omega) (fun i hi=>by have:=no i hi;omega)
      simp only [Fl.int_f] at e3
      have lc:=box_lt b6
      have b2:=box_chg b2 c3 (fun hh=>by have:=no _ hh;omega)
      have b4:=box_chg b4 c3 (fun hh=>by have:=no _ hh;omega)
      have b6:=box_chg b6 c3 (fun hh=>by have:=no _ hh;omega)
      have op:=op.chg c3 (fun i hi hh=>by have:=lp i hi;have:=no _ hh;omega)
      have no3:∀i∈ids vo',B6<i:=fun i hi=>by rcases n3 i hi with h|h;exact no i h;omega
      have one3:=And.intro oo3.rd.one' oo3.rd.cells
      simp [e3,VM.look,b6,one3,h2,h4,h6,h7,h27,h28,h8,h32,h33]
      refine wp_need (by omega) ?_
      refine ih2 ((cnt w h).toNat-(j+1)) _ _ ⟨j+1,vo',o++[4],rfl,by omega,?_,by simp [h2],by simp [h4],by simp [h6],by simp [h7],by simp [h27],by simp [h28],by simp [h8],by simp [h32],?_,
       (c0.trans' c3 (fun i hi=>.inr (by have:=no i hi;omega))).trans' (chg_set _ _) (fun i hi=>.inr (by simp at hi;omega)),box_chg b2 (chg_set _ _) (by simp;omega),box_chg b4 (chg_set _ _) (by simp;omega),set_get b6,
       op.chg (chg_set _ _) (fun i hi hh=>by have:=lp i hi;simp at hh;omega),oo3.chg (chg_set _ _) (fun i hi hh=>by have:=no3 i hi;simp at hh;omega),no3⟩ (by omega)
      ·rw [← Nat.add_assoc,List.range_succ,List.map_append,← ho];simp [hx]
      ·simp;rw [w64 (by omega) (by omega)]
     ·rw [go_draw (h:=by kernel_rfl)]
      simp [h2,h4,h6,h7,h27,h28,h8,h32,h33,VM.look,b2]
      obtain ⟨p,hp,htl,htg,hn0⟩:=tn (isN_nat hin') (isN_nat hjn') (by omega:(i:Int)≠(j:Int))
      refine wp_thn (treeNodes_w vp P i j op.rd.isI (by omega)) ?_
      rintro vt H2 ⟨L2,hH2,ot,nt⟩
      have c2:Chg H' H2 []:=by rw [hH2];exact Chg.app []
      rw [← hH2] at ot
      clear hH2 L2
      have b2:=box_chg b2 c2 (by simp)
      have b4:=box_chg b4 c2 (by simp)
      have b6:=box_chg b6 c2 (by simp)
      have op:=op.chg c2 (by simp)
      have oo:=oo.chg c2 (by simp)
      have c0:=c0.trans c2
      have q1:=ot.rd.isI.idx (P:=Tryz.prog) (ty:=24) (e:=3) (by simp) (i:=1) (by omega) (by omega)
      have q2:=ot.rd.isI.load (P:=Tryz.prog) (e:=3) (by simp) htl
      have etn:(treeNodes P (i:Int) (j:Int)).getD 1 0=next w h i p:=by rw [List.getD_eq_getElem?_getD,htg];rfl
      have hpt:=fun F L=>portTo_c (frz:=F) (H:=L) w h i _ p hp etn.symm
      have hx:treePort w h P (cnt w h).toNat (i*(cnt w h).toNat+j)=firstPort w h i ((treeNodes P i j).getD 1 0):=by unfold treePort;rw [hdv,hmd,if_neg (by omega)]
      have q1':vindexAddr Tryz.prog H2 24 vt (.int .i64 1)=some (elp vt 1):=q1
      generalize (treeNodes P (i:Int) (j:Int)).getD 1 0=u at *
      generalize firstPort w h (i:Int) u=y at *
      simp [q1',q2,hpt,h2,h4,h6,h7,h27,h28,h8,h32,h33]
      simp [VM.look,b6,h2,h4,h6,h7,h27,h28,h8,h32,h33]
      obtain ⟨vo',H3,e3,oo3,c3,n3⟩:=oo.push (P:=Tryz.prog) (frz:=H.length) (ty:=24) (a:=y) (by simp) rfl (by omega) (fun i hi=>by have:=no i hi;omega)
      simp only [Fl.int_f] at e3
      have lc:=box_lt b6
      have b2:=box_chg b2 c3 (fun hh=>by have:=no _ hh;omega)
      have b4:=box_chg b4 c3 (fun hh=>by have:=no _ hh;omega)
      have b6:=box_chg b6 c3 (fun hh=>by have:=no _ hh;omega)
      have op:=op.chg c3 (fun i hi hh=>by have:=lp i hi;have:=no _ hh;omega)
      have no3:∀i∈ids vo',B6<i:=fun i hi=>by rcases n3 i hi with h|h;exact no i h;omega
      have one3:=And.intro oo3.rd.one' oo3.rd.cells
      simp [e3,VM.look,b6,one3,h2,h4,h6,h7,h27,h28,h8,h32,h33]
      refine wp_need (by omega) ?_
      refine ih2 ((cnt w h).toNat-(j+1)) _ _ ⟨j+1,vo',o++[y],rfl,by omega,?_,by simp [h2],by simp [h4],by simp [h6],by simp [h7],by simp [h27],by simp [h28],by simp [h8],by simp [h32],?_,
       (c0.trans' c3 (fun i hi=>.inr (by have:=no i hi;omega))).trans' (chg_set _ _) (fun i hi=>.inr (by simp at hi;omega)),box_chg b2 (chg_set _ _) (by simp;omega),box_chg b4 (chg_set _ _) (by simp;omega),set_get b6,
       op.chg (chg_set _ _) (fun i hi hh=>by have:=lp i hi;simp at hh;omega),oo3.chg (chg_set _ _) (fun i hi hh=>by have:=no3 i hi;simp at hh;omega),no3⟩ (by omega)
      ·rw [← Nat.add_assoc,List.range_succ,List.map_append,← ho];simp [hx]
      ·simp;rw [w64 (by omega) (by omega)]
    ·have hjn2:j=(cnt w h).toNat:=by omega
     have hjn':¬j<P.length:=by omega
     simp [h2,h4,h6,h7,h27,h28,h8,h32,h33]
     refine ih ((cnt w h).toNat-(i+1)) _ _ ⟨i+1,vo,o,rfl,by omega,by rw [ho,hjn2,Nat.succ_mul],by simp [h2],by simp [h4],by simp [h6],by simp [h7],by simp [h27],?_,c0,b2,b4,b6,op,oo,no⟩ (by omega)
     simp;rw [w64 (by omega) (by omega)]
   ·have hi2:i=(cnt w h).toNat:=by omega
    have l4:=box_lt b4
    rw [hi2] at ho
    rw [ho] at oo
    have l5:∀i∈ids vo,i∉[H.length+1]:=fun i hi hh=>by have:=no i hi;simp at hh;omega
    have g4:=set_get (r':=⟨[vo],0,41⟩) b4
    simp [h2,h4,h6,h7,h27,h28,VM.look,b4,b6,oo.rd.one',oo.rd.cells,g4]
    refine ⟨.agg #[vo],by simp [hok],vo,rfl,⟨oo.chg (chg_set _ _) l5,by simp;omega⟩,c0.trans' (chg_set _ _) (fun i hi=>.inr (by simp at hi;omega)),fun i hi=>by have:=no i hi;omega,ids_nodup vo⟩
  ·simp [one,isConnected_c _ _ _ _ (hI.app _) hl,hcn,isNode_c,hr]
   exact no _ (fun hh=>hr hh.2)
 ·simp [one,isConnected_c _ _ _ _ (hI.app _) hl,hcn]
  exact no _ (fun hh=>hcn hh.1)
theorem tdiv_nat {i n:Nat} (hn:0<n) (hi:i<1000):IntKind.i64.wrap ((i:Int).tdiv n)=((i/n:Nat):Int):=by
 rw [Int.tdiv_eq_ediv_of_nonneg (by omega)]
 have:i/n≤i:=Nat.div_le_self _ _
 rw [← Int.natCast_ediv]
 generalize i/n=q at *
 exact w64 (by omega) (by omega)
theorem tmod_nat {i n:Nat}:(i:Int).tmod n=((i%n:Nat):Int):=by
 rw [Int.tmod_eq_emod_of_nonneg (by omega)];rfl
theorem l33Table_w (w h:Int) (v:Value) (b:List Int) (root:Int) (hI:IsI H v b) (hl:b.length≤1073741824) (hok:treeOk w h b root) :
 wp (vcall C frz 158 [.agg #[.int .i64 w,.int .i64 h,v],.int .i64 root] H) (dTable.Made H (treeTable w h b root)):=by
 rw [vcall_go (fn:=Tryz.f158) Tryz.func158 rfl (by kernel_rfl) rfl]
 have one:=And.intro hI.one' hI.cells
 have hc:=cnt_range w h
 obtain ⟨hcn,hr⟩:=hok
 have hok:treeOk w h b root:=⟨hcn,hr⟩
 simp [one]
 refine wp_thn (sTreeParents_w w h v b root (hI.app _) hl) ?_
 rintro vp H1 ⟨L,hH1,op,np⟩
 have hpl:=tree_len hcn hr
 have tn:=fun {a c:Int} (ha:isN w h a) (hc:isN w h c) (hne:a≠c)=>tn_first hcn hr ha hc hne
 have ett:treeTable w h b root=(List.range ((cnt w h).toNat*(cnt w h).toNat)).map (treePort w h (parents w h b root) (cnt w h).toNat):=if_pos hok
 obtain ⟨N,hN⟩:∃N:Nat,cnt w h=N:=⟨(cnt w h).toNat,by omega⟩
 have hNt:(cnt w h).toNat=N:=by omega
 rw [hNt] at ett
 have nc:=fun F L=>(sNodeCount_c (frz:=F) (H:=L) w h).trans (by rw [hN])
 have isNN:=fun {q:Nat} (hq:q<N)=>isN_nat (w:=w) (h:=h) (a:=q) (by omega)
 have hcc:N≤16:=by omega
 have hlt2:N*N≤256:=Nat.mul_le_mul hcc hcc
 rw [ett]
 generalize parents w h b root=P at *
 have c1:Chg H H1 []:=by rw [hH1];exact (Chg.app []).trans (Chg.app [])
 have b2:H1[H.length]? = some ⟨[.int .i64 w,.int .i64 h,v],0,40⟩:=by rw [hH1];simp
 have b4:H1[H.length+1]? = some ⟨[.slice none 0 0],0,41⟩:=by rw [hH1];simp
 have b5:H1[H.length+2]? = some ⟨[.slice none 0 0],0,41⟩:=by rw [hH1];simp
 rw [← hH1] at op
 simp at np
 have lp1:=op.lt
 have l1:H.length+3≤H1.length:=by rw [hH1];simp
 clear hH1 L
 generalize hB6:H1.length=B6 at *
 have hPl:P.length=N:=by omega
 have hn0:0<N:=by have:=hr.1;have:=hr.2;omega
 have esq:IntKind.i64.wrap ((N:Int)*N)=((N*N:Nat):Int):=by
  rw [← Int.natCast_mul,w64 (by omega) (by omega)]
 simp [VM.look,b2,one,nc]
 refine wp_inv (fun n t H'=>∃(i:Nat) (vo:Value) (o:List Int),n=N*N-i∧i≤N*N∧o=(List.range i).map (treePort w h P N)∧
  t 2=.pointer (some ⟨H.length,0,some 0⟩)∧t 4=.pointer (some ⟨H.length+1,0,some 0⟩)∧t 5=.pointer (some ⟨H.length+2,0,some 0⟩)∧t 6=vp∧t 7=.int .i64 N∧t 8=.int .i64 i∧
  Chg H H' []∧B6≤H'.length∧H'[H.length]? = some ⟨[.int .i64 w,.int .i64 h,v],0,40⟩∧H'[H.length+1]? = some ⟨[.slice none 0 0],0,41⟩∧H'[H.length+2]? = some ⟨[vo],0,41⟩∧
  Ow Fl.int 3 H' vp P∧Ow Fl.int 3 H' vo o∧(∀i∈ids vo,B6≤i)) ?_ (n:=N*N)
  ⟨0,.slice none 0 0,[],by simp,by omega,by simp,by simp,by simp,by simp,by simp,by simp,by simp,c1,by omega,b2,b4,b5,op,.inl ⟨rfl,rfl⟩,by simp⟩
 clear b2 b4 b5 op
 rintro n t H' ⟨i,vo,o,rfl,hi,ho,h2,h4,h5,h6,h7,h8,c0,lB,b2,b4,b5,op,oo,no⟩ ih
 simp [h2,h4,h5,h6,h7,h8,esq]
 refine wp_dec ?_ ?_<;>intro hin
 ·have hin':i<N*N:=by
   have:(i:Int)<((N*N:Nat):Int):=by simpa using hin
   omega
  have hol:o.length=i:=by rw [ho];simp
  have hdv:=tdiv_nat (i:=i) hn0 (by omega)
  have hmd:=tmod_nat (i:=i) (n:=N)
  have hd1:i/N<N:=Nat.div_lt_of_lt_mul hin'
  have hm1:i%N<N:=Nat.mod_lt _ hn0
  have hne0:¬N=0:=by omega
  have hdv2:IntKind.i64.wrap ((i:Int)/(N:Int))=((i/N:Nat):Int):=by
   rw [← Int.natCast_ediv]
   have:i/N≤i:=Nat.div_le_self _ _
   generalize i/N=q at *
   exact w64 (by omega) (by omega)
  have hmd2:(i:Int)%(N:Int)=((i%N:Nat):Int):=rfl
  generalize hqa:i/N=qa at *
  generalize hqc:i%N=qc at *
  simp [h2,h4,h5,h6,h7,h8]
  rw [go_draw (h:=by kernel_rfl)]
  simp [h2,h4,h5,h6,h7,h8,hdv,hmd,hdv2,hmd2,hne0]
  refine wp_dec ?_ ?_<;>intro hij
  ·have hx:treePort w h P N i=4:=by unfold treePort;rw [hqa,hqc,if_pos (by omega)]
   simp [VM.look,b5,h2,h4,h5,h6,h7,h8]
   obtain ⟨vo',H3,e3,oo3,c3,n3⟩:=oo.push (P:=Tryz.prog) (frz:=H.length) (ty:=24) (a:=4) (by simp) rfl (by omega) (fun i hi=>by have:=no i hi;omega)
   simp only [Fl.int_f] at e3
   have lc:=c0.1
   have lc2:=box_lt b5
   have b2:=box_chg b2 c3 (fun hh=>by have:=no _ hh;omega)
   have b4:=box_chg b4 c3 (fun hh=>by have:=no _ hh;omega)
   have b5:=box_chg b5 c3 (fun hh=>by have:=no _ hh;omega)
   have op:=op.chg c3 (fun i hi hh=>by have:=lp1 i hi;have:=no _ hh;omega)
   have no3:∀i∈ids vo',B6≤i:=fun i hi=>by rcases n3 i hi with h|h;exact no i h;omega
   have one3:=And.intro oo3.rd.one' oo3.rd.cells
   simp [e3,VM.look,b5,one3,h2,h4,h5,h6,h7,h8]
   refine ih (N*N-(i+1)) _ _ ⟨i+1,vo',o++[4],rfl,by omega,?_,by simp [h2],by simp [h4],by simp [h5],by simp [h6],by simp [h7],?_,
    (c0.trans' c3 (fun i hi=>.inr (by have:=no i hi;omega))).trans' (chg_set _ _) (fun i hi=>.inr (by simp at hi;omega)),by have:=c3.1;simp;omega,box_chg b2 (chg_set _ _) (by simp),box_chg b4 (chg_set _ _) (by simp),set_get b5,
    op.chg (chg_set _ _) (fun i hi hh=>by have:=np i hi;simp at hh;omega),oo3.chg (chg_set _ _) (fun i hi hh=>by have:=no3 i hi;simp at hh;omega),no3⟩ (by omega)
   ·rw [List.range_succ,List.map_append,← ho];simp [hx]
   ·simp;rw [w64 (by omega) (by omega)]
  ·have hij':¬(qa=qc):=by omega
   rw [go_draw (h:=by kernel_rfl)]
   obtain ⟨p,hp,htl,htg,hn0'⟩:=tn (isNN hd1) (isNN hm1) (by omega:(qa:Int)≠(qc:Int))
   simp [h2,h4,h5,h6,h7,h8,hdv,hmd,hdv2,hmd2,hne0,VM.look,b2]
   refine wp_thn (sTreeNodes_w vp P qa qc op.rd.isI (by omega)) ?_
   rintro vt H2 ⟨L2,hH2,ot,nt⟩
   have c2:Chg H' H2 []:=by rw [hH2];exact Chg.app []
   rw [← hH2] at ot
   clear hH2 L2
   have b2:=box_chg b2 c2 (by simp)
   have b4:=box_chg b4 c2 (by simp)
   have b5:=box_chg b5 c2 (by simp)
   have op:=op.chg c2 (by simp)
   have oo:=oo.chg c2 (by simp)
   have c0:=c0.trans c2
   have lB:B6≤H2.length:=by have:=c2.1;omega
   have q1:vindexAddr Tryz.prog H2 24 vt (.int .i64 1)=some (elp vt 1):=ot.rd.isI.idx (P:=Tryz.prog) (ty:=24) (e:=3) (by simp) (i:=1) (by omega) (by omega)
   have q2:=ot.rd.isI.load (P:=Tryz.prog) (e:=3) (by simp) htl
   have hx:treePort w h P N i=firstPort w h qa ((treeNodes P qa qc).getD 1 0):=by unfold treePort;rw [hqa,hqc,if_neg hij']
   have hpt:=fun F L u=>l33Port_c (frz:=F) (H:=L) w h qa u
   generalize (treeNodes P qa qc).getD 1 0=u at *
   have hpt:=fun F L=>hpt F L u
   generalize firstPort w h qa u=y at *
   simp [q1,q2,hpt,h2,h4,h5,h6,h7,h8]
   simp [VM.look,b5,h2,h4,h5,h6,h7,h8]
   obtain ⟨vo',H3,e3,oo3,c3,n3⟩:=oo.push (P:=Tryz.prog) (frz:=H.length) (ty:=24) (a:=y) (by simp) rfl (by omega) (fun i hi=>by have:=no i hi;omega)
   simp only [Fl.int_f] at e3
   have lc:=c0.1
   have lc2:=box_lt b5
   have b2:=box_chg b2 c3 (fun hh=>by have:=no _ hh;omega)
   have b4:=box_chg b4 c3 (fun hh=>by have:=no _ hh;omega)
   have b5:=box_chg b5 c3 (fun hh=>by have:=no _ hh;omega)
   have op:=op.chg c3 (fun i hi hh=>by have:=lp1 i hi;have:=no _ hh;omega)
   have no3:∀i∈ids vo',B6≤i:=fun i hi=>by rcases n3 i hi with h|h;exact no i h;omega
   have one3:=And.intro oo3.rd.one' oo3.rd.cells
   simp [e3,VM.look,b5,one3,h2,h4,h5,h6,h7,h8]
   refine ih (N*N-(i+1)) _ _ ⟨i+1,vo',o++[y],rfl,by omega,?_,by simp [h2],by simp [h4],by simp [h5],by simp [h6],by simp [h7],?_,
    (c0.trans' c3 (fun i hi=>.inr (by have:=no i hi;omega))).trans' (chg_set _ _) (fun i hi=>.inr (by simp at hi;omega)),by have:=c3.1;simp;omega,box_chg b2 (chg_set _ _) (by simp),box_chg b4 (chg_set _ _) (by simp),set_get b5,
    op.chg (chg_set _ _) (fun i hi hh=>by have:=np i hi;simp at hh;omega),oo3.chg (chg_set _ _) (fun i hi hh=>by have:=no3 i hi;simp at hh;omega),no3⟩ (by omega)
   ·rw [List.range_succ,List.map_append,← ho];simp [hx]
   ·simp;rw [w64 (by omega) (by omega)]
 ·have hi2:i=N*N:=by
   have:¬(i:Int)<((N*N:Nat):Int):=by simpa using hin
   omega
  have l4:=box_lt b4
  rw [hi2] at ho
  rw [ho] at oo
  have l5:∀i∈ids vo,i∉[H.length+1]:=fun i hi hh=>by have:=no i hi;simp at hh;omega
  have g4:=set_get (r':=⟨[vo],0,41⟩) b4
  simp [h2,h4,h5,h6,h7,h8,VM.look,b4,b5,oo.rd.one',oo.rd.cells,g4]
  exact ⟨vo,rfl,⟨oo.chg (chg_set _ _) l5,by simp;omega⟩,c0.trans' (chg_set _ _) (fun i hi=>.inr (by simp at hi;omega)),fun i hi=>by have:=no i hi;omega,ids_nodup vo⟩
theorem sTreeTable_w (w h:Int) (v:Value) (b:List Int) (root:Int) (hI:IsI H v b) (hl:b.length≤1073741824) :
 wp (vcall C frz 100 [.agg #[.int .i64 w,.int .i64 h,v],.int .i64 root] H) (Made2 dTable H (treeTable w h b root) (decide (treeOk w h b root))):=by
 rw [vcall_go (fn:=Tryz.f100) Tryz.func100 rfl (by kernel_rfl) rfl]
 have one:=And.intro hI.one' hI.cells
 have hc:=cnt_range w h
 have no:∀(L:Heap),¬treeOk w h b root→Made2 dTable H (treeTable w h b root) (decide (treeOk w h b root)) (.tuple #[.agg #[.slice none 0 0],.bool false]) (H++L):=fun L hh=>by
  refine ⟨.agg #[.slice none 0 0],by simp [hh],.slice none 0 0,rfl,⟨.inl ⟨rfl,by simp [treeTable,hh]⟩,?_⟩,Chg.app _,by simp [dTable],by simp [dTable]⟩
  simp [treeTable,hh]
 by_cases hcn:conn w h b
 ·by_cases hr:isN w h root
  ·have hok:treeOk w h b root:=⟨hcn,hr⟩
   simp [one,sIsConnected_c _ _ _ _ (hI.app _) hl,hcn,l02Has_c,hr]
   refine wp_thn (l33Table_w w h v b root (hI.app _) hl hok) ?_
   rintro _ H1 ⟨vt,rfl,ot,c1,nt,dt⟩
   have b4:H1[H.length+1]? = some ⟨[.slice none 0 0],0,41⟩:=box_chg (by simp) c1 (by simp)
   have l4:=box_lt b4
   simp at nt
   have g4:=set_get (r':=⟨[vt],0,41⟩) b4
   simp [dTable_val,dTable_one ot,VM.look,b4,g4]
   refine ⟨.agg #[vt],by simp [hok],vt,rfl,Dt.chg (T:=dTable) ot (chg_set _ _) (fun i hi hh=>by have:=nt i hi;simp at hh;omega),((Chg.app []).trans c1).trans' (chg_set _ _) (fun i hi=>.inr (by simp at hi;omega)),fun i hi=>by have:=nt i hi;omega,dt⟩
  ·simp [one,sIsConnected_c _ _ _ _ (hI.app _) hl,hcn,l02Has_c,hr]
   exact no _ (fun hh=>hr hh.2)
 ·simp [one,sIsConnected_c _ _ _ _ (hI.app _) hl,hcn]
  exact no _ (fun hh=>hcn hh.1)
noncomputable def repair (w h:Int) (b:List Int):ClassesD:=(treeTable w h b (bestRoot w h b),treeTable w h b (bestRoot w h b))
noncomputable def repairOk (w h:Int) (b:List Int):Bool:=decide (treeOk w h b (bestRoot w h b))
theorem repair_w (w h:Int) (v:Value) (b:List Int) (hI:IsI H v b) (hl:b.length≤1073741824) :
 wp (vcall C frz 53 [.agg #[.int .i64 w,.int .i64 h,v]] H) (Made2 dClasses H (repair w h b) (repairOk w h b)):=by
 rw [vcall_go (fn:=Tryz.f53) Tryz.func53 rfl (by kernel_rfl) rfl]
 have one:=And.intro hI.one' hI.cells
 simp [one]
 rw [go_draw (h:=by kernel_rfl)]
 simp [one,bestRoot_c _ _ _ _ (hI.app _) hl]
 refine wp_thn (treeTable_w w h v b (bestRoot w h b) (hI.app _) hl) ?_
 rintro _ H1 ⟨_,rfl,vt,rfl,ot,c1,nt,dt⟩
 have b1:H1[H.length+1]? = some ⟨[.slice none 0 0,.slice none 0 0],0,43⟩:=box_chg (by simp) c1 (by simp)
 have l1:=box_lt b1
 simp at nt
 have cH:Chg H H1 []:=(Chg.app []).trans c1
 have hle:=treeTable_len w h b (bestRoot w h b)
 have hne:¬treeOk w h b (bestRoot w h b)→treeTable w h b (bestRoot w h b)=[]:=fun hh=>if_neg hh
 unfold repair repairOk
 generalize treeTable w h b (bestRoot w h b)=tt at *
 have one1:=dTable_one ot
 simp [dTable_val,one1,VM.look,b1]
 by_cases hok:treeOk w h b (bestRoot w h b)
 ·have l0:=cH.1
  simp [hok,l0]
  rw [go_draw (h:=by kernel_rfl)]
  simp [one1,l0]
  refine wp_thn (copyTable_w vt tt (ot.1.rd.isI.app _) (by omega)) ?_
  rintro _ H2 ⟨vu,rfl,ou,c2,nu,du⟩
  have b2:H2[H.length+1]? = some ⟨[.slice none 0 0,.slice none 0 0],0,43⟩:=box_chg (get_app' b1 _) c2 (by simp)
  have ot2:=Dt.chg0 (T:=dIntS) (Dt.app (T:=dIntS) ot) c2
  have lt1:=dIntS.lt ot
  simp at nu
  have one2:=dTable_one ou
  have g4:=set_get (r':=⟨[vt,vu],0,43⟩) b2
  simp [dTable_val,one1,one2,VM.look,b2,g4]
  have h1:∀i∈VM.ids vt,i∉[H.length+1]:=fun i hi hh=>by have:=nt i hi;simp at hh;omega
  have h2:∀i∈VM.ids vu,i∉[H.length+1]:=fun i hi hh=>by have:=nu i hi;simp at hh;omega
  refine ⟨.agg #[vt,vu],by simp [hok],(vt,vu),rfl,⟨Dt.chg (T:=dIntS) ot2 (chg_set _ _) h1,Dt.chg (T:=dIntS) ou (chg_set _ _) h2⟩,((cH.trans (Chg.app [])).trans c2).trans' (chg_set _ _) (fun i hi=>.inr (by simp at hi;omega)),fun i hi=>?_,List.nodup_append.2 ⟨ids_nodup vt,ids_nodup vu,fun i hi j hj hh=>?_⟩⟩
  ·rcases List.mem_append.1 hi with hi|hi
   ·have:=nt i hi;omega
   ·have:=nu i hi;omega
  ·have:=lt1 i hi;have:=nu j hj;omega
 ·obtain rfl:=hne hok
  have l0:=cH.1
  have g4:=set_get (r':=⟨[.slice none 0 0,.slice none 0 0],0,43⟩) (get_app' b1 [⟨[vt],0,41⟩])
  have b1':=get_app' b1 [⟨[vt],0,41⟩]
  simp [hok,l0,VM.look,b1,b1',g4]
  refine ⟨.agg #[.slice none 0 0,.slice none 0 0],by simp [hok],(.slice none 0 0,.slice none 0 0),rfl,⟨⟨.inl ⟨rfl,rfl⟩,by simp⟩,.inl ⟨rfl,rfl⟩,by simp⟩,(cH.trans (Chg.app [])).trans' (chg_set _ _) (fun i hi=>.inr (by simp at hi;omega)),by simp [dClasses],by simp [dClasses]⟩
theorem sRepair_w (w h:Int) (v:Value) (b:List Int) (hI:IsI H v b) (hl:b.length≤1073741824) :
 wp (vcall C frz 46 [.agg #[.int .i64 w,.int .i64 h,v]] H) (Made2 dClasses H (repair w h b) (repairOk w h b)):=by
 rw [vcall_go (fn:=Tryz.f46) Tryz.func46 rfl (by kernel_rfl) rfl]
 have one:=And.intro hI.one' hI.cells
 simp [one]
 rw [go_draw (h:=by kernel_rfl)]
 simp [one,sBestRoot_c _ _ _ _ (hI.app _) hl]
 refine wp_thn (sTreeTable_w w h v b (bestRoot w h b) (hI.app _) hl) ?_
 rintro _ H1 ⟨_,rfl,vt,rfl,ot,c1,nt,dt⟩
 have b1:H1[H.length+1]? = some ⟨[.slice none 0 0,.slice none 0 0],0,43⟩:=box_chg (by simp) c1 (by simp)
 have l1:=box_lt b1
 simp at nt
 have cH:Chg H H1 []:=(Chg.app []).trans c1
 have hle:=treeTable_len w h b (bestRoot w h b)
 have hne:¬treeOk w h b (bestRoot w h b)→treeTable w h b (bestRoot w h b)=[]:=fun hh=>if_neg hh
 unfold repair repairOk
 generalize treeTable w h b (bestRoot w h b)=tt at *
 have one1:=dTable_one ot
 simp [dTable_val,one1,VM.look,b1]
 by_cases hok:treeOk w h b (bestRoot w h b)
 ·have l0:=cH.1
  simp [hok,l0]
  rw [go_draw (h:=by kernel_rfl)]
  simp [one1,l0]
  refine wp_thn (l12Copy_w vt tt (ot.1.rd.isI.app _) (by omega)) ?_
  rintro _ H2 ⟨vu,rfl,ou,c2,nu,du⟩
  have b2:H2[H.length+1]? = some ⟨[.slice none 0 0,.slice none 0 0],0,43⟩:=box_chg (get_app' b1 _) c2 (by simp)
  have ot2:=Dt.chg0 (T:=dIntS) (Dt.app (T:=dIntS) ot) c2
  have lt1:=dIntS.lt ot
  simp at nu
  have one2:=dTable_one ou
  have g4:=set_get (r':=⟨[vt,vu],0,43⟩) b2
  simp [dTable_val,one1,one2,VM.look,b2,g4]
  have h1:∀i∈VM.ids vt,i∉[H.length+1]:=fun i hi hh=>by have:=nt i hi;simp at hh;omega
  have h2:∀i∈VM.ids vu,i∉[H.length+1]:=fun i hi hh=>by have:=nu i hi;simp at hh;omega
  refine ⟨.agg #[vt,vu],by simp [hok],(vt,vu),rfl,⟨Dt.chg (T:=dIntS) ot2 (chg_set _ _) h1,Dt.chg (T:=dIntS) ou (chg_set _ _) h2⟩,((cH.trans (Chg.app [])).trans c2).trans' (chg_set _ _) (fun i hi=>.inr (by simp at hi;omega)),fun i hi=>?_,List.nodup_append.2 ⟨ids_nodup vt,ids_nodup vu,fun i hi j hj hh=>?_⟩⟩
  ·rcases List.mem_append.1 hi with hi|hi
   ·have:=nt i hi;omega
   ·have:=nu i hi;omega
  ·have:=lt1 i hi;have:=nu j hj;omega
 ·obtain rfl:=hne hok
  have l0:=cH.1
  have g4:=set_get (r':=⟨[.slice none 0 0,.slice none 0 0],0,43⟩) (get_app' b1 [⟨[vt],0,41⟩])
  have b1':=get_app' b1 [⟨[vt],0,41⟩]
  simp [hok,l0,VM.look,b1,b1',g4]
  refine ⟨.agg #[.slice none 0 0,.slice none 0 0],by simp [hok],(.slice none 0 0,.slice none 0 0),rfl,⟨⟨.inl ⟨rfl,rfl⟩,by simp⟩,.inl ⟨rfl,rfl⟩,by simp⟩,(cH.trans (Chg.app [])).trans' (chg_set _ _) (fun i hi=>.inr (by simp at hi;omega)),by simp [dClasses],by simp [dClasses]⟩
end Go.Proofs.YtcigpclbhfkgaaaGreat.V
set_option linter.all false
namespace Go.Proofs.YtcigpclbhfkgaaaGreat.V
open Go Go.VM Go.Proofs
variable {frz:Nat} {H:Heap} {v:Value} {w h:Int} {b:List Int} {root:Int}
theorem repair_d (o:dMesh.Ow H v (w,h,b)):wp (vcall C frz 53 [dMesh.val v (w,h,b)] H) (Made2 dClasses H (repair w h b) (repairOk w h b)):=repair_w w h v b o.1.rd.isI o.2
theorem sRepair_d (o:dMesh.Ow H v (w,h,b)):wp (vcall C frz 46 [dMesh.val v (w,h,b)] H) (Made2 dClasses H (repair w h b) (repairOk w h b)):=sRepair_w w h v b o.1.rd.isI o.2
end Go.Proofs.YtcigpclbhfkgaaaGreat.V
set_option linter.all false
namespace Go.Proofs.YtcigpclbhfkgaaaGreat.V
open Go Go.VM Go.Proofs
set_option maxRecDepth 10000
variable {frz:Nat} {H:Heap}
def broke (b:List Int) (c:Int):List Int:=isort (b++[c])
def breakOk (w h:Int) (b:List Int) (c:Int):Prop:=meshOk w h b∧has w h b c
instance (w h:Int) (b:List Int) (c:Int):Decidable (breakOk w h b c):=inferInstanceAs (Decidable (_∧_))
def withBroken (w h:Int) (b:List Int) (c:Int):List Int:=if breakOk w h b c then broke b c else b
theorem broke_eq {b:List Int} {c:Int} (hb:b.Pairwise (· < ·)) {k:Nat} (hk:k≤b.length) (h1:∀j,j<k→b.getD j 0<c) (h2:k<b.length→c≤b.getD k 0):b.take k++[c]++b.drop k=broke b c:=by
 have hs:b.Pairwise (·≤·):=hb.imp (fun h=>Int.le_of_lt h)
 have g:∀{i:Nat} (hi:i<b.length),b.getD i 0=b[i]:=fun hi=>by simp [List.getD_eq_getElem?_getD,hi]
 refine sorted_eq ?_ (isort_sorted _) ?_
 ·rw [List.append_assoc,List.pairwise_append]
  refine ⟨hs.sublist (List.take_sublist _ _),?_,fun x hx y hy=>?_⟩
  ·rw [List.singleton_append,List.pairwise_cons]
   refine ⟨fun y hy=>?_,hs.sublist (List.drop_sublist _ _)⟩
   obtain ⟨i,hi,rfl⟩:=List.mem_iff_getElem.1 hy
   rw [List.getElem_drop]
   simp at hi
   have h3:=h2 (by omega)
   rw [g (by omega)] at h3
   by_cases hi0:i=0
   ·subst hi0;exact h3
   ·have:=List.pairwise_iff_getElem.1 hs k (k+i) (by omega) (by omega) (by omega);omega
  ·obtain ⟨i,hi,rfl⟩:=List.mem_iff_getElem.1 hx
   simp at hi
   rw [List.getElem_take]
   have h3:=h1 i (by omega)
   rw [g (by omega)] at h3
   simp at hy
   rcases hy with rfl|hy
   ·omega
   ·obtain ⟨j,hj,rfl⟩:=List.mem_iff_getElem.1 hy
    simp at hj
    rw [List.getElem_drop]
    exact List.pairwise_iff_getElem.1 hs i (k+j) (by omega) (by omega) (by omega)
 ·refine List.Perm.trans ?_ (isort_perm _).symm
  have h4:(b.take k++[c]++b.drop k).Perm (b.take k++(b.drop k++[c])):=by
   rw [List.append_assoc]
   exact (List.perm_append_left_iff _).2 (List.perm_append_comm)
  refine h4.trans ?_
  rw [← List.append_assoc,List.take_append_drop]
theorem brk_len {w h:Int} {b:List Int} (hm:meshOk w h b):b.length≤64:=by
 obtain ⟨_,h2,h3⟩:=(meshOk_iff w h b).1 hm
 have hc:=cnt_range w h
 refine asc_length h3 (fun c hc'=>?_)
 have:=(h2 c hc').1
 omega
theorem withBroken_w (w h:Int) (v:Value) (b:List Int) (c:Int) (hI:IsI H v b) (hl:b.length≤1073741824) :
 wp (vcall C frz 52 [.agg #[.int .i64 w,.int .i64 h,v],.int .i64 c] H) (Made2 dMesh H (w,h,withBroken w h b c) (decide (breakOk w h b c))):=by
 rw [vcall_go (fn:=Tryz.f52) Tryz.func52 rfl (by kernel_rfl) rfl]
 have one:=And.intro hI.one' hI.cells
 simp [one]
 refine wp_thn (copyMesh_w w h v b (hI.app _) hl) ?_
 rintro _ H1 ⟨u,rfl,o1,c1,n1,d1⟩
 have cH:Chg H H1 []:=(Chg.app []).trans c1
 have l0:=cH.1
 have b0:H1[H.length]? = some ⟨[.int .i64 w,.int .i64 h,v],0,40⟩:=box_chg (by simp) c1 (by simp)
 have b1:H1[H.length+1]? = some ⟨[.int .i64 0,.int .i64 0,.slice none 0 0],0,40⟩:=box_chg (by simp) c1 (by simp)
 have l1:=box_lt b1
 have hI1:=((hI.rd).chg cH (by simp)).isI
 have ob:Ow Fl.int 3 H1 u b:=o1.1
 have one1:=And.intro ob.rd.one' ob.rd.cells
 have n1':∀i∈VM.ids u,H.length+2≤i:=fun i hi=>by have:=n1 i hi;simp at this;omega
 have lu:=o1.1.lt
 simp [dMesh_val,one,one1,VM.look,b0,b1,get_app' b0,get_app' b1,hasChannel_c _ _ _ _ _ (hI1.app _) hl,-Bool.decide_and]
 by_cases hok:breakOk w h b c
 ·have hok':meshOk w h b∧has w h b c:=hok
  simp [hok',one,one1,VM.look,b0,b1,get_app' b0,get_app' b1,l0,Nat.le_add_right_of_le l0]
  have hlb:b.length≤1000:=by have:=brk_len hok.1;omega
  obtain ⟨u',H2,hap,o2,c2,n2⟩:=(ob.app (L:=[⟨[.int .i64 w,.int .i64 h,u],0,40⟩])).push (P:=Tryz.prog) (frz:=H.length) (ty:=24) (a:=c) (by simp) rfl (by omega) (fun i hi=>by have:=n1' i hi;omega)
  simp at hap n2
  have q2:H2[H1.length]? = some ⟨[.int .i64 w,.int .i64 h,u],0,40⟩:=box_chg (by simp) c2 (fun hh=>by have:=lu _ hh;omega)
  have q1:H2[H.length+1]? = some ⟨[.int .i64 0,.int .i64 0,.slice none 0 0],0,40⟩:=box_chg (get_app' b1 _) c2 (fun hh=>by have:=n1' _ hh;omega)
  have k2:=box_lt q2
  have n2':∀i∈VM.ids u',i≠H1.length∧H.length+2≤i:=fun i hi=>by
   rcases n2 i hi with h1|h1
   ·have:=lu i h1;have:=n1' i h1;omega
   ·omega
  have q3:=set_get (r':=⟨[.int .i64 w,.int .i64 h,u'],0,40⟩) q2
  have q4:(H2.set H1.length ⟨[.int .i64 w,.int .i64 h,u'],0,40⟩)[H.length+1]? = some ⟨[.int .i64 0,.int .i64 0,.slice none 0 0],0,40⟩:=box_chg q1 (chg_set _ _) (by simp;omega)
  have o3:=o2.chg (chg_set H1.length ⟨[.int .i64 w,.int .i64 h,u'],0,40⟩) (fun i hi hh=>(n2' i hi).1 (List.mem_singleton.1 hh))
  have one3:=And.intro o2.rd.one' o2.rd.cells
  have c3:Chg H H2 []:=(cH.trans (Chg.app (L:=[⟨[.int .i64 w,.int .i64 h,u],0,40⟩]) [])).trans' c2 (fun i hi=>.inr (by have:=n1' i hi;omega))
  have c4:Chg H2 (H2.set H1.length ⟨[.int .i64 w,.int .i64 h,u'],0,40⟩) [H1.length]:=chg_set _ _
  simp [hap,one3,VM.look,q2,q3,q4,l0]
  generalize H2.set H1.length ⟨[.int .i64 w,.int .i64 h,u'],0,40⟩=H3 at *
  refine wp_thn (sort_w u' (b++[c]) _ o3 (by simp;omega) (fun i hi=>by have:=n2' i hi;omega) (by have:=c4.1;omega)) ?_
  rintro _ H4 ⟨o5,c5⟩
  have q5:H4[H1.length]? = some ⟨[.int .i64 w,.int .i64 h,u'],0,40⟩:=box_chg q3 c5 (fun hh=>by have:=n2' _ hh;omega)
  have q6:H4[H.length+1]? = some ⟨[.int .i64 0,.int .i64 0,.slice none 0 0],0,40⟩:=box_chg q4 c5 (fun hh=>by have:=n2' _ hh;omega)
  have q7:=set_get (r':=⟨[.int .i64 w,.int .i64 h,u'],0,40⟩) q6
  simp [one3,VM.look,q5,q6,q7]
  have cc:Chg H H4 []:=(c3.trans' c4 (fun i hi=>.inr (by simp at hi;omega))).trans' c5 (fun i hi=>.inr (by have:=n2' i hi;omega))
  refine ⟨.agg #[.int .i64 w,.int .i64 h,u'],by simp [hok],u',by simp [withBroken,hok,broke,dMesh_val],⟨o5.chg (chg_set (H.length+1) _) (fun i hi hh=>by have:=n2' i hi;have:=List.mem_singleton.1 hh;omega) |> fun hh=>by simpa [withBroken,hok,broke] using hh,by simp [withBroken,hok,broke,isort_len];omega⟩,cc.trans' (chg_set _ _) (fun i hi=>.inr (by simp at hi;omega)),fun i hi=>by have:=n2' i hi;omega,ids_nodup u'⟩
 ·have hok':¬(meshOk w h b∧has w h b c):=hok
  have g:=set_get (r':=⟨[.int .i64 w,.int .i64 h,u],0,40⟩) (get_app' b1 [⟨[.int .i64 w,.int .i64 h,u],0,40⟩])
  simp [hok',one,one1,VM.look,b0,b1,get_app' b0,get_app' b1,l0,Nat.le_add_right_of_le l0,g]
  refine ⟨.agg #[.int .i64 w,.int .i64 h,u],by simp [hok],u,by simp [withBroken,hok,dMesh_val],⟨by simpa [withBroken,hok] using ob.app.chg (chg_set _ _) (fun i hi hh=>by have:=n1' i hi;simp at hh;omega),by simpa [withBroken,hok] using hl⟩,(cH.trans (Chg.app [])).trans' (chg_set _ _) (fun i hi=>.inr (by simp at hi;omega)),fun i hi=>by have:=n1' i hi;omega,ids_nodup u⟩
theorem sHasChannel_c (w h:Int) (v:Value) (b:List Int) (c:Int) (hI:IsI H v b) (hl:b.length≤1073741824) :
 vcall C frz 99 [.agg #[.int .i64 w,.int .i64 h,v],.int .i64 c] H=some (.bool (decide (meshOk w h b∧has w h b c)),H):=by
 rw [vcall_go (fn:=Tryz.f99) Tryz.func99 rfl (by kernel_rfl) rfl]
 simp [hI.one',hI.cells,sMeshOk_c _ _ _ _ (hI.app _) hl]
 refine gd_dec _ _ ?_ ?_<;>intro h1<;>simp [h1,hI.one',hI.cells,l03Has_c _ _ _ _ _ (hI.app _) hl,-Bool.decide_and]
theorem sWithBroken_w (w h:Int) (v:Value) (b:List Int) (c:Int) (hO:Ow Fl.int 3 H v b) (hl:b.length≤1073741824) :
 wp (vcall C frz 45 [.agg #[.int .i64 w,.int .i64 h,v],.int .i64 c] H) (Made2 dMesh H (w,h,withBroken w h b c) (decide (breakOk w h b c))):=by
 rw [vcall_go (fn:=Tryz.f45) Tryz.func45 rfl (by kernel_rfl) rfl]
 have hI:=hO.rd.isI
 have one:=And.intro hI.one' hI.cells
 simp [one]
 refine wp_thn (l15Mesh_w w h v b (hI.app _) hl) ?_
 rintro _ H1 ⟨u,rfl,o1,c1,n1,d1⟩
 have cH:Chg H H1 []:=(Chg.app []).trans c1
 have l0:=cH.1
 have b0:H1[H.length]? = some ⟨[.int .i64 w,.int .i64 h,v],0,40⟩:=box_chg (by simp) c1 (by simp)
 have b1:H1[H.length+1]? = some ⟨[.int .i64 0,.int .i64 0,.slice none 0 0],0,40⟩:=box_chg (by simp) c1 (by simp)
 have l1:=box_lt b1
 have hI1:=((hI.rd).chg cH (by simp)).isI
 have ob:Ow Fl.int 3 H1 u b:=o1.1
 have one1:=And.intro ob.rd.one' ob.rd.cells
 have n1':∀i∈VM.ids u,H.length+2≤i:=fun i hi=>by have:=n1 i hi;simp at this;omega
 have lu:=o1.1.lt
 simp [dMesh_val,one,one1,VM.look,b0,b1,get_app' b0,get_app' b1,sHasChannel_c _ _ _ _ _ (hI1.app _) hl,-Bool.decide_and]
 by_cases hok:breakOk w h b c
 ·have hok':meshOk w h b∧has w h b c:=hok
  simp [hok',one,one1,VM.look,b0,b1,get_app' b0,get_app' b1,l0,Nat.le_add_right_of_le l0]
  have hlb:b.length≤1000:=by have:=brk_len hok.1;omega
  have pw:=((meshOk_iff w h b).1 hok.1).2.2
  clear hI1 o1
  refine wp_joino (F:=?F) (k:=?k) (o:=?o) (Q:=?Q) (fun t H'=>∃(i:Nat) (u:Value),i≤b.length∧(∀j,j<i→b.getD j 0<c)∧(i<b.length→c≤b.getD i 0)∧t 1=.int .i64 c∧t 2=.pointer (some ⟨H.length,0,some 0⟩)∧t 4=.pointer (some ⟨H.length+1,0,some 0⟩)∧t 6=.pointer (some ⟨H1.length,0,some 0⟩)∧t 7=.int .i64 i∧
   H'[H.length]? = some ⟨[.int .i64 w,.int .i64 h,v],0,40⟩∧H'[H.length+1]? = some ⟨[.int .i64 0,.int .i64 0,.slice none 0 0],0,40⟩∧H'[H1.length]? = some ⟨[.int .i64 w,.int .i64 h,u],0,40⟩∧
   Ow Fl.int 3 H' u (b.take i)∧(∀i∈VM.ids u,i≠H1.length∧H.length+2≤i)∧Chg H H' []) ?main ?rest
  case main=>
   intro rest
   refine wp_inv (fun n t H'=>∃(i:Nat) (u:Value),n=b.length-i∧i≤b.length∧(∀j,j<i→b.getD j 0<c)∧t 1=.int .i64 c∧t 2=.pointer (some ⟨H.length,0,some 0⟩)∧t 4=.pointer (some ⟨H.length+1,0,some 0⟩)∧t 6=.pointer (some ⟨H1.length,0,some 0⟩)∧t 7=.int .i64 i∧
    H'[H.length]? = some ⟨[.int .i64 w,.int .i64 h,v],0,40⟩∧H'[H.length+1]? = some ⟨[.int .i64 0,.int .i64 0,.slice none 0 0],0,40⟩∧H'[H1.length]? = some ⟨[.int .i64 w,.int .i64 h,u],0,40⟩∧
    Ow Fl.int 3 H' u (b.take i)∧(∀i∈VM.ids u,i≠H1.length∧H.length+2≤i)∧Chg H H' []) ?_ (n:=b.length)
    ⟨0,.slice (some ⟨H1.length+1,0,some 0⟩) 0 0,rfl,by omega,fun j hj=>by omega,by simp,by simp,by simp,by simp,by simp,get_app' b0 _,get_app' b1 _,by simp,by simpa using Ow.new (D:=Fl.int) (e:=3) (xs:=[]) (H:=H1) (L:=[⟨[.int .i64 w,.int .i64 h,.slice (some ⟨H1.length+1,0,some 0⟩) 0 0],0,40⟩,⟨[],0,3⟩]) (k:=1) (by simp) rfl rfl rfl,
     fun i hi=>by simp at hi;omega,cH.trans (Chg.app [])⟩
   rintro n t H' ⟨i,u,rfl,hi,hlow,t1,t2,t4,t6,t7,b0,b1,b2,o,nu,ch⟩ ih
   have hI1:=((hI.rd).chg ch (by simp)).isI
   have one1:=And.intro o.rd.one' o.rd.cells
   have lu:=o.lt
   have k2:=box_lt b2
   have l0':=ch.1
   simp [t1,t2,t4,t6,t7,VM.look,b0,hI1.len]
   refine wpg_dec ?_ ?_<;>intro g1
   ·have q1:=hI1.idx (P:=Tryz.prog) (ty:=24) (e:=3) (by simp) (i:=(i:Int)) (by omega) (by omega)
    have r1:=hI1.load (P:=Tryz.prog) (e:=3) (by simp) g1
    simp only [Int.toNat_natCast] at q1
    have r1':vload Tryz.prog H' 3 (elp v i)=some (.int .i64 (G b i)):=r1
    simp [t1,t2,t4,t6,t7,VM.look,b0,hI1.len,g1,q1,r1']
    refine wp_dec ?_ ?_<;>intro g2
    ·simp [t1,t2,t4,t6,t7]
     rw [go_draw (h:=by kernel_rfl)]
     obtain ⟨u',H2,hap,o2,c2,n2⟩:=o.push (P:=Tryz.prog) (frz:=H.length) (ty:=24) (a:=G b i) (by simp) rfl (by simp;omega) (fun i hi=>by have:=nu i hi;omega)
     simp only [Fl.int_f] at hap
     have p1:H2[H1.length]? = some ⟨[.int .i64 w,.int .i64 h,u],0,40⟩:=box_chg b2 c2 (fun hh=>(nu _ hh).1 rfl)
     have p2:=set_get (r':=⟨[.int .i64 w,.int .i64 h,u'],0,40⟩) p1
     have nu':∀i∈VM.ids u',i≠H1.length∧H.length+2≤i:=fun i hi=>by
      rcases n2 i hi with h1|h1
      ·exact nu i h1
      ·omega
     have one2:=And.intro o2.rd.one' o2.rd.cells
     have l2:=c2.1
     have ne1:H1.length≠H.length:=by omega
     have ne2:H1.length≠H.length+1:=by omega
     simp [t1,t2,t4,t6,t7,VM.look,b0,b2,q1,r1',one1,hI1.one',hI1.cells,hap,p1,one2,l0]
     refine ih (b.length-(i+1)) _ _ ⟨i+1,u',rfl,by omega,fun j hj=>?_,by simp [t1],by simp [t2],by simp [t4],by simp [t6],?_,?_,?_,p2,?_,nu',?_⟩ (by omega)
     ·by_cases hji:j=i
      ·subst hji;exact g2
      ·exact hlow j (by omega)
     ·simp;rw [w64 (by omega) (by omega)]
     ·exact box_chg (box_chg b0 c2 (fun hh=>by have:=nu _ hh;omega)) (chg_set _ _) (by simp;omega)
     ·exact box_chg (box_chg b1 c2 (fun hh=>by have:=nu _ hh;omega)) (chg_set _ _) (by simp;omega)
     ·have:=o2.chg (chg_set H1.length ⟨[.int .i64 w,.int .i64 h,u'],0,40⟩) (fun i hi hh=>(nu' i hi).1 (List.mem_singleton.1 hh))
      rw [List.take_succ_eq_append_getElem g1,← G_get g1];exact this
     ·exact (ch.trans' c2 (fun i hi=>.inr (by have:=nu i hi;omega))).trans' (chg_set _ _) (fun i hi=>.inr (by simp at hi;omega))
    ·simp [t1,t2,t4,t6,t7,-go_exit_blk]
     refine rest _ _ ?_
     exact ⟨i,u,hi,hlow,fun _=>by have:¬b.getD i 0<c:=g2;omega,by simp [t1],by simp [t2],by simp [t4],by simp [t6],by simp [t7],b0,b1,b2,o,nu,ch⟩
   ·simp [t1,t2,t4,t6,t7,g1,-go_exit_blk]
    refine rest _ _ ?_
    exact ⟨i,u,hi,hlow,fun hh=>absurd hh g1,by simp [t1],by simp [t2],by simp [t4],by simp [t6],by simp [t7],b0,b1,b2,o,nu,ch⟩
  case rest=>
   rintro t H' ⟨i,u,hi,hlow,hhi,t1,t2,t4,t6,t7,b0,b1,b2,o,nu,ch⟩
   have hI1:=((hI.rd).chg ch (by simp)).isI
   have one1:=And.intro o.rd.one' o.rd.cells
   have hlt:(b.take i).length=i:=by simp;omega
   have l0':=ch.1
   have hmin:min i b.length=i:=Nat.min_eq_left hi
   have k2:=box_lt b2
   obtain ⟨u',H2,hap,o2,c2,n2⟩:=o.push (P:=Tryz.prog) (frz:=H.length) (ty:=24) (a:=c) (by simp) rfl (by simp;omega) (fun i hi=>by have:=nu i hi;omega)
   simp only [Fl.int_f] at hap
   have p0:H2[H.length]? = some ⟨[.int .i64 w,.int .i64 h,v],0,40⟩:=box_chg b0 c2 (fun hh=>by have:=nu _ hh;omega)
   have p1:H2[H1.length]? = some ⟨[.int .i64 w,.int .i64 h,u],0,40⟩:=box_chg b2 c2 (fun hh=>(nu _ hh).1 rfl)
   have p3:H2[H.length+1]? = some ⟨[.int .i64 0,.int .i64 0,.slice none 0 0],0,40⟩:=box_chg b1 c2 (fun hh=>by have:=nu _ hh;omega)
   have p2:=set_get (r':=⟨[.int .i64 w,.int .i64 h,u'],0,40⟩) p1
   have p4:(H2.set H1.length ⟨[.int .i64 w,.int .i64 h,u'],0,40⟩)[H.length]? = _:=box_chg p0 (chg_set _ _) (by simp;omega)
   have p5:(H2.set H1.length ⟨[.int .i64 w,.int .i64 h,u'],0,40⟩)[H.length+1]? = _:=box_chg p3 (chg_set _ _) (by simp;omega)
   have nu':∀i∈VM.ids u',i≠H1.length∧H.length+2≤i:=fun i hi=>by
    rcases n2 i hi with h1|h1
    ·exact nu i h1
    ·omega
   have one2:=And.intro o2.rd.one' o2.rd.cells
   have c4:Chg H2 (H2.set H1.length ⟨[.int .i64 w,.int .i64 h,u'],0,40⟩) [H1.length]:=chg_set _ _
   have ch3:=(ch.trans' c2 (fun i hi=>.inr (by have:=nu i hi;omega))).trans' c4 (fun i hi=>.inr (by simp at hi;omega))
   have o3:=o2.chg c4 (fun i hi hh=>(nu' i hi).1 (List.mem_singleton.1 hh))
   simp [t1,t2,t4,t6,t7,VM.look,b2,one1,o.rd.len,hmin,hap,p1,one2,l0]
   rw [go_draw (h:=by kernel_rfl)]
   generalize H2.set H1.length ⟨[.int .i64 w,.int .i64 h,u'],0,40⟩=H3 at *
   have hI3:=((hI.rd).chg ch3 (by simp)).isI
   obtain ⟨z,hz,oz,nz⟩:=(hO.chg ch3 (by simp)).slice (P:=Tryz.prog) (ty:=24) (lo:=some (.int .i64 (i:Int))) (hi:=none) (l:=i) (u:=b.length) (by simp) rfl rfl hi (Nat.le_refl _)
   have hbi:(b.drop i).take (b.length-i)=b.drop i:=List.take_of_length_le (by simp)
   rw [hbi] at oz
   obtain ⟨u2,H5,hap2,o5,c5,n5⟩:=o3.append (P:=Tryz.prog) (frz:=H.length) (ty:=24) oz.rd (by simp) (ones_ints _) (by simp;omega) (fun i hi=>by have:=nu' i hi;omega)
   have s1:H5[H1.length]? = some ⟨[.int .i64 w,.int .i64 h,u'],0,40⟩:=box_chg p2 c5 (fun hh=>(nu' _ hh).1 rfl)
   have s2:H5[H.length+1]? = some ⟨[.int .i64 0,.int .i64 0,.slice none 0 0],0,40⟩:=box_chg p5 c5 (fun hh=>by have:=nu' _ hh;omega)
   have s3:=set_get (r':=⟨[.int .i64 w,.int .i64 h,u2],0,40⟩) s1
   have s4:(H5.set H1.length ⟨[.int .i64 w,.int .i64 h,u2],0,40⟩)[H.length+1]? = _:=box_chg s2 (chg_set _ _) (by simp;omega)
   have k3:=box_lt p2
   have nu2:∀i∈VM.ids u2,i≠H1.length∧H.length+2≤i:=fun i hi=>by
    rcases n5 i hi with h1|h1
    ·exact nu' i h1
    ·have:=box_lt p5;omega
   have one5:=And.intro o5.rd.one' o5.rd.cells
   have c6:Chg H5 (H5.set H1.length ⟨[.int .i64 w,.int .i64 h,u2],0,40⟩) [H1.length]:=chg_set _ _
   have ch6:=(ch3.trans' c5 (fun i hi=>.inr (by have:=nu' i hi;omega))).trans' c6 (fun i hi=>.inr (by simp at hi;omega))
   have o6:=o5.chg c6 (fun i hi hh=>(nu2 i hi).1 (List.mem_singleton.1 hh))
   have s5:=set_get (r':=⟨[.int .i64 w,.int .i64 h,u2],0,40⟩) s4
   simp [t1,t2,t4,t6,t7,VM.look,one,one2,p2,p4,p5,l0,hz,hap2,s1,s2,s3,s4,one5]
   generalize H5.set H1.length ⟨[.int .i64 w,.int .i64 h,u2],0,40⟩=H6 at *
   simp [VM.look,s4,s5]
   have heq:b.take i++[c]++b.drop i=broke b c:=broke_eq pw hi hlow hhi
   rw [heq] at o6
   refine ⟨.agg #[.int .i64 w,.int .i64 h,u2],by simp [hok],u2,by simp [withBroken,hok,dMesh_val],⟨?_,by simp [withBroken,hok,broke,isort_len];omega⟩,ch6.trans' (chg_set _ _) (fun i hi=>.inr (by simp at hi;omega)),fun i hi=>by have:=nu2 i hi;omega,ids_nodup u2⟩
   have:=o6.chg (chg_set (H.length+1) ⟨[.int .i64 w,.int .i64 h,u2],0,40⟩) (fun i hi hh=>by have:=nu2 i hi;have:=List.mem_singleton.1 hh;omega)
   simpa [withBroken,hok] using this
 ·have hok':¬(meshOk w h b∧has w h b c):=hok
  have g:=set_get (r':=⟨[.int .i64 w,.int .i64 h,u],0,40⟩) (get_app' b1 [⟨[.int .i64 w,.int .i64 h,u],0,40⟩])
  simp [hok',one,one1,VM.look,b0,b1,get_app' b0,get_app' b1,l0,Nat.le_add_right_of_le l0,g]
  refine ⟨.agg #[.int .i64 w,.int .i64 h,u],by simp [hok],u,by simp [withBroken,hok,dMesh_val],⟨by simpa [withBroken,hok] using ob.app.chg (chg_set _ _) (fun i hi hh=>by have:=n1' i hi;simp at hh;omega),by simpa [withBroken,hok] using hl⟩,(cH.trans (Chg.app [])).trans' (chg_set _ _) (fun i hi=>.inr (by simp at hi;omega)),fun i hi=>by have:=n1' i hi;omega,ids_nodup u⟩
theorem withBroken_d {v:Value} {w h:Int} {b:List Int} {c:Int} (o:dMesh.Ow H v (w,h,b)):wp (vcall C frz 52 [dMesh.val v (w,h,b),.int .i64 c] H) (Made2 dMesh H (w,h,withBroken w h b c) (decide (breakOk w h b c))):=withBroken_w w h v b c o.1.rd.isI o.2
theorem sWithBroken_d {v:Value} {w h:Int} {b:List Int} {c:Int} (o:dMesh.Ow H v (w,h,b)):wp (vcall C frz 45 [dMesh.val v (w,h,b),.int .i64 c] H) (Made2 dMesh H (w,h,withBroken w h b c) (decide (breakOk w h b c))):=sWithBroken_w w h v b c o.1 o.2
def brkOk (x:NetD) (c:Int):Prop:=idleOk x∧breakOk x.1.1 x.1.2.1 x.1.2.2 c∧repairOk x.1.1 x.1.2.1 (withBroken x.1.1 x.1.2.1 x.1.2.2 c)=true
noncomputable instance (x:NetD) (c:Int):Decidable (brkOk x c):=inferInstanceAs (Decidable (_∧_))
noncomputable def brk (x:NetD) (c:Int):NetD:=if brkOk x c then fresh x (x.1.1,x.1.2.1,withBroken x.1.1 x.1.2.1 x.1.2.2 c) (repair x.1.1 x.1.2.1 (withBroken x.1.1 x.1.2.1 x.1.2.2 c)) else x
theorem breakCh_d {v:NetV} {x:NetD} {c:Int} (o:dNet.Ow H v x) :
 wp (vcall C frz 19 [dNet.val v x,.int .i64 c] H) (Made2 dNet H (brk x c) (decide (brkOk x c))):=by
 have ones:=dNet_one o
 have oo:=fun (K:Heap) (ch:Chg H K [])=>Dt.chg (T:=dNet) o ch (by simp)
 have ii:=fun F K (ch:Chg H K [])=>isIdle_d (frz:=F) (H:=K) (v:=v) (x:=x) (oo K ch)
 have ecopy:=fun K (ch:Chg H K [])=>copyNet_d (frz:=H.length) (H:=K) (v:=v) (x:=x) (oo K ch)
 simp only [dNet_val] at ii ecopy ⊢
 rw [vcall_go (fn:=Tryz.f19) Tryz.func19 rfl (by kernel_rfl) rfl]
 have key:∀(y:NetD) (n:NetV) (K K0:Heap) (ok:Bool),dNet.Ow K n y→Chg H K0 []→Chg K0 K []→H.length+1<K0.length→K0[H.length+1]? = some ⟨[.int .i64 0,.int .i64 0,.slice none 0 0,.slice none 0 0,.slice none 0 0,.slice none 0 0,.slice none 0 0,.slice none 0 0,.slice none 0 0,.slice none 0 0,.int .i64 0],0,46⟩→(∀i∈dNet.ids n,K0.length≤i)→(dNet.ids n).Nodup→brk x c=y→decide (brkOk x c)=ok→
  K[H.length+1]? = some ⟨[.int .i64 0,.int .i64 0,.slice none 0 0,.slice none 0 0,.slice none 0 0,.slice none 0 0,.slice none 0 0,.slice none 0 0,.slice none 0 0,.slice none 0 0,.int .i64 0],0,46⟩∧Made2 dNet H (brk x c) (decide (brkOk x c)) (.tuple #[dNet.val n y,.bool ok]) (K.set (H.length+1) ⟨[.int .i64 y.1.1,.int .i64 y.1.2.1,n.1,n.2.1.1,n.2.1.2,n.2.2.1.1,n.2.2.2.1,n.2.2.2.2.1,n.2.2.2.2.2.1.1,n.2.2.2.2.2.2.1.1,.int .i64 y.2.2.2.2.2.2.2],0,46⟩):=by
  intro y n K K0 ok on c0 ck hlt hz mn dn e1 e2
  have bR:K[H.length+1]? = some ⟨[.int .i64 0,.int .i64 0,.slice none 0 0,.slice none 0 0,.slice none 0 0,.slice none 0 0,.slice none 0 0,.slice none 0 0,.slice none 0 0,.slice none 0 0,.int .i64 0],0,46⟩:=box_chg hz ck (by simp)
  refine ⟨bR,dNet.val n y,by rw [e2],n,by rw [e1],?_,?_,fun i hi=>by have:=mn i hi;omega,dn⟩
  ·rw [e1];exact Dt.chg (T:=dNet) on (chg_set _ _) (fun i hi hh=>by have:=mn i hi;simp at hh;omega)
  ·exact (c0.trans ck).trans' (chg_set _ _) (fun i hi=>.inr (by simp at hi;omega))
 have fail:¬brkOk x c→brk x c=x∧decide (brkOk x c)=false:=fun hh=>⟨if_neg hh,decide_eq_false hh⟩
 have bad:∀(K0:Heap),Chg H K0 []→H.length+1<K0.length→K0[H.length+1]? = some ⟨[.int .i64 0,.int .i64 0,.slice none 0 0,.slice none 0 0,.slice none 0 0,.slice none 0 0,.slice none 0 0,.slice none 0 0,.slice none 0 0,.slice none 0 0,.int .i64 0],0,46⟩→¬brkOk x c→∀r K,dNet.Made K0 x r K→∃n,r=netVal n x∧dNet.Ow K n x∧K[H.length+1]? = some ⟨[.int .i64 0,.int .i64 0,.slice none 0 0,.slice none 0 0,.slice none 0 0,.slice none 0 0,.slice none 0 0,.slice none 0 0,.slice none 0 0,.slice none 0 0,.int .i64 0],0,46⟩∧Made2 dNet H (brk x c) (decide (brkOk x c)) (.tuple #[dNet.val n x,.bool false]) (K.set (H.length+1) ⟨[.int .i64 x.1.1,.int .i64 x.1.2.1,n.1,n.2.1.1,n.2.1.2,n.2.2.1.1,n.2.2.2.1,n.2.2.2.2.1,n.2.2.2.2.2.1.1,n.2.2.2.2.2.2.1.1,.int .i64 x.2.2.2.2.2.2.2],0,46⟩):=by
  intro K0 c0 hlt hz hb r K hm
  obtain ⟨n,rfl,on,cn,mn,dn⟩:=hm
  obtain ⟨f1,f2⟩:=fail hb
  obtain ⟨k1,k2⟩:=key x n K K0 false on c0 cn hlt hz mn dn f1 f2
  exact ⟨n,rfl,on,k1,k2⟩
 obtain ⟨G,hG⟩:∃G,G=H++[⟨[.int .i64 x.1.1,.int .i64 x.1.2.1,v.1,v.2.1.1,v.2.1.2,v.2.2.1.1,v.2.2.2.1,v.2.2.2.2.1,v.2.2.2.2.2.1.1,v.2.2.2.2.2.2.1.1,.int .i64 x.2.2.2.2.2.2.2],0,46⟩,⟨[.int .i64 0,.int .i64 0,.slice none 0 0,.slice none 0 0,.slice none 0 0,.slice none 0 0,.slice none 0 0,.slice none 0 0,.slice none 0 0,.slice none 0 0,.int .i64 0],0,46⟩]:=⟨_,rfl⟩
 have cG:Chg H G []:=by rw [hG];exact Chg.app _
 have b0:G[H.length]? = some ⟨[.int .i64 x.1.1,.int .i64 x.1.2.1,v.1,v.2.1.1,v.2.1.2,v.2.2.1.1,v.2.2.2.1,v.2.2.2.2.1,v.2.2.2.2.2.1.1,v.2.2.2.2.2.2.1.1,.int .i64 x.2.2.2.2.2.2.2],0,46⟩:=by rw [hG];simp
 have b1:G[H.length+1]? = some ⟨[.int .i64 0,.int .i64 0,.slice none 0 0,.slice none 0 0,.slice none 0 0,.slice none 0 0,.slice none 0 0,.slice none 0 0,.slice none 0 0,.slice none 0 0,.int .i64 0],0,46⟩:=by rw [hG];simp
 have hlG:G.length=H.length+2:=by rw [hG];simp
 simp [ones]
 rw [← hG]
 clear hG
 refine wp_thn (withBroken_d (c:=c) (oo G cG).1) ?_
 rintro _ K1 ⟨_,rfl,vm,rfl,om,cm,mm,dm⟩
 have c1:Chg H K1 []:=cG.trans cm
 have b01:=box_chg b0 cm (by simp)
 have b11:=box_chg b1 cm (by simp)
 have hl1:=cm.1
 have onem:=dMesh_one om
 obtain ⟨B,hB⟩:∃B,B=withBroken x.1.1 x.1.2.1 x.1.2.2 c:=⟨_,rfl⟩
 rw [← hB] at om
 have hl1':H.length≤K1.length:=c1.1
 simp [dMesh_val,onem,VM.look,hl1']
 obtain ⟨K1',hK1⟩:∃K,K=K1++[⟨[.int .i64 x.1.1,.int .i64 x.1.2.1,vm],0,40⟩]:=⟨_,rfl⟩
 have c1':Chg K1 K1' []:=by rw [hK1];exact Chg.app _
 have bm:K1'[K1.length]? = some ⟨[.int .i64 x.1.1,.int .i64 x.1.2.1,vm],0,40⟩:=by rw [hK1];simp
 have om1:=Dt.chg (T:=dMesh) om c1' (by simp)
 rw [← hK1]
 have hrp:=repair_d (frz:=H.length) om1
 refine wp_thn hrp ?_
 rintro _ K2 ⟨_,rfl,vc,rfl,oc,cc,mc,dc⟩
 have onec:=dClasses_one oc
 have hl2:H.length≤K2.length:=Nat.le_trans hl1' (Nat.le_trans c1'.1 cc.1)
 simp [dClasses_val,onec,VM.look,hl2]
 obtain ⟨K3,hK3⟩:∃K,K=K2++[⟨[vc.1,vc.2],0,43⟩]:=⟨_,rfl⟩
 have c3':Chg K2 K3 []:=by rw [hK3];exact Chg.app _
 have bc:K3[K2.length]? = some ⟨[vc.1,vc.2],0,43⟩:=by rw [hK3];simp
 rw [← hK3]
 have c13:Chg K1' K3 []:=cc.trans c3'
 have cG3:Chg G K3 []:=(cm.trans c1').trans c13
 have c3:Chg H K3 []:=cG.trans cG3
 have b03:=box_chg b0 cG3 (by simp)
 have b13:=box_chg b1 cG3 (by simp)
 have bm3:=box_chg bm c13 (by simp)
 have om3:=Dt.chg (T:=dMesh) om1 c13 (by simp)
 have oc3:=Dt.chg (T:=dClasses) oc c3' (by simp)
 have hl3:H.length+1<K3.length:=box_lt b13
 have ii':=fun F=>ii F K3 c3
 simp [VM.look,b03,ones,ii']
 have ffail:¬brkOk x c→wp (vcall C H.length 55 [netVal v x] K3) (fun r K=>∃n,r=netVal n x∧dNet.Ow K n x∧K[H.length+1]? = some ⟨[.int .i64 0,.int .i64 0,.slice none 0 0,.slice none 0 0,.slice none 0 0,.slice none 0 0,.slice none 0 0,.slice none 0 0,.slice none 0 0,.slice none 0 0,.int .i64 0],0,46⟩∧Made2 dNet H (brk x c) (decide (brkOk x c)) (.tuple #[dNet.val n x,.bool false]) (K.set (H.length+1) ⟨[.int .i64 x.1.1,.int .i64 x.1.2.1,n.1,n.2.1.1,n.2.1.2,n.2.2.1.1,n.2.2.2.1,n.2.2.2.2.1,n.2.2.2.2.2.1.1,n.2.2.2.2.2.2.1.1,.int .i64 x.2.2.2.2.2.2.2],0,46⟩)):=fun hb=>(ecopy K3 c3).mono (fun r K hm=>bad K3 c3 hl3 b13 hb r K hm)
 unfold netVal at ffail
 by_cases g0:idleOk x
 rotate_left
 ·simp [g0,VM.look,b03,ones]
  refine wp_thn (ffail (fun k=>g0 k.1)) ?_
  rintro r K ⟨n,rfl,on,bR,hM⟩
  have qn:=dNet_one on
  have gR:=set_get (r':=⟨[.int .i64 x.1.1,.int .i64 x.1.2.1,n.1,n.2.1.1,n.2.1.2,n.2.2.1.1,n.2.2.2.1,n.2.2.2.2.1,n.2.2.2.2.2.1.1,n.2.2.2.2.2.2.1.1,.int .i64 x.2.2.2.2.2.2.2],0,46⟩) bR
  have hF:H.length≤K.length:=by have:=box_lt bR;omega
  simp [netVal,dNet_val,VM.look,bR,qn,gR,hF]
  exact hM
 by_cases g1:breakOk x.1.1 x.1.2.1 x.1.2.2 c
 rotate_left
 ·simp [g0,g1,VM.look,b03,ones]
  refine wp_thn (ffail (fun k=>g1 k.2.1)) ?_
  rintro r K ⟨n,rfl,on,bR,hM⟩
  have qn:=dNet_one on
  have gR:=set_get (r':=⟨[.int .i64 x.1.1,.int .i64 x.1.2.1,n.1,n.2.1.1,n.2.1.2,n.2.2.1.1,n.2.2.2.1,n.2.2.2.2.1,n.2.2.2.2.2.1.1,n.2.2.2.2.2.2.1.1,.int .i64 x.2.2.2.2.2.2.2],0,46⟩) bR
  have hF:H.length≤K.length:=by have:=box_lt bR;omega
  simp [netVal,dNet_val,VM.look,bR,qn,gR,hF]
  exact hM
 by_cases g2:repairOk x.1.1 x.1.2.1 B=true
 rotate_left
 ·simp [g0,g1,g2,VM.look,b03,ones]
  refine wp_thn (ffail (fun k=>g2 (by rw [hB];exact k.2.2))) ?_
  rintro r K ⟨n,rfl,on,bR,hM⟩
  have qn:=dNet_one on
  have gR:=set_get (r':=⟨[.int .i64 x.1.1,.int .i64 x.1.2.1,n.1,n.2.1.1,n.2.1.2,n.2.2.1.1,n.2.2.2.1,n.2.2.2.2.1,n.2.2.2.2.2.1.1,n.2.2.2.2.2.2.1.1,.int .i64 x.2.2.2.2.2.2.2],0,46⟩) bR
  have hF:H.length≤K.length:=by have:=box_lt bR;omega
  simp [netVal,dNet_val,VM.look,bR,qn,gR,hF]
  exact hM
 simp [g0,g1,g2,VM.look,b03,ones,bm3,bc,onem,onec]
 have hok:brkOk x c:=⟨g0,g1,by rw [← hB];exact g2⟩
 have hbr:brk x c=fresh x (x.1.1,x.1.2.1,B) (repair x.1.1 x.1.2.1 B):=by rw [hB];exact if_pos hok
 refine wp_thn (replaced_d (frz:=H.length) (oo K3 c3) om3 oc3) ?_
 rintro _ K ⟨n,rfl,on,cn,mn,dn⟩
 obtain ⟨bR,hM⟩:=key _ n K K3 true on c3 cn hl3 b13 mn dn hbr (decide_eq_true hok)
 generalize fresh x (x.1.1,x.1.2.1,B) (repair x.1.1 x.1.2.1 B)=y at *
 have qn:=dNet_one on
 have gR:=set_get (r':=⟨[.int .i64 y.1.1,.int .i64 y.1.2.1,n.1,n.2.1.1,n.2.1.2,n.2.2.1.1,n.2.2.2.1,n.2.2.2.2.1,n.2.2.2.2.2.1.1,n.2.2.2.2.2.2.1.1,.int .i64 y.2.2.2.2.2.2.2],0,46⟩) bR
 have hF:H.length≤K.length:=by have:=box_lt bR;omega
 simp [netVal,dNet_val,VM.look,bR,qn,gR,hF]
 exact hM
theorem sBreakCh_d {v:NetV} {x:NetD} {c:Int} (o:dNet.Ow H v x) :
 wp (vcall C frz 17 [dNet.val v x,.int .i64 c] H) (Made2 dNet H (brk x c) (decide (brkOk x c))):=by
 have ones:=dNet_one o
 have oo:=fun (K:Heap) (ch:Chg H K [])=>Dt.chg (T:=dNet) o ch (by simp)
 have ii:=fun F K (ch:Chg H K [])=>sIsIdle_d (frz:=F) (H:=K) (v:=v) (x:=x) (oo K ch)
 have ecopy:=fun K (ch:Chg H K [])=>l15Copy_d (frz:=H.length) (H:=K) (v:=v) (x:=x) (oo K ch)
 simp only [dNet_val] at ii ecopy ⊢
 rw [vcall_go (fn:=Tryz.f17) Tryz.func17 rfl (by kernel_rfl) rfl]
 have key:∀(y:NetD) (n:NetV) (K K0:Heap) (ok:Bool),dNet.Ow K n y→Chg H K0 []→Chg K0 K []→H.length+1<K0.length→K0[H.length+1]? = some ⟨[.int .i64 0,.int .i64 0,.slice none 0 0,.slice none 0 0,.slice none 0 0,.slice none 0 0,.slice none 0 0,.slice none 0 0,.slice none 0 0,.slice none 0 0,.int .i64 0],0,46⟩→(∀i∈dNet.ids n,K0.length≤i)→(dNet.ids n).Nodup→brk x c=y→decide (brkOk x c)=ok→
  K[H.length+1]? = some ⟨[.int .i64 0,.int .i64 0,.slice none 0 0,.slice none 0 0,.slice none 0 0,.slice none 0 0,.slice none 0 0,.slice none 0 0,.slice none 0 0,.slice none 0 0,.int .i64 0],0,46⟩∧Made2 dNet H (brk x c) (decide (brkOk x c)) (.tuple #[dNet.val n y,.bool ok]) (K.set (H.length+1) ⟨[.int .i64 y.1.1,.int .i64 y.1.2.1,n.1,n.2.1.1,n.2.1.2,n.2.2.1.1,n.2.2.2.1,n.2.2.2.2.1,n.2.2.2.2.2.1.1,n.2.2.2.2.2.2.1.1,.int .i64 y.2.2.2.2.2.2.2],0,46⟩):=by
  intro y n K K0 ok on c0 ck hlt hz mn dn e1 e2
  have bR:K[H.length+1]? = some ⟨[.int .i64 0,.int .i64 0,.slice none 0 0,.slice none 0 0,.slice none 0 0,.slice none 0 0,.slice none 0 0,.slice none 0 0,.slice none 0 0,.slice none 0 0,.int .i64 0],0,46⟩:=box_chg hz ck (by simp)
  refine ⟨bR,dNet.val n y,by rw [e2],n,by rw [e1],?_,?_,fun i hi=>by have:=mn i hi;omega,dn⟩
  ·rw [e1];exact Dt.chg (T:=dNet) on (chg_set _ _) (fun i hi hh=>by have:=mn i hi;simp at hh;omega)
  ·exact (c0.trans ck).trans' (chg_set _ _) (fun i hi=>.inr (by simp at hi;omega))
 have fail:¬brkOk x c→brk x c=x∧decide (brkOk x c)=false:=fun hh=>⟨if_neg hh,decide_eq_false hh⟩
 have bad:∀(K0:Heap),Chg H K0 []→H.length+1<K0.length→K0[H.length+1]? = some ⟨[.int .i64 0,.int .i64 0,.slice none 0 0,.slice none 0 0,.slice none 0 0,.slice none 0 0,.slice none 0 0,.slice none 0 0,.slice none 0 0,.slice none 0 0,.int .i64 0],0,46⟩→¬brkOk x c→∀r K,dNet.Made K0 x r K→∃n,r=netVal n x∧dNet.Ow K n x∧K[H.length+1]? = some ⟨[.int .i64 0,.int .i64 0,.slice none 0 0,.slice none 0 0,.slice none 0 0,.slice none 0 0,.slice none 0 0,.slice none 0 0,.slice none 0 0,.slice none 0 0,.int .i64 0],0,46⟩∧Made2 dNet H (brk x c) (decide (brkOk x c)) (.tuple #[dNet.val n x,.bool false]) (K.set (H.length+1) ⟨[.int .i64 x.1.1,.int .i64 x.1.2.1,n.1,n.2.1.1,n.2.1.2,n.2.2.1.1,n.2.2.2.1,n.2.2.2.2.1,n.2.2.2.2.2.1.1,n.2.2.2.2.2.2.1.1,.int .i64 x.2.2.2.2.2.2.2],0,46⟩):=by
  intro K0 c0 hlt hz hb r K hm
  obtain ⟨n,rfl,on,cn,mn,dn⟩:=hm
  obtain ⟨f1,f2⟩:=fail hb
  obtain ⟨k1,k2⟩:=key x n K K0 false on c0 cn hlt hz mn dn f1 f2
  exact ⟨n,rfl,on,k1,k2⟩
 obtain ⟨G,hG⟩:∃G,G=H++[⟨[.int .i64 x.1.1,.int .i64 x.1.2.1,v.1,v.2.1.1,v.2.1.2,v.2.2.1.1,v.2.2.2.1,v.2.2.2.2.1,v.2.2.2.2.2.1.1,v.2.2.2.2.2.2.1.1,.int .i64 x.2.2.2.2.2.2.2],0,46⟩,⟨[.int .i64 0,.int .i64 0,.slice none 0 0,.slice none 0 0,.slice none 0 0,.slice none 0 0,.slice none 0 0,.slice none 0 0,.slice none 0 0,.slice none 0 0,.int .i64 0],0,46⟩]:=⟨_,rfl⟩
 have cG:Chg H G []:=by rw [hG];exact Chg.app _
 have b0:G[H.length]? = some ⟨[.int .i64 x.1.1,.int .i64 x.1.2.1,v.1,v.2.1.1,v.2.1.2,v.2.2.1.1,v.2.2.2.1,v.2.2.2.2.1,v.2.2.2.2.2.1.1,v.2.2.2.2.2.2.1.1,.int .i64 x.2.2.2.2.2.2.2],0,46⟩:=by rw [hG];simp
 have b1:G[H.length+1]? = some ⟨[.int .i64 0,.int .i64 0,.slice none 0 0,.slice none 0 0,.slice none 0 0,.slice none 0 0,.slice none 0 0,.slice none 0 0,.slice none 0 0,.slice none 0 0,.int .i64 0],0,46⟩:=by rw [hG];simp
 have hlG:G.length=H.length+2:=by rw [hG];simp
 simp [ones]
 rw [← hG]
 clear hG
 have ii':=fun F=>ii F G cG
 have ffail:∀K3,Chg G K3 []→¬brkOk x c→wp (vcall C H.length 44 [netVal v x] K3) (fun r K=>∃n,r=netVal n x∧dNet.Ow K n x∧K[H.length+1]? = some ⟨[.int .i64 0,.int .i64 0,.slice none 0 0,.slice none 0 0,.slice none 0 0,.slice none 0 0,.slice none 0 0,.slice none 0 0,.slice none 0 0,.slice none 0 0,.int .i64 0],0,46⟩∧Made2 dNet H (brk x c) (decide (brkOk x c)) (.tuple #[dNet.val n x,.bool false]) (K.set (H.length+1) ⟨[.int .i64 x.1.1,.int .i64 x.1.2.1,n.1,n.2.1.1,n.2.1.2,n.2.2.1.1,n.2.2.2.1,n.2.2.2.2.1,n.2.2.2.2.2.1.1,n.2.2.2.2.2.2.1.1,.int .i64 x.2.2.2.2.2.2.2],0,46⟩)):=fun K3 cG3 hb=>(ecopy K3 (cG.trans cG3)).mono (fun r K hm=>bad K3 (cG.trans cG3) (by have:=cG3.1;omega) (box_chg b1 cG3 (by simp)) hb r K hm)
 unfold netVal at ffail
 simp [VM.look,b0,ones,ii']
 by_cases g0:idleOk x
 rotate_left
 ·simp [g0,VM.look,b0,ones]
  refine wp_thn (ffail G (Chg.refl _) (fun k=>g0 k.1)) ?_
  rintro r K ⟨n,rfl,on,bR,hM⟩
  have qn:=dNet_one on
  have gR:=set_get (r':=⟨[.int .i64 x.1.1,.int .i64 x.1.2.1,n.1,n.2.1.1,n.2.1.2,n.2.2.1.1,n.2.2.2.1,n.2.2.2.2.1,n.2.2.2.2.2.1.1,n.2.2.2.2.2.2.1.1,.int .i64 x.2.2.2.2.2.2.2],0,46⟩) bR
  have hF:H.length≤K.length:=by have:=box_lt bR;omega
  simp [netVal,dNet_val,VM.look,bR,qn,gR,hF]
  exact hM
 simp [g0,VM.look,b0,ones]
 refine wp_thn (sWithBroken_d (c:=c) (oo G cG).1) ?_
 rintro _ K1 ⟨_,rfl,vm,rfl,om,cm,mm,dm⟩
 have c1:Chg H K1 []:=cG.trans cm
 have b01:=box_chg b0 cm (by simp)
 have b11:=box_chg b1 cm (by simp)
 have hl1:=cm.1
 have onem:=dMesh_one om
 obtain ⟨B,hB⟩:∃B,B=withBroken x.1.1 x.1.2.1 x.1.2.2 c:=⟨_,rfl⟩
 rw [← hB] at om
 have hl1':H.length≤K1.length:=c1.1
 simp [dMesh_val,onem,VM.look,hl1']
 obtain ⟨K1',hK1⟩:∃K,K=K1++[⟨[.int .i64 x.1.1,.int .i64 x.1.2.1,vm],0,40⟩]:=⟨_,rfl⟩
 have c1':Chg K1 K1' []:=by rw [hK1];exact Chg.app _
 have bm:K1'[K1.length]? = some ⟨[.int .i64 x.1.1,.int .i64 x.1.2.1,vm],0,40⟩:=by rw [hK1];simp
 have b01':=box_chg b01 c1' (by simp)
 have om1:=Dt.chg (T:=dMesh) om c1' (by simp)
 rw [← hK1]
 by_cases g1:breakOk x.1.1 x.1.2.1 x.1.2.2 c
 rotate_left
 ·simp [g1,VM.look,b01',ones]
  refine wp_thn (ffail K1' (cm.trans c1') (fun k=>g1 k.2.1)) ?_
  rintro r K ⟨n,rfl,on,bR,hM⟩
  have qn:=dNet_one on
  have gR:=set_get (r':=⟨[.int .i64 x.1.1,.int .i64 x.1.2.1,n.1,n.2.1.1,n.2.1.2,n.2.2.1.1,n.2.2.2.1,n.2.2.2.2.1,n.2.2.2.2.2.1.1,n.2.2.2.2.2.2.1.1,.int .i64 x.2.2.2.2.2.2.2],0,46⟩) bR
  have hF:H.length≤K.length:=by have:=box_lt bR;omega
  simp [netVal,dNet_val,VM.look,bR,qn,gR,hF]
  exact hM
 simp [g1,VM.look,bm,onem]
 have hrp:=sRepair_d (frz:=H.length) om1
 refine wp_thn hrp ?_
 rintro _ K2 ⟨_,rfl,vc,rfl,oc,cc,mc,dc⟩
 have onec:=dClasses_one oc
 have hl2:H.length≤K2.length:=Nat.le_trans hl1' (Nat.le_trans c1'.1 cc.1)
 simp [dClasses_val,onec,VM.look,hl2]
 obtain ⟨K3,hK3⟩:∃K,K=K2++[⟨[vc.1,vc.2],0,43⟩]:=⟨_,rfl⟩
 have c3':Chg K2 K3 []:=by rw [hK3];exact Chg.app _
 have bc:K3[K2.length]? = some ⟨[vc.1,vc.2],0,43⟩:=by rw [hK3];simp
 rw [← hK3]
 have c13:Chg K1' K3 []:=cc.trans c3'
 have cG3:Chg G K3 []:=(cm.trans c1').trans c13
 have c3:Chg H K3 []:=cG.trans cG3
 have b03:=box_chg b0 cG3 (by simp)
 have b13:=box_chg b1 cG3 (by simp)
 have bm3:=box_chg bm c13 (by simp)
 have om3:=Dt.chg (T:=dMesh) om1 c13 (by simp)
 have oc3:=Dt.chg (T:=dClasses) oc c3' (by simp)
 have hl3:H.length+1<K3.length:=box_lt b13
 by_cases g2:repairOk x.1.1 x.1.2.1 B=true
 rotate_left
 ·simp [g2,VM.look,b03,ones]
  refine wp_thn (ffail K3 cG3 (fun k=>g2 (by rw [hB];exact k.2.2))) ?_
  rintro r K ⟨n,rfl,on,bR,hM⟩
  have qn:=dNet_one on
  have gR:=set_get (r':=⟨[.int .i64 x.1.1,.int .i64 x.1.2.1,n.1,n.2.1.1,n.2.1.2,n.2.2.1.1,n.2.2.2.1,n.2.2.2.2.1,n.2.2.2.2.2.1.1,n.2.2.2.2.2.2.1.1,.int .i64 x.2.2.2.2.2.2.2],0,46⟩) bR
  have hF:H.length≤K.length:=by have:=box_lt bR;omega
  simp [netVal,dNet_val,VM.look,bR,qn,gR,hF]
  exact hM
 simp [g2,VM.look,b03,ones,bm3,bc,onem,onec]
 have hok:brkOk x c:=⟨g0,g1,by rw [← hB];exact g2⟩
 have hbr:brk x c=fresh x (x.1.1,x.1.2.1,B) (repair x.1.1 x.1.2.1 B):=by rw [hB];exact if_pos hok
 refine wp_thn (l34Fresh_d (frz:=H.length) (oo K3 c3) om3 oc3) ?_
 rintro _ K ⟨n,rfl,on,cn,mn,dn⟩
 obtain ⟨bR,hM⟩:=key _ n K K3 true on c3 cn hl3 b13 mn dn hbr (decide_eq_true hok)
 generalize fresh x (x.1.1,x.1.2.1,B) (repair x.1.1 x.1.2.1 B)=y at *
 have qn:=dNet_one on
 have gR:=set_get (r':=⟨[.int .i64 y.1.1,.int .i64 y.1.2.1,n.1,n.2.1.1,n.2.1.2,n.2.2.1.1,n.2.2.2.1,n.2.2.2.2.1,n.2.2.2.2.2.1.1,n.2.2.2.2.2.2.1.1,.int .i64 y.2.2.2.2.2.2.2],0,46⟩) bR
 have hF:H.length≤K.length:=by have:=box_lt bR;omega
 simp [netVal,dNet_val,VM.look,bR,qn,gR,hF]
 exact hM
def replOk (x:NetD) (t:ClassesD):Prop:=idleOk x∧classesOk x.1.1 x.1.2.1 x.1.2.2 t.1 t.2
instance (x:NetD) (t:ClassesD):Decidable (replOk x t):=inferInstanceAs (Decidable (_∧_))
def repl (x:NetD) (t:ClassesD):NetD:=if replOk x t then fresh x x.1 t else x
theorem replace_d {v:NetV} {x:NetD} {vc:Value×Value} {t:ClassesD} (o:dNet.Ow H v x) (oc:dClasses.Ow H vc t) :
 wp (vcall C frz 180 [dNet.val v x,dClasses.val vc t] H) (Made2 dNet H (repl x t) (decide (replOk x t))):=by
 have ones:=dNet_one o
 have onec:=dClasses_one oc
 have ii:=fun F L=>isIdle_d (frz:=F) (H:=H++L) (v:=v) (x:=x) (Dt.app (T:=dNet) o)
 have ck:=fun F L=>classesOk_c (frz:=F) (H:=H++L) x.1.1 x.1.2.1 v.1 vc.1 vc.2 x.1.2.2 t.1 t.2 (Rd.isI o.1.1.rd.app) (Rd.isI oc.1.1.rd.app) (Rd.isI oc.2.1.rd.app) o.1.2
 have ecopy:=fun L=>copyNet_d (frz:=H.length) (H:=H++L) (v:=v) (x:=x) (Dt.app (T:=dNet) o)
 have efresh:=fun L=>replaced_d (frz:=H.length) (H:=H++L) (v:=v) (x:=x) (vm:=v.1) (w':=x.1.1) (h':=x.1.2.1) (b':=x.1.2.2) (vc:=vc) (c':=t) (Dt.app (T:=dNet) o) (Dt.app (T:=dMesh) o.1) (Dt.app (T:=dClasses) oc)
 simp only [dNet_val,dClasses_val] at ii ecopy efresh ⊢
 rw [vcall_go (fn:=Tryz.f180) Tryz.func180 rfl (by kernel_rfl) rfl]
 have hF:H.length≤H.length+2:=by omega
 have key:∀(y:NetD) (n:NetV) (K:Heap) (ok:Bool),dNet.Ow K n y→Chg (H++[⟨[.int .i64 x.1.1,.int .i64 x.1.2.1,v.1,v.2.1.1,v.2.1.2,v.2.2.1.1,v.2.2.2.1,v.2.2.2.2.1,v.2.2.2.2.2.1.1,v.2.2.2.2.2.2.1.1,.int .i64 x.2.2.2.2.2.2.2],0,46⟩,⟨[vc.1,vc.2],0,43⟩,⟨[.int .i64 0,.int .i64 0,.slice none 0 0,.slice none 0 0,.slice none 0 0,.slice none 0 0,.slice none 0 0,.slice none 0 0,.slice none 0 0,.slice none 0 0,.int .i64 0],0,46⟩]) K []→(∀i∈dNet.ids n,H.length+3≤i)→(dNet.ids n).Nodup→repl x t=y→decide (replOk x t)=ok→
  K[H.length+2]? = some ⟨[.int .i64 0,.int .i64 0,.slice none 0 0,.slice none 0 0,.slice none 0 0,.slice none 0 0,.slice none 0 0,.slice none 0 0,.slice none 0 0,.slice none 0 0,.int .i64 0],0,46⟩∧Made2 dNet H (repl x t) (decide (replOk x t)) (.tuple #[dNet.val n y,.bool ok]) (K.set (H.length+2) ⟨[.int .i64 y.1.1,.int .i64 y.1.2.1,n.1,n.2.1.1,n.2.1.2,n.2.2.1.1,n.2.2.2.1,n.2.2.2.2.1,n.2.2.2.2.2.1.1,n.2.2.2.2.2.2.1.1,.int .i64 y.2.2.2.2.2.2.2],0,46⟩):=by
  intro y n K ok on ck mn dn e1 e2
  have bR:K[H.length+2]? = some ⟨[.int .i64 0,.int .i64 0,.slice none 0 0,.slice none 0 0,.slice none 0 0,.slice none 0 0,.slice none 0 0,.slice none 0 0,.slice none 0 0,.slice none 0 0,.int .i64 0],0,46⟩:=box_chg (by simp) ck (by simp)
  refine ⟨bR,dNet.val n y,by rw [e2],n,by rw [e1],?_,?_,fun i hi=>by have:=mn i hi;omega,dn⟩
  ·rw [e1];exact Dt.chg (T:=dNet) on (chg_set _ _) (fun i hi hh=>by have:=mn i hi;simp at hh;omega)
  ·exact ((Chg.app []).trans ck).trans' (chg_set _ _) (fun i hi=>.inr (by simp at hi;omega))
 have fail:¬replOk x t→repl x t=x∧decide (replOk x t)=false:=fun hh=>⟨if_neg hh,decide_eq_false hh⟩
 simp [ones,onec,ii]
 by_cases g1:idleOk x
 rotate_left
 ·simp [g1,ones,onec]
  refine wp_thn (ecopy _) ?_
  rintro _ K ⟨n,rfl,on,cn,mn,dn⟩
  obtain ⟨f1,f2⟩:=fail (fun k=>g1 k.1)
  simp at mn
  obtain ⟨bR,hm⟩:=key x n K false on cn mn dn f1 f2
  have qn:=dNet_one on
  have gR:=set_get (r':=⟨[.int .i64 x.1.1,.int .i64 x.1.2.1,n.1,n.2.1.1,n.2.1.2,n.2.2.1.1,n.2.2.2.1,n.2.2.2.2.1,n.2.2.2.2.2.1.1,n.2.2.2.2.2.2.1.1,.int .i64 x.2.2.2.2.2.2.2],0,46⟩) bR
  simp [dNet_val,VM.look,bR,qn,gR,hF]
  exact hm
 simp [g1,ones,onec,ck]
 by_cases g2:classesOk x.1.1 x.1.2.1 x.1.2.2 t.1 t.2
 rotate_left
 ·simp [g2,ones,onec]
  refine wp_thn (ecopy _) ?_
  rintro _ K ⟨n,rfl,on,cn,mn,dn⟩
  obtain ⟨f1,f2⟩:=fail (fun k=>g2 k.2)
  simp at mn
  obtain ⟨bR,hm⟩:=key x n K false on cn mn dn f1 f2
  have qn:=dNet_one on
  have gR:=set_get (r':=⟨[.int .i64 x.1.1,.int .i64 x.1.2.1,n.1,n.2.1.1,n.2.1.2,n.2.2.1.1,n.2.2.2.1,n.2.2.2.2.1,n.2.2.2.2.2.1.1,n.2.2.2.2.2.2.1.1,.int .i64 x.2.2.2.2.2.2.2],0,46⟩) bR
  simp [dNet_val,VM.look,bR,qn,gR,hF]
  exact hm
 simp [g2,ones,onec]
 refine wp_thn (efresh _) ?_
 rintro _ K ⟨n,rfl,on,cn,mn,dn⟩
 simp at mn
 have e1:repl x t=fresh x (x.1.1,x.1.2.1,x.1.2.2) t:=if_pos ⟨g1,g2⟩
 obtain ⟨bR,hm⟩:=key _ n K true on cn mn dn e1 (decide_eq_true ⟨g1,g2⟩)
 have qn:=dNet_one on
 have gR:=set_get (r':=⟨[.int .i64 (fresh x (x.1.1,x.1.2.1,x.1.2.2) t).1.1,.int .i64 (fresh x (x.1.1,x.1.2.1,x.1.2.2) t).1.2.1,n.1,n.2.1.1,n.2.1.2,n.2.2.1.1,n.2.2.2.1,n.2.2.2.2.1,n.2.2.2.2.2.1.1,n.2.2.2.2.2.2.1.1,.int .i64 (fresh x (x.1.1,x.1.2.1,x.1.2.2) t).2.2.2.2.2.2.2],0,46⟩) bR
 simp [dNet_val,VM.look,bR,qn,gR,hF]
 exact hm
theorem sReplace_d {v:NetV} {x:NetD} {vc:Value×Value} {t:ClassesD} (o:dNet.Ow H v x) (oc:dClasses.Ow H vc t) :
 wp (vcall C frz 75 [dNet.val v x,dClasses.val vc t] H) (Made2 dNet H (repl x t) (decide (replOk x t))):=by
 have ones:=dNet_one o
 have onec:=dClasses_one oc
 have ii:=fun F L=>sIsIdle_d (frz:=F) (H:=H++L) (v:=v) (x:=x) (Dt.app (T:=dNet) o)
 have ck:=fun F L=>sClassesOk_c (frz:=F) (H:=H++L) x.1.1 x.1.2.1 v.1 vc.1 vc.2 x.1.2.2 t.1 t.2 (Rd.isI o.1.1.rd.app) (Rd.isI oc.1.1.rd.app) (Rd.isI oc.2.1.rd.app) o.1.2
 have ecopy:=fun L=>l15Copy_d (frz:=H.length) (H:=H++L) (v:=v) (x:=x) (Dt.app (T:=dNet) o)
 have efresh:=fun L=>l34Fresh_d (frz:=H.length) (H:=H++L) (v:=v) (x:=x) (vm:=v.1) (w':=x.1.1) (h':=x.1.2.1) (b':=x.1.2.2) (vc:=vc) (c':=t) (Dt.app (T:=dNet) o) (Dt.app (T:=dMesh) o.1) (Dt.app (T:=dClasses) oc)
 simp only [dNet_val,dClasses_val] at ii ecopy efresh ⊢
 rw [vcall_go (fn:=Tryz.f75) Tryz.func75 rfl (by kernel_rfl) rfl]
 have hF:H.length≤H.length+2:=by omega
 have key:∀(y:NetD) (n:NetV) (K:Heap) (ok:Bool),dNet.Ow K n y→Chg (H++[⟨[.int .i64 x.1.1,.int .i64 x.1.2.1,v.1,v.2.1.1,v.2.1.2,v.2.2.1.1,v.2.2.2.1,v.2.2.2.2.1,v.2.2.2.2.2.1.1,v.2.2.2.2.2.2.1.1,.int .i64 x.2.2.2.2.2.2.2],0,46⟩,⟨[vc.1,vc.2],0,43⟩,⟨[.int .i64 0,.int .i64 0,.slice none 0 0,.slice none 0 0,.slice none 0 0,.slice none 0 0,.slice none 0 0,.slice none 0 0,.slice none 0 0,.slice none 0 0,.int .i64 0],0,46⟩]) K []→(∀i∈dNet.ids n,H.length+3≤i)→(dNet.ids n).Nodup→repl x t=y→decide (replOk x t)=ok→
  K[H.length+2]? = some ⟨[.int .i64 0,.int .i64 0,.slice none 0 0,.slice none 0 0,.slice none 0 0,.slice none 0 0,.slice none 0 0,.slice none 0 0,.slice none 0 0,.slice none 0 0,.int .i64 0],0,46⟩∧Made2 dNet H (repl x t) (decide (replOk x t)) (.tuple #[dNet.val n y,.bool ok]) (K.set (H.length+2) ⟨[.int .i64 y.1.1,.int .i64 y.1.2.1,n.1,n.2.1.1,n.2.1.2,n.2.2.1.1,n.2.2.2.1,n.2.2.2.2.1,n.2.2.2.2.2.1.1,n.2.2.2.2.2.2.1.1,.int .i64 y.2.2.2.2.2.2.2],0,46⟩):=by
  intro y n K ok on ck mn dn e1 e2
  have bR:K[H.length+2]? = some ⟨[.int .i64 0,.int .i64 0,.slice none 0 0,.slice none 0 0,.slice none 0 0,.slice none 0 0,.slice none 0 0,.slice none 0 0,.slice none 0 0,.slice none 0 0,.int .i64 0],0,46⟩:=box_chg (by simp) ck (by simp)
  refine ⟨bR,dNet.val n y,by rw [e2],n,by rw [e1],?_,?_,fun i hi=>by have:=mn i hi;omega,dn⟩
  ·rw [e1];exact Dt.chg (T:=dNet) on (chg_set _ _) (fun i hi hh=>by have:=mn i hi;simp at hh;omega)
  ·exact ((Chg.app []).trans ck).trans' (chg_set _ _) (fun i hi=>.inr (by simp at hi;omega))
 have fail:¬replOk x t→repl x t=x∧decide (replOk x t)=false:=fun hh=>⟨if_neg hh,decide_eq_false hh⟩
 simp [ones,onec,ii]
 by_cases g1:idleOk x
 rotate_left
 ·simp [g1,ones,onec]
  refine wp_thn (ecopy _) ?_
  rintro _ K ⟨n,rfl,on,cn,mn,dn⟩
  obtain ⟨f1,f2⟩:=fail (fun k=>g1 k.1)
  simp at mn
  obtain ⟨bR,hm⟩:=key x n K false on cn mn dn f1 f2
  have qn:=dNet_one on
  have gR:=set_get (r':=⟨[.int .i64 x.1.1,.int .i64 x.1.2.1,n.1,n.2.1.1,n.2.1.2,n.2.2.1.1,n.2.2.2.1,n.2.2.2.2.1,n.2.2.2.2.2.1.1,n.2.2.2.2.2.2.1.1,.int .i64 x.2.2.2.2.2.2.2],0,46⟩) bR
  simp [dNet_val,VM.look,bR,qn,gR,hF]
  exact hm
 simp [g1,ones,onec,ck]
 by_cases g2:classesOk x.1.1 x.1.2.1 x.1.2.2 t.1 t.2
 rotate_left
 ·simp [g2,ones,onec]
  refine wp_thn (ecopy _) ?_
  rintro _ K ⟨n,rfl,on,cn,mn,dn⟩
  obtain ⟨f1,f2⟩:=fail (fun k=>g2 k.2)
  simp at mn
  obtain ⟨bR,hm⟩:=key x n K false on cn mn dn f1 f2
  have qn:=dNet_one on
  have gR:=set_get (r':=⟨[.int .i64 x.1.1,.int .i64 x.1.2.1,n.1,n.2.1.1,n.2.1.2,n.2.2.1.1,n.2.2.2.1,n.2.2.2.2.1,n.2.2.2.2.2.1.1,n.2.2.2.2.2.2.1.1,.int .i64 x.2.2.2.2.2.2.2],0,46⟩) bR
  simp [dNet_val,VM.look,bR,qn,gR,hF]
  exact hm
 simp [g2,ones,onec]
 refine wp_thn (efresh _) ?_
 rintro _ K ⟨n,rfl,on,cn,mn,dn⟩
 simp at mn
 have e1:repl x t=fresh x (x.1.1,x.1.2.1,x.1.2.2) t:=if_pos ⟨g1,g2⟩
 obtain ⟨bR,hm⟩:=key _ n K true on cn mn dn e1 (decide_eq_true ⟨g1,g2⟩)
 have qn:=dNet_one on
 have gR:=set_get (r':=⟨[.int .i64 (fresh x (x.1.1,x.1.2.1,x.1.2.2) t).1.1,.int .i64 (fresh x (x.1.1,x.1.2.1,x.1.2.2) t).1.2.1,n.1,n.2.1.1,n.2.1.2,n.2.2.1.1,n.2.2.2.1,n.2.2.2.2.1,n.2.2.2.2.2.1.1,n.2.2.2.2.2.2.1.1,.int .i64 (fresh x (x.1.1,x.1.2.1,x.1.2.2) t).2.2.2.2.2.2.2],0,46⟩) bR
 simp [dNet_val,VM.look,bR,qn,gR,hF]
 exact hm
def sendsOk (a:ChipD) (p:PkD):Prop:=chipOk a∧a.2.length≠200∧sendOk a.1 p
instance (a:ChipD) (p:PkD):Decidable (sendsOk a p):=inferInstanceAs (Decidable (_∧_))
def nextP (a:ChipD) (q2 q3 q4 q5:Int):PkD:=((a.2.length:Int)+1,q2,q3,q4,q5)
def chipSend (a:ChipD) (q2 q3 q4 q5:Int):ChipD:=if sendsOk a (nextP a q2 q3 q4 q5) then (sendNet a.1 (nextP a q2 q3 q4 q5),a.2++[nextP a q2 q3 q4 q5]) else a
theorem chip_made {K:Heap} {n:ChipV} {y:ChipD} {ok:Bool} {id:Nat} {r:Row} {a:ChipD} {q2 q3 q4 q5:Int} (hid:id=H.length+1) (o:dChip.Ow K n y) (c:Chg H K []) (m:∀i∈dChip.ids n,H.length+2≤i) (d:(dChip.ids n).Nodup) (e1:chipSend a q2 q3 q4 q5=y) (e2:decide (sendsOk a (nextP a q2 q3 q4 q5))=ok) :
 Made2 dChip H (chipSend a q2 q3 q4 q5) (decide (sendsOk a (nextP a q2 q3 q4 q5))) (.tuple #[dChip.val n y,.bool ok]) (K.set id r):=by
 subst hid
 refine ⟨dChip.val n y,by rw [e2],n,by rw [e1],?_,c.trans' (chg_set _ _) (fun i hi=>.inr (by simp at hi;omega)),fun i hi=>by have:=m i hi;omega,d⟩
 rw [e1];exact Dt.chg (T:=dChip) o (chg_set _ _) (fun i hi hh=>by have:=m i hi;simp at hh;omega)
theorem chipSend_d {v:ChipV} {a:ChipD} {q2 q3 q4 q5:Int} (o:dChip.Ow H v a) :
 wp (vcall C frz 10 [dChip.val v a,.int .i64 q2,.int .i64 q3,.int .i64 q4,.int .i64 q5] H) (Made2 dChip H (chipSend a q2 q3 q4 q5) (decide (sendsOk a (nextP a q2 q3 q4 q5)))):=by
 have oneA:=dChip_one o
 have ones:=oneA.1
 have one2:=oneA.2
 have ecopy:=fun K (c:Chg H K [])=>copyChip_d (frz:=H.length) (H:=K) (v:=v) (a:=a) (Dt.chg (T:=dChip) o c (by simp))
 have ck:=fun F K (c:Chg H K [])=>chipOk_d (frz:=F) (H:=K) (v:=v) (a:=a) (Dt.chg (T:=dChip) o c (by simp))
 have esend:=fun (K:Heap) id nv tail hr on nd hf hid hN hs=>send_w (frz:=H.length) (H:=K) (v:=nv) (x:=a.1) (p:=nextP a q2 q3 q4 q5) (id:=id) (e:=49) (tail:=tail) hr on nd hf hid hN hs
 have hlen:=o.2.2
 have e0:=@w6 ((a.2.length:Int)+1) (by omega)
 unfold pkV nextP at esend
 simp only at esend
 simp only [dChip_val] at ecopy ck ⊢
 rw [vcall_go (fn:=Tryz.f10) Tryz.func10 rfl (by kernel_rfl) rfl]
 obtain ⟨G,hG⟩:∃G,G=H++[⟨[.int .i64 a.1.1.1,.int .i64 a.1.1.2.1,v.1.1,v.1.2.1.1,v.1.2.1.2,v.1.2.2.1.1,v.1.2.2.2.1,v.1.2.2.2.2.1,v.1.2.2.2.2.2.1.1,v.1.2.2.2.2.2.2.1.1,.int .i64 a.1.2.2.2.2.2.2.2,v.2],0,49⟩,⟨[.int .i64 0,.int .i64 0,.slice none 0 0,.slice none 0 0,.slice none 0 0,.slice none 0 0,.slice none 0 0,.slice none 0 0,.slice none 0 0,.slice none 0 0,.int .i64 0,.slice none 0 0],0,49⟩]:=⟨_,rfl⟩
 have cG:Chg H G []:=by rw [hG];exact Chg.app _
 have b0:G[H.length]? = some ⟨[.int .i64 a.1.1.1,.int .i64 a.1.1.2.1,v.1.1,v.1.2.1.1,v.1.2.1.2,v.1.2.2.1.1,v.1.2.2.2.1,v.1.2.2.2.2.1,v.1.2.2.2.2.2.1.1,v.1.2.2.2.2.2.2.1.1,.int .i64 a.1.2.2.2.2.2.2.2,v.2],0,49⟩:=by rw [hG];simp
 have bR:G[H.length+1]? = some ⟨[.int .i64 0,.int .i64 0,.slice none 0 0,.slice none 0 0,.slice none 0 0,.slice none 0 0,.slice none 0 0,.slice none 0 0,.slice none 0 0,.slice none 0 0,.int .i64 0,.slice none 0 0],0,49⟩:=by rw [hG];simp
 have lG:G.length=H.length+2:=by rw [hG];simp
 simp [ones,one2]
 rw [← hG]
 clear hG
 have liv:=fun K (c:Chg H K [])=>Ow_live (o.2.1.chg c (by simp))
 have lp:=fun K (c:Chg H K [])=>(o.2.1.rd.chg c (by simp)).len (P:=Tryz.prog) (ty:=47) (by simp)
 rw [go_drawF (fl:=[3]) (h:=⟨by kernel_rfl,by kernel_rfl,by kernel_rfl,by kernel_rfl⟩)]
 simp [emps,empOp,empB,VM.look,b0,ones,one2]
 refine wp_thnW (ecopy G cG) ?_
 rintro _ K ⟨n,rfl,on,cn,mn,dn⟩
 refine ⟨by simp,?_⟩
 have cK:Chg H K []:=cG.trans cn
 have b0:=box_chg b0 cn (by simp)
 have bR:=box_chg bR cn (by simp)
 have oneN:=dChip_one on
 have qn:=oneN.1
 have qn2:=oneN.2
 have livK:=liv K cK
 have lpK:=lp K cK
 have lK:=cn.1
 have hFK:H.length≤K.length:=by omega
 have hFK1:H.length≤K.length+1:=by omega
 have bA:=fun L=>get_app' b0 L
 have livA:=fun L=>liv (K++L) (cK.trans (Chg.app _))
 simp [dChip_val,emps,empOp,empB,VM.look,b0,bA,ones,one2,qn,qn2,livK,livA,lpK,e0,hFK,hFK1,List.set_append]
 obtain ⟨K2,hK2⟩:∃K2,K2=K++[⟨[.int .i64 a.1.1.1,.int .i64 a.1.1.2.1,n.1.1,n.1.2.1.1,n.1.2.1.2,n.1.2.2.1.1,n.1.2.2.2.1,n.1.2.2.2.2.1,n.1.2.2.2.2.2.1.1,n.1.2.2.2.2.2.2.1.1,.int .i64 a.1.2.2.2.2.2.2.2,n.2],0,49⟩,⟨[.int .i64 (a.2.length+1:Int),.int .i64 q2,.int .i64 q3,.int .i64 q4,.int .i64 q5],0,76⟩]:=⟨_,rfl⟩
 have e2:K++[⟨[.int .i64 a.1.1.1,.int .i64 a.1.1.2.1,n.1.1,n.1.2.1.1,n.1.2.1.2,n.1.2.2.1.1,n.1.2.2.2.1,n.1.2.2.2.2.1,n.1.2.2.2.2.2.1.1,n.1.2.2.2.2.2.2.1.1,.int .i64 a.1.2.2.2.2.2.2.2,n.2],0,49⟩,⟨[.int .i64 (a.2.length+1:Int),.int .i64 q2,.int .i64 q3,.int .i64 q4,.int .i64 q5],0,76⟩]=K2:=hK2.symm
 rw [e2]
 have c12:Chg K K2 []:=by rw [hK2];exact Chg.app _
 have cK2:=cK.trans c12
 have l2:K2.length=K.length+2:=by rw [hK2];simp
 have b0:=box_chg b0 c12 (by simp)
 have bR:=box_chg bR c12 (by simp)
 have bC:K2[K.length]? = some ⟨[.int .i64 a.1.1.1,.int .i64 a.1.1.2.1,n.1.1,n.1.2.1.1,n.1.2.1.2,n.1.2.2.1.1,n.1.2.2.2.1,n.1.2.2.2.2.1,n.1.2.2.2.2.2.1.1,n.1.2.2.2.2.2.2.1.1,.int .i64 a.1.2.2.2.2.2.2.2,n.2],0,49⟩:=by rw [hK2];simp
 have bP:K2[K.length+1]? = some ⟨[.int .i64 (a.2.length+1:Int),.int .i64 q2,.int .i64 q3,.int .i64 q4,.int .i64 q5],0,76⟩:=by rw [hK2];simp
 have on2:=Dt.chg (T:=dChip) on c12 (by simp)
 clear hK2 e2
 have hF:H.length≤H.length+1:=by omega
 have ff:∀K3,Chg H K3 []→K3[H.length+1]? = some ⟨[.int .i64 0,.int .i64 0,.slice none 0 0,.slice none 0 0,.slice none 0 0,.slice none 0 0,.slice none 0 0,.slice none 0 0,.slice none 0 0,.slice none 0 0,.int .i64 0,.slice none 0 0],0,49⟩→¬sendsOk a (nextP a q2 q3 q4 q5)→wp (vcall C H.length 31 [.agg #[.int .i64 a.1.1.1,.int .i64 a.1.1.2.1,v.1.1,v.1.2.1.1,v.1.2.1.2,v.1.2.2.1.1,v.1.2.2.2.1,v.1.2.2.2.2.1,v.1.2.2.2.2.2.1.1,v.1.2.2.2.2.2.2.1.1,.int .i64 a.1.2.2.2.2.2.2.2,v.2]] K3) (fun r K=>∃n:ChipV,r=dChip.val n a∧dChip.Ow K n a∧K[H.length+1]? = some ⟨[.int .i64 0,.int .i64 0,.slice none 0 0,.slice none 0 0,.slice none 0 0,.slice none 0 0,.slice none 0 0,.slice none 0 0,.slice none 0 0,.slice none 0 0,.int .i64 0,.slice none 0 0],0,49⟩∧Made2 dChip H (chipSend a q2 q3 q4 q5) (decide (sendsOk a (nextP a q2 q3 q4 q5))) (.tuple #[dChip.val n a,.bool false]) (K.set (H.length+1) ⟨[.int .i64 a.1.1.1,.int .i64 a.1.1.2.1,n.1.1,n.1.2.1.1,n.1.2.1.2,n.1.2.2.1.1,n.1.2.2.2.1,n.1.2.2.2.2.1,n.1.2.2.2.2.2.1.1,n.1.2.2.2.2.2.2.1.1,.int .i64 a.1.2.2.2.2.2.2.2,n.2],0,49⟩)):=by
  intro K3 c3 b3 hb
  refine (ecopy K3 c3).mono ?_
  rintro _ K ⟨n,rfl,on,cn,mn,dn⟩
  have h9:=box_lt b3
  exact ⟨n,rfl,on,box_chg b3 cn (by simp),chip_made rfl on (c3.trans cn) (fun i hi=>by have:=mn i hi;omega) dn (if_neg hb) (decide_eq_false hb)⟩
 have ck':=fun F=>ck F K2 cK2
 have lp2:=lp K2 cK2
 by_cases g0:chipOk a
 rotate_left
 ·have hb:¬sendsOk a (nextP a q2 q3 q4 q5):=fun k=>g0 k.1
  simp [VM.look,b0,ones,one2,ck',g0]
  refine wp_thn (ff K2 cK2 bR hb) ?_
  rintro _ K4 ⟨n4,rfl,on4,b4,hM⟩
  have q4a:=dChip_one on4
  have gR:=set_get (r':=⟨[.int .i64 a.1.1.1,.int .i64 a.1.1.2.1,n4.1.1,n4.1.2.1.1,n4.1.2.1.2,n4.1.2.2.1.1,n4.1.2.2.2.1,n4.1.2.2.2.2.1,n4.1.2.2.2.2.2.1.1,n4.1.2.2.2.2.2.2.1.1,.int .i64 a.1.2.2.2.2.2.2.2,n4.2],0,49⟩) b4
  simp [dChip_val,q4a,VM.look,b4,gR,hF]
  simpa [hb,dChip_val] using hM
 by_cases g1:a.2.length=200
 ·have hb:¬sendsOk a (nextP a q2 q3 q4 q5):=fun k=>k.2.1 g1
  have g1':((a.2.length:Int))=200:=by omega
  simp [VM.look,b0,ones,one2,ck',g0,lp2,g1,g1']
  refine wp_thn (ff K2 cK2 bR hb) ?_
  rintro _ K4 ⟨n4,rfl,on4,b4,hM⟩
  have q4a:=dChip_one on4
  have gR:=set_get (r':=⟨[.int .i64 a.1.1.1,.int .i64 a.1.1.2.1,n4.1.1,n4.1.2.1.1,n4.1.2.1.2,n4.1.2.2.1.1,n4.1.2.2.2.1,n4.1.2.2.2.2.1,n4.1.2.2.2.2.2.1.1,n4.1.2.2.2.2.2.2.1.1,.int .i64 a.1.2.2.2.2.2.2.2,n4.2],0,49⟩) b4
  simp [dChip_val,q4a,VM.look,b4,gR,hF]
  simpa [hb,dChip_val] using hM
 have g1':¬((a.2.length:Int))=200:=by omega
 simp [VM.look,b0,bC,bP,ones,one2,ck',g0,lp2,g1,g1']
 have hd:=List.nodup_append.1 dn
 have hm1:∀i∈dNet.ids n.1,H.length+2≤i:=fun i hi=>by have:=mn i (List.mem_append_left _ hi);omega
 have hm2:∀i∈VM.ids n.2,H.length+2≤i:=fun i hi=>by have:=mn i (List.mem_append_right _ hi);omega
 have hl1:∀i∈dNet.ids n.1,i<K.length:=fun i hi=>dNet.lt on.1 i hi
 have hl2:∀i∈VM.ids n.2,i<K.length:=fun i hi=>dPk.lt on.2 i hi
 refine wp_thn (esend K2 K.length n.1 [n.2] bC on2.1 hd.1 (fun i hi=>by have:=hm1 i hi;omega) (fun hh=>by have:=hl1 _ hh;omega) g0.1.2.1.2.2.2.1 (fun l hl=>(g0.1.2.2.2.1 l hl).1)) ?_
 rintro _ K3 ⟨rfl,hps⟩
 by_cases g2:sendOk a.1 (nextP a q2 q3 q4 q5)
 rotate_left
 ·have hb:¬sendsOk a (nextP a q2 q3 q4 q5):=fun k=>g2 k.2.2
  have g2':¬sendOk a.1 ((a.2.length:Int)+1,q2,q3,q4,q5):=g2
  rw [if_neg g2'] at hps
  have b0:=box_chg b0 hps (by simp)
  have bR:=box_chg bR hps (by simp)
  simp [g2',VM.look,b0,ones,one2]
  refine wp_thn (ff K3 (cK2.trans hps) bR hb) ?_
  rintro _ K4 ⟨n4,rfl,on4,b4,hM⟩
  have q4a:=dChip_one on4
  have gR:=set_get (r':=⟨[.int .i64 a.1.1.1,.int .i64 a.1.1.2.1,n4.1.1,n4.1.2.1.1,n4.1.2.1.2,n4.1.2.2.1.1,n4.1.2.2.2.1,n4.1.2.2.2.2.1,n4.1.2.2.2.2.2.1.1,n4.1.2.2.2.2.2.2.1.1,.int .i64 a.1.2.2.2.2.2.2.2,n4.2],0,49⟩) b4
  simp [dChip_val,q4a,VM.look,b4,gR,hF]
  simpa [hb,dChip_val] using hM
 have g2':sendOk a.1 ((a.2.length:Int)+1,q2,q3,q4,q5):=g2
 rw [if_pos g2'] at hps
 obtain ⟨hs',o3,d3,i3,c3⟩:=hps
 have hso:sendsOk a (nextP a q2 q3 q4 q5):=⟨g0,g1,g2⟩
 have insrc:=net_inSrc (n:=n.1)
 have bR:=box_chg bR c3 (fun hh=>by have:=hm1 _ (insrc _ hh);omega)
 have bC:=box_chg bC c3 (fun hh=>by have:=hl1 _ (insrc _ hh);omega)
 have bP:=box_chg bP c3 (fun hh=>by have:=hl1 _ (insrc _ hh);omega)
 have op3:=Dt.chg (T:=dPk) on2.2 c3 (fun i hi hh=>hd.2.2 i (insrc _ hh) i hi rfl)
 obtain ⟨r',K4,hap,o4,c4,n4⟩:=op3.1.push (P:=Tryz.prog) (frz:=H.length) (ty:=47) (a:=((a.2.length:Int)+1,q2,q3,q4,q5)) (by simp) rfl (by have:=g0.2.1;omega) (fun i hi=>by have:=hm2 i hi;omega)
 simp only [pkF_f] at hap
 have bR4:=box_chg bR c4 (fun hh=>by have:=hm2 _ hh;omega)
 have bC4:=box_chg bC c4 (fun hh=>by have:=hl2 _ hh;omega)
 have l3:=c3.1
 have bC3:=fun L=>get_app' bC L
 have bP3:=fun L=>get_app' bP L
 have qr:=And.intro o4.rd.one' o4.rd.cells
 have gC:=set_get (r':=⟨[.int .i64 a.1.1.1,.int .i64 a.1.1.2.1,n.1.1,n.1.2.1.1,n.1.2.1.2,n.1.2.2.1.1,n.1.2.2.2.1,n.1.2.2.2.2.1,n.1.2.2.2.2.2.1.1,n.1.2.2.2.2.2.2.1.1,.int .i64 a.1.2.2.2.2.2.2.2,r'],0,49⟩) bC4
 have eC:Chg K4 (K4.set K.length ⟨[.int .i64 a.1.1.1,.int .i64 a.1.1.2.1,n.1.1,n.1.2.1.1,n.1.2.1.2,n.1.2.2.1.1,n.1.2.2.2.1,n.1.2.2.2.2.1,n.1.2.2.2.2.2.1.1,n.1.2.2.2.2.2.2.1.1,.int .i64 a.1.2.2.2.2.2.2.2,r'],0,49⟩) [K.length]:=chg_set _ _
 have bR5:=box_chg bR4 eC (by simp;omega)
 have gR:=set_get (r':=⟨[.int .i64 a.1.1.1,.int .i64 a.1.1.2.1,n.1.1,n.1.2.1.1,n.1.2.1.2,n.1.2.2.1.1,n.1.2.2.2.1,n.1.2.2.2.2.1,n.1.2.2.2.2.2.1.1,n.1.2.2.2.2.2.2.1.1,.int .i64 a.1.2.2.2.2.2.2.2,r'],0,49⟩) bR5
 have hFK:H.length≤K.length:=by omega
 simp [-vappend_nil,-vappend_mk,g2',VM.look,bC,bC3,bP,bP3,hap,bC4,qr,qn,gC,bR5,gR,hF,hFK]
 have hp1:∀i∈dNet.ids (putSrc n.1 (n.1.2.2.2.2.2.1.1,hs')),H.length+2≤i∧i∉VM.ids n.2∧i≠K.length∧i<K3.length:=fun i hi=>by
  have h9:=dNet.lt o3 i hi
  rcases i3 i hi with g|g
  ·exact ⟨hm1 i g,fun hh=>hd.2.2 i g i hh rfl,by have:=hl1 i g;omega,h9⟩
  ·exact ⟨by omega,fun hh=>by have:=hl2 i hh;omega,by omega,h9⟩
 have hp2:∀i∈VM.ids r',(i∈VM.ids n.2∨K3.length≤i)∧i≠K.length∧H.length+2≤i:=fun i hi=>by
  rcases n4 i hi with g|g
  ·exact ⟨.inl g,by have:=hl2 i g;omega,hm2 i g⟩
  ·exact ⟨.inr g,by omega,by omega⟩
 have fo1:=Dt.chg (T:=dNet) (Dt.chg (T:=dNet) o3 c4 (fun i hi=>(hp1 i hi).2.1)) eC (fun i hi hh=>by have:=(hp1 i hi).2.2.1;simp at hh;omega)
 have fo2:dPk.Ow (K4.set K.length ⟨[.int .i64 a.1.1.1,.int .i64 a.1.1.2.1,n.1.1,n.1.2.1.1,n.1.2.1.2,n.1.2.2.1.1,n.1.2.2.2.1,n.1.2.2.2.2.1,n.1.2.2.2.2.2.1.1,n.1.2.2.2.2.2.2.1.1,.int .i64 a.1.2.2.2.2.2.2.2,r'],0,49⟩) r' (a.2++[((a.2.length:Int)+1,q2,q3,q4,q5)]):=⟨o4.chg eC (fun i hi hh=>by have:=(hp2 i hi).2.1;simp at hh;omega),by have:=g0.2.1;simp;omega⟩
 have:=chip_made (K:=K4.set K.length ⟨[.int .i64 a.1.1.1,.int .i64 a.1.1.2.1,n.1.1,n.1.2.1.1,n.1.2.1.2,n.1.2.2.1.1,n.1.2.2.2.1,n.1.2.2.2.2.1,n.1.2.2.2.2.2.1.1,n.1.2.2.2.2.2.2.1.1,.int .i64 a.1.2.2.2.2.2.2.2,r'],0,49⟩) (n:=(putSrc n.1 (n.1.2.2.2.2.2.1.1,hs'),r')) (y:=(sendNet a.1 ((a.2.length:Int)+1,q2,q3,q4,q5),a.2++[((a.2.length:Int)+1,q2,q3,q4,q5)])) (a:=a) (q2:=q2) (q3:=q3) (q4:=q4) (q5:=q5) (r:=⟨[.int .i64 a.1.1.1,.int .i64 a.1.1.2.1,n.1.1,n.1.2.1.1,n.1.2.1.2,n.1.2.2.1.1,n.1.2.2.2.1,n.1.2.2.2.2.1,n.1.2.2.2.2.2.1.1,n.1.2.2.2.2.2.2.1.1,.int .i64 a.1.2.2.2.2.2.2.2,r'],0,49⟩) (H:=H) rfl ⟨fo1,fo2⟩
  (((cK2.trans' c3 (fun i hi=>.inr (by have:=hm1 _ (insrc _ hi);omega))).trans' c4 (fun i hi=>.inr (by have:=hm2 _ hi;omega))).trans' eC (fun i hi=>.inr (by simp at hi;omega)))
  (fun i hi=>by
   rcases List.mem_append.1 hi with hi|hi
   ·exact (hp1 i hi).1
   ·exact (hp2 i hi).2.2)
  (List.nodup_append.2 ⟨d3,ids_nodup r',fun x hx y hy e=>by
   subst e
   rcases (hp2 x hy).1 with g|g
   ·exact (hp1 x hx).2.1 g
   ·have:=(hp1 x hx).2.2.2;omega⟩)
  (if_pos hso) (decide_eq_true hso)
 exact this
theorem sChipSend_d {v:ChipV} {a:ChipD} {q2 q3 q4 q5:Int} (o:dChip.Ow H v a) :
 wp (vcall C frz 8 [dChip.val v a,.int .i64 q2,.int .i64 q3,.int .i64 q4,.int .i64 q5] H) (Made2 dChip H (chipSend a q2 q3 q4 q5) (decide (sendsOk a (nextP a q2 q3 q4 q5)))):=by
 have oneA:=dChip_one o
 have ones:=oneA.1
 have one2:=oneA.2
 have ecopy:=fun K (c:Chg H K [])=>l37Copy_d (frz:=H.length) (H:=K) (v:=v) (a:=a) (Dt.chg (T:=dChip) o c (by simp))
 have ck:=fun F K (c:Chg H K [])=>sChipOk_d (frz:=F) (H:=K) (v:=v) (a:=a) (Dt.chg (T:=dChip) o c (by simp))
 have esend:=fun (K:Heap) (c:Chg H K [])=>sSendPacket_d (frz:=H.length) (H:=K) (v:=v.1) (x:=a.1) (p:=nextP a q2 q3 q4 q5) (Dt.chg (T:=dNet) o.1 c (by simp))
 have hlen:=o.2.2
 have e0:=@w6 ((a.2.length:Int)+1) (by omega)
 unfold pkV at esend
 simp only [show (nextP a q2 q3 q4 q5).1=(a.2.length:Int)+1 from rfl,show (nextP a q2 q3 q4 q5).2.1=q2 from rfl,show (nextP a q2 q3 q4 q5).2.2.1=q3 from rfl,show (nextP a q2 q3 q4 q5).2.2.2.1=q4 from rfl,show (nextP a q2 q3 q4 q5).2.2.2.2=q5 from rfl,dNet_val] at esend
 simp only [dChip_val] at ecopy ck ⊢
 rw [vcall_go (fn:=Tryz.f8) Tryz.func8 rfl (by kernel_rfl) rfl]
 obtain ⟨G,hG⟩:∃G,G=H++[⟨[.int .i64 a.1.1.1,.int .i64 a.1.1.2.1,v.1.1,v.1.2.1.1,v.1.2.1.2,v.1.2.2.1.1,v.1.2.2.2.1,v.1.2.2.2.2.1,v.1.2.2.2.2.2.1.1,v.1.2.2.2.2.2.2.1.1,.int .i64 a.1.2.2.2.2.2.2.2,v.2],0,49⟩,⟨[.int .i64 0,.int .i64 0,.slice none 0 0,.slice none 0 0,.slice none 0 0,.slice none 0 0,.slice none 0 0,.slice none 0 0,.slice none 0 0,.slice none 0 0,.int .i64 0,.slice none 0 0],0,49⟩]:=⟨_,rfl⟩
 have cG:Chg H G []:=by rw [hG];exact Chg.app _
 have b0:G[H.length]? = some ⟨[.int .i64 a.1.1.1,.int .i64 a.1.1.2.1,v.1.1,v.1.2.1.1,v.1.2.1.2,v.1.2.2.1.1,v.1.2.2.2.1,v.1.2.2.2.2.1,v.1.2.2.2.2.2.1.1,v.1.2.2.2.2.2.2.1.1,.int .i64 a.1.2.2.2.2.2.2.2,v.2],0,49⟩:=by rw [hG];simp
 have bR:G[H.length+1]? = some ⟨[.int .i64 0,.int .i64 0,.slice none 0 0,.slice none 0 0,.slice none 0 0,.slice none 0 0,.slice none 0 0,.slice none 0 0,.slice none 0 0,.slice none 0 0,.int .i64 0,.slice none 0 0],0,49⟩:=by rw [hG];simp
 have lG:G.length=H.length+2:=by rw [hG];simp
 simp [ones,one2]
 rw [← hG]
 clear hG
 have lp:=fun K (c:Chg H K [])=>(o.2.1.rd.chg c (by simp)).len (P:=Tryz.prog) (ty:=47) (by simp)
 try simp [VM.look,b0,ones,one2]
 refine wp_thn (ecopy G cG) ?_
 rintro _ K ⟨n,rfl,on,cn,mn,dn⟩
 have cK:Chg H K []:=cG.trans cn
 have b0:=box_chg b0 cn (by simp)
 have bR:=box_chg bR cn (by simp)
 have oneN:=dChip_one on
 have qn:=oneN.1
 have qn2:=oneN.2
 have lK:=cn.1
 have hFK:H.length≤K.length:=by omega
 obtain ⟨K2,hK2⟩:∃K2,K2=K++[⟨[.int .i64 a.1.1.1,.int .i64 a.1.1.2.1,n.1.1,n.1.2.1.1,n.1.2.1.2,n.1.2.2.1.1,n.1.2.2.2.1,n.1.2.2.2.2.1,n.1.2.2.2.2.2.1.1,n.1.2.2.2.2.2.2.1.1,.int .i64 a.1.2.2.2.2.2.2.2,n.2],0,49⟩]:=⟨_,rfl⟩
 have e2:K++[⟨[.int .i64 a.1.1.1,.int .i64 a.1.1.2.1,n.1.1,n.1.2.1.1,n.1.2.1.2,n.1.2.2.1.1,n.1.2.2.2.1,n.1.2.2.2.2.1,n.1.2.2.2.2.2.1.1,n.1.2.2.2.2.2.2.1.1,.int .i64 a.1.2.2.2.2.2.2.2,n.2],0,49⟩]=K2:=hK2.symm
 have c12:Chg K K2 []:=by rw [hK2];exact Chg.app _
 have cK2:=cK.trans c12
 have l2:K2.length=K.length+1:=by rw [hK2];simp
 have b0:=box_chg b0 c12 (by simp)
 have bR:=box_chg bR c12 (by simp)
 have bC:K2[K.length]? = some ⟨[.int .i64 a.1.1.1,.int .i64 a.1.1.2.1,n.1.1,n.1.2.1.1,n.1.2.1.2,n.1.2.2.1.1,n.1.2.2.2.1,n.1.2.2.2.2.1,n.1.2.2.2.2.2.1.1,n.1.2.2.2.2.2.2.1.1,.int .i64 a.1.2.2.2.2.2.2.2,n.2],0,49⟩:=by rw [hK2];simp
 have on2:=Dt.chg (T:=dChip) on c12 (by simp)
 have hF:H.length≤H.length+1:=by omega
 have mn':∀i∈dChip.ids n,H.length+2≤i:=fun i hi=>by have:=mn i hi;omega
 have fin:∀K3,Chg K2 K3 []→¬sendsOk a (nextP a q2 q3 q4 q5)→Made2 dChip H (chipSend a q2 q3 q4 q5) (decide (sendsOk a (nextP a q2 q3 q4 q5))) (.tuple #[dChip.val n a,.bool false]) (K3.set (H.length+1) ⟨[.int .i64 a.1.1.1,.int .i64 a.1.1.2.1,n.1.1,n.1.2.1.1,n.1.2.1.2,n.1.2.2.1.1,n.1.2.2.2.1,n.1.2.2.2.2.1,n.1.2.2.2.2.2.1.1,n.1.2.2.2.2.2.2.1.1,.int .i64 a.1.2.2.2.2.2.2.2,n.2],0,49⟩):=fun K3 c3 hb=>
  chip_made rfl (Dt.chg (T:=dChip) on2 c3 (by simp)) (cK2.trans c3) mn' dn (if_neg hb) (decide_eq_false hb)
 have ck':=fun F=>ck F K2 cK2
 have lp2:=lp K2 cK2
 simp [dChip_val,VM.look,qn,qn2,hFK]
 rw [e2]
 clear hK2 e2
 by_cases g0:chipOk a
 rotate_left
 ·have hb:¬sendsOk a (nextP a q2 q3 q4 q5):=fun k=>g0 k.1
  have gR:=set_get (r':=⟨[.int .i64 a.1.1.1,.int .i64 a.1.1.2.1,n.1.1,n.1.2.1.1,n.1.2.1.2,n.1.2.2.1.1,n.1.2.2.2.1,n.1.2.2.2.2.1,n.1.2.2.2.2.2.1.1,n.1.2.2.2.2.2.2.1.1,.int .i64 a.1.2.2.2.2.2.2.2,n.2],0,49⟩) bR
  have hM:=fin K2 (Chg.refl _) hb
  simp [VM.look,b0,bC,ones,one2,ck',g0,qn,qn2,bR,gR,hF]
  simpa [hb,dChip_val] using hM
 by_cases g1:a.2.length=200
 ·have hb:¬sendsOk a (nextP a q2 q3 q4 q5):=fun k=>k.2.1 g1
  have g1':((a.2.length:Int))=200:=by omega
  have gR:=set_get (r':=⟨[.int .i64 a.1.1.1,.int .i64 a.1.1.2.1,n.1.1,n.1.2.1.1,n.1.2.1.2,n.1.2.2.1.1,n.1.2.2.2.1,n.1.2.2.2.2.1,n.1.2.2.2.2.2.1.1,n.1.2.2.2.2.2.2.1.1,.int .i64 a.1.2.2.2.2.2.2.2,n.2],0,49⟩) bR
  have hM:=fin K2 (Chg.refl _) hb
  simp [VM.look,b0,bC,ones,one2,ck',g0,lp2,g1,g1',qn,qn2,bR,gR,hF]
  simpa [hb,dChip_val] using hM
 have g1':¬((a.2.length:Int))=200:=by omega
 have hFK2:H.length≤K2.length:=by omega
 simp [VM.look,b0,bC,ones,one2,ck',g0,lp2,g1,g1',e0,hFK2]
 obtain ⟨K3,hK3⟩:∃K3,K3=K2++[⟨[.int .i64 (a.2.length+1:Int),.int .i64 q2,.int .i64 q3,.int .i64 q4,.int .i64 q5],0,76⟩]:=⟨_,rfl⟩
 have e3:K2++[⟨[.int .i64 (a.2.length+1:Int),.int .i64 q2,.int .i64 q3,.int .i64 q4,.int .i64 q5],0,76⟩]=K3:=hK3.symm
 have c23:Chg K2 K3 []:=by rw [hK3];exact Chg.app _
 have l3:K3.length=K2.length+1:=by rw [hK3];simp
 have bP:K3[K2.length]? = some ⟨[.int .i64 (a.2.length+1:Int),.int .i64 q2,.int .i64 q3,.int .i64 q4,.int .i64 q5],0,76⟩:=by rw [hK3];simp
 have b0:=box_chg b0 c23 (by simp)
 have bR:=box_chg bR c23 (by simp)
 have bC:=box_chg bC c23 (by simp)
 rw [e3]
 clear hK3 e3
 simp [VM.look,b0,bP,ones,one2,hFK2]
 refine wp_thn (esend K3 (cK2.trans c23)) ?_
 rintro _ K4 ⟨_,rfl,n2,rfl,o4,c4,m4,d4⟩
 have bP:=box_chg bP c4 (by simp)
 have bR:=box_chg bR c4 (by simp)
 have bC:=box_chg bC c4 (by simp)
 have one4:=dNet_one o4
 have l4:=c4.1
 have hFK4:H.length≤K4.length:=by omega
 have bPA:=fun L=>get_app' bP L
 have bRA:=fun L=>get_app' bR L
 have bCA:=fun L=>get_app' bC L
 by_cases g2:sendOk a.1 (nextP a q2 q3 q4 q5)
 rotate_left
 ·have hb:¬sendsOk a (nextP a q2 q3 q4 q5):=fun k=>g2 k.2.2
  have hz:sendP a.1 (nextP a q2 q3 q4 q5)=a.1:=if_neg (fun k=>g2 k.2)
  rw [hz] at o4
  have hM:=fin (K4++[⟨[.int .i64 a.1.1.1,.int .i64 a.1.1.2.1,n2.1,n2.2.1.1,n2.2.1.2,n2.2.2.1.1,n2.2.2.2.1,n2.2.2.2.2.1,n2.2.2.2.2.2.1.1,n2.2.2.2.2.2.2.1.1,.int .i64 a.1.2.2.2.2.2.2.2],0,46⟩]) ((c23.trans c4).trans (Chg.app _)) hb
  have gR:=set_get (r':=⟨[.int .i64 a.1.1.1,.int .i64 a.1.1.2.1,n.1.1,n.1.2.1.1,n.1.2.1.2,n.1.2.2.1.1,n.1.2.2.2.1,n.1.2.2.2.2.1,n.1.2.2.2.2.2.1.1,n.1.2.2.2.2.2.2.1.1,.int .i64 a.1.2.2.2.2.2.2.2,n.2],0,49⟩) (bRA [⟨[.int .i64 a.1.1.1,.int .i64 a.1.1.2.1,n2.1,n2.2.1.1,n2.2.1.2,n2.2.2.1.1,n2.2.2.2.1,n2.2.2.2.2.1,n2.2.2.2.2.2.1.1,n2.2.2.2.2.2.2.1.1,.int .i64 a.1.2.2.2.2.2.2.2],0,46⟩])
  simp [dNet_val,hz,g0.1,g2,one4,hFK4,VM.look,bCA,bRA,qn,qn2,gR,hF]
  simpa [hb,dChip_val] using hM
 have hso:sendsOk a (nextP a q2 q3 q4 q5):=⟨g0,g1,g2⟩
 have hz:sendP a.1 (nextP a q2 q3 q4 q5)=sendNet a.1 (nextP a q2 q3 q4 q5):=if_pos ⟨g0.1,g2⟩
 rw [hz] at o4
 obtain ⟨z,hzz⟩:∃z,z=sendNet a.1 (nextP a q2 q3 q4 q5):=⟨_,rfl⟩
 rw [← hzz] at o4 hz
 have hd:=List.nodup_append.1 dn
 have hm2:∀i∈VM.ids n.2,H.length+2≤i:=fun i hi=>mn' i (List.mem_append_right _ hi)
 have hl2:∀i∈VM.ids n.2,i<K.length:=fun i hi=>dPk.lt on.2 i hi
 obtain ⟨K5,hK5⟩:∃K5,K5=K4++[⟨[.int .i64 z.1.1,.int .i64 z.1.2.1,n2.1,n2.2.1.1,n2.2.1.2,n2.2.2.1.1,n2.2.2.2.1,n2.2.2.2.2.1,n2.2.2.2.2.2.1.1,n2.2.2.2.2.2.2.1.1,.int .i64 z.2.2.2.2.2.2.2],0,46⟩]:=⟨_,rfl⟩
 have e5:K4++[⟨[.int .i64 z.1.1,.int .i64 z.1.2.1,n2.1,n2.2.1.1,n2.2.1.2,n2.2.2.1.1,n2.2.2.2.1,n2.2.2.2.2.1,n2.2.2.2.2.2.1.1,n2.2.2.2.2.2.2.1.1,.int .i64 z.2.2.2.2.2.2.2],0,46⟩]=K5:=hK5.symm
 have c45:Chg K4 K5 []:=by rw [hK5];exact Chg.app _
 have l5:K5.length=K4.length+1:=by rw [hK5];simp
 have b5:K5[K4.length]? = some ⟨[.int .i64 z.1.1,.int .i64 z.1.2.1,n2.1,n2.2.1.1,n2.2.1.2,n2.2.2.1.1,n2.2.2.2.1,n2.2.2.2.2.1,n2.2.2.2.2.2.1.1,n2.2.2.2.2.2.2.1.1,.int .i64 z.2.2.2.2.2.2.2],0,46⟩:=by rw [hK5];simp
 have bP:=box_chg bP c45 (by simp)
 have bR:=box_chg bR c45 (by simp)
 have bC:=box_chg bC c45 (by simp)
 have o5:=Dt.chg (T:=dNet) o4 c45 (by simp)
 have op5:=Dt.chg (T:=dPk) (Dt.chg (T:=dPk) on2.2 ((c23.trans c4).trans c45) (by simp)) (chg_set (H:=K5) K.length ⟨[.int .i64 z.1.1,.int .i64 z.1.2.1,n2.1,n2.2.1.1,n2.2.1.2,n2.2.2.1.1,n2.2.2.2.1,n2.2.2.2.2.1,n2.2.2.2.2.2.1.1,n2.2.2.2.2.2.2.1.1,.int .i64 z.2.2.2.2.2.2.2,n.2],0,49⟩) (fun i hi hh=>by have:=hl2 i hi;simp at hh;omega)
 have gC1:=set_get (r':=⟨[.int .i64 z.1.1,.int .i64 z.1.2.1,n2.1,n2.2.1.1,n2.2.1.2,n2.2.2.1.1,n2.2.2.2.1,n2.2.2.2.2.1,n2.2.2.2.2.2.1.1,n2.2.2.2.2.2.2.1.1,.int .i64 z.2.2.2.2.2.2.2,n.2],0,49⟩) bC
 have hFKK:H.length≤K.length:=by omega
 simp [dNet_val,hz,g0.1,g2,one4,hFK4,VM.look]
 rw [e5]
 clear hK5 e5
 obtain ⟨K6,hK6⟩:∃K6,K6=K5.set K.length ⟨[.int .i64 z.1.1,.int .i64 z.1.2.1,n2.1,n2.2.1.1,n2.2.1.2,n2.2.2.1.1,n2.2.2.2.1,n2.2.2.2.2.1,n2.2.2.2.2.2.1.1,n2.2.2.2.2.2.2.1.1,.int .i64 z.2.2.2.2.2.2.2,n.2],0,49⟩:=⟨_,rfl⟩
 have c56:Chg K5 K6 [K.length]:=by rw [hK6];exact chg_set _ _
 have l6:K6.length=K5.length:=by rw [hK6];simp
 have b6:=box_chg bP c56 (by simp;omega)
 have b6R:=box_chg bR c56 (by simp;omega)
 rw [← hK6] at op5 gC1
 simp [VM.look,b5,bC,qn2,one4,hFKK]
 rw [← hK6]
 have o6:=Dt.chg (T:=dNet) o5 c56 (fun i hi hh=>by have:=m4 i hi;simp at hh;omega)
 obtain ⟨r',K7,hap,o7,c7,n7⟩:=op5.1.push (P:=Tryz.prog) (frz:=H.length) (ty:=47) (a:=((a.2.length:Int)+1,q2,q3,q4,q5)) (by simp) rfl (by have:=g0.2.1;omega) (fun i hi=>by have:=hm2 i hi;omega)
 simp only [pkF_f] at hap
 have b6A:=fun L=>get_app' b6 L
 have gCA:=fun L=>get_app' gC1 L
 have bC7:=box_chg gC1 c7 (fun hh=>by have:=hl2 _ hh;omega)
 have bR7:=box_chg b6R c7 (fun hh=>by have:=hm2 _ hh;omega)
 have qr:=And.intro o7.rd.one' o7.rd.cells
 have gC:=set_get (r':=⟨[.int .i64 z.1.1,.int .i64 z.1.2.1,n2.1,n2.2.1.1,n2.2.1.2,n2.2.2.1.1,n2.2.2.2.1,n2.2.2.2.2.1,n2.2.2.2.2.2.1.1,n2.2.2.2.2.2.2.1.1,.int .i64 z.2.2.2.2.2.2.2,r'],0,49⟩) bC7
 have eC:Chg K7 (K7.set K.length ⟨[.int .i64 z.1.1,.int .i64 z.1.2.1,n2.1,n2.2.1.1,n2.2.1.2,n2.2.2.1.1,n2.2.2.2.1,n2.2.2.2.2.1,n2.2.2.2.2.2.1.1,n2.2.2.2.2.2.2.1.1,.int .i64 z.2.2.2.2.2.2.2,r'],0,49⟩) [K.length]:=chg_set _ _
 have bR8:=box_chg bR7 eC (by simp;omega)
 have gR:=set_get (r':=⟨[.int .i64 z.1.1,.int .i64 z.1.2.1,n2.1,n2.2.1.1,n2.2.1.2,n2.2.2.1.1,n2.2.2.2.1,n2.2.2.2.2.1,n2.2.2.2.2.2.1.1,n2.2.2.2.2.2.2.1.1,.int .i64 z.2.2.2.2.2.2.2,r'],0,49⟩) bR8
 simp [-vappend_nil,-vappend_mk,VM.look,gC1,gCA,b6,b6A,hap,bC7,qr,one4,gC,bR8,gR,hF,hFKK]
 have hp2:∀i∈VM.ids r',(i∈VM.ids n.2∨K6.length≤i)∧i≠K.length∧H.length+2≤i:=fun i hi=>by
  rcases n7 i hi with g|g
  ·exact ⟨.inl g,by have:=hl2 i g;omega,hm2 i g⟩
  ·exact ⟨.inr g,by omega,by omega⟩
 have hp1:∀i∈dNet.ids n2,K3.length≤i∧i<K4.length:=fun i hi=>⟨m4 i hi,dNet.lt o4 i hi⟩
 have fo1:=Dt.chg (T:=dNet) (Dt.chg (T:=dNet) o6 c7 (fun i hi hh=>by have:=hp1 i hi;have:=hl2 i hh;omega)) eC (fun i hi hh=>by have:=hp1 i hi;simp at hh;omega)
 have fo2:dPk.Ow (K7.set K.length ⟨[.int .i64 z.1.1,.int .i64 z.1.2.1,n2.1,n2.2.1.1,n2.2.1.2,n2.2.2.1.1,n2.2.2.2.1,n2.2.2.2.2.1,n2.2.2.2.2.2.1.1,n2.2.2.2.2.2.2.1.1,.int .i64 z.2.2.2.2.2.2.2,r'],0,49⟩) r' (a.2++[((a.2.length:Int)+1,q2,q3,q4,q5)]):=⟨o7.chg eC (fun i hi hh=>by have:=(hp2 i hi).2.1;simp at hh;omega),by have:=g0.2.1;simp;omega⟩
 have eC2:chipSend a q2 q3 q4 q5=(z,a.2++[((a.2.length:Int)+1,q2,q3,q4,q5)]):=by rw [hzz];exact if_pos hso
 have:=chip_made (K:=K7.set K.length ⟨[.int .i64 z.1.1,.int .i64 z.1.2.1,n2.1,n2.2.1.1,n2.2.1.2,n2.2.2.1.1,n2.2.2.2.1,n2.2.2.2.2.1,n2.2.2.2.2.2.1.1,n2.2.2.2.2.2.2.1.1,.int .i64 z.2.2.2.2.2.2.2,r'],0,49⟩) (n:=(n2,r')) (y:=(z,a.2++[((a.2.length:Int)+1,q2,q3,q4,q5)])) (a:=a) (q2:=q2) (q3:=q3) (q4:=q4) (q5:=q5) (r:=⟨[.int .i64 z.1.1,.int .i64 z.1.2.1,n2.1,n2.2.1.1,n2.2.1.2,n2.2.2.1.1,n2.2.2.2.1,n2.2.2.2.2.1,n2.2.2.2.2.2.1.1,n2.2.2.2.2.2.2.1.1,.int .i64 z.2.2.2.2.2.2.2,r'],0,49⟩) (H:=H) rfl ⟨fo1,fo2⟩
  ((((((cK2.trans c23).trans c4).trans c45).trans' c56 (fun i hi=>.inr (by simp at hi;omega))).trans' c7 (fun i hi=>.inr (by have:=hm2 _ hi;omega))).trans' eC (fun i hi=>.inr (by simp at hi;omega)))
  (fun i hi=>by
   rcases List.mem_append.1 hi with hi|hi
   ·have:=hp1 i hi;omega
   ·exact (hp2 i hi).2.2)
  (List.nodup_append.2 ⟨d4,ids_nodup r',fun x hx y hy e=>by
   subst e
   have h1:=hp1 x hx
   rcases (hp2 x hy).1 with g|g
   ·have:=hl2 x g;omega
   ·omega⟩)
  eC2 (decide_eq_true hso)
 exact this
def mkP (k:Int):PkD:=(k,k+1,k+2,k+3,k+4)
def marksP (k:Int):Nat→List PkD
 | 0=>[]
 | n+1=>marksP k n++[mkP (k+5*n)]
@[simp] theorem marksP_len (k:Int):∀n,(marksP k n).length=n
 | 0=>rfl
 | n+1=>by simp [marksP,marksP_len k n]
theorem marksP_get (k:Int) {i:Nat}:∀n (h:i<n),(marksP k n)[i]'(by simpa using h)=mkP (k+5*i)
 | 0,h=>by omega
 | n+1,h=>by
  simp only [marksP]
  by_cases hi:i<n
  ·rw [List.getElem_append_left (by simpa using hi)];exact marksP_get k n hi
  ·have:i=n:=by omega
   subst this
   rw [List.getElem_append_right (by simp)];simp
theorem marksP_set (k:Int) (xs:List PkD) {i:Nat} (h:i<xs.length):(marksP k i++xs.drop i).set i (mkP (k+5*i))=marksP k (i+1)++xs.drop (i+1):=by
 rw [List.set_append_right _ _ (by simp),marksP_len,Nat.sub_self,List.drop_eq_getElem_cons h,List.set_cons_zero,marksP]
 simp
theorem markPacketS_w (v:Value) (xs:List PkD) (e:TypeId) (k:Int) (h:Ow pkF e H v xs) (hl:xs.length≤1073741824) (hk:0≤k∧k≤4611686018427387904) (hf:∀i∈ids v,frz≤i) :
 wp (vcall C frz 35 [v,.int .i64 k] H) (fun r H'=>r=.int .i64 (k+5*xs.length)∧Ow pkF e H' v (marksP k xs.length)∧Chg H H' (ids v)∧H'.length=H.length):=by
 rw [vcall_go (fn:=Tryz.f35) Tryz.func35 rfl (by kernel_rfl) rfl]
 simp
 refine wp_inv (fun n t H'=>∃i:Nat,n=xs.length-i∧i≤xs.length∧t 0=v∧t 1=.int .i64 (k+5*i)∧t 5=.int .i64 i∧Ow pkF e H' v (marksP k i++xs.drop i)∧Chg H H' (ids v)∧H'.length=H.length) ?_ (n:=xs.length)
  ⟨0,by simp,by omega,by simp,by simp,by simp,by simpa [marksP] using h,Chg.refl _,rfl⟩
 rintro n t H' ⟨i,rfl,hi,h0,h1,h5,o,c,l⟩ ih
 have hlen:(marksP k i++xs.drop i).length=xs.length:=by simp;omega
 have ll:=o.rd.len (P:=Tryz.prog) (ty:=47) (by simp)
 rw [hlen] at ll
 simp [h0,h1,h5,ll]
 refine wp_dec ?_ ?_<;>intro h6
 ·have hi':i<xs.length:=by omega
  have hms:=marksP_set k xs hi'
  generalize marksP k i++xs.drop i=ys at *
  have hy:i<ys.length:=by omega
  obtain ⟨K,hK⟩:∃K,K=k+5*(i:Int):=⟨_,rfl⟩
  obtain ⟨K1,hK1⟩:∃K1,K1=K+1:=⟨_,rfl⟩
  obtain ⟨K2,hK2⟩:∃K1,K1=K+2:=⟨_,rfl⟩
  obtain ⟨K3,hK3⟩:∃K1,K1=K+3:=⟨_,rfl⟩
  obtain ⟨K4,hK4⟩:∃K1,K1=K+4:=⟨_,rfl⟩
  have hmk:mkP K=(K,K1,K2,K3,K4):=by rw [hK1,hK2,hK3,hK4];rfl
  have w1:∀[Inhabited Unit],IntKind.i64.wrap (K+1)=K1:=by intro _;rw [w64 (by omega) (by omega),hK1]
  have w2:∀[Inhabited Unit],IntKind.i64.wrap (K1+1)=K2:=by intro _;rw [w64 (by omega) (by omega)];omega
  have w3:∀[Inhabited Unit],IntKind.i64.wrap (K2+1)=K3:=by intro _;rw [w64 (by omega) (by omega)];omega
  have w4:∀[Inhabited Unit],IntKind.i64.wrap (K3+1)=K4:=by intro _;rw [w64 (by omega) (by omega)];omega
  have w5:∀[Inhabited Unit],IntKind.i64.wrap (K4+1)=k+5*((i+1:Nat):Int):=by intro _;rw [w64 (by omega) (by omega)];omega
  rw [← hK] at hms h1
  obtain ⟨z,hz⟩:∃z,z=ys[i]:=⟨_,rfl⟩
  have ix:=fun {G:Heap} {zs:List PkD} (oo:Ow pkF e G v zs) (hh:i<zs.length)=>oo.rd.idx (P:=Tryz.prog) (ty:=47) (e:=76) (by simp) (i:=(i:Int)) (by omega) (by omega)
  have fa:=fun {G:Heap} {zs:List PkD} (oo:Ow pkF e G v zs) (hh:i<zs.length)=>(show _∧_∧_∧_∧_ from
   ⟨oo.rd.field (P:=Tryz.prog) (s:=76) (f:=0) (o:=0) (n:=1) (ag:=false) (by simp) (j:=i*5) (by omega),oo.rd.field (P:=Tryz.prog) (s:=76) (f:=1) (o:=1) (n:=1) (ag:=false) (by simp) (j:=i*5) (by omega),
    oo.rd.field (P:=Tryz.prog) (s:=76) (f:=2) (o:=2) (n:=1) (ag:=false) (by simp) (j:=i*5) (by omega),oo.rd.field (P:=Tryz.prog) (s:=76) (f:=3) (o:=3) (n:=1) (ag:=false) (by simp) (j:=i*5) (by omega),
    oo.rd.field (P:=Tryz.prog) (s:=76) (f:=4) (o:=4) (n:=1) (ag:=false) (by simp) (j:=i*5) (by omega)⟩)
  obtain ⟨H1,s1,o1,c1,l1⟩:=o.store1 (P:=Tryz.prog) (frz:=frz) (et:=3) (ag:=false) (x:=.int .i64 K) (by simp) (j:=i) (c:=0) (y:=(K,z.2)) hy (by decide) rfl rfl (by rw [← hz];rfl) hf
  obtain ⟨H2,s2,o2,c2,l2⟩:=o1.store1 (P:=Tryz.prog) (frz:=frz) (et:=3) (ag:=false) (x:=.int .i64 K1) (by simp) (j:=i) (c:=1) (y:=(K,K1,z.2.2)) (by simpa using hy) (by decide) rfl rfl (by simp [pkF_f]) hf
  obtain ⟨H3,s3,o3,c3,l3⟩:=o2.store1 (P:=Tryz.prog) (frz:=frz) (et:=3) (ag:=false) (x:=.int .i64 K2) (by simp) (j:=i) (c:=2) (y:=(K,K1,K2,z.2.2.2)) (by simpa using hy) (by decide) rfl rfl (by simp [pkF_f]) hf
  obtain ⟨H4,s4,o4,c4,l4⟩:=o3.store1 (P:=Tryz.prog) (frz:=frz) (et:=3) (ag:=false) (x:=.int .i64 K3) (by simp) (j:=i) (c:=3) (y:=(K,K1,K2,K3,z.2.2.2.2)) (by simpa using hy) (by decide) rfl rfl (by simp [pkF_f]) hf
  obtain ⟨H5,s5,o5,c5,l5⟩:=o4.store1 (P:=Tryz.prog) (frz:=frz) (et:=3) (ag:=false) (x:=.int .i64 K4) (by simp) (j:=i) (c:=4) (y:=(K,K1,K2,K3,K4)) (by simpa using hy) (by decide) rfl rfl (by simp [pkF_f]) hf
  have i0:=ix o hy
  have i1:=ix o1 (by simpa using hy)
  have i2:=ix o2 (by simpa using hy)
  have i3:=ix o3 (by simpa using hy)
  have i4:=ix o4 (by simpa using hy)
  have f0:=(fa o hy).1
  have f1:=(fa o1 (by simpa using hy)).2.1
  have f2:=(fa o2 (by simpa using hy)).2.2.1
  have f3:=(fa o3 (by simpa using hy)).2.2.2.1
  have f4:=(fa o4 (by simpa using hy)).2.2.2.2
  simp only [Int.toNat_natCast,pkF_n,Nat.add_zero] at i0 i1 i2 i3 i4 s1 s2 s3 s4 s5 f0
  simp [-vfieldAddr,vfa_ptr,h0,h1,h5,i0,i1,i2,i3,i4,f0,f1,f2,f3,f4,s1,s2,s3,s4,s5,w1,w2,w3,w4,w5]
  refine ih (xs.length-(i+1)) _ _ ⟨i+1,rfl,by omega,by simp [h0],?_,?_,?_,(((((c.trans c1).trans c2).trans c3).trans c4).trans c5),by omega⟩ (by omega)
  ·simp
  ·simp;rw [w64 (by omega) (by omega)]
  ·rw [← hms,hmk];simpa only [List.set_set] using o5
 ·have:i=xs.length:=by omega
  subst this
  simp [h0,h1,h5]
  exact ⟨by simpa using o,c,l⟩
theorem heldPacketS_c (v:Value) (n:Nat) (k:Int) (h:Rd pkF H v (marksP k n)) (hl:n≤1073741824) (hk:0≤k∧k≤4611686018427387904) :
 vcall C frz 36 [v,.int .i64 k] H=some (.int .i64 (k+5*n),H):=by
 refine wp.exact (by simp) ?_ rfl
 rw [vcall_go (fn:=Tryz.f36) Tryz.func36 rfl (by kernel_rfl) rfl]
 have ll:=h.len (P:=Tryz.prog) (ty:=47) (by simp)
 rw [marksP_len] at ll
 simp
 refine wp_inv (fun m t H'=>∃i:Nat,m=n-i∧i≤n∧t 0=v∧t 1=.int .i64 (k+5*i)∧t 5=.int .i64 i∧H'=H) ?_ (n:=n) ⟨0,rfl,by omega,by simp,by simp,by simp,rfl⟩
 rintro m t H' ⟨i,rfl,hi,h0,h1,h5,rfl⟩ ih
 simp [h0,h1,h5,ll]
 refine wp_dec ?_ ?_<;>intro h6
 ·have hi':i<n:=by omega
  have hy:i<(marksP k n).length:=by simpa using hi'
  obtain ⟨K,hK⟩:∃K,K=k+5*(i:Int):=⟨_,rfl⟩
  obtain ⟨K1,hK1⟩:∃K1,K1=K+1:=⟨_,rfl⟩
  obtain ⟨K2,hK2⟩:∃K1,K1=K+2:=⟨_,rfl⟩
  obtain ⟨K3,hK3⟩:∃K1,K1=K+3:=⟨_,rfl⟩
  obtain ⟨K4,hK4⟩:∃K1,K1=K+4:=⟨_,rfl⟩
  have hmk:(marksP k n)[i]=(K,K1,K2,K3,K4):=by rw [marksP_get k n hi',hK1,hK2,hK3,hK4,hK];rfl
  have w1:∀[Inhabited Unit],IntKind.i64.wrap (K+1)=K1:=by intro _;rw [w64 (by omega) (by omega),hK1]
  have w2:∀[Inhabited Unit],IntKind.i64.wrap (K1+1)=K2:=by intro _;rw [w64 (by omega) (by omega)];omega
  have w3:∀[Inhabited Unit],IntKind.i64.wrap (K2+1)=K3:=by intro _;rw [w64 (by omega) (by omega)];omega
  have w4:∀[Inhabited Unit],IntKind.i64.wrap (K3+1)=K4:=by intro _;rw [w64 (by omega) (by omega)];omega
  have w5:∀[Inhabited Unit],IntKind.i64.wrap (K4+1)=k+5*((i+1:Nat):Int):=by intro _;rw [w64 (by omega) (by omega)];omega
  rw [← hK] at h1
  have i0:=h.idx (P:=Tryz.prog) (ty:=47) (e:=76) (by simp) (i:=(i:Int)) (by omega) (by omega)
  have f0:=h.field (P:=Tryz.prog) (s:=76) (f:=0) (o:=0) (n:=1) (ag:=false) (by simp) (j:=i*5) (by omega)
  have f1:=h.field (P:=Tryz.prog) (s:=76) (f:=1) (o:=1) (n:=1) (ag:=false) (by simp) (j:=i*5) (by omega)
  have f2:=h.field (P:=Tryz.prog) (s:=76) (f:=2) (o:=2) (n:=1) (ag:=false) (by simp) (j:=i*5) (by omega)
  have f3:=h.field (P:=Tryz.prog) (s:=76) (f:=3) (o:=3) (n:=1) (ag:=false) (by simp) (j:=i*5) (by omega)
  have f4:=h.field (P:=Tryz.prog) (s:=76) (f:=4) (o:=4) (n:=1) (ag:=false) (by simp) (j:=i*5) (by omega)
  have c0:=h.cell (P:=Tryz.prog) (e:=3) (by simp) hy (c:=0) (by decide)
  have c1:=h.cell (P:=Tryz.prog) (e:=3) (by simp) hy (c:=1) (by decide)
  have c2:=h.cell (P:=Tryz.prog) (e:=3) (by simp) hy (c:=2) (by decide)
  have c3:=h.cell (P:=Tryz.prog) (e:=3) (by simp) hy (c:=3) (by decide)
  have c4:=h.cell (P:=Tryz.prog) (e:=3) (by simp) hy (c:=4) (by decide)
  rw [hmk] at c0 c1 c2 c3 c4
  simp only [Int.toNat_natCast,pkF_n,pkF_f,Nat.add_zero] at i0 f0 c0 c1 c2 c3 c4
  simp at c0 c1 c2 c3 c4
  simp [-vfieldAddr,vfa_ptr,h0,h1,h5,i0,f0,f1,f2,f3,f4,c0,c1,c2,c3,c4,w1,w2,w3,w4,w5]
  refine ih (n-(i+1)) _ _ ⟨i+1,rfl,by omega,by simp [h0],?_,?_,rfl⟩ (by omega)
  ·simp
  ·simp;rw [w64 (by omega) (by omega)]
 ·have:i=n:=by omega
  subst this
  simp [h0,h1,h5]
theorem markPk_d {v:Value} {a:List PkD} {k:Int} (h:dPk.Ow H v a) (hd:(dPk.ids v).Nodup) (hk:0≤k∧k≤2305843009213693952) (hf:∀i∈dPk.ids v,frz≤i) :
 wp (vcall C frz 35 [v,.int .i64 k] H) (Marks 5368709120 dPk 36 H v a k):=by
 refine (markPacketS_w v a _ k h.1 h.2 ⟨by omega,by omega⟩ hf).mono ?_
 rintro r H' ⟨rfl,o,c,l⟩
 have:=h.2
 refine ⟨5*(a.length:Int),marksP k a.length,rfl,by omega,rfl,⟨o,by simpa using h.2⟩,c,fun F H2 h2=>?_⟩
 exact heldPacketS_c v a.length k h2.1.rd h.2 ⟨by omega,by omega⟩
theorem markChip_d {v:ChipV} {a:ChipD} {k:Int} (h:dChip.Ow H v a) (hd:(dChip.ids v).Nodup) (hk:0≤k∧k≤576460752303423488) (hf:∀i∈dChip.ids v,frz≤i) :
 wp (vcall C frz 12 [dChip.val v a,.int .i64 k] H) (Marks 9007199254740992 dChip 13 H v a k):=by
 have oneA:=dChip_one h
 obtain ⟨v1,v2⟩:=v
 obtain ⟨⟨⟨w,g,b⟩,r2,r3,r4,r5,r6,r7,tm⟩,a2⟩:=a
 obtain ⟨h1,h2⟩:=h
 have ones:=oneA.1
 have one2:=oneA.2
 simp only at h1 h2 ones one2
 rw [dChip_val]
 rw [vcall_go (fn:=Tryz.f12) Tryz.func12 rfl (by kernel_rfl) rfl]
 have rest7:dChip.ids (v1,v2)=dNet.ids v1++dPk.ids v2:=rfl
 rw [rest7] at hd hf
 obtain ⟨d1,d2,x1⟩:=List.nodup_append.1 hd
 have z2_1:∀i∈dPk.ids v2,i∉dNet.ids v1:=fun i hi hh=>x1 i hh i hi rfl
 have z1_2:∀i∈dNet.ids v1,i∉dPk.ids v2:=fun i hh hi=>x1 i hh i hi rfl
 have lt1:=dNet.lt h1
 have lt2:=dPk.lt h2
 simp [ones,one2]
 obtain ⟨G0,hG0⟩:∃G,G=H++[⟨[.int .i64 w,.int .i64 g,v1.1,v1.2.1.1,v1.2.1.2,v1.2.2.1.1,v1.2.2.2.1,v1.2.2.2.2.1,v1.2.2.2.2.2.1.1,v1.2.2.2.2.2.2.1.1,.int .i64 tm,v2],0,49⟩]:=⟨_,rfl⟩
 have b0:G0[H.length]? = some ⟨[.int .i64 w,.int .i64 g,v1.1,v1.2.1.1,v1.2.1.2,v1.2.2.1.1,v1.2.2.2.1,v1.2.2.2.2.1,v1.2.2.2.2.2.1.1,v1.2.2.2.2.2.2.1.1,.int .i64 tm,v2],0,49⟩:=by rw [hG0];simp
 have cH:Chg H G0 (dChip.ids (v1,v2)):=by rw [hG0];exact Chg.app _
 have h1:=(by rw [hG0];exact Dt.app (T:=dNet) h1:dNet.Ow G0 v1 ((w,g,b),r2,r3,r4,r5,r6,r7,tm))
 have h2:=(by rw [hG0];exact Dt.app (T:=dPk) h2:dPk.Ow G0 v2 a2)
 rw [← hG0]
 clear hG0
 have m1:=markNet_d (frz:=frz) (k:=k) h1 d1 (by omega) (fun i hi=>hf i (List.mem_append.2 (.inl hi)))
 simp only [dNet_val] at m1
 refine wp_thn m1 ?_
 rintro _ G1 ⟨n1,a1',rfl,hn1,hv1,o1,c1,he1⟩
 clear m1
 have b0:=box_chg b0 c1 (fun hh=>by have:=lt1 _ hh;omega)
 have h2:=Dt.chg (T:=dPk) h2 c1 z2_1
 have cH:=cH.trans (c1.mono (fun i hi=>List.mem_append.2 (.inl hi)))
 have m2:=markPk_d (frz:=frz) (k:=k+n1) h2 d2 (by omega) (fun i hi=>hf i (List.mem_append.2 (.inr hi)))
 simp [VM.look,b0,ones,one2]
 refine wp_thn m2 ?_
 rintro _ G2 ⟨n2,a2',rfl,hn2,hv2,o2,c2,he2⟩
 clear m2
 have o1:=Dt.chg (T:=dNet) o1 c2 z1_2
 have cH:=cH.trans (c2.mono (fun i hi=>List.mem_append.2 (.inr hi)))
 simp
 obtain ⟨⟨w',g',b'⟩,s2,s3,s4,s5,s6,s7,tm'⟩:=a1'
 obtain ⟨e1,e2,e3⟩:w'=w∧g'=g∧tm'=tm:=by simpa [dNet_val] using hv1
 subst e1 e2 e3
 refine ⟨n1+n2,(((w',g',b'),s2,s3,s4,s5,s6,s7,tm'),a2'),by congr 1;omega,by omega,by rw [dChip_val,dChip_val],⟨o1,o2⟩,cH,fun F H3 q=>?_⟩
 obtain ⟨p1,p2⟩:=q
 simp only at p1 p2
 rw [dChip_val]
 rw [vcall_go (fn:=Tryz.f13) Tryz.func13 rfl (by kernel_rfl) rfl]
 have y1:=fun F=>he1 F (H3++[⟨[.int .i64 w',.int .i64 g',v1.1,v1.2.1.1,v1.2.1.2,v1.2.2.1.1,v1.2.2.2.1,v1.2.2.2.2.1,v1.2.2.2.2.2.1.1,v1.2.2.2.2.2.2.1.1,.int .i64 tm',v2],0,49⟩]) (Dt.app (T:=dNet) p1)
 simp only [dNet_val] at y1
 have f1:¬k+n1<0:=by omega
 have y2:=fun F=>he2 F (H3++[⟨[.int .i64 w',.int .i64 g',v1.1,v1.2.1.1,v1.2.1.2,v1.2.2.1.1,v1.2.2.2.1,v1.2.2.2.2.1,v1.2.2.2.2.2.1.1,v1.2.2.2.2.2.2.1.1,.int .i64 tm',v2],0,49⟩]) (Dt.app (T:=dPk) p2)
 simp only [show ∀(v:Value) (a:List PkD),dPk.val v a=v from fun _ _=>rfl] at y2
 have f2:¬k+n1+n2<0:=by omega
 simp [ones,one2,y1,f1]
 simp [ones,one2,y2,f2]
 omega
def alongP (x g:Int):Int:=if x<g then 1 else if g<x then 3 else -1
def acrossP (y g:Int):Int:=if y<g then 2 else if g<y then 0 else -1
def stdPort (w r a to:Int):Int:=
 if a=to then 4 else
 if acrossP (a/w) (to/w)<0∨(0≤alongP (a%w) (to%w)∧((if r=4 then 1+to%2 else r)=1∨((if r=4 then 1+to%2 else r)=3∧alongP (a%w) (to%w)=3))) then alongP (a%w) (to%w) else acrossP (a/w) (to/w)
def stdTab (w r:Int) (n:Nat):List Int:=(List.range (n*n)).map fun i=>stdPort w r (i/n:Nat) (i%n:Nat)
theorem stdTab_len (w r:Int) (n:Nat):(stdTab w r n).length=n*n:=by simp [stdTab]
theorem along_c (x g:Int):vcall C frz 251 [.int .i64 x,.int .i64 g] H=some (.int .i64 (alongP x g),H):=by
 rw [vcall_go (fn:=Tryz.f251) Tryz.func251 rfl (by kernel_rfl) rfl]
 simp
 refine br_dec _ ?_ ?_<;>intro h1<;>simp [h1,alongP]
 refine br_dec _ ?_ ?_<;>intro h2<;>simp [h2]
theorem across_c (x g:Int):vcall C frz 252 [.int .i64 x,.int .i64 g] H=some (.int .i64 (acrossP x g),H):=by
 rw [vcall_go (fn:=Tryz.f252) Tryz.func252 rfl (by kernel_rfl) rfl]
 simp
 refine br_dec _ ?_ ?_<;>intro h1<;>simp [h1,acrossP]
 refine br_dec _ ?_ ?_<;>intro h2<;>simp [h2]
theorem stdPort_c (w h r a to:Int) (hr:1≤r∧r≤4) (ha:isN w h a) (hto:isN w h to) :
 vcall C frz 224 [.agg #[.int .i64 w,.int .i64 h],.int .i64 r,.int .i64 a,.int .i64 to] H=some (.int .i64 (stdPort w r a to),H):=by
 rw [vcall_go (fn:=Tryz.f224) Tryz.func224 rfl (by kernel_rfl) rfl]
 obtain ⟨hg,a0,_,a1⟩:=isN_ok ha
 obtain ⟨_,t0,_,t1⟩:=isN_ok hto
 have hw:=hg.1
 have hir:inR 1 r 4:=hr
 have wz:¬w=0:=by omega
 have e1:a.tmod w=a%w:=Int.tmod_eq_emod_of_nonneg a0
 have e2:to.tmod w=to%w:=Int.tmod_eq_emod_of_nonneg t0
 have e3:a.tdiv w=a/w:=Int.tdiv_eq_ediv_of_nonneg a0
 have e4:to.tdiv w=to/w:=Int.tdiv_eq_ediv_of_nonneg t0
 have e5:to.tmod 2=to%2:=Int.tmod_eq_emod_of_nonneg t0
 have d1:0≤a/w∧a/w≤a:=⟨Int.ediv_nonneg a0 (by omega),Int.ediv_le_self _ a0⟩
 have d2:0≤to/w∧to/w≤to:=⟨Int.ediv_nonneg t0 (by omega),Int.ediv_le_self _ t0⟩
 have f3:=@w6 (a/w) (by omega)
 have f4:=@w6 (to/w) (by omega)
 have f5:=@w6 (1+to%2) (by omega)
 simp [isNode_c,ha,hto,inside_c,hir]
 refine br_dec _ ?_ ?_<;>intro h4
 ·subst h4
  simp [e5,f5]
  rw [go_draw (h:=by kernel_rfl)]
  simp [VM.look,wz,e1,e2,e3,e4,f3,f4,along_c,across_c]
  refine br_dec _ ?_ ?_<;>intro h5
  ·simp [h5,stdPort]
  ·have est:stdPort w 4 a to=if acrossP (a/w) (to/w)<0∨(0≤alongP (a%w) (to%w)∧(1+to%2=1∨(1+to%2=3∧alongP (a%w) (to%w)=3))) then alongP (a%w) (to%w) else acrossP (a/w) (to/w):=by simp [stdPort,h5]
   rw [est]
   generalize alongP (a%w) (to%w)=X
   generalize acrossP (a/w) (to/w)=Y
   generalize 1+to%2=R
   simp
   by_cases q1:Y<0
   ·simp [q1]
   ·by_cases q2:0≤X
    ·by_cases q3:R=1
     ·simp [q1,q2,q3]
     ·by_cases q4:R=3
      ·by_cases q5:X=3
       ·simp [q1,q2,q3,q4,q5]
       ·simp [q1,q2,q3,q4,q5]
      ·simp [q1,q2,q3,q4]
    ·simp [q1,q2]
 ·simp [h4]
  rw [go_draw (h:=by kernel_rfl)]
  simp [VM.look,wz,e1,e2,e3,e4,f3,f4,along_c,across_c]
  refine br_dec _ ?_ ?_<;>intro h5
  ·simp [h5,stdPort]
  ·have est:stdPort w r a to=if acrossP (a/w) (to/w)<0∨(0≤alongP (a%w) (to%w)∧(r=1∨(r=3∧alongP (a%w) (to%w)=3))) then alongP (a%w) (to%w) else acrossP (a/w) (to/w):=by simp [stdPort,h4,h5]
   rw [est]
   generalize alongP (a%w) (to%w)=X
   generalize acrossP (a/w) (to/w)=Y
   simp
   by_cases q1:Y<0
   ·simp [q1]
   ·by_cases q2:0≤X
    ·by_cases q3:r=1
     ·simp [q1,q2,q3]
     ·by_cases q4:r=3
      ·by_cases q5:X=3
       ·simp [q1,q2,q3,q4,q5]
       ·simp [q1,q2,q3,q4,q5]
      ·simp [q1,q2,q3,q4]
    ·simp [q1,q2]
theorem stdTable_w (w h r:Int) (n:Nat) (hr:1≤r∧r≤4) (hg:okG w h) (hn:cnt w h=n) :
 wp (vcall C frz 179 [.agg #[.int .i64 w,.int .i64 h],.int .i64 r] H) (Made2 dTable H (stdTab w r n) true):=by
 rw [vcall_go (fn:=Tryz.f179) Tryz.func179 rfl (by kernel_rfl) rfl]
 have hc:=cnt_range w h
 have hir:inR 1 r 4:=hr
 have hn2:n*n≤256:=Nat.mul_le_mul (show n≤16 by omega) (show n≤16 by omega)
 simp [gridOk_c,hg,inside_c,hir,nodeCount_c,hn]
 refine wp_inv (fun m t H'=>∃(i:Nat) (vo:Value) (o:List Int),m=n-i∧i≤n∧o=(List.range (i*n)).map (fun i=>stdPort w r (i/n:Nat) (i%n:Nat))∧
  t 1=.int .i64 r∧t 2=.pointer (some ⟨H.length,0,some 0⟩)∧t 4=.pointer (some ⟨H.length+1,0,some 0⟩)∧t 6=.pointer (some ⟨H.length+2,0,some 0⟩)∧t 20=.int .i64 n∧t 21=.int .i64 i∧
  Chg H H' []∧H'[H.length]? = some ⟨[.int .i64 w,.int .i64 h],0,38⟩∧H'[H.length+1]? = some ⟨[.slice none 0 0],0,41⟩∧H'[H.length+2]? = some ⟨[vo],0,41⟩∧
  Ow Fl.int 3 H' vo o∧(∀i∈ids vo,H.length+2<i)) ?_ (n:=n) ⟨0,.slice none 0 0,[],by simp,by omega,by simp,by simp,by simp,by simp,by simp,by simp,by simp,Chg.app _,by simp,by simp,by simp,.inl ⟨rfl,rfl⟩,by simp⟩
 rintro m t H' ⟨i,vo,o,rfl,hi,ho,h1,h2,h4,h6,h20,h21,c0,b2,b4,b6,oo,no⟩ ih
 simp [h1,h2,h4,h6,h20,h21]
 refine wp_dec ?_ ?_<;>intro hin
 ·have hin':i<n:=by omega
  simp [h1,h2,h4,h6,h20,h21,VM.look,b2,nodeCount_c,hn]
  refine wp_inv (fun m t H'=>∃(j:Nat) (vo:Value) (o:List Int),m=n-j∧j≤n∧o=(List.range (i*n+j)).map (fun i=>stdPort w r (i/n:Nat) (i%n:Nat))∧
   t 1=.int .i64 r∧t 2=.pointer (some ⟨H.length,0,some 0⟩)∧t 4=.pointer (some ⟨H.length+1,0,some 0⟩)∧t 6=.pointer (some ⟨H.length+2,0,some 0⟩)∧t 20=.int .i64 n∧t 21=.int .i64 i∧
   t 7=.int .i64 i∧t 25=.int .i64 n∧t 26=.int .i64 j∧
   Chg H H' []∧H'[H.length]? = some ⟨[.int .i64 w,.int .i64 h],0,38⟩∧H'[H.length+1]? = some ⟨[.slice none 0 0],0,41⟩∧H'[H.length+2]? = some ⟨[vo],0,41⟩∧
   Ow Fl.int 3 H' vo o∧(∀i∈ids vo,H.length+2<i)) ?_ (n:=n) ⟨0,vo,o,by simp,by omega,by simpa using ho,by simp [h1],by simp [h2],by simp [h4],by simp [h6],by simp [h20],by simp [h21],by simp,by simp,by simp,c0,b2,b4,b6,oo,no⟩
  clear h1 h2 h4 h6 h20 h21 c0 b2 b4 b6 oo no ho
  rintro m t H' ⟨j,vo,o,rfl,hj,ho,h1,h2,h4,h6,h20,h21,h7,h25,h26,c0,b2,b4,b6,oo,no⟩ ih2
  simp [h1,h2,h4,h6,h20,h21,h7,h25,h26]
  refine wp_dec ?_ ?_<;>intro hjn
  ·have hjn':j<n:=by omega
   have hol:o.length=i*n+j:=by rw [ho];simp
   have hsm:i*n+j<n*n:=by
    have:=Nat.mul_le_mul_right n (show i+1≤n by omega)
    rw [Nat.succ_mul] at this;omega
   have hdv:(i*n+j)/n=i:=by rw [Nat.mul_comm,Nat.mul_add_div (by omega),Nat.div_eq_of_lt hjn'];omega
   have hmd:(i*n+j)%n=j:=by rw [Nat.mul_comm,Nat.mul_add_mod,Nat.mod_eq_of_lt hjn']
   have sp:=fun F L=>stdPort_c (frz:=F) (H:=L) w h r i j hr ⟨by omega,by omega⟩ ⟨by omega,by omega⟩
   have hx:stdPort w r ((i*n+j)/n:Nat) ((i*n+j)%n:Nat)=stdPort w r i j:=by rw [hdv,hmd]
   simp [h1,h2,h4,h6,h20,h21,h7,h25,h26]
   rw [go_draw (h:=by kernel_rfl)]
   obtain ⟨vo',H3,e3,oo3,c3,n3⟩:=oo.push (P:=Tryz.prog) (frz:=H.length) (ty:=24) (a:=stdPort w r i j) (by simp) rfl (by omega) (fun i hi=>by have:=no i hi;omega)
   simp only [Fl.int_f] at e3
   have lc:=box_lt b6
   have b2':=box_chg b2 c3 (fun hh=>by have:=no _ hh;omega)
   have b4':=box_chg b4 c3 (fun hh=>by have:=no _ hh;omega)
   have b6':=box_chg b6 c3 (fun hh=>by have:=no _ hh;omega)
   have no3:∀i∈ids vo',H.length+2<i:=fun i hi=>by rcases n3 i hi with h|h;exact no i h;omega
   have one:=And.intro oo.rd.one' oo.rd.cells
   have one3:=And.intro oo3.rd.one' oo3.rd.cells
   have hF:H.length≤H.length+2:=by omega
   simp [VM.look,b2,b6,sp,one,e3,b6',one3,h1,h2,h4,h6,h20,h21,h7,h25,h26]
   refine ih2 (n-(j+1)) _ _ ⟨j+1,vo',o++[stdPort w r i j],rfl,by omega,?_,by simp [h1],by simp [h2],by simp [h4],by simp [h6],by simp [h20],by simp [h21],by simp [h7],by simp [h25],?_,
    (c0.trans' c3 (fun i hi=>.inr (by have:=no i hi;omega))).trans' (chg_set _ _) (fun i hi=>.inr (by simp at hi;omega)),box_chg b2' (chg_set _ _) (by simp),box_chg b4' (chg_set _ _) (by simp),set_get b6',
    oo3.chg (chg_set _ _) (fun i hi hh=>by have:=no3 i hi;simp at hh;omega),no3⟩ (by omega)
   ·rw [← Nat.add_assoc,List.range_succ,List.map_append,← ho];simp only [List.map_cons,List.map_nil,hdv,hmd]
   ·simp;rw [w64 (by omega) (by omega)]
  ·have:j=n:=by omega
   subst this
   simp [h1,h2,h4,h6,h20,h21,h7,h25,h26]
   refine ih (j-(i+1)) _ _ ⟨i+1,vo,o,rfl,by omega,by rw [Nat.succ_mul];exact ho,by simp [h1],by simp [h2],by simp [h4],by simp [h6],by simp [h20],?_,c0,b2,b4,b6,oo,no⟩ (by omega)
   simp;rw [w64 (by omega) (by omega)]
 ·have:i=n:=by omega
  subst this
  have lc:=box_lt b6
  have one:=And.intro oo.rd.one' oo.rd.cells
  have g4:=set_get (r':=⟨[vo],0,41⟩) b4
  have hol:o.length=i*i:=by rw [ho];simp
  have hF:H.length≤H.length+1:=by omega
  simp [h1,h2,h4,h6,h20,h21,VM.look,b6,b4,one,g4,hF]
  exact ⟨.agg #[vo],rfl,vo,rfl,⟨(by rw [show stdTab w r i=o from ho.symm];exact oo.chg (chg_set _ _) (fun i hi hh=>by have:=no i hi;simp at hh;omega)),by rw [stdTab_len];omega⟩,c0.trans' (chg_set _ _) (fun i hi=>.inr (by simp at hi;omega)),fun i hi=>by have:=no i hi;omega,ids_nodup vo⟩
theorem std_law (w r a to:Int) (hw:1≤w) (ha:0≤a) (ht:0≤to) (hne:a≠to) (R:Int) (hR:R=if r=4 then 1+to%2 else r) :
 stdPort w r a to=(if (if R=2 then a/w=to/w else if R=3 then to%w<a%w∨a/w=to/w else a%w≠to%w) then (if to%w<a%w then 3 else 1) else (if to/w<a/w then 0 else 2))∨¬(1≤R∧R≤3):=by
 have h1:=Int.emod_add_mul_ediv a w
 have h2:=Int.emod_add_mul_ediv to w
 have h3:¬(a%w=to%w∧a/w=to/w):=fun ⟨e1,e2⟩=>hne (by rw [← h1,← h2,e1,e2])
 unfold stdPort
 rw [if_neg hne,← hR]
 generalize a%w=X at *
 generalize to%w=U at *
 generalize a/w=Y at *
 generalize to/w=V at *
 by_cases hr:1≤R∧R≤3
 rotate_left
 ·exact .inr hr
 left
 unfold alongP acrossP
 obtain rfl|rfl|rfl:R=1∨R=2∨R=3:=by omega
 all_goals simp
 all_goals (repeat' split)<;>first|rfl|omega
theorem l05Column_c (x g:Int):vcall C frz 177 [.int .i64 x,.int .i64 g] H=some (.int .i64 (if g<x then 3 else 1),H):=by
 rw [vcall_go (fn:=Tryz.f177) Tryz.func177 rfl (by kernel_rfl) rfl]
 simp
 refine br_dec _ ?_ ?_<;>intro h1<;>simp [h1]
theorem l05Row_c (x g:Int):vcall C frz 178 [.int .i64 x,.int .i64 g] H=some (.int .i64 (if g<x then 0 else 2),H):=by
 rw [vcall_go (fn:=Tryz.f178) Tryz.func178 rfl (by kernel_rfl) rfl]
 simp
 refine br_dec _ ?_ ?_<;>intro h1<;>simp [h1]
theorem l05Port_c (w h r a to:Int) (hr:1≤r∧r≤4) (ha:isN w h a) (hto:isN w h to) :
 vcall C frz 128 [.agg #[.int .i64 w,.int .i64 h],.int .i64 r,.int .i64 a,.int .i64 to] H=some (.int .i64 (stdPort w r a to),H):=by
 rw [vcall_go (fn:=Tryz.f128) Tryz.func128 rfl (by kernel_rfl) rfl]
 obtain ⟨hg,a0,_,a1⟩:=isN_ok ha
 obtain ⟨_,t0,_,t1⟩:=isN_ok hto
 have hw:=hg.1
 have wz:¬w=0:=by omega
 have e1:a.tmod w=a%w:=Int.tmod_eq_emod_of_nonneg a0
 have e2:to.tmod w=to%w:=Int.tmod_eq_emod_of_nonneg t0
 have e3:a.tdiv w=a/w:=Int.tdiv_eq_ediv_of_nonneg a0
 have e4:to.tdiv w=to/w:=Int.tdiv_eq_ediv_of_nonneg t0
 have e5:to.tmod 2=to%2:=Int.tmod_eq_emod_of_nonneg t0
 have d1:0≤a/w∧a/w≤a:=⟨Int.ediv_nonneg a0 (by omega),Int.ediv_le_self _ a0⟩
 have d2:0≤to/w∧to/w≤to:=⟨Int.ediv_nonneg t0 (by omega),Int.ediv_le_self _ t0⟩
 have f3:=@w6 (a/w) (by omega)
 have f4:=@w6 (to/w) (by omega)
 have f5:=@w6 (1+to%2) (by omega)
 have key:a≠to→∀R,(R=if r=4 then 1+to%2 else r)→1≤R→R≤3→stdPort w r a to=if (if R=2 then a/w=to/w else if R=3 then to%w<a%w∨a/w=to/w else a%w≠to%w) then (if to%w<a%w then 3 else 1) else (if to/w<a/w then 0 else 2):=fun hne R hR r1 r2=>by
  rcases std_law w r a to hw.1 a0 t0 hne R hR with h|h
  ·exact h
  ·exact absurd ⟨r1,r2⟩ h
 simp [VM.look,wz,e1,e2,e3,e4,f3,f4]
 by_cases h4:a=to
 ·subst h4;simp [stdPort]
 have key:=key h4
 clear e1 e2 e3 e4 f3 f4
 generalize a%w=X at *
 generalize to%w=U at *
 generalize a/w=Y at *
 generalize to/w=V at *
 generalize stdPort w r a to=Z at *
 simp [h4]
 have k1:∀[Inhabited Unit],IntKind.i64.wrap 1=1:=by intro _;exact w64 (by omega) (by omega)
 have k2:∀[Inhabited Unit],IntKind.i64.wrap 2=2:=by intro _;exact w64 (by omega) (by omega)
 by_cases r4:r=4
 ·have key:=key _ (if_pos r4).symm (by omega) (by omega)
  have m2:to%2=0∨to%2=1:=by omega
  rcases m2 with m2|m2<;>simp only [m2] at key f5
  ·simp [r4,e5,m2,f5,l05Column_c,l05Row_c,k1,k2]
   by_cases h5:X=U<;>simp [h5] at key<;>simp [h5,key,l05Column_c,l05Row_c,k1,k2]
  ·simp [r4,e5,m2,f5,l05Column_c,l05Row_c,k1,k2]
   by_cases h5:Y=V<;>simp [h5] at key<;>simp [h5,key,l05Column_c,l05Row_c,k1,k2]
 ·have key:=key _ (if_neg r4).symm (by omega) (by omega)
  obtain rfl|rfl|rfl:r=1∨r=2∨r=3:=by omega
  ·simp [l05Column_c,l05Row_c,k1,k2]
   by_cases h5:X=U<;>simp [h5] at key<;>simp [h5,key,l05Column_c,l05Row_c,k1,k2]
  ·simp [l05Column_c,l05Row_c,k1,k2]
   by_cases h5:Y=V<;>simp [h5] at key<;>simp [h5,key,l05Column_c,l05Row_c,k1,k2]
  ·simp [l05Column_c,l05Row_c,k1,k2]
   by_cases h5:U<X
   ·simp [h5] at key;simp [h5,key,l05Column_c,l05Row_c,k1,k2]
   ·by_cases h6:Y=V<;>simp [h5,h6] at key<;>simp [h5,h6,key,l05Column_c,l05Row_c,k1,k2]
end Go.Proofs.YtcigpclbhfkgaaaGreat.V
set_option linter.all false
namespace Go.Proofs.YtcigpclbhfkgaaaGreat.V
open Go Go.VM Go.Proofs
set_option maxRecDepth 100000
end Go.Proofs.YtcigpclbhfkgaaaGreat.V
set_option linter.all false
namespace Go.Proofs.YtcigpclbhfkgaaaGreat.V
open Go Go.VM Go.Proofs
set_option maxRecDepth 10000
variable {frz:Nat} {H:Heap}
theorem l05Make_w (w h r:Int) (n:Nat) (hr:1≤r∧r≤4) (hg:okG w h) (hn:cnt w h=n) :
 wp (vcall C frz 76 [.agg #[.int .i64 w,.int .i64 h],.int .i64 r] H) (dTable.Made H (stdTab w r n)):=by
 rw [vcall_go (fn:=Tryz.f76) Tryz.func76 rfl (by kernel_rfl) rfl]
 have hc:=cnt_range w h
 have hn2:n*n≤256:=Nat.mul_le_mul (show n≤16 by omega) (show n≤16 by omega)
 have hn2':(n:Int)*(n:Int)≤256:=by
  have:((n*n:Nat):Int)≤256:=by omega
  rwa [Int.natCast_mul] at this
 obtain ⟨M,hM⟩:∃M:Nat,M=n*n:=⟨_,rfl⟩
 have eM:∀[Inhabited Unit],IntKind.i64.wrap ((n:Int)*n)=(M:Int):=by intro _;rw [hM,Int.natCast_mul];exact w64 (by have:=Int.natCast_nonneg (n*n);rw [Int.natCast_mul] at this;omega) (by omega)
 simp [sNodeCount_c,hn]
 refine wp_inv (fun m t H'=>∃(i:Nat) (vo:Value) (o:List Int),m=M-i∧i≤M∧o=(List.range i).map (fun i=>stdPort w r (i/n:Nat) (i%n:Nat))∧
  t 1=.int .i64 r∧t 2=.pointer (some ⟨H.length,0,some 0⟩)∧t 4=.pointer (some ⟨H.length+1,0,some 0⟩)∧t 5=.pointer (some ⟨H.length+2,0,some 0⟩)∧t 6=.int .i64 n∧t 7=.int .i64 i∧
  Chg H H' []∧H'[H.length]? = some ⟨[.int .i64 w,.int .i64 h],0,38⟩∧H'[H.length+1]? = some ⟨[.slice none 0 0],0,41⟩∧H'[H.length+2]? = some ⟨[vo],0,41⟩∧
  Ow Fl.int 3 H' vo o∧(∀i∈ids vo,H.length+2<i)) ?_ (n:=M) ⟨0,.slice none 0 0,[],by simp,by omega,by simp,by simp,by simp,by simp,by simp,by simp,by simp,Chg.app _,by simp,by simp,by simp,.inl ⟨rfl,rfl⟩,by simp⟩
 rintro m t H' ⟨i,vo,o,rfl,hi,ho,h1,h2,h4,h5,h6,h7,c0,b2,b4,b6,oo,no⟩ ih
 simp [h1,h2,h4,h5,h6,h7,eM]
 refine wp_dec ?_ ?_<;>intro hin
 ·have hin':i<M:=by omega
  have hn0:0<n:=by
   rcases Nat.eq_zero_or_pos n with h0|h0
   ·rw [h0] at hM;omega
   ·exact h0
  have hol:o.length=i:=by rw [ho];simp
  have q1:i/n<n:=by rw [Nat.div_lt_iff_lt_mul hn0];omega
  have q2:i%n<n:=Nat.mod_lt _ hn0
  have d1:∀[Inhabited Unit],IntKind.i64.wrap ((i:Int)/(n:Int))=((i/n:Nat):Int):=by intro _;rw [← Int.natCast_ediv];exact w64 (by have:=Int.natCast_nonneg (i/n);omega) (by have:=Int.ofNat_lt.2 q1;omega)
  have d2:(i:Int).tmod n=((i%n:Nat):Int):=by rw [Int.tmod_eq_emod_of_nonneg (by omega)];rfl
  have d3:(i:Int).tdiv n=(i:Int)/n:=Int.tdiv_eq_ediv_of_nonneg (by omega)
  have nz:¬(n:Int)=0:=by omega
  have nz':¬n=0:=by omega
  have sp:=fun F=>l05Port_c (frz:=F) (H:=H') w h r ((i/n:Nat):Int) ((i%n:Nat):Int) hr ⟨Int.natCast_nonneg _,by rw [hn];exact Int.ofNat_lt.2 q1⟩ ⟨Int.natCast_nonneg _,by rw [hn];exact Int.ofNat_lt.2 q2⟩
  obtain ⟨X,hX⟩:∃X,X=((i/n:Nat):Int):=⟨_,rfl⟩
  obtain ⟨Y,hY⟩:∃Y,Y=((i%n:Nat):Int):=⟨_,rfl⟩
  rw [← hX] at d1
  rw [← hY] at d2
  rw [← hX,← hY] at sp
  simp
  rw [go_draw (h:=by kernel_rfl)]
  obtain ⟨vo',H3,e3,oo3,c3,n3⟩:=oo.push (P:=Tryz.prog) (frz:=H.length) (ty:=24) (a:=stdPort w r X Y) (by simp) rfl (by omega) (fun i hi=>by have:=no i hi;omega)
  simp only [Fl.int_f] at e3
  have lc:=box_lt b6
  have b2':=box_chg b2 c3 (fun hh=>by have:=no _ hh;omega)
  have b4':=box_chg b4 c3 (fun hh=>by have:=no _ hh;omega)
  have b6':=box_chg b6 c3 (fun hh=>by have:=no _ hh;omega)
  have no3:∀i∈ids vo',H.length+2<i:=fun i hi=>by rcases n3 i hi with h|h;exact no i h;omega
  have one:=And.intro oo.rd.one' oo.rd.cells
  have one3:=And.intro oo3.rd.one' oo3.rd.cells
  have hF:H.length≤H.length+2:=by omega
  simp [-vappend_nil,-vappend_mk,VM.look,b2,b6,sp,one,e3,b6',one3,h1,h2,h4,h5,h6,h7,d1,d2,d3,nz,nz',hF]
  refine ih (M-(i+1)) _ _ ⟨i+1,vo',o++[stdPort w r X Y],rfl,by omega,?_,by simp [h1],by simp [h2],by simp [h4],by simp [h5],by simp [h6],?_,
   (c0.trans' c3 (fun i hi=>.inr (by have:=no i hi;omega))).trans' (chg_set _ _) (fun i hi=>.inr (by simp at hi;omega)),box_chg b2' (chg_set _ _) (by simp),box_chg b4' (chg_set _ _) (by simp),set_get b6',
   oo3.chg (chg_set _ _) (fun i hi hh=>by have:=no3 i hi;simp at hh;omega),no3⟩ (by omega)
  ·rw [List.range_succ,List.map_append,← ho];simp only [List.map_cons,List.map_nil,hX,hY]
  ·simp [h7];rw [w64 (by omega) (by omega)]
 ·have:i=M:=by omega
  subst this
  have lc:=box_lt b6
  have one:=And.intro oo.rd.one' oo.rd.cells
  have g4:=set_get (r':=⟨[vo],0,41⟩) b4
  have hol:o.length=i:=by rw [ho];simp
  have hF:H.length≤H.length+1:=by omega
  simp [h1,h2,h4,h5,h6,h7,VM.look,b6,b4,one,g4,hF]
  exact ⟨vo,rfl,⟨(by rw [show stdTab w r n=o from by rw [ho,hM];rfl];exact oo.chg (chg_set _ _) (fun i hi hh=>by have:=no i hi;simp at hh;omega)),by rw [stdTab_len];omega⟩,c0.trans' (chg_set _ _) (fun i hi=>.inr (by simp at hi;omega)),fun i hi=>by have:=no i hi;omega,ids_nodup vo⟩
def tabs (x:NetD) (p q:Int):ClassesD:=(stdTab x.1.1 p (cnt x.1.1 x.1.2.1).toNat,stdTab x.1.1 q (cnt x.1.1 x.1.2.1).toNat)
def ruledOk (x:NetD) (p q:Int):Prop:=¬0<x.1.2.2.length∧replOk x (tabs x p q)
instance (x:NetD) (p q:Int):Decidable (ruledOk x p q):=inferInstanceAs (Decidable (_∧_))
def ruledN (x:NetD) (p q:Int):NetD:=if 0<x.1.2.2.length then x else repl x (tabs x p q)
def zNet:List Value:=[.int .i64 0,.int .i64 0,.slice none 0 0,.slice none 0 0,.slice none 0 0,.slice none 0 0,.slice none 0 0,.slice none 0 0,.slice none 0 0,.slice none 0 0,.int .i64 0]
def NetPost (H:Heap) (v:NetV) (y:NetD) (b:Bool) (r:Value) (H':Heap):Prop:=
 ∃w:NetV,r=.tuple #[dNet.val w y,.bool b]∧dNet.Ow H' w y∧(dNet.ids w).Nodup∧(∀i∈dNet.ids w,i∈dNet.ids v∨H.length≤i)∧Chg H H' []
theorem ruled_w {v:NetV} {x:NetD} {p q:Int} (hp:1≤p∧p≤4) (hq:1≤q∧q≤4) (hg:okG x.1.1 x.1.2.1) (o:dNet.Ow H v x) (nd:(dNet.ids v).Nodup) :
 wp (vcall C frz 133 [dNet.val v x,.int .i64 p,.int .i64 q] H) (NetPost H v (ruledN x p q) (decide (ruledOk x p q))):=by
 have ones:=dNet_one o
 have hlt:=dNet.lt o
 have st1:=fun K=>stdTable_w (frz:=H.length) (H:=K) x.1.1 x.1.2.1 p (cnt x.1.1 x.1.2.1).toNat hp hg (by have:=cnt_range x.1.1 x.1.2.1;omega)
 have st2:=fun K=>stdTable_w (frz:=H.length) (H:=K) x.1.1 x.1.2.1 q (cnt x.1.1 x.1.2.1).toNat hq hg (by have:=cnt_range x.1.1 x.1.2.1;omega)
 have et:tabs x p q=(stdTab x.1.1 p (cnt x.1.1 x.1.2.1).toNat,stdTab x.1.1 q (cnt x.1.1 x.1.2.1).toNat):=rfl
 simp only [dNet_val]
 rw [vcall_go (fn:=Tryz.f133) Tryz.func133 rfl (by kernel_rfl) rfl]
 obtain ⟨G,hG⟩:∃G,G=H++[⟨netCells v x,0,46⟩,⟨zNet,0,46⟩]:=⟨_,rfl⟩
 have cG:Chg H G []:=by rw [hG];exact Chg.app _
 have b0:G[H.length]? = some ⟨netCells v x,0,46⟩:=by rw [hG];simp
 have bR:G[H.length+1]? = some ⟨zNet,0,46⟩:=by rw [hG];simp
 have lG:G.length=H.length+2:=by rw [hG];simp
 have hGs:=hG.symm
 have b0':=b0
 unfold netCells zNet at hGs
 unfold netCells at b0'
 simp [ones]
 rw [hGs]
 clear hG hGs
 try simp [VM.look,b0',ones]
 refine wp_thn (st1 G) ?_
 rintro _ K1 ⟨_,rfl,v1,rfl,o1,c1,m1,d1⟩
 have q1:=dTable_one o1
 have l1:=c1.1
 have hF1:H.length≤K1.length:=by omega
 obtain ⟨K2,hK2⟩:∃K2,K2=K1++[⟨[v1],0,41⟩]:=⟨_,rfl⟩
 have c12:Chg K1 K2 []:=by rw [hK2];exact Chg.app _
 have l2:K2.length=K1.length+1:=by rw [hK2];simp
 have bA:K2[K1.length]? = some ⟨[v1],0,41⟩:=by rw [hK2];simp
 have b0:=box_chg (box_chg b0 c1 (by simp)) c12 (by simp)
 have bR:=box_chg (box_chg bR c1 (by simp)) c12 (by simp)
 have o1:=Dt.chg (T:=dTable) o1 c12 (by simp)
 have hKs:=hK2.symm
 have b0':=b0
 unfold netCells at b0'
 simp [dTable_val,q1,VM.look,hF1]
 rw [hKs]
 clear hK2 hKs
 simp [VM.look,b0',ones]
 refine wp_thn (st2 K2) ?_
 rintro _ K3 ⟨_,rfl,v2,rfl,o2,c3,m2,d2⟩
 have q2:=dTable_one o2
 have l3:=c3.1
 have hF3:H.length≤K3.length:=by omega
 obtain ⟨K4,hK4⟩:∃K4,K4=K3++[⟨[v2],0,41⟩]:=⟨_,rfl⟩
 have c34:Chg K3 K4 []:=by rw [hK4];exact Chg.app _
 have bB:K4[K3.length]? = some ⟨[v2],0,41⟩:=by rw [hK4];simp
 have b0:=box_chg (box_chg b0 c3 (by simp)) c34 (by simp)
 have bR:=box_chg (box_chg bR c3 (by simp)) c34 (by simp)
 have bA:=box_chg (box_chg bA c3 (by simp)) c34 (by simp)
 have o1:=Dt.chg (T:=dTable) (Dt.chg (T:=dTable) o1 c3 (by simp)) c34 (by simp)
 have o2:=Dt.chg (T:=dTable) o2 c34 (by simp)
 have cH4:Chg H K4 []:=(((cG.trans c1).trans c12).trans c3).trans c34
 have on4:=Dt.chg (T:=dNet) o cH4 (by simp)
 have ln:=on4.1.1.rd.len (P:=Tryz.prog) (ty:=24) (by simp)
 have hKs:=hK4.symm
 have b0':=b0
 unfold netCells at b0'
 have hF:H.length≤H.length+1:=by omega
 simp [dTable_val,q2,VM.look,hF3]
 rw [hKs]
 clear hK4 hKs
 simp [VM.look,b0',ones,ln]
 by_cases g:0<x.1.2.2.length
 ·have gR:=set_get (r':=⟨netCells v x,0,46⟩) bR
  have hM:NetPost H v (ruledN x p q) (decide (ruledOk x p q)) (.tuple #[dNet.val v x,.bool false]) (K4.set (H.length+1) ⟨netCells v x,0,46⟩):=by
   have e1:ruledN x p q=x:=if_pos g
   have e2:decide (ruledOk x p q)=false:=decide_eq_false (fun k=>k.1 g)
   rw [e1,e2]
   exact ⟨v,rfl,Dt.chg (T:=dNet) on4 (chg_set _ _) (fun i hi hh=>by have:=hlt i hi;simp at hh;omega),nd,fun i hi=>.inl hi,cH4.trans' (chg_set _ _) (fun i hi=>.inr (by simp at hi;omega))⟩
  unfold zNet at bR
  unfold netCells at gR hM
  simp only [dNet_val] at hM
  simp [VM.look,g,b0',bR,gR,ones,hF]
  simpa using hM
 ·have rp:=replace_d (frz:=H.length) on4 (vc:=(v1,v2)) (t:=tabs x p q) ⟨o1,o2⟩
  simp only [dNet_val,dClasses_val] at rp
  simp [VM.look,g,b0',bA,bB,ones,q1,q2]
  refine wp_thn rp ?_
  rintro _ K5 ⟨_,rfl,w,rfl,ow,cw,mw,dw⟩
  have l4:=cH4.1
  obtain ⟨y,hy⟩:∃y,y=repl x (tabs x p q):=⟨_,rfl⟩
  rw [← hy] at ow
  have onew:=dNet_one ow
  have bR:=box_chg bR cw (by simp)
  have lR:=box_lt bR
  have gR:=set_get (r':=⟨netCells w y,0,46⟩) bR
  have hM:NetPost H v (ruledN x p q) (decide (ruledOk x p q)) (.tuple #[dNet.val w y,.bool (decide (replOk x (tabs x p q)))]) (K5.set (H.length+1) ⟨netCells w y,0,46⟩):=by
   have e1:ruledN x p q=y:=by rw [hy];exact if_neg g
   have e2:decide (ruledOk x p q)=decide (replOk x (tabs x p q)):=by simp [ruledOk,g]
   rw [e1,e2]
   have l12:H.length+2≤K4.length:=by have:=c34.1;omega
   exact ⟨w,rfl,Dt.chg (T:=dNet) ow (chg_set _ _) (fun i hi hh=>by have:=mw i hi;simp at hh;omega),dw,fun i hi=>.inr (by have:=mw i hi;omega),(cH4.trans cw).trans' (chg_set _ _) (fun i hi=>.inr (by simp at hi;omega))⟩
  unfold zNet at bR
  unfold netCells at gR hM
  simp only [dNet_val] at hM
  simp [dNet_val,← hy,VM.look,bR,gR,onew,hF]
  simpa using hM
noncomputable def actN (a:ChipD) (k p q r s:Int):ChipD×Int:=
 if k=1 then (chipSend a p q r s,if sendsOk a (nextP a p q r s) then ((chipSend a p q r s).2.length:Int) else 0)
 else if k=2 then (chipRun a p,(flits (chipRun a p).1.2.2.1:Int)+flits (chipRun a p).1.2.2.2.2.2.1)
 else if k=3 then ((idled a.1,a.2),idleAt a.1)
 else if k=4 then ((brk a.1 p,a.2),if brkOk a.1 p then 1 else 0)
 else ((ruledN a.1 p q,a.2),if ruledOk a.1 p q then 1 else 0)
def ActPost (H:Heap) (v:ChipV) (id:Nat) (y:ChipD) (k:Int) (r:Value) (H':Heap):Prop:=
 r=.int .i64 k∧∃w:ChipV,H'[id]? = some ⟨chipCells w y,0,49⟩∧dChip.Ow H' w y∧(dChip.ids w).Nodup∧(∀i∈dChip.ids w,i∈dChip.ids v∨H.length≤i)∧Chg H H' [id]
theorem chip_net {H J:Heap} {v:ChipV} {a:ChipD} {id:Nat} {w:NetV} {y:NetD} {k k':Int} {z:ChipD} (o:dChip.Ow H v a) (nd:(dChip.ids v).Nodup) (hid:id<H.length) (hn:id∉dChip.ids v) (c:Chg H J []) (b:J[id]? = some ⟨chipCells v a,0,49⟩)
 (ow:dNet.Ow J w y) (dw:(dNet.ids w).Nodup) (mw:∀i∈dNet.ids w,i∈dNet.ids v.1∨H.length≤i) (e:z=(y,a.2)) (ek:k'=k) :
 ActPost H v id z k' (.int .i64 k) (J.set id ⟨chipCells (w,v.2) (y,a.2),0,49⟩):=by
 subst e ek
 have hlt:=dChip.lt o
 obtain ⟨n1,n2,n3⟩:=List.nodup_append.1 nd
 have cs:Chg J (J.set id ⟨chipCells (w,v.2) (y,a.2),0,49⟩) [id]:=chg_set _ _
 have hw:id∉dNet.ids w:=fun hh=>by
  rcases mw id hh with h|h
  ·exact hn (List.mem_append_left _ h)
  ·omega
 refine ⟨rfl,(w,v.2),set_get b,⟨Dt.chg (T:=dNet) ow cs (fun i hi hh=>by simp at hh;exact hw (hh▸hi)),Dt.chg (T:=dPk) (Dt.chg (T:=dPk) o.2 c (by simp)) cs (fun i hi hh=>by simp at hh;exact hn (List.mem_append_right _ (hh▸hi)))⟩,?_,fun i hi=>?_,(c.mono (fun _ h=>by cases h)).trans cs⟩
 ·refine List.nodup_append.2 ⟨dw,n2,fun x hx z hz e=>?_⟩
  subst e
  rcases mw x hx with h|h
  ·exact n3 x h x hz rfl
  ·have:=hlt x (List.mem_append_right _ hz);omega
 ·rcases List.mem_append.1 hi with h|h
  ·exact (mw i h).imp (fun h=>List.mem_append_left _ h) _root_.id
  ·exact .inl (List.mem_append_right _ h)
theorem chip_new {H J:Heap} {v w:ChipV} {y z:ChipD} {id:Nat} {k k':Int} {r:Row} (hid:id<H.length) (c:Chg H J []) (b:J[id]? = some r) (ow:dChip.Ow J w y) (dw:(dChip.ids w).Nodup) (mw:∀i∈dChip.ids w,H.length≤i) (e:z=y) (ek:k'=k) :
 ActPost H v id z k' (.int .i64 k) (J.set id ⟨chipCells w y,0,49⟩):=by
 subst e ek
 exact ⟨rfl,w,set_get b,Dt.chg (T:=dChip) ow (chg_set _ _) (fun i hi hh=>by have:=mw i hi;simp at hh;omega),dw,fun i hi=>.inr (mw i hi),(c.mono (fun _ h=>by cases h)).trans (chg_set _ _)⟩
theorem ActPost.mono {G J:Heap} {v:ChipV} {id:Nat} {y:ChipD} {k:Int} {r:Value} (h:ActPost G v id y k r J) (c:Chg H G []):ActPost H v id y k r J:=by
 obtain ⟨h1,w,h2,h3,h4,h5,h6⟩:=h
 exact ⟨h1,w,h2,h3,h4,fun i hi=>(h5 i hi).imp _root_.id (fun h=>by have:=c.1;omega),(c.mono (fun _ h=>by cases h)).trans h6⟩
theorem act_w {v:ChipV} {a:ChipD} {id:Nat} {k p q r s:Int} (hr:H[id]? = some ⟨chipCells v a,0,49⟩) (o:dChip.Ow H v a) (nd:(dChip.ids v).Nodup) (hid:id∉dChip.ids v) (hfi:frz≤id) (hfH:frz≤H.length) (hc:chipOk a) (ha:actOk k p q r s) (h9:allL 66000000 a.1.2.2.2.2.2.2.1) :
 wp (vcall C frz 78 [.pointer (some ⟨id,0,some 0⟩),.agg #[.int .i64 k,.int .i64 p,.int .i64 q,.int .i64 r,.int .i64 s]] H) (ActPost H v id (actN a k p q r s).1 (actN a k p q r s).2):=by
 have oneA:=dChip_one o
 have ones:=oneA.1
 have one2:=oneA.2
 have hidl:=box_lt hr
 rw [vcall_go (fn:=Tryz.f78) Tryz.func78 rfl (by kernel_rfl) rfl]
 obtain ⟨G,hG⟩:∃G,G=H++[⟨[.int .i64 k,.int .i64 p,.int .i64 q,.int .i64 r,.int .i64 s],0,69⟩]:=⟨_,rfl⟩
 have cG:Chg H G []:=by rw [hG];exact Chg.app _
 have lG:G.length=H.length+1:=by rw [hG];simp
 have bA:G[H.length]? = some ⟨[.int .i64 k,.int .i64 p,.int .i64 q,.int .i64 r,.int .i64 s],0,69⟩:=by rw [hG];simp
 have hGs:=hG.symm
 simp
 rw [hGs]
 clear hG hGs
 have bC:=box_chg hr cG (by simp)
 have oG:=Dt.chg (T:=dChip) o cG (by simp)
 have hidG:id<G.length:=by omega
 have bC':=bC
 unfold chipCells netCells at bC'
 simp only [List.cons_append,List.nil_append] at bC'
 have n1:=(List.nodup_append.1 nd).1
 by_cases k1:k=1
 ·have e1:actN a k p q r s=(chipSend a p q r s,if sendsOk a (nextP a p q r s) then ((chipSend a p q r s).2.length:Int) else 0):=if_pos k1
  have cs:=chipSend_d (frz:=frz) (q2:=p) (q3:=q) (q4:=r) (q5:=s) oG
  simp only [dChip_val] at cs
  rw [e1]
  simp [VM.look,bA,k1]
  rw [go_draw (h:=by kernel_rfl)]
  simp [VM.look,VM.vnil,bA,bC',ones,one2]
  refine wp_thn cs ?_
  rintro _ J ⟨_,rfl,w,rfl,ow,cw,mw,dw⟩
  obtain ⟨y,hy⟩:∃y,y=chipSend a p q r s:=⟨_,rfl⟩
  rw [← hy] at ow
  have onw:=dChip_one ow
  have bJ:=box_chg bC cw (by simp)
  have gC:=set_get (r':=⟨chipCells w y,0,49⟩) bJ
  have cS:Chg J (J.set id ⟨chipCells w y,0,49⟩) [id]:=chg_set _ _
  have hidw:id∉dChip.ids w:=fun hh=>by have:=mw _ hh;omega
  have ln:=(Dt.chg (T:=dPk) ow.2 cS (fun i hi hh=>hidw (List.mem_append_right _ (by simp at hh;exact hh▸hi)))).1.rd.len (P:=Tryz.prog) (ty:=47) (by simp)
  have hb:=ow.2.2
  have fl:=fun F H=>flag_c (frz:=F) (H:=H)
  obtain ⟨B,hB⟩:∃B,B=decide (sendsOk a (nextP a p q r s)):=⟨_,rfl⟩
  have hM:=(chip_new (v:=v) (z:=y) (k:=if B then (y.2.length:Int) else 0) hidG cw bJ ow dw mw rfl rfl).mono cG
  have hq:(if sendsOk a (nextP a p q r s) then (y.2.length:Int) else 0)=if B then (y.2.length:Int) else 0:=by rw [hB];by_cases g:sendsOk a (nextP a p q r s)<;>simp [g]
  rw [← hB,← hy,hq]
  have w1:∀[Inhabited Unit],IntKind.i64.wrap (y.2.length:Int)=y.2.length:=by intro _;exact w64 (by omega) (by omega)
  unfold chipCells netCells at bJ gC ln hM
  simp only [List.cons_append,List.nil_append] at bJ gC ln hM
  simp [dChip_val,← hy,VM.look,VM.vnil,bJ,onw,hfi]
  rw [go_draw (h:=by kernel_rfl)]
  have w0:∀[Inhabited Unit],IntKind.i64.wrap 0=0:=by intro _;exact w64 (by omega) (by omega)
  cases B<;>simp [VM.look,VM.vnil,gC,onw,fl,ln,w1,w0]<;>simpa using hM
 by_cases k2:k=2
 ·have e1:actN a k p q r s=(chipRun a p,(flits (chipRun a p).1.2.2.1:Int)+flits (chipRun a p).1.2.2.2.2.2.1):=by unfold actN;rw [if_neg k1,if_pos k2]
  have cs:=chipRun_d (frz:=frz) (k:=p) oG h9
  simp only [dChip_val] at cs
  rw [e1]
  simp [VM.look,bA,k1,k2]
  rw [go_draw (h:=by kernel_rfl)]
  simp [VM.look,VM.vnil,bA,bC',ones,one2]
  refine wp_thn cs ?_
  rintro _ J ⟨_,rfl,w,rfl,ow,cw,mw,dw⟩
  obtain ⟨y,hy⟩:∃y,y=chipRun a p:=⟨_,rfl⟩
  rw [← hy] at ow
  have onw:=dChip_one ow
  have bJ:=box_chg bC cw (by simp)
  have gC:=set_get (r':=⟨chipCells w y,0,49⟩) bJ
  have cS:Chg J (J.set id ⟨chipCells w y,0,49⟩) [id]:=chg_set _ _
  have hidw:id∉dChip.ids w:=fun hh=>by have:=mw _ hh;omega
  have oS:=Dt.chg (T:=dNet) ow.1 cS (fun i hi hh=>hidw (List.mem_append_left _ (by simp at hh;exact hh▸hi)))
  have f1:=fun F=>flitsIn_d (frz:=F) oS.2.2.1
  have f2:=fun F=>flitsIn_d (frz:=F) oS.2.2.2.2.2.1
  have z1:=flits_le y.1.2.2.1 ow.1.2.2.1.2.1 ow.1.2.2.1.2.2
  have z2:=flits_le y.1.2.2.2.2.2.1 ow.1.2.2.2.2.2.1.2.1 ow.1.2.2.2.2.2.1.2.2
  have w1:∀[Inhabited Unit],IntKind.i64.wrap ((flits y.1.2.2.1:Int)+(flits y.1.2.2.2.2.2.1:Int))=(flits y.1.2.2.1:Int)+flits y.1.2.2.2.2.2.1:=by intro _;exact w64 (by omega) (by omega)
  have hM:=(chip_new (v:=v) (z:=y) (k:=(flits y.1.2.2.1:Int)+flits y.1.2.2.2.2.2.1) hidG cw bJ ow dw mw rfl rfl).mono cG
  rw [← hy]
  unfold chipCells netCells at bJ gC f1 f2 hM
  simp only [List.cons_append,List.nil_append] at bJ gC f1 f2 hM
  simp [dChip_val,← hy,VM.look,VM.vnil,bJ,onw,hfi]
  rw [go_draw (h:=by kernel_rfl)]
  simp [VM.look,VM.vnil,gC,onw,f1,f2,w1]
  simpa using hM
 by_cases k3:k=3
 ·have e1:actN a k p q r s=((idled a.1,a.2),idleAt a.1):=by unfold actN;rw [if_neg k1,if_neg k2,if_pos k3]
  have cs:=toIdle_d (frz:=frz) oG.1 h9
  simp only [dNet_val] at cs
  rw [e1]
  simp [VM.look,VM.vnil,bA,bC',ones,one2,k1,k2,k3]
  refine wp_thn cs ?_
  rintro _ J ⟨_,rfl,w,rfl,ow,cw,mw,dw⟩
  obtain ⟨y,hy⟩:∃y,y=idled a.1:=⟨_,rfl⟩
  rw [← hy] at ow
  have onw:=dNet_one ow
  have lJ:=cw.1
  have hFJ:frz≤J.length:=by omega
  obtain ⟨J2,hJ2⟩:∃J2,J2=J++[⟨netCells w y,0,46⟩]:=⟨_,rfl⟩
  have c2:Chg J J2 []:=by rw [hJ2];exact Chg.app _
  have bN:J2[J.length]? = some ⟨netCells w y,0,46⟩:=by rw [hJ2];simp
  have bJ:=box_chg (box_chg bC cw (by simp)) c2 (by simp)
  have ow2:=Dt.chg (T:=dNet) ow c2 (by simp)
  have hM:=(chip_net (k:=idleAt a.1) oG nd hidG hid (cw.trans c2) bJ ow2 dw (fun i hi=>.inr (mw i hi)) (z:=(y,a.2)) rfl rfl).mono cG
  have hJs:=hJ2.symm
  rw [← hy]
  unfold chipCells netCells at bJ hM
  unfold netCells at bN hJs
  simp only [List.cons_append,List.nil_append] at bJ hM
  simp [dNet_val,← hy,onw,hFJ]
  rw [hJs]
  clear hJ2 hJs
  simp [VM.look,VM.vnil,bN,bJ,onw,hfi]
  simpa using hM
 by_cases k4:k=4
 ·have e1:actN a k p q r s=((brk a.1 p,a.2),if brkOk a.1 p then 1 else 0):=by unfold actN;rw [if_neg k1,if_neg k2,if_neg k3,if_pos k4]
  have cs:=breakCh_d (frz:=frz) (c:=p) oG.1
  simp only [dNet_val] at cs
  rw [e1]
  simp [VM.look,VM.vnil,bA,k1,k2,k3,k4]
  rw [go_draw (h:=by kernel_rfl)]
  simp [VM.look,VM.vnil,bA,bC',ones,one2]
  refine wp_thn cs ?_
  rintro _ J ⟨_,rfl,w,rfl,ow,cw,mw,dw⟩
  obtain ⟨y,hy⟩:∃y,y=brk a.1 p:=⟨_,rfl⟩
  rw [← hy] at ow
  have onw:=dNet_one ow
  have bJ:=box_chg bC cw (by simp)
  have fl:=fun F H=>flag_c (frz:=F) (H:=H)
  obtain ⟨B,hB⟩:∃B,B=decide (brkOk a.1 p):=⟨_,rfl⟩
  have hM:=(chip_net (k:=if B then (1:Int) else 0) oG nd hidG hid cw bJ ow dw (fun i hi=>.inr (mw i hi)) (z:=(y,a.2)) rfl rfl).mono cG
  have hq:(if brkOk a.1 p then (1:Int) else 0)=if B then 1 else 0:=by rw [hB];by_cases g:brkOk a.1 p<;>simp [g]
  rw [← hB,← hy,hq]
  unfold chipCells netCells at bJ hM
  simp only [List.cons_append,List.nil_append] at bJ hM
  cases B<;>simp [dNet_val,← hy,VM.look,VM.vnil,bJ,onw,hfi,fl]<;>simpa using hM
 have hk5:k=5∧inR 1 p 4∧inR 1 q 4:=by
  unfold actOk at ha
  rw [if_neg k1,if_neg k2,if_neg k3,if_neg k4] at ha
  exact ⟨ha.1,ha.2.1,ha.2.2.1⟩
 obtain ⟨k5,hp,hq'⟩:=hk5
 have e1:actN a k p q r s=((ruledN a.1 p q,a.2),if ruledOk a.1 p q then 1 else 0):=by unfold actN;rw [if_neg k1,if_neg k2,if_neg k3,if_neg k4]
 have cs:=ruled_w (frz:=frz) hp hq' hc.1.1.1.1.1.2 oG.1 n1
 simp only [dNet_val] at cs
 rw [e1]
 simp [VM.look,VM.vnil,bA,k1,k2,k3,k4,k5]
 rw [go_draw (h:=by kernel_rfl)]
 simp [VM.look,VM.vnil,bA,bC',ones,one2]
 refine wp_thn cs ?_
 rintro _ J ⟨w,rfl,ow,dw,mw,cw⟩
 obtain ⟨y,hy⟩:∃y,y=ruledN a.1 p q:=⟨_,rfl⟩
 rw [← hy] at ow
 have onw:=dNet_one ow
 have bJ:=box_chg bC cw (by simp)
 have fl:=fun F H=>flag_c (frz:=F) (H:=H)
 obtain ⟨B,hB⟩:∃B,B=decide (ruledOk a.1 p q):=⟨_,rfl⟩
 have hM:=(chip_net (k:=if B then (1:Int) else 0) oG nd hidG hid cw bJ ow dw mw (z:=(y,a.2)) rfl rfl).mono cG
 have hq:(if ruledOk a.1 p q then (1:Int) else 0)=if B then 1 else 0:=by rw [hB];by_cases g:ruledOk a.1 p q<;>simp [g]
 rw [← hB,← hy,hq]
 unfold chipCells netCells at bJ hM
 simp only [List.cons_append,List.nil_append] at bJ hM
 cases B<;>simp [dNet_val,← hy,VM.look,VM.vnil,bJ,onw,hfi,fl]<;>simpa using hM
def acts (a:ChipD) (k p q r s:Int):Prop:=chipOk a∧actOk k p q r s
instance (a:ChipD) (k p q r s:Int):Decidable (acts a k p q r s):=inferInstanceAs (Decidable (_∧_))
noncomputable def doAct (a:ChipD) (k p q r s:Int):ChipD×Int:=if acts a k p q r s then actN a k p q r s else (a,-1)
def MadeC (H:Heap) (y:ChipD) (k:Int) (r:Value) (H':Heap):Prop:=∃u,r=.tuple #[u,.int .i64 k]∧dChip.Made H y u H'
theorem madeC {K:Heap} {n:ChipV} {y z:ChipD} {k k':Int} {r:Row} (o:dChip.Ow K n y) (c:Chg H K []) (m:∀i∈dChip.ids n,H.length+3≤i) (d:(dChip.ids n).Nodup) (e1:z=y) (e2:k'=k) :
 MadeC H z k' (.tuple #[dChip.val n y,.int .i64 k]) (K.set (H.length+2) r):=by
 subst e1 e2
 exact ⟨dChip.val n z,rfl,n,rfl,Dt.chg (T:=dChip) o (chg_set _ _) (fun i hi hh=>by have:=m i hi;simp at hh;omega),c.trans' (chg_set _ _) (fun i hi=>.inr (by simp at hi;omega)),fun i hi=>by have:=m i hi;omega,d⟩
theorem doAct_d {v:ChipV} {a:ChipD} {k p q r s:Int} (o:dChip.Ow H v a) (h9:allL 66000000 a.1.2.2.2.2.2.2.1) :
 wp (vcall C frz 25 [dChip.val v a,.agg #[.int .i64 k,.int .i64 p,.int .i64 q,.int .i64 r,.int .i64 s]] H) (MadeC H (doAct a k p q r s).1 (doAct a k p q r s).2):=by
 have oneA:=dChip_one o
 have ones:=oneA.1
 have one2:=oneA.2
 have ecopy:=fun K (c:Chg H K [])=>copyChip_d (frz:=H.length) (H:=K) (v:=v) (a:=a) (Dt.chg (T:=dChip) o c (by simp))
 have ck:=fun F K (c:Chg H K [])=>chipOk_d (frz:=F) (H:=K) (v:=v) (a:=a) (Dt.chg (T:=dChip) o c (by simp))
 have ao:=fun F H=>actOk_c (frz:=F) (H:=H) k p q r s
 simp only [dChip_val] at ecopy ck ⊢
 rw [vcall_go (fn:=Tryz.f25) Tryz.func25 rfl (by kernel_rfl) rfl]
 obtain ⟨G,hG⟩:∃G,G=H++[⟨chipCells v a,0,49⟩,⟨[.int .i64 k,.int .i64 p,.int .i64 q,.int .i64 r,.int .i64 s],0,69⟩,⟨zChip,0,49⟩]:=⟨_,rfl⟩
 have cG:Chg H G []:=by rw [hG];exact Chg.app _
 have b0:G[H.length]? = some ⟨chipCells v a,0,49⟩:=by rw [hG];simp
 have bA:G[H.length+1]? = some ⟨[.int .i64 k,.int .i64 p,.int .i64 q,.int .i64 r,.int .i64 s],0,69⟩:=by rw [hG];simp
 have bR:G[H.length+2]? = some ⟨zChip,0,49⟩:=by rw [hG];simp
 have lG:G.length=H.length+3:=by rw [hG];simp
 have hGs:=hG.symm
 unfold chipCells netCells zChip at hGs
 simp only [List.cons_append,List.nil_append] at hGs
 simp [ones,one2]
 rw [hGs]
 clear hG hGs
 have b0':=b0
 unfold chipCells netCells at b0'
 simp only [List.cons_append,List.nil_append] at b0'
 try simp [VM.look,b0',ones,one2]
 refine wp_thn (ecopy G cG) ?_
 rintro _ K ⟨n,rfl,on,cn,mn,dn⟩
 have cK:Chg H K []:=cG.trans cn
 have b0:=box_chg b0 cn (by simp)
 have bA:=box_chg bA cn (by simp)
 have bR:=box_chg bR cn (by simp)
 have oneN:=dChip_one on
 have qn:=oneN.1
 have qn2:=oneN.2
 have lK:=cn.1
 have hFK:H.length≤K.length:=by omega
 obtain ⟨K2,hK2⟩:∃K2,K2=K++[⟨chipCells n a,0,49⟩]:=⟨_,rfl⟩
 have c12:Chg K K2 []:=by rw [hK2];exact Chg.app _
 have cK2:=cK.trans c12
 have l2:K2.length=K.length+1:=by rw [hK2];simp
 have b0:=box_chg b0 c12 (by simp)
 have bA:=box_chg bA c12 (by simp)
 have bR:=box_chg bR c12 (by simp)
 have bC:K2[K.length]? = some ⟨chipCells n a,0,49⟩:=by rw [hK2];simp
 have on2:=Dt.chg (T:=dChip) on c12 (by simp)
 have hF:H.length≤H.length+2:=by omega
 have mn':∀i∈dChip.ids n,H.length+3≤i:=fun i hi=>by have:=mn i hi;omega
 have ltn:∀i∈dChip.ids n,i<K.length:=fun i hi=>dChip.lt on i hi
 have hKs:=hK2.symm
 unfold chipCells netCells at hKs
 simp only [List.cons_append,List.nil_append] at hKs
 simp [dChip_val,VM.look,qn,qn2,hFK]
 rw [hKs]
 clear hK2 hKs
 have ck':=fun F=>ck F K2 cK2
 have b0':=b0
 have bC':=bC
 unfold chipCells netCells at b0' bC'
 simp only [List.cons_append,List.nil_append] at b0' bC'
 have gR:=set_get (r':=⟨chipCells n a,0,49⟩) bR
 have bad:¬acts a k p q r s→MadeC H (doAct a k p q r s).1 (doAct a k p q r s).2 (.tuple #[dChip.val n a,.int .i64 (-1)]) (K2.set (H.length+2) ⟨chipCells n a,0,49⟩):=fun hb=>by
  have e:doAct a k p q r s=(a,-1):=if_neg hb
  rw [e]
  exact madeC on2 cK2 mn' dn rfl rfl
 have bR':=bR
 unfold zChip at bR'
 unfold chipCells netCells at gR bad
 simp only [List.cons_append,List.nil_append] at gR bad
 by_cases g0:chipOk a
 rotate_left
 ·have hM:=bad (fun h=>g0 h.1)
  simp [VM.look,b0',ones,one2,ck',g0,bC',qn,qn2,bR',gR,hF]
  simpa [dChip_val] using hM
 by_cases g1:actOk k p q r s
 rotate_left
 ·have hM:=bad (fun h=>g1 h.2)
  simp [VM.look,b0',ones,one2,ck',g0,bA,ao,g1,bC',qn,qn2,bR',gR,hF]
  simpa [dChip_val] using hM
 have e:doAct a k p q r s=actN a k p q r s:=if_pos ⟨g0,g1⟩
 have ac:=act_w (frz:=H.length) (id:=K.length) bC on2 dn (fun hh=>by have:=ltn _ hh;omega) hFK (by omega) g0 g1 h9
 rw [e]
 simp [VM.look,b0',ones,one2,ck',g0,bA,ao,g1]
 refine wp_thn ac ?_
 rintro _ J ⟨rfl,w,bJ,ow,dw,mw,cw⟩
 obtain ⟨y,hy⟩:∃y,y=(actN a k p q r s).1:=⟨_,rfl⟩
 obtain ⟨m,hm⟩:∃m,m=(actN a k p q r s).2:=⟨_,rfl⟩
 rw [← hy] at bJ ow ⊢
 rw [← hm]
 have onw:=dChip_one ow
 have bRJ:=box_chg bR cw (by simp;omega)
 have gJ:=set_get (r':=⟨chipCells w y,0,49⟩) bRJ
 have hM:=madeC (H:=H) (z:=y) (k:=m) (r:=⟨chipCells w y,0,49⟩) ow (cK2.trans' cw (fun i hi=>.inr (by simp at hi;omega))) (fun i hi=>by
  rcases mw i hi with h|h
  ·exact mn' i h
  ·omega) dw rfl rfl
 unfold zChip at bRJ
 unfold chipCells netCells at bJ gJ hM
 simp only [List.cons_append,List.nil_append] at bJ gJ hM
 simp [VM.look,bJ,bRJ,gJ,onw,hF]
 simpa [dChip_val] using hM
theorem chipRun_netOk {a:ChipD} (h:chipOk a) (k:Int):netOk (chipRun a k).1:=by
 unfold chipRun
 rw [if_pos h]
 show netOk (runNet a.1 k)
 unfold runNet
 split
 ·rename_i g
  have:=g.2.2
  have:=g.2.1.1
  exact run_netOk h.1 _ (by omega)
 ·exact h.1
theorem sInside_d {v:NetV} {x:NetD} (h:netOk x) (o:dNet.Ow H v x):vcall C frz 71 [dNet.val v x] H=some (.int .i64 (flits x.2.2.1),H):=by
 refine wp.exact (by simp) ?_ rfl
 have ones:=dNet_one o
 have nk:=fun F L=>sNetOk_d (frz:=F) (H:=H++L) (v:=v) (x:=x) (Dt.app (T:=dNet) o)
 have f1:=fun F L=>l15Sum_d (frz:=F) (H:=H++L) (Dt.app (T:=dSS) o.2.2.1)
 simp only [dNet_val] at nk ⊢
 rw [vcall_go (fn:=Tryz.f71) Tryz.func71 rfl (by kernel_rfl) rfl]
 simp [ones,VM.look,nk,h,f1]
theorem sWaiting_d {v:NetV} {x:NetD} (h:netOk x) (o:dNet.Ow H v x):vcall C frz 72 [dNet.val v x] H=some (.int .i64 (flits x.2.2.2.2.2.1),H):=by
 refine wp.exact (by simp) ?_ rfl
 have ones:=dNet_one o
 have nk:=fun F L=>sNetOk_d (frz:=F) (H:=H++L) (v:=v) (x:=x) (Dt.app (T:=dNet) o)
 have f1:=fun F L=>l15Sum_d (frz:=F) (H:=H++L) (Dt.app (T:=dSS) o.2.2.2.2.2.1)
 simp only [dNet_val] at nk ⊢
 rw [vcall_go (fn:=Tryz.f72) Tryz.func72 rfl (by kernel_rfl) rfl]
 simp [ones,VM.look,nk,h,f1]
theorem sDoAct_d {v:ChipV} {a:ChipD} {k p q r s:Int} (o:dChip.Ow H v a) (h9:allL 66000000 a.1.2.2.2.2.2.2.1) :
 wp (vcall C frz 23 [dChip.val v a,.agg #[.int .i64 k,.int .i64 p,.int .i64 q,.int .i64 r,.int .i64 s]] H) (MadeC H (doAct a k p q r s).1 (doAct a k p q r s).2):=by
 have oneA:=dChip_one o
 have ones:=oneA.1
 have one2:=oneA.2
 have ecopy:=fun K (c:Chg H K [])=>l37Copy_d (frz:=H.length) (H:=K) (v:=v) (a:=a) (Dt.chg (T:=dChip) o c (by simp))
 have ck:=fun F K (c:Chg H K [])=>sChipOk_d (frz:=F) (H:=K) (v:=v) (a:=a) (Dt.chg (T:=dChip) o c (by simp))
 have ao:=fun F H=>sActOk_c (frz:=F) (H:=H) k p q r s
 simp only [dChip_val] at ecopy ck ⊢
 rw [vcall_go (fn:=Tryz.f23) Tryz.func23 rfl (by kernel_rfl) rfl]
 obtain ⟨G,hG⟩:∃G,G=H++[⟨chipCells v a,0,49⟩,⟨[.int .i64 k,.int .i64 p,.int .i64 q,.int .i64 r,.int .i64 s],0,69⟩,⟨zChip,0,49⟩]:=⟨_,rfl⟩
 have cG:Chg H G []:=by rw [hG];exact Chg.app _
 have b0:G[H.length]? = some ⟨chipCells v a,0,49⟩:=by rw [hG];simp
 have bA:G[H.length+1]? = some ⟨[.int .i64 k,.int .i64 p,.int .i64 q,.int .i64 r,.int .i64 s],0,69⟩:=by rw [hG];simp
 have bR:G[H.length+2]? = some ⟨zChip,0,49⟩:=by rw [hG];simp
 have lG:G.length=H.length+3:=by rw [hG];simp
 have hGs:=hG.symm
 unfold chipCells netCells zChip at hGs
 simp only [List.cons_append,List.nil_append] at hGs
 simp [ones,one2]
 rw [hGs]
 clear hG hGs
 have b0':=b0
 unfold chipCells netCells at b0'
 simp only [List.cons_append,List.nil_append] at b0'
 try simp [VM.look,b0',ones,one2]
 refine wp_thn (ecopy G cG) ?_
 rintro _ K ⟨n,rfl,on,cn,mn,dn⟩
 have cK:Chg H K []:=cG.trans cn
 have b0:=box_chg b0 cn (by simp)
 have bA:=box_chg bA cn (by simp)
 have bR:=box_chg bR cn (by simp)
 have oneN:=dChip_one on
 have qn:=oneN.1
 have qn2:=oneN.2
 have lK:=cn.1
 have hFK:H.length≤K.length:=by omega
 obtain ⟨K2,hK2⟩:∃K2,K2=K++[⟨chipCells n a,0,49⟩]:=⟨_,rfl⟩
 have c12:Chg K K2 []:=by rw [hK2];exact Chg.app _
 have cK2:=cK.trans c12
 have l2:K2.length=K.length+1:=by rw [hK2];simp
 have b0:=box_chg b0 c12 (by simp)
 have bA:=box_chg bA c12 (by simp)
 have bR:=box_chg bR c12 (by simp)
 have bC:K2[K.length]? = some ⟨chipCells n a,0,49⟩:=by rw [hK2];simp
 have on2:=Dt.chg (T:=dChip) on c12 (by simp)
 have hF:H.length≤H.length+2:=by omega
 have mn':∀i∈dChip.ids n,H.length+3≤i:=fun i hi=>by have:=mn i hi;omega
 have ltn:∀i∈dChip.ids n,i<K.length:=fun i hi=>dChip.lt on i hi
 have hKs:=hK2.symm
 unfold chipCells netCells at hKs
 simp only [List.cons_append,List.nil_append] at hKs
 simp [dChip_val,VM.look,qn,qn2,hFK]
 rw [hKs]
 clear hK2 hKs
 have ck':=fun F=>ck F K2 cK2
 have b0':=b0
 have bC':=bC
 unfold chipCells netCells at b0' bC'
 simp only [List.cons_append,List.nil_append] at b0' bC'
 have gR:=set_get (r':=⟨chipCells n a,0,49⟩) bR
 have bad:¬acts a k p q r s→MadeC H (doAct a k p q r s).1 (doAct a k p q r s).2 (.tuple #[dChip.val n a,.int .i64 (-1)]) (K2.set (H.length+2) ⟨chipCells n a,0,49⟩):=fun hb=>by
  have e:doAct a k p q r s=(a,-1):=if_neg hb
  rw [e]
  exact madeC on2 cK2 mn' dn rfl rfl
 have bR':=bR
 unfold zChip at bR'
 unfold chipCells netCells at gR bad
 simp only [List.cons_append,List.nil_append] at gR bad
 by_cases g0:chipOk a
 rotate_left
 ·have hM:=bad (fun h=>g0 h.1)
  simp [VM.look,b0',ones,one2,ck',g0,bC',qn,qn2,bR',gR,hF]
  simpa [dChip_val] using hM
 by_cases g1:actOk k p q r s
 rotate_left
 ·have hM:=bad (fun h=>g1 h.2)
  simp [VM.look,b0',ones,one2,ck',g0,bA,ao,g1,bC',qn,qn2,bR',gR,hF]
  simpa [dChip_val] using hM
 have e:doAct a k p q r s=actN a k p q r s:=if_pos ⟨g0,g1⟩
 rw [e]
 clear bad e
 have oC:=Dt.chg (T:=dChip) o cK2 (by simp)
 have fl:=fun F H=>l16Bit_c (frz:=F) (H:=H)
 simp [VM.look,b0',ones,one2,ck',g0,bA,ao,g1]
 -- a chip that is handed back
 have fin1:∀(J:Heap) (w:ChipV) (y:ChipD) (m:Int) (L:Heap),dChip.Ow J w y→Chg K2 J []→(∀i∈dChip.ids w,K2.length≤i)→(dChip.ids w).Nodup→MadeC H y m (.tuple #[dChip.val w y,.int .i64 m]) ((J++L).set (H.length+2) ⟨chipCells w y,0,49⟩):=fun J w y m L ow cw mw dw=>
  madeC (Dt.app (T:=dChip) ow) ((cK2.trans cw).trans (Chg.app _)) (fun i hi=>by have:=mw i hi;omega) dw rfl rfl
 -- a network that is put into the copy
 have fin2:∀(J:Heap) (w:NetV) (y:NetD) (m:Int),dNet.Ow J w y→Chg K2 J []→(∀i∈dNet.ids w,K2.length≤i)→(dNet.ids w).Nodup→MadeC H (y,a.2) m (.tuple #[dChip.val (w,n.2) (y,a.2),.int .i64 m]) ((J.set K.length ⟨chipCells (w,n.2) (y,a.2),0,49⟩).set (H.length+2) ⟨chipCells (w,n.2) (y,a.2),0,49⟩):=fun J w y m ow cw mw dw=>by
  have cS:Chg J (J.set K.length ⟨chipCells (w,n.2) (y,a.2),0,49⟩) [K.length]:=chg_set _ _
  have h2:∀i∈VM.ids n.2,H.length+3≤i∧i<K.length:=fun i hi=>⟨mn' i (List.mem_append_right _ hi),ltn i (List.mem_append_right _ hi)⟩
  refine madeC (n:=(w,n.2)) (y:=(y,a.2)) ⟨Dt.chg (T:=dNet) ow cS (fun i hi hh=>by have:=mw i hi;simp at hh;omega),Dt.chg (T:=dPk) (Dt.chg (T:=dPk) on2.2 cw (by simp)) cS (fun i hi hh=>by have:=(h2 i hi).2;simp at hh;omega)⟩ ((cK2.trans cw).trans' cS (fun i hi=>.inr (by simp at hi;omega))) (fun i hi=>?_) ?_ rfl rfl
  ·rcases List.mem_append.1 hi with h|h
   ·have:=mw i h;omega
   ·exact (h2 i h).1
  ·refine List.nodup_append.2 ⟨dw,(List.nodup_append.1 dn).2.1,fun x hx z hz e=>?_⟩
   subst e
   have:=mw x hx
   have:=(h2 x hz).2
   omega
 by_cases k1:k=1
 ·have e1:actN a k p q r s=(chipSend a p q r s,if sendsOk a (nextP a p q r s) then ((chipSend a p q r s).2.length:Int) else 0):=if_pos k1
  have cs:=sChipSend_d (frz:=H.length) (q2:=p) (q3:=q) (q4:=r) (q5:=s) oC
  simp only [dChip_val] at cs
  rw [e1]
  simp [VM.look,bA,b0',ones,one2,k1]
  refine wp_thn cs ?_
  rintro _ J ⟨_,rfl,w,rfl,ow,cw,mw,dw⟩
  obtain ⟨y,hy⟩:∃y,y=chipSend a p q r s:=⟨_,rfl⟩
  rw [← hy] at ow
  have onw:=dChip_one ow
  have lJ:=cw.1
  have hFJ:H.length≤J.length:=by omega
  obtain ⟨J2,hJ2⟩:∃J2,J2=J++[⟨chipCells w y,0,49⟩]:=⟨_,rfl⟩
  have bW:J2[J.length]? = some ⟨chipCells w y,0,49⟩:=by rw [hJ2];simp
  have bRJ:J2[H.length+2]? = some ⟨zChip,0,49⟩:=by rw [hJ2];exact get_app' (box_chg bR cw (by simp)) _
  have gJ:=set_get (r':=⟨chipCells w y,0,49⟩) bRJ
  have o2:dChip.Ow J2 w y:=by rw [hJ2];exact Dt.app (T:=dChip) ow
  have ln:=o2.2.1.rd.len (P:=Tryz.prog) (ty:=47) (by simp)
  have hb:=ow.2.2
  have w1:∀[Inhabited Unit],IntKind.i64.wrap (y.2.length:Int)=y.2.length:=by intro _;exact w64 (by omega) (by omega)
  have w0:∀[Inhabited Unit],IntKind.i64.wrap 0=0:=by intro _;exact w64 (by omega) (by omega)
  obtain ⟨B,hB⟩:∃B,B=decide (sendsOk a (nextP a p q r s)):=⟨_,rfl⟩
  have hq:(if sendsOk a (nextP a p q r s) then (y.2.length:Int) else 0)=if B then (y.2.length:Int) else 0:=by rw [hB];by_cases g:sendsOk a (nextP a p q r s)<;>simp [g]
  have hM:=fin1 J w y (if B then (y.2.length:Int) else 0) [⟨chipCells w y,0,49⟩] ow cw mw dw
  rw [← hJ2] at hM
  have hJs:=hJ2.symm
  rw [← hB,← hy,hq]
  unfold zChip at bRJ
  unfold chipCells netCells at bW gJ hM hJs
  simp only [List.cons_append,List.nil_append] at bW gJ hM hJs
  simp [dChip_val,← hy,VM.look,onw,hFJ]
  rw [hJs]
  clear hJ2 hJs
  have bM:=box_chg bW (chg_set (H:=J2) (H.length+2) ⟨[.int .i64 y.1.1.1,.int .i64 y.1.1.2.1,w.1.1,w.1.2.1.1,w.1.2.1.2,w.1.2.2.1.1,w.1.2.2.2.1,w.1.2.2.2.2.1,w.1.2.2.2.2.2.1.1,w.1.2.2.2.2.2.2.1.1,.int .i64 y.1.2.2.2.2.2.2.2,w.2],0,49⟩) (by simp;omega)
  have lv2:=Ow_live o2.2.1
  have lv3:=Ow_live (Dt.chg (T:=dPk) o2.2 (chg_set (H:=J2) (H.length+2) ⟨[.int .i64 y.1.1.1,.int .i64 y.1.1.2.1,w.1.1,w.1.2.1.1,w.1.2.1.2,w.1.2.2.1.1,w.1.2.2.2.1,w.1.2.2.2.2.1,w.1.2.2.2.2.2.1.1,w.1.2.2.2.2.2.2.1.1,.int .i64 y.1.2.2.2.2.2.2.2,w.2],0,49⟩) (fun i hi hh=>by have:=mw i (List.mem_append_right _ hi);simp at hh;omega)).1
  rw [go_drawF (fl:=[4]) (h:=⟨by kernel_rfl,by kernel_rfl,by kernel_rfl,by kernel_rfl⟩)]
  cases B<;>simp [emps,empOp,empB,VM.look,bW,bRJ,gJ,onw,fl,ln,w1,w0,hF,bM,lv2,lv3]<;>simpa [dChip_val] using hM
 by_cases k2:k=2
 ·have e1:actN a k p q r s=(chipRun a p,(flits (chipRun a p).1.2.2.1:Int)+flits (chipRun a p).1.2.2.2.2.2.1):=by unfold actN;rw [if_neg k1,if_pos k2]
  have cs:=sChipRun_d (frz:=H.length) (k:=p) oC h9
  have hnk:=chipRun_netOk g0 p
  simp only [dChip_val] at cs
  rw [e1]
  simp [VM.look,bA,b0',ones,one2,k1,k2]
  refine wp_thn cs ?_
  rintro _ J ⟨_,rfl,w,rfl,ow,cw,mw,dw⟩
  obtain ⟨y,hy⟩:∃y,y=chipRun a p:=⟨_,rfl⟩
  rw [← hy] at ow hnk
  have onw:=dChip_one ow
  have lJ:=cw.1
  have hFJ:H.length≤J.length:=by omega
  obtain ⟨J2,hJ2⟩:∃J2,J2=J++[⟨chipCells w y,0,49⟩]:=⟨_,rfl⟩
  have bW:J2[J.length]? = some ⟨chipCells w y,0,49⟩:=by rw [hJ2];simp
  have bRJ:J2[H.length+2]? = some ⟨zChip,0,49⟩:=by rw [hJ2];exact get_app' (box_chg bR cw (by simp)) _
  have gJ:=set_get (r':=⟨chipCells w y,0,49⟩) bRJ
  have o2:dChip.Ow J2 w y:=by rw [hJ2];exact Dt.app (T:=dChip) ow
  have f1:=fun F=>sInside_d (frz:=F) hnk o2.1
  have f2:=fun F=>sWaiting_d (frz:=F) hnk o2.1
  have z1:=flits_le y.1.2.2.1 ow.1.2.2.1.2.1 ow.1.2.2.1.2.2
  have z2:=flits_le y.1.2.2.2.2.2.1 ow.1.2.2.2.2.2.1.2.1 ow.1.2.2.2.2.2.1.2.2
  have w1:∀[Inhabited Unit],IntKind.i64.wrap ((flits y.1.2.2.1:Int)+(flits y.1.2.2.2.2.2.1:Int))=(flits y.1.2.2.1:Int)+flits y.1.2.2.2.2.2.1:=by intro _;exact w64 (by omega) (by omega)
  have hM:=fin1 J w y ((flits y.1.2.2.1:Int)+flits y.1.2.2.2.2.2.1) [⟨chipCells w y,0,49⟩] ow cw mw dw
  rw [← hJ2] at hM
  have hJs:=hJ2.symm
  rw [← hy]
  simp only [dNet_val] at f1 f2
  unfold zChip at bRJ
  unfold chipCells netCells at bW gJ hM hJs
  simp only [List.cons_append,List.nil_append] at bW gJ hM hJs
  simp [dChip_val,← hy,VM.look,onw,hFJ]
  rw [hJs]
  clear hJ2 hJs
  rw [go_draw (h:=by kernel_rfl)]
  simp [VM.look,bW,bRJ,gJ,onw,f1,f2,w1,hF]
  simpa [dChip_val] using hM
 by_cases k3:k=3
 ·have e1:actN a k p q r s=((idled a.1,a.2),idleAt a.1):=by unfold actN;rw [if_neg k1,if_neg k2,if_pos k3]
  have ss:=fun F=>sSteps_d (frz:=F) oC.1 h9
  have cs:=sRunIdle_d (frz:=H.length) oC.1 h9
  simp only [dNet_val] at cs ss
  rw [e1]
  simp [VM.look,bA,b0',ones,one2,k1,k2,k3,ss]
  refine wp_thn cs ?_
  rintro _ J ⟨_,rfl,w,rfl,ow,cw,mw,dw⟩
  obtain ⟨y,hy⟩:∃y,y=idled a.1:=⟨_,rfl⟩
  rw [← hy] at ow
  have onw:=dNet_one ow
  have bJ:=box_chg bC cw (by simp)
  have bRJ:=box_chg bR cw (by simp)
  have gC:=set_get (r':=⟨chipCells (w,n.2) (y,a.2),0,49⟩) bJ
  have bR2:=box_chg bRJ (chg_set (H:=J) K.length ⟨chipCells (w,n.2) (y,a.2),0,49⟩) (by simp;omega)
  have gJ:=set_get (r':=⟨chipCells (w,n.2) (y,a.2),0,49⟩) bR2
  have hM:=fin2 J w y (idleAt a.1) ow cw mw dw
  rw [← hy]
  unfold zChip at bR2
  unfold chipCells netCells at bJ gC gJ hM bR2
  simp only [List.cons_append,List.nil_append] at bJ gC gJ hM bR2
  simp [dNet_val,← hy,VM.look,bJ,gC,bR2,gJ,onw,qn2,hF,hFK]
  simpa [dChip_val] using hM
 by_cases k4:k=4
 ·have e1:actN a k p q r s=((brk a.1 p,a.2),if brkOk a.1 p then 1 else 0):=by unfold actN;rw [if_neg k1,if_neg k2,if_neg k3,if_pos k4]
  have cs:=sBreakCh_d (frz:=H.length) (c:=p) oC.1
  simp only [dNet_val] at cs
  rw [e1]
  simp [VM.look,bA,b0',ones,one2,k1,k2,k3,k4]
  refine wp_thn cs ?_
  rintro _ J ⟨_,rfl,w,rfl,ow,cw,mw,dw⟩
  obtain ⟨y,hy⟩:∃y,y=brk a.1 p:=⟨_,rfl⟩
  rw [← hy] at ow
  have onw:=dNet_one ow
  have lJ:=cw.1
  have hFJ:H.length≤J.length:=by omega
  obtain ⟨J2,hJ2⟩:∃J2,J2=J++[⟨netCells w y,0,46⟩]:=⟨_,rfl⟩
  have c2:Chg J J2 []:=by rw [hJ2];exact Chg.app _
  have bN:J2[J.length]? = some ⟨netCells w y,0,46⟩:=by rw [hJ2];simp
  have ow2:=Dt.chg (T:=dNet) ow c2 (by simp)
  have bJ:=box_chg (box_chg bC cw (by simp)) c2 (by simp)
  have bRJ:=box_chg (box_chg bR cw (by simp)) c2 (by simp)
  have gC:=set_get (r':=⟨chipCells (w,n.2) (y,a.2),0,49⟩) bJ
  have bR2:=box_chg bRJ (chg_set (H:=J2) K.length ⟨chipCells (w,n.2) (y,a.2),0,49⟩) (by simp;omega)
  have gJ:=set_get (r':=⟨chipCells (w,n.2) (y,a.2),0,49⟩) bR2
  obtain ⟨B,hB⟩:∃B,B=decide (brkOk a.1 p):=⟨_,rfl⟩
  have hq:(if brkOk a.1 p then (1:Int) else 0)=if B then 1 else 0:=by rw [hB];by_cases g:brkOk a.1 p<;>simp [g]
  have hM:=fin2 J2 w y (if B then (1:Int) else 0) ow2 (cw.trans c2) mw dw
  have hJs:=hJ2.symm
  rw [← hB,← hy,hq]
  unfold zChip at bR2
  unfold chipCells netCells at bJ gC gJ hM bR2
  unfold netCells at bN hJs
  simp only [List.cons_append,List.nil_append] at bJ gC gJ hM bR2
  simp [dNet_val,← hy,VM.look,onw,hFJ]
  rw [hJs]
  clear hJ2 hJs
  simp [VM.look,bN,bJ,gC,bR2,gJ,onw,qn2,hF,hFK]
  rw [go_draw (h:=by kernel_rfl)]
  cases B<;>simp [VM.look,bN,bJ,gC,bR2,gJ,onw,qn2,hF,hFK,fl]<;>simpa [dChip_val] using hM
 have hk5:k=5∧inR 1 p 4∧inR 1 q 4:=by
  unfold actOk at g1
  rw [if_neg k1,if_neg k2,if_neg k3,if_neg k4] at g1
  exact ⟨g1.1,g1.2.1,g1.2.2.1⟩
 obtain ⟨k5,hp,hq'⟩:=hk5
 have e1:actN a k p q r s=((ruledN a.1 p q,a.2),if ruledOk a.1 p q then 1 else 0):=by unfold actN;rw [if_neg k1,if_neg k2,if_neg k3,if_neg k4]
 have ln:=oC.1.1.1.rd.len (P:=Tryz.prog) (ty:=24) (by simp)
 rw [e1]
 simp [VM.look,bA,b0',ones,one2,k1,k2,k3,k4,ln]
 by_cases g:0<a.1.1.2.2.length
 ·have er:ruledN a.1 p q=a.1:=if_pos g
  have eb:(if ruledOk a.1 p q then (1:Int) else 0)=0:=if_neg (fun k=>k.1 g)
  have hM:=madeC (H:=H) (z:=a) (k:=0) (r:=⟨chipCells n a,0,49⟩) on2 cK2 mn' dn rfl rfl
  rw [er,eb]
  unfold chipCells netCells at hM
  simp only [List.cons_append,List.nil_append] at hM
  simp [VM.look,g,bC',qn,qn2,bR',gR,hF]
  simpa [dChip_val] using hM
 have hg:okG a.1.1.1 a.1.1.2.1:=g0.1.1.1.1.1.2
 have st1:=fun K=>l05Make_w (frz:=H.length) (H:=K) a.1.1.1 a.1.1.2.1 p (cnt a.1.1.1 a.1.1.2.1).toNat hp hg (by have:=cnt_range a.1.1.1 a.1.1.2.1;omega)
 have st2:=fun K=>l05Make_w (frz:=H.length) (H:=K) a.1.1.1 a.1.1.2.1 q (cnt a.1.1.1 a.1.1.2.1).toNat hq' hg (by have:=cnt_range a.1.1.1 a.1.1.2.1;omega)
 obtain ⟨M,hM0⟩:∃M,M=K2++[⟨[.int .i64 a.1.1.1,.int .i64 a.1.1.2.1],0,38⟩]:=⟨_,rfl⟩
 have cM:Chg K2 M []:=by rw [hM0];exact Chg.app _
 have bG:M[K2.length]? = some ⟨[.int .i64 a.1.1.1,.int .i64 a.1.1.2.1],0,38⟩:=by rw [hM0];simp
 have hFK2:H.length≤K2.length:=by omega
 have hMs:=hM0.symm
 simp [VM.look,g,b0',hFK2]
 rw [hMs]
 clear hM0 hMs
 have b0M:=box_chg b0 cM (by simp)
 have bAM:=box_chg bA cM (by simp)
 have b0M':=b0M
 unfold chipCells netCells at b0M'
 simp only [List.cons_append,List.nil_append] at b0M'
 rw [go_draw (h:=by kernel_rfl)]
 simp [VM.look,b0M',bAM,bG,ones,one2]
 refine wp_thn (st1 M) ?_
 rintro _ M1 ⟨v1,rfl,o1,c1,m1,d1⟩
 have q1:=dTable_one o1
 have bG1:=box_chg bG c1 (by simp)
 have bA1:=box_chg bAM c1 (by simp)
 simp [dTable_val,VM.look,bG1,bA1]
 refine wp_thn (st2 M1) ?_
 rintro _ M2 ⟨v2,rfl,o2,c2,m2,d2⟩
 have q2:=dTable_one o2
 have cM2:Chg K2 M2 []:=(cM.trans c1).trans c2
 have o1:=Dt.chg (T:=dTable) o1 c2 (by simp)
 have cs:=sReplace_d (frz:=H.length) (Dt.chg (T:=dNet) oC.1 cM2 (by simp)) (vc:=(v1,v2)) (t:=tabs a.1 p q) ⟨o1,o2⟩
 simp only [dNet_val,dClasses_val] at cs
 simp [dTable_val,q1,q2]
 refine wp_thn cs ?_
 rintro _ J ⟨_,rfl,w,rfl,ow,cw,mw,dw⟩
 obtain ⟨y,hy⟩:∃y,y=repl a.1 (tabs a.1 p q):=⟨_,rfl⟩
 rw [← hy] at ow
 have er:ruledN a.1 p q=y:=by rw [hy];exact if_neg g
 have onw:=dNet_one ow
 have lJ:=cw.1
 have lM:=cM2.1
 have hFJ:H.length≤J.length:=by omega
 obtain ⟨J2,hJ2⟩:∃J2,J2=J++[⟨netCells w y,0,46⟩]:=⟨_,rfl⟩
 have cJ2:Chg J J2 []:=by rw [hJ2];exact Chg.app _
 have bN:J2[J.length]? = some ⟨netCells w y,0,46⟩:=by rw [hJ2];simp
 have ow2:=Dt.chg (T:=dNet) ow cJ2 (by simp)
 have bJ:=box_chg (box_chg (box_chg bC cM2 (by simp)) cw (by simp)) cJ2 (by simp)
 have bRJ:=box_chg (box_chg (box_chg bR cM2 (by simp)) cw (by simp)) cJ2 (by simp)
 have gC:=set_get (r':=⟨chipCells (w,n.2) (y,a.2),0,49⟩) bJ
 have bR2:=box_chg bRJ (chg_set (H:=J2) K.length ⟨chipCells (w,n.2) (y,a.2),0,49⟩) (by simp;omega)
 have gJ:=set_get (r':=⟨chipCells (w,n.2) (y,a.2),0,49⟩) bR2
 obtain ⟨B,hB⟩:∃B,B=decide (replOk a.1 (tabs a.1 p q)):=⟨_,rfl⟩
 have hq:(if ruledOk a.1 p q then (1:Int) else 0)=if B then 1 else 0:=by rw [hB];by_cases g':replOk a.1 (tabs a.1 p q)<;>simp [ruledOk,g',g]
 have hM:=fin2 J2 w y (if B then (1:Int) else 0) ow2 ((cM2.trans cw).trans cJ2) (fun i hi=>by have:=mw i hi;omega) dw
 have hJs:=hJ2.symm
 rw [er,hq,← hB]
 unfold zChip at bR2
 unfold chipCells netCells at bJ gC gJ hM bR2
 unfold netCells at bN hJs
 simp only [List.cons_append,List.nil_append] at bJ gC gJ hM bR2
 simp [dNet_val,← hy,VM.look,onw,hFJ]
 rw [hJs]
 clear hJ2 hJs
 simp [VM.look,bN,bJ,gC,bR2,gJ,onw,qn2,hF,hFK]
 rw [go_draw (h:=by kernel_rfl)]
 cases B<;>simp [VM.look,bN,bJ,gC,bR2,gJ,onw,qn2,hF,hFK,fl]<;>simpa [dChip_val] using hM
theorem law_FnExactDoAct_w {a0_0:Int} {a0_1:Int} {a0_2:List (Int)} {u0_2:Value} {a0_3:List (Int)} {u0_3:Value} {a0_4:List (Int)} {u0_4:Value} {a0_5:List (List (Int×Int×Int×Bool×Bool))} {u0_5:Value} {a0_6:List (Int)} {u0_6:Value} {a0_7:List (Int)} {u0_7:Value} {a0_8:List (List (Int×Int×Int×Bool×Bool))} {u0_8:Value} {a0_9:List (List (Int×Int×Int×Bool×Bool))} {u0_9:Value} {a0_10:Int} {a0_11:List (Int×Int×Int×Int×Int)} {u0_11:Value} {a1_0:Int} {a1_1:Int} {a1_2:Int} {a1_3:Int} {a1_4:Int} (s0_2:IsS (Kn.int .i64) H u0_2 a0_2) (s0_3:IsS (Kn.int .i64) H u0_3 a0_3) (s0_4:IsS (Kn.int .i64) H u0_4 a0_4) (s0_5:IsS (Kn.slice (Kn.pair (Kn.int .i64) (Kn.pair (Kn.int .i64) (Kn.pair (Kn.int .i64) (Kn.pair Kn.bool Kn.bool))))) H u0_5 a0_5) (s0_6:IsS (Kn.int .i64) H u0_6 a0_6) (s0_7:IsS (Kn.int .i64) H u0_7 a0_7) (s0_8:IsS (Kn.slice (Kn.pair (Kn.int .i64) (Kn.pair (Kn.int .i64) (Kn.pair (Kn.int .i64) (Kn.pair Kn.bool Kn.bool))))) H u0_8 a0_8) (s0_9:IsS (Kn.slice (Kn.pair (Kn.int .i64) (Kn.pair (Kn.int .i64) (Kn.pair (Kn.int .i64) (Kn.pair Kn.bool Kn.bool))))) H u0_9 a0_9) (s0_11:IsS (Kn.pair (Kn.int .i64) (Kn.pair (Kn.int .i64) (Kn.pair (Kn.int .i64) (Kn.pair (Kn.int .i64) (Kn.int .i64))))) H u0_11 a0_11)
 (w0:(((((Lit.int .i64 a0_0).wf=true)∧((Lit.int .i64 a0_1).wf=true))∧(a0_2.length≤maxLen∧∀x1∈a0_2,(Lit.int .i64 x1).wf=true))∧(((a0_3.length≤maxLen∧∀x2∈a0_3,(Lit.int .i64 x2).wf=true))∧((a0_4.length≤maxLen∧∀x3∈a0_4,(Lit.int .i64 x3).wf=true)))∧(a0_5.length≤maxLen∧∀x4∈a0_5,x4.length≤maxLen∧∀x5∈x4,((Lit.int .i64 x5.1).wf=true)∧((Lit.int .i64 x5.2.1).wf=true)∧((Lit.int .i64 x5.2.2.1).wf=true)∧(True)∧(True))∧(a0_6.length≤maxLen∧∀x6∈a0_6,(Lit.int .i64 x6).wf=true)∧(a0_7.length≤maxLen∧∀x7∈a0_7,(Lit.int .i64 x7).wf=true)∧(a0_8.length≤maxLen∧∀x8∈a0_8,x8.length≤maxLen∧∀x9∈x8,((Lit.int .i64 x9.1).wf=true)∧((Lit.int .i64 x9.2.1).wf=true)∧((Lit.int .i64 x9.2.2.1).wf=true)∧(True)∧(True))∧(a0_9.length≤maxLen∧∀x10∈a0_9,x10.length≤maxLen∧∀x11∈x10,((Lit.int .i64 x11.1).wf=true)∧((Lit.int .i64 x11.2.1).wf=true)∧((Lit.int .i64 x11.2.2.1).wf=true)∧(True)∧(True))∧((Lit.int .i64 a0_10).wf=true))∧(a0_11.length≤maxLen∧∀x12∈a0_11,((Lit.int .i64 x12.1).wf=true)∧((Lit.int .i64 x12.2.1).wf=true)∧((Lit.int .i64 x12.2.2.1).wf=true)∧((Lit.int .i64 x12.2.2.2.1).wf=true)∧((Lit.int .i64 x12.2.2.2.2).wf=true))) (w1:((Lit.int .i64 a1_0).wf=true)∧((Lit.int .i64 a1_1).wf=true)∧((Lit.int .i64 a1_2).wf=true)∧((Lit.int .i64 a1_3).wf=true)∧((Lit.int .i64 a1_4).wf=true)) :
 wp (vcall C frz 6 [.agg #[.int .i64 a0_0,.int .i64 a0_1,u0_2,u0_3,u0_4,u0_5,u0_6,u0_7,u0_8,u0_9,.int .i64 a0_10,u0_11],.agg #[.int .i64 a1_0,.int .i64 a1_1,.int .i64 a1_2,.int .i64 a1_3,.int .i64 a1_4]] H) (fun r _=>r=.bool true):=by
 have r0_2:=s0_2.ints.rd
 have r0_3:=s0_3.ints.rd
 have r0_4:=s0_4.ints.rd
 obtain ⟨h0_5,r0_5⟩:=IsS.rdL_of (fun hh=>IsS.rd_of rfl knF_is hh) s0_5
 have r0_6:=s0_6.ints.rd
 have r0_7:=s0_7.ints.rd
 obtain ⟨h0_8,r0_8⟩:=IsS.rdL_of (fun hh=>IsS.rd_of rfl knF_is hh) s0_8
 obtain ⟨h0_9,r0_9⟩:=IsS.rdL_of (fun hh=>IsS.rd_of rfl knF_is hh) s0_9
 have r0_11:=IsS.rd_of (D:=pkF) rfl knP_is s0_11
 have rl0_2:=fun (L:Heap)=>(Rd.app (L:=L) r0_2).len (P:=Tryz.prog) (ty:=24) (by simp)
 have rm0_2:=r0_2.len (P:=Tryz.prog) (ty:=24) (by simp)
 have rl0_3:=fun (L:Heap)=>(Rd.app (L:=L) r0_3).len (P:=Tryz.prog) (ty:=24) (by simp)
 have rm0_3:=r0_3.len (P:=Tryz.prog) (ty:=24) (by simp)
 have rl0_4:=fun (L:Heap)=>(Rd.app (L:=L) r0_4).len (P:=Tryz.prog) (ty:=24) (by simp)
 have rm0_4:=r0_4.len (P:=Tryz.prog) (ty:=24) (by simp)
 have rl0_6:=fun (L:Heap)=>(Rd.app (L:=L) r0_6).len (P:=Tryz.prog) (ty:=24) (by simp)
 have rm0_6:=r0_6.len (P:=Tryz.prog) (ty:=24) (by simp)
 have rl0_7:=fun (L:Heap)=>(Rd.app (L:=L) r0_7).len (P:=Tryz.prog) (ty:=24) (by simp)
 have rm0_7:=r0_7.len (P:=Tryz.prog) (ty:=24) (by simp)
 have rl0_11:=fun (L:Heap)=>(Rd.app (L:=L) r0_11).len (P:=Tryz.prog) (ty:=34) (by simp)
 have rm0_11:=r0_11.len (P:=Tryz.prog) (ty:=34) (by simp)
 rw [vcall_go (fn:=Tryz.f6) Tryz.func6 rfl (by kernel_rfl) rfl]
 have ro0_2:=And.intro r0_2.one' r0_2.cells
 have ro0_3:=And.intro r0_3.one' r0_3.cells
 have ro0_4:=And.intro r0_4.one' r0_4.cells
 have ro0_5:=And.intro r0_5.1.one' r0_5.1.cells
 have ro0_6:=And.intro r0_6.one' r0_6.cells
 have ro0_7:=And.intro r0_7.one' r0_7.cells
 have ro0_8:=And.intro r0_8.1.one' r0_8.1.cells
 have ro0_9:=And.intro r0_9.1.one' r0_9.1.cells
 have ro0_11:=And.intro r0_11.one' r0_11.cells
 simp [VM.look,ro0_2,rl0_2,rm0_2,ro0_3,rl0_3,rm0_3,ro0_4,rl0_4,rm0_4,ro0_5,ro0_6,rl0_6,rm0_6,ro0_7,rl0_7,rm0_7,ro0_8,ro0_9,ro0_11,rl0_11,rm0_11]
 have sz0:=fun F (L:Heap)=>szChip_c (frz:=F) (H:=H++L) a0_0 a0_1 a0_10 1048576 u0_2 u0_3 u0_4 u0_5 u0_6 u0_7 u0_8 u0_9 u0_11 h0_5 h0_8 h0_9 a0_2 a0_3 a0_4 a0_6 a0_7 a0_5 a0_8 a0_9 a0_11 (IsI.rd (Rd.isI (Rd.chg r0_2 ((Chg.refl (H:=H) []).trans (Chg.app [])) (by simp)))) (IsI.rd (Rd.isI (Rd.chg r0_3 ((Chg.refl (H:=H) []).trans (Chg.app [])) (by simp)))) (IsI.rd (Rd.isI (Rd.chg r0_4 ((Chg.refl (H:=H) []).trans (Chg.app [])) (by simp)))) (RdL.chg r0_5 ((Chg.refl (H:=H) []).trans (Chg.app [])) (by simp)) (IsI.rd (Rd.isI (Rd.chg r0_6 ((Chg.refl (H:=H) []).trans (Chg.app [])) (by simp)))) (IsI.rd (Rd.isI (Rd.chg r0_7 ((Chg.refl (H:=H) []).trans (Chg.app [])) (by simp)))) (RdL.chg r0_8 ((Chg.refl (H:=H) []).trans (Chg.app [])) (by simp)) (RdL.chg r0_9 ((Chg.refl (H:=H) []).trans (Chg.app [])) (by simp)) (Rd.chg r0_11 ((Chg.refl (H:=H) []).trans (Chg.app [])) (by simp)) (by have:=w0.1.1.2.1;simpa [maxLen] using this) (by have:=w0.1.2.1.1.1;simpa [maxLen] using this) (by have:=w0.1.2.1.2.1;simpa [maxLen] using this) (by have:=w0.1.2.2.1.1;simpa [maxLen] using this) (fun x hx=>by have:=(w0.1.2.2.1.2 x hx).1;simpa [maxLen] using this) (by have:=w0.1.2.2.2.1.1;simpa [maxLen] using this) (by have:=w0.1.2.2.2.2.1.1;simpa [maxLen] using this) (by have:=w0.1.2.2.2.2.2.1.1;simpa [maxLen] using this) (fun x hx=>by have:=(w0.1.2.2.2.2.2.1.2 x hx).1;simpa [maxLen] using this) (by have:=w0.1.2.2.2.2.2.2.1.1;simpa [maxLen] using this) (fun x hx=>by have:=(w0.1.2.2.2.2.2.2.1.2 x hx).1;simpa [maxLen] using this) (by have:=w0.2.1;simpa [maxLen] using this) (by omega) (by omega)
 simp [VM.look,ro0_2,rl0_2,rm0_2,ro0_3,rl0_3,rm0_3,ro0_4,rl0_4,rm0_4,ro0_5,ro0_6,rl0_6,rm0_6,ro0_7,rl0_7,rm0_7,ro0_8,ro0_9,ro0_11,rl0_11,rm0_11,sz0]
 refine wp_dec ?_ ?_<;>intro g1<;>simp [g1]
 have t0:(a0_2.length:Int)+((a0_3.length:Int)+(a0_4.length:Int))+(tot a0_5:Int)+(a0_6.length:Int)+(a0_7.length:Int)+(tot a0_8:Int)+(tot a0_9:Int)+(a0_11.length:Int)≤1048576:=by split at g1<;>omega
 have f0:¬(1048576:Int)<(a0_2.length:Int)+((a0_3.length:Int)+(a0_4.length:Int))+(tot a0_5:Int)+(a0_6.length:Int)+(a0_7.length:Int)+(tot a0_8:Int)+(tot a0_9:Int)+(a0_11.length:Int):=by omega
 simp only [if_neg f0]
 try simp [VM.look,ro0_2,rl0_2,rm0_2,ro0_3,rl0_3,rm0_3,ro0_4,rl0_4,rm0_4,ro0_5,ro0_6,rl0_6,rm0_6,ro0_7,rl0_7,rm0_7,ro0_8,ro0_9,ro0_11,rl0_11,rm0_11,f0]
 rw [go_draw (h:=by kernel_rfl)]
 simp [VM.look,ro0_2,rl0_2,rm0_2,ro0_3,rl0_3,rm0_3,ro0_4,rl0_4,rm0_4,ro0_5,ro0_6,rl0_6,rm0_6,ro0_7,rl0_7,rm0_7,ro0_8,ro0_9,ro0_11,rl0_11,rm0_11,f0]
 refine wp_thn (toChip_w a0_0 a0_1 a0_10 u0_2 u0_3 u0_4 u0_5 u0_6 u0_7 u0_8 u0_9 u0_11 h0_5 h0_8 h0_9 a0_2 a0_3 a0_4 a0_6 a0_7 a0_5 a0_8 a0_9 a0_11 (IsI.rd (Rd.isI (Rd.chg r0_2 ((Chg.refl (H:=H) []).trans (Chg.app [])) (by simp)))) (IsI.rd (Rd.isI (Rd.chg r0_3 ((Chg.refl (H:=H) []).trans (Chg.app [])) (by simp)))) (IsI.rd (Rd.isI (Rd.chg r0_4 ((Chg.refl (H:=H) []).trans (Chg.app [])) (by simp)))) (RdL.chg r0_5 ((Chg.refl (H:=H) []).trans (Chg.app [])) (by simp)) (IsI.rd (Rd.isI (Rd.chg r0_6 ((Chg.refl (H:=H) []).trans (Chg.app [])) (by simp)))) (IsI.rd (Rd.isI (Rd.chg r0_7 ((Chg.refl (H:=H) []).trans (Chg.app [])) (by simp)))) (RdL.chg r0_8 ((Chg.refl (H:=H) []).trans (Chg.app [])) (by simp)) (RdL.chg r0_9 ((Chg.refl (H:=H) []).trans (Chg.app [])) (by simp)) (Rd.chg r0_11 ((Chg.refl (H:=H) []).trans (Chg.app [])) (by simp)) (by omega) (by omega) (by omega) (by have:=tot_len a0_5;omega) (fun x hx=>by have:=tot_in a0_5 x hx;omega) (by omega) (by omega) (by have:=tot_len a0_8;omega) (fun x hx=>by have:=tot_in a0_8 x hx;omega) (by have:=tot_len a0_9;omega) (fun x hx=>by have:=tot_in a0_9 x hx;omega) (by omega)) ?_
 rintro _ H1 ⟨v_x0,rfl,o_x0,c1,n_x0,d_x0⟩
 have l1:=c1.1
 try simp at l1
 have b1_2:=box_chg ((app_get0 _ _).trans rfl) c1 (by simp)
 have b1_3:=box_chg ((app_get _ _ 1).trans rfl) c1 (by simp)
 have cH1:Chg H H1 []:=((Chg.refl (H:=H) []).trans (Chg.app [])).trans c1
 have h_x0:=dChip.lt o_x0
 try simp at n_x0
 have one_x0:=dChip_one o_x0
 simp [VM.look,b1_2,b1_3,get_app' b1_2,get_app' b1_3,cH1.1,Nat.le_add_right_of_le cH1.1,one_x0,ro0_2,ro0_3,ro0_4,ro0_5,ro0_6,ro0_7,ro0_8,ro0_9,ro0_11,dChip_val,f0]
 simp [VM.look,b1_2,b1_3,get_app' b1_2,get_app' b1_3,cH1.1,Nat.le_add_right_of_le cH1.1,one_x0,ro0_2,ro0_3,ro0_4,ro0_5,ro0_6,ro0_7,ro0_8,ro0_9,ro0_11,dChip_val,toAct_c,f0]
 have ex2:=sDoAct_d (frz:=H.length) (H:=H1) (k:=a1_0) (p:=a1_1) (q:=a1_2) (r:=a1_3) (s:=a1_4) o_x0 (fun x hx=>by have:=tot_in a0_9 x hx;omega)
 try simp only [dChip_val] at ex2
 refine wp_thn ex2 ?_
 rintro _ H2 ⟨_,rfl,v_w1,rfl,o_w1,c2,n_w1,d_w1⟩
 clear ex2
 have l2:=c2.1
 try simp at l2
 have b2_2:=box_chg b1_2 c2 (by simp)
 have b2_3:=box_chg b1_3 c2 (by simp)
 have o2_x0:=Dt.chg0 o_x0 c2
 have cH2:Chg H H2 []:=(cH1).trans c2
 have h_w1:=dChip.lt o_w1
 try simp at n_w1
 have one_w1:=dChip_one o_w1
 simp [VM.look,b2_2,b2_3,get_app' b2_2,get_app' b2_3,cH2.1,Nat.le_add_right_of_le cH2.1,one_x0,one_w1,ro0_2,ro0_3,ro0_4,ro0_5,ro0_6,ro0_7,ro0_8,ro0_9,ro0_11,dChip_val,f0]
 refine wp_thn (toChip_w a0_0 a0_1 a0_10 u0_2 u0_3 u0_4 u0_5 u0_6 u0_7 u0_8 u0_9 u0_11 h0_5 h0_8 h0_9 a0_2 a0_3 a0_4 a0_6 a0_7 a0_5 a0_8 a0_9 a0_11 (IsI.rd (Rd.isI (Rd.chg r0_2 (cH2.trans (Chg.app [])) (by simp)))) (IsI.rd (Rd.isI (Rd.chg r0_3 (cH2.trans (Chg.app [])) (by simp)))) (IsI.rd (Rd.isI (Rd.chg r0_4 (cH2.trans (Chg.app [])) (by simp)))) (RdL.chg r0_5 (cH2.trans (Chg.app [])) (by simp)) (IsI.rd (Rd.isI (Rd.chg r0_6 (cH2.trans (Chg.app [])) (by simp)))) (IsI.rd (Rd.isI (Rd.chg r0_7 (cH2.trans (Chg.app [])) (by simp)))) (RdL.chg r0_8 (cH2.trans (Chg.app [])) (by simp)) (RdL.chg r0_9 (cH2.trans (Chg.app [])) (by simp)) (Rd.chg r0_11 (cH2.trans (Chg.app [])) (by simp)) (by omega) (by omega) (by omega) (by have:=tot_len a0_5;omega) (fun x hx=>by have:=tot_in a0_5 x hx;omega) (by omega) (by omega) (by have:=tot_len a0_8;omega) (fun x hx=>by have:=tot_in a0_8 x hx;omega) (by have:=tot_len a0_9;omega) (fun x hx=>by have:=tot_in a0_9 x hx;omega) (by omega)) ?_
 rintro _ H3 ⟨v_x2,rfl,o_x2,c3,n_x2,d_x2⟩
 have l3:=c3.1
 try simp at l3
 have b3_6:=box_chg ((app_get0 _ _).trans rfl) c3 (by simp)
 have b3_2:=box_chg (get_app' b2_2 _) c3 (by simp)
 have b3_3:=box_chg (get_app' b2_3 _) c3 (by simp)
 have o3_x0:=Dt.chg0 (Dt.app o2_x0) c3
 have o3_w1:=Dt.chg0 (Dt.app o_w1) c3
 have cH3:Chg H H3 []:=(cH2.trans (Chg.app [])).trans c3
 have h_x2:=dChip.lt o_x2
 try simp at n_x2
 have one_x2:=dChip_one o_x2
 simp [VM.look,b3_2,b3_3,b3_6,get_app' b3_2,get_app' b3_3,get_app' b3_6,cH3.1,Nat.le_add_right_of_le cH3.1,one_x0,one_w1,one_x2,ro0_2,ro0_3,ro0_4,ro0_5,ro0_6,ro0_7,ro0_8,ro0_9,ro0_11,dChip_val,f0]
 rw [go_draw (h:=by kernel_rfl)]
 simp [VM.look,b3_2,b3_3,b3_6,get_app' b3_2,get_app' b3_3,get_app' b3_6,cH3.1,Nat.le_add_right_of_le cH3.1,one_x0,one_w1,one_x2,ro0_2,ro0_3,ro0_4,ro0_5,ro0_6,ro0_7,ro0_8,ro0_9,ro0_11,dChip_val,f0]
 simp [VM.look,b3_2,b3_3,b3_6,get_app' b3_2,get_app' b3_3,get_app' b3_6,cH3.1,Nat.le_add_right_of_le cH3.1,one_x0,one_w1,one_x2,ro0_2,ro0_3,ro0_4,ro0_5,ro0_6,ro0_7,ro0_8,ro0_9,ro0_11,dChip_val,toAct_c,f0]
 have ex4:=fun (L:Heap)=>doAct_d (frz:=H.length) (H:=H3++L) (k:=a1_0) (p:=a1_1) (q:=a1_2) (r:=a1_3) (s:=a1_4) (Dt.app o_x2) (fun x hx=>by have:=tot_in a0_9 x hx;omega)
 try simp only [dChip_val] at ex4
 refine wp_thn (ex4 _) ?_
 rintro _ H4 ⟨_,rfl,v_g3,rfl,o_g3,c4,n_g3,d_g3⟩
 clear ex4
 have l4:=c4.1
 try simp at l4
 have b4_8:=box_chg ((app_get0 _ _).trans rfl) c4 (by simp)
 have b4_2:=box_chg (get_app' b3_2 _) c4 (by simp)
 have b4_3:=box_chg (get_app' b3_3 _) c4 (by simp)
 have b4_6:=box_chg (get_app' b3_6 _) c4 (by simp)
 have o4_x0:=Dt.chg0 (Dt.app o3_x0) c4
 have o4_w1:=Dt.chg0 (Dt.app o3_w1) c4
 have o4_x2:=Dt.chg0 (Dt.app o_x2) c4
 have cH4:Chg H H4 []:=(cH3.trans (Chg.app [])).trans c4
 have h_g3:=dChip.lt o_g3
 try simp at n_g3
 have one_g3:=dChip_one o_g3
 simp [VM.look,b4_2,b4_3,b4_6,b4_8,get_app' b4_2,get_app' b4_3,get_app' b4_6,get_app' b4_8,cH4.1,Nat.le_add_right_of_le cH4.1,one_x0,one_w1,one_x2,one_g3,ro0_2,ro0_3,ro0_4,ro0_5,ro0_6,ro0_7,ro0_8,ro0_9,ro0_11,dChip_val,f0]
 have eq5:=fun F (L:Heap)=>eqChip_d (frz:=F) (H:=H4++L) (Dt.app o_g3) (Dt.app o4_w1)
 try simp only [dChip_val] at eq5
 simp [eq5,VM.look,b4_2,b4_3,b4_6,b4_8,get_app' b4_2,get_app' b4_3,get_app' b4_6,get_app' b4_8,cH4.1,Nat.le_add_right_of_le cH4.1,one_x0,one_w1,one_x2,one_g3,ro0_2,ro0_3,ro0_4,ro0_5,ro0_6,ro0_7,ro0_8,ro0_9,ro0_11,dChip_val,f0]
 rw [go_draw (h:=by kernel_rfl)]
 simp [VM.look,b4_2,b4_3,b4_6,b4_8,get_app' b4_2,get_app' b4_3,get_app' b4_6,get_app' b4_8,cH4.1,Nat.le_add_right_of_le cH4.1,one_x0,one_w1,one_x2,one_g3,ro0_2,ro0_3,ro0_4,ro0_5,ro0_6,ro0_7,ro0_8,ro0_9,ro0_11,dChip_val,f0]
 refine wp_thn (toChip_w a0_0 a0_1 a0_10 u0_2 u0_3 u0_4 u0_5 u0_6 u0_7 u0_8 u0_9 u0_11 h0_5 h0_8 h0_9 a0_2 a0_3 a0_4 a0_6 a0_7 a0_5 a0_8 a0_9 a0_11 (IsI.rd (Rd.isI (Rd.chg r0_2 (cH4.trans (Chg.app [])) (by simp)))) (IsI.rd (Rd.isI (Rd.chg r0_3 (cH4.trans (Chg.app [])) (by simp)))) (IsI.rd (Rd.isI (Rd.chg r0_4 (cH4.trans (Chg.app [])) (by simp)))) (RdL.chg r0_5 (cH4.trans (Chg.app [])) (by simp)) (IsI.rd (Rd.isI (Rd.chg r0_6 (cH4.trans (Chg.app [])) (by simp)))) (IsI.rd (Rd.isI (Rd.chg r0_7 (cH4.trans (Chg.app [])) (by simp)))) (RdL.chg r0_8 (cH4.trans (Chg.app [])) (by simp)) (RdL.chg r0_9 (cH4.trans (Chg.app [])) (by simp)) (Rd.chg r0_11 (cH4.trans (Chg.app [])) (by simp)) (by omega) (by omega) (by omega) (by have:=tot_len a0_5;omega) (fun x hx=>by have:=tot_in a0_5 x hx;omega) (by omega) (by omega) (by have:=tot_len a0_8;omega) (fun x hx=>by have:=tot_in a0_8 x hx;omega) (by have:=tot_len a0_9;omega) (fun x hx=>by have:=tot_in a0_9 x hx;omega) (by omega)) ?_
 rintro _ H6 ⟨v_x4,rfl,o_x4,c6,n_x4,d_x4⟩
 have l6:=c6.1
 try simp at l6
 have b6_9:=box_chg ((app_get0 _ _).trans rfl) c6 (by simp)
 have b6_2:=box_chg (get_app' b4_2 _) c6 (by simp)
 have b6_3:=box_chg (get_app' b4_3 _) c6 (by simp)
 have b6_6:=box_chg (get_app' b4_6 _) c6 (by simp)
 have b6_8:=box_chg (get_app' b4_8 _) c6 (by simp)
 have o6_x0:=Dt.chg0 (Dt.app o4_x0) c6
 have o6_w1:=Dt.chg0 (Dt.app o4_w1) c6
 have o6_x2:=Dt.chg0 (Dt.app o4_x2) c6
 have o6_g3:=Dt.chg0 (Dt.app o_g3) c6
 have cH6:Chg H H6 []:=(cH4.trans (Chg.app [])).trans c6
 have h_x4:=dChip.lt o_x4
 try simp at n_x4
 have one_x4:=dChip_one o_x4
 simp [VM.look,b6_2,b6_3,b6_6,b6_8,b6_9,get_app' b6_2,get_app' b6_3,get_app' b6_6,get_app' b6_8,get_app' b6_9,cH6.1,Nat.le_add_right_of_le cH6.1,one_x0,one_w1,one_x2,one_g3,one_x4,ro0_2,ro0_3,ro0_4,ro0_5,ro0_6,ro0_7,ro0_8,ro0_9,ro0_11,dChip_val,f0]
 have eq7:=fun F=>eqChip_d (frz:=F) (H:=H6) o6_x2 o_x4
 try simp only [dChip_val] at eq7
 simp [eq7,VM.look,b6_2,b6_3,b6_6,b6_8,b6_9,get_app' b6_2,get_app' b6_3,get_app' b6_6,get_app' b6_8,get_app' b6_9,cH6.1,Nat.le_add_right_of_le cH6.1,one_x0,one_w1,one_x2,one_g3,one_x4,ro0_2,ro0_3,ro0_4,ro0_5,ro0_6,ro0_7,ro0_8,ro0_9,ro0_11,dChip_val,f0]
 have mk8:=markChip_d (frz:=H.length) (H:=H6) (k:=1) o6_x2 d_x2 (by omega) (fun i hi=>by have:=n_x2 i hi;have:=cH6.1;omega)
 try simp only [dChip_val] at mk8
 refine wp_thn mk8 ?_
 rintro _ H8 ⟨m8,a_x2,rfl,hm8,hv8,o8_x2,c8,he8⟩
 clear mk8
 have l8:=c8.1
 try simp at l8
 have b8_2:=box_chg b6_2 c8 (fun hh=>by have:=n_x2 _ hh;have:=h_x2 _ hh;omega)
 have b8_3:=box_chg b6_3 c8 (fun hh=>by have:=n_x2 _ hh;have:=h_x2 _ hh;omega)
 have b8_6:=box_chg b6_6 c8 (fun hh=>by have:=n_x2 _ hh;have:=h_x2 _ hh;omega)
 have b8_8:=box_chg b6_8 c8 (fun hh=>by have:=n_x2 _ hh;have:=h_x2 _ hh;omega)
 have b8_9:=box_chg b6_9 c8 (fun hh=>by have:=n_x2 _ hh;have:=h_x2 _ hh;omega)
 have o8_x0:=Dt.chg o6_x0 c8 (fun i hi hh=>by have:=n_x0 i hi;have:=h_x0 i hi;have:=n_x2 i hh;have:=h_x2 i hh;omega)
 have o8_w1:=Dt.chg o6_w1 c8 (fun i hi hh=>by have:=n_w1 i hi;have:=h_w1 i hi;have:=n_x2 i hh;have:=h_x2 i hh;omega)
 have o8_g3:=Dt.chg o6_g3 c8 (fun i hi hh=>by have:=n_g3 i hi;have:=h_g3 i hi;have:=n_x2 i hh;have:=h_x2 i hh;omega)
 have o8_x4:=Dt.chg o_x4 c8 (fun i hi hh=>by have:=n_x4 i hi;have:=h_x4 i hi;have:=n_x2 i hh;have:=h_x2 i hh;omega)
 have cH8:Chg H H8 []:=(cH6).trans' c8 (fun i hi=>.inr (by have:=n_x2 i hi;have:=cH6.1;omega))
 try simp only [hv8,dChip_val] at he8
 have fl8:¬(1+m8<0):=by omega
 simp [VM.look,b8_2,b8_3,b8_6,b8_8,b8_9,get_app' b8_2,get_app' b8_3,get_app' b8_6,get_app' b8_8,get_app' b8_9,cH8.1,Nat.le_add_right_of_le cH8.1,one_x0,one_w1,one_x2,one_g3,one_x4,ro0_2,ro0_3,ro0_4,ro0_5,ro0_6,ro0_7,ro0_8,ro0_9,ro0_11,dChip_val,f0,fl8]
 have eq9:=fun F=>eqChip_d (frz:=F) (H:=H8) o8_g3 o8_w1
 try simp only [dChip_val] at eq9
 simp [eq9,VM.look,b8_2,b8_3,b8_6,b8_8,b8_9,get_app' b8_2,get_app' b8_3,get_app' b8_6,get_app' b8_8,get_app' b8_9,cH8.1,Nat.le_add_right_of_le cH8.1,one_x0,one_w1,one_x2,one_g3,one_x4,ro0_2,ro0_3,ro0_4,ro0_5,ro0_6,ro0_7,ro0_8,ro0_9,ro0_11,dChip_val,f0,fl8]
 have mk10:=markChip_d (frz:=H.length) (H:=H8) (k:=1) o8_g3 d_g3 (by omega) (fun i hi=>by have:=n_g3 i hi;have:=cH8.1;omega)
 try simp only [dChip_val] at mk10
 refine wp_thn mk10 ?_
 rintro _ H10 ⟨m10,a_g3,rfl,hm10,hv10,o10_g3,c10,he10⟩
 clear mk10
 have l10:=c10.1
 try simp at l10
 have b10_2:=box_chg b8_2 c10 (fun hh=>by have:=n_g3 _ hh;have:=h_g3 _ hh;omega)
 have b10_3:=box_chg b8_3 c10 (fun hh=>by have:=n_g3 _ hh;have:=h_g3 _ hh;omega)
 have b10_6:=box_chg b8_6 c10 (fun hh=>by have:=n_g3 _ hh;have:=h_g3 _ hh;omega)
 have b10_8:=box_chg b8_8 c10 (fun hh=>by have:=n_g3 _ hh;have:=h_g3 _ hh;omega)
 have b10_9:=box_chg b8_9 c10 (fun hh=>by have:=n_g3 _ hh;have:=h_g3 _ hh;omega)
 have o10_x0:=Dt.chg o8_x0 c10 (fun i hi hh=>by have:=n_x0 i hi;have:=h_x0 i hi;have:=n_g3 i hh;have:=h_g3 i hh;omega)
 have o10_w1:=Dt.chg o8_w1 c10 (fun i hi hh=>by have:=n_w1 i hi;have:=h_w1 i hi;have:=n_g3 i hh;have:=h_g3 i hh;omega)
 have o10_x2:=Dt.chg o8_x2 c10 (fun i hi hh=>by have:=n_x2 i hi;have:=h_x2 i hi;have:=n_g3 i hh;have:=h_g3 i hh;omega)
 have o10_x4:=Dt.chg o8_x4 c10 (fun i hi hh=>by have:=n_x4 i hi;have:=h_x4 i hi;have:=n_g3 i hh;have:=h_g3 i hh;omega)
 have cH10:Chg H H10 []:=(cH8).trans' c10 (fun i hi=>.inr (by have:=n_g3 i hi;have:=cH8.1;omega))
 try simp only [hv10,dChip_val] at he10
 have fl10:¬(1+m10<0):=by omega
 simp [VM.look,b10_2,b10_3,b10_6,b10_8,b10_9,get_app' b10_2,get_app' b10_3,get_app' b10_6,get_app' b10_8,get_app' b10_9,cH10.1,Nat.le_add_right_of_le cH10.1,one_x0,one_w1,one_x2,one_g3,one_x4,ro0_2,ro0_3,ro0_4,ro0_5,ro0_6,ro0_7,ro0_8,ro0_9,ro0_11,dChip_val,f0,fl8,fl10]
 have hd11:=fun F=>he10 F _ o10_g3
 simp [hd11,VM.look,b10_2,b10_3,b10_6,b10_8,b10_9,get_app' b10_2,get_app' b10_3,get_app' b10_6,get_app' b10_8,get_app' b10_9,cH10.1,Nat.le_add_right_of_le cH10.1,one_x0,one_w1,one_x2,one_g3,one_x4,ro0_2,ro0_3,ro0_4,ro0_5,ro0_6,ro0_7,ro0_8,ro0_9,ro0_11,dChip_val,f0,fl8,fl10]
 rw [go_draw (h:=by kernel_rfl)]
 simp [VM.look,b10_2,b10_3,b10_6,b10_8,b10_9,get_app' b10_2,get_app' b10_3,get_app' b10_6,get_app' b10_8,get_app' b10_9,cH10.1,Nat.le_add_right_of_le cH10.1,one_x0,one_w1,one_x2,one_g3,one_x4,ro0_2,ro0_3,ro0_4,ro0_5,ro0_6,ro0_7,ro0_8,ro0_9,ro0_11,dChip_val,f0,fl8,fl10]
 refine wp_thn (toChip_w a0_0 a0_1 a0_10 u0_2 u0_3 u0_4 u0_5 u0_6 u0_7 u0_8 u0_9 u0_11 h0_5 h0_8 h0_9 a0_2 a0_3 a0_4 a0_6 a0_7 a0_5 a0_8 a0_9 a0_11 (IsI.rd (Rd.isI (Rd.chg r0_2 cH10 (by simp)))) (IsI.rd (Rd.isI (Rd.chg r0_3 cH10 (by simp)))) (IsI.rd (Rd.isI (Rd.chg r0_4 cH10 (by simp)))) (RdL.chg r0_5 cH10 (by simp)) (IsI.rd (Rd.isI (Rd.chg r0_6 cH10 (by simp)))) (IsI.rd (Rd.isI (Rd.chg r0_7 cH10 (by simp)))) (RdL.chg r0_8 cH10 (by simp)) (RdL.chg r0_9 cH10 (by simp)) (Rd.chg r0_11 cH10 (by simp)) (by omega) (by omega) (by omega) (by have:=tot_len a0_5;omega) (fun x hx=>by have:=tot_in a0_5 x hx;omega) (by omega) (by omega) (by have:=tot_len a0_8;omega) (fun x hx=>by have:=tot_in a0_8 x hx;omega) (by have:=tot_len a0_9;omega) (fun x hx=>by have:=tot_in a0_9 x hx;omega) (by omega)) ?_
 rintro _ H12 ⟨v_x5,rfl,o_x5,c12,n_x5,d_x5⟩
 have l12:=c12.1
 try simp at l12
 have b12_2:=box_chg b10_2 c12 (by simp)
 have b12_3:=box_chg b10_3 c12 (by simp)
 have b12_6:=box_chg b10_6 c12 (by simp)
 have b12_8:=box_chg b10_8 c12 (by simp)
 have b12_9:=box_chg b10_9 c12 (by simp)
 have o12_x0:=Dt.chg0 o10_x0 c12
 have o12_w1:=Dt.chg0 o10_w1 c12
 have o12_x2:=Dt.chg0 o10_x2 c12
 have o12_g3:=Dt.chg0 o10_g3 c12
 have o12_x4:=Dt.chg0 o10_x4 c12
 have cH12:Chg H H12 []:=(cH10).trans c12
 have h_x5:=dChip.lt o_x5
 try simp at n_x5
 have one_x5:=dChip_one o_x5
 simp [VM.look,b12_2,b12_3,b12_6,b12_8,b12_9,get_app' b12_2,get_app' b12_3,get_app' b12_6,get_app' b12_8,get_app' b12_9,cH12.1,Nat.le_add_right_of_le cH12.1,one_x0,one_w1,one_x2,one_g3,one_x4,one_x5,ro0_2,ro0_3,ro0_4,ro0_5,ro0_6,ro0_7,ro0_8,ro0_9,ro0_11,dChip_val,f0,fl8,fl10]
 simp [VM.look,b12_2,b12_3,b12_6,b12_8,b12_9,get_app' b12_2,get_app' b12_3,get_app' b12_6,get_app' b12_8,get_app' b12_9,cH12.1,Nat.le_add_right_of_le cH12.1,one_x0,one_w1,one_x2,one_g3,one_x4,one_x5,ro0_2,ro0_3,ro0_4,ro0_5,ro0_6,ro0_7,ro0_8,ro0_9,ro0_11,dChip_val,toAct_c,f0,fl8,fl10]
 have ex13:=doAct_d (frz:=H.length) (H:=H12) (k:=a1_0) (p:=a1_1) (q:=a1_2) (r:=a1_3) (s:=a1_4) o_x5 (fun x hx=>by have:=tot_in a0_9 x hx;omega)
 try simp only [dChip_val] at ex13
 refine wp_thn ex13 ?_
 rintro _ H13 ⟨_,rfl,v_g6,rfl,o_g6,c13,n_g6,d_g6⟩
 clear ex13
 have l13:=c13.1
 try simp at l13
 have b13_2:=box_chg b12_2 c13 (by simp)
 have b13_3:=box_chg b12_3 c13 (by simp)
 have b13_6:=box_chg b12_6 c13 (by simp)
 have b13_8:=box_chg b12_8 c13 (by simp)
 have b13_9:=box_chg b12_9 c13 (by simp)
 have o13_x0:=Dt.chg0 o12_x0 c13
 have o13_w1:=Dt.chg0 o12_w1 c13
 have o13_x2:=Dt.chg0 o12_x2 c13
 have o13_g3:=Dt.chg0 o12_g3 c13
 have o13_x4:=Dt.chg0 o12_x4 c13
 have o13_x5:=Dt.chg0 o_x5 c13
 have cH13:Chg H H13 []:=(cH12).trans c13
 have h_g6:=dChip.lt o_g6
 try simp at n_g6
 have one_g6:=dChip_one o_g6
 simp [VM.look,b13_2,b13_3,b13_6,b13_8,b13_9,get_app' b13_2,get_app' b13_3,get_app' b13_6,get_app' b13_8,get_app' b13_9,cH13.1,Nat.le_add_right_of_le cH13.1,one_x0,one_w1,one_x2,one_g3,one_x4,one_x5,one_g6,ro0_2,ro0_3,ro0_4,ro0_5,ro0_6,ro0_7,ro0_8,ro0_9,ro0_11,dChip_val,f0,fl8,fl10]
 have eq14:=fun F (L:Heap)=>eqChip_d (frz:=F) (H:=H13++L) (Dt.app o_g6) (Dt.app o13_w1)
 try simp only [dChip_val] at eq14
 simp [eq14,VM.look,b13_2,b13_3,b13_6,b13_8,b13_9,get_app' b13_2,get_app' b13_3,get_app' b13_6,get_app' b13_8,get_app' b13_9,cH13.1,Nat.le_add_right_of_le cH13.1,one_x0,one_w1,one_x2,one_g3,one_x4,one_x5,one_g6,ro0_2,ro0_3,ro0_4,ro0_5,ro0_6,ro0_7,ro0_8,ro0_9,ro0_11,dChip_val,f0,fl8,fl10]
 have hd15:=fun F (L:Heap)=>he10 F (H13++L) (Dt.app o13_g3)
 simp [hd15,VM.look,b13_2,b13_3,b13_6,b13_8,b13_9,get_app' b13_2,get_app' b13_3,get_app' b13_6,get_app' b13_8,get_app' b13_9,cH13.1,Nat.le_add_right_of_le cH13.1,one_x0,one_w1,one_x2,one_g3,one_x4,one_x5,one_g6,ro0_2,ro0_3,ro0_4,ro0_5,ro0_6,ro0_7,ro0_8,ro0_9,ro0_11,dChip_val,f0,fl8,fl10]
theorem law_FnExactDoAct {a0_0:Int} {a0_1:Int} {a0_2:List (Int)} {u0_2:Value} {a0_3:List (Int)} {u0_3:Value} {a0_4:List (Int)} {u0_4:Value} {a0_5:List (List (Int×Int×Int×Bool×Bool))} {u0_5:Value} {a0_6:List (Int)} {u0_6:Value} {a0_7:List (Int)} {u0_7:Value} {a0_8:List (List (Int×Int×Int×Bool×Bool))} {u0_8:Value} {a0_9:List (List (Int×Int×Int×Bool×Bool))} {u0_9:Value} {a0_10:Int} {a0_11:List (Int×Int×Int×Int×Int)} {u0_11:Value} {a1_0:Int} {a1_1:Int} {a1_2:Int} {a1_3:Int} {a1_4:Int} (s0_2:IsS (Kn.int .i64) H u0_2 a0_2) (s0_3:IsS (Kn.int .i64) H u0_3 a0_3) (s0_4:IsS (Kn.int .i64) H u0_4 a0_4) (s0_5:IsS (Kn.slice (Kn.pair (Kn.int .i64) (Kn.pair (Kn.int .i64) (Kn.pair (Kn.int .i64) (Kn.pair Kn.bool Kn.bool))))) H u0_5 a0_5) (s0_6:IsS (Kn.int .i64) H u0_6 a0_6) (s0_7:IsS (Kn.int .i64) H u0_7 a0_7) (s0_8:IsS (Kn.slice (Kn.pair (Kn.int .i64) (Kn.pair (Kn.int .i64) (Kn.pair (Kn.int .i64) (Kn.pair Kn.bool Kn.bool))))) H u0_8 a0_8) (s0_9:IsS (Kn.slice (Kn.pair (Kn.int .i64) (Kn.pair (Kn.int .i64) (Kn.pair (Kn.int .i64) (Kn.pair Kn.bool Kn.bool))))) H u0_9 a0_9) (s0_11:IsS (Kn.pair (Kn.int .i64) (Kn.pair (Kn.int .i64) (Kn.pair (Kn.int .i64) (Kn.pair (Kn.int .i64) (Kn.int .i64))))) H u0_11 a0_11)
 (w0:(((((Lit.int .i64 a0_0).wf=true)∧((Lit.int .i64 a0_1).wf=true))∧(a0_2.length≤maxLen∧∀x1∈a0_2,(Lit.int .i64 x1).wf=true))∧(((a0_3.length≤maxLen∧∀x2∈a0_3,(Lit.int .i64 x2).wf=true))∧((a0_4.length≤maxLen∧∀x3∈a0_4,(Lit.int .i64 x3).wf=true)))∧(a0_5.length≤maxLen∧∀x4∈a0_5,x4.length≤maxLen∧∀x5∈x4,((Lit.int .i64 x5.1).wf=true)∧((Lit.int .i64 x5.2.1).wf=true)∧((Lit.int .i64 x5.2.2.1).wf=true)∧(True)∧(True))∧(a0_6.length≤maxLen∧∀x6∈a0_6,(Lit.int .i64 x6).wf=true)∧(a0_7.length≤maxLen∧∀x7∈a0_7,(Lit.int .i64 x7).wf=true)∧(a0_8.length≤maxLen∧∀x8∈a0_8,x8.length≤maxLen∧∀x9∈x8,((Lit.int .i64 x9.1).wf=true)∧((Lit.int .i64 x9.2.1).wf=true)∧((Lit.int .i64 x9.2.2.1).wf=true)∧(True)∧(True))∧(a0_9.length≤maxLen∧∀x10∈a0_9,x10.length≤maxLen∧∀x11∈x10,((Lit.int .i64 x11.1).wf=true)∧((Lit.int .i64 x11.2.1).wf=true)∧((Lit.int .i64 x11.2.2.1).wf=true)∧(True)∧(True))∧((Lit.int .i64 a0_10).wf=true))∧(a0_11.length≤maxLen∧∀x12∈a0_11,((Lit.int .i64 x12.1).wf=true)∧((Lit.int .i64 x12.2.1).wf=true)∧((Lit.int .i64 x12.2.2.1).wf=true)∧((Lit.int .i64 x12.2.2.2.1).wf=true)∧((Lit.int .i64 x12.2.2.2.2).wf=true))) (w1:((Lit.int .i64 a1_0).wf=true)∧((Lit.int .i64 a1_1).wf=true)∧((Lit.int .i64 a1_2).wf=true)∧((Lit.int .i64 a1_3).wf=true)∧((Lit.int .i64 a1_4).wf=true)) :
 vcall C frz 6 [.agg #[.int .i64 a0_0,.int .i64 a0_1,u0_2,u0_3,u0_4,u0_5,u0_6,u0_7,u0_8,u0_9,.int .i64 a0_10,u0_11],.agg #[.int .i64 a1_0,.int .i64 a1_1,.int .i64 a1_2,.int .i64 a1_3,.int .i64 a1_4]] H=some (.bool true,H):=
 (law_FnExactDoAct_w s0_2 s0_3 s0_4 s0_5 s0_6 s0_7 s0_8 s0_9 s0_11 w0 w1).exact (by simp) rfl
end Go.Proofs.YtcigpclbhfkgaaaGreat.V
