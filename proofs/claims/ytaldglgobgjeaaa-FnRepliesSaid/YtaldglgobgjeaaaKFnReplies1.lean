/- Texts of a proof, joined. -/
import Derived.Test.YtaldglgobgjeaaaKM0
import Derived.Test.YtaldglgobgjeaaaKM1
import Derived.Test.YtaldglgobgjeaaaKFnReplies0
set_option linter.all false
namespace Go.Proofs.Ytaldglgobgjeaaa.V
open Go Go.VM Go.Proofs
set_option maxRecDepth 10000
variable {frz:Nat} {H:Heap} {v:Value} {xs ys:List Int} {e:TypeId}
def prs (xs:List Int):List (Nat×Nat):=xs.map fun k=>((k/1024).toNat,(k%1024).toNat)
theorem Rh {l:List Int} {i:Nat} (x:Int) (h:i<l.length) (c:Nat):G (l.set i x) c=if c=i then x else G l c:=by
 unfold G
 rw [List.getD_eq_getElem?_getD,List.getD_eq_getElem?_getD,List.getElem?_set]
 by_cases e:i=c
 ·subst e;simp [h]
 ·rw [if_neg e,if_neg (Ne.symm e)]
theorem Ml (rk:List Int) (c:Nat):ordFree (prs xs) rk c↔G rk c<0∧∀j,j<xs.length→(G xs j%1024).toNat=c→¬G rk (G xs j/1024).toNat<0:=by
 unfold ordFree prs
 refine and_congr Iff.rfl ⟨fun h j hj e=>?_,fun h d hd e=>?_⟩
 ·rw [Qo hj] at e ⊢
  exact h _ (List.mem_map_of_mem (List.getElem_mem hj)) e
 ·obtain ⟨k,hk,rfl⟩:=List.mem_map.1 hd
  obtain ⟨j,hj,rfl⟩:=List.mem_iff_getElem.1 hk
  have:=h j hj
  rw [Qo hj] at this
  exact this e
theorem Uu {ds:List (Nat×Nat)}:∀{r:Nat} {rk:List Int},ordRun ds r=some rk→rk.length=128
 | 0,rk,h=>by cases h;simp
 | r+1,rk,h=>by
  unfold ordRun at h
  split at h
  ·rename_i rk0 h0
   split at h
   ·cases h;rw [List.length_set];exact Uu h0
   ·cases h
  ·cases h
theorem Zy {ds:List (Nat×Nat)} {r:Nat} (h:ordRun ds r=none):∀k,ordRun ds (r+k)=none
 | 0=>h
 | k+1=>by
  show ordRun ds ((r+k)+1)=none
  unfold ordRun
  rw [Zy h k]
theorem Oo {ds:List (Nat×Nat)} {r:Nat} {rk:List Int} (hr:r<128) (h:ordRun ds r=some rk) (hn:ordNext ds rk=none):¬orderOk ds:=fun k=>by
 have h1:ordRun ds (r+1)=none:=by
  unfold ordRun;rw [h];simp only [hn]
 have:=Zy h1 (128-(r+1))
 rw [show r+1+(128-(r+1))=128 by omega] at this
 exact k this
theorem On {ds:List (Nat×Nat)} {r c:Nat} {rk:List Int} (h:ordRun ds r=some rk) (hn:ordNext ds rk=some c):ordRun ds (r+1)=some (rk.set c (r:Int)):=by
 unfold ordRun;rw [h];simp only [hn]
theorem Pr {fr rk:List Int} (fl:fr.length=128) (hf:∀c,G fr c=-2↔ordFree (prs xs) rk c) :
 (∃c:Nat,c<128∧placeP (fun x=>decide (x=-2)) fr=c∧ordNext (prs xs) rk=some c)∨(placeP (fun x=>decide (x=-2)) fr=-1∧ordNext (prs xs) rk=none):=by
 cases hn:ordNext (prs xs) rk with
 | none=>
  refine .inr ⟨?_,rfl⟩
  unfold placeP
  rw [if_neg]
  rw [List.any_eq_true]
  rintro ⟨x,hx,hp⟩
  obtain ⟨c,hc,rfl⟩:=List.mem_iff_getElem.1 hx
  have h1:G fr c=-2:=by rw [Qo hc];simpa using hp
  have:=List.find?_eq_none.1 hn c (List.mem_range.2 (by omega))
  exact this (by simpa using (hf c).1 h1)
 | some c=>
  unfold ordNext at hn
  rw [List.find?_eq_some_iff_getElem] at hn
  obtain ⟨h1,i,hi,h2,h3⟩:=hn
  simp at hi h2 h1
  subst h2
  refine .inl ⟨i,hi,V4 (by omega) (fun x hx=>?_) ?_,rfl⟩
  ·rw [List.mem_take_iff_getElem] at hx
   obtain ⟨j,hj,rfl⟩:=hx
   have:=h3 j (by omega)
   simp at this
   have q:¬G fr j=-2:=fun h=>this ((hf j).1 h)
   rw [Qo (by omega)] at q
   simpa using q
  ·have:=(hf i).2 h1
   rw [Qo (by omega)] at this
   simpa using this
def OrdRes (H:Heap) (xs:List Int) (r:Value) (H':Heap):Prop:=
 ∃z ranks,r=.tuple #[z,.bool (decide (dOk xs∧orderOk (prs xs)))]∧Rd Fl.int H' z ranks∧Chg H H' []∧∀i∈ids z,H.length≤i
theorem Rv {A B:Heap} {is:List Nat} (h:Chg A B is) (L:Heap):Chg A (B++L) is:=h.trans (Chg.app _)
theorem Lq (x:Int):vcall C frz 52 [.int .i64 x] H=some (.bool (decide (x=-2)),H):=by
 rw [Qa (fn:=Try.f52) Try.func52 rfl (by kernel_rfl) rfl]
 simp
theorem Tm (u:Value) (fr:List Int) (hI:IsI H u fr) (hl:fr.length≤1073741824):vcall C frz 35 [v,u] H=some (.int .i64 (placeP (fun x=>decide (x=-2)) fr),H):=by
 rw [Qa (fn:=Try.f35) Try.func35 rfl (by kernel_rfl) rfl]
 have hf:∀F,∀x∈fr,vclos (vcall C F) (.func (.func 52) #[] #[]) [.int .i64 x] H=some (.bool (decide (x=-2)),H):=fun F x hx=>by
  simp [vclos,Lq]
 have:=fun F=>Rr (frz:=F) u (.func (.func 52) #[] #[]) (fun x=>decide (x=-2)) fr hI hl (hf _)
 simp [this]
 done
theorem Zs (v:Value) (xs:List Int) (h:OwE e H v xs) (hl:xs.length≤1073741824):wp (vcall C frz 15 [v] H) (OrdRes H xs):=by
 rw [Qa (fn:=Try.f15) Try.func15 rfl (by kernel_rfl) rfl]
 simp [Wi v xs h hl]
 refine Qc ?_ ?_<;>intro hd
 ·obtain ⟨R,hR⟩:∃R:List Value,R=List.replicate 128 (.int .i64 (-1)):=⟨_,rfl⟩
  have rc:=fun F=>Su (frz:=F) (H:=H++[⟨[.int .i64 (-1)],0,3⟩]) H.length (-1) 128 (by simp) (by decide) (by decide)
  rw [← hR] at rc
  simp at rc
  simp [rc]
  obtain ⟨K,hK⟩:∃K,K=H++[⟨[.int .i64 (-1)],0,3⟩,⟨R,0,3⟩]:=⟨_,rfl⟩
  obtain ⟨s,hs⟩:∃s:Value,s=.slice (some ⟨H.length+1,0,some 0⟩) 128 0:=⟨_,rfl⟩
  have hcell:R=cellsOf Fl.int (List.replicate 128 (-1)):=by rw [hR,Q9,List.map_replicate]
  have o0:Ow Fl.int 3 K s (List.replicate 128 (-1)):=by
   rw [hK,hs];exact Ow.new (k:=1) rfl hcell (by rw [hR];simp [ones,VM.one]) (by simp)
  have cK:Chg H K []:=by rw [hK];exact Chg.app _
  have hids:ids s=[H.length+1]:=by rw [hs];rfl
  rw [← hK,← hs]
  clear hK rc hcell
  refine Qk (fun n t H'=>∃(r:Nat) (rk:List Int),n=128-r∧r≤128∧t 0=v∧t 4=s∧t 17=.int .i64 r∧ordRun (prs xs) r=some rk∧Ow Fl.int 3 H' s rk∧Chg H H' []) ?_ (n:=128)
   ⟨0,_,rfl,by omega,by simp,by simp,by simp,rfl,o0,cK⟩
  rintro n t H' ⟨r,rk,rfl,hr,t0,t4,t17,hrk,o,ch⟩ ih
  have hlen:=Uu hrk
  simp [t0,t4,t17]
  refine Qc ?_ ?_<;>intro hlt
  ·have cl:=fun F=>Ll (frz:=F) s rk o.rd.isI (by omega) (by omega)
   have rl:=o.rd.len (P:=Try.prog) (ty:=26) (by simp)
   rw [hlen] at cl rl
   have rlL:=fun L=>(o.app (L:=L)).rd.len (P:=Try.prog) (ty:=26) (by simp)
   rw [hlen] at rlL
   simp [t0,t4,t17,cl,rlL]
   obtain ⟨u,hu⟩:∃u:Value,u=.slice (some ⟨H'.length,0,some 0⟩) 128 0:=⟨_,rfl⟩
   obtain ⟨K1,hK1⟩:∃K1,K1=H'++[⟨rk.map (.int .i64),0,3⟩]:=⟨_,rfl⟩
   have ou:Ow Fl.int 3 K1 u rk:=by rw [hK1,hu,← hlen];exact Ow.new0 rfl (Q9 rk).symm (by simp) rfl
   have c1:Chg H' K1 []:=by rw [hK1];exact Chg.app _
   have hiu:ids u=[H'.length]:=by rw [hu];rfl
   have hsl:H.length+1<H'.length:=o.lt _ (by rw [hids];simp)
   rw [← hK1,← hu]
   clear hK1
   have o1:=o.chg c1 (by simp)
   refine Qk (fun m t H2=>∃(i:Nat) (fr:List Int),m=128-i∧i≤128∧t 0=v∧t 4=s∧t 5=.int .i64 r∧t 6=u∧t 17=.int .i64 r∧t 22=s∧t 23=.int .i64 128∧t 24=.int .i64 i∧Ow Fl.int 3 H2 u fr∧fr.length=128∧Chg K1 H2 [H'.length]∧
    ∀c,G fr c=if c<i∧G rk c<0 then -2 else G rk c) ?_ (n:=128)
    ⟨0,rk,rfl,by omega,by simp [t0],by simp [t4],by simp,by simp,by simp [t17],by simp,by simp,by simp,ou,hlen,Chg.refl _,fun c=>by simp⟩
   rintro m t H2 ⟨i,fr,rfl,hi,t0,t4,t5,t6,t17,t22,t23,t24,o2,fl,ch2,hf⟩ ih1
   simp [t0,t4,t5,t6,t17,t22,t23,t24]
   refine Qc ?_ ?_<;>intro hlt1
   ·have os:=o1.chg ch2 (by rw [hids];simp;omega)
    have p1:=Q8 os.rd.isI (k:=i) (by omega)
    have p2:=Q8 o2.rd.isI (k:=i) (by omega)
    have w1:∀[Inhabited Unit],IntKind.i64.wrap ((i:Int)+1)=((i+1:Nat):Int):=by intro _;rw [w64 (by omega) (by omega)];omega
    simp [t0,t4,t5,t6,t17,t22,t23,t24,p1]
    refine Qc ?_ ?_<;>intro hneg
    ·obtain ⟨H3,st,o3,c3,l3⟩:=o2.put1 (P:=Try.prog) (frz:=H.length) (et:=3) (ag:=false) rfl (by simp) (j:=i) (by omega) (x:=.int .i64 (-2)) (y:=-2) rfl rfl rfl (by rw [hiu];simp;omega)
     simp [t0,t4,t5,t6,t17,t22,t23,t24,p2,st,w1]
     refine ih1 (128-(i+1)) _ _ ⟨i+1,_,rfl,by omega,by simp [t0],by simp [t4],by simp [t5],by simp [t6],by simp [t17],by simp [t22],by simp [t23],by simp,o3,by simpa using fl,ch2.trans (hiu▸c3),fun c=>?_⟩ (by omega)
     rw [Rh _ (by omega),hf c]
     by_cases hc:c=i
     ·subst hc;simp [hneg]
     ·rw [if_neg hc]
      by_cases hc2:c<i
      ·simp [hc2,show c<i+1 by omega]
      ·rw [if_neg (fun h=>hc2 h.1),if_neg (fun h=>by omega)]
    ·simp [t0,t4,t5,t6,t17,t22,t23,t24,w1]
     refine ih1 (128-(i+1)) _ _ ⟨i+1,fr,rfl,by omega,by simp [t0],by simp [t4],by simp [t5],by simp [t6],by simp [t17],by simp [t22],by simp [t23],by simp,o2,fl,ch2,fun c=>?_⟩ (by omega)
     rw [hf c]
     by_cases hc:c=i
     ·subst hc;rw [if_neg (fun h=>by omega),if_neg (fun h=>hneg h.2)]
     ·by_cases hc2:c<i
      ·simp [hc2,show c<i+1 by omega]
      ·rw [if_neg (fun h=>hc2 h.1),if_neg (fun h=>by omega)]
   ·have hi':i=128:=by omega
    subst hi'
    have h2:=h.chg (((ch.trans c1).trans' ch2 (fun i hi=>.inr (by simp at hi;omega)))) (by simp)
    simp [t0,t4,t5,t6,t17,h2.rd.len]
    have hsm:=fun j (hj:j<xs.length)=>(hd j hj).1
    have hbd:=fun j=>h.2.G j
    refine Qk (fun m t H3=>∃(i:Nat) (fr:List Int),m=xs.length-i∧i≤xs.length∧t 0=v∧t 4=s∧t 5=.int .i64 r∧t 6=u∧t 17=.int .i64 r∧t 35=v∧t 36=.int .i64 xs.length∧t 37=.int .i64 i∧Ow Fl.int 3 H3 u fr∧fr.length=128∧Chg K1 H3 [H'.length]∧
     ∀c,G fr c=-2↔G rk c<0∧∀j,j<i→(G xs j%1024).toNat=c→¬G rk (G xs j/1024).toNat<0) ?_ (n:=xs.length)
     ⟨0,fr,by simp,by omega,by simp [t0],by simp [t4],by simp [t5],by simp [t6],by simp [t17],by simp,by simp,by simp,o2,fl,ch2,fun c=>by
      rw [hf c]
      by_cases hc:c<128
      ·by_cases hg:G rk c<0
       ·simp [hc,hg]
       ·simp [hg];omega
      ·have:G rk c=0:=by unfold G;rw [List.getD_eq_getElem?_getD,List.getElem?_eq_none (by omega)];rfl
       simp [this]⟩
    clear hf o2 fl ch2 t0 t4 t5 t6 t17 t22 t23 t24 h2
    rintro m t H3 ⟨i,fr,rfl,hi2,t0,t4,t5,t6,t17,t35,t36,t37,o2,fl,ch2,hf⟩ ih2
    have h2:=h.chg (((ch.trans c1).trans' ch2 (fun i hi=>.inr (by simp at hi;omega)))) (by simp)
    simp [t0,t4,t5,t6,t17,t35,t36,t37]
    refine Qc ?_ ?_<;>intro hlt2
    ·have os:=fun L=>(o1.chg ch2 (by rw [hids];simp;omega)).app (L:=L)
     have b:=hbd i
     have b1:=b.1;have b2:=b.2
     have b3:=hsm i hlt2
     have p1:=Vv h2 hlt2
     have p10:=p1 []
     simp only [List.append_nil] at p10
     obtain ⟨f,hfr⟩:∃f:Nat,f=(G xs i/1024).toNat:=⟨_,rfl⟩
     obtain ⟨g,hto⟩:∃g:Nat,g=(G xs i%1024).toNat:=⟨_,rfl⟩
     have ef:G xs i/1024=(f:Int):=by omega
     have eg:G xs i%1024=(g:Int):=by omega
     have p2:=fun L=>Q8 (os L).rd.isI (k:=f) (by omega)
     have p3:=fun L=>Q8 (os L).rd.isI (k:=g) (by omega)
     have o2L:=fun L=>o2.app (L:=L)
     have p4:=fun L=>Q8 (o2L L).rd.isI (k:=g) (by omega)
     have w1:∀[Inhabited Unit],IntKind.i64.wrap ((i:Int)+1)=((i+1:Nat):Int):=by intro _;rw [w64 (by omega) (by omega)];omega
     have yes:=fun (t':Env) (H4:Heap) (fr':List Int) (x0:t' 0=v) (x4:t' 4=s) (x5:t' 5=.int .i64 r) (x6:t' 6=u) (x17:t' 17=.int .i64 r) (x35:t' 35=v) (x36:t' 36=.int .i64 xs.length) (x37:t' 37=.int .i64 (i+1:Nat)) (o4:Ow Fl.int 3 H4 u fr') (fl':fr'.length=128) (ch4:Chg K1 H4 [H'.length])
      (hq:∀c,G fr' c=-2↔G rk c<0∧∀j,j<i+1→(G xs j%1024).toNat=c→¬G rk (G xs j/1024).toNat<0)=>
      ih2 (xs.length-(i+1)) t' H4 ⟨i+1,fr',rfl,by omega,x0,x4,x5,x6,x17,x35,x36,x37,o4,fl',ch4,hq⟩ (by omega)
     have stay:¬(G rk f<0∧G rk g<0)→∀c,G fr c=-2↔G rk c<0∧∀j,j<i+1→(G xs j%1024).toNat=c→¬G rk (G xs j/1024).toNat<0:=fun hn c=>by
      rw [hf c]
      refine and_congr_right fun hc=>⟨fun hh j hj e=>?_,fun hh j hj=>hh j (by omega)⟩
      by_cases hji:j=i
      ·subst hji;rw [← hfr];intro hneg;refine hn ⟨hneg,?_⟩;rw [hto,e];exact hc
      ·exact hh j (by omega) e
     have hHl:H.length≤H3.length:=by have:=ch.1;have:=c1.1;have:=ch2.1;omega
     simp [t0,t4,t5,t6,t17,t35,t36,t37,p10,hHl,ef,eg,p2]
     have cb:=fun L=>Rv ch2 L
     refine Qu ?_ ?_<;>intro g1<;>simp [t0,t4,t5,t6,t17,t35,t36,t37,VM.look,p3,g1]
     ·refine Qc ?_ ?_<;>intro g2
      ·obtain ⟨H5,st,o5,c5,l5⟩:=(o2L [⟨[.int .i64 (f:Int),.int .i64 (g:Int)],0,52⟩]).put1 (P:=Try.prog) (frz:=H.length) (et:=3) (ag:=false) rfl (by simp) (j:=g) (by omega) (x:=.int .i64 (-1)) (y:=-1) rfl rfl rfl (by rw [hiu];simp;omega)
       simp [t0,t4,t5,t6,t17,t35,t36,t37,VM.look,p4,st,w1]
       refine yes _ _ _ ?_ ?_ ?_ ?_ ?_ ?_ ?_ ?_ o5 (by simpa using fl) ((cb _).trans (hiu▸c5)) ?_
       any_goals simp [t0,t4,t5,t6,t17,t35,t36]
       intro c
       rw [Rh _ (by omega)]
       by_cases hc:c=g
       ·rw [if_pos hc]
        refine ⟨fun hh=>by omega,fun hh=>?_⟩
        have:=hh.2 i (by omega) (by rw [hc,hto])
        rw [← hfr] at this;omega
       ·rw [if_neg hc,hf c]
        refine and_congr_right fun _=>⟨fun hh j hj e=>?_,fun hh j hj e=>?_⟩
        ·by_cases hji:j=i
         ·subst hji;omega
         ·have:=hh j (by omega) e;omega
        ·have:=hh j (by omega) e;omega
      ·simp [t0,t4,t5,t6,t17,t35,t36,t37,w1]
       refine yes _ _ _ ?_ ?_ ?_ ?_ ?_ ?_ ?_ ?_ (o2L _) fl (cb _) (stay fun h=>g2 h.2)<;>simp [t0,t4,t5,t6,t17,t35,t36]
     ·simp [t0,t4,t5,t6,t17,t35,t36,t37,w1]
      refine yes _ _ _ ?_ ?_ ?_ ?_ ?_ ?_ ?_ ?_ (o2L _) fl (cb _) (stay fun h=>g1 h.1)<;>simp [t0,t4,t5,t6,t17,t35,t36]
    ·have hi':i=xs.length:=by omega
     subst hi'
     simp [t0,t4,t5,t6,t17]
     have pl:=Pr fl (fun c=>(hf c).trans (Ml rk c).symm)
     have nx:=fun F=>Tm (v:=v) (frz:=F) u fr o2.rd.isI (by omega)
     rcases pl with ⟨c,hc,e1,e2⟩|⟨e1,e2⟩
     ·rw [e1] at nx
      have os:=o1.chg ch2 (by rw [hids];simp;omega)
      have p2:=Q8 os.rd.isI (k:=c) (by omega)
      have w1:∀[Inhabited Unit],IntKind.i64.wrap ((r:Int)+1)=((r+1:Nat):Int):=by intro _;rw [w64 (by omega) (by omega)];omega
      have hc0:¬((c:Int)<0):=by omega
      obtain ⟨H5,st,o5,c5,l5⟩:=os.put1 (P:=Try.prog) (frz:=H.length) (et:=3) (ag:=false) rfl (by simp) (j:=c) (by omega) (x:=.int .i64 (r:Int)) (y:=(r:Int)) rfl rfl rfl (by rw [hids];simp)
      simp [t0,t4,t5,t6,t17,nx,hc0,p2,st,w1]
      refine ih (128-(r+1)) _ _ ⟨r+1,_,rfl,by omega,by simp [t0],by simp [t4],by simp,On hrk e2,o5,?_⟩ (by omega)
      exact ((ch.trans c1).trans' ch2 (fun i hi=>.inr (by simp at hi;omega))).trans' c5 (fun i hi=>.inr (by rw [hids] at hi;simp at hi;omega))
     ·rw [e1] at nx
      simp [t0,t4,t5,t6,t17,nx]
      refine ⟨.slice none 0 0,[],?_,.inl ⟨rfl,rfl⟩,(ch.trans c1).trans' ch2 (fun i hi=>.inr (by simp at hi;omega)),by simp⟩
      have:=Oo (by omega) hrk e2
      simp [this]
  ·have hr':r=128:=by omega
   subst hr'
   simp [t4]
   refine ⟨s,rk,?_,o.rd,ch,by rw [hids];simp⟩
   have:orderOk (prs xs):=by unfold orderOk;rw [hrk];simp
   simp [this,hd]
 ·simp
  exact ⟨.slice none 0 0,[],by simp [hd],.inl ⟨rfl,rfl⟩,Chg.refl _,by simp⟩
def VdRes (H:Heap) (c:Int) (r:Value) (H':Heap):Prop:=∃z y rk cy,r=.agg #[.int .i64 c,z,y]∧Rd Fl.int H' z rk∧Rd Fl.int H' y cy∧Chg H H' []∧(∀i∈ids z,H.length≤i)∧(∀i∈ids y,H.length≤i)
theorem Mk (v:Value) (xs:List Int) (h:OwE e H v xs) (hl:xs.length≤1073741824) (hd:dOk xs) (ho:orderOk (prs xs)) :
 wp (vcall C frz 13 [v] H) (VdRes H 1):=by
 rw [Qa (fn:=Try.f13) Try.func13 rfl (by kernel_rfl) rfl]
 simp
 refine Qe (Zs v xs h.app hl) ?_
 rintro _ H1 ⟨z,rk,rfl,rz,c1,n1⟩
 have e1:decide (dOk xs∧orderOk (prs xs))=true:=by simp [hd,ho]
 have oz:=And.intro rz.one' rz.cells
 have b0:H1[H.length]? = some ⟨[.int .i64 0,.slice none 0 0,.slice none 0 0],0,36⟩:=Qb (by simp) c1 (by simp)
 have ln:∀i∈ids z,H.length+1≤i:=fun i hi=>by have:=n1 i hi;simpa using this
 rw [e1]
 simp [oz,VM.look,b0,VM.splice]
 have cs:=Qn (H:=H1) H.length ⟨[.int .i64 1,z,.slice none 0 0],0,36⟩
 have gs:=Qy (r':=⟨[.int .i64 1,z,.slice none 0 0],0,36⟩) b0
 have rz2:=rz.chg cs (fun i hi hh=>by simp at hh;have:=ln i hi;omega)
 have cc:Chg H (H1.set H.length ⟨[.int .i64 1,z,.slice none 0 0],0,36⟩) []:=((Chg.app _).trans c1).trans' cs (fun i hi=>.inr (by simp at hi;omega))
 generalize H1.set H.length ⟨[.int .i64 1,z,.slice none 0 0],0,36⟩=H2 at *
 simp [gs]
 exact ⟨z,_,rk,[],rfl,rz2,.inl ⟨rfl,rfl⟩,cc,fun i hi=>by have:=ln i hi;omega,by simp⟩
end Go.Proofs.Ytaldglgobgjeaaa.V
set_option linter.all false
namespace Go.Proofs.Ytaldglgobgjeaaa.V
open Go Go.VM Go.Proofs
set_option maxRecDepth 10000
end Go.Proofs.Ytaldglgobgjeaaa.V
set_option linter.all false
namespace Go.Proofs.Ytaldglgobgjeaaa.V
open Go Go.VM
section
variable {w h r:Int} {b:List Int} (H:rootOk w h b r)
include H
end
end Go.Proofs.Ytaldglgobgjeaaa.V
set_option linter.all false
namespace Go.Proofs.Ytaldglgobgjeaaa.V
open Go Go.VM Go.Proofs
set_option maxRecDepth 10000
variable {frz:Nat} {H:Heap}
end Go.Proofs.Ytaldglgobgjeaaa.V
set_option linter.all false
namespace Go.Proofs.Ytaldglgobgjeaaa.V
open Go Go.VM
set_option maxRecDepth 100000
section
variable {w h r:Int} {b:List Int} (H:rootOk w h b r)
include H
end
section
variable {w h r:Int} {b:List Int} (hc:conn w h b) (hr:isN w h r)
include hc hr
end
end Go.Proofs.Ytaldglgobgjeaaa.V
set_option linter.all false
namespace Go.Proofs.Ytaldglgobgjeaaa.V
open Go Go.VM Go.Proofs
set_option maxRecDepth 10000
section
variable {w h r:Int} {b:List Int} (hc:conn w h b) (hr:isN w h r)
include hc hr
end
theorem gD {l:List Int} {i:Nat} (x:Int) (h:i<l.length) (c:Nat):(l.set i x).getD c 0=if c=i then x else l.getD c 0:=Rh x h c
theorem Tj {ds:List (Nat×Nat)} {rk:List Int} {c:Nat} (h:ordNext ds rk=some c):c<128∧ordFree ds rk c:=by
 unfold ordNext at h
 exact ⟨List.mem_range.1 (List.mem_of_find?_eq_some h),by simpa using List.find?_some h⟩
theorem Xn {ds:List (Nat×Nat)} (hs:∀d∈ds,d.1<128∧d.2<128):∀{r:Nat} {rk:List Int},r≤128→ordRun ds r=some rk→rk.length=128∧negs rk=128-r∧(∀c,c<128→rk.getD c 0<(r:Int))∧∀d∈ds,0≤rk.getD d.2 0→0≤rk.getD d.1 0∧rk.getD d.1 0<rk.getD d.2 0
 | 0,rk,_,h=>by
  cases h
  have g:∀c,c<128→(List.replicate 128 (-1:Int)).getD c 0=-1:=fun c hc=>by
   rw [List.getD_eq_getElem?_getD,List.getElem?_eq_getElem (by simpa using hc)];simp only [List.getElem_replicate,Option.getD_some]
  refine ⟨by simp,?_,fun c hc=>by rw [g c hc];omega,fun d hd h=>?_⟩
  ·unfold negs
   rw [List.filter_eq_self.2]
   ·simp
   ·intro x hx
    rw [List.eq_of_mem_replicate hx];decide
  ·rw [g _ (hs d hd).2] at h;omega
 | r+1,rk,hr,h=>by
  unfold ordRun at h
  split at h
  ·rename_i rk0 h0
   obtain ⟨i1,i2,i3,i4⟩:=Xn hs (by omega) h0
   split at h
   ·rename_i c hc
    cases h
    obtain ⟨c1,c2,c3⟩:=Tj hc
    have:=Uv rk0 c (r:Int) (by omega) c2 (by omega)
    refine ⟨by rw [List.length_set];exact i1,by omega,fun k hk=>?_,fun d hd hp=>?_⟩
    ·rw [gD _ (by omega)]
     split
     ·omega
     ·have:=i3 k hk;omega
    ·have h2:=hs d hd
     rw [gD _ (by omega)] at hp ⊢
     rw [gD _ (by omega)]
     by_cases e2:d.2=c
     ·have k1:=c3 d hd e2
      have ne:d.1≠c:=fun e=>k1 (by rw [e];exact c2)
      rw [if_pos e2,if_neg ne]
      have:=i3 d.1 h2.1
      omega
     ·rw [if_neg e2] at hp ⊢
      obtain ⟨k1,k2⟩:=i4 d hd hp
      have ne:d.1≠c:=fun e=>by rw [e] at k1;omega
      rw [if_neg ne];exact ⟨k1,k2⟩
   ·cases h
  ·cases h
theorem M9 {ds:List (Nat×Nat)} (hs:∀d∈ds,d.1<128∧d.2<128) (h:orderOk ds):∃φ:Nat→Int,∀d∈ds,φ d.1<φ d.2:=by
 obtain ⟨rk,hr⟩:=Option.ne_none_iff_exists'.1 h
 obtain ⟨h1,h2,_,h4⟩:=Xn hs (Nat.le_refl _) hr
 refine ⟨fun c=>rk.getD c 0,fun d hd=>(h4 d hd ?_).2⟩
 rcases Int.lt_or_le (rk.getD d.2 0) 0 with k|k
 ·exfalso
  have:rk.getD d.2 0∈rk.filter fun x=>decide (x<0):=by
   refine List.mem_filter.2 ⟨?_,by simpa using k⟩
   rw [List.getD_eq_getElem?_getD,List.getElem?_eq_getElem (by have:=(hs d hd).2;omega)]
   exact List.getElem_mem _
  have:=List.length_pos_of_mem this
  unfold negs at h2;omega
 ·exact k
def Acyc (xs:List Int):Prop:=∃φ:Nat→Int,∀x∈xs,φ (x/1024).toNat<φ (x%1024).toNat
theorem Xh {xs:List Int} (hs:∀x∈xs,x/1024≤127∧x%1024≤127):orderOk (prs xs)↔Acyc xs:=by
 have hb:∀d∈prs xs,d.1<128∧d.2<128:=fun d hd=>by
  obtain ⟨x,hx,rfl⟩:=List.mem_map.1 hd
  have:=hs x hx
  simp only
  omega
 constructor
 ·intro h
  obtain ⟨φ,hφ⟩:=M9 hb h
  exact ⟨φ,fun x hx=>hφ _ (List.mem_map_of_mem hx)⟩
 ·rintro ⟨φ,hφ⟩
  refine N8 (fun d hd=>(hb d hd).1) φ fun d hd=>?_
  obtain ⟨x,hx,rfl⟩:=List.mem_map.1 hd
  exact hφ x hx
theorem Sp {w h:Int} {b T:List Int} (k:tableOk w h b T) {x:Int}:x∈depsOf w h b T↔∃a t:Nat,a<(cnt w h).toNat∧t<(cnt w h).toNat∧a≠t∧∃n,n+1<(walk w h b T a t).length∧x=keyD (G (walk w h b T a t) n) (G (walk w h b T a t) (n+1)):=by
 unfold depsOf
 rw [if_pos k,Y8]
 constructor
 ·intro hx
  obtain ⟨p,hp,hx⟩:=List.mem_flatMap.1 hx
  obtain ⟨h1,h2,h3⟩:=We (a:=p.1) (c:=p.2) |>.1 hp
  exact ⟨p.1,p.2,h1,h2,h3,Uk.1 hx⟩
 ·rintro ⟨a,t,h1,h2,h3,hx⟩
  exact List.mem_flatMap.2 ⟨(a,t),We.2 ⟨h1,h2,h3⟩,Uk.2 hx⟩
theorem Uc {a b:Int} (h:0≤b∧b<1024):keyD a b/1024=a∧keyD a b%1024=b:=by unfold keyD;omega
section
variable {w h r:Int} {b:List Int} (hc:conn w h b) (hr:isN w h r)
include hc hr
end
end Go.Proofs.Ytaldglgobgjeaaa.V
set_option linter.all false
namespace Go.Proofs.Ytaldglgobgjeaaa.V
open Go Go.VM Go.Proofs
set_option maxRecDepth 100000
theorem Pa {ds:List (Nat×Nat)} (hs:∀d∈ds,d.1<128∧d.2<128) (h:orderOk ds):∃φ:Nat→Int,(∀c,0≤φ c∧φ c<128)∧∀d∈ds,φ d.1<φ d.2:=by
 obtain ⟨rk,hr⟩:=Option.ne_none_iff_exists'.1 h
 obtain ⟨h1,h2,h3,h4⟩:=Xn hs (Nat.le_refl _) hr
 have pos:∀c,0≤rk.getD c 0:=fun c=>by
  rcases Int.lt_or_le (rk.getD c 0) 0 with k|k
  ·exfalso
   by_cases hc:c<128
   ·have:rk.getD c 0∈rk.filter fun x=>decide (x<0):=by
     refine List.mem_filter.2 ⟨?_,by simpa using k⟩
     rw [List.getD_eq_getElem?_getD,List.getElem?_eq_getElem (by omega)]
     exact List.getElem_mem _
    have:=List.length_pos_of_mem this
    unfold negs at h2;omega
   ·rw [List.getD_eq_getElem?_getD,List.getElem?_eq_none (by omega)] at k
    simp at k
  ·exact k
 refine ⟨fun c=>rk.getD c 0,fun c=>⟨pos c,?_⟩,fun d hd=>(h4 d hd (pos _)).2⟩
 by_cases hc:c<128
 ·exact h3 c hc
 ·simp only
  rw [List.getD_eq_getElem?_getD,List.getElem?_eq_none (by omega)];decide
theorem Ul {xs:List Int} (hs:∀x∈xs,(0≤x/1024∧x/1024≤127)∧0≤x%1024∧x%1024≤127) (h:Acyc xs):∃φ:Nat→Int,(∀c,0≤φ c∧φ c<128)∧∀x∈xs,φ (x/1024).toNat<φ (x%1024).toNat:=by
 have hb:∀d∈prs xs,d.1<128∧d.2<128:=fun d hd=>by
  obtain ⟨x,hx,rfl⟩:=List.mem_map.1 hd
  have:=hs x hx
  simp only
  omega
 obtain ⟨φ,h1,h2⟩:=Pa hb ((Xh fun x hx=>by have:=hs x hx;omega).2 h)
 exact ⟨φ,h1,fun x hx=>h2 _ (List.mem_map_of_mem hx)⟩
end Go.Proofs.Ytaldglgobgjeaaa.V
set_option linter.all false
namespace Go.Proofs.Ytaldglgobgjeaaa.V
open Go Go.VM Go.Proofs
set_option maxRecDepth 10000
variable {frz:Nat} {H:Heap} {v:Value} {xs ys:List Int} {e:TypeId}
def repKey (w h:Int) (b A B:List Int) (y:Int) (p:Nat×Nat):Int:=keyD (G (walk w h b A p.1 p.2) ((walk w h b A p.1 p.2).length-1)) (G (walk w h b B p.2 p.1) 0+y)
theorem Zd {w h:Int} {b T:List Int} (k:tableOk w h b T) {a c:Nat} (ha:a<(cnt w h).toNat) (hc:c<(cnt w h).toNat) (hne:a≠c):0<(walk w h b T a c).length:=List.length_pos_iff.2 ((k.2 a ha c hc).2 (by omega))
theorem Nz (w h:Int) (v u1 u2:Value) (b A B:List Int) (y:Int) (K:Heap) (r r1 r2 r3:Nat) (D:List Nat) (a c:Nat) (xs:List Int) (hI:IsI K v b) (h1:IsI K u1 A) (h2:IsI K u2 B) (hl:b.length≤1073741824) (hA:tableOk w h b A) (hB:tableOk w h b B)
 (hy:0≤y∧y≤64) (ha:a<(cnt w h).toNat) (hc:c<(cnt w h).toNat) (hne:a≠c) (hx:xs.length≤1048576)
 (g1:K[r1]? = some ⟨[.int .i64 w,.int .i64 h,v],0,28⟩) (g2:K[r2]? = some ⟨[u1,u2],0,32⟩) (g3:K[r3]? = some ⟨[.int .i64 y],0,3⟩)
 (n1:r1∉r::D) (n2:r2∉r::D) (n3:r3∉r::D) (nv:∀i∈ids v,i∉r::D) (nu1:∀i∈ids u1,i∉r::D) (nu2:∀i∈ids u2,i∉r::D) (hr:frz≤r) (hD:∀i∈D,frz≤i) (hK:frz≤K.length) (hd:DI K r D xs H) :
 wp (vcall C frz 21 [.int .i64 a,.int .i64 c,.pointer (some ⟨r1,0,some 0⟩),.pointer (some ⟨r2,0,some 0⟩),.pointer (some ⟨r,0,some 0⟩),.pointer (some ⟨r3,0,some 0⟩)] H) (fun u H'=>u=.bool true∧DI K r D (xs++[repKey w h b A B y (a,c)]) H'):=by
 obtain ⟨x,⟨bx,o,nr⟩,nx,ch⟩:=hd
 have b1:=Qb g1 ch n1
 have b2:=Qb g2 ch n2
 have b3:=Qb g3 ch n3
 rw [Qa (fn:=Try.f21) Try.func21 rfl (by kernel_rfl) rfl]
 have hIH:=(hI.rd.chg ch nv).isI
 have h1H:=(h1.rd.chg ch nu1).isI
 have h2H:=(h2.rd.chg ch nu2).isI
 obtain ⟨z1,L1,e1,hz1,hn1⟩:=Up H (walk w h b A a c)
 have wc1:=fun F=>Tx (frz:=F) w h v u1 b A a c hIH h1H hl hA.1 (Qm ha) (Qm hc) (by omega)
 obtain ⟨z2,L2,e2,hz2,hn2⟩:=Up (H++L1) (walk w h b B c a)
 have wc2:=fun F=>Tx (frz:=F) w h v u2 b B c a (hIH.app L1) (h2H.app L1) hl hB.1 (Qm hc) (Qm ha) (by omega)
 have onv:=And.intro hI.one' hI.cells
 have onu:=And.intro h1.one' h1.cells
 have onu2:=And.intro h2.one' h2.cells
 have p1:=Zd hA ha hc hne
 have p2:=Zd hB hc ha (Ne.symm hne)
 have q1:=Wc (b:=b) (T:=A) (Qm ha) (to:=c)
 have q2:=Wc (b:=b) (T:=B) (Qm hc) (to:=a)
 have wl1:=Vw w h b A a c
 unfold repKey
 simp only
 generalize walk w h b A a c=ws at *
 generalize walk w h b B c a=us at *
 simp
 rw [Qf (h:=by kernel_rfl)]
 have b1L:=Wa b1 L1
 have b2L:=Wa b2 L1
 simp [VM.look,b1,b2,wc1,e1,wc2,e2,onv,onu,onu2,b1L,b2L]
 rw [← List.append_assoc]
 have hz1':=hz1.app L2
 obtain ⟨H2,hH2⟩:∃H2,H2=H++L1++L2:=⟨_,rfl⟩
 rw [← hH2] at hz1' hz2 ⊢
 have cH:Chg H H2 []:=by rw [hH2,List.append_assoc];exact Chg.app _
 have bx2:=Qb bx cH (by simp)
 have b32:=Qb b3 cH (by simp)
 have o2:=o.chg cH (by simp)
 have i1:=Q8 hz1' (k:=ws.length-1) (by omega)
 have i2:=Q8 hz2 (k:=0) (by omega)
 have w1:∀[Inhabited Unit],IntKind.i64.wrap ((ws.length:Int)-1)=((ws.length-1:Nat):Int):=by intro _;rw [w64 (by omega) (by omega)];omega
 have qa:=q1 (G ws (ws.length-1)) (by rw [Qo (by omega)];exact List.getElem_mem _)
 have qb:=q2 (G us 0) (by rw [Qo (by omega)];exact List.getElem_mem _)
 have w2:=@w6 (G us 0+y) (by omega)
 have cb:CB (G ws (ws.length-1)) (G us 0+y):=by unfold CB;omega
 have oL:=o.lt
 have nxx:∀j∈ids x,frz≤j:=fun j hj=>by
  rcases nx j hj with q|q
  ·exact hD j q
  ·omega
 obtain ⟨x3,H3,hap,o3,c3,n3'⟩:=Tk (frz:=frz) o2 cb (by omega) nxx
 have on3:=And.intro o3.rd.one' o3.rd.cells
 have onx:=And.intro o2.rd.one' o2.rd.cells
 have bx3:=Qb bx2 c3 nr
 have hrl:=Wk bx
 have nr3:r∉ids x3:=fun hh=>by
  rcases n3' r hh with q|q
  ·exact nr q
  ·have:=cH.1;omega
 rw [Qf (h:=by kernel_rfl)]
 have i2':vindexAddr Try.prog H2 26 z2 (.int .i64 0)=some (elp z2 0):=i2.1
 simp [VM.look,bx2,b32,hz1'.len,w1,i1,i2',i2.2,w2,onx,hap,bx3,on3,hr]
 refine DI.trans (ch.trans (cH.mono (by simp))) nx ⟨x3,⟨Qy bx3,o3.chg (Qn _ _) (fun i hi hh=>by simp at hh;subst hh;exact nr3 hi),nr3⟩,n3',(c3.mono (by simp +contextual)).trans ((Qn _ _).mono (by simp))⟩
def sharedBy (s:Bool):Int:=if s then 0 else 64
noncomputable def replyOf (w h:Int) (b A B:List Int) (s:Bool):List Int:=if classesOk w h b A B then arrK (depsOf w h b A++(shiftOf (sharedBy s) (depsOf w h b B)++(allPairs (cnt w h).toNat (cnt w h).toNat).map (repKey w h b A B (sharedBy s)))) else []
theorem Yd (w h:Int) (v u1 u2:Value) (b A B:List Int) (s:Bool) (hI:IsI H v b) (h1:IsI H u1 A) (h2:IsI H u2 B) (hl:b.length≤1073741824) (hF:frz≤H.length) :
 wp (vcall C frz 9 [.agg #[.int .i64 w,.int .i64 h,v],.agg #[u1,u2],.bool s] H) (MadeE H (replyOf w h b A B s)):=by
 rw [Qa (fn:=Try.f9) Try.func9 rfl (by kernel_rfl) rfl]
 have onv:=And.intro hI.one' hI.cells
 have onu:=And.intro h1.one' h1.cells
 have onu2:=And.intro h2.one' h2.cells
 obtain ⟨M,hM⟩:∃M:Heap,M=[⟨[.int .i64 w,.int .i64 h,v],0,28⟩,⟨[u1,u2],0,32⟩,⟨[],0,52⟩,⟨[.slice (some ⟨H.length+2,0,some 0⟩) 0 0],0,40⟩,⟨[.int .i64 64],0,3⟩]:=⟨_,rfl⟩
 have ck:=fun F=>Zx (frz:=F) w h v u1 u2 b A B (hI.app M) (h1.app M) (h2.app M) hl
 rw [hM] at ck
 simp [onv,onu,onu2,VM.look,ck]
 rw [← hM]
 have o0:OwE 52 (H++M) (.slice (some ⟨H.length+2,0,some 0⟩) 0 0) []:=⟨by rw [hM];exact Ow.new (D:=Fl.dep) (xs:=[]) (k:=2) rfl rfl rfl rfl,fun x hx=>by simp at hx⟩
 have g3:(H++M)[H.length+3]? = some ⟨[.slice (some ⟨H.length+2,0,some 0⟩) 0 0],0,40⟩:=by rw [hM];simp
 have g4:(H++M)[H.length+4]? = some ⟨[.int .i64 64],0,3⟩:=by rw [hM];simp
 have g0:(H++M)[H.length]? = some ⟨[.int .i64 w,.int .i64 h,v],0,28⟩:=by rw [hM];simp
 have g1:(H++M)[H.length+1]? = some ⟨[u1,u2],0,32⟩:=by rw [hM];simp
 have g2:(H++M)[H.length+2]? = some ⟨[],0,52⟩:=by rw [hM];simp
 have hMl:M.length=5:=by rw [hM];rfl
 clear hM ck
 have cHK:Chg H (H++M) []:=Chg.app _
 have hKl:(H++M).length=H.length+5:=by simp;omega
 have hIK:=hI.app M
 have h1K:=h1.app M
 have h2K:=h2.app M
 generalize H++M=K at *
 refine Qc ?_ ?_<;>intro g
 ·simp
  obtain ⟨hA,hB⟩:=g
  refine Xs (F:=?F) (k:=?k) (Q:=?Q) (fun t H1=>t 3=.pointer (some ⟨H.length,0,some 0⟩)∧t 4=.pointer (some ⟨H.length+1,0,some 0⟩)∧t 7=.pointer (some ⟨H.length+3,0,some 0⟩)∧t 8=.pointer (some ⟨H.length+4,0,some 0⟩)∧Chg K H1 [H.length+4]∧H1[H.length+4]? = some ⟨[.int .i64 (sharedBy s)],0,3⟩) ?main ?rest
  case main=>
   intro rest
   refine Tu ?_ ?_<;>intro gs<;>simp [VM.look,g4]
   ·refine rest _ _ ?_
    exact ⟨by simp,by simp,by simp,by simp,Qn _ _,by rw [gs];exact Qy g4⟩
   ·refine rest _ _ ?_
    exact ⟨by simp,by simp,by simp,by simp,Chg.refl _,by rw [gs];exact g4⟩
  case rest=>
   rintro t H1 ⟨t3,t4,t7,t8,ch1,b4⟩
   have b0:=Qb g0 ch1 (by simp)
   have b1:=Qb g1 ch1 (by simp)
   have b3:=Qb g3 ch1 (by simp)
   have hvl:=hI.rd.lt
   have h1l:=h1.rd.lt
   have h2l:=h2.rd.lt
   have hI1:=(hIK.rd.chg ch1 (fun i hi hh=>by have:=hvl i hi;simp at hh;omega)).isI
   have h11:=(h1K.rd.chg ch1 (fun i hi hh=>by have:=h1l i hi;simp at hh;omega)).isI
   have h21:=(h2K.rd.chg ch1 (fun i hi hh=>by have:=h2l i hi;simp at hh;omega)).isI
   have o1:=o0.chg ch1 (by simp)
   have l1:=ch1.1
   rw [S2 (fl:=([4,6,7],[11,12,13])) (pl:=[0,1,2,3,6,7,8,10,4,5,9,11,12,13]) (h:=⟨by kernel_rfl,by kernel_rfl,by kernel_rfl,by kernel_rfl,by kernel_rfl,by kernel_rfl⟩)]
   have b2:=Qb g2 ch1 (by simp)
   have lm1:=Xk w h hI1
   have lt1:=X6 h21
   simp [permA,renO,emps,empOp,empB,-Ww,-W5,VM.look,t3,t4,t7,t8,b0,b1,b2,b3,b4,onv,onu,onu2,lm1,lt1]
   refine Xq (X9 w h v u1 b A hI1 h11 hl (by omega)) ?_
   rintro d1 H2 ⟨od,c2,nd⟩
   have ch2:=ch1.trans (c2.mono (by simp))
   have b0:=Qb b0 c2 (by simp)
   have b1:=Qb b1 c2 (by simp)
   have b2:=Qb b2 c2 (by simp)
   have b3:=Qb b3 c2 (by simp)
   have b4:=Qb b4 c2 (by simp)
   have hI2:=(hI1.rd.chg c2 (by simp)).isI
   have h12:=(h11.rd.chg c2 (by simp)).isI
   have h22:=(h21.rd.chg c2 (by simp)).isI
   have lm2:=Xk w h hI2
   have lt2:=X6 h22
   have o2:=o1.chg c2 (by simp)
   refine ⟨by simp [VM.look,b0,b1,b2,b3,b4,onv,onu,onu2,lm2,lt2],?_⟩
   obtain ⟨x3,H3,hap3,o3,c3,n3⟩:=o2.1.append (P:=Try.prog) (frz:=H.length) (ty:=40) od.rd (by simp) (Rs _) (by simp;have:=Wg w h b A;omega) (by simp)
   have hx3:∀i∈ids x3,H.length+2=i∨H2.length≤i:=fun i hi=>by
    rcases n3 i hi with q|q
    ·left;simp at q;omega
    ·exact .inr q
   have l2:=ch2.1
   have b0:=Qb b0 c3 (by simp)
   have b1:=Qb b1 c3 (by simp)
   have b3:=Qb b3 c3 (by simp)
   have b4:=Qb b4 c3 (by simp)
   have hI3:=(hI2.rd.chg c3 (fun i hi hh=>by have:=hvl i hi;simp at hh;omega)).isI
   have h13:=(h12.rd.chg c3 (fun i hi hh=>by have:=h1l i hi;simp at hh;omega)).isI
   have h23:=(h22.rd.chg c3 (fun i hi hh=>by have:=h2l i hi;simp at hh;omega)).isI
   have lm3:=Xk w h hI3
   have lt3:=X6 h23
   have l3:=c3.1
   simp [permA,renO,emps,empOp,empB,-Ww,-W5,VM.look,t3,t4,t7,t8,b0,b1,b3,b4,onv,onu,onu2,lm3,lt3,hap3]
   refine Xq (X9 w h v u2 b B hI3 h23 hl (by omega)) ?_
   rintro d2 H4 ⟨od2,c4,nd2⟩
   have b0:=Qb b0 c4 (by simp)
   have b1:=Qb b1 c4 (by simp)
   have b3:=Qb b3 c4 (by simp)
   have b4:=Qb b4 c4 (by simp)
   have hI4:=(hI3.rd.chg c4 (by simp)).isI
   have h14:=(h13.rd.chg c4 (by simp)).isI
   have h24:=(h23.rd.chg c4 (by simp)).isI
   have lm4:=Xk w h hI4
   have lt4:=X6 h24
   have l4:=c4.1
   refine ⟨by simp [VM.look,b0,b1,b3,b4,onv,onu,onu2,lm4,lt4],?_⟩
   simp [permA,renO,emps,empOp,empB,-Ww,-W5,VM.look,t3,t4,t7,t8,b0,b1,b3,b4,onv,onu,onu2,lm4,lt4]
   have hy:0≤sharedBy s∧sharedBy s≤64:=by unfold sharedBy;split<;>omega
   refine Xq (Lb d2 _ (sharedBy s) od2 hy (by have:=Wg w h b B;omega) (by omega)) ?_
   rintro d3 H5 ⟨od3,c5,nd3⟩
   have b0:=Qb b0 c5 (by simp)
   have b1:=Qb b1 c5 (by simp)
   have b3:=Qb b3 c5 (by simp)
   have b4:=Qb b4 c5 (by simp)
   have hI5:=(hI4.rd.chg c5 (by simp)).isI
   have h15:=(h14.rd.chg c5 (by simp)).isI
   have h25:=(h24.rd.chg c5 (by simp)).isI
   have lm5:=Xk w h hI5
   have lt5:=X6 h25
   have l5:=c5.1
   have o5:=(o3.chg c4 (by simp)).chg c5 (by simp)
   refine ⟨by simp [VM.look,b0,b1,b3,b4,onv,onu,onu2,lm5,lt5],?_⟩
   have dl2:=Zt (sharedBy s) (depsOf w h b B)
   have dl1:=Wg w h b A
   have dl0:=Wg w h b B
   obtain ⟨x6,H6,hap6,o6,c6,n6⟩:=o5.append (P:=Try.prog) (frz:=H.length) (ty:=40) od3.rd (by simp) (Rs _) (by simp;omega) (fun i hi=>by rcases hx3 i hi with q|q<;>omega)
   have on6:=And.intro o6.rd.one' o6.rd.cells
   have hx6:∀i∈ids x6,H.length+2=i∨H2.length≤i:=fun i hi=>by
    rcases n6 i hi with q|q
    ·exact hx3 i q
    ·right;omega
   have nx3:∀j,j<5→j≠2→H.length+j∉ids x3:=fun j hj hne hh=>by rcases hx3 _ hh with q|q<;>omega
   have b0:=Qb b0 c6 (nx3 0 (by decide) (by decide))
   have b1:=Qb b1 c6 (nx3 1 (by decide) (by decide))
   have b3:=Qb b3 c6 (nx3 3 (by decide) (by decide))
   have b4:=Qb b4 c6 (nx3 4 (by decide) (by decide))
   have nv3:∀i∈ids v,i∉ids x3:=fun i hi hh=>by have:=hvl i hi;rcases hx3 _ hh with q|q<;>omega
   have n13:∀i∈ids u1,i∉ids x3:=fun i hi hh=>by have:=h1l i hi;rcases hx3 _ hh with q|q<;>omega
   have n23:∀i∈ids u2,i∉ids x3:=fun i hi hh=>by have:=h2l i hi;rcases hx3 _ hh with q|q<;>omega
   have hI6:=(hI5.rd.chg c6 nv3).isI
   have h16:=(h15.rd.chg c6 n13).isI
   have h26:=(h25.rd.chg c6 n23).isI
   have l6:=c6.1
   have c16:Chg H H6 []:=(((((cHK.trans' ch1 (fun i hi=>.inr (by simp at hi;omega))).trans c2).trans' c3 (fun i hi=>.inr (by simp at hi;omega))).trans c4).trans c5).trans' c6 (fun i hi=>.inr (by rcases hx3 i hi with q|q<;>omega))
   simp [permA,renO,emps,empOp,empB,-Ww,-W5,VM.look,t3,t4,t7,t8,b0,b1,b3,b4,onv,onu,onu2,hap6,on6]
   have cS:Chg H6 (H6.set (H.length+3) ⟨[x6],0,40⟩) [H.length+3]:=Qn _ _
   have gS:=Qy (r':=⟨[x6],0,40⟩) b3
   have nr6:H.length+3∉ids x6:=fun hh=>by rcases hx6 _ hh with q|q<;>omega
   have b0:=Qb b0 cS (by simp)
   have b1:=Qb b1 cS (by simp)
   have b4:=Qb b4 cS (by simp)
   have hI7:=(hI6.rd.chg cS (fun i hi hh=>by have:=hvl i hi;simp at hh;omega)).isI
   have h17:=(h16.rd.chg cS (fun i hi hh=>by have:=h1l i hi;simp at hh;omega)).isI
   have h27:=(h26.rd.chg cS (fun i hi hh=>by have:=h2l i hi;simp at hh;omega)).isI
   have oE:OwE 52 (H6.set (H.length+3) ⟨[x6],0,40⟩) x6 (([]++depsOf w h b A)++shiftOf (sharedBy s) (depsOf w h b B)):=(OwE.chg ⟨o6,(o2.2.app od.2).app od3.2⟩ cS (fun i hi hh=>by simp at hh;subst hh;exact nr6 hi))
   have c17:=c16.trans' cS (fun i hi=>.inr (by simp at hi;omega))
   have l7:=cS.1
   generalize H6.set (H.length+3) ⟨[x6],0,40⟩=H7 at *
   rw [List.nil_append] at oE
   have D2:∀i∈ids x6,H.length≤i:=fun i hi=>by rcases hx6 i hi with q|q<;>omega
   have nD:∀j,j<5→j≠2→j≠3→H.length+j∉(H.length+3)::ids x6:=fun j hj hne h3 hh=>by
    rcases List.mem_cons.1 hh with q|q
    ·omega
    ·rcases hx6 _ q with q|q<;>omega
   have nV:∀{u:Value},(∀i∈ids u,i<H.length)→∀i∈ids u,i∉(H.length+3)::ids x6:=fun hu i hi hh=>by
    have:=hu i hi
    rcases List.mem_cons.1 hh with q|q
    ·omega
    ·have:=D2 _ q;omega
   refine Qe (Sc w h _ (Q:=fun r' H'=>DI H7 (H.length+3) (ids x6) ((depsOf w h b A++shiftOf (sharedBy s) (depsOf w h b B))++(allPairs (cnt w h).toNat (cnt w h).toNat).map (repKey w h b A B (sharedBy s))) H')
    (fun dn H'=>DI H7 (H.length+3) (ids x6) ((depsOf w h b A++shiftOf (sharedBy s) (depsOf w h b B))++dn.map (repKey w h b A B (sharedBy s))) H') ?_ ?_ ?_) ?_
   ·refine ⟨x6,⟨Wa gS _,by simpa using oE.app,nr6⟩,fun i hi=>.inl hi,Chg.app _⟩
   ·intro dn a c H' ha hc hne hdl di
    simp
    refine (Nz w h v u1 u2 b A B (sharedBy s) H7 (H.length+3) H.length (H.length+1) (H.length+4) (ids x6) a c _ hI7 h17 h27 hl hA hB hy ha hc hne (by simp;omega) b0 b1 b4 (nD 0 (by decide) (by decide) (by decide)) (nD 1 (by decide) (by decide) (by decide)) (nD 4 (by decide) (by decide) (by decide)) (nV hvl) (nV h1l) (nV h2l) (by omega) D2 (by omega) di).mono ?_
    rintro _ H' ⟨rfl,di2⟩
    simpa using di2
   ·intro H' di;exact di
   ·rintro r' H8 ⟨x8,⟨bx8,o8,nr8⟩,nx8,ch8⟩
    have l8:=ch8.1
    have apl:=Wd (cnt w h).toNat (cnt w h).toNat
    have hcn:(cnt w h).toNat*(cnt w h).toNat≤16*16:=Nat.mul_le_mul (by have:=Qj w h;omega) (by have:=Qj w h;omega)
    have nxx:∀i∈ids x8,H.length≤i:=fun i hi=>by
     rcases nx8 i hi with q|q
     ·exact D2 i q
     ·omega
    simp [VM.look,t7,bx8]
    refine Qe (Va x8 _ o8 (by simp;omega) nxx (by omega)) ?_
    rintro u9 H9 ⟨o9,n9,c9⟩
    simp
    have e9:replyOf w h b A B s=arrK ((depsOf w h b A++shiftOf (sharedBy s) (depsOf w h b B))++(allPairs (cnt w h).toNat (cnt w h).toNat).map (repKey w h b A B (sharedBy s))):=by rw [replyOf,if_pos ⟨hA,hB⟩,List.append_assoc]
    rw [← e9] at o9
    refine ⟨o9,(c17.trans' ch8 (fun i hi=>.inr ?_)).trans' c9 (fun i hi=>.inr (nxx i hi)),fun i hi=>nxx i (n9 i hi)⟩
    rcases List.mem_cons.1 hi with q|q
    ·omega
    ·exact D2 i q
 ·simp [VM.look,g3]
  rw [replyOf,if_neg g]
  exact ⟨o0,cHK,by simp⟩
theorem Zz (w h:Int) (b A B:List Int) (s:Bool):(replyOf w h b A B s).length≤262144:=by
 unfold replyOf
 split
 ·have h1:=Wg w h b A
  have h2:=Wg w h b B
  have h3:=Zt (sharedBy s) (depsOf w h b B)
  have h4:=Wd (cnt w h).toNat (cnt w h).toNat
  have h5:(cnt w h).toNat*(cnt w h).toNat≤16*16:=Nat.mul_le_mul (by have:=Qj w h;omega) (by have:=Qj w h;omega)
  refine Nat.le_trans (Rc _) ?_
  simp;omega
 ·simp
end Go.Proofs.Ytaldglgobgjeaaa.V
set_option linter.all false
namespace Go.Proofs.Ytaldglgobgjeaaa.V
open Go Go.VM Go.Proofs
set_option maxRecDepth 100000
section
variable {w h:Int} {b A B:List Int} (k:classesOk w h b A B) {s:Bool}
include k
theorem Wm {x:Int}:x∈replyOf w h b A B s↔x∈depsOf w h b A∨(∃z∈depsOf w h b B,x=z+1025*sharedBy s)∨∃a c:Nat,a<(cnt w h).toNat∧c<(cnt w h).toNat∧a≠c∧x=repKey w h b A B (sharedBy s) (a,c):=by
 have hy:sharedBy s=0∨sharedBy s=64:=by unfold sharedBy;cases s<;>decide
 have s1:dOk (shiftK (sharedBy s) (depsOf w h b B)):=by
  refine Pn ?_ fun x hx=>?_
  ·unfold shiftK
   rw [List.pairwise_map]
   exact U7.imp fun h=>by omega
  ·obtain ⟨y,hm,rfl⟩:=List.mem_map.1 hx
   have:=Qs y hm
   omega
 have s2:shiftOf (sharedBy s) (depsOf w h b B)=shiftK (sharedBy s) (depsOf w h b B):=by
  unfold shiftOf;rw [if_pos Zh,if_pos s1]
 unfold replyOf
 rw [if_pos k,Y8,List.mem_append,List.mem_append,s2]
 refine or_congr Iff.rfl (or_congr ⟨fun hx=>?_,fun ⟨y,hy,e⟩=>?_⟩ ⟨fun hx=>?_,fun ⟨a,c,h1,h2,h3,e⟩=>?_⟩)
 ·obtain ⟨y,hy,rfl⟩:=List.mem_map.1 hx
  exact ⟨y,hy,rfl⟩
 ·rw [e];exact List.mem_map_of_mem (f:=fun z=>z+1025*sharedBy s) hy
 ·obtain ⟨p,hp,rfl⟩:=List.mem_map.1 hx
  obtain ⟨h1,h2,h3⟩:=We (a:=p.1) (c:=p.2) |>.1 hp
  exact ⟨p.1,p.2,h1,h2,h3,rfl⟩
 ·rw [e];exact List.mem_map_of_mem (We.2 ⟨h1,h2,h3⟩)
theorem Zf {a c:Nat} (ha:a<(cnt w h).toNat) (hc:c<(cnt w h).toNat) (hne:a≠c):∃p q:Int,(0≤p∧p<64)∧(0≤q∧q<64)∧∀y,repKey w h b A B y (a,c)=keyD p (q+y):=by
 have p1:=Zd k.1 ha hc hne
 have p2:=Zd k.2 hc ha (Ne.symm hne)
 have q1:=Wc (b:=b) (T:=A) (Qm ha) (to:=c) (G (walk w h b A a c) ((walk w h b A a c).length-1)) (by rw [Qo (by omega)];exact List.getElem_mem _)
 have q2:=Wc (b:=b) (T:=B) (Qm hc) (to:=a) (G (walk w h b B c a) 0) (by rw [Qo (by omega)];exact List.getElem_mem _)
 exact ⟨_,_,by omega,by omega,fun y=>rfl⟩
theorem X2:∀x∈replyOf w h b A B s,(0≤x/1024∧x/1024≤127)∧0≤x%1024∧x%1024≤127:=fun x hx=>by
 have hy:sharedBy s=0∨sharedBy s=64:=by unfold sharedBy;cases s<;>decide
 rcases (Wm k).1 hx with hx|⟨z,hz,rfl⟩|⟨a,c,h1,h2,h3,rfl⟩
 ·have:=Qs x hx;omega
 ·have:=Qs z hz;omega
 ·obtain ⟨p,q,hp,hq,e⟩:=Zf k h1 h2 h3
  obtain ⟨k1,k2⟩:=Uc (a:=p) (b:=q+sharedBy s) (by omega)
  rw [e,k1,k2];omega
theorem U2:dOk (replyOf w h b A B s):=by
 refine Pn ?_ fun x hx=>by have:=X2 k x hx;omega
 unfold replyOf
 rw [if_pos k]
 exact Us _
theorem Py:Acyc (replyOf w h b A B false)↔Acyc (depsOf w h b A)∧Acyc (depsOf w h b B):=by
 have y64:sharedBy false=64:=rfl
 constructor
 ·rintro ⟨φ,hφ⟩
  refine ⟨⟨φ,fun x hx=>hφ x ((Wm k).2 (.inl hx))⟩,⟨fun c=>φ (c+64),fun x hx=>?_⟩⟩
  have h1:=Qs x hx
  have:=hφ (x+1025*64) ((Wm k).2 (.inr (.inl ⟨x,hx,rfl⟩)))
  simp only
  rw [show ((x+1025*64)/1024).toNat=(x/1024).toNat+64 by omega,show ((x+1025*64)%1024).toNat=(x%1024).toNat+64 by omega] at this
  exact this
 ·rintro ⟨hA,hB⟩
  have big:∀T x,x∈depsOf w h b T→(0≤x/1024∧x/1024≤127)∧0≤x%1024∧x%1024≤127:=fun T x hx=>by have:=Qs x hx;omega
  obtain ⟨φ,b1,hφ⟩:=Ul (big A) hA
  obtain ⟨ψ,b2,hψ⟩:=Ul (big B) hB
  refine ⟨fun c=>if c<64 then φ c else 200+ψ (c-64),fun x hx=>?_⟩
  rcases (Wm k).1 hx with hx|⟨z,hz,rfl⟩|⟨a,c,h1,h2,h3,rfl⟩
  ·have h1:=Qs x hx
   have:=hφ x hx
   simp only
   rw [if_pos (by omega),if_pos (by omega)];exact this
  ·have h1:=Qs z hz
   have:=hψ z hz
   simp only
   rw [y64,if_neg (by omega),if_neg (by omega),show ((z+1025*64)/1024).toNat-64=(z/1024).toNat by omega,show ((z+1025*64)%1024).toNat-64=(z%1024).toNat by omega]
   omega
  ·obtain ⟨p,q,hp,hq,e⟩:=Zf k h1 h2 h3
   obtain ⟨k1,k2⟩:=Uc (a:=p) (b:=q+sharedBy false) (by rw [y64];omega)
   simp only
   rw [e,k1,k2,y64,if_pos (by omega),if_neg (by omega)]
   have:=b1 p.toNat
   have:=b2 ((q+64).toNat-64)
   omega
theorem M2:(classesOk w h b A B∧dOk (replyOf w h b A B false)∧orderOk (prs (replyOf w h b A B false)))↔(dOk (depsOf w h b A)∧orderOk (prs (depsOf w h b A)))∧(dOk (depsOf w h b B)∧orderOk (prs (depsOf w h b B))):=by
 have o1:=Xh (xs:=replyOf w h b A B false) fun x hx=>by have:=X2 k x hx;omega
 have o2:=Xh (xs:=depsOf w h b A) fun x hx=>by have:=Qs x hx;omega
 have o3:=Xh (xs:=depsOf w h b B) fun x hx=>by have:=Qs x hx;omega
 have r:=Py k
 have d1:dOk (replyOf w h b A B false):=U2 k
 have d2:dOk (depsOf w h b A):=Zh
 have d3:dOk (depsOf w h b B):=Zh
 rw [o1,o2,o3,r]
 exact ⟨fun hh=>⟨⟨d2,hh.2.2.1⟩,d3,hh.2.2.2⟩,fun hh=>⟨k,d1,hh.1.2,hh.2.2⟩⟩
theorem N9 (h1:cnt w h=1):Acyc (replyOf w h b A B s):=by
 refine ⟨fun _=>0,fun x hx=>?_⟩
 exfalso
 rcases (Wm k).1 hx with hx|⟨z,hz,rfl⟩|⟨a,c,h1,h2,h3,rfl⟩
 ·obtain ⟨a,t,h1,h2,h3,-⟩:=(Sp k.1).1 hx;omega
 ·obtain ⟨a,t,h1,h2,h3,-⟩:=(Sp k.2).1 hz;omega
 ·omega
theorem Re:(classesOk w h b A B∧dOk (replyOf w h b A B s)∧orderOk (prs (replyOf w h b A B s)))↔Acyc (replyOf w h b A B s):=by
 rw [Xh (xs:=replyOf w h b A B s) fun x hx=>by have:=X2 k x hx;omega]
 exact ⟨fun hh=>hh.2.2,fun hh=>⟨k,U2 k,hh⟩⟩
end
def chkO (r w h n:Nat):Bool:=(n≤1) || (decide (wkR r w h n 0 1=wkR 1 w h n 0 1)&&decide (wkR r w h n 1 0=wkR 1 w h n 1 0)&&decide ((wkR r w h n 0 1).length=1)&&decide ((wkR r w h n 1 0).length=1))
theorem Mj:((List.range 4).all fun r=>(List.range 4).all fun w=>(List.range 4).all fun h=>chkO (r+1) (w+1) (h+1) ((w+1)*(h+1)))=true:=by kernel_rfl
theorem P1 {r w h:Int} {n:Nat} (hr:1≤r∧r≤4) (hg:okG w h) (hn:cnt w h=n) (h2:2≤n) :
 (wkR r w h n 0 1=wkR 1 w h n 0 1∧wkR r w h n 1 0=wkR 1 w h n 1 0)∧(wkR r w h n 0 1).length=1∧(wkR r w h n 1 0).length=1:=by
 obtain ⟨⟨w0,w1⟩,h0,h1⟩:=hg
 obtain ⟨i,hi⟩:∃i:Nat,w=((i+1:Nat):Int):=⟨(w-1).toNat,by omega⟩
 obtain ⟨j,hj⟩:∃j:Nat,h=((j+1:Nat):Int):=⟨(h-1).toNat,by omega⟩
 obtain ⟨q,hq⟩:∃j:Nat,r=((j+1:Nat):Int):=⟨(r-1).toNat,by omega⟩
 have e9:=Mj
 rw [List.all_eq_true] at e9
 have e0:=e9 q (List.mem_range.2 (by omega))
 rw [List.all_eq_true] at e0
 have e1:=e0 i (List.mem_range.2 (by omega))
 rw [List.all_eq_true] at e1
 have e2:=e1 j (List.mem_range.2 (by omega))
 have hnn:n=(i+1)*(j+1):=by
  rw [cnt,if_pos ⟨⟨w0,w1⟩,h0,h1⟩,hi,hj,← Int.natCast_mul] at hn;omega
 rw [← hnn] at e2
 simp only [chkO,Bool.or_eq_true,Bool.and_eq_true,decide_eq_true_eq] at e2
 rw [hi,hj,hq]
 rcases e2 with e2|⟨⟨⟨e2,e3⟩,e4⟩,e5⟩
 ·omega
 ·exact ⟨⟨e2,e3⟩,e4,e5⟩
theorem Ry {w h x y:Int} {n:Nat} (hx:1≤x∧x≤4) (hy:1≤y∧y≤4) (hg:okG w h) (hn:cnt w h=n) (h2:2≤n):¬Acyc (replyOf w h [] (stdTab w x n) (stdTab w y n) true):=by
 have k:classesOk w h [] (stdTab w x n) (stdTab w y n):=⟨Zi hx hg hn,Zi hy hg hn⟩
 have c0:(0:Nat)<(cnt w h).toNat:=by omega
 have c1:(1:Nat)<(cnt w h).toNat:=by omega
 obtain ⟨⟨a1,a2⟩,a3,a4⟩:=P1 hx hg hn h2
 obtain ⟨⟨b1,b2⟩,b3,b4⟩:=P1 hy hg hn h2
 have W:=fun r=>Pv (r:=r) (a:=0) (to:=1) hn hg (Qm c0) (Qm c1)
 have W':=fun r=>Pv (r:=r) (a:=1) (to:=0) hn hg (Qm c1) (Qm c0)
 rintro ⟨φ,hφ⟩
 have m1:=hφ _ ((Wm k).2 (.inr (.inr ⟨0,1,c0,c1,by omega,rfl⟩)))
 have m2:=hφ _ ((Wm k).2 (.inr (.inr ⟨1,0,c1,c0,by omega,rfl⟩)))
 have q1:=Wc (b:=[]) (T:=stdTab w 1 n) (Qm c0) (to:=1)
 have q2:=Wc (b:=[]) (T:=stdTab w 1 n) (Qm c1) (to:=0)
 simp only [repKey,sharedBy,Int.natCast_zero,Int.natCast_one,Int.cast_ofNat_Int,if_true,Int.add_zero,W,W'] at m1 m2 q1 q2
 rw [a1,b2] at m1
 rw [a2,b1] at m2
 rw [a1] at a3
 rw [a2] at a4
 rw [a3] at m1
 rw [a4] at m2
 have r1:=q1 (G (wkR 1 w h n 0 1) 0) (by rw [Qo (by omega)];exact List.getElem_mem _)
 have r2:=q2 (G (wkR 1 w h n 1 0) 0) (by rw [Qo (by omega)];exact List.getElem_mem _)
 simp only [Nat.sub_self] at m1 m2
 generalize G (wkR 1 w h n 0 1) 0=P at *
 generalize G (wkR 1 w h n 1 0) 0=Q at *
 obtain ⟨k1,k2⟩:=Uc (a:=P) (b:=Q) (by omega)
 obtain ⟨k3,k4⟩:=Uc (a:=Q) (b:=P) (by omega)
 rw [k1,k2] at m1
 rw [k3,k4] at m2
 omega
end Go.Proofs.Ytaldglgobgjeaaa.V
set_option linter.all false
namespace Go.Proofs.Ytaldglgobgjeaaa.V
open Go Go.VM Go.Proofs
set_option maxRecDepth 10000
variable {frz:Nat} {H:Heap} {r:Nat} {vb:Value} {code:List Int}
theorem Cur.chg0' {J K:Heap} (c:Cur J r vb code) (h:Chg J K []):Cur K r vb code:=c.chg h (by simp) (by simp)
def ClsR (H:Heap) (is:List Nat) (u:Value) (H':Heap):Prop:=∃(w h:Int) (vc:Value×Value) (t:ClassesD),u=.tuple #[.agg #[.int .i64 w,.int .i64 h,.slice none 0 0],.agg #[vc.1,vc.2]]∧(okG w h∧∃(N x y:Nat),cnt w h=N∧x<4∧y<4∧t=(stdTab w (1+x) N,stdTab w (1+y) N))∧dClasses.Ow H' vc t∧(∀i∈dClasses.ids vc,H.length≤i)∧Chg H H' is
theorem Nf (c:Cur H r vb code) (hf:frz≤r):wp (vcall C frz 10 [.pointer (some ⟨r,0,some 0⟩)] H) (fun u H'=>ClsR H [r] u H'):=by
 have lt:=c.lt
 have vlt:=c.vlt
 rw [Qa (fn:=Try.f10) Try.func10 rfl (by kernel_rfl) rfl]
 simp
 refine Qe (O4 (c.app _) hf) ?_
 rintro _ K ⟨⟨w,h,rfl,hg⟩,c1,d1⟩
 have cK:Chg H K [r]:=(Chg.app [r]).trans c1
 have lK:=c1.1
 simp at lK
 have bM:K[H.length]? = some ⟨[.int .i64 0,.int .i64 0,.slice none 0 0],0,28⟩:=Qb (by simp) c1 (by simp;omega)
 have bC:K[H.length+1]? = some ⟨[.slice none 0 0,.slice none 0 0],0,32⟩:=Qb (by simp) c1 (by simp;omega)
 have hFK:frz≤K.length:=by omega
 obtain ⟨K1,hK1⟩:∃K1,K1=K++[⟨[.int .i64 w,.int .i64 h,.slice none 0 0],0,28⟩]:=⟨_,rfl⟩
 have cK1:Chg K K1 []:=by rw [hK1];exact Chg.app _
 have l1:K1.length=K.length+1:=by rw [hK1];simp
 have bG:K1[K.length]? = some ⟨[.int .i64 w,.int .i64 h,.slice none 0 0],0,28⟩:=by rw [hK1];simp
 have bM:=Qb bM cK1 (by simp)
 have bC:=Qb bC cK1 (by simp)
 have d1:=d1.chg0' cK1
 have hKs:=hK1.symm
 simp [hFK]
 rw [hKs]
 clear hK1 hKs
 obtain ⟨N,hN⟩:∃N:Nat,cnt w h=N:=⟨(cnt w h).toNat,by have:=Qj w h;omega⟩
 have lvG:∀J:Heap,VM.live J (.agg #[.int .i64 w,.int .i64 h]):=fun J c hc=>by simp at hc;rcases hc with rfl|rfl<;>trivial
 have lvM:∀J:Heap,VM.live J (.agg #[.int .i64 w,.int .i64 h,.slice none 0 0]):=fun J c hc=>by simp at hc;rcases hc with rfl|rfl|rfl<;>trivial
 rw [S2 (fl:=([0,2,5],[14,15])) (pl:=[0,1,2,3,7,8,9,4,5,6,10,11,12,13,14,15]) (h:=⟨by kernel_rfl,by kernel_rfl,by kernel_rfl,by kernel_rfl,by kernel_rfl,by kernel_rfl⟩)]
 simp [permA,renO,emps,empOp,empB,VM.look,bG,lvG,lvM]
 have bl:=Yu (frz:=frz) d1 hf 4 (by decide) (by decide)
 refine Xq (by simpa using bl) ?_
 rintro _ K2 ⟨⟨x,rfl,hx⟩,c2,d2⟩
 have e1:=@w6 (1+(x:Int)) (by omega)
 have bG:=Qb bG c2 (by simp;omega)
 have bM:=Qb bM c2 (by simp;omega)
 have bC:=Qb bC c2 (by simp;omega)
 refine ⟨by simp [VM.look,bG,lvG,lvM],?_⟩
 simp [e1]
 refine Xq (Vu w h (1+x) N (by omega) hg hN) ?_
 rintro _ K3 ⟨v1,rfl,o1,c3,m1,n1⟩
 have d3:=d2.chg0' c3
 have q1:=Uz o1
 have bG:=Qb bG c3 (by simp)
 have bM:=Qb bM c3 (by simp)
 have bC:=Qb bC c3 (by simp)
 have l2:=c2.1
 have l3:=c3.1
 refine ⟨by simp [VM.look,bG,lvG,lvM],?_⟩
 simp [Vc,VM.look,bG,lvG,lvM]
 have bl:=Yu (frz:=frz) d3 hf 4 (by decide) (by decide)
 refine Xq (by simpa using bl) ?_
 rintro _ K4 ⟨⟨y,rfl,hy⟩,c4,d4⟩
 have e2:=@w6 (1+(y:Int)) (by omega)
 have bG:=Qb bG c4 (by simp;omega)
 have bM:=Qb bM c4 (by simp;omega)
 have bC:=Qb bC c4 (by simp;omega)
 refine ⟨by simp [VM.look,bG,lvG,lvM],?_⟩
 have o1:=Dt.chg (T:=dTable) o1 c4 (fun i hi hh=>by have:=m1 i hi;simp at hh;omega)
 simp [e2]
 refine Xq (Vu w h (1+y) N (by omega) hg hN) ?_
 rintro _ K5 ⟨v2,rfl,o2,c5,m2,n2⟩
 have q2:=Uz o2
 have bG:=Qb bG c5 (by simp)
 have bM:=Qb bM c5 (by simp)
 have bC:=Qb bC c5 (by simp)
 refine ⟨by simp [VM.look,bG,lvG,lvM],?_⟩
 have o1:=Dt.chg (T:=dTable) o1 c5 (by simp)
 have l4:=c4.1
 have l5:=c5.1
 have gM:=Qy (r':=⟨[.int .i64 w,.int .i64 h,.slice none 0 0],0,28⟩) bM
 have cM:Chg K5 (K5.set H.length ⟨[.int .i64 w,.int .i64 h,.slice none 0 0],0,28⟩) [H.length]:=Qn _ _
 have bC2:=Qb bC cM (by simp)
 have gC:=Qy (r':=⟨[v1,v2],0,32⟩) bC2
 have cC:Chg (K5.set H.length ⟨[.int .i64 w,.int .i64 h,.slice none 0 0],0,28⟩) ((K5.set H.length ⟨[.int .i64 w,.int .i64 h,.slice none 0 0],0,28⟩).set (H.length+1) ⟨[v1,v2],0,32⟩) [H.length+1]:=Qn _ _
 have gM2:=Qb gM cC (by simp)
 have hF0:frz≤H.length:=by omega
 have hF1:frz≤H.length+1:=by omega
 have m1':∀i∈dTable.ids v1,H.length+2≤i:=fun i hi=>by have:=m1 i hi;omega
 have m2':∀i∈dTable.ids v2,H.length+2≤i:=fun i hi=>by have:=m2 i hi;omega
 have oc:dClasses.Ow ((K5.set H.length ⟨[.int .i64 w,.int .i64 h,.slice none 0 0],0,28⟩).set (H.length+1) ⟨[v1,v2],0,32⟩) (v1,v2) (stdTab w (1+x) N,stdTab w (1+y) N):=
  ⟨Dt.chg (T:=dTable) (Dt.chg (T:=dTable) o1 cM (fun i hi hh=>by have:=m1' i hi;simp at hh;omega)) cC (fun i hi hh=>by have:=m1' i hi;simp at hh;omega),Dt.chg (T:=dTable) (Dt.chg (T:=dTable) o2 cM (fun i hi hh=>by have:=m2' i hi;simp at hh;omega)) cC (fun i hi hh=>by have:=m2' i hi;simp at hh;omega)⟩
 have cJ:Chg H ((K5.set H.length ⟨[.int .i64 w,.int .i64 h,.slice none 0 0],0,28⟩).set (H.length+1) ⟨[v1,v2],0,32⟩) [r]:=((((((cK.trans (cK1.mono (fun _ h=>by cases h))).trans c2).trans (c3.mono (fun _ h=>by cases h))).trans c4).trans (c5.mono (fun _ h=>by cases h))).trans' cM (fun i hi=>.inr (by simp at hi;omega))).trans' cC (fun i hi=>.inr (by simp at hi;omega))
 simp [Vc,q1,q2,VM.look,bM,bC2,gM,gC,gM2,hF0,hF1]
 exact ⟨w,h,(v1,v2),_,rfl,⟨hg,N,x,y,hN,hx,hy,rfl⟩,oc,fun i hi=>by
  rcases List.mem_append.1 hi with g|g
  ·have:=m1' i g;omega
  ·have:=m2' i g;omega,cJ⟩
theorem Vs (vb:Value) (code:List Int) (hb:Rd Fl.u8 H vb code) (hl:code.length≤1073741824):wp (vcall C frz 5 [vb] H) (fun u H'=>ClsR H [] u H'):=by
 rw [Qa (fn:=Try.f5) Try.func5 rfl (by kernel_rfl) rfl]
 simp
 refine Qe (Nn vb code hb.app hl) ?_
 rintro _ H1 ⟨r,rfl,hr,c1,ch1⟩
 have cH:Chg H H1 []:=(Chg.app []).trans ch1
 have bM:H1[H.length]? = some ⟨[.int .i64 0,.int .i64 0,.slice none 0 0],0,28⟩:=Qb (by simp) ch1 (by simp)
 have bC:H1[H.length+1]? = some ⟨[.slice none 0 0,.slice none 0 0],0,32⟩:=Qb (by simp) ch1 (by simp)
 have kb:=Wk bC
 simp at hr
 simp
 refine Qe (Nf c1 (by omega)) ?_
 rintro _ K ⟨w,h,vc,t,rfl,hcl,oc,mc,c2⟩
 have onec:=Za oc
 have bM:=Qb bM c2 (by simp;omega)
 have bC:=Qb bC c2 (by simp;omega)
 have gM:=Qy (r':=⟨[.int .i64 w,.int .i64 h,.slice none 0 0],0,28⟩) bM
 have cM:Chg K (K.set H.length ⟨[.int .i64 w,.int .i64 h,.slice none 0 0],0,28⟩) [H.length]:=Qn _ _
 have bC2:=Qb bC cM (by simp)
 have gC:=Qy (r':=⟨[vc.1,vc.2],0,32⟩) bC2
 have cC:Chg (K.set H.length ⟨[.int .i64 w,.int .i64 h,.slice none 0 0],0,28⟩) ((K.set H.length ⟨[.int .i64 w,.int .i64 h,.slice none 0 0],0,28⟩).set (H.length+1) ⟨[vc.1,vc.2],0,32⟩) [H.length+1]:=Qn _ _
 have gM2:=Qb gM cC (by simp)
 simp [VM.look,bM,bC2,gM,gC,gM2,onec]
 exact ⟨w,h,vc,t,rfl,hcl,Dt.chg (T:=dClasses) (Dt.chg (T:=dClasses) oc cM (fun i hi hh=>by have:=mc i hi;simp at hh;omega)) cC (fun i hi hh=>by have:=mc i hi;simp at hh;omega),fun i hi=>by have:=mc i hi;omega,((cH.trans' c2 (fun i hi=>.inr (by simp at hi;omega))).trans' cM (fun i hi=>.inr (by simp at hi;omega))).trans' cC (fun i hi=>.inr (by simp at hi;omega))⟩
end Go.Proofs.Ytaldglgobgjeaaa.V
set_option linter.all false
namespace Go.Proofs.Ytaldglgobgjeaaa.V
open Go Go.VM Go.Proofs
set_option maxRecDepth 10000
variable {frz:Nat} {H:Heap} {v:Value} {xs ys:List Int} {e:TypeId}
def succs (xs:List Int) (c:Int):List Int:=(xs.filter fun k=>decide (k/1024=c)).map (· % 1024)
theorem Pi (xs:List Int) (c:Int) (i:Nat) (h:i<xs.length):succs (xs.take (i+1)) c=succs (xs.take i) c++(if xs[i]/1024=c then [xs[i]%1024] else []):=by
 unfold succs
 rw [List.take_succ_eq_append_getElem h,List.filter_append,List.map_append]
 congr 1
 by_cases e:xs[i]/1024=c<;>simp [e]
theorem Tg {xs:List Int} {c z:Int}:z∈succs xs c↔∃x∈xs,x/1024=c∧x%1024=z:=by
 unfold succs
 rw [List.mem_map]
 constructor
 ·rintro ⟨x,hx,e⟩
  obtain ⟨h1,h2⟩:=List.mem_filter.1 hx
  exact ⟨x,h1,by simpa using h2,e⟩
 ·rintro ⟨x,h1,h2,h3⟩
  exact ⟨x,List.mem_filter.2 ⟨h1,by simpa using h2⟩,h3⟩
theorem Lx (v:Value) (xs:List Int) (c:Int) (h:OwE e H v xs) (hl:xs.length≤1048576) :
 wp (vcall C frz 61 [v,.int .i64 c] H) (fun r H'=>Ow Fl.int 3 H' r (succs xs c)∧Chg H H' []∧∀j∈ids r,H.length≤j):=by
 rw [Qa (fn:=Try.f61) Try.func61 rfl (by kernel_rfl) rfl]
 have hA:=h.app (L:=[⟨[],0,3⟩])
 simp [hA.rd.len]
 obtain ⟨K,hK⟩:∃K,K=H++[⟨[],0,3⟩]:=⟨_,rfl⟩
 have o0:Ow Fl.int 3 K (.slice (some ⟨H.length,0,some 0⟩) 0 0) []:=by rw [hK];exact Ow.new0 rfl rfl rfl rfl
 have cK:Chg H K []:=by rw [hK];exact Chg.app _
 have hHl:∀K',Chg H K' []→H.length≤K'.length:=fun K' c=>c.1
 rw [← hK]
 clear hK hA
 refine Qk (fun n t H'=>∃(i:Nat) (s:Value),n=xs.length-i∧i≤xs.length∧t 1=.int .i64 c∧t 5=s∧t 9=v∧t 10=.int .i64 xs.length∧t 11=.int .i64 i∧Ow Fl.int 3 H' s (succs (xs.take i) c)∧Chg H H' []∧∀j∈ids s,H.length≤j) ?_ (n:=xs.length)
  ⟨0,.slice (some ⟨H.length,0,some 0⟩) 0 0,rfl,by omega,by simp,by simp,by simp,by simp,by simp,by simpa [succs] using o0,cK,by simp⟩
 rintro n t H' ⟨i,s,rfl,hi,t1,t5,t9,t10,t11,o,ch,ns⟩ ih
 simp [t1,t5,t9,t10,t11]
 refine Qc ?_ ?_<;>intro hlt
 ·have h2:=h.chg ch (by simp)
  have p1:=Vv h2 hlt
  have p10:=p1 []
  simp only [List.append_nil] at p10
  have sn:=Pi xs c i hlt
  rw [← Qo hlt] at sn
  have w1:∀[Inhabited Unit],IntKind.i64.wrap ((i:Int)+1)=((i+1:Nat):Int):=by intro _;rw [w64 (by omega) (by omega)];omega
  have hsl:(succs (xs.take i) c).length≤i:=by
   unfold succs
   rw [List.length_map]
   have:=List.length_filter_le (fun k=>decide (k/1024=c)) (xs.take i)
   simp at this;omega
  have lch:=ch.1
  simp [t1,t5,t9,t10,t11,p10,VM.look,lch]
  refine Qc ?_ ?_<;>intro g
  ·rw [if_pos g] at sn
   obtain ⟨s',H4,hap,o4,c4,n4⟩:=(o.app (L:=[⟨[.int .i64 (G xs i/1024),.int .i64 (G xs i%1024)],0,52⟩])).push (P:=Try.prog) (frz:=H.length) (ty:=26) (a:=G xs i%1024) (by simp) rfl (by omega) ns
   simp at hap
   simp [t1,t5,t9,t10,t11,VM.look,hap,w1]
   refine ih (xs.length-(i+1)) _ _ ⟨i+1,s',rfl,by omega,by simp [t1],by simp,by simp [t9],by simp [t10],by simp,by rw [sn];exact o4,(ch.trans (Chg.app _)).trans' c4 (fun j hj=>.inr (ns j hj)),fun j hj=>?_⟩ (by omega)
   rcases n4 j hj with q|q
   ·exact ns j q
   ·simp at q;omega
  ·rw [if_neg g,List.append_nil] at sn
   simp [t1,t5,t9,t10,t11,w1]
   refine ih (xs.length-(i+1)) _ _ ⟨i+1,s,rfl,by omega,by simp [t1],by simp [t5],by simp [t9],by simp [t10],by simp,by rw [sn];exact o.app,ch.trans (Chg.app _),ns⟩ (by omega)
 ·have hi':i=xs.length:=by omega
  subst hi'
  simp [t5]
  rw [List.take_length] at o
  exact ⟨o,ch,ns⟩
def negF (far:List Int):Nat:=(far.filter fun x=>decide (x<0)).length
structure DiF (xs:List Int) (g:Int) (far q:List Int):Prop where
 len:far.length=128
 cnt:q.length+negF far=128
 qr:∀z∈q,g≤z∧z<128∧0≤G far z.toNat
 rng:∀c,c<128→-1≤G far c∧G far c<q.length
 goal:G far g.toNat=0
 low:∀c:Nat,c<128→0≤G far c→g≤c
 ex:∀c:Nat,c<128→0≤G far c→(c:Int)=g∨∃x∈xs,x/1024=c∧g≤x%1024∧x%1024<128∧0≤G far (x%1024).toNat∧G far (x%1024).toNat+1=G far c
theorem Yk (x:Int) (l:List Int):negF (x::l)=negF l+(if x<0 then 1 else 0):=by
 unfold negF
 by_cases h:x<0<;>simp [h]
theorem Vk:∀(far:List Int) (f:Nat) (y:Int),f<far.length→G far f<0→0≤y→negF (far.set f y)+1=negF far
 | [],f,y,h,_,_=>by simp at h
 | x::l,0,y,_,h,hy=>by
  have hx:x<0:=h
  rw [List.set_cons_zero,Yk,Yk,if_pos hx,if_neg (by omega)]
 | x::l,f+1,y,h,h',hy=>by
  have:=Vk l f y (by simpa using h) h' hy
  rw [List.set_cons_succ,Yk,Yk]
  omega
theorem DiF.start (xs:List Int) {g:Int} (g0:0≤g) (g1:g<128):DiF xs g ((List.replicate 128 (-1)).set g.toNat 0) [g]:=by
 have hg:∀c,c<128→G ((List.replicate 128 (-1)).set g.toNat 0) c=if c=g.toNat then 0 else -1:=fun c hc=>by
  rw [Rh _ (by simp;omega)]
  by_cases e:c=g.toNat
  ·rw [if_pos e,if_pos e]
  ·rw [if_neg e,if_neg e,Qo (by simpa using hc)];exact List.getElem_replicate _
 have r1:G (List.replicate 128 (-1)) g.toNat=-1:=by rw [Qo (by simp;omega)];exact List.getElem_replicate _
 have hn:=Vk (List.replicate 128 (-1)) g.toNat 0 (by simp;omega) (by rw [r1];omega) (by omega)
 have h128:negF (List.replicate 128 (-1))=128:=by decide
 have gg:G ((List.replicate 128 (-1)).set g.toNat 0) g.toNat=0:=by rw [hg _ (by omega),if_pos rfl]
 refine ⟨by simp,by rw [List.length_singleton];omega,fun z hz=>?_,fun c hc=>?_,gg,fun c hc h=>?_,fun c hc h=>?_⟩
 ·simp at hz;subst hz;exact ⟨by omega,g1,by rw [gg];omega⟩
 ·rw [hg c hc];simp;split<;>omega
 ·rw [hg c hc] at h;split at h<;>omega
 ·rw [hg c hc] at h;split at h
  ·left;omega
  ·omega
theorem DiF.step {xs:List Int} {g:Int} {far q:List Int} (d:DiF xs g far q) {f b a:Nat} {x:Int} (f1:f<128) (c2:g≤(f:Int)) (c3:G far f<0) (hx:x∈xs) (hf:x/1024=f) (hb:x%1024=b) (ha:a<q.length) (c1:(b:Int)=G q a) :
 DiF xs g (far.set f (G far b+1)) (q++[(f:Int)]):=by
 have hl:=d.len
 have hq:=d.qr (G q a) (by rw [Qo ha];exact List.getElem_mem _)
 rw [← c1] at hq
 obtain ⟨q1,q2,q3⟩:=hq
 rw [Int.toNat_natCast] at q3
 have hn:=Vk far f (G far b+1) (by omega) c3 (by omega)
 have gs:=fun c=>Rh (l:=far) (G far b+1) (show f<far.length by omega) c
 have hc:=d.cnt
 refine ⟨by simpa using hl,by simp;omega,fun z hz=>?_,fun c hc=>?_,?_,fun c hc h=>?_,fun c hc h=>?_⟩
 ·rw [gs]
  rcases List.mem_append.1 hz with h|h
  ·obtain ⟨z1,z2,z3⟩:=d.qr z h
   exact ⟨z1,z2,by split<;>omega⟩
  ·simp at h;subst h
   exact ⟨c2,by omega,by rw [if_pos (Int.toNat_natCast f)];omega⟩
 ·rw [gs];simp
  have r1:=d.rng c hc
  have r2:=d.rng b (by omega)
  split<;>omega
 ·rw [gs,if_neg (fun hh=>by have:=d.goal;rw [hh] at this;omega)];exact d.goal
 ·rw [gs] at h
  by_cases e:c=f
  ·omega
  ·rw [if_neg e] at h;exact d.low c hc h
 ·rw [gs] at h ⊢
  by_cases e:c=f
  ·right
   rw [if_pos e] at h ⊢
   refine ⟨x,hx,by omega,by omega,by omega,?_⟩
   rw [hb,Int.toNat_natCast,gs,if_neg (fun hh=>by rw [hh] at q3;omega)]
   exact ⟨q3,rfl⟩
  ·rw [if_neg e] at h ⊢
   rcases d.ex c hc h with h|⟨y,y1,y2,y3,y4,y5,y6⟩
   ·exact .inl h
   ·right
    refine ⟨y,y1,y2,y3,y4,?_⟩
    rw [gs,if_neg (fun hh=>by rw [hh] at y5;omega)]
    exact ⟨y5,y6⟩
theorem Vo (v:Value) (xs:List Int) (g:Int) (h:OwE e H v xs) (hl:xs.length≤1048576) (hd:dOk xs) (g0:0≤g) (g1:g<128) :
 wp (vcall C frz 60 [v,.int .i64 g,.int .i64 g] H) (fun r H'=>∃far q:List Int,Ow Fl.int 3 H' r far∧DiF xs g far q∧Chg H H' []∧(∀j∈ids r,H.length≤j)):=by
 rw [Qa (fn:=Try.f60) Try.func60 rfl (by kernel_rfl) rfl]
 obtain ⟨R,hR⟩:∃R:List Value,R=List.replicate 128 (.int .i64 (-1)):=⟨_,rfl⟩
 have rc:=fun F=>Su (frz:=F) (H:=H++[⟨[.int .i64 (-1)],0,3⟩]) H.length (-1) 128 (by simp) (by decide) (by decide)
 rw [← hR] at rc
 simp at rc
 simp [rc]
 refine P3 ⟨g0,g1⟩ (P3 (by rw [hR];simp;omega) ?_)
 obtain ⟨s,hs⟩:∃s:Value,s=.slice (some ⟨H.length+1,0,some 0⟩) 128 0:=⟨_,rfl⟩
 obtain ⟨q0,hq0⟩:∃q0:Value,q0=.slice (some ⟨H.length+2,0,some 0⟩) 1 0:=⟨_,rfl⟩
 obtain ⟨K,hK⟩:∃K,K=H++[⟨[.int .i64 (-1)],0,3⟩,⟨VM.splice R g.toNat [.int .i64 0],0,3⟩,⟨[.int .i64 g],0,3⟩]:=⟨_,rfl⟩
 have hcell:VM.splice R g.toNat [.int .i64 0]=cellsOf Fl.int ((List.replicate 128 (-1)).set g.toNat 0):=by
  have:R=cellsOf Fl.int (List.replicate 128 (-1)):=by rw [hR,Q9,List.map_replicate]
  rw [this]
  have:=W6 (D:=Fl.int) (xs:=List.replicate 128 (-1)) (j:=g.toNat) (y:=0) (by simp;omega)
  simpa using this
 have on1:ones (VM.splice R g.toNat [.int .i64 0])=true:=by rw [hcell];rw [Q9];exact Go.VM.ones_ints _ _
 have o0:Ow Fl.int 3 K s ((List.replicate 128 (-1)).set g.toNat 0):=by
  rw [hK,hs];exact Ow.new (k:=1) rfl hcell on1 (by simp)
 have oq:Ow Fl.int 3 K q0 [g]:=by
  rw [hK,hq0];exact Ow.new (k:=2) rfl rfl rfl rfl
 have cK:Chg H K []:=by rw [hK];exact Chg.app _
 have hids:ids s=[H.length+1]:=by rw [hs];rfl
 have d0:=DiF.start xs g0 g1
 have nq:∀j∈ids q0,H.length+2≤j:=by rw [hq0];simp
 rw [← hK,← hs,← hq0]
 clear hK rc hcell hR on1
 refine Qk (fun n t H'=>∃(a:Nat) (far q:List Int) (u:Value),n=128-a∧a≤128∧a≤q.length∧t 0=v∧t 1=.int .i64 g∧t 2=.int .i64 g∧t 7=s∧t 8=u∧t 9=.int .i64 a∧Ow Fl.int 3 H' s far∧Ow Fl.int 3 H' u q∧DiF xs g far q∧Chg H H' []∧∀j∈ids u,H.length+2≤j) ?_ (n:=128)
  ⟨0,_,_,q0,rfl,by omega,by omega,by simp,by simp,by simp,by simp,by simp,by simp,o0,oq,d0,cK,nq⟩
 rintro n t H' ⟨a,far,q,u,rfl,ha,haq,t0,t1,t2,t7,t8,t9,o,ou,d,ch,nu⟩ ih
 have lq:=ou.rd.len (P:=Try.prog) (ty:=26) (by simp)
 simp [t0,t1,t2,t7,t8,t9,lq]
 refine Qc ?_ ?_<;>intro hlt
 ·have h2:=h.chg ch (by simp)
  simp [t0,t1,t2,t7,t8,t9,h2.rd.len]
  clear h2 lq
  refine Qk (fun n t H'=>∃(i:Nat) (far q:List Int) (u:Value),n=xs.length-i∧i≤xs.length∧a<q.length∧t 0=v∧t 1=.int .i64 g∧t 2=.int .i64 g∧t 7=s∧t 8=u∧t 9=.int .i64 a∧t 25=v∧t 26=.int .i64 xs.length∧t 27=.int .i64 i∧Ow Fl.int 3 H' s far∧Ow Fl.int 3 H' u q∧DiF xs g far q∧Chg H H' []∧∀j∈ids u,H.length+2≤j) ?_ (n:=xs.length)
   ⟨0,far,q,u,rfl,by omega,by omega,by simp [t0],by simp [t1],by simp [t2],by simp [t7],by simp [t8],by simp [t9],by simp,by simp,by simp,o,ou,d,ch,nu⟩
  clear o ou d ch nu hlt haq t0 t1 t2 t7 t8 t9
  rintro n t H' ⟨i,far,q,u,rfl,hi,haq,t0,t1,t2,t7,t8,t9,t25,t26,t27,o,ou,d,ch,nu⟩ ih1
  simp [t0,t1,t2,t7,t8,t9,t25,t26,t27]
  refine Qc ?_ ?_<;>intro hlt
  ·have h2:=h.chg ch (by simp)
   have p1:=Vv h2 hlt
   have p10:=p1 []
   simp only [List.append_nil] at p10
   have pq:=fun L=>Q8 (ou.app (L:=L)).rd.isI (k:=a) haq
   have sm:=hd i hlt
   have w1:∀[Inhabited Unit],IntKind.i64.wrap ((i:Int)+1)=((i+1:Nat):Int):=by intro _;rw [w64 (by omega) (by omega)];omega
   have lch:=ch.1
   simp [t0,t1,t2,t7,t8,t9,t25,t26,t27,p10,pq,VM.look,lch]
   rw [Qf (h:=by kernel_rfl)]
   obtain ⟨f,hf⟩:∃f:Nat,G xs i/1024=f:=⟨(G xs i/1024).toNat,by have:=h.2.G i;unfold KB at this;omega⟩
   obtain ⟨b,hb⟩:∃b:Nat,G xs i%1024=b:=⟨(G xs i%1024).toNat,by omega⟩
   have f1:f<128:=by have:=sm.1.1;omega
   have b1:b<128:=by have:=sm.1.2;omega
   have fl:=d.len
   have pf:=fun L=>Q8 (o.app (L:=L)).rd.isI (k:=f) (by omega)
   have pb:=fun L=>Q8 (o.app (L:=L)).rd.isI (k:=b) (by omega)
   have K0:=ih1 (xs.length-(i+1))
   have wf:∀[Inhabited Unit],IntKind.i64.wrap (G far b+1)=G far b+1:=by intro _;rw [w64 (by have:=d.rng b b1;omega) (by have:=d.rng b b1;have:=d.cnt;omega)]
   by_cases c1:(b:Int)=G q a
   ·have c1':=c1.symm
    by_cases c2:g≤(f:Int)
    ·by_cases c3:G far f<0
     ·simp [t0,t1,t2,t7,t8,t9,t25,t26,t27,p10,pq,VM.look,lch,hf,hb,c1',c2,c3,pf,pb,wf,w1]
      obtain ⟨H3,st,o3,c4,l3⟩:=(o.app (L:=[⟨[.int .i64 f,.int .i64 b],0,52⟩])).put1 (P:=Try.prog) (frz:=H.length) (et:=3) (ag:=false) rfl (by simp) (j:=f) (by omega) (x:=.int .i64 (G far b+1)) (y:=G far b+1) rfl rfl rfl (by rw [hids];simp)
      have bx:H3[H'.length]? = some ⟨[.int .i64 f,.int .i64 b],0,52⟩:=Qb (by simp) c4 (by rw [hids];simp;have:=o.lt (H.length+1) (by rw [hids];simp);omega)
      have ou3:=(ou.app (L:=[⟨[.int .i64 f,.int .i64 b],0,52⟩])).chg c4 (fun j hj hh=>by rw [hids] at hh;simp at hh;have:=nu j hj;omega)
      have lq:=ou.lt
      obtain ⟨u',H4,hap,o4,c5,n5⟩:=ou3.push (P:=Try.prog) (frz:=H.length) (ty:=26) (a:=(f:Int)) (by simp) rfl (by have:=d.cnt;omega) (fun j hj=>by have:=nu j hj;omega)
      simp at hap
      rw [Qf (h:=by kernel_rfl)]
      simp [t0,t1,t2,t7,t8,t9,t25,t26,t27,p10,pq,VM.look,lch,hf,hb,c1',c2,c3,pf,pb,wf,w1,st,bx,hap]
      have hx:G xs i∈xs:=by rw [Qo hlt];exact List.getElem_mem _
      have hsl:=o.lt (H.length+1) (by rw [hids];simp)
      have n6:∀j∈ids u',H.length+2≤j:=fun j hj=>by
       rcases n5 j hj with q|q
       ·exact nu j q
       ·have:=ch.1;simp at q l3 hsl;omega
      refine K0 _ _ ⟨i+1,far.set f (G far b+1),q++[(f:Int)],u',rfl,by omega,by simp;omega,by simp [t0],by simp [t1],by simp [t2],by simp [t7],by simp,by simp [t9],by simp [t25],by simp [t26],by simp,
       o3.chg c5 (fun j hj hh=>by rw [hids] at hj;simp at hj;have:=nu j hh;omega),by simpa using o4,d.step f1 c2 c3 hx hf hb haq c1,((ch.trans (Chg.app _)).trans' c4 (fun j hj=>.inr (by rw [hids] at hj;simp at hj;omega))).trans' c5 (fun j hj=>.inr (by have:=nu j hj;omega)),n6⟩ (by omega)
     ·simp [t0,t1,t2,t7,t8,t9,t25,t26,t27,p10,pq,VM.look,lch,hf,hb,c1',c2,c3,pf,pb,wf,w1]
      exact K0 _ _ ⟨i+1,far,q,u,rfl,by omega,haq,by simp [t0],by simp [t1],by simp [t2],by simp [t7],by simp [t8],by simp [t9],by simp [t25],by simp [t26],by simp,o.app,ou.app,d,ch.trans (Chg.app _),nu⟩ (by omega)
    ·simp [t0,t1,t2,t7,t8,t9,t25,t26,t27,p10,pq,VM.look,lch,hf,hb,c1',c2,w1]
     exact K0 _ _ ⟨i+1,far,q,u,rfl,by omega,haq,by simp [t0],by simp [t1],by simp [t2],by simp [t7],by simp [t8],by simp [t9],by simp [t25],by simp [t26],by simp,o.app,ou.app,d,ch.trans (Chg.app _),nu⟩ (by omega)
   ·simp [t0,t1,t2,t7,t8,t9,t25,t26,t27,p10,pq,VM.look,lch,hf,hb,c1,w1]
    exact K0 _ _ ⟨i+1,far,q,u,rfl,by omega,haq,by simp [t0],by simp [t1],by simp [t2],by simp [t7],by simp [t8],by simp [t9],by simp [t25],by simp [t26],by simp,o.app,ou.app,d,ch.trans (Chg.app _),nu⟩ (by omega)
  ·simp [t0,t1,t2,t7,t8,t9]
   have w2:∀[Inhabited Unit],IntKind.i64.wrap ((a:Int)+1)=((a+1:Nat):Int):=by intro _;rw [w64 (by omega) (by omega)];omega
   have:=d.cnt
   exact ih (128-(a+1)) _ _ ⟨a+1,far,q,u,rfl,by omega,by omega,by simp [t0],by simp [t1],by simp [t2],by simp [t7],by simp [t8],by simp [w2],o,ou,d,ch,nu⟩ (by omega)
 ·simp [t0,t1,t2,t7,t8,t9]
  exact ⟨far,o,⟨q,d⟩,ch,by rw [hids];simp⟩
def CyRes (H:Heap) (r:Value) (H':Heap):Prop:=Chg H H' []∧((r=.slice none 0 1)∨∃c:List Int,Ow Fl.int 3 H' r c∧0<c.length∧c.length≤2000∧∀j∈ids r,H.length≤j)
theorem Si (v:Value) (xs:List Int) (g:Int) (h:OwE e H v xs) (hl:xs.length≤1048576) (hd:dOk xs) (g0:0≤g) (g1:g<128) :
 wp (vcall C frz 48 [v,.int .i64 g] H) (CyRes H):=by
 rw [Qa (fn:=Try.f48) Try.func48 rfl (by kernel_rfl) rfl]
 simp
 refine Qe (Vo v xs g h hl hd g0 g1) ?_
 rintro s H1 ⟨far,q,o,d,c1,n1⟩
 simp
 obtain ⟨K,hK⟩:∃K,K=H1++[⟨[],0,3⟩]:=⟨_,rfl⟩
 have oe:Ow Fl.int 3 K (.slice (some ⟨H1.length,0,some 0⟩) 0 0) []:=by rw [hK];exact Ow.new0 rfl rfl rfl rfl
 have oK:Ow Fl.int 3 K s far:=by rw [hK];exact o.app
 have cK:Chg H K []:=by rw [hK];exact c1.trans (Chg.app _)
 have n0:∀j∈ids (.slice (some ⟨H1.length,0,some 0⟩) 0 0:Value),H.length≤j∧j∉ids s:=fun j hj=>by
  simp at hj;subst hj;exact ⟨c1.1,fun hh=>Nat.lt_irrefl _ (o.lt _ hh)⟩
 have hsl:=o.lt
 have l1:=c1.1
 rw [← hK]
 clear hK o
 refine Qk (fun m t H'=>∃(a:Nat) (u:Value) (cy:List Int),a<128∧g≤a∧t 0=v∧t 1=.int .i64 g∧t 4=.slice none 0 1∧t 5=s∧t 6=u∧t 7=.int .i64 a∧Ow Fl.int 3 H' s far∧Ow Fl.int 3 H' u cy∧Chg H H' []∧(∀j∈ids u,H.length≤j∧j∉ids s)∧
  cy.length+m≤1000∧(m=1000∨(m:Int)=G far a∧(a:Int)≠g)) ?_ (n:=1000)
  ⟨g.toNat,_,[],by omega,by omega,by simp,by simp,by simp,by simp,by simp,by simp;omega,oK,oe,cK,n0,by simp,.inl rfl⟩
 rintro m t H' ⟨a,u,cy,ha,hga,t0,t1,t4,t5,t6,t7,o,ou,ch,nu,hm,hm2⟩ ih
 simp [t0,t1,t4,t5,t6,t7]
 have h2:=h.chg ch (by simp)
 refine Qe (Lx v xs a h2 hl) ?_
 rintro z H2 ⟨oz,c2,n2⟩
 have lz:=oz.rd.len (P:=Try.prog) (ty:=26) (by simp)
 simp [t0,t1,t4,t5,t6,t7,lz]
 have o2:=o.chg c2 (by simp)
 have ou2:=ou.chg c2 (by simp)
 have ch2:=ch.trans c2
 have hss:∀x∈succs xs a,0≤x∧x<128:=fun x hx=>by
  obtain ⟨y,hy,e1,e2⟩:=Tg.1 hx
  obtain ⟨i,hi,rfl⟩:=List.mem_iff_getElem.1 hy
  have:=(hd i hi).1.2
  rw [Qo hi] at this
  omega
 obtain ⟨ss,hs⟩:∃ss,ss=succs xs a:=⟨_,rfl⟩
 rw [← hs] at oz lz hss ⊢
 have lss:ss.length≤1048576:=by rw [hs];unfold succs;rw [List.length_map];have:=List.length_filter_le (fun k=>decide (k/1024=(a:Int))) xs;omega
 refine Qk (fun n t H'=>∃(i:Nat) (B:Int),n=ss.length-i∧i≤ss.length∧H'=H2∧t 0=v∧t 1=.int .i64 g∧t 4=.slice none 0 1∧t 5=s∧t 6=u∧t 7=.int .i64 a∧t 8=.int .i64 B∧t 19=z∧t 20=.int .i64 ss.length∧t 21=.int .i64 i∧
  ((B=-1∧∀k,k<i→¬(g≤G ss k∧0≤G far (G ss k).toNat))∨(0≤B∧B<128∧g≤B∧0≤G far B.toNat∧∀k,k<i→g≤G ss k→0≤G far (G ss k).toNat→G far B.toNat≤G far (G ss k).toNat))) ?_ (n:=ss.length)
  ⟨0,-1,rfl,by omega,rfl,by simp [t0],by simp [t1],by simp [t4],by simp [t5],by simp [t6],by simp [t7],by simp,by simp,by simp,by simp,.inl ⟨rfl,by omega⟩⟩
 clear t0 t1 t4 t5 t6 t7
 rintro n t H' ⟨i,B,rfl,hi,rfl,t0,t1,t4,t5,t6,t7,t8,t19,t20,t21,hB⟩ ih1
 simp [t0,t1,t4,t5,t6,t7,t8,t19,t20,t21]
 refine Qc ?_ ?_<;>intro hlt
 ·have p1:=Q8 oz.rd.isI hlt
  have hk:=hss (G ss i) (by rw [Qo hlt];exact List.getElem_mem _)
  obtain ⟨k,hk1⟩:∃k:Nat,G ss i=k:=⟨(G ss i).toNat,by omega⟩
  have k1:k<128:=by omega
  have fl:=d.len
  have pf:=Q8 o2.rd.isI (k:=k) (by omega)
  have w1:∀[Inhabited Unit],IntKind.i64.wrap ((i:Int)+1)=((i+1:Nat):Int):=by intro _;rw [w64 (by omega) (by omega)];omega
  simp [t0,t1,t4,t5,t6,t7,t8,t19,t20,t21,p1,hk1]
  rw [Qf (h:=by kernel_rfl)]
  have sk:∀c,c<i+1→c<i∨c=i:=fun c hc=>by omega
  by_cases c1:g≤(k:Int)
  ·by_cases c2:0≤G far k
   ·rcases hB with ⟨rfl,hB⟩|⟨B0,B1,B2,B3,hB⟩
    ·simp [t0,t1,t4,t5,t6,t7,t8,t19,t20,t21,p1,hk1,c1,c2,pf,w1]
     refine ih1 (ss.length-(i+1)) _ _ ⟨i+1,(k:Int),rfl,by omega,rfl,by simp [t0],by simp [t1],by simp [t4],by simp [t5],by simp [t6],by simp [t7],by simp [t8],by simp [t19],by simp [t20],by simp,?_⟩ (by omega)
     right
     refine ⟨by omega,by omega,c1,by simpa using c2,fun c hc=>?_⟩
     rcases sk c hc with h|rfl
     ·exact fun x y=>absurd ⟨x,y⟩ (hB c h)
     ·intro x y;rw [hk1,Int.toNat_natCast];exact Int.le_refl _
    ·obtain ⟨b,rfl⟩:∃b:Nat,B=b:=⟨B.toNat,by omega⟩
     have pb:=Q8 o2.rd.isI (k:=b) (by omega)
     rw [Int.toNat_natCast] at B3 hB
     have c3:¬(b:Int)<0:=by omega
     by_cases c4:G far k<G far b
     ·simp [t0,t1,t4,t5,t6,t7,t8,t19,t20,t21,p1,hk1,c1,c2,c3,c4,pf,pb,w1]
      refine ih1 (ss.length-(i+1)) _ _ ⟨i+1,(k:Int),rfl,by omega,rfl,by simp [t0],by simp [t1],by simp [t4],by simp [t5],by simp [t6],by simp [t7],by simp [t8],by simp [t19],by simp [t20],by simp,?_⟩ (by omega)
      right
      refine ⟨by omega,by omega,c1,by simpa using c2,fun c hc=>?_⟩
      rw [Int.toNat_natCast]
      rcases sk c hc with h|rfl
      ·exact fun x y=>by have:=hB c h x y;omega
      ·intro x y;rw [hk1,Int.toNat_natCast];exact Int.le_refl _
     ·simp [t0,t1,t4,t5,t6,t7,t8,t19,t20,t21,p1,hk1,c1,c2,c3,c4,pf,pb,w1]
      refine ih1 (ss.length-(i+1)) _ _ ⟨i+1,(b:Int),rfl,by omega,rfl,by simp [t0],by simp [t1],by simp [t4],by simp [t5],by simp [t6],by simp [t7],by simp [t8],by simp [t19],by simp [t20],by simp,?_⟩ (by omega)
      right
      refine ⟨by omega,by omega,B2,by simpa using B3,fun c hc=>?_⟩
      rw [Int.toNat_natCast]
      rcases sk c hc with h|rfl
      ·exact hB c h
      ·intro x y;rw [hk1,Int.toNat_natCast];omega
   ·simp [t0,t1,t4,t5,t6,t7,t8,t19,t20,t21,p1,hk1,c1,c2,pf,w1]
    refine ih1 (ss.length-(i+1)) _ _ ⟨i+1,B,rfl,by omega,rfl,by simp [t0],by simp [t1],by simp [t4],by simp [t5],by simp [t6],by simp [t7],by simp [t8],by simp [t19],by simp [t20],by simp,?_⟩ (by omega)
    rcases hB with ⟨rfl,hB⟩|⟨B0,B1,B2,B3,hB⟩
    ·refine .inl ⟨rfl,fun c hc hh=>?_⟩
     rcases sk c hc with h|rfl
     ·exact hB c h hh
     ·rw [hk1,Int.toNat_natCast] at hh;exact c2 hh.2
    ·refine .inr ⟨B0,B1,B2,B3,fun c hc=>?_⟩
     rcases sk c hc with h|rfl
     ·exact hB c h
     ·intro x y;rw [hk1,Int.toNat_natCast] at y;exact absurd y c2
  ·simp [t0,t1,t4,t5,t6,t7,t8,t19,t20,t21,p1,hk1,c1,w1]
   refine ih1 (ss.length-(i+1)) _ _ ⟨i+1,B,rfl,by omega,rfl,by simp [t0],by simp [t1],by simp [t4],by simp [t5],by simp [t6],by simp [t7],by simp [t8],by simp [t19],by simp [t20],by simp,?_⟩ (by omega)
   rcases hB with ⟨rfl,hB⟩|⟨B0,B1,B2,B3,hB⟩
   ·refine .inl ⟨rfl,fun c hc hh=>?_⟩
    rcases sk c hc with h|rfl
    ·exact hB c h hh
    ·rw [hk1] at hh;exact c1 hh.1
   ·refine .inr ⟨B0,B1,B2,B3,fun c hc=>?_⟩
    rcases sk c hc with h|rfl
    ·exact hB c h
    ·intro x y;rw [hk1] at x;exact absurd x c1
 ·have hi':i=ss.length:=by omega
  subst hi'
  rcases hB with ⟨rfl,hB⟩|⟨B0,B1,B2,B3,hB⟩
  ·simp [t0,t1,t4,t5,t6,t7,t8,t19,t20,t21]
   exact ⟨ch2,.inl rfl⟩
  ·have nb:¬B<0:=by omega
   have lq:=ou2.lt
   obtain ⟨u',H4,hap,o4,c5,n5⟩:=ou2.push (P:=Try.prog) (frz:=H.length) (ty:=26) (a:=(a:Int)) (by simp) rfl (by omega) (fun j hj=>by exact (nu j hj).1)
   simp at hap
   have n6:∀j∈ids u',H.length≤j∧j∉ids s:=fun j hj=>by
    rcases n5 j hj with q|q
    ·exact nu j q
    ·have:=ch2.1;exact ⟨by omega,fun hh=>by have:=o2.lt j hh;omega⟩
   have ch4:Chg H H4 []:=ch2.trans' c5 (fun j hj=>.inr (nu j hj).1)
   have hb2:=d.rng B.toNat (by omega)
   have hcn:=d.cnt
   by_cases hBg:B=g
   ·subst hBg
    simp [t0,t1,t4,t5,t6,t7,t8,t19,t20,t21,nb,hap]
    exact ⟨ch4,.inr ⟨_,by simpa using o4,by simp,by simp;omega,fun j hj=>(n6 j hj).1⟩⟩
   ·simp [t0,t1,t4,t5,t6,t7,t8,t19,t20,t21,nb,hap,hBg]
    have key:m=1000∨G far B.toNat<m:=by
     rcases hm2 with h|⟨h1,h2⟩
     ·exact .inl h
     ·right
      rcases d.ex a ha (by omega) with h|⟨x,x1,x2,x3,x4,x5,x6⟩
      ·exact absurd h h2
      ·have:x%1024∈ss:=by rw [hs];exact Tg.2 ⟨x,x1,x2,rfl⟩
       obtain ⟨k,hk,e⟩:=List.mem_iff_getElem.1 this
       have:=hB k hk (by rw [Qo hk,e];exact x3) (by rw [Qo hk,e];exact x5)
       rw [Qo hk,e] at this
       omega
    refine ih (G far B.toNat).toNat _ _ ⟨B.toNat,u',cy++[(a:Int)],by omega,by omega,by simp [t0],by simp [t1],by simp [t4],by simp [t5],by simp,by simp;omega,o2.chg c5 (fun j hj hh=>(nu j hh).2 hj),by simpa using o4,ch4,n6,by simp;omega,.inr ⟨by omega,by omega⟩⟩ (by omega)
theorem Oj {u:Value} {c:List Int} (o:Ow Fl.int 3 H u c) (h:0<c.length):vnilq Try.prog H .eql 26 u=some (.bool false)∧vnilq Try.prog H .neq 26 u=some (.bool true):=by
 rcases o with ⟨rfl,rfl⟩|⟨id,off,r,rfl,h2,h3,h4,h5,h6⟩
 ·simp at h
 ·simp [vnilq,VM.look,h2,h5]
theorem Pu (v:Value) (xs:List Int) (h:OwE e H v xs) (hl:xs.length≤1048576) :
 wp (vcall C frz 30 [v] H) (CyRes H):=by
 rw [Qa (fn:=Try.f30) Try.func30 rfl (by kernel_rfl) rfl]
 by_cases hd:dOk xs
 case neg=>
  simp [Wi v xs h (by omega),hd]
  exact ⟨Chg.refl _,.inl rfl⟩
 simp [Wi v xs h (by omega),hd]
 refine Qk (fun m t H'=>∃(i:Nat) (u:Value),m=128-i∧i≤128∧t 0=v∧t 2=.slice none 0 1∧t 3=u∧t 9=.int .i64 i∧CyRes H u H') ?_ (n:=128)
  ⟨0,_,rfl,by omega,by simp,by simp,by simp,by simp,Chg.refl _,.inl rfl⟩
 rintro m t H' ⟨i,u,rfl,hi,t0,t2,t3,t9,ch,hu⟩ ih
 simp [t0,t2,t3,t9]
 refine Qc ?_ ?_<;>intro hlt
 ·have h2:=h.chg ch (by simp)
  have w1:∀[Inhabited Unit],IntKind.i64.wrap ((i:Int)+1)=((i+1:Nat):Int):=by intro _;rw [w64 (by omega) (by omega)];omega
  simp [t0,t2,t3,t9]
  refine Qe (Si v xs i h2 hl hd (by omega) (by omega)) ?_
  rintro z H2 ⟨c2,hz⟩
  have c02:=ch.trans c2
  have hu2:u=.slice none 0 1∨∃c:List Int,Ow Fl.int 3 H2 u c∧0<c.length∧c.length≤2000∧∀j∈ids u,H.length≤j:=by
   rcases hu with h|⟨c,o,h1,h2,h3⟩
   ·exact .inl h
   ·exact .inr ⟨c,o.chg c2 (by simp),h1,h2,h3⟩
  have K0:=fun t' u' hh=>ih (128-(i+1)) t' H2 ⟨i+1,u',hh⟩ (by omega)
  have e0:vnilq Try.prog H2 .neq 26 (.slice none 0 1)=some (.bool false):=by simp [vnilq]
  have e1:vnilq Try.prog H2 .eql 26 (.slice none 0 1)=some (.bool true):=by simp [vnilq]
  rcases hz with rfl|⟨cz,oz,z1,z2,z3⟩
  ·simp [t0,t2,t3,t9,e0,w1]
   exact K0 _ u ⟨rfl,by omega,by simp [t0],by simp [t2],by simp [t3],by simp,c02,hu2⟩
  ·have z4:∀j∈ids z,H.length≤j:=fun j hj=>by have:=z3 j hj;have:=ch.1;omega
   have qz:=Oj oz z1
   have lz:=oz.rd.len (P:=Try.prog) (ty:=26) (by simp)
   rcases hu2 with rfl|⟨cu,ou,u1,u2,u3⟩
   ·simp [t0,t2,t3,t9,e0,e1,qz,w1]
    exact K0 _ z ⟨rfl,by omega,by simp [t0],by simp [t2],by simp,by simp,c02,.inr ⟨cz,oz,z1,z2,z4⟩⟩
   ·have qu:=Oj ou u1
    have lu:=ou.rd.len (P:=Try.prog) (ty:=26) (by simp)
    by_cases c:cz.length<cu.length
    ·simp [t0,t2,t3,t9,qz,qu,lz,lu,c,w1]
     exact K0 _ z ⟨rfl,by omega,by simp [t0],by simp [t2],by simp,by simp,c02,.inr ⟨cz,oz,z1,z2,z4⟩⟩
    ·simp [t0,t2,t3,t9,qz,qu,lz,lu,c,w1]
     exact K0 _ u ⟨rfl,by omega,by simp [t0],by simp [t2],by simp [t3],by simp,c02,.inr ⟨cu,ou,u1,u2,u3⟩⟩
 ·simp [t0,t2,t3,t9]
  exact ⟨ch,hu⟩
def VdCode (H:Heap) (c:Int) (r:Value) (H':Heap):Prop:=∃z y,r=.agg #[.int .i64 c,z,y]∧(VM.one z=true∧z.cells=#[z])∧(VM.one y=true∧y.cells=#[y])∧Chg H H' []
theorem Nl (v:Value) (xs:List Int) (h:OwE e H v xs) (hl:xs.length≤1048576) :
 wp (vcall C frz 13 [v] H) (VdCode H (if dOk xs∧orderOk (prs xs) then 1 else 2)):=by
 by_cases ho:dOk xs∧orderOk (prs xs)
 ·rw [if_pos ho]
  refine (Mk v xs h (by omega) ho.1 ho.2).mono ?_
  rintro _ H' ⟨z,y,rk,cy,rfl,rz,ry,c,-,-⟩
  exact ⟨z,y,rfl,⟨rz.one',rz.cells⟩,⟨ry.one',ry.cells⟩,c⟩
 rw [if_neg ho,Qa (fn:=Try.f13) Try.func13 rfl (by kernel_rfl) rfl]
 simp
 refine Qe (Zs v xs h.app (by omega)) ?_
 rintro _ H1 ⟨z,rk,rfl,rz,c1,n1⟩
 have e1:decide (dOk xs∧orderOk (prs xs))=false:=by simp only [ho,decide_false]
 have oz:=And.intro rz.one' rz.cells
 rw [e1]
 simp [oz,VM.look]
 have b0:H1[H.length]? = some ⟨[.int .i64 0,.slice none 0 0,.slice none 0 0],0,36⟩:=Qb (by simp) c1 (by simp)
 refine Qe (Pu v xs (h.app.chg c1 (by simp)) hl) ?_
 rintro y H2 ⟨c2,hy⟩
 have oy:VM.one y=true∧y.cells=#[y]:=by
  rcases hy with rfl|⟨c,o,-,-,-⟩
  ·exact ⟨rfl,rfl⟩
  ·exact ⟨o.rd.one',o.rd.cells⟩
 have b2:=Qb b0 c2 (by simp)
 have cs:=Qn (H:=H2) H.length ⟨[.int .i64 2,.slice none 0 0,y],0,36⟩
 have gs:=Qy (r':=⟨[.int .i64 2,.slice none 0 0,y],0,36⟩) b2
 have cc:Chg H (H2.set H.length ⟨[.int .i64 2,.slice none 0 0,y],0,36⟩) []:=(((Chg.app _).trans c1).trans c2).trans' cs (fun i hi=>.inr (by simp at hi;omega))
 simp [oy,VM.look,b2,VM.splice]
 generalize H2.set H.length ⟨[.int .i64 2,.slice none 0 0,y],0,36⟩=H3 at *
 simp [gs]
 exact ⟨_,y,rfl,⟨rfl,rfl⟩,oy,cc⟩
theorem Yo (w h:Int) (v u:Value) (b T:List Int) (hI:IsI H v b) (h1:IsI H u T) (hl:b.length≤1073741824) :
 wp (vcall C frz 6 [.agg #[.int .i64 w,.int .i64 h,v],.agg #[u]] H) (VdCode H (if tableOk w h b T then (if dOk (depsOf w h b T)∧orderOk (prs (depsOf w h b T)) then 1 else 2) else 0)):=by
 rw [Qa (fn:=Try.f6) Try.func6 rfl (by kernel_rfl) rfl]
 have onv:=And.intro hI.one' hI.cells
 have onu:=And.intro h1.one' h1.cells
 obtain ⟨M,hM⟩:∃M:Heap,M=[⟨[.int .i64 w,.int .i64 h,v],0,28⟩,⟨[u],0,30⟩,⟨[.int .i64 0,.slice none 0 0,.slice none 0 0],0,36⟩]:=⟨_,rfl⟩
 have ck:=fun F=>Yf (frz:=F) w h v u b T (hI.app M) (h1.app M) hl
 rw [hM] at ck
 have g0:(H++M)[H.length]? = some ⟨[.int .i64 w,.int .i64 h,v],0,28⟩:=by rw [hM];simp
 have g1:(H++M)[H.length+1]? = some ⟨[u],0,30⟩:=by rw [hM];simp
 have g2:(H++M)[H.length+2]? = some ⟨[.int .i64 0,.slice none 0 0,.slice none 0 0],0,36⟩:=by rw [hM];simp
 have hK:=hI.app M
 have h1K:=h1.app M
 have cK:Chg H (H++M) []:=Chg.app _
 have lK:(H++M).length=H.length+3:=by rw [hM];simp
 by_cases hk:tableOk w h b T
 case neg=>
  simp [onv,onu,VM.look,ck,hk,VM.splice]
  exact ⟨_,_,rfl,⟨rfl,rfl⟩,⟨rfl,rfl⟩,Chg.app _⟩
 simp [onv,onu,VM.look,ck,hk]
 rw [← hM]
 clear hM ck
 generalize H++M=K at *
 try simp [VM.look,g0,g1,g2,onv,onu]
 refine Qe (X9 w h v u b T hK h1K hl (by omega)) ?_
 rintro d1 H1 ⟨o1,c1,n1⟩
 have b2:=Qb g2 c1 (by simp)
 simp
 refine Qe (Nl d1 _ o1 (by have:=Wg w h b T;omega)) ?_
 rintro _ H2 ⟨z,y,rfl,oz,oy,c2⟩
 generalize (if dOk (depsOf w h b T)∧orderOk (prs (depsOf w h b T)) then (1:Int) else 2)=cd at *
 have b2:=Qb b2 c2 (by simp)
 have l1:=c1.1
 simp [VM.look,b2,oz,oy,VM.splice]
 have cs:=Qn (H:=H2) (H.length+2) ⟨[.int .i64 cd,z,y],0,36⟩
 have gs:=Qy (r':=⟨[.int .i64 cd,z,y],0,36⟩) b2
 have cc:=((cK.trans c1).trans c2).trans' cs (fun i hi=>.inr (by simp at hi;omega))
 generalize H2.set (H.length+2) ⟨[.int .i64 cd,z,y],0,36⟩=H3 at *
 simp [gs]
 exact ⟨z,y,rfl,oz,oy,cc⟩
end Go.Proofs.Ytaldglgobgjeaaa.V
set_option linter.all false
namespace Go.Proofs.Ytaldglgobgjeaaa.V
open Go Go.VM Go.Proofs
set_option maxRecDepth 10000
variable {frz:Nat} {H:Heap}
abbrev DpD:=Int×Int
def dpF:Fl DpD:=⟨2,fun a=>[.int .i64 a.1,.int .i64 a.2],fun _=>rfl⟩
@[simp] theorem E7:dpF.n=2:=rfl
end Go.Proofs.Ytaldglgobgjeaaa.V
set_option linter.all false
namespace Go.Proofs.Ytaldglgobgjeaaa.V
open Go Go.VM Go.Proofs
set_option maxRecDepth 10000
variable {frz:Nat} {H:Heap} {v:Value} {xs ys:List Int} {e:TypeId}
theorem Ys (w h:Int) (v u1 u2:Value) (b A B:List Int) (s:Bool) (hI:IsI H v b) (h1:IsI H u1 A) (h2:IsI H u2 B) (hl:b.length≤1073741824) :
 wp (vcall C frz 7 [.agg #[.int .i64 w,.int .i64 h,v],.agg #[u1,u2],.bool s] H) (fun r _=>r=.bool (decide (classesOk w h b A B∧dOk (replyOf w h b A B s)∧orderOk (prs (replyOf w h b A B s))))):=by
 rw [Qa (fn:=Try.f7) Try.func7 rfl (by kernel_rfl) rfl]
 have onv:=And.intro hI.one' hI.cells
 have onu:=And.intro h1.one' h1.cells
 have onu2:=And.intro h2.one' h2.cells
 simp [onv,onu,onu2,VM.look]
 obtain ⟨M,hM⟩:∃M:Heap,M=[⟨[.int .i64 w,.int .i64 h,v],0,28⟩,⟨[u1,u2],0,32⟩]:=⟨_,rfl⟩
 have g0:(H++M)[H.length]? = some ⟨[.int .i64 w,.int .i64 h,v],0,28⟩:=by rw [hM];simp
 have g1:(H++M)[H.length+1]? = some ⟨[u1,u2],0,32⟩:=by rw [hM];simp
 rw [← hM]
 refine Qe (Yd w h v u1 u2 b A B s (hI.app M) (h1.app M) (h2.app M) hl (by simp)) ?_
 rintro z H1 ⟨o1,c1,n1⟩
 have b0:=Qb g0 c1 (by simp)
 have b1:=Qb g1 c1 (by simp)
 simp [VM.look,b0,b1,onv,onu,onu2]
 refine Qe (Zs z _ o1 (by have:=Zz w h b A B s;omega)) ?_
 rintro _ H2 ⟨y,rk,rfl,ry,c2,n2⟩
 have b0:=Qb b0 c2 (by simp)
 have b1:=Qb b1 c2 (by simp)
 have c12:=c1.trans c2
 have ck:=fun F=>Zx (frz:=F) w h v u1 u2 b A B ((hI.app M).rd.chg c12 (by simp)).isI ((h1.app M).rd.chg c12 (by simp)).isI ((h2.app M).rd.chg c12 (by simp)).isI hl
 simp [VM.look,b0,b1,onv,onu,onu2,ck]
 refine Qu ?_ ?_<;>intro g<;>simp [g]
end Go.Proofs.Ytaldglgobgjeaaa.V
set_option linter.all false
namespace Go.Proofs.Ytaldglgobgjeaaa.V
open Go Go.VM Go.Proofs
set_option maxRecDepth 10000
variable {frz:Nat} {H:Heap}
theorem law_FnReplies_w {a0:List Int} {u0:Value} (s0:IsS (Kn.int .u8) H u0 a0)
 (w0:a0.length≤maxLen∧∀x1∈a0,(Lit.int .u8 x1).wf=true) :
 wp (vcall C frz 3 [u0] H) (fun r _=>r=.bool true):=by
 have r0:=O7 s0
 rw [Qa (fn:=Try.f3) Try.func3 rfl (by kernel_rfl) rfl]
 simp [Gh _ _ r0]
 refine Qc ?_ ?_<;>intro g0
 ·simp
 simp
 refine Qe (Vs u0 a0 r0 (by omega)) ?_
 rintro _ H1 ⟨w,h,vc,t,rfl,⟨hg,N,x,y,hN,hx,hy,rfl⟩,oc,mc,c1⟩
 have onec:=Za oc
 have cn1:=c1.1
 have cn2:H.length≤H1.length+1:=by omega
 obtain ⟨K,hK⟩:∃K:Heap,K=H1++[⟨[.int .i64 w,.int .i64 h,.slice none 0 0],0,28⟩,⟨[vc.1,vc.2],0,32⟩]:=⟨_,rfl⟩
 have cK:Chg H1 K []:=by rw [hK];exact Chg.app _
 have bM:K[H1.length]? = some ⟨[.int .i64 w,.int .i64 h,.slice none 0 0],0,28⟩:=by rw [hK];simp
 have bC:K[H1.length+1]? = some ⟨[vc.1,vc.2],0,32⟩:=by rw [hK];simp
 have ocK:=Dt.chg (T:=dClasses) oc cK (by simp)
 have lK:K.length=H1.length+2:=by rw [hK];simp
 have hKs:=hK.symm
 simp [VM.look,onec,cn1,cn2]
 rw [hKs]
 clear hK hKs
 have nilI:∀K:Heap,IsI K (.slice none 0 0) []:=fun K=>.inl ⟨rfl,rfl⟩
 refine Qe (Yo w h (.slice none 0 0) vc.1 [] _ (nilI K) ocK.1.1.rd.isI (by simp)) ?_
 rintro _ H2 ⟨z1,y1,rfl,oz1,oy1,c2⟩
 have hcl:classesOk w h [] (stdTab w (1+x) N) (stdTab w (1+y) N):=⟨Zi (by omega) hg hN,Zi (by omega) hg hN⟩
 have bM:=Qb bM c2 (by simp)
 have bC:=Qb bC c2 (by simp)
 have oc2:=Dt.chg (T:=dClasses) ocK c2 (by simp)
 have hA:=(⟨Zi (by omega) hg hN,Zi (by omega) hg hN⟩:classesOk w h [] (stdTab w (1+x) N) (stdTab w (1+y) N))
 rw [if_pos hcl.1]
 obtain ⟨cA,hcA⟩:∃cA:Int,cA=if dOk (depsOf w h [] (stdTab w (1+x) N))∧orderOk (prs (depsOf w h [] (stdTab w (1+x) N))) then 1 else 2:=⟨_,rfl⟩
 have iA:cA=1↔dOk (depsOf w h [] (stdTab w (1+x) N))∧orderOk (prs (depsOf w h [] (stdTab w (1+x) N))):=by
  rw [hcA];split<;>simp [*]
 rw [← hcA]
 clear hcA
 obtain ⟨K2,hK2⟩:∃K2:Heap,K2=H2++[⟨[.int .i64 cA,z1,y1],0,36⟩]:=⟨_,rfl⟩
 have cK2:Chg H2 K2 []:=by rw [hK2];exact Chg.app _
 have bM2:=Qb bM cK2 (by simp)
 have bC2:=Qb bC cK2 (by simp)
 have bA2:K2[H2.length]? = some ⟨[.int .i64 cA,z1,y1],0,36⟩:=by rw [hK2];simp
 have oc3:=Dt.chg (T:=dClasses) oc2 cK2 (by simp)
 have lH2:H.length≤H2.length:=by have:=cK.1;have:=c2.1;omega
 have hKs:=hK2.symm
 simp [VM.look,onec,oz1,oy1,lH2]
 rw [hKs]
 clear hK2 hKs
 simp [VM.look,bM2,bC2,onec,oz1,oy1,lH2]
 refine Qe (Yo w h (.slice none 0 0) vc.2 [] _ (nilI K2) oc3.2.1.rd.isI (by simp)) ?_
 rintro _ H3 ⟨z2,y2,rfl,oz2,oy2,c3⟩
 rw [if_pos hcl.2]
 obtain ⟨cB,hcB⟩:∃cA:Int,cA=if dOk (depsOf w h [] (stdTab w (1+y) N))∧orderOk (prs (depsOf w h [] (stdTab w (1+y) N))) then 1 else 2:=⟨_,rfl⟩
 have iB:cB=1↔dOk (depsOf w h [] (stdTab w (1+y) N))∧orderOk (prs (depsOf w h [] (stdTab w (1+y) N))):=by
  rw [hcB];split<;>simp [*]
 rw [← hcB]
 clear hcB
 have bM3:=Qb bM2 c3 (by simp)
 have bC3:=Qb bC2 c3 (by simp)
 have bA3:=Qb bA2 c3 (by simp)
 have oc4:=Dt.chg (T:=dClasses) oc3 c3 (by simp)
 have lH3:H.length≤H3.length:=by have:=cK2.1;have:=c3.1;omega
 obtain ⟨K4,hK4⟩:∃K4:Heap,K4=H3++[⟨[.int .i64 cB,z2,y2],0,36⟩]:=⟨_,rfl⟩
 have cK4:Chg H3 K4 []:=by rw [hK4];exact Chg.app _
 have bM4:=Qb bM3 cK4 (by simp)
 have bC4:=Qb bC3 cK4 (by simp)
 have bA4:=Qb bA3 cK4 (by simp)
 have bB4:K4[H3.length]? = some ⟨[.int .i64 cB,z2,y2],0,36⟩:=by rw [hK4];simp
 have oc5:=Dt.chg (T:=dClasses) oc4 cK4 (by simp)
 have hKs:=hK4.symm
 simp [VM.look,oz2,oy2,lH3]
 rw [hKs]
 clear hK4 hKs
 have hA1:1≤(1+(x:Int))∧1+(x:Int)≤4:=by omega
 have hB1:1≤(1+(y:Int))∧1+(y:Int)≤4:=by omega
 have hwh:w*h=N:=by rw [cnt,if_pos hg] at hN;exact hN
 have hNr:=Qj w h
 have fN:∀[Inhabited Unit],IntKind.i64.wrap (w*h)=(N:Int):=by intro _;rw [hwh,w64 (by omega) (by omega)]
 have own:=M2 hcl
 have sh:=Re hcl (s:=true)
 have shN:Acyc (replyOf w h [] (stdTab w (1+x) N) (stdTab w (1+y) N) true)↔N=1:=by
  constructor
  ·intro ha
   have:=Wp hg
   rcases Nat.lt_or_ge N 2 with h2|h2
   ·omega
   ·exact absurd ha (Ry hA1 hB1 hg hN h2)
  ·intro h1;exact N9 hcl (by omega)
 have dK:dOk (replyOf w h [] (stdTab w (1+x) N) (stdTab w (1+y) N) false):=U2 hcl
 rw [shN] at sh
 rw [← iA,← iB] at own
 have s0:∀F,vcall C F 7 [.agg #[.int .i64 w,.int .i64 h,.slice none 0 0],.agg #[vc.1,vc.2],.bool false] K4=some (.bool (decide (classesOk w h [] (stdTab w (1+x) N) (stdTab w (1+y) N)∧dOk (replyOf w h [] (stdTab w (1+x) N) (stdTab w (1+y) N) false)∧orderOk (prs (replyOf w h [] (stdTab w (1+x) N) (stdTab w (1+y) N) false)))),K4):=fun F=>
  (Ys w h (.slice none 0 0) vc.1 vc.2 [] _ _ false (nilI K4) oc5.1.1.rd.isI oc5.2.1.rd.isI (by simp)).exact (by simp) rfl
 have s1:∀F,vcall C F 7 [.agg #[.int .i64 w,.int .i64 h,.slice none 0 0],.agg #[vc.1,vc.2],.bool true] K4=some (.bool (decide (classesOk w h [] (stdTab w (1+x) N) (stdTab w (1+y) N)∧dOk (replyOf w h [] (stdTab w (1+x) N) (stdTab w (1+y) N) true)∧orderOk (prs (replyOf w h [] (stdTab w (1+x) N) (stdTab w (1+y) N) true)))),K4):=fun F=>
  (Ys w h (.slice none 0 0) vc.1 vc.2 [] _ _ true (nilI K4) oc5.1.1.rd.isI oc5.2.1.rd.isI (by simp)).exact (by simp) rfl
 have s0:∀F,vcall C F 7 [.agg #[.int .i64 w,.int .i64 h,.slice none 0 0],.agg #[vc.1,vc.2],.bool false] K4=some (.bool (decide (cA=1∧cB=1)),K4):=fun F=>by
  rw [s0];exact congrArg (fun b=>some (Value.bool b,K4)) (decide_eq_decide.2 own)
 have s1:∀F,vcall C F 7 [.agg #[.int .i64 w,.int .i64 h,.slice none 0 0],.agg #[vc.1,vc.2],.bool true] K4=some (.bool (decide (N=1)),K4):=fun F=>by
  rw [s1];exact congrArg (fun b=>some (Value.bool b,K4)) (decide_eq_decide.2 sh)
 have lK4:H.length≤K4.length:=by have:=cK4.1;omega
 have n2:((N:Int)=1)↔N=1:=by omega
 by_cases a1:cA=1<;>by_cases b1:cB=1<;>by_cases n1:N=1<;>simp [VM.look,bA4,bB4,bM4,bC4,a1,b1,n2,n1,fN,onec,s0,s1]
 all_goals
  refine Qe (Yd w h (.slice none 0 0) vc.1 vc.2 [] _ _ false (nilI K4) oc5.1.1.rd.isI oc5.2.1.rd.isI (by simp) (by omega)) ?_
  rintro d H5 ⟨od,c5,n5⟩
  have dk:=fun F=>Wi (frz:=F) d (replyOf w h [] (stdTab w (1+x) N) (stdTab w (1+y) N) false) od (by have:=Zz w h [] (stdTab w (1+x) N) (stdTab w (1+y) N) false;omega)
  simp [dk,dK]
theorem law_FnReplies {a0:List Int} {u0:Value} (s0:IsS (Kn.int .u8) H u0 a0)
 (w0:a0.length≤maxLen∧∀x1∈a0,(Lit.int .u8 x1).wf=true) :
 vcall C frz 3 [u0] H=some (.bool true,H):=
 (law_FnReplies_w s0 w0).exact (by simp) rfl
end Go.Proofs.Ytaldglgobgjeaaa.V
