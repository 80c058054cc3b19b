/- Texts of a proof, joined. -/
import Derived.Test.YtlhaeingdonaeaaGreatKM0
import Derived.Test.YtlhaeingdonaeaaGreatKM1
import Derived.Test.YtlhaeingdonaeaaGreatKFnReplays0
import Derived.Test.YtlhaeingdonaeaaGreatKFnReplays1
import Derived.Test.YtlhaeingdonaeaaGreatKFnReplays2
set_option linter.all false
namespace Go.Proofs.YtlhaeingdonaeaaGreat.V
open Go Go.VM Go.Proofs
set_option maxRecDepth 10000
variable {frz:Nat} {H:Heap} {r:Nat} {vb:Value} {code:List Int}
theorem D5 {N:Nat} (h2:1≤N) (hN:N≤16) (c:Cur H r vb code) (hf:frz≤r):wp (vcall C frz 94 [.pointer (some ⟨r,0,some 0⟩),.int .i64 N] H) (fun u H'=>(∃p:PkD,u=pkV p)∧Chg H H' [r]∧Cur H' r vb code):=by
 have lt:=c.lt
 have vlt:=c.vlt
 rw [Qb (fn:=Tryz.f94) Tryz.func94 rfl (by kernel_rfl) rfl]
 simp
 have bl:=Wc (frz:=frz) (c.app [⟨[.int .i64 0,.int .i64 0,.int .i64 0,.int .i64 0,.int .i64 0],0,79⟩]) hf 8 (by decide) (by decide)
 refine Qc (by simpa using bl) ?_
 rintro _ K ⟨⟨x,rfl,hx⟩,c1,d1⟩
 have cK:Chg H K [r]:=(Chg.app [r]).trans c1
 have b0:K[H.length]? = some ⟨[.int .i64 0,.int .i64 0,.int .i64 0,.int .i64 0,.int .i64 0],0,79⟩:=Qa (by simp) c1 (by simp;omega)
 have hF:frz≤H.length:=by omega
 have ltr:=d1.lt
 have fin:∀(J:Heap) (w:Row),Chg H J [r]→Cur J r vb code→Chg H (J.set H.length w) [r]∧Cur (J.set H.length w) r vb code:=fun J w cJ dJ=>
  ⟨cJ.trans' (Qe _ _) (fun i hi=>.inr (by simp at hi;omega)),dJ.set (by omega) (fun i hi=>by have:=vlt i hi;omega)⟩
 have run:x=0∨x=1∨x=2∨x=3∨x=4∨5≤x:=by omega
 have e9:∀(y:Nat),y<100→∀[Inhabited Unit],IntKind.i64.wrap (1+(y:Int))=1+(y:Int):=fun y hy _=>w64 (by omega) (by omega)
 rcases run with rfl|rfl|rfl|rfl|rfl|hx5
 ·simp
  have bl:=Wc (frz:=frz) d1 hf 9 (by decide) (by decide)
  refine Qc (by simpa using bl) ?_
  rintro _ K2 ⟨⟨y,rfl,hy⟩,c2,d2⟩
  have b2:=Qa b0 c2 (by simp;omega)
  have gP:=fun cs=>Qg (r':=⟨cs,0,79⟩) b2
  have f:=fun w=>fin K2 w (cK.trans c2) d2
  simp [VM.look,b2,e9 y (by omega),hF,gP]
  exact ⟨⟨_,_,_,_,_,rfl⟩,f _⟩
 ·simp
  have bl:=Wc (frz:=frz) d1 hf 9 (by decide) (by decide)
  refine Qc (by simpa using bl) ?_
  rintro _ K2 ⟨⟨y,rfl,hy⟩,c2,d2⟩
  have b2:=Qa b0 c2 (by simp;omega)
  have gP:=fun cs=>Qg (r':=⟨cs,0,79⟩) b2
  have f:=fun w=>fin K2 w (cK.trans c2) d2
  simp [VM.look,b2,e9 y (by omega),hF,gP]
  exact ⟨⟨_,_,_,_,_,rfl⟩,f _⟩
 ·have gP:=fun cs=>Qg (r':=⟨cs,0,79⟩) b0
  have f:=fun w=>fin K w cK d1
  simp [VM.look,b0,hF,gP]
  exact ⟨⟨_,_,_,_,_,rfl⟩,f _⟩
 ·have e4:∀[Inhabited Unit],IntKind.i64.wrap (4*(N:Int))=((4*N:Nat):Int):=by intro _;rw [w64 (by omega) (by omega)];omega
  simp [e4]
  have bl:=Wc (frz:=frz) d1 hf (4*N) (by omega) (by omega)
  refine Qc (by simpa using bl) ?_
  rintro _ K2 ⟨⟨y,rfl,hy⟩,c2,d2⟩
  have b2:=Qa b0 c2 (by simp;omega)
  have gP:=fun cs=>Qg (r':=⟨cs,0,79⟩) b2
  have f:=fun w=>fin K2 w (cK.trans c2) d2
  simp [VM.look,b2,hF,gP]
  exact ⟨⟨_,_,_,_,_,rfl⟩,f _⟩
 ·simp
  have bl:=Wc (frz:=frz) d1 hf 4 (by decide) (by decide)
  refine Qc (by simpa using bl) ?_
  rintro _ K2 ⟨⟨y,rfl,hy⟩,c2,d2⟩
  simp [e9 y (by omega)]
  have bl:=Wc (frz:=frz) d2 hf 4 (by decide) (by decide)
  refine Qc (by simpa using bl) ?_
  rintro _ K3 ⟨⟨z,rfl,hz⟩,c3,d3⟩
  have b2:=Qa (Qa b0 c2 (by simp;omega)) c3 (by simp;omega)
  have gP:=fun cs=>Qg (r':=⟨cs,0,79⟩) b2
  have f:=fun w=>fin K3 w ((cK.trans c2).trans c3) d3
  simp [VM.look,b2,e9 z (by omega),hF,gP]
  exact ⟨⟨_,_,_,_,_,rfl⟩,f _⟩
 ·have n0:¬(x:Int)=0:=by omega
  have n1:¬(x:Int)=1:=by omega
  have n2:¬(x:Int)=2:=by omega
  have n3:¬(x:Int)=3:=by omega
  have n4:¬(x:Int)=4:=by omega
  have m0:¬x=0:=by omega
  have m1:¬x=1:=by omega
  have m2:¬x=2:=by omega
  have m3:¬x=3:=by omega
  have m4:¬x=4:=by omega
  simp [n0,n1,n2,n3,n4,m0,m1,m2,m3,m4]
  refine Qc (Wc (frz:=frz) d1 hf N (by omega) (by omega)) ?_
  rintro _ K2 ⟨⟨y1,rfl,hy1⟩,c2,d2⟩
  simp
  refine Qc (Wc (frz:=frz) d2 hf N (by omega) (by omega)) ?_
  rintro _ K3 ⟨⟨y2,rfl,hy2⟩,c3,d3⟩
  simp
  have bl:=Wc (frz:=frz) d3 hf 2 (by decide) (by decide)
  refine Qc (by simpa using bl) ?_
  rintro _ K4 ⟨⟨y3,rfl,hy3⟩,c4,d4⟩
  simp
  have bl:=Wc (frz:=frz) d4 hf 5 (by decide) (by decide)
  refine Qc (by simpa using bl) ?_
  rintro _ K5 ⟨⟨y4,rfl,hy4⟩,c5,d5⟩
  have b2:=Qa (Qa (Qa (Qa b0 c2 (by simp;omega)) c3 (by simp;omega)) c4 (by simp;omega)) c5 (by simp;omega)
  have gP:=fun cs=>Qg (r':=⟨cs,0,79⟩) b2
  have f:=fun w=>fin K5 w ((((cK.trans c2).trans c3).trans c4).trans c5) d5
  simp [VM.look,b2,e9 y4 (by omega),hF,gP]
  exact ⟨⟨_,_,_,_,_,rfl⟩,f _⟩
theorem G9 {N:Nat} (h2:1≤N) (hN:N≤16) (c:Cur H r vb code) (hf:frz≤r):wp (vcall C frz 49 [.pointer (some ⟨r,0,some 0⟩),.int .i64 N] H) (fun u H'=>∃xs:List PkD,Ow pkF 79 H' u xs∧xs.length≤9∧(∀i∈ids u,H.length≤i)∧Chg H H' [r]∧Cur H' r vb code):=by
 have lt:=c.lt
 have vlt:=c.vlt
 rw [Qb (fn:=Tryz.f49) Tryz.func49 rfl (by kernel_rfl) rfl]
 simp
 refine Qi (fun n t H'=>∃(i:Nat) (u:Value) (xs:List PkD),n=9-i∧i≤9∧t 0=.pointer (some ⟨r,0,some 0⟩)∧t 1=.int .i64 N∧t 5=u∧t 6=.int .i64 i∧Cur H' r vb code∧Ow pkF 79 H' u xs∧xs.length=i∧(∀j∈ids u,H.length≤j)∧Chg H H' [r]) ?_ (n:=9)
  ⟨0,.slice (some ⟨H.length,0,some 0⟩) 0 0,[],rfl,by omega,by simp,by simp,by simp,by simp,c.app _,Ow.new0 (D:=pkF) (xs:=[]) rfl rfl rfl rfl,rfl,by simp,Chg.app _⟩
 rintro n t H' ⟨i,u,xs,rfl,hi,t0,t1,t5,t6,cc,o,hx,nu,ch⟩ ih
 have l1:=ch.1
 have bl:=Wc (frz:=frz) cc hf 9 (by decide) (by decide)
 simp [t0,t1,t5,t6]
 refine Qc (by simpa using bl) ?_
 rintro _ H2 ⟨⟨x,rfl,hx2⟩,c2,d2⟩
 have o2:=o.chg c2 (fun j hj hh=>by have:=nu j hj;simp at hh;omega)
 have l2:=c2.1
 simp [t0,t1,t5,t6]
 refine Qd ?_ ?_<;>intro g
 ·have e1:∀[Inhabited Unit],IntKind.i64.wrap ((i:Int)+1)=((i+1:Nat):Int):=by intro _;rw [w64 (by omega) (by omega)];omega
  simp [t0,t1,t5,t6]
  refine Qc (D5 (frz:=frz) h2 hN d2 hf) ?_
  rintro _ H3 ⟨⟨p,rfl⟩,c3,d3⟩
  have o3:=o2.chg c3 (fun j hj hh=>by have:=nu j hj;simp at hh;omega)
  have l3:=c3.1
  obtain ⟨u',H4,hap,o4,c4,n4⟩:=o3.push (P:=Tryz.prog) (frz:=frz) (ty:=55) (a:=p) (by simp) rfl (by omega) (fun j hj=>by have:=nu j hj;omega)
  simp [-Qq,-Qz,t0,t1,t5,t6,pkV,Uj]
  simp only [Uj] at hap
  simp [-Qq,-Qz,t0,t1,t5,t6,hap]
  refine ih (9-(i+1)) _ _ ⟨i+1,u',xs++[p],rfl,by omega,by simp [t0],by simp [t1],by simp,?_,d3.chg c4 (fun hh=>by have:=nu _ hh;omega) (fun j hj hh=>by have:=nu j hh;have:=vlt j hj;omega),o4,by simp [hx],fun j hj=>?_,((ch.trans c2).trans c3).trans' c4 (fun j hj=>.inr (by have:=nu j hj;omega))⟩ (by omega)
  ·simp [t6];exact e1
  ·rcases n4 j hj with h1|h1
   ·exact nu j h1
   ·omega
 ·simp [t0,t1,t5,t6]
  exact ⟨xs,o2,by omega,fun j hj=>by have:=nu j hj;omega,ch.trans c2,d2⟩
def ActsD (H:Heap) (u:Value) (H':Heap):Prop:=∃(w h:Int) (v:ChipV) (lv:Value) (l:List PkD),u=.tuple #[dChip.val v (chipNew w h),lv]∧okG w h∧dChip.Ow H' v (chipNew w h)∧(∀i∈dChip.ids v,H.length≤i)∧(dChip.ids v).Nodup∧dAct.Ow H' lv l∧l.length≤9∧(∀i∈dAct.ids lv,H.length≤i)∧Chg H H' []
theorem Kd (vb:Value) (code:List Int) (hb:Rd Fl.u8 H vb code) (hl:code.length≤1073741824):wp (vcall C frz 24 [vb] H) (fun u H'=>ActsD H u H'):=by
 rw [Qb (fn:=Tryz.f24) Tryz.func24 rfl (by kernel_rfl) rfl]
 simp
 refine Qc (Ns vb code hb.app hl) ?_
 rintro _ K1 ⟨r,rfl,hr,c1,ch1⟩
 have cH1:Chg H K1 []:=(Chg.app []).trans ch1
 have bR:K1[H.length]? = some ⟨zChip,0,51⟩:=Qa (by simp [zChip]) ch1 (by simp)
 simp at hr
 simp
 refine Qc (Gu (frz:=H.length) c1 (by omega)) ?_
 rintro _ K2 ⟨⟨w,h,rfl,hg,hn2⟩,c2,d2⟩
 have bR:=Qa bR c2 (by simp;omega)
 have l1:=cH1.1
 have l2:=c2.1
 simp
 refine Qc (Jq w h) ?_
 rintro _ K3 ⟨_,rfl,v,rfl,ov,c3,m3,n3⟩
 have bR:=Qa bR c3 (by simp)
 have d3:Cur K3 r vb code:=d2.chg c3 (by simp) (by simp)
 have l3:=c3.1
 obtain ⟨a,ha⟩:∃a,a=chipNew w h:=⟨_,rfl⟩
 rw [← ha] at ov
 have ew:a.1.1=(w,h,[]):=by
  rw [ha]
  have e:chipNew w h=(netNew (w,h,[]) (splitT w h),[]):=if_pos hg
  rw [e]
  exact (P4 (m:=(w,h,[])) (t:=splitT w h) (U9 hg)).2.1
 have one:=Qu ov
 have o1:=one.1
 have o2:=one.2
 have ltv:∀i∈dChip.ids v,i<K3.length:=fun i hi=>dChip.lt ov i hi
 obtain ⟨K4,hK4⟩:∃K4,K4=K3++[⟨chipCells v a,0,51⟩]:=⟨_,rfl⟩
 have c4:Chg K3 K4 []:=by rw [hK4];exact Chg.app _
 have b4:K4[K3.length]? = some ⟨chipCells v a,0,51⟩:=by rw [hK4];simp
 have l4:K4.length=K3.length+1:=by rw [hK4];simp
 have bR:=Qa bR c4 (by simp)
 have d4:Cur K4 r vb code:=d3.chg c4 (by simp) (by simp)
 have ov4:=Dt.chg (T:=dChip) ov c4 (by simp)
 have hKs:=hK4.symm
 have b4':=b4
 unfold chipCells netCells at hKs b4'
 simp only [List.cons_append,List.nil_append] at hKs b4'
 have hF:H.length≤K3.length:=by omega
 simp [Qj,← ha,o1,o2,hF]
 rw [hKs]
 clear hK4 hKs
 obtain ⟨N,hN⟩:∃N:Nat,cnt w h=N:=⟨(cnt w h).toNat,by have:=Qh w h;omega⟩
 have cr:=Qh w h
 have ew1:a.1.1.1=w:=by rw [ew]
 have ew2:a.1.1.2.1=h:=by rw [ew]
 have lv:=Yx ov4
 rw [ew1,ew2] at lv
 rw [Z1 (fl:=([0],[8])) (h:=⟨by kernel_rfl,by kernel_rfl,by kernel_rfl,by kernel_rfl⟩)]
 have nc:=fun F H=>Q6 (frz:=F) (H:=H) w h
 rw [hN] at nc
 simp [emps,empOp,empB,VM.look,b4',o1,o2,lv,ew1,ew2,nc]
 refine Iy (G9 (N:=N) (by omega) (by omega) d4 (by omega)) ?_
 rintro lq K5 ⟨l,ol,hll,ml,c5,d5⟩
 have l5:=c5.1
 have ltr:=d2.lt
 have b5:=Qa b4 c5 (by simp;omega)
 have bR:=Qa bR c5 (by simp;omega)
 have ov5:=Dt.chg (T:=dChip) ov4 c5 (fun i hi hh=>by have:=m3 i hi;simp at hh;have:=d2.lt;omega)
 have lv5:=Yx ov5
 rw [ew1,ew2] at lv5
 have b5':=b5
 unfold chipCells netCells at b5'
 simp only [List.cons_append,List.nil_append] at b5'
 have onl:VM.one lq=true∧lq.cells=#[lq]:=⟨ol.rd.one',ol.rd.cells⟩
 refine ⟨by simp [VM.look,b5',o1,o2,lv5,ew1,ew2],?_⟩
 have gR:=Qg (r':=⟨chipCells v a,0,51⟩) bR
 have cS:Chg K5 (K5.set H.length ⟨chipCells v a,0,51⟩) [H.length]:=Qe _ _
 have ov6:=Dt.chg (T:=dChip) ov5 cS (fun i hi hh=>by have:=m3 i hi;simp at hh;omega)
 have ol6:=Ow.chg ol cS (fun i hi hh=>by have:=ml i hi;simp at hh;omega)
 have cE:Chg H (K5.set H.length ⟨chipCells v a,0,51⟩) []:=((((cH1.trans' c2 (fun i hi=>.inr (by simp at hi;omega))).trans c3).trans c4).trans' c5 (fun i hi=>.inr (by simp at hi;omega))).trans' cS (fun i hi=>.inr (by simp at hi;omega))
 have fin:ActsD H (.tuple #[dChip.val v a,lq]) (K5.set H.length ⟨chipCells v a,0,51⟩):=
  ⟨w,h,v,lq,l,by rw [ha],hg,by rw [← ha];exact ov6,fun i hi=>by have:=m3 i hi;omega,n3,⟨ol6,by omega⟩,hll,fun i hi=>by have:=ml i hi;omega,cE⟩
 simp only [Qj] at fin
 have bR':=bR
 unfold zChip at bR'
 unfold chipCells netCells at gR fin
 simp only [List.cons_append,List.nil_append] at gR fin
 rw [ew1,ew2] at gR
 simp [VM.look,b5',bR',gR,o1,o2,onl,ew1,ew2] at fin ⊢
 exact fin
end Go.Proofs.YtlhaeingdonaeaaGreat.V
set_option linter.all false
namespace Go.Proofs.YtlhaeingdonaeaaGreat.V
open Go Go.VM Go.Proofs
set_option maxRecDepth 10000
abbrev Key:=Int×Int×Int
def fkey (f:FlitD):Key:=(f.1,f.2.1,f.2.2.1)
def nx (f:FlitD):Option Key:=if f.2.2.2.2=true then none else some (fkey f)
def okf (s:Option Key) (f:FlitD):Prop:=(f.2.2.2.1=true∧s=none)∨(f.2.2.2.1=false∧s=some (fkey f))
def Str (s:Option Key):List FlitD→Option Key→Prop
 | [],s'=>s=s'
 | f::l,s'=>okf s f∧Str (nx f) l s'
theorem Str.app:∀{l m:List FlitD} {s t u:Option Key},Str s l t→Str t m u→Str s (l++m) u
 | [],m,s,t,u,h,k=>by obtain rfl:s=t:=h;exact k
 | f::l,m,s,t,u,h,k=>⟨h.1,Str.app h.2 k⟩
theorem Str.snoc {l:List FlitD} {s t:Option Key} {f:FlitD} (h:Str s l t) (k:okf t f):Str s (l++[f]) (nx f):=h.app ⟨k,rfl⟩
theorem Str.unsnoc:∀{l:List FlitD} {s u:Option Key} {f:FlitD},Str s (l++[f]) u→∃t,Str s l t∧okf t f∧u=nx f
 | [],s,u,f,h=>⟨s,rfl,h.1,h.2.symm⟩
 | g::l,s,u,f,h=>by
  obtain ⟨t,h1,h2,h3⟩:=Str.unsnoc (l:=l) h.2
  exact ⟨t,⟨h.1,h1⟩,h2,h3⟩
def isTail (f:FlitD):Bool:=f.2.2.2.2
def tailIds (l:List FlitD):List Int:=(l.filter isTail).map (·.1)
theorem Jz (l:List FlitD) (f:FlitD):∀i,i≤l.length→wpk (l++[f]) i=wpk l i
 | 0,_=>rfl
 | i+1,h=>by
  have ih:=Jz l f i (by omega)
  have hle:=(Sp l i).1
  have e:part (l++[f]) (wpk l i).2 i=part l (wpk l i).2 i:=by
   unfold part
   rw [List.drop_append_of_le_length (by omega),List.take_append_of_le_length (by rw [List.length_drop];omega)]
  have e2:(l++[f]).getD (wpk l i).2 flit0=l.getD (wpk l i).2 flit0:=by
   simp only [List.getD_eq_getElem?_getD]
   rw [List.getElem?_append_left (by omega)]
  unfold wpk
  rw [ih,e,e2]
def Open (k:Key) (l:List FlitD):Prop:=l≠[]∧∀i,i<l.length→l.getD i flit0=(k.1,k.2.1,k.2.2,decide ((i:Int)=0),false)
theorem Ly {k:Key} {l:List FlitD} {f:FlitD} (h:Open k l) (hf:f.2.2.2.1=false) (hk:fkey f=k):whole (l++[f])↔f.2.2.2.2=true:=by
 obtain ⟨h0,h1⟩:=h
 have hl:0<l.length:=List.length_pos_iff.2 h0
 have g0:(l++[f]).getD 0 flit0=l.getD 0 flit0:=by simp only [List.getD_eq_getElem?_getD];rw [List.getElem?_append_left hl]
 have gl:(l++[f]).getD l.length flit0=f:=by simp [List.getD_eq_getElem?_getD]
 obtain ⟨f1,f2,f3,f4,f5⟩:=f
 obtain ⟨k1,k2,k3⟩:=k
 simp [fkey] at hk hf
 obtain ⟨rfl,rfl,rfl⟩:=hk
 subst hf
 have q:=h1 0 hl
 constructor
 ·intro w
  have:=w.1 l.length (by simp)
  rw [gl] at this
  unfold wholeAt at this
  simp at this
  exact this.2.2.2.2
 ·intro e
  simp at e
  subst e
  refine ⟨fun i hi=>?_,by simp⟩
  simp at hi
  unfold wholeAt
  rw [g0,q]
  by_cases hi':i<l.length
  ·have e2:(l++[(f1,f2,f3,false,true)]).getD i flit0=l.getD i flit0:=by simp only [List.getD_eq_getElem?_getD];rw [List.getElem?_append_left hi']
   rw [e2,h1 i hi']
   simp;omega
  ·have e3:i=l.length:=by omega
   subst e3
   rw [gl]
   simp;omega
theorem Fk {k:Key} {l:List FlitD} {f:FlitD} (h:Open k l) (hf:f.2.2.2.1=false) (hk:fkey f=k) (ht:f.2.2.2.2=false):Open k (l++[f]):=by
 obtain ⟨h0,h1⟩:=h
 have hl:0<l.length:=List.length_pos_iff.2 h0
 have gl:(l++[f]).getD l.length flit0=f:=by simp [List.getD_eq_getElem?_getD]
 refine ⟨by simp,fun i hi=>?_⟩
 simp at hi
 by_cases hi':i<l.length
 ·have e2:(l++[f]).getD i flit0=l.getD i flit0:=by simp only [List.getD_eq_getElem?_getD];rw [List.getElem?_append_left hi']
  rw [e2,h1 i hi']
 ·have e3:i=l.length:=by omega
  subst e3
  rw [gl]
  obtain ⟨f1,f2,f3,f4,f5⟩:=f
  obtain ⟨k1,k2,k3⟩:=k
  simp [fkey] at hk hf ht
  obtain ⟨rfl,rfl,rfl⟩:=hk
  subst hf ht
  simp;omega
theorem Ex {f:FlitD} (hf:f.2.2.2.1=true) (ht:f.2.2.2.2=false):Open (fkey f) [f]:=by
 obtain ⟨f1,f2,f3,f4,f5⟩:=f
 simp at hf ht
 subst hf ht
 refine ⟨by simp,fun i hi=>?_⟩
 simp at hi
 subst hi
 rfl
theorem Gv {f:FlitD} (hf:f.2.2.2.1=true):whole [f]↔f.2.2.2.2=true:=by
 obtain ⟨f1,f2,f3,f4,f5⟩:=f
 simp at hf
 subst hf
 constructor
 ·intro w
  have:=w.1 0 (by simp)
  unfold wholeAt at this
  simp at this
  exact this
 ·intro e
  simp at e
  subst e
  refine ⟨fun i hi=>?_,by simp⟩
  simp at hi
  subst hi
  simp [wholeAt]
def WInv (l:List FlitD) (s:Option Key):Prop:=(wpk l l.length).1=tailIds l∧(s=none→(wpk l l.length).2=l.length)∧∀k,s=some k→Open k (l.drop (wpk l l.length).2)
theorem Vb (l:List FlitD) (f:FlitD):tailIds (l++[f])=if f.2.2.2.2=true then tailIds l++[f.1] else tailIds l:=by
 unfold tailIds isTail
 rw [List.filter_append,List.map_append]
 by_cases h:f.2.2.2.2=true<;>simp [h]
theorem Dq {l:List FlitD} {s:Option Key} {f:FlitD} (h:WInv l s) (k:okf s f):WInv (l++[f]) (nx f):=by
 obtain ⟨h1,h2,h3⟩:=h
 have hle:=(Sp l l.length).1
 have ep:part (l++[f]) (wpk l l.length).2 l.length=l.drop (wpk l l.length).2++[f]:=by
  unfold part
  rw [List.drop_append_of_le_length hle]
  apply List.take_of_length_le
  simp;omega
 have e0:(l++[f]).length=l.length+1:=by simp
 have ew:wpk (l++[f]) (l++[f]).length=if whole (l.drop (wpk l l.length).2++[f]) then ((wpk l l.length).1++[((l++[f]).getD (wpk l l.length).2 flit0).1],l.length+1) else wpk l l.length:=by
  rw [e0]
  conv=>lhs;unfold wpk
  rw [Jz l f l.length (by omega),ep]
 have hid:(s=none→((l++[f]).getD (wpk l l.length).2 flit0).1=f.1)∧(∀k,s=some k→fkey f=k→((l++[f]).getD (wpk l l.length).2 flit0).1=f.1):=by
  refine ⟨fun e=>?_,fun k e ek=>?_⟩
  ·rw [h2 e];simp [List.getD_eq_getElem?_getD]
  ·have o:=h3 k e
   have hl:0<(l.drop (wpk l l.length).2).length:=List.length_pos_iff.2 o.1
   have:=o.2 0 hl
   simp only [List.getD_eq_getElem?_getD,List.getElem?_drop] at this
   rw [List.length_drop] at hl
   simp only [List.getD_eq_getElem?_getD]
   rw [List.getElem?_append_left (by omega)]
   rw [Nat.add_zero] at this
   rw [this]
   show k.1=f.1
   rw [← ek];rfl
 have hw:whole (l.drop (wpk l l.length).2++[f])↔f.2.2.2.2=true:=by
  rcases k with ⟨k1,k2⟩|⟨k1,k2⟩
  ·rw [h2 k2,List.drop_length];exact Gv k1
  ·exact Ly (h3 _ k2) k1 rfl
 have hi:((l++[f]).getD (wpk l l.length).2 flit0).1=f.1:=by
  rcases k with ⟨k1,k2⟩|⟨k1,k2⟩
  ·exact hid.1 k2
  ·exact hid.2 _ k2 rfl
 unfold WInv
 rw [ew,Vb]
 by_cases ht:f.2.2.2.2=true
 ·rw [if_pos (hw.2 ht),if_pos ht,hi,h1]
  unfold nx
  rw [if_pos ht]
  exact ⟨rfl,fun _=>by simp,fun k e=>by simp at e⟩
 ·rw [if_neg (fun e=>ht (hw.1 e)),if_neg ht,h1]
  have ht':f.2.2.2.2=false:=by simpa using ht
  unfold nx
  rw [if_neg ht]
  refine ⟨rfl,fun e=>by simp at e,fun k' e=>?_⟩
  obtain rfl:fkey f=k':=by simpa using e
  rw [List.drop_append_of_le_length hle]
  rcases k with ⟨k1,k2⟩|⟨k1,k2⟩
  ·rw [h2 k2,List.drop_length];exact Ex k1 ht'
  ·exact Fk (h3 _ k2) k1 rfl ht'
theorem Lf {P:List FlitD→Prop} (h0:P []) (h1:∀l f,P l→P (l++[f])) (l:List FlitD):P l:=by
 rw [← List.reverse_reverse l]
 induction l.reverse with
 | nil=>exact h0
 | cons f m ih=>rw [List.reverse_cons];exact h1 _ _ ih
theorem winv (l:List FlitD):∀s,Str none l s→WInv l s:=by
 induction l using Lf with
 | h0=>intro s h;obtain rfl:none=s:=h;exact ⟨rfl,fun _=>rfl,fun k e=>by simp at e⟩
 | h1 l f ih=>
  intro s h
  obtain ⟨t,h1,h2,rfl⟩:=h.unsnoc
  exact Dq (ih t h1) h2
theorem Nm (l:List FlitD):∀s,Str none l s→wholePk (trim l)=tailIds l:=by
 induction l using Lf with
 | h0=>intro s h;rfl
 | h1 l f ih=>
  intro s h
  obtain ⟨t,h1,h2,rfl⟩:=h.unsnoc
  rw [Py]
  by_cases ht:f.2.2.2.2=true
  ·rw [if_pos ht]
   obtain ⟨w1,w2,_⟩:=winv (l++[f]) _ h
   have:=w2 (by unfold nx;rw [if_pos ht])
   unfold wholePk
   rw [if_neg (by omega),w1]
  ·rw [if_neg ht,Vb,if_neg ht]
   exact ih t h1
def tabC (x:NetD) (c:Nat):List Int:=if c=1 then x.2.1.2 else x.2.1.1
def pO (x:NetD) (a c:Nat) (t:Int):Int:=portOf x.1.1 x.1.2.1 (tabC x c) a t
def hasP (x:NetD) (a p:Nat):Prop:=has x.1.1 x.1.2.1 x.1.2.2 (4*(a:Int)+p)
def nC (x:NetD):Nat:=(cnt x.1.1 x.1.2.1).toNat
theorem Im (x:NetD):(nC x:Int)=cnt x.1.1 x.1.2.1:=by have:=Qh x.1.1 x.1.2.1;unfold nC;omega
def inc (s:Option Key) (c:Nat):Option Key:=match s with
 | some k=>if k.2.2=(c:Int) then some k else none
 | none=>none
def setF (f:Nat→Option Key) (i:Nat) (v:Option Key):Nat→Option Key:=fun n=>if n=i then v else f n
theorem Xx (f:Nat→Option Key) (i:Nat) (v:Option Key):setF f i v i=v:=if_pos rfl
theorem Xh (f:Nat→Option Key) {i j:Nat} (v:Option Key) (h:j≠i):setF f i v j=f j:=if_neg h
structure Wf (x:NetD) (B:SSD) (O:List Int) (A S:SSD) (st fr sr:Nat→Option Key):Prop where
 o1:∀a p c,a<nC x→p<5→c<2→O.getD (outAt a p c) 0=-1→st (outAt a p c)=none
 o2:∀a p c (q:Nat),a<nC x→p<5→c<2→q<5→O.getD (outAt a p c) 0=(q:Int)→∃k:Key,st (outAt a p c)=some k∧fr (10*a+2*q+c)=some k∧pO x a c k.2.1=(p:Int)
 o3:∀a (q:Nat) c k,a<nC x→q<5→c<2→fr (10*a+2*q+c)=some k→∃p,p<5∧O.getD (outAt a p c) 0=(q:Int)
 w4:∀a p c,a<nC x→p<4→c<2→hasP x a p→Str (fr (tgt x a p c)) (B.getD (tgt x a p c) []) (st (outAt a p c))
 w5:∀k c,k<nC x→c<2→Str (fr (10*k+8+c)) (B.getD (10*k+8+c) []) (inc (sr k) c)
 w6:∀k,k<nC x→Str (sr k) (S.getD k []) none
 w7:∀t c:Nat,t<nC x→c<2→Str none ((A.getD t []).filter fun f=>f.2.2.1=(c:Int)) (st (outAt t 4 c))
def mvB (x:NetD) (B:SSD) (a p i:Nat) (f:FlitD):SSD:=if p=4 then upd B (10*a+i) (List.drop 1) else upd (upd B (10*a+i) (List.drop 1)) (tgt x a p (i%2)) (·++[f])
def mvA (A:SSD) (a p:Nat) (f:FlitD):SSD:=if p=4 then upd A a (·++[f]) else A
def mvO (O:List Int) (a p i:Nat) (f:FlitD):List Int:=O.set (outAt a p (i%2)) (if f.2.2.2.2 then -1 else ((i/2:Nat):Int))
theorem Oc {a p c a' p' c':Nat} (hp:p<5) (hp':p'<5) (hc:c<2) (hc':c'<2) (e:outAt a p c=outAt a' p' c'):a=a'∧p=p'∧c=c':=by
 unfold outAt at e;omega
theorem setO {O:List Int} {i j:Nat} {v:Int} (h:i<O.length):(O.set i v).getD j 0=if i=j then v else O.getD j 0:=by
 simp only [List.getD_eq_getElem?_getD,List.getElem?_set]
 split
 ·rename_i e;subst e;simp [h]
 ·rfl
theorem Vt {x:NetD} {a p c:Nat} (h:hasP x a p) (hp:p<4) (hc:c<2):tgt x a p c<10*nC x∧tgt x a p c%2=c∧((tgt x a p c/10:Nat):Int)=next x.1.1 x.1.2.1 a p∧tgt x a p c%10<8:=by
 obtain ⟨h1,h2,h3⟩:=Y8 (c:=c) h hp hc
 obtain ⟨_,h4,h5⟩:=Sc (c:=c) h hp
 have:=Im x
 generalize next x.1.1 x.1.2.1 a p=N at *
 generalize opp p=Op at *
 omega
theorem Str.pop {s u:Option Key} {f:FlitD} {r:List FlitD} (h:Str s (f::r) u):okf s f∧Str (nx f) r u:=h
theorem Lz {s:Option Key} {f:FlitD} {k:Key} (h:okf s f) (e:s=some k):f.2.2.2.1=false∧k=fkey f:=by
 rcases h with ⟨_,h⟩|⟨h1,h⟩
 ·rw [h] at e;simp at e
 ·rw [h] at e;exact ⟨h1,by simpa using e.symm⟩
theorem Ok {f:FlitD} {k:Key} (h:nx f=some k):f.2.2.2.2=false∧k=fkey f:=by
 unfold nx at h
 by_cases e:f.2.2.2.2=true
 ·rw [if_pos e] at h;simp at h
 ·rw [if_neg e] at h;exact ⟨by simpa using e,by simpa using h.symm⟩
structure Can (x:NetD) (B:SSD) (O:List Int) (a p i:Nat) (f:FlitD) (r:List FlitD):Prop where
 ha:a<nC x
 hp:p<5
 hi:i<10
 hj:B.getD (10*a+i) []=f::r
 hd:f.2.2.2.1=true→pO x a (i%2) f.2.1=(p:Int)∧O.getD (outAt a p (i%2)) 0=-1
 bd:f.2.2.2.1=false→O.getD (outAt a p (i%2)) 0=((i/2:Nat):Int)
 room:p=4∨hasP x a p
theorem Wf.move {x:NetD} {B:SSD} {O:List Int} {A S:SSD} {st fr sr:Nat→Option Key} (w:Wf x B O A S st fr sr) (hl:B.length=10*nC x) (hO:O.length=10*nC x) (hA:A.length=nC x)
 (hc:allP (fun j f=>f.2.2.1=(j:Int)%2) B) {a p i:Nat} {f:FlitD} {r:List FlitD} (k:Can x B O a p i f r) (hs:∃u,Str (fr (10*a+i)) (f::r) u) :
 pO x a (i%2) f.2.1=(p:Int)∧∃st' fr',Wf x (mvB x B a p i f) (mvO O a p i f) (mvA A a p f) S st' fr' sr:=by
 obtain ⟨ha,hp,hi,hj,hd,bd,room⟩:=k
 obtain ⟨u,hu⟩:=hs
 have o0:=hu.pop.1
 have ei:10*a+2*(i/2)+i%2=10*a+i:=by omega
 have hij:10*a+i<B.length:=by omega
 have hoL:outAt a p (i%2)<O.length:=by unfold outAt;omega
 have hport:pO x a (i%2) f.2.1=(p:Int):=by
  cases e:f.2.2.2.1 with
  | true=>exact (hd e).1
  | false=>
   obtain ⟨k,_,k2,k3⟩:=w.o2 a p (i%2) (i/2) ha hp (by omega) (by omega) (bd e)
   rw [ei] at k2
   obtain ⟨_,rfl⟩:=Lz o0 k2
   exact k3
 have okst:okf (st (outAt a p (i%2))) f:=by
  cases e:f.2.2.2.1 with
  | true=>exact .inl ⟨e,w.o1 a p (i%2) ha hp (by omega) (hd e).2⟩
  | false=>
   obtain ⟨k,k1,k2,_⟩:=w.o2 a p (i%2) (i/2) ha hp (by omega) (by omega) (bd e)
   rw [ei] at k2
   obtain ⟨_,rfl⟩:=Lz o0 k2
   exact .inr ⟨e,k1⟩
 -- whose output leads from this input
 have only:∀p',p'<5→O.getD (outAt a p' (i%2)) 0=((i/2:Nat):Int)→p'=p:=fun p' hp' e=>by
  obtain ⟨k,_,k2,k3⟩:=w.o2 a p' (i%2) (i/2) ha hp' (by omega) (by omega) e
  rw [ei] at k2
  obtain ⟨_,rfl⟩:=Lz o0 k2
  have:(p':Int)=p:=k3.symm.trans hport
  omega
 have own:∀q:Nat,q<5→O.getD (outAt a p (i%2)) 0=(q:Int)→q=i/2:=fun q hq e=>by
  cases e2:f.2.2.2.1 with
  | true=>rw [(hd e2).2] at e;omega
  | false=>rw [bd e2] at e;omega
 have tl:f.2.2.2.2=true→nx f=none:=fun e=>by unfold nx;rw [if_pos e]
 have tn:f.2.2.2.2=false→nx f=some (fkey f):=fun e=>by unfold nx;rw [if_neg (by simp [e])]
 refine ⟨hport,setF st (outAt a p (i%2)) (nx f),setF fr (10*a+i) (nx f),?_⟩
 -- the streams after the pop
 have pops:∀j s,Str (fr j) (B.getD j []) s→Str (setF fr (10*a+i) (nx f) j) ((upd B (10*a+i) (List.drop 1)).getD j []) s:=fun j s h=>by
  by_cases e:j=10*a+i
  ·subst e
   rw [Xx,W3 _ hij,hj]
   rw [hj] at h
   exact h.pop.2
  ·rw [Xh _ _ e,Wk _ (fun h=>e h.symm)];exact h
 have same:∀j,(p=4∨j≠tgt x a p (i%2))→(mvB x B a p i f).getD j []=(upd B (10*a+i) (List.drop 1)).getD j []:=fun j h=>by
  unfold mvB
  split
  ·rfl
  ·rename_i hp4
   rw [Wk _ (fun e=>(h.resolve_left hp4) e.symm)]
 constructor
 ·intro a' p' c' h1 h2 h3 h4
  unfold mvO at h4
  rw [setO hoL] at h4
  by_cases e:outAt a p (i%2)=outAt a' p' c'
  ·rw [if_pos e] at h4
   rw [← e,Xx]
   by_cases ht:f.2.2.2.2=true
   ·exact tl ht
   ·rw [if_neg ht] at h4;omega
  ·rw [if_neg e] at h4
   rw [Xh _ _ (fun h=>e h.symm)]
   exact w.o1 a' p' c' h1 h2 h3 h4
 ·intro a' p' c' q h1 h2 h3 h4 h5
  unfold mvO at h5
  rw [setO hoL] at h5
  by_cases e:outAt a p (i%2)=outAt a' p' c'
  ·rw [if_pos e] at h5
   obtain ⟨rfl,rfl,rfl⟩:=Oc hp h2 (by omega) h3 e
   by_cases ht:f.2.2.2.2=true
   ·rw [if_pos ht] at h5;omega
   ·rw [if_neg ht] at h5
    have eq:q=i/2:=by omega
    subst eq
    rw [Xx,ei,Xx]
    exact ⟨fkey f,tn (by simpa using ht),tn (by simpa using ht),hport⟩
  ·rw [if_neg e] at h5
   rw [Xh _ _ (fun h=>e h.symm)]
   obtain ⟨k,k1,k2,k3⟩:=w.o2 a' p' c' q h1 h2 h3 h4 h5
   refine ⟨k,k1,?_,k3⟩
   rw [Xh _ _ ?_]
   ·exact k2
   ·intro ej
    have e1:a'=a:=by omega
    have e2:c'=i%2:=by omega
    have e3:q=i/2:=by omega
    subst e1 e2 e3
    exact e (by rw [only p' h2 h5])
 ·intro a' q c' k h1 h2 h3 h4
  by_cases ej:10*a'+2*q+c'=10*a+i
  ·have e1:a'=a:=by omega
   have e2:c'=i%2:=by omega
   have e3:q=i/2:=by omega
   subst e1 e2 e3
   rw [ej,Xx] at h4
   obtain ⟨ht,_⟩:=Ok h4
   refine ⟨p,hp,?_⟩
   unfold mvO
   rw [setO hoL,if_pos rfl,if_neg (by simp [ht])]
  ·rw [Xh _ _ ej] at h4
   obtain ⟨p',k1,k2⟩:=w.o3 a' q c' k h1 h2 h3 h4
   refine ⟨p',k1,?_⟩
   unfold mvO
   rw [setO hoL,if_neg ?_]
   ·exact k2
   ·intro e
    obtain ⟨rfl,rfl,rfl⟩:=Oc hp k1 (by omega) h3 e
    have:=own q h2 k2
    omega
 ·intro a' p' c' h1 h2 h3 h4
  have:=pops _ _ (w.w4 a' p' c' h1 h2 h3 h4)
  by_cases e:outAt a p (i%2)=outAt a' p' c'
  ·obtain ⟨rfl,rfl,rfl⟩:=Oc hp (by omega) (by omega) h3 e
   rw [Xx]
   have hp4:¬p=4:=by omega
   unfold mvB
   rw [if_neg hp4]
   have ht:=(Vt (c:=i%2) h4 h2 h3).1
   rw [W3 _ (by rw [U2];omega)]
   exact this.snoc okst
  ·rw [Xh _ _ (fun h=>e h.symm)]
   rw [same]
   ·exact this
   ·by_cases hp4:p=4
    ·exact .inl hp4
    ·refine .inr fun et=>e ?_
     have nn:=Im x
     obtain ⟨rfl,rfl⟩:=Cy h4 (room.resolve_left hp4) h2 (by omega) h3 (by omega) (by omega) (by omega) et
     have t1:=(Vt (c:=c') h4 h2 h3).2.1
     have t2:=(Vt (c:=i%2) h4 h2 (by omega)).2.1
     rw [et] at t1
     rw [t2] at t1
     rw [t1]
 ·intro k c h1 h2
  have:=pops _ _ (w.w5 k c h1 h2)
  rw [same]
  ·exact this
  ·by_cases hp4:p=4
   ·exact .inl hp4
   ·refine .inr fun et=>?_
    have:=(Vt (c:=i%2) (room.resolve_left hp4) (by omega) (by omega)).2.2.2
    omega
 ·exact w.w6
 ·intro t c h1 h2
  have h7:=w.w7 t c h1 h2
  unfold mvA
  by_cases hp4:p=4
  ·rw [if_pos hp4]
   subst hp4
   by_cases ea:a=t
   ·subst ea
    rw [W3 _ (by omega),List.filter_append]
    have cl:=hc (10*a+i) f (by rw [hj];exact List.mem_cons_self ..)
    by_cases ec:i%2=c
    ·subst ec
     rw [Xx]
     have e1:List.filter (fun f:FlitD=>decide (f.2.2.1=((i%2:Nat):Int))) [f]=[f]:=by
      rw [List.filter_cons_of_pos (by simp;omega)];rfl
     rw [e1]
     exact h7.snoc okst
    ·have e1:List.filter (fun f:FlitD=>decide (f.2.2.1=(c:Int))) [f]=[]:=by
      rw [List.filter_cons_of_neg (by simp;omega)];rfl
     rw [e1,List.append_nil,Xh _ _ (fun e=>by unfold outAt at e;omega)]
     exact h7
   ·rw [Wk _ ea,Xh _ _ (fun e=>by unfold outAt at e;omega)]
    exact h7
  ·rw [if_neg hp4,Xh _ _ (fun e=>by unfold outAt at e;omega)]
   exact h7
theorem Wf.enter {x:NetD} {B:SSD} {O:List Int} {A S:SSD} {st fr sr:Nat→Option Key} (w:Wf x B O A S st fr sr) (hl:B.length=10*nC x) (hS:S.length=nC x) {k c:Nat} {f:FlitD} {r:List FlitD} (hk:k<nC x) (hc:c<2) (ec:f.2.2.1=(c:Int)) (hj:S.getD k []=f::r) :
 ∃sr',Wf x (upd B (10*k+8+c) (·++[f])) O A (upd S k (List.drop 1)) st fr sr':=by
 have h6:=w.w6 k hk
 rw [hj] at h6
 obtain ⟨o0,h6'⟩:=h6.pop
 refine ⟨setF sr k (nx f),w.o1,w.o2,w.o3,fun a' p' c' h1 h2 h3 h4=>?_,fun k' c' h1 h2=>?_,fun k' h1=>?_,w.w7⟩
 ·rw [Wk _ (fun e=>by have:=(Vt (c:=c') h4 h2 h3).2.2.2;omega)]
  exact w.w4 a' p' c' h1 h2 h3 h4
 ·have h5:=w.w5 k' c' h1 h2
  by_cases e:k'=k
  ·subst e
   rw [Xx]
   by_cases e2:c'=c
   ·subst e2
    rw [W3 _ (by omega)]
    have ok:okf (inc (sr k') c') f:=by
     rcases o0 with ⟨h,e⟩|⟨h,e⟩
     ·rw [e];exact .inl ⟨h,rfl⟩
     ·rw [e];refine .inr ⟨h,?_⟩
      show (if (fkey f).2.2=(c':Int) then some (fkey f) else none)=_
      rw [if_pos (show (fkey f).2.2=(c':Int) from ec)]
    have en:inc (nx f) c'=nx f:=by
     cases hn:nx f with
     | none=>rfl
     | some k0=>
      obtain ⟨_,rfl⟩:=Ok hn
      show (if (fkey f).2.2=(c':Int) then some (fkey f) else none)=_
      rw [if_pos (show (fkey f).2.2=(c':Int) from ec)]
    rw [en]
    exact h5.snoc ok
   ·rw [Wk _ (by omega)]
    have hne:¬(fkey f).2.2=(c':Int):=fun e=>by have e:f.2.2.1=(c':Int):=e;omega
    have e0:inc (sr k') c'=none:=by
     rcases o0 with ⟨h,e⟩|⟨h,e⟩
     ·rw [e];rfl
     ·rw [e];exact if_neg hne
    have en:inc (nx f) c'=none:=by
     cases hn:nx f with
     | none=>rfl
     | some k0=>obtain ⟨_,rfl⟩:=Ok hn;exact if_neg hne
    rw [en];rw [e0] at h5;exact h5
  ·rw [Xh _ _ e,Wk _ (by omega)];exact h5
 ·by_cases e:k'=k
  ·subst e
   rw [Xx,W3 _ (by omega),hj];exact h6'
  ·rw [Xh _ _ e,Wk _ (fun h=>e h.symm)];exact w.w6 k' h1
def itN (g:Int→Int):Nat→Int→Int
 | 0,a=>a
 | n+1,a=>g (itN g n a)
theorem Sy (g:Int→Int):∀n a,itN g (n+1) a=itN g n (g a)
 | 0,a=>rfl
 | n+1,a=>by show g (itN g (n+1) a)=g (itN g n (g a));rw [Sy g n a]
theorem Ng (g:Int→Int) (m:Nat):∀n a,itN g (n+m) a=itN g n (itN g m a)
 | 0,a=>by rw [Nat.zero_add];rfl
 | n+1,a=>by rw [Nat.add_right_comm];show g (itN g (n+m) a)=g (itN g n (itN g m a));rw [Ng g m n a]
def nuT (w h:Int) (T:List Int) (to a:Int):Int:=next w h a (portOf w h T a to)
theorem V8 (w h:Int) (b T:List Int) (to:Int):∀F a out,walkN w h b T to F a out≠[]→∃L,itN (nuT w h T to) L a=to∧∀n,n<L→stepOk w h b T (itN (nuT w h T to) n a) to
 | 0,a,out,hne=>by
  unfold walkN at hne
  by_cases e:portOf w h T a to=4
  ·rw [if_pos e] at hne
   by_cases e2:a=to
   ·exact ⟨0,e2,fun n h=>by omega⟩
   ·rw [if_neg e2] at hne;exact absurd rfl hne
  ·rw [if_neg e] at hne;exact absurd rfl hne
 | F+1,a,out,hne=>by
  unfold walkN at hne
  by_cases e:portOf w h T a to=4
  ·rw [if_pos e] at hne
   by_cases e2:a=to
   ·exact ⟨0,e2,fun n h=>by omega⟩
   ·rw [if_neg e2] at hne;exact absurd rfl hne
  ·rw [if_neg e] at hne
   by_cases e2:stepOk w h b T a to
   ·rw [if_pos e2] at hne
    obtain ⟨L,h1,h2⟩:=V8 w h b T to F _ _ hne
    refine ⟨L+1,by rw [Sy];exact h1,fun n hn=>?_⟩
    cases n with
    | zero=>exact e2
    | succ n=>rw [Sy];exact h2 n (by omega)
   ·rw [if_neg e2] at hne;exact absurd rfl hne
structure Route (x:NetD) (s t c:Nat) (R:Nat→Nat) (L:Nat):Prop where
 r0:R 0=10*s+8+c
 rt:R L/10=t
 rs:∀n,n<L→∃p:Nat,p<4∧pO x (R n/10) c t=(p:Int)∧R (n+1)=tgt x (R n/10) p c
 r4:pO x t c t=4
 inj:∀m n,m≤L→n≤L→R m=R n→m=n
 md:∀n,n≤L→R n%2=c
 lt:∀n,n≤L→R n<10*nC x
def tabsOk (x:NetD):Prop:=∀c,c<2→tableOk x.1.1 x.1.2.1 x.1.2.2 (tabC x c)
theorem G8 {x:NetD} (h:classesOk x.1.1 x.1.2.1 x.1.2.2 x.2.1.1 x.2.1.2):tabsOk x:=fun c _=>by
 unfold tabC;split
 ·exact h.2
 ·exact h.1
theorem Gy {x:NetD} (h:tabsOk x) {t c:Nat} (ht:t<nC x) (hc:c<2):pO x t c t=4:=((h c hc).2 t ht t ht).1 rfl
theorem Bf {x:NetD} (h:tabsOk x) {a t c:Nat} (ha:a<nC x) (ht:t<nC x) (hc:c<2) (e:pO x a c t=4):a=t:=by
 by_cases g:a=t
 ·exact g
 ·have:=((h c hc).2 a ha t ht).2 g
  have e':portOf x.1.1 x.1.2.1 (tabC x c) a t=4:=e
  unfold walk at this
  exfalso
  apply this
  cases hk:(cnt x.1.1 x.1.2.1).toNat with
  | zero=>unfold walkN;rw [if_pos e',if_neg (by omega)]
  | succ n=>unfold walkN;rw [if_pos e',if_neg (by omega)]
theorem Ch {x:NetD} (h:tabsOk x) {s t c:Nat} (hs:s<nC x) (ht:t<nC x) (hc:c<2):∃R L,Route x s t c R L:=by
 have hn:=Im x
 have h4:=Gy h ht hc
 have key:∃L,itN (nuT x.1.1 x.1.2.1 (tabC x c) t) L s=t∧∀n,n<L→stepOk x.1.1 x.1.2.1 x.1.2.2 (tabC x c) (itN (nuT x.1.1 x.1.2.1 (tabC x c) t) n s) t:=by
  by_cases e:s=t
  ·exact ⟨0,by show (s:Int)=t;rw [e],fun n hn=>by omega⟩
  ·exact V8 _ _ _ _ _ _ _ _ (((h c hc).2 s hs t ht).2 e)
 obtain ⟨L,h1,h2⟩:=key
 generalize hg:nuT x.1.1 x.1.2.1 (tabC x c) t=g at *
 have hN:∀n,n≤L→0≤itN g n s∧itN g n s<nC x:=fun n hn'=>by
  cases n with
  | zero=>show 0≤(s:Int)∧(s:Int)<nC x;omega
  | succ n=>
   obtain ⟨k1,k2⟩:=h2 n (by omega)
   obtain ⟨_,_,k3,k4⟩:=X3 k1 k2
   have e:itN g (n+1) s=next x.1.1 x.1.2.1 (itN g n s) (portOf x.1.1 x.1.2.1 (tabC x c) (itN g n s) t):=by
    show g (itN g n s)=_
    rw [← hg];rfl
   rw [e];exact ⟨k3,by omega⟩
 have hne:∀n,n<L→itN g n s≠t:=fun n hn' e=>by
  have k1:=(h2 n hn').1
  rw [e] at k1
  have h4':portOf x.1.1 x.1.2.1 (tabC x c) t t=4:=h4
  rw [h4'] at k1
  unfold inR at k1;omega
 have hinj:∀m n,m<n→n≤L→itN g m s≠itN g n s:=fun m n hm hn' e=>by
  have e1:itN g (L-n+m) s=itN g (L-n+n) s:=by rw [Ng g m,Ng g n,e]
  rw [show L-n+n=L by omega,h1] at e1
  exact hne (L-n+m) (by omega) e1
 -- the buffers
 have hR:∃R:Nat→Nat,R 0=10*s+8+c∧∀n,R (n+1)=(10*itN g (n+1) s+2*opp (portOf x.1.1 x.1.2.1 (tabC x c) (itN g n s) t)+c).toNat:=
  ⟨fun n=>match n with|0=>10*s+8+c|n+1=>(10*itN g (n+1) s+2*opp (portOf x.1.1 x.1.2.1 (tabC x c) (itN g n s) t)+c).toNat,rfl,fun n=>rfl⟩
 obtain ⟨R,R0,RS⟩:=hR
 have hopp:∀n,n<L→0≤opp (portOf x.1.1 x.1.2.1 (tabC x c) (itN g n s) t)∧opp (portOf x.1.1 x.1.2.1 (tabC x c) (itN g n s) t)<4:=fun n hn'=>by
  have k1:=(h2 n hn').1
  unfold inR at k1
  unfold opp
  rw [if_neg (by omega),if_pos (by omega)]
  omega
 have hdiv:∀n,n≤L→((R n/10:Nat):Int)=itN g n s∧R n%2=c∧R n<10*nC x:=fun n hn'=>by
  cases n with
  | zero=>
   rw [R0]
   have:itN g 0 s=(s:Int):=rfl
   rw [this];omega
  | succ n=>
   rw [RS]
   have k1:=hopp n (by omega)
   have k2:=hN (n+1) hn'
   generalize opp (portOf x.1.1 x.1.2.1 (tabC x c) (itN g n s) t)=Op at *
   generalize itN g (n+1) s=N at *
   omega
 refine ⟨R,L,R0,?_,fun n hn'=>?_,h4,fun m n hm hn' e=>?_,fun n hn'=>(hdiv n hn').2.1,fun n hn'=>(hdiv n hn').2.2⟩
 ·have:=(hdiv L (by omega)).1
  rw [h1] at this;omega
 ·obtain ⟨k1,k2⟩:=h2 n hn'
  have e:=(hdiv n (by omega)).1
  unfold inR at k1
  refine ⟨(portOf x.1.1 x.1.2.1 (tabC x c) (itN g n s) t).toNat,by omega,?_,?_⟩
  ·unfold pO;rw [e];omega
  ·rw [RS]
   unfold tgt
   have e2:(((portOf x.1.1 x.1.2.1 (tabC x c) (itN g n s) t).toNat:Nat):Int)=portOf x.1.1 x.1.2.1 (tabC x c) (itN g n s) t:=by omega
   rw [e,e2]
   have e3:itN g (n+1) s=next x.1.1 x.1.2.1 (itN g n s) (portOf x.1.1 x.1.2.1 (tabC x c) (itN g n s) t):=by
    show g (itN g n s)=_
    rw [← hg];rfl
   rw [e3]
 ·have a1:=(hdiv m hm).1
  have a2:=(hdiv n hn').1
  rw [e,a2] at a1
  rcases Nat.lt_trichotomy m n with k|k|k
  ·exact absurd a1.symm (hinj m n k hn')
  ·exact k
  ·exact absurd a1 (hinj n m k hm)
def cat (g:Nat→List FlitD):Nat→List FlitD
 | 0=>g 0
 | n+1=>g (n+1)++cat g n
theorem Z9 {g g':Nat→List FlitD}:∀L,(∀n,n≤L→g' n=g n)→cat g' L=cat g L
 | 0,h=>h 0 (by omega)
 | L+1,h=>by unfold cat;rw [h (L+1) (by omega),Z9 L (fun n hn=>h n (by omega))]
theorem Il {g g':Nat→List FlitD} {y:FlitD}:∀n,g n=y::g' n→(∀m,m<n→g' m=g m)→cat g n=y::cat g' n
 | 0,h,_=>h
 | n+1,h,k=>by unfold cat;rw [h,Z9 n (fun m hm=>k m (by omega))];rfl
theorem Iq {g g':Nat→List FlitD} {y:FlitD} (h:g' 0=g 0++[y]):∀L,(∀m,0<m→m≤L→g' m=g m)→cat g' L=cat g L++[y]
 | 0,_=>h
 | L+1,k=>by unfold cat;rw [k (L+1) (by omega) (by omega),Iq h L (fun m hm hl=>k m hm (by omega)),List.append_assoc]
theorem Mb {g g':Nat→List FlitD} {y:FlitD} {n:Nat} (h1:g n=y::g' n) (h2:g' (n+1)=g (n+1)++[y]):∀L,n<L→(∀m,m≤L→m≠n→m≠n+1→g' m=g m)→cat g' L=cat g L
 | 0,h,_=>by omega
 | L+1,h,k=>by
  by_cases e:L=n
  ·subst e
   have:=Il (g:=g) (g':=g') L h1 (fun m hm=>k m (by omega) (by omega) (by omega))
   unfold cat
   rw [h2,this,List.append_assoc];rfl
  ·unfold cat
   rw [k (L+1) (by omega) (by omega) (by omega),Mb h1 h2 L (by omega) (fun m hm=>k m (by omega))]
def inF (list:List PkD) (s t c:Nat) (y:FlitD):Bool:=decide (sentP list y.1 s t c)
def flowFl (x:NetD) (list:List PkD) (s t c:Nat):List FlitD:=(list.filter fun p=>isFlow s t c p).flatMap (flitsOf x.1.1 x.1.2.1)
def Gen (list:List PkD) (y:FlitD):Prop:=∃p∈list,p.1=y.1∧p.2.2.1=y.2.1∧p.2.2.2.1=y.2.2.1
def Uniq (list:List PkD):Prop:=∀p∈list,∀q∈list,p.1=q.1→p=q
theorem L3 {list:List PkD} (u:Uniq list) {y:FlitD} (g:Gen list y) {s t c:Nat} (h:inF list s t c y=true):y.2.1=(t:Int)∧y.2.2.1=(c:Int):=by
 obtain ⟨p,hp,e1,e2,e3⟩:=g
 have h:sentP list y.1 s t c:=by simpa [inF] using h
 obtain ⟨q,hq,f1,f2,f3,f4⟩:=h
 have:=u p hp q hq (e1.trans f1.symm)
 subst this
 exact ⟨e2.symm.trans f3,e3.symm.trans f4⟩
structure Flow (x:NetD) (list:List PkD) (B A S:SSD) (s t c:Nat) (R:Nat→Nat) (L:Nat):Prop where
 z1:(A.getD t []).filter (inF list s t c)++(cat (fun n=>(B.getD (R n) []).filter (inF list s t c)) L++(S.getD s []).filter (inF list s t c))=flowFl x list s t c
 z2:∀j y,y∈B.getD j []→inF list s t c y=true→∃n,n≤L∧j=R n
 z3:∀k y,y∈S.getD k []→inF list s t c y=true→k=s
theorem An {B:SSD} {j:Nat} {y:FlitD} {r:List FlitD} (hj:B.getD j []=y::r):j<B.length:=by
 by_cases h:j<B.length
 ·exact h
 ·simp [List.getD_eq_getElem?_getD,List.getElem?_eq_none (Nat.le_of_not_lt h)] at hj
theorem Si {B:SSD} {j:Nat} {y:FlitD} {r:List FlitD} {P:FlitD→Bool} (hj:B.getD j []=y::r) (hP:P y=false) (j':Nat):((upd B j (List.drop 1)).getD j' []).filter P=(B.getD j' []).filter P:=by
 by_cases e:j=j'
 ·subst e;rw [W3 _ (An hj),hj];simp [hP]
 ·rw [Wk _ e]
theorem Vo {P:FlitD→Bool} {y:FlitD} (hP:P y=false) (B:SSD) (j j':Nat):((upd B j (·++[y])).getD j' []).filter P=(B.getD j' []).filter P:=by
 by_cases e:j=j'
 ·subst e
  by_cases hl:j<B.length
  ·rw [W3 _ hl];simp [hP]
  ·unfold upd;rw [List.set_eq_of_length_le (Nat.le_of_not_lt hl)]
 ·rw [Wk _ e]
theorem W5 {B:SSD} {j j':Nat} {z:FlitD} (h:z∈(upd B j (List.drop 1)).getD j' []):z∈B.getD j' []:=by
 by_cases e:j=j'
 ·subst e
  by_cases hl:j<B.length
  ·rw [W3 _ hl] at h;exact List.mem_of_mem_drop h
  ·unfold upd at h;rwa [List.set_eq_of_length_le (Nat.le_of_not_lt hl)] at h
 ·rwa [Wk _ e] at h
theorem Wz {B:SSD} {j j':Nat} {y z:FlitD} (h:z∈(upd B j (·++[y])).getD j' []):z∈B.getD j' []∨(j'=j∧z=y):=by
 by_cases e:j=j'
 ·subst e
  by_cases hl:j<B.length
  ·rw [W3 _ hl] at h
   rcases List.mem_append.1 h with h|h
   ·exact .inl h
   ·exact .inr ⟨rfl,List.mem_singleton.1 h⟩
  ·unfold upd at h;rw [List.set_eq_of_length_le (Nat.le_of_not_lt hl)] at h;exact .inl h
 ·rw [Wk _ e] at h;exact .inl h
theorem Flow.move {x:NetD} {list:List PkD} {B A S:SSD} {O:List Int} {s t c:Nat} {R:Nat→Nat} {L:Nat} (z:Flow x list B A S s t c R L) (rt:Route x s t c R L) (hl:B.length=10*nC x) (hA:A.length=nC x)
 (u:Uniq list) (gB:∀j y,y∈B.getD j []→Gen list y) {a p i:Nat} {y:FlitD} {r:List FlitD} (k:Can x B O a p i y r) (hport:pO x a (i%2) y.2.1=(p:Int)) :
 Flow x list (mvB x B a p i y) (mvA A a p y) S s t c R L:=by
 obtain ⟨ha,hp,hi,hj,hd,bd,room⟩:=k
 by_cases hP:inF list s t c y=true
 ·obtain ⟨e1,e2⟩:=L3 u (gB _ y (by rw [hj];exact List.mem_cons_self ..)) hP
  obtain ⟨n,hn,en⟩:=z.z2 _ y (by rw [hj];exact List.mem_cons_self ..) hP
  have m1:=rt.md n hn
  have ea:R n/10=a:=by omega
  have ec:i%2=c:=by omega
  subst ec
  rw [e1] at hport
  have hlt:=rt.lt n hn
  rw [en] at hj
  rcases Nat.lt_or_ge n L with hL|hL
  ·obtain ⟨p',p1,p2,p3⟩:=rt.rs n hL
   rw [ea] at p2 p3
   have:p'=p:=by have:=p2.symm.trans hport;omega
   subst this
   have h4:¬p'=4:=by omega
   have hne:R n≠R (n+1):=fun e=>by have:=rt.inj n (n+1) hn (by omega) e;omega
   have hlt2:=rt.lt (n+1) (by omega)
   unfold mvB mvA
   rw [if_neg h4,if_neg h4,en,← p3]
   refine ⟨?_,fun j w hw hF=>?_,z.z3⟩
   ·rw [← z.z1]
    congr 2
    refine Mb (n:=n) (y:=y) ?_ ?_ L hL fun m hm m1 m2=>?_
    ·show (B.getD (R n) []).filter _=y::(((upd (upd B (R n) (List.drop 1)) (R (n+1)) (·++[y])).getD (R n) []).filter _)
     rw [Wk _ (fun e=>hne e.symm),W3 _ (by omega),hj,List.filter_cons_of_pos hP];rfl
    ·show (((upd (upd B (R n) (List.drop 1)) (R (n+1)) (·++[y])).getD (R (n+1)) []).filter _)=(B.getD (R (n+1)) []).filter _++[y]
     rw [W3 _ (by rw [U2];omega),Wk _ hne,List.filter_append,List.filter_cons_of_pos hP];rfl
    ·show (((upd (upd B (R n) (List.drop 1)) (R (n+1)) (·++[y])).getD (R m) []).filter _)=(B.getD (R m) []).filter _
     rw [Wk _ (fun e=>m2 (rt.inj (n+1) m (by omega) hm e).symm),Wk _ (fun e=>m1 (rt.inj n m hn hm e).symm)]
   ·rcases Wz hw with hw|⟨rfl,rfl⟩
    ·exact z.z2 j w (W5 hw) hF
    ·exact ⟨n+1,by omega,rfl⟩
  ·have eL:n=L:=by omega
   subst eL
   have et:=rt.rt
   rw [ea] at et
   subst et
   have h4:p=4:=by have:=rt.r4;rw [this] at hport;omega
   subst h4
   unfold mvB mvA
   rw [if_pos rfl,if_pos rfl,en]
   refine ⟨?_,fun j w hw hF=>z.z2 j w (W5 hw) hF,z.z3⟩
   rw [← z.z1,W3 _ (by omega),List.filter_append,List.filter_cons_of_pos hP]
   have ct:=Il (g:=fun m=>(B.getD (R m) []).filter (inF list s a (i%2))) (g':=fun m=>((upd B (R n) (List.drop 1)).getD (R m) []).filter (inF list s a (i%2))) (y:=y) n ?_ fun m hm=>?_
   ·rw [ct];simp
   ·show (B.getD (R n) []).filter _=y::(((upd B (R n) (List.drop 1)).getD (R n) []).filter _)
    rw [W3 _ (by omega),hj,List.filter_cons_of_pos hP];rfl
   ·show (((upd B (R n) (List.drop 1)).getD (R m) []).filter _)=(B.getD (R m) []).filter _
    rw [Wk _ (fun e=>by have:=rt.inj n m hn (by omega) e;omega)]
 ·have hP:inF list s t c y=false:=by simpa using hP
  have eB:∀j,((mvB x B a p i y).getD j []).filter (inF list s t c)=(B.getD j []).filter (inF list s t c):=fun j=>by
   unfold mvB;split
   ·exact Si hj hP j
   ·rw [Vo hP,Si hj hP]
  have eA:((mvA A a p y).getD t []).filter (inF list s t c)=(A.getD t []).filter (inF list s t c):=by
   unfold mvA;split
   ·exact Vo hP A a t
   ·rfl
  refine ⟨?_,fun j w hw hF=>?_,z.z3⟩
  ·rw [eA,← z.z1]
   congr 2
   exact Z9 L fun m _=>eB (R m)
  ·unfold mvB at hw
   split at hw
   ·exact z.z2 j w (W5 hw) hF
   ·rcases Wz hw with hw|⟨rfl,rfl⟩
    ·exact z.z2 j w (W5 hw) hF
    ·rw [hP] at hF;exact absurd hF (by simp)
theorem Flow.enter {x:NetD} {list:List PkD} {B A S:SSD} {s t c:Nat} {R:Nat→Nat} {L:Nat} (z:Flow x list B A S s t c R L) (rt:Route x s t c R L) (hl:B.length=10*nC x)
 (u:Uniq list) (gS:∀j y,y∈S.getD j []→Gen list y) {k c0:Nat} {y:FlitD} {r:List FlitD} (hk:k<nC x) (hc:c0<2) (ec:y.2.2.1=(c0:Int)) (hj:S.getD k []=y::r) :
 Flow x list (upd B (10*k+8+c0) (·++[y])) A (upd S k (List.drop 1)) s t c R L:=by
 by_cases hP:inF list s t c y=true
 ·obtain ⟨e1,e2⟩:=L3 u (gS _ y (by rw [hj];exact List.mem_cons_self ..)) hP
  have es:=z.z3 k y (by rw [hj];exact List.mem_cons_self ..) hP
  subst es
  have:c0=c:=by omega
  subst this
  have l0:=rt.lt 0 (by omega)
  rw [← rt.r0]
  refine ⟨?_,fun j w hw hF=>?_,fun j w hw hF=>z.z3 j w (W5 hw) hF⟩
  ·rw [← z.z1,W3 _ (An hj),hj,List.filter_cons_of_pos hP]
   rw [Iq (g:=fun m=>(B.getD (R m) []).filter (inF list k t c0)) (y:=y) ?_ L fun m hm hl'=>?_]
   ·simp
   ·show (((upd B (R 0) (·++[y])).getD (R 0) []).filter _)=(B.getD (R 0) []).filter _++[y]
    rw [W3 _ (by omega),List.filter_append,List.filter_cons_of_pos hP];rfl
   ·show (((upd B (R 0) (·++[y])).getD (R m) []).filter _)=(B.getD (R m) []).filter _
    rw [Wk _ (fun e=>by have:=rt.inj 0 m (by omega) hl' e;omega)]
  ·rcases Wz hw with hw|⟨rfl,rfl⟩
   ·exact z.z2 j w hw hF
   ·exact ⟨0,by omega,rfl⟩
 ·have hP:inF list s t c y=false:=by simpa using hP
  refine ⟨?_,fun j w hw hF=>?_,fun j w hw hF=>z.z3 j w (W5 hw) hF⟩
  ·rw [← z.z1,Si hj hP]
   congr 2
   exact Z9 L fun m _=>Vo hP B _ (R m)
  ·rcases Wz hw with hw|⟨rfl,rfl⟩
   ·exact z.z2 j w hw hF
   ·rw [hP] at hF;exact absurd hF (by simp)
def Src (x:NetD) (j:Nat):Prop:=(∃a p c,a<nC x∧p<4∧c<2∧hasP x a p∧j=tgt x a p c)∨∃k c,k<nC x∧c<2∧j=10*k+8+c
structure Good (x:NetD) (list:List PkD) (B:SSD) (O:List Int) (A S:SSD):Prop where
 lB:B.length=10*nC x
 lO:O.length=10*nC x
 lA:A.length=nC x
 lS:S.length=nC x
 cl:allP (fun j y=>y.2.2.1=(j:Int)%2) B
 gB:∀j y,y∈B.getD j []→Gen list y
 gS:∀j y,y∈S.getD j []→Gen list y
 gA:∀(t:Nat) y,y∈A.getD t []→Gen list y∧y.2.1=(t:Int)
 rc:∀j,B.getD j []≠[]→Src x j
 wf:∃st fr sr,Wf x B O A S st fr sr
 fl:∀s t c R L,s<nC x→t<nC x→c<2→Route x s t c R L→Flow x list B A S s t c R L
structure Sent (x:NetD) (list:List PkD):Prop where
 u:Uniq list
 ok:∀p∈list,packetOk x.1.1 x.1.2.1 p
theorem Ej {x:NetD} {list:List PkD} (h:Sent x list) {y:FlitD} (g:Gen list y):∃t c:Nat,t<nC x∧c<2∧y.2.1=(t:Int)∧y.2.2.1=(c:Int):=by
 obtain ⟨p,hp,_,e2,e3⟩:=g
 obtain ⟨_,_,⟨k1,k2⟩,_,k3,_⟩:=h.ok p hp
 have:=Im x
 unfold inR at k3
 exact ⟨p.2.2.1.toNat,p.2.2.2.1.toNat,by omega,by omega,by omega,by omega⟩
theorem Good.move {x:NetD} {list:List PkD} {B:SSD} {O:List Int} {A S:SSD} (g:Good x list B O A S) (h:Sent x list) (tk:tabsOk x) {a p i:Nat} {y:FlitD} {r:List FlitD} (k:Can x B O a p i y r) :
 Good x list (mvB x B a p i y) (mvO O a p i y) (mvA A a p y) S:=by
 obtain ⟨st,fr,sr,w⟩:=g.wf
 have hj:=k.hj
 have hm:y∈B.getD (10*a+i) []:=by rw [hj];exact List.mem_cons_self ..
 have hs:∃u,Str (fr (10*a+i)) (y::r) u:=by
  rcases g.rc (10*a+i) (by rw [hj];simp) with ⟨a',p',c',h1,h2,h3,h4,e⟩|⟨k',c',h1,h2,e⟩
  ·have:=w.w4 a' p' c' h1 h2 h3 h4
   rw [← e,hj] at this;exact ⟨_,this⟩
  ·have:=w.w5 k' c' h1 h2
   rw [← e,hj] at this;exact ⟨_,this⟩
 obtain ⟨hport,st',fr',w'⟩:=w.move g.lB g.lO g.lA g.cl k hs
 obtain ⟨t0,c0,ht,hc0,et,ec⟩:=Ej h (g.gB _ y hm)
 have ci:=g.cl _ y hm
 have ha:=k.ha
 have hi:=k.hi
 have hp:=k.hp
 have hA:p=4→y.2.1=(a:Int):=fun e=>by
  subst e
  rw [et] at hport
  have:=Bf tk ha ht (by omega) hport
  omega
 refine ⟨?_,?_,?_,g.lS,fun j z hz=>?_,fun j z hz=>?_,g.gS,fun t z hz=>?_,fun j hne=>?_,⟨st',fr',sr,w'⟩,fun s t c R L h1 h2 h3 rt=>(g.fl s t c R L h1 h2 h3 rt).move rt g.lB g.lA h.u g.gB k hport⟩
 ·unfold mvB;split<;>simp [g.lB]
 ·unfold mvO;simp [g.lO]
 ·unfold mvA;split<;>simp [g.lA]
 ·unfold mvB at hz
  split at hz
  ·exact g.cl j z (W5 hz)
  ·rename_i h4
   rcases Wz hz with hz|⟨rfl,rfl⟩
   ·exact g.cl j z (W5 hz)
   ·have:=(Vt (c:=i%2) (k.room.resolve_left h4) (by omega) (by omega)).2.1
    rw [ci];omega
 ·unfold mvB at hz
  split at hz
  ·exact g.gB j z (W5 hz)
  ·rcases Wz hz with hz|⟨rfl,rfl⟩
   ·exact g.gB j z (W5 hz)
   ·exact g.gB _ _ hm
 ·unfold mvA at hz
  split at hz
  ·rename_i h4
   rcases Wz hz with hz|⟨rfl,rfl⟩
   ·exact g.gA t z hz
   ·exact ⟨g.gB _ _ hm,hA h4⟩
  ·exact g.gA t z hz
 ·obtain ⟨z,hz⟩:=List.exists_mem_of_ne_nil _ hne
  unfold mvB at hz
  split at hz
  ·exact g.rc j (List.ne_nil_of_mem (W5 hz))
  ·rename_i h4
   rcases Wz hz with hz|⟨rfl,rfl⟩
   ·exact g.rc j (List.ne_nil_of_mem (W5 hz))
   ·exact .inl ⟨a,p,i%2,ha,by omega,by omega,k.room.resolve_left h4,rfl⟩
theorem Good.enter {x:NetD} {list:List PkD} {B:SSD} {O:List Int} {A S:SSD} (g:Good x list B O A S) (h:Sent x list) {k c:Nat} {y:FlitD} {r:List FlitD} (hk:k<nC x) (hc:c<2) (ec:y.2.2.1=(c:Int)) (hj:S.getD k []=y::r) :
 Good x list (upd B (10*k+8+c) (·++[y])) O A (upd S k (List.drop 1)):=by
 obtain ⟨st,fr,sr,w⟩:=g.wf
 obtain ⟨sr',w'⟩:=w.enter g.lB g.lS hk hc ec hj
 have hm:y∈S.getD k []:=by rw [hj];exact List.mem_cons_self ..
 refine ⟨by simp [g.lB],g.lO,g.lA,by simp [g.lS],fun j z hz=>?_,fun j z hz=>?_,fun j z hz=>g.gS j z (W5 hz),g.gA,fun j hne=>?_,⟨st,fr,sr',w'⟩,fun s t c' R L h1 h2 h3 rt=>(g.fl s t c' R L h1 h2 h3 rt).enter rt g.lB h.u g.gS hk hc ec hj⟩
 ·rcases Wz hz with hz|⟨rfl,rfl⟩
  ·exact g.cl j z hz
  ·rw [ec];omega
 ·rcases Wz hz with hz|⟨rfl,rfl⟩
  ·exact g.gB j z hz
  ·exact g.gS _ _ hm
 ·obtain ⟨z,hz⟩:=List.exists_mem_of_ne_nil _ hne
  rcases Wz hz with hz|⟨rfl,rfl⟩
  ·exact g.rc j (List.ne_nil_of_mem hz)
  ·exact .inr ⟨k,c,hk,hc,rfl⟩
def stat (x:NetD):NetD:=(x.1,x.2.1,[],[],[],[],[],0)
theorem I6 {l:List FlitD} (h:l≠[]):l=headL l::l.drop 1:=by
 cases l with
 | nil=>exact absurd rfl h
 | cons a l=>rfl
theorem Good.enters {x:NetD} {list:List PkD} (h:Sent (stat x) list):∀(l:List Nat) {B:SSD} {O:List Int} {A S:SSD},Good (stat x) list B O A S→l.Nodup→(∀k∈l,k<nC x∧S.getD k []≠[]∧headL (S.getD k [])=srcHead x k)→
 Good (stat x) list (l.foldl (entS x) B) O A (l.foldl srcS S)
 | [],B,O,A,S,g,_,_=>g
 | k::l,B,O,A,S,g,n,hf=>by
  obtain ⟨p1,p2⟩:=List.nodup_cons.1 n
  obtain ⟨hk,f1,f2⟩:=hf k (List.mem_cons_self ..)
  have hS:=I6 f1
  rw [f2] at hS
  obtain ⟨t,c,_,hc,_,ec⟩:=Ej h (g.gS k (srcHead x k) (by rw [hS];exact List.mem_cons_self ..))
  have g':=g.enter h (k:=k) (c:=c) hk hc ec hS
  have e1:entAt x k=10*k+8+c:=by unfold entAt;rw [ec];omega
  have e2:entS x B k=upd B (10*k+8+c) (·++[srcHead x k]):=by unfold entS;rw [e1]
  have e3:srcS S k=upd S k (List.drop 1):=rfl
  rw [← e2,← e3] at g'
  simp only [List.foldl_cons]
  refine Good.enters h l g' p2 fun j hj=>?_
  obtain ⟨c1,c2,c3⟩:=hf j (List.mem_cons_of_mem _ hj)
  have hne:k≠j:=fun e=>p1 (e▸hj)
  refine ⟨c1,?_⟩
  have:(srcS S k).getD j []=S.getD j []:=Wk _ hne
  rw [this];exact ⟨c2,c3⟩
def GoodN (x:NetD) (list:List PkD):Prop:=Good (stat x) list x.2.2.1 x.2.2.2.1 x.2.2.2.2.2.2.1 x.2.2.2.2.2.1
end Go.Proofs.YtlhaeingdonaeaaGreat.V
set_option linter.all false
namespace Go.Proofs.YtlhaeingdonaeaaGreat.V
open Go Go.VM
section
variable {w h r:Int} {b:List Int} (H:rootOk w h b r)
include H
end
end Go.Proofs.YtlhaeingdonaeaaGreat.V
set_option linter.all false
namespace Go.Proofs.YtlhaeingdonaeaaGreat.V
open Go Go.VM Go.Proofs
set_option maxRecDepth 10000
variable {frz:Nat} {H:Heap}
end Go.Proofs.YtlhaeingdonaeaaGreat.V
set_option linter.all false
namespace Go.Proofs.YtlhaeingdonaeaaGreat.V
open Go Go.VM
set_option maxRecDepth 100000
section
variable {w h r:Int} {b:List Int} (H:rootOk w h b r)
include H
end
section
variable {w h r:Int} {b:List Int} (hc:conn w h b) (hr:isN w h r)
include hc hr
end
end Go.Proofs.YtlhaeingdonaeaaGreat.V
set_option linter.all false
namespace Go.Proofs.YtlhaeingdonaeaaGreat.V
open Go Go.VM Go.Proofs
set_option maxRecDepth 10000
theorem Zx (l m:List FlitD):tailIds (l++m)=tailIds l++tailIds m:=by simp [tailIds]
def firstFl (p:PkD) (n:Nat):List FlitD:=(List.range n).map fun i:Nat=>(p.1,p.2.2.1,p.2.2.2.1,decide ((i:Int)=0),false)
theorem Kx {w h:Int} {p:PkD} (g:packetOk w h p):∃n:Nat,flitsOf w h p=firstFl p n++[(p.1,p.2.2.1,p.2.2.2.1,decide ((n:Int)=0),true)]:=by
 have h5:=g.2.2.2.2.2
 unfold inR at h5
 obtain ⟨n,hn⟩:∃n:Nat,p.2.2.2.2.toNat=n+1:=⟨p.2.2.2.2.toNat-1,by omega⟩
 have hp:p.2.2.2.2=(n:Int)+1:=by omega
 refine ⟨n,?_⟩
 unfold flitsOf
 rw [if_pos g,hn,List.range_succ,List.map_append,hp]
 congr 1
 ·unfold firstFl
  refine List.map_congr_left fun i hi=>?_
  have:=List.mem_range.1 hi
  have e:decide ((i:Int)=(n:Int)+1-1)=false:=by rw [decide_eq_false_iff_not];omega
  rw [e]
 ·simp
theorem Rz {w h:Int} {p:PkD} (g:packetOk w h p):tailIds (flitsOf w h p)=[p.1]:=by
 obtain ⟨n,e⟩:=Kx g
 have h1:tailIds (firstFl p n)=[]:=by
  unfold tailIds
  rw [List.filter_eq_nil_iff.2]
  ·rfl
  ·intro y hy
   unfold firstFl at hy
   obtain ⟨i,_,rfl⟩:=List.mem_map.1 hy
   simp [isTail]
 rw [e,Zx,h1]
 rfl
theorem Ky {x:NetD} {list:List PkD} {s t c:Nat} (h:∀p∈list,packetOk x.1.1 x.1.2.1 p):tailIds (flowFl x list s t c)=sentIds list s t c:=by
 unfold flowFl sentIds
 have h':∀p∈list.filter (fun p=>decide (isFlow s t c p)),packetOk x.1.1 x.1.2.1 p:=fun p hp=>h p (List.mem_filter.1 hp).1
 generalize list.filter (fun p=>decide (isFlow s t c p))=l at *
 induction l with
 | nil=>rfl
 | cons p l ih=>
  rw [List.flatMap_cons,Zx,Rz (h' p (List.mem_cons_self ..)),ih fun q hq=>h' q (List.mem_cons_of_mem _ hq)]
  rfl
theorem Dk {A:SSD} {list:List PkD} (u:Uniq list) {t:Nat} (gA:∀y∈A.getD t [],Gen list y) (s c:Nat):((A.getD t []).filter fun f=>f.2.2.1=(c:Int)).filter (inF list s t c)=(A.getD t []).filter (inF list s t c):=by
 rw [List.filter_filter]
 refine List.filter_congr fun y hy=>?_
 by_cases e:inF list s t c y=true
 ·rw [e];simp [(L3 u (gA y hy) e).2]
 ·have e:inF list s t c y=false:=by simpa using e
  rw [e];rfl
theorem Mw (l:List FlitD) (list:List PkD) (s t c:Nat):among (tailIds l) list s t c=tailIds (l.filter (inF list s t c)):=by
 unfold among tailIds
 rw [List.filter_map,List.filter_filter,List.filter_filter]
 congr 1
 refine List.filter_congr fun y _=>?_
 exact Bool.and_comm _ _
theorem D7 {x:NetD} {list:List PkD} (hn:netOk x) (h:Sent (stat x) list) (g:GoodN x list):keepsOk x list:=by
 refine ⟨hn,fun t ht c hc s hs=>?_⟩
 have hA:x.2.2.2.2.2.2.1.length=nC x:=g.lA
 rw [hA] at ht hs
 obtain ⟨st,fr,sr,w⟩:=g.wf
 have w7:=w.w7 t c ht hc
 obtain ⟨R,L,rt⟩:=Ch (x:=stat x) (G8 (x:=stat x) hn.1) hs ht hc
 have z:=(g.fl s t c R L hs ht hc rt).z1
 unfold flowOk arrIds
 rw [Nm _ _ w7,Mw,Dk h.u fun y hy=>(g.gA t y hy).1,← Ky (x:=stat x) h.ok,← z,Zx]
 unfold isPre
 rw [List.take_left]
theorem Good.still {x:NetD} {list:List PkD} {B:SSD} {O:List Int} {A S:SSD} (lB:B.length=10*nC x) (lO:O.length=10*nC x) (lA:A.length=nC x) (lS:S.length=nC x) (hB:∀j,B.getD j []=[]) (hS:∀j,S.getD j []=[]) (hO:∀o∈O,o=-1)
 (gA:∀(t:Nat) y,y∈A.getD t []→Gen list y∧y.2.1=(t:Int)) (w7:∀t c:Nat,t<nC x→c<2→Str none ((A.getD t []).filter fun f=>f.2.2.1=(c:Int)) none)
 (zz:∀s t c:Nat,s<nC x→t<nC x→c<2→(A.getD t []).filter (inF list s t c)=flowFl x list s t c):Good x list B O A S:=by
 have eO:∀a p c,a<nC x→p<5→c<2→O.getD (outAt a p c) 0=-1:=fun a p c ha hp hc=>by
  have hl:outAt a p c<O.length:=by unfold outAt;omega
  rw [List.getD_eq_getElem?_getD,List.getElem?_eq_getElem hl]
  exact hO _ (List.getElem_mem hl)
 refine ⟨lB,lO,lA,lS,fun j y hy=>?_,fun j y hy=>?_,fun j y hy=>?_,gA,fun j hne=>absurd (hB j) hne,⟨fun _=>none,fun _=>none,fun _=>none,fun _ _ _ _ _ _ _=>rfl,fun a p c q h1 h2 h3 h4 h5=>?_,fun a q c k h1 h2 h3 h4=>?_,fun a p c h1 h2 h3 h4=>?_,fun k c h1 h2=>?_,fun k h1=>?_,w7⟩,fun s t c R L h1 h2 h3 rt=>⟨?_,fun j y hy=>?_,fun k y hy=>?_⟩⟩
 ·rw [hB] at hy;simp at hy
 ·rw [hB] at hy;simp at hy
 ·rw [hS] at hy;simp at hy
 ·rw [eO a p c h1 h2 h3] at h5;omega
 ·simp at h4
 ·rw [hB];rfl
 ·rw [hB];rfl
 ·rw [hS];rfl
 ·have ec:∀L,cat (fun n=>(B.getD (R n) []).filter (inF list s t c)) L=[]:=fun L=>by
   induction L with
   | zero=>show (B.getD (R 0) []).filter _=[];rw [hB];rfl
   | succ L ih=>show (B.getD (R (L+1)) []).filter _++cat _ L=[];rw [hB,ih];rfl
  rw [ec,hS,zz s t c h1 h2 h3]
  simp
 ·rw [hB] at hy;simp at hy
 ·rw [hS] at hy;simp at hy
theorem Bi {x:NetD} {list:List PkD} (h:sentOk x.1.1 x.1.2.1 list):Sent (stat x) list:=by
 have at':∀p∈list,∃i,i<list.length∧list.getD i pk0=p∧p.1=(i:Int)+1∧packetOk x.1.1 x.1.2.1 p:=fun p hp=>by
  obtain ⟨i,hi,rfl⟩:=List.mem_iff_getElem.1 hp
  obtain ⟨h1,h2⟩:=h i hi
  have e:list.getD i pk0=list[i]:=by simp [List.getD_eq_getElem?_getD,hi]
  rw [e] at h1 h2
  exact ⟨i,hi,e,h2,h1⟩
 refine ⟨fun p hp q hq e=>?_,fun p hp=>?_⟩
 ·obtain ⟨i,hi,e1,e2,_⟩:=at' p hp
  obtain ⟨j,hj,f1,f2,_⟩:=at' q hq
  have:i=j:=by omega
  subst this
  exact e1.symm.trans f1
 ·obtain ⟨_,_,_,_,k⟩:=at' p hp;exact k
def GoodC (a:ChipD):Prop:=chipOk a∧GoodN a.1 a.2
theorem Dh {x:NetD} {list:List PkD} (hn:netOk x) (hl:list.length≤200) (hs:sentOk x.1.1 x.1.2.1 list) (g:GoodN x list):GoodC (x,list):=
 ⟨⟨hn,hl,hs,D7 hn (Bi hs) g⟩,g⟩
theorem Di {w h:Int} (g:okG w h):GoodC (chipNew w h):=by
 have hc:=U9 g
 have e:chipNew w h=(netNew (w,h,[]) (splitT w h),[]):=if_pos g
 rw [e]
 obtain ⟨hn,k2,_,_⟩:=P4 (m:=(w,h,[])) (t:=splitT w h) hc
 have e2:netNew (w,h,[]) (splitT w h)=((w,h,[]),splitT w h,List.replicate (10*(cnt w h).toNat) [],List.replicate (10*(cnt w h).toNat) (-1),List.replicate (5*(cnt w h).toNat) 0,List.replicate (cnt w h).toNat [],List.replicate (cnt w h).toNat [],0):=by
  unfold netNew;rw [if_pos hc]
 have rep:∀n j,(List.replicate n ([]:List FlitD)).getD j []=[]:=fun n j=>by
  rw [List.getD_eq_getElem?_getD,List.getElem?_replicate]
  split<;>rfl
 refine Dh hn (by simp) (fun i hi=>by simp at hi) ?_
 rw [e2]
 unfold GoodN
 refine Good.still ?_ ?_ ?_ ?_ (rep _) (rep _) (fun o ho=>List.eq_of_mem_replicate ho) (fun t y hy=>?_) (fun t c _ _=>?_) (fun s t c _ _ _=>?_)
 ·show (List.replicate _ _).length=_;rw [List.length_replicate];rfl
 ·show (List.replicate _ _).length=_;rw [List.length_replicate];rfl
 ·show (List.replicate _ _).length=_;rw [List.length_replicate];rfl
 ·show (List.replicate _ _).length=_;rw [List.length_replicate];rfl
 ·have hy:y∈(List.replicate (cnt w h).toNat ([]:List FlitD)).getD t []:=hy
  rw [rep] at hy;simp at hy
 ·show Str none (((List.replicate (cnt w h).toNat ([]:List FlitD)).getD t []).filter _) none
  rw [rep];rfl
 ·show ((List.replicate (cnt w h).toNat ([]:List FlitD)).getD t []).filter _=_
  rw [rep];rfl
end Go.Proofs.YtlhaeingdonaeaaGreat.V
set_option linter.all false
namespace Go.Proofs.YtlhaeingdonaeaaGreat.V
open Go Go.VM Go.Proofs
set_option maxRecDepth 10000
variable {frz:Nat} {H:Heap}
theorem J7 {v:Value} {xs:List Int} {e:TypeId} (o:Ow Fl.int e H v xs) {i:Nat} (h1:i<xs.length):vindexAddr Tryz.prog H 24 v (.int .i64 (i:Nat))=some (elp v i)∧vload Tryz.prog H 3 (elp v i)=some (.int .i64 xs[i]):=by
 have h2:=o.rd.isI.idx (P:=Tryz.prog) (ty:=24) (e:=3) (by simp) (i:=(i:Int)) (by omega) (by omega)
 have h3:=(o.rd.isI.load (P:=Tryz.prog) (e:=3) (by simp) h1).trans (by rw [Qw _ _ h1])
 exact ⟨by simpa using h2,h3⟩
theorem Aa {w h:Int} (g:okG w h) (L:Nat):allL L (chipNew w h).1.2.2.2.2.2.2.1:=fun l hl=>by
 have hc:=U9 g
 have e:chipNew w h=(netNew (w,h,[]) (splitT w h),[]):=if_pos g
 rw [e] at hl
 unfold netNew at hl
 rw [if_pos hc] at hl
 have hl:l∈List.replicate (cnt w h).toNat ([]:List FlitD):=hl
 rw [List.eq_of_mem_replicate hl];simp
theorem law_FnReplays_w {a0:List Int} {u0:Value} (s0:IsS (Kn.int .u8) H u0 a0)
 (w0:a0.length≤maxLen∧∀x1∈a0,(Lit.int .u8 x1).wf=true) :
 wp (vcall C frz 5 [u0] H) (fun r _=>r=.bool true):=by
 have r0:=Fw s0
 rw [Qb (fn:=Tryz.f5) Tryz.func5 rfl (by kernel_rfl) rfl]
 simp [jt _ _ r0]
 refine Qd ?_ ?_<;>intro g0
 ·simp
 simp
 refine Qc (Kd u0 a0 r0 (by omega)) ?_
 rintro _ H1 ⟨w,h,v,lv,l,rfl,hg,ov,mv,nv,ol,hl,ml,c1⟩
 have can:canAct (chipNew w h) l:=⟨(Di hg).1,by omega⟩
 have h9:=Aa hg 1048576
 obtain ⟨a,ha⟩:∃a,a=chipNew w h:=⟨_,rfl⟩
 rw [← ha] at ov can h9
 have one:=Qu ov
 have o1:=one.1
 have o2:=one.2
 have onl:VM.one lv=true∧lv.cells=#[lv]:=⟨ol.1.rd.one',ol.1.rd.cells⟩
 have hF1:=c1.1
 obtain ⟨H2,hH2⟩:∃H2,H2=H1++[⟨chipCells v a,0,51⟩]:=⟨_,rfl⟩
 have c12:Chg H1 H2 []:=by rw [hH2];exact Chg.app _
 have l2:H2.length=H1.length+1:=by rw [hH2];simp
 have b2:H2[H1.length]? = some ⟨chipCells v a,0,51⟩:=by rw [hH2];simp
 have ov2:=Dt.chg (T:=dChip) ov c12 (by simp)
 have ol2:=Dt.chg (T:=dAct) ol c12 (by simp)
 have hHs:=hH2.symm
 have b2':=b2
 unfold chipCells netCells at hHs b2'
 simp only [List.cons_append,List.nil_append] at hHs b2'
 simp [Qj,← ha,o1,o2,onl,hF1]
 rw [hHs]
 clear hH2 hHs
 have rn:=R8 (frz:=H.length) ov2 ol2 h9
 simp only [Qj] at rn
 try simp [VM.look,b2',o1,o2]
 refine Qc rn ?_
 rintro _ H3 ⟨vc,vi,rfl,oc,oi,c3,mc,nc,mi,ni,xc⟩
 have l3:=c3.1
 obtain ⟨y,hy⟩:∃y,y=runActs a l:=⟨_,rfl⟩
 rw [← hy] at oc oi
 have onec:=Qu oc
 have q1:=onec.1
 have q2:=onec.2
 have b3:=Qa b2 c3 (by simp)
 have ov3:=Dt.chg (T:=dChip) ov2 c3 (by simp)
 have ol3:=Dt.chg (T:=dAct) ol2 c3 (by simp)
 have hF3:H.length≤H3.length:=by omega
 obtain ⟨H4,hH4⟩:∃H4,H4=H3++[⟨chipCells vc y.1,0,51⟩]:=⟨_,rfl⟩
 have c34:Chg H3 H4 []:=by rw [hH4];exact Chg.app _
 have l4:H4.length=H3.length+1:=by rw [hH4];simp
 have b4:=Qa b3 c34 (by simp)
 have ov4:=Dt.chg (T:=dChip) ov3 c34 (by simp)
 have ol4:=Dt.chg (T:=dAct) ol3 c34 (by simp)
 have oi4:=Dt.chg (T:=dIntS) oi c34 (by simp)
 have oni:VM.one vi=true∧vi.cells=#[vi]:=⟨oi.1.rd.one',oi.1.rd.cells⟩
 have hHs:=hH4.symm
 have b4':=b4
 unfold chipCells netCells at hHs b4'
 simp only [List.cons_append,List.nil_append] at hHs b4'
 simp [Qj,← hy,q1,q2,oni,hF3]
 rw [hHs]
 clear hH4 hHs
 have ir:=fun F=>Uw (frz:=F) ov4 ol4 oi4 h9
 have yes:isReplay a l y.2:=⟨can,by rw [hy]⟩
 simp only [Qj] at ir
 have ll:=oi4.1.rd.isI.len (P:=Tryz.prog) (ty:=24) (by simp)
 simp [VM.look,b4',o1,o2,ir,yes,ll]
 refine Qd ?_ ?_<;>intro g1
 ·have e0:y.2=[]:=by simpa using g1
  obtain ⟨H5,hH5⟩:∃H5:Heap,H5=H4++[⟨[.int .i64 1],0,3⟩]:=⟨_,rfl⟩
  have c45:Chg H4 H5 []:=by rw [hH5];exact Chg.app _
  have ov5:=Dt.chg (T:=dChip) ov4 c45 (by simp)
  have ol5:=Dt.chg (T:=dAct) ol4 c45 (by simp)
  have o15:dIntS.Ow H5 (.slice (some ⟨H4.length,0,some 0⟩) 1 0) [1]:=⟨by rw [hH5];exact Ow.new0 (D:=Fl.int) (xs:=[1]) rfl rfl rfl rfl,by simp⟩
  have ir5:=fun F=>Uw (frz:=F) ov5 ol5 o15 h9
  have no:¬isReplay a l [1]:=fun k=>by
   have:=k.2
   rw [← hy,e0] at this
   simp at this
  simp only [Qj] at ir5
  have hHs:=hH5.symm
  have b4L:=fun L=>Qo b4' L
  simp [VM.look,b4',b4L,o1,o2]
  rw [hHs]
  simp [ir5,no]
 ·simp
  refine Qc (O3 u0 a0 (r0.chg (((c1.trans c12).trans c3).trans c34) (by simp)) (by omega)) ?_
  rintro up H5 ⟨xs,op,hx,hr,nup,c5⟩
  have l5:=c5.1
  have e0:=hr xs[0] (List.getElem_mem (by omega))
  have p0:=J7 op (i:=0) (by omega)
  simp only [Int.natCast_zero] at p0
  have ov5:=Dt.chg (T:=dChip) ov4 c5 (by simp)
  have ol5:=Dt.chg (T:=dAct) ol4 c5 (by simp)
  have oi5:=Dt.chg (T:=dIntS) oi4 c5 (by simp)
  have b5:=Qa b4 c5 (by simp)
  have ll5:=oi5.1.rd.isI.len (P:=Tryz.prog) (ty:=24) (by simp)
  obtain ⟨M,hM⟩:∃M:Nat,M=y.2.length:=⟨_,rfl⟩
  rw [← hM] at ll5
  have hM0:0<M:=by rw [hM];exact List.length_pos_iff.2 (by simpa using g1)
  have hM0':¬(M:Int)=0:=by omega
  have hM0'':¬M=0:=by omega
  have hMb:M≤1073741824:=by have:=oi.2;omega
  obtain ⟨X,hX⟩:∃X:Nat,xs[0]=(X:Int):=⟨xs[0].toNat,by omega⟩
  rw [hX] at p0 e0
  have hk:X%M<M:=Nat.mod_lt _ hM0
  have em:(X:Int).tmod (M:Int)=((X%M:Nat):Int):=by rw [Int.tmod_eq_emod_of_nonneg (by omega)];rfl
  obtain ⟨k,hk'⟩:∃k,k=X%M:=⟨_,rfl⟩
  rw [← hk'] at em hk
  have ek:∀[Inhabited Unit],IntKind.i64.wrap (k:Int)=(k:Int):=by intro _;exact w64 (by omega) (by omega)
  have pk:=J7 oi5.1 (i:=k) (by omega)
  have pk1:=pk.1
  have pk2:=pk.2
  have p01:=p0.1
  have p02:=p0.2
  simp [p01,p02,ll5,hM0',hM0'',em,ek,pk1,pk2]
  obtain ⟨z,hz⟩:∃z,z=IntKind.i64.wrap (y.2[k]+1):=⟨_,rfl⟩
  have hne:z≠y.2[k]:=by rw [hz];simp only [IntKind.wrap_i64];omega
  obtain ⟨H6,s6,o6,c6,l6⟩:=oi5.1.put1 (P:=Tryz.prog) (frz:=H.length) rfl (et:=3) (ag:=false) (by simp) (j:=k) (x:=.int .i64 z) (y:=z) (by omega) rfl rfl rfl (fun i hi=>by have:=mi i hi;omega)
  have hzs:=hz.symm
  simp only [hzs]
  simp [s6]
  have b6:=Qa b5 c6 (fun hh=>by have:=mi _ hh;omega)
  have ov6:=Dt.chg (T:=dChip) ov5 c6 (fun i hi hh=>by have:=dChip.lt ov i hi;have:=mi _ hh;omega)
  have ol6:=Dt.chg (T:=dAct) ol5 c6 (fun i hi hh=>by have:=dAct.lt ol i hi;have:=mi _ hh;omega)
  have o6':dIntS.Ow H6 vi (y.2.set k z):=⟨o6,by rw [List.length_set];omega⟩
  have ir6:=fun F=>Uw (frz:=F) ov6 ol6 o6' h9
  have no:¬isReplay a l (y.2.set k z):=fun q=>by
   have e:=q.2
   rw [← hy] at e
   have:=congrArg (fun t:List Int=>t.getD k 0) e
   simp only [List.getD_eq_getElem?_getD] at this
   rw [List.getElem?_set_self (by omega),List.getElem?_eq_getElem (by omega)] at this
   exact hne this.symm
  simp only [Qj] at ir6
  have b6':=b6
  unfold chipCells netCells at b6'
  simp only [List.cons_append,List.nil_append] at b6'
  simp [VM.look,b6',o1,o2,ir6,no]
theorem law_FnReplays {a0:List Int} {u0:Value} (s0:IsS (Kn.int .u8) H u0 a0)
 (w0:a0.length≤maxLen∧∀x1∈a0,(Lit.int .u8 x1).wf=true) :
 vcall C frz 5 [u0] H=some (.bool true,H):=(law_FnReplays_w s0 w0).exact (by simp) rfl
end Go.Proofs.YtlhaeingdonaeaaGreat.V
