/- Texts of a proof, joined. -/
import Derived.Test.YtmddnnecgnpccaaGreatKM0
import Derived.Test.YtmddnnecgnpccaaGreatKM1
import Derived.Test.YtmddnnecgnpccaaGreatKFnChipSends0
set_option linter.all false
namespace Go.Proofs.YtmddnnecgnpccaaGreat.V
open Go Go.VM Go.Proofs
set_option maxRecDepth 10000
variable {frz:Nat} {H:Heap}
theorem Pv (v1 v2:Value) (A B:List Int) (h1:IsI H v1 A) (h2:IsI H v2 B) (l1:A.length≤1073741824) (l2:B.length≤1073741824) :
 wp (vcall C frz 56 [.agg #[v1,v2]] H) (dClasses.Made H (A,B)):=by
 rw [Qb (fn:=Tryz.f56) Tryz.func56 rfl (by kernel_rfl) rfl]
 have one:=And.intro (And.intro h1.one' h1.cells) (And.intro h2.one' h2.cells)
 simp [one]
 try rw [Qp (h:=by kernel_rfl)]
 simp [one]
 refine Qd (T4 v1 A (h1.app _) l1) ?_
 rintro _ H1 ⟨u1,rfl,o1,c1,n1,d1⟩
 have b0:H1[H.length]? = some ⟨[v1,v2],0,32⟩:=Qa (by simp) c1 (by simp)
 have bR:H1[H.length+1]? = some ⟨[.slice none 0 0,.slice none 0 0],0,32⟩:=Qa (by simp) c1 (by simp)
 have cH1:Chg H H1 []:=(Chg.app []).trans c1
 have lc:=c1.1
 simp at n1 lc
 have onu:=Xh o1
 have lt1:=dTable.lt o1
 simp [Xk,VM.look,b0,one]
 refine Qd (T4 v2 B (Rd.isI (h2.rd.chg cH1 (by simp))) l2) ?_
 rintro _ H2 ⟨u2,rfl,o2,c2,n2,d2⟩
 have bR:=Qa bR c2 (by simp)
 have o1:=Dt.chg0 (T:=dTable) o1 c2
 have onu2:=Xh o2
 have gR:=Qi (r':=⟨[u1,u2],0,32⟩) bR
 have hF:H.length≤H.length+1:=by omega
 have eR:Chg H2 (H2.set (H.length+1) ⟨[u1,u2],0,32⟩) [H.length+1]:=Ql _ _
 simp [Xk,VM.look,bR,onu,onu2,gR,hF]
 refine ⟨(u1,u2),rfl,⟨Dt.chg (T:=dTable) o1 eR (fun i hi hh=>by have:=n1 i hi;simp at hh;omega),Dt.chg (T:=dTable) o2 eR (fun i hi hh=>by have:=n2 i hi;simp at hh;omega)⟩,(cH1.trans c2).trans' eR (fun i hi=>.inr (by simp at hi;omega)),fun i hi=>?_,?_⟩
 ·rcases List.mem_append.1 hi with hi|hi
  ·have:=n1 i hi;omega
  ·have:=n2 i hi;omega
 ·exact List.nodup_append.2 ⟨d1,d2,fun a ha b hb e=>by have:=lt1 a ha;have:=n2 b hb;omega⟩
theorem Vr (v1 v2:Value) (A B:List Int) (h1:IsI H v1 A) (h2:IsI H v2 B) (l1:A.length≤1073741824) (l2:B.length≤1073741824) :
 wp (vcall C frz 74 [.agg #[v1,v2]] H) (dClasses.Made H (A,B)):=by
 rw [Qb (fn:=Tryz.f74) Tryz.func74 rfl (by kernel_rfl) rfl]
 have one:=And.intro (And.intro h1.one' h1.cells) (And.intro h2.one' h2.cells)
 simp [one]
 try rw [Qp (h:=by kernel_rfl)]
 simp [one]
 refine Qd (Ok v1 A (h1.app _) l1) ?_
 rintro _ H1 ⟨u1,rfl,o1,c1,n1,d1⟩
 have b0:H1[H.length]? = some ⟨[v1,v2],0,32⟩:=Qa (by simp) c1 (by simp)
 have bR:H1[H.length+1]? = some ⟨[.slice none 0 0,.slice none 0 0],0,32⟩:=Qa (by simp) c1 (by simp)
 have cH1:Chg H H1 []:=(Chg.app []).trans c1
 have lc:=c1.1
 simp at n1 lc
 have onu:=Xh o1
 have lt1:=dTable.lt o1
 simp [Xk,VM.look,b0,one]
 refine Qd (Ok v2 B (Rd.isI (h2.rd.chg cH1 (by simp))) l2) ?_
 rintro _ H2 ⟨u2,rfl,o2,c2,n2,d2⟩
 have bR:=Qa bR c2 (by simp)
 have o1:=Dt.chg0 (T:=dTable) o1 c2
 have onu2:=Xh o2
 have gR:=Qi (r':=⟨[u1,u2],0,32⟩) bR
 have hF:H.length≤H.length+1:=by omega
 have eR:Chg H2 (H2.set (H.length+1) ⟨[u1,u2],0,32⟩) [H.length+1]:=Ql _ _
 simp [Xk,VM.look,bR,onu,onu2,gR,hF]
 refine ⟨(u1,u2),rfl,⟨Dt.chg (T:=dTable) o1 eR (fun i hi hh=>by have:=n1 i hi;simp at hh;omega),Dt.chg (T:=dTable) o2 eR (fun i hi hh=>by have:=n2 i hi;simp at hh;omega)⟩,(cH1.trans c2).trans' eR (fun i hi=>.inr (by simp at hi;omega)),fun i hi=>?_,?_⟩
 ·rcases List.mem_append.1 hi with hi|hi
  ·have:=n1 i hi;omega
  ·have:=n2 i hi;omega
 ·exact List.nodup_append.2 ⟨d1,d2,fun a ha b hb e=>by have:=lt1 a ha;have:=n2 b hb;omega⟩
theorem O7 {v:NetV} {x:NetD} (o:dNet.Ow H v x):wp (vcall C frz 29 [dNet.val v x] H) (dNet.Made H x):=by
 have ones:=Qh o
 obtain ⟨u2,⟨u3,u4⟩,⟨u5,h5⟩,u6,u7,⟨u8,h8⟩,⟨u9,h9⟩,_⟩:=v
 obtain ⟨⟨w,h,b⟩,⟨A,B⟩,buf,own,turn,src,arr,tm⟩:=x
 obtain ⟨y1,y2,y3,y4,y5,y6,y7,_⟩:=o
 simp only at y1 y2 y3 y4 y5 y6 y7 ones
 rw [Qc]
 rw [Qb (fn:=Tryz.f29) Tryz.func29 rfl (by kernel_rfl) rfl]
 have hF:H.length≤H.length+1:=by omega
 simp [ones]
 rw [Yg (h:=⟨by kernel_rfl,by kernel_rfl⟩)]
 obtain ⟨G0,hG0⟩:∃G,G=H++[⟨[.int .i64 w,.int .i64 h,u2,u3,u4,u5,u6,u7,u8,u9,.int .i64 tm],0,35⟩,⟨[.int .i64 0,.int .i64 0,.slice none 0 0,.slice none 0 0,.slice none 0 0,.slice none 0 0,.slice none 0 0,.slice none 0 0,.slice none 0 0,.slice none 0 0,.int .i64 0],0,35⟩]:=⟨_,rfl⟩
 have b0:G0[H.length]? = some ⟨[.int .i64 w,.int .i64 h,u2,u3,u4,u5,u6,u7,u8,u9,.int .i64 tm],0,35⟩:=by rw [hG0];simp
 have bR:G0[H.length+1]? = some ⟨[.int .i64 0,.int .i64 0,.slice none 0 0,.slice none 0 0,.slice none 0 0,.slice none 0 0,.slice none 0 0,.slice none 0 0,.slice none 0 0,.slice none 0 0,.int .i64 0],0,35⟩:=by rw [hG0];simp
 have cH:Chg H G0 []:=by rw [hG0];exact Chg.app []
 have lH:H.length+2≤G0.length:=by rw [hG0];simp
 rw [← hG0]
 clear hG0
 have z1:dMesh.Ow G0 u2 (w,h,b):=Dt.chg0 y1 cH
 have z2:dClasses.Ow G0 (u3,u4) (A,B):=Dt.chg0 y2 cH
 have z3:dSS.Ow G0 (u5,h5) buf:=Dt.chg0 y3 cH
 have z4:dIntS.Ow G0 u6 own:=Dt.chg0 y4 cH
 have z5:dIntS.Ow G0 u7 turn:=Dt.chg0 y5 cH
 have z6:dSS.Ow G0 (u8,h8) src:=Dt.chg0 y6 cH
 have z7:dSS.Ow G0 (u9,h9) arr:=Dt.chg0 y7 cH
 clear y1 y2 y3 y4 y5 y6 y7
 simp [emps,empOp,empB,VM.look,b0,ones]
 refine Qd (Ik w h u2 b z1.1.rd.isI z1.2) ?_
 rintro _ G1 ⟨n1,rfl,o1,c1,m1,d1⟩
 have q1:=Y5 o1
 have lt1:=dMesh.lt o1
 have lc1:=c1.1
 have b0:=Qa b0 c1 (by simp)
 have bR:=Qa bR c1 (by simp)
 have cH:=cH.trans c1
 have z2:=Dt.chg0 (T:=dClasses) z2 c1
 have z3:=Dt.chg0 (T:=dSS) z3 c1
 have z4:=Dt.chg0 (T:=dIntS) z4 c1
 have z5:=Dt.chg0 (T:=dIntS) z5 c1
 have z6:=Dt.chg0 (T:=dSS) z6 c1
 have z7:=Dt.chg0 (T:=dSS) z7 c1
 try simp [-Qe,Ys,VM.look,b0,ones]
 refine Qd (Pv u3 u4 A B z2.1.1.rd.isI z2.2.1.rd.isI z2.1.2 z2.2.2) ?_
 rintro _ G2 ⟨n2,rfl,o2,c2,m2,d2⟩
 have q2:=Wr o2
 have lt2:=dClasses.lt o2
 have lc2:=c2.1
 have b0:=Qa b0 c2 (by simp)
 have bR:=Qa bR c2 (by simp)
 have cH:=cH.trans c2
 have z3:=Dt.chg0 (T:=dSS) z3 c2
 have z4:=Dt.chg0 (T:=dIntS) z4 c2
 have z5:=Dt.chg0 (T:=dIntS) z5 c2
 have z6:=Dt.chg0 (T:=dSS) z6 c2
 have z7:=Dt.chg0 (T:=dSS) z7 c2
 have o1:=Dt.chg0 (T:=dMesh) o1 c2
 try simp [-Qe,Wo,VM.look,b0,ones]
 refine Qd (Zs u5 h5 buf z3.1.rd z3.2.1 z3.2.2) ?_
 rintro _ G3 ⟨n3,rfl,o3,c3,m3,d3⟩
 have q3:=Xy o3
 have lt3:=dSS.lt o3
 have lc3:=c3.1
 have b0:=Qa b0 c3 (by simp)
 have bR:=Qa bR c3 (by simp)
 have cH:=cH.trans c3
 have z4:=Dt.chg0 (T:=dIntS) z4 c3
 have z5:=Dt.chg0 (T:=dIntS) z5 c3
 have z6:=Dt.chg0 (T:=dSS) z6 c3
 have z7:=Dt.chg0 (T:=dSS) z7 c3
 have o1:=Dt.chg0 (T:=dMesh) o1 c3
 have o2:=Dt.chg0 (T:=dClasses) o2 c3
 try simp [-Qe,show dSS.val n3 buf=n3.1 from rfl,VM.look,b0,ones]
 obtain ⟨n4,L4,hap4,o4,m4⟩:=Ue (frz:=H.length) u6 own z4.1.rd z4.2
 have c4:Chg G3 (G3++L4) []:=Chg.app _
 have d4:=Qw n4
 have q4:=Xi o4
 simp [-Qe,hap4,VM.look]
 generalize G3++L4=G4 at *
 have lt4:=dIntS.lt o4
 have lc4:=c4.1
 have b0:=Qa b0 c4 (by simp)
 have bR:=Qa bR c4 (by simp)
 have cH:=cH.trans c4
 have z5:=Dt.chg0 (T:=dIntS) z5 c4
 have z6:=Dt.chg0 (T:=dSS) z6 c4
 have z7:=Dt.chg0 (T:=dSS) z7 c4
 have o1:=Dt.chg0 (T:=dMesh) o1 c4
 have o2:=Dt.chg0 (T:=dClasses) o2 c4
 have o3:=Dt.chg0 (T:=dSS) o3 c4
 try simp [-Qe,VM.look,b0,ones]
 obtain ⟨n5,L5,hap5,o5,m5⟩:=Ue (frz:=H.length) u7 turn z5.1.rd z5.2
 have c5:Chg G4 (G4++L5) []:=Chg.app _
 have d5:=Qw n5
 have q5:=Xi o5
 simp [-Qe,hap5,VM.look]
 generalize G4++L5=G5 at *
 have lt5:=dIntS.lt o5
 have lc5:=c5.1
 have b0:=Qa b0 c5 (by simp)
 have bR:=Qa bR c5 (by simp)
 have cH:=cH.trans c5
 have z6:=Dt.chg0 (T:=dSS) z6 c5
 have z7:=Dt.chg0 (T:=dSS) z7 c5
 have o1:=Dt.chg0 (T:=dMesh) o1 c5
 have o2:=Dt.chg0 (T:=dClasses) o2 c5
 have o3:=Dt.chg0 (T:=dSS) o3 c5
 have o4:=Dt.chg0 (T:=dIntS) o4 c5
 try simp [-Qe,VM.look,b0,ones]
 refine Qd (Zs u8 h8 src z6.1.rd z6.2.1 z6.2.2) ?_
 rintro _ G6 ⟨n6,rfl,o6,c6,m6,d6⟩
 have q6:=Xy o6
 have lt6:=dSS.lt o6
 have lc6:=c6.1
 have b0:=Qa b0 c6 (by simp)
 have bR:=Qa bR c6 (by simp)
 have cH:=cH.trans c6
 have z7:=Dt.chg0 (T:=dSS) z7 c6
 have o1:=Dt.chg0 (T:=dMesh) o1 c6
 have o2:=Dt.chg0 (T:=dClasses) o2 c6
 have o3:=Dt.chg0 (T:=dSS) o3 c6
 have o4:=Dt.chg0 (T:=dIntS) o4 c6
 have o5:=Dt.chg0 (T:=dIntS) o5 c6
 try simp [-Qe,show dSS.val n6 src=n6.1 from rfl,VM.look,b0,ones]
 refine Qd (Zs u9 h9 arr z7.1.rd z7.2.1 z7.2.2) ?_
 rintro _ G7 ⟨n7,rfl,o7,c7,m7,d7⟩
 have q7:=Xy o7
 have lt7:=dSS.lt o7
 have lc7:=c7.1
 have b0:=Qa b0 c7 (by simp)
 have bR:=Qa bR c7 (by simp)
 have cH:=cH.trans c7
 have o1:=Dt.chg0 (T:=dMesh) o1 c7
 have o2:=Dt.chg0 (T:=dClasses) o2 c7
 have o3:=Dt.chg0 (T:=dSS) o3 c7
 have o4:=Dt.chg0 (T:=dIntS) o4 c7
 have o5:=Dt.chg0 (T:=dIntS) o5 c7
 have o6:=Dt.chg0 (T:=dSS) o6 c7
 have gR:=Qi (r':=⟨[.int .i64 w,.int .i64 h,n1,n2.1,n2.2,n3.1,n4,n5,n6.1,n7.1,.int .i64 tm],0,35⟩) bR
 have eR:Chg G7 (G7.set (H.length+1) ⟨[.int .i64 w,.int .i64 h,n1,n2.1,n2.2,n3.1,n4,n5,n6.1,n7.1,.int .i64 tm],0,35⟩) [H.length+1]:=Ql _ _
 have o1:=Dt.chg (T:=dMesh) o1 eR (fun i hi hh=>by have:=m1 i hi;simp at hh;omega)
 have o2:=Dt.chg (T:=dClasses) o2 eR (fun i hi hh=>by have:=m2 i hi;simp at hh;omega)
 have o3:=Dt.chg (T:=dSS) o3 eR (fun i hi hh=>by have:=m3 i hi;simp at hh;omega)
 have o4:=Dt.chg (T:=dIntS) o4 eR (fun i hi hh=>by have:=m4 i hi;simp at hh;omega)
 have o5:=Dt.chg (T:=dIntS) o5 eR (fun i hi hh=>by have:=m5 i hi;simp at hh;omega)
 have o6:=Dt.chg (T:=dSS) o6 eR (fun i hi hh=>by have:=m6 i hi;simp at hh;omega)
 have o7:=Dt.chg (T:=dSS) o7 eR (fun i hi hh=>by have:=m7 i hi;simp at hh;omega)
 have cH:=cH.trans' eR (fun i hi=>.inr (by simp at hi;omega))
 simp [show dSS.val n7 arr=n7.1 from rfl,VM.look,b0,bR,gR,hF,q1,q2,q3,q4,q5,q6,q7]
 refine ⟨(n1,n2,n3,n4,n5,n6,n7,()),rfl,⟨o1,o2,o3,o4,o5,o6,o7,trivial⟩,cH,fun i hi=>?_,?_⟩
 ·rcases List.mem_append.1 hi with hi|hi
  ·have:=m1 i hi;omega
  rcases List.mem_append.1 hi with hi|hi
  ·have:=m2 i hi;omega
  rcases List.mem_append.1 hi with hi|hi
  ·have:=m3 i hi;omega
  rcases List.mem_append.1 hi with hi|hi
  ·have:=m4 i hi;omega
  rcases List.mem_append.1 hi with hi|hi
  ·have:=m5 i hi;omega
  rcases List.mem_append.1 hi with hi|hi
  ·have:=m6 i hi;omega
  rcases List.mem_append.1 hi with hi|hi
  ·have:=m7 i hi;omega
  ·simp [dNone] at hi
 ·have z7:(dSS.ids n7++[]).Nodup∧∀i∈dSS.ids n7++[],G6.length≤i:=⟨by simpa using d7,fun i hi=>by simp at hi;have:=m7 i hi;omega⟩
  have z6:(dSS.ids n6++(dSS.ids n7++[])).Nodup∧∀i∈dSS.ids n6++(dSS.ids n7++[]),G5.length≤i:=⟨Wv d6 z7.1 lt6 z7.2,fun i hi=>by rcases List.mem_append.1 hi with hi|hi;(have:=m6 i hi;omega);(have:=z7.2 i hi;omega)⟩
  have z5:(dIntS.ids n5++(dSS.ids n6++(dSS.ids n7++[]))).Nodup∧∀i∈dIntS.ids n5++(dSS.ids n6++(dSS.ids n7++[])),G4.length≤i:=⟨Wv d5 z6.1 lt5 z6.2,fun i hi=>by rcases List.mem_append.1 hi with hi|hi;(have:=m5 i hi;omega);(have:=z6.2 i hi;omega)⟩
  have z4:(dIntS.ids n4++(dIntS.ids n5++(dSS.ids n6++(dSS.ids n7++[])))).Nodup∧∀i∈dIntS.ids n4++(dIntS.ids n5++(dSS.ids n6++(dSS.ids n7++[]))),G3.length≤i:=⟨Wv d4 z5.1 lt4 z5.2,fun i hi=>by rcases List.mem_append.1 hi with hi|hi;(have:=m4 i hi;omega);(have:=z5.2 i hi;omega)⟩
  have z3:(dSS.ids n3++(dIntS.ids n4++(dIntS.ids n5++(dSS.ids n6++(dSS.ids n7++[]))))).Nodup∧∀i∈dSS.ids n3++(dIntS.ids n4++(dIntS.ids n5++(dSS.ids n6++(dSS.ids n7++[])))),G2.length≤i:=⟨Wv d3 z4.1 lt3 z4.2,fun i hi=>by rcases List.mem_append.1 hi with hi|hi;(have:=m3 i hi;omega);(have:=z4.2 i hi;omega)⟩
  have z2:(dClasses.ids n2++(dSS.ids n3++(dIntS.ids n4++(dIntS.ids n5++(dSS.ids n6++(dSS.ids n7++[])))))).Nodup∧∀i∈dClasses.ids n2++(dSS.ids n3++(dIntS.ids n4++(dIntS.ids n5++(dSS.ids n6++(dSS.ids n7++[]))))),G1.length≤i:=⟨Wv d2 z3.1 lt2 z3.2,fun i hi=>by rcases List.mem_append.1 hi with hi|hi;(have:=m2 i hi;omega);(have:=z3.2 i hi;omega)⟩
  exact Wv d1 z2.1 lt1 z2.2
theorem Y1 {v:NetV} {x:NetD} (o:dNet.Ow H v x):wp (vcall C frz 75 [dNet.val v x] H) (dNet.Made H x):=by
 have ones:=Qh o
 obtain ⟨u2,⟨u3,u4⟩,⟨u5,h5⟩,u6,u7,⟨u8,h8⟩,⟨u9,h9⟩,_⟩:=v
 obtain ⟨⟨w,h,b⟩,⟨A,B⟩,buf,own,turn,src,arr,tm⟩:=x
 obtain ⟨y1,y2,y3,y4,y5,y6,y7,_⟩:=o
 simp only at y1 y2 y3 y4 y5 y6 y7 ones
 rw [Qc]
 rw [Qb (fn:=Tryz.f75) Tryz.func75 rfl (by kernel_rfl) rfl]
 have hF:H.length≤H.length+1:=by omega
 simp [ones]
 rw [Yg (h:=⟨by kernel_rfl,by kernel_rfl⟩)]
 obtain ⟨G0,hG0⟩:∃G,G=H++[⟨[.int .i64 w,.int .i64 h,u2,u3,u4,u5,u6,u7,u8,u9,.int .i64 tm],0,35⟩,⟨[.int .i64 0,.int .i64 0,.slice none 0 0,.slice none 0 0,.slice none 0 0,.slice none 0 0,.slice none 0 0,.slice none 0 0,.slice none 0 0,.slice none 0 0,.int .i64 0],0,35⟩]:=⟨_,rfl⟩
 have b0:G0[H.length]? = some ⟨[.int .i64 w,.int .i64 h,u2,u3,u4,u5,u6,u7,u8,u9,.int .i64 tm],0,35⟩:=by rw [hG0];simp
 have bR:G0[H.length+1]? = some ⟨[.int .i64 0,.int .i64 0,.slice none 0 0,.slice none 0 0,.slice none 0 0,.slice none 0 0,.slice none 0 0,.slice none 0 0,.slice none 0 0,.slice none 0 0,.int .i64 0],0,35⟩:=by rw [hG0];simp
 have cH:Chg H G0 []:=by rw [hG0];exact Chg.app []
 have lH:H.length+2≤G0.length:=by rw [hG0];simp
 rw [← hG0]
 clear hG0
 have z1:dMesh.Ow G0 u2 (w,h,b):=Dt.chg0 y1 cH
 have z2:dClasses.Ow G0 (u3,u4) (A,B):=Dt.chg0 y2 cH
 have z3:dSS.Ow G0 (u5,h5) buf:=Dt.chg0 y3 cH
 have z4:dIntS.Ow G0 u6 own:=Dt.chg0 y4 cH
 have z5:dIntS.Ow G0 u7 turn:=Dt.chg0 y5 cH
 have z6:dSS.Ow G0 (u8,h8) src:=Dt.chg0 y6 cH
 have z7:dSS.Ow G0 (u9,h9) arr:=Dt.chg0 y7 cH
 clear y1 y2 y3 y4 y5 y6 y7
 simp [emps,empOp,empB,VM.look,b0,ones]
 refine Qd (O3 w h u2 b z1.1.rd.isI z1.2) ?_
 rintro _ G1 ⟨n1,rfl,o1,c1,m1,d1⟩
 have q1:=Y5 o1
 have lt1:=dMesh.lt o1
 have lc1:=c1.1
 have b0:=Qa b0 c1 (by simp)
 have bR:=Qa bR c1 (by simp)
 have cH:=cH.trans c1
 have z2:=Dt.chg0 (T:=dClasses) z2 c1
 have z3:=Dt.chg0 (T:=dSS) z3 c1
 have z4:=Dt.chg0 (T:=dIntS) z4 c1
 have z5:=Dt.chg0 (T:=dIntS) z5 c1
 have z6:=Dt.chg0 (T:=dSS) z6 c1
 have z7:=Dt.chg0 (T:=dSS) z7 c1
 try simp [-Qe,Ys,VM.look,b0,ones]
 refine Qd (Vr u3 u4 A B z2.1.1.rd.isI z2.2.1.rd.isI z2.1.2 z2.2.2) ?_
 rintro _ G2 ⟨n2,rfl,o2,c2,m2,d2⟩
 have q2:=Wr o2
 have lt2:=dClasses.lt o2
 have lc2:=c2.1
 have b0:=Qa b0 c2 (by simp)
 have bR:=Qa bR c2 (by simp)
 have cH:=cH.trans c2
 have z3:=Dt.chg0 (T:=dSS) z3 c2
 have z4:=Dt.chg0 (T:=dIntS) z4 c2
 have z5:=Dt.chg0 (T:=dIntS) z5 c2
 have z6:=Dt.chg0 (T:=dSS) z6 c2
 have z7:=Dt.chg0 (T:=dSS) z7 c2
 have o1:=Dt.chg0 (T:=dMesh) o1 c2
 try simp [-Qe,Wo,VM.look,b0,ones]
 refine Qd (U3 u5 h5 buf z3.1.rd z3.2.1 z3.2.2) ?_
 rintro _ G3 ⟨n3,rfl,o3,c3,m3,d3⟩
 have q3:=Xy o3
 have lt3:=dSS.lt o3
 have lc3:=c3.1
 have b0:=Qa b0 c3 (by simp)
 have bR:=Qa bR c3 (by simp)
 have cH:=cH.trans c3
 have z4:=Dt.chg0 (T:=dIntS) z4 c3
 have z5:=Dt.chg0 (T:=dIntS) z5 c3
 have z6:=Dt.chg0 (T:=dSS) z6 c3
 have z7:=Dt.chg0 (T:=dSS) z7 c3
 have o1:=Dt.chg0 (T:=dMesh) o1 c3
 have o2:=Dt.chg0 (T:=dClasses) o2 c3
 try simp [-Qe,show dSS.val n3 buf=n3.1 from rfl,VM.look,b0,ones]
 obtain ⟨n4,L4,hap4,o4,m4⟩:=Ue (frz:=H.length) u6 own z4.1.rd z4.2
 have c4:Chg G3 (G3++L4) []:=Chg.app _
 have d4:=Qw n4
 have q4:=Xi o4
 simp [-Qe,hap4,VM.look]
 generalize G3++L4=G4 at *
 have lt4:=dIntS.lt o4
 have lc4:=c4.1
 have b0:=Qa b0 c4 (by simp)
 have bR:=Qa bR c4 (by simp)
 have cH:=cH.trans c4
 have z5:=Dt.chg0 (T:=dIntS) z5 c4
 have z6:=Dt.chg0 (T:=dSS) z6 c4
 have z7:=Dt.chg0 (T:=dSS) z7 c4
 have o1:=Dt.chg0 (T:=dMesh) o1 c4
 have o2:=Dt.chg0 (T:=dClasses) o2 c4
 have o3:=Dt.chg0 (T:=dSS) o3 c4
 try simp [-Qe,VM.look,b0,ones]
 obtain ⟨n5,L5,hap5,o5,m5⟩:=Ue (frz:=H.length) u7 turn z5.1.rd z5.2
 have c5:Chg G4 (G4++L5) []:=Chg.app _
 have d5:=Qw n5
 have q5:=Xi o5
 simp [-Qe,hap5,VM.look]
 generalize G4++L5=G5 at *
 have lt5:=dIntS.lt o5
 have lc5:=c5.1
 have b0:=Qa b0 c5 (by simp)
 have bR:=Qa bR c5 (by simp)
 have cH:=cH.trans c5
 have z6:=Dt.chg0 (T:=dSS) z6 c5
 have z7:=Dt.chg0 (T:=dSS) z7 c5
 have o1:=Dt.chg0 (T:=dMesh) o1 c5
 have o2:=Dt.chg0 (T:=dClasses) o2 c5
 have o3:=Dt.chg0 (T:=dSS) o3 c5
 have o4:=Dt.chg0 (T:=dIntS) o4 c5
 try simp [-Qe,VM.look,b0,ones]
 refine Qd (U3 u8 h8 src z6.1.rd z6.2.1 z6.2.2) ?_
 rintro _ G6 ⟨n6,rfl,o6,c6,m6,d6⟩
 have q6:=Xy o6
 have lt6:=dSS.lt o6
 have lc6:=c6.1
 have b0:=Qa b0 c6 (by simp)
 have bR:=Qa bR c6 (by simp)
 have cH:=cH.trans c6
 have z7:=Dt.chg0 (T:=dSS) z7 c6
 have o1:=Dt.chg0 (T:=dMesh) o1 c6
 have o2:=Dt.chg0 (T:=dClasses) o2 c6
 have o3:=Dt.chg0 (T:=dSS) o3 c6
 have o4:=Dt.chg0 (T:=dIntS) o4 c6
 have o5:=Dt.chg0 (T:=dIntS) o5 c6
 try simp [-Qe,show dSS.val n6 src=n6.1 from rfl,VM.look,b0,ones]
 refine Qd (U3 u9 h9 arr z7.1.rd z7.2.1 z7.2.2) ?_
 rintro _ G7 ⟨n7,rfl,o7,c7,m7,d7⟩
 have q7:=Xy o7
 have lt7:=dSS.lt o7
 have lc7:=c7.1
 have b0:=Qa b0 c7 (by simp)
 have bR:=Qa bR c7 (by simp)
 have cH:=cH.trans c7
 have o1:=Dt.chg0 (T:=dMesh) o1 c7
 have o2:=Dt.chg0 (T:=dClasses) o2 c7
 have o3:=Dt.chg0 (T:=dSS) o3 c7
 have o4:=Dt.chg0 (T:=dIntS) o4 c7
 have o5:=Dt.chg0 (T:=dIntS) o5 c7
 have o6:=Dt.chg0 (T:=dSS) o6 c7
 have gR:=Qi (r':=⟨[.int .i64 w,.int .i64 h,n1,n2.1,n2.2,n3.1,n4,n5,n6.1,n7.1,.int .i64 tm],0,35⟩) bR
 have eR:Chg G7 (G7.set (H.length+1) ⟨[.int .i64 w,.int .i64 h,n1,n2.1,n2.2,n3.1,n4,n5,n6.1,n7.1,.int .i64 tm],0,35⟩) [H.length+1]:=Ql _ _
 have o1:=Dt.chg (T:=dMesh) o1 eR (fun i hi hh=>by have:=m1 i hi;simp at hh;omega)
 have o2:=Dt.chg (T:=dClasses) o2 eR (fun i hi hh=>by have:=m2 i hi;simp at hh;omega)
 have o3:=Dt.chg (T:=dSS) o3 eR (fun i hi hh=>by have:=m3 i hi;simp at hh;omega)
 have o4:=Dt.chg (T:=dIntS) o4 eR (fun i hi hh=>by have:=m4 i hi;simp at hh;omega)
 have o5:=Dt.chg (T:=dIntS) o5 eR (fun i hi hh=>by have:=m5 i hi;simp at hh;omega)
 have o6:=Dt.chg (T:=dSS) o6 eR (fun i hi hh=>by have:=m6 i hi;simp at hh;omega)
 have o7:=Dt.chg (T:=dSS) o7 eR (fun i hi hh=>by have:=m7 i hi;simp at hh;omega)
 have cH:=cH.trans' eR (fun i hi=>.inr (by simp at hi;omega))
 simp [show dSS.val n7 arr=n7.1 from rfl,VM.look,b0,bR,gR,hF,q1,q2,q3,q4,q5,q6,q7]
 refine ⟨(n1,n2,n3,n4,n5,n6,n7,()),rfl,⟨o1,o2,o3,o4,o5,o6,o7,trivial⟩,cH,fun i hi=>?_,?_⟩
 ·rcases List.mem_append.1 hi with hi|hi
  ·have:=m1 i hi;omega
  rcases List.mem_append.1 hi with hi|hi
  ·have:=m2 i hi;omega
  rcases List.mem_append.1 hi with hi|hi
  ·have:=m3 i hi;omega
  rcases List.mem_append.1 hi with hi|hi
  ·have:=m4 i hi;omega
  rcases List.mem_append.1 hi with hi|hi
  ·have:=m5 i hi;omega
  rcases List.mem_append.1 hi with hi|hi
  ·have:=m6 i hi;omega
  rcases List.mem_append.1 hi with hi|hi
  ·have:=m7 i hi;omega
  ·simp [dNone] at hi
 ·have z7:(dSS.ids n7++[]).Nodup∧∀i∈dSS.ids n7++[],G6.length≤i:=⟨by simpa using d7,fun i hi=>by simp at hi;have:=m7 i hi;omega⟩
  have z6:(dSS.ids n6++(dSS.ids n7++[])).Nodup∧∀i∈dSS.ids n6++(dSS.ids n7++[]),G5.length≤i:=⟨Wv d6 z7.1 lt6 z7.2,fun i hi=>by rcases List.mem_append.1 hi with hi|hi;(have:=m6 i hi;omega);(have:=z7.2 i hi;omega)⟩
  have z5:(dIntS.ids n5++(dSS.ids n6++(dSS.ids n7++[]))).Nodup∧∀i∈dIntS.ids n5++(dSS.ids n6++(dSS.ids n7++[])),G4.length≤i:=⟨Wv d5 z6.1 lt5 z6.2,fun i hi=>by rcases List.mem_append.1 hi with hi|hi;(have:=m5 i hi;omega);(have:=z6.2 i hi;omega)⟩
  have z4:(dIntS.ids n4++(dIntS.ids n5++(dSS.ids n6++(dSS.ids n7++[])))).Nodup∧∀i∈dIntS.ids n4++(dIntS.ids n5++(dSS.ids n6++(dSS.ids n7++[]))),G3.length≤i:=⟨Wv d4 z5.1 lt4 z5.2,fun i hi=>by rcases List.mem_append.1 hi with hi|hi;(have:=m4 i hi;omega);(have:=z5.2 i hi;omega)⟩
  have z3:(dSS.ids n3++(dIntS.ids n4++(dIntS.ids n5++(dSS.ids n6++(dSS.ids n7++[]))))).Nodup∧∀i∈dSS.ids n3++(dIntS.ids n4++(dIntS.ids n5++(dSS.ids n6++(dSS.ids n7++[])))),G2.length≤i:=⟨Wv d3 z4.1 lt3 z4.2,fun i hi=>by rcases List.mem_append.1 hi with hi|hi;(have:=m3 i hi;omega);(have:=z4.2 i hi;omega)⟩
  have z2:(dClasses.ids n2++(dSS.ids n3++(dIntS.ids n4++(dIntS.ids n5++(dSS.ids n6++(dSS.ids n7++[])))))).Nodup∧∀i∈dClasses.ids n2++(dSS.ids n3++(dIntS.ids n4++(dIntS.ids n5++(dSS.ids n6++(dSS.ids n7++[]))))),G1.length≤i:=⟨Wv d2 z3.1 lt2 z3.2,fun i hi=>by rcases List.mem_append.1 hi with hi|hi;(have:=m2 i hi;omega);(have:=z3.2 i hi;omega)⟩
  exact Wv d1 z2.1 lt1 z2.2
def flits (a:SSD):Nat:=ahead a a.length
def idle (x:NetD):Prop:=flits x.2.2.1=0∧flits x.2.2.2.2.2.1=0
instance (x:NetD):Decidable (idle x):=inferInstanceAs (Decidable (_∧_))
def idleOk (x:NetD):Prop:=netOk x∧idle x
instance (x:NetD):Decidable (idleOk x):=inferInstanceAs (Decidable (_∧_))
theorem Mq {v:SSV} {a:SSD} (h:dSS.Ow H v a):vcall C frz 119 [v.1] H=some (.int .i64 (flits a),H):=by
 refine wp.exact (by simp) ?_ rfl
 rw [Qb (fn:=Tryz.f119) Tryz.func119 rfl (by kernel_rfl) rfl]
 obtain ⟨ho,h1,h2⟩:=h
 have rd:=ho.rd
 have ll:=rd.1.len (P:=Tryz.prog) (ty:=33) (by simp)
 have el:=rd.2.1
 rw [el] at ll
 simp
 refine Qm (fun m t H'=>∃i:Nat,m=a.length-i∧i≤a.length∧t 0=v.1∧t 3=.int .i64 (ahead a i)∧t 4=.int .i64 i∧H'=H) ?_ (n:=a.length) ⟨0,rfl,by omega,by simp,by simp [ahead],by simp,rfl⟩
 rintro m t H' ⟨i,rfl,hi,t0,t3,t4,rfl⟩ ih
 simp [t0,t3,t4,ll]
 refine Qf ?_ ?_<;>intro g
 ·have hi':i<a.length:=by omega
  obtain ⟨u,_,a2,a3,a4⟩:=Q9 rd (ty:=33) (e:=75) (by simp) (by simp) hi'
  have lu:=a4.len (P:=Tryz.prog) (ty:=75) (by simp)
  have al:=Lp a h2 i (by omega)
  have asx:=S3 a hi'
  have hm:=h2 _ (List.getElem_mem hi')
  have hg:a.getD i []=a[i]:=by simp [List.getD_eq_getElem?_getD,hi']
  rw [hg] at asx
  have w1:∀[Inhabited Unit],IntKind.i64.wrap ((ahead a i:Int)+(a[i].length:Int))=((ahead a (i+1):Nat):Int):=by intro _;rw [w64 (by omega) (by omega),asx];omega
  simp [t0,t3,t4,a2,a3,lu,w1]
  refine ih (a.length-(i+1)) _ _ ⟨i+1,rfl,by omega,by simp [t0],by simp,?_,rfl⟩ (by omega)
  simp;rw [w64 (by omega) (by omega)]
 ·have:i=a.length:=by omega
  subst this
  simp [t0,t3,t4,flits]
theorem F6 {v:NetV} {x:NetD} (o:dNet.Ow H v x):vcall C frz 103 [dNet.val v x] H=some (.bool (decide (idle x)),H):=by
 have ones:=Qh o
 obtain ⟨o2,o3,o5,o6,o7,o8,o9,_⟩:=o
 rw [Qc]
 rw [Qb (fn:=Tryz.f103) Tryz.func103 rfl (by kernel_rfl) rfl]
 have e1:=fun F L=>Mq (frz:=F) (H:=H++L) (Dt.app o5)
 have e2:=fun F L=>Mq (frz:=F) (H:=H++L) (Dt.app o8)
 have hi:idle x↔flits x.2.2.1=0∧flits x.2.2.2.2.2.1=0:=Iff.rfl
 by_cases g:flits x.2.2.1=0
 ·simp [ones,e1,e2,g,hi]
 ·simp [ones,e1,e2,g,hi]
end Go.Proofs.YtmddnnecgnpccaaGreat.V
set_option linter.all false
namespace Go.Proofs.YtmddnnecgnpccaaGreat.V
open Go Go.VM Go.Proofs
set_option maxRecDepth 10000
theorem Vk {α β:Type} {f:α→β} {l:List α} (nd:(l.map f).Nodup) {i:Nat} (h:i<l.length):f l[i]∉(l.take i).map f:=fun hh=>by
 have e:(l.take i).map f++(l.drop i).map f=l.map f:=by rw [← List.map_append,List.take_append_drop]
 rw [← e] at nd
 have hm:f l[i]∈(l.drop i).map f:=List.mem_map_of_mem (by rw [List.drop_eq_getElem_cons h];exact List.mem_cons_self ..)
 exact (List.nodup_append.1 nd).2.2 _ hh _ hm rfl
theorem Gw:∀(l:List GrD) (s:SSD) (j:Nat),j∉l.map frm→(l.foldl popS s).getD j []=s.getD j []
 | [],s,j,_=>rfl
 | g::l,s,j,h=>by
  rw [List.foldl_cons,Gw l _ j (fun hh=>h (List.mem_cons_of_mem _ hh)),popS,Qy]
  exact fun e=>h (e▸List.mem_cons_self ..)
theorem Nn:∀(l:List Nat) (s:SSD) (j:Nat),j∉l→(l.foldl srcS s).getD j []=s.getD j []
 | [],s,j,_=>rfl
 | g::l,s,j,h=>by
  rw [List.foldl_cons,Nn l _ j (fun hh=>h (List.mem_cons_of_mem _ hh)),srcS,Qy]
  exact fun e=>h (e▸List.mem_cons_self ..)
theorem C8 {x:NetD} {s:SSD} {g:GrD} {j:Nat} (h:s.getD j []≠[]):(pushS x s g).getD j []≠[]:=by
 unfold pushS
 split
 ·exact h
 ·by_cases e:tgt x g.1 g.2.1 (g.2.2%2)=j
  ·by_cases hl:j<s.length
   ·rw [← e] at hl ⊢;rw [Wd _ hl];simp
   ·simp [List.getD_eq_getElem?_getD,List.getElem?_eq_none (Nat.le_of_not_lt hl)] at h
  ·rw [Qy _ e];exact h
theorem Gq (x:NetD):∀(l:List GrD) (s:SSD) (j:Nat),j∉l.map frm→s.getD j []≠[]→(l.foldl (bothS x) s).getD j []≠[]
 | [],s,j,_,h=>h
 | g::l,s,j,h,hs=>by
  rw [List.foldl_cons]
  refine Gq x l _ j (fun hh=>h (List.mem_cons_of_mem _ hh)) ?_
  refine C8 ?_
  rw [popS,Qy]
  ·exact hs
  ·exact fun e=>h (e▸List.mem_cons_self ..)
theorem Zv {x:NetD} (h:netOk x):runOk x:=by
 obtain ⟨h1,h2,h3,h4,h5,h6,h7⟩:=h
 refine ⟨h1,h2,fun j f hf=>?_,fun j f hf=>?_,h6⟩
 ·by_cases hl:j<x.2.2.1.length
  ·obtain ⟨_,k2,k3⟩:=h3 j hl
   exact ⟨k2 f hf,k3 f hf⟩
  ·simp [List.getD_eq_getElem?_getD,List.getElem?_eq_none (Nat.le_of_not_lt hl)] at hf
 ·by_cases hl:j<x.2.2.2.2.2.1.length
  ·exact (h4 _ (Yh hl)).2 f hf
  ·simp [List.getD_eq_getElem?_getD,List.getElem?_eq_none (Nat.le_of_not_lt hl)] at hf
theorem I3 {w h:Int} {b T:List Int} (k:tableOk w h b T) {a c:Int} (ha:isN w h a) (hc:isN w h c):inR 0 (portOf w h T a c) 4:=by
 obtain ⟨h1,h2⟩:=k
 have ha':=ha
 have hc':=hc
 obtain ⟨a1,a2⟩:=ha'
 obtain ⟨c1,c2⟩:=hc'
 have e1:((a.toNat:Nat):Int)=a:=by omega
 have e2:((c.toNat:Nat):Int)=c:=by omega
 obtain ⟨g1,g2⟩:=h2 a.toNat (by omega) c.toNat (by omega)
 rw [e1] at g1 g2
 rw [e2] at g2
 by_cases e:a=c
 ·subst e;rw [g1 rfl];exact ⟨by omega,by omega⟩
 ·have hw:=g2 (fun hh=>e (by omega))
  by_cases so:stepOk w h b T a c
  ·exact ⟨so.1.1,by have:=so.1.2;omega⟩
  ·exfalso
   apply hw
   obtain ⟨f,hf⟩:∃f,(cnt w h).toNat=f+1:=⟨(cnt w h).toNat-1,by omega⟩
   unfold walk
   rw [hf]
   simp only [walkN]
   rw [if_neg so]
   split
   ·first|rfl|rw [if_neg e]
   ·rfl
def older (x:NetD) (k:Int):NetD:=(x.1,x.2.1,x.2.2.1,x.2.2.2.1,x.2.2.2.2.1,x.2.2.2.2.2.1,x.2.2.2.2.2.2.1,x.2.2.2.2.2.2.2+k)
theorem Ze {s:SSD} (h:flits s=0) (j:Nat):s.getD j []=[]:=by
 by_cases hl:j<s.length
 ·have:=It s _ (Yh hl)
  unfold flits ahead at h
  rw [List.take_length] at h
  exact List.length_eq_zero_iff.1 (by omega)
 ·simp [List.getD_eq_getElem?_getD,List.getElem?_eq_none (Nat.le_of_not_lt hl)]
theorem Tb {x:NetD} (h:idle x):stepN x=older x 1:=by
 have e1:allN x=[]:=List.eq_nil_iff_forall_not_mem.2 fun g hg=>Yn (W4 hg).2.2.2 (Ze h.1 _)
 have e2:enterN x=[]:=List.eq_nil_iff_forall_not_mem.2 fun k hk=>(Wu hk).2.1 (Ze h.2 _)
 unfold stepN
 rw [e1,e2]
 rfl
noncomputable def runN (x:NetD):Nat→NetD
 | 0=>x
 | k+1=>stepN (runN x k)
theorem Kc {x:NetD} (h:idle x):∀k,runN x k=older x k
 | 0=>by show x=older x (0:Nat);simp [older]
 | k+1=>by
  show stepN (runN x k)=_
  rw [Kc h k,Tb (x:=older x k) h]
  show (x.1,x.2.1,x.2.2.1,x.2.2.2.1,x.2.2.2.2.1,x.2.2.2.2.2.1,x.2.2.2.2.2.2.1,x.2.2.2.2.2.2.2+(k:Int)+1)=(x.1,x.2.1,x.2.2.1,x.2.2.2.1,x.2.2.2.2.1,x.2.2.2.2.2.1,x.2.2.2.2.2.2.1,x.2.2.2.2.2.2.2+((k+1:Nat):Int))
  rw [show x.2.2.2.2.2.2.2+(k:Int)+1=x.2.2.2.2.2.2.2+((k+1:Nat):Int) by omega]
theorem Gt (x:NetD) (i:Nat):∀k,runN x (i+k)=runN (runN x i) k
 | 0=>rfl
 | k+1=>by show stepN (runN x (i+k))=stepN (runN (runN x i) k);rw [Gt x i k]
theorem D2 {x:NetD} (h:runOk x):∀k,runOk (runN x k)
 | 0=>h
 | k+1=>Sz (D2 h k)
theorem Sy {x:NetD} {L:Nat} (h1:allL L x.2.2.1) (h2:allL L x.2.2.2.2.2.2.1):∀k,allL (L+96*k) (runN x k).2.2.1∧allL (L+96*k) (runN x k).2.2.2.2.2.2.1
 | 0=>⟨h1,h2⟩
 | k+1=>by
  obtain ⟨a,b⟩:=Sy h1 h2 k
  exact Eb (x:=runN x k) a b
theorem Vl (x:NetD):∀k:Nat,(runN x k).2.2.2.2.2.2.2=x.2.2.2.2.2.2.2+(k:Int)
 | 0=>by simp [runN]
 | k+1=>by
  show (runN x k).2.2.2.2.2.2.2+1=_
  rw [Vl x k];omega
end Go.Proofs.YtmddnnecgnpccaaGreat.V
set_option linter.all false
namespace Go.Proofs.YtmddnnecgnpccaaGreat.V
open Go Go.VM
set_option maxRecDepth 100000
def geoB:Bool:=(List.range 5).all fun w=>(List.range 5).all fun h=>(List.range 16).all fun a=>(List.range 4).all fun p=>
 decide (next (w:Int) h a p<0) || (decide (next w h (next w h a p) (opp p)=a)&&(decide (0≤opp p)&&(decide (opp p<4)&&(decide (next (w:Int) h a p≠a)&&decide (opp (opp p)=p)))))
theorem Ah:geoB=true:=by decide +kernel
theorem geo {w h a:Int} {p:Nat} (hp:p<4) (ha:isN w h a) (hu:0≤next w h a p):next w h (next w h a p) (opp p)=a∧0≤opp p∧opp p<4∧next w h a p≠a∧opp (opp p)=p:=by
 obtain ⟨⟨⟨a1,a2⟩,b1,b2⟩,c1,c2,c3⟩:=Rq ha
 have h0:=Ah
 unfold geoB at h0
 rw [List.all_eq_true] at h0
 have h1:=h0 w.toNat (by simp;omega)
 rw [List.all_eq_true] at h1
 have h2:=h1 h.toNat (by simp;omega)
 rw [List.all_eq_true] at h2
 have h3:=h2 a.toNat (by simp;omega)
 rw [List.all_eq_true] at h3
 have h4:=h3 p (by simp;omega)
 have e1:(w.toNat:Int)=w:=by omega
 have e2:(h.toNat:Int)=h:=by omega
 have e3:(a.toNat:Int)=a:=by omega
 rw [e1,e2,e3] at h4
 simp only [Bool.or_eq_true,Bool.and_eq_true,decide_eq_true_eq] at h4
 rcases h4 with h4|h4
 ·omega
 ·exact h4
structure VOut (w h:Int) (b:List Int) (a d:Int) (l:List Nat) (x y:List Int×List Int):Prop where
 keep:∀v,0≤v→0≤rd x.1 v→rd y.1 v=rd x.1 v
 new:∀v,isN w h v→rd x.1 v<0→0≤rd y.1 v→rd y.1 v=d∧v∈y.2∧∃p:Nat,p<4∧link w h b (4*a+p)∧next w h a p=v
 all:∀p∈l,link w h b (4*a+(p:Nat))→0≤rd y.1 (next w h a p)
 pre:∀v∈x.2,v∈y.2
 len:y.1.length=x.1.length
structure Inv2 (w h:Int) (b:List Int) (root:Int) (s rest nx:List Int):Prop where
 cl:∀v,isN w h v→0≤rd s v→v∉rest→v∉nx→∀p:Nat,p<4→link w h b (4*v+p)→0≤rd s (next w h v p)
 pre:∀v,isN w h v→0<rd s v→∃u,isN w h u∧rd s u=rd s v-1∧∃q:Nat,q<4∧link w h b (4*u+q)∧next w h u q=v
 zero:rd s root=0∧∀v,isN w h v→rd s v=0→v=root
section
variable {w h r:Int} {b:List Int} (hc:conn w h b) (hr:isN w h r)
include hc hr
end
end Go.Proofs.YtmddnnecgnpccaaGreat.V
set_option linter.all false
namespace Go.Proofs.YtmddnnecgnpccaaGreat.V
open Go Go.VM Go.Proofs
set_option maxRecDepth 10000
def key (g:GrD):Nat×Nat:=(g.1,g.2.1)
theorem Ol (x:NetD) (a:Nat):∀p,p≤5→((grTo x a p).1.map key).Nodup
 | 0,_=>by simp [grTo]
 | p+1,hp=>by
  have ih:=Ol x a p (by omega)
  obtain ⟨_,h2,_,_⟩:=Y8 x a p (by omega)
  rw [X8]
  unfold grStep
  generalize grTo x a p=st at *
  split
  ·rw [List.map_append]
   refine List.nodup_append.2 ⟨ih,by simp,fun y hy z hz e=>?_⟩
   obtain ⟨g,hg,rfl⟩:=List.mem_map.1 hy
   simp at hz
   have:=(h2 g hg).2.1
   rw [hz] at e
   unfold key at e
   simp only [Prod.mk.injEq] at e
   omega
  ·exact ih
theorem Yf (x:NetD):∀n,((allTo x n).map key).Nodup
 | 0=>by simp [allTo]
 | n+1=>by
  rw [Za,List.map_append]
  refine List.nodup_append.2 ⟨Yf x n,Ol x n 5 (by omega),fun y hy z hz e=>?_⟩
  obtain ⟨g,hg,rfl⟩:=List.mem_map.1 hy
  obtain ⟨g',hg',rfl⟩:=List.mem_map.1 hz
  have h1:=((Yx x n).1 g hg).1
  have h2:=((Y8 x n 5 (by omega)).at' g' hg').1
  unfold key at e
  simp only [Prod.mk.injEq] at e
  omega
theorem Gk {x:NetD} {a p c a' p' c':Nat} (h:has x.1.1 x.1.2.1 x.1.2.2 (4*(a:Int)+p)) (h':has x.1.1 x.1.2.1 x.1.2.2 (4*(a':Int)+p')) (hp:p<4) (hp':p'<4) (hc:c<2) (hc':c'<2)
 (ha:(a:Int)<cnt x.1.1 x.1.2.1) (ha':(a':Int)<cnt x.1.1 x.1.2.1) (e:tgt x a p c=tgt x a' p' c'):a=a'∧p=p':=by
 obtain ⟨u1,_,_⟩:=Xn (c:=c) h hp hc
 obtain ⟨v1,_,_⟩:=Xn (c:=c') h' hp' hc'
 obtain ⟨⟨n1,n2⟩,o1,o2⟩:=Zu (c:=c) h hp
 obtain ⟨⟨m1,m2⟩,q1,q2⟩:=Zu (c:=c') h' hp'
 obtain ⟨g1,_,_,_,g5⟩:=geo (w:=x.1.1) (h:=x.1.2.1) (a:=a) hp ⟨by omega,ha⟩ n1
 obtain ⟨k1,_,_,_,k5⟩:=geo (w:=x.1.1) (h:=x.1.2.1) (a:=a') hp' ⟨by omega,ha'⟩ m1
 have e1:next x.1.1 x.1.2.1 a p=next x.1.1 x.1.2.1 a' p':=by omega
 have e2:opp (p:Int)=opp (p':Int):=by omega
 rw [e1,e2] at g1
 rw [e2] at g5
 constructor<;>omega
theorem Dh (x:NetD):(allN x).Pairwise fun g g'=>g.2.1≠4→g'.2.1≠4→tgt x g.1 g.2.1 (g.2.2%2)≠tgt x g'.1 g'.2.1 (g'.2.2%2):=by
 have hk:(allN x).Pairwise fun g g'=>key g≠key g':=by
  have:=Yf x (cnt x.1.1 x.1.2.1).toNat
  exact List.pairwise_map.1 this
 refine hk.imp_of_mem fun {g g'} hg hg' hne h4 h4' e=>hne ?_
 obtain ⟨a1,a2,a3,a4⟩:=W4 hg
 obtain ⟨b1,b2,b3,b4⟩:=W4 hg'
 obtain ⟨hh,_⟩:=a4.2.1.resolve_left h4
 obtain ⟨hh',_⟩:=b4.2.1.resolve_left h4'
 obtain ⟨e1,e2⟩:=Gk hh hh' (by omega) (by omega) (by omega) (by omega) a1 b1 e
 unfold key;rw [e1,e2]
def gets (x:NetD) (M:List GrD) (j:Nat):Prop:=∃g∈M,g.2.1≠4∧tgt x g.1 g.2.1 (g.2.2%2)=j
theorem Bw (x:NetD) (s:SSD) (g:GrD) (j:Nat):((pushS x s g).getD j []).length≤(s.getD j []).length+1∧(¬(g.2.1≠4∧tgt x g.1 g.2.1 (g.2.2%2)=j)→(pushS x s g).getD j []=s.getD j []):=by
 unfold pushS
 split
 ·exact ⟨by omega,fun _=>rfl⟩
 ·rename_i h4
  by_cases e:tgt x g.1 g.2.1 (g.2.2%2)=j
  ·refine ⟨?_,fun k=>absurd ⟨h4,e⟩ k⟩
   rw [← e]
   by_cases hl:tgt x g.1 g.2.1 (g.2.2%2)<s.length
   ·rw [Wd _ hl];simp
   ·simp [upd,List.set_eq_of_length_le (Nat.le_of_not_lt hl)]
  ·rw [Qy _ e];exact ⟨by omega,fun _=>rfl⟩
theorem Ri (x:NetD):∀(M:List GrD) (s:SSD) (j:Nat),(M.Pairwise fun g g'=>g.2.1≠4→g'.2.1≠4→tgt x g.1 g.2.1 (g.2.2%2)≠tgt x g'.1 g'.2.1 (g'.2.2%2))→
 ((M.foldl (pushS x) s).getD j []).length≤(s.getD j []).length+1∧(¬gets x M j→(M.foldl (pushS x) s).getD j []=s.getD j [])
 | [],s,j,_=>⟨by simp,fun _=>rfl⟩
 | g::M,s,j,h=>by
  obtain ⟨h1,h2⟩:=List.pairwise_cons.1 h
  obtain ⟨i1,i2⟩:=Ri x M (pushS x s g) j h2
  obtain ⟨p1,p2⟩:=Bw x s g j
  rw [List.foldl_cons]
  by_cases hg:g.2.1≠4∧tgt x g.1 g.2.1 (g.2.2%2)=j
  ·have hn:¬gets x M j:=fun ⟨g',hg',k1,k2⟩=>h1 g' hg' hg.1 k1 (hg.2.trans k2.symm)
   rw [i2 hn]
   exact ⟨p1,fun k=>absurd ⟨g,List.mem_cons_self ..,hg⟩ k⟩
  ·rw [p2 hg] at i1 i2
   exact ⟨i1,fun k=>i2 fun ⟨g',hg',kk⟩=>k ⟨g',List.mem_cons_of_mem _ hg',kk⟩⟩
theorem Gg (x:NetD):∀(M:List GrD) (s:SSD) (j:Nat),((M.foldl popS s).getD j []).length≤(s.getD j []).length
 | [],s,j=>Nat.le_refl _
 | g::M,s,j=>by
  refine Nat.le_trans (Gg x M (popS s g) j) ?_
  unfold popS
  by_cases e:frm g=j
  ·rw [← e]
   by_cases hl:frm g<s.length
   ·rw [Wd _ hl,List.length_drop];omega
   ·simp [upd,List.set_eq_of_length_le (Nat.le_of_not_lt hl)]
  ·rw [Qy _ e];exact Nat.le_refl _
theorem M5 (x:NetD):∀(E:List Nat) (s:SSD) (j:Nat),(E.Pairwise fun k k'=>entAt x k≠entAt x k')→
 ((E.foldl (entS x) s).getD j []).length≤(s.getD j []).length+1∧((¬∃k∈E,entAt x k=j)→(E.foldl (entS x) s).getD j []=s.getD j [])
 | [],s,j,_=>⟨by simp,fun _=>rfl⟩
 | k::E,s,j,h=>by
  obtain ⟨h1,h2⟩:=List.pairwise_cons.1 h
  obtain ⟨i1,i2⟩:=M5 x E (entS x s k) j h2
  rw [List.foldl_cons]
  by_cases hk:entAt x k=j
  ·have hn:¬∃k'∈E,entAt x k'=j:=fun ⟨k',hk',e⟩=>h1 k' hk' (hk.trans e.symm)
   rw [i2 hn]
   refine ⟨?_,fun h=>absurd ⟨k,List.mem_cons_self ..,hk⟩ h⟩
   unfold entS
   rw [← hk]
   by_cases hl:entAt x k<s.length
   ·rw [Wd _ hl];simp
   ·simp [upd,List.set_eq_of_length_le (Nat.le_of_not_lt hl)]
  ·have e:(entS x s k).getD j []=s.getD j []:=by unfold entS;exact Qy _ hk
   rw [e] at i1 i2
   exact ⟨i1,fun h=>i2 fun ⟨k',hk',kk⟩=>h ⟨k',List.mem_cons_of_mem _ hk',kk⟩⟩
theorem Io {x:NetD} (h:runOk x):(enterN x).Pairwise fun k k'=>entAt x k≠entAt x k':=by
 have:=Y6 x
 refine List.Pairwise.imp_of_mem (fun {k k'} hk hk' hne e=>hne ?_) this
 obtain ⟨_,a1,_⟩:=Wu hk
 obtain ⟨_,b1,_⟩:=Wu hk'
 obtain ⟨⟨_,c1⟩,e1,_⟩:=Zx h a1
 obtain ⟨⟨_,c2⟩,e2,_⟩:=Zx h b1
 unfold inR at c1 c2
 omega
theorem Ek {x:NetD} (h:runOk x) (hb:∀j,(x.2.2.1.getD j []).length≤3) (j:Nat):((stepN x).2.2.1.getD j []).length≤3:=by
 show (((enterN x).foldl (entS x) ((allN x).foldl (pushS x) ((allN x).foldl popS x.2.2.1))).getD j []).length≤3
 obtain ⟨e1,e2⟩:=M5 x (enterN x) ((allN x).foldl (pushS x) ((allN x).foldl popS x.2.2.1)) j (Io h)
 obtain ⟨p1,p2⟩:=Ri x (allN x) ((allN x).foldl popS x.2.2.1) j (Dh x)
 have q:=Gg x (allN x) x.2.2.1 j
 have b:=hb j
 by_cases hg:gets x (allN x) j
 ·obtain ⟨g,hg,h4,ht⟩:=hg
  obtain ⟨a1,a2,a3,a4⟩:=W4 hg
  obtain ⟨hh,hr⟩:=a4.2.1.resolve_left h4
  rw [ht] at hr
  obtain ⟨t1,t2,t3⟩:=Xn (c:=g.2.2%2) hh (by omega) (by omega)
  obtain ⟨⟨n1,n2⟩,o1,o2⟩:=Zu (c:=g.2.2%2) hh (by omega)
  rw [ht] at t1
  have hne:¬∃k∈enterN x,entAt x k=j:=fun ⟨k,hk,e⟩=>by
   obtain ⟨_,b1,_⟩:=Wu hk
   obtain ⟨⟨_,c1⟩,e3,_⟩:=Zx h b1
   unfold inR at c1
   omega
  rw [e2 hne];omega
 ·rw [p2 hg] at e1 e2
  by_cases hk:∃k∈enterN x,entAt x k=j
  ·obtain ⟨k,hk,e⟩:=hk
   have:=(Wu hk).2.2
   rw [e] at this
   omega
  ·rw [e2 hk];omega
theorem Jf {x:NetD} (h:netOk x) (ht:x.2.2.2.2.2.2.2<1000000):netOk (stepN x):=by
 have hr:=Zv h
 obtain ⟨r1,r2,r3,r4,r5⟩:=Sz hr
 obtain ⟨h1,h2,h3,h4,h5,h6,h7⟩:=h
 have hb:∀j,(x.2.2.1.getD j []).length≤3:=fun j=>by
  by_cases hl:j<x.2.2.1.length
  ·exact (h3 j hl).1
  ·simp [List.getD_eq_getElem?_getD,List.getElem?_eq_none (Nat.le_of_not_lt hl)]
 refine ⟨r1,r2,fun i hi=>⟨Ek hr hb i,fun f hf=>(r3 i f hf).1,fun f hf=>(r3 i f hf).2⟩,fun l hl=>⟨?_,fun f hf=>?_⟩,fun o ho=>?_,r5,?_⟩
 ·exact Ox (L:=60) (enterN x) x.2.2.2.2.2.1 (fun l hl=>(h4 l hl).1) l hl
 ·obtain ⟨i,hi,rfl⟩:=List.getElem_of_mem hl
  exact r4 i f (by rw [List.getD_eq_getElem?_getD,List.getElem?_eq_getElem hi];exact hf)
 ·refine Xd (fun s:List Int=>∀o∈s,inR (-1) o 4) (allN x) x.2.2.2.1 h5 (fun s g hg hs o ho=>?_) o ho
  rcases List.mem_or_eq_of_mem_set ho with ho|rfl
  ·exact hs o ho
  ·have:=(W4 hg).2.2.1
   unfold inR;split<;>omega
 ·unfold inR at h7 ⊢
  show 0≤x.2.2.2.2.2.2.2+1∧x.2.2.2.2.2.2.2+1≤1000000
  omega
theorem Ud {x:NetD} (h:netOk x):∀k:Nat,x.2.2.2.2.2.2.2+k≤1000000→netOk (runN x k)
 | 0,_=>h
 | k+1,hk=>Jf (Ud h k (by omega)) (by rw [Vl];omega)
def still (x:NetD):Prop:=allN x=[]∧enterN x=[]
abbrev Key:=Int×Int×Int
def fkey (f:FlitD):Key:=(f.1,f.2.1,f.2.2.1)
def nx (f:FlitD):Option Key:=if f.2.2.2.2=true then none else some (fkey f)
def okf (s:Option Key) (f:FlitD):Prop:=(f.2.2.2.1=true∧s=none)∨(f.2.2.2.1=false∧s=some (fkey f))
def Str (s:Option Key):List FlitD→Option Key→Prop
 | [],s'=>s=s'
 | f::l,s'=>okf s f∧Str (nx f) l s'
theorem Str.app:∀{l m:List FlitD} {s t u:Option Key},Str s l t→Str t m u→Str s (l++m) u
 | [],m,s,t,u,h,k=>by obtain rfl:s=t:=h;exact k
 | f::l,m,s,t,u,h,k=>⟨h.1,Str.app h.2 k⟩
theorem Str.snoc {l:List FlitD} {s t:Option Key} {f:FlitD} (h:Str s l t) (k:okf t f):Str s (l++[f]) (nx f):=h.app ⟨k,rfl⟩
theorem Str.unsnoc:∀{l:List FlitD} {s u:Option Key} {f:FlitD},Str s (l++[f]) u→∃t,Str s l t∧okf t f∧u=nx f
 | [],s,u,f,h=>⟨s,rfl,h.1,h.2.symm⟩
 | g::l,s,u,f,h=>by
  obtain ⟨t,h1,h2,h3⟩:=Str.unsnoc (l:=l) h.2
  exact ⟨t,⟨h.1,h1⟩,h2,h3⟩
def isTail (f:FlitD):Bool:=f.2.2.2.2
def tailIds (l:List FlitD):List Int:=(l.filter isTail).map (·.1)
theorem Iw (l:List FlitD) (f:FlitD):∀i,i≤l.length→wpk (l++[f]) i=wpk l i
 | 0,_=>rfl
 | i+1,h=>by
  have ih:=Iw l f i (by omega)
  have hle:=(V9 l i).1
  have e:part (l++[f]) (wpk l i).2 i=part l (wpk l i).2 i:=by
   unfold part
   rw [List.drop_append_of_le_length (by omega),List.take_append_of_le_length (by rw [List.length_drop];omega)]
  have e2:(l++[f]).getD (wpk l i).2 flit0=l.getD (wpk l i).2 flit0:=by
   simp only [List.getD_eq_getElem?_getD]
   rw [List.getElem?_append_left (by omega)]
  unfold wpk
  rw [ih,e,e2]
def Open (k:Key) (l:List FlitD):Prop:=l≠[]∧∀i,i<l.length→l.getD i flit0=(k.1,k.2.1,k.2.2,decide ((i:Int)=0),false)
theorem Ia {k:Key} {l:List FlitD} {f:FlitD} (h:Open k l) (hf:f.2.2.2.1=false) (hk:fkey f=k):whole (l++[f])↔f.2.2.2.2=true:=by
 obtain ⟨h0,h1⟩:=h
 have hl:0<l.length:=List.length_pos_iff.2 h0
 have g0:(l++[f]).getD 0 flit0=l.getD 0 flit0:=by simp only [List.getD_eq_getElem?_getD];rw [List.getElem?_append_left hl]
 have gl:(l++[f]).getD l.length flit0=f:=by simp [List.getD_eq_getElem?_getD]
 obtain ⟨f1,f2,f3,f4,f5⟩:=f
 obtain ⟨k1,k2,k3⟩:=k
 simp [fkey] at hk hf
 obtain ⟨rfl,rfl,rfl⟩:=hk
 subst hf
 have q:=h1 0 hl
 constructor
 ·intro w
  have:=w.1 l.length (by simp)
  rw [gl] at this
  unfold wholeAt at this
  simp at this
  exact this.2.2.2.2
 ·intro e
  simp at e
  subst e
  refine ⟨fun i hi=>?_,by simp⟩
  simp at hi
  unfold wholeAt
  rw [g0,q]
  by_cases hi':i<l.length
  ·have e2:(l++[(f1,f2,f3,false,true)]).getD i flit0=l.getD i flit0:=by simp only [List.getD_eq_getElem?_getD];rw [List.getElem?_append_left hi']
   rw [e2,h1 i hi']
   simp;omega
  ·have e3:i=l.length:=by omega
   subst e3
   rw [gl]
   simp;omega
theorem Fe {k:Key} {l:List FlitD} {f:FlitD} (h:Open k l) (hf:f.2.2.2.1=false) (hk:fkey f=k) (ht:f.2.2.2.2=false):Open k (l++[f]):=by
 obtain ⟨h0,h1⟩:=h
 have hl:0<l.length:=List.length_pos_iff.2 h0
 have gl:(l++[f]).getD l.length flit0=f:=by simp [List.getD_eq_getElem?_getD]
 refine ⟨by simp,fun i hi=>?_⟩
 simp at hi
 by_cases hi':i<l.length
 ·have e2:(l++[f]).getD i flit0=l.getD i flit0:=by simp only [List.getD_eq_getElem?_getD];rw [List.getElem?_append_left hi']
  rw [e2,h1 i hi']
 ·have e3:i=l.length:=by omega
  subst e3
  rw [gl]
  obtain ⟨f1,f2,f3,f4,f5⟩:=f
  obtain ⟨k1,k2,k3⟩:=k
  simp [fkey] at hk hf ht
  obtain ⟨rfl,rfl,rfl⟩:=hk
  subst hf ht
  simp;omega
theorem Ch {f:FlitD} (hf:f.2.2.2.1=true) (ht:f.2.2.2.2=false):Open (fkey f) [f]:=by
 obtain ⟨f1,f2,f3,f4,f5⟩:=f
 simp at hf ht
 subst hf ht
 refine ⟨by simp,fun i hi=>?_⟩
 simp at hi
 subst hi
 rfl
theorem Fv {f:FlitD} (hf:f.2.2.2.1=true):whole [f]↔f.2.2.2.2=true:=by
 obtain ⟨f1,f2,f3,f4,f5⟩:=f
 simp at hf
 subst hf
 constructor
 ·intro w
  have:=w.1 0 (by simp)
  unfold wholeAt at this
  simp at this
  exact this
 ·intro e
  simp at e
  subst e
  refine ⟨fun i hi=>?_,by simp⟩
  simp at hi
  subst hi
  simp [wholeAt]
def WInv (l:List FlitD) (s:Option Key):Prop:=(wpk l l.length).1=tailIds l∧(s=none→(wpk l l.length).2=l.length)∧∀k,s=some k→Open k (l.drop (wpk l l.length).2)
theorem V2 (l:List FlitD) (f:FlitD):tailIds (l++[f])=if f.2.2.2.2=true then tailIds l++[f.1] else tailIds l:=by
 unfold tailIds isTail
 rw [List.filter_append,List.map_append]
 by_cases h:f.2.2.2.2=true<;>simp [h]
theorem E6 {l:List FlitD} {s:Option Key} {f:FlitD} (h:WInv l s) (k:okf s f):WInv (l++[f]) (nx f):=by
 obtain ⟨h1,h2,h3⟩:=h
 have hle:=(V9 l l.length).1
 have ep:part (l++[f]) (wpk l l.length).2 l.length=l.drop (wpk l l.length).2++[f]:=by
  unfold part
  rw [List.drop_append_of_le_length hle]
  apply List.take_of_length_le
  simp;omega
 have e0:(l++[f]).length=l.length+1:=by simp
 have ew:wpk (l++[f]) (l++[f]).length=if whole (l.drop (wpk l l.length).2++[f]) then ((wpk l l.length).1++[((l++[f]).getD (wpk l l.length).2 flit0).1],l.length+1) else wpk l l.length:=by
  rw [e0]
  conv=>lhs;unfold wpk
  rw [Iw l f l.length (by omega),ep]
 have hid:(s=none→((l++[f]).getD (wpk l l.length).2 flit0).1=f.1)∧(∀k,s=some k→fkey f=k→((l++[f]).getD (wpk l l.length).2 flit0).1=f.1):=by
  refine ⟨fun e=>?_,fun k e ek=>?_⟩
  ·rw [h2 e];simp [List.getD_eq_getElem?_getD]
  ·have o:=h3 k e
   have hl:0<(l.drop (wpk l l.length).2).length:=List.length_pos_iff.2 o.1
   have:=o.2 0 hl
   simp only [List.getD_eq_getElem?_getD,List.getElem?_drop] at this
   rw [List.length_drop] at hl
   simp only [List.getD_eq_getElem?_getD]
   rw [List.getElem?_append_left (by omega)]
   rw [Nat.add_zero] at this
   rw [this]
   show k.1=f.1
   rw [← ek];rfl
 have hw:whole (l.drop (wpk l l.length).2++[f])↔f.2.2.2.2=true:=by
  rcases k with ⟨k1,k2⟩|⟨k1,k2⟩
  ·rw [h2 k2,List.drop_length];exact Fv k1
  ·exact Ia (h3 _ k2) k1 rfl
 have hi:((l++[f]).getD (wpk l l.length).2 flit0).1=f.1:=by
  rcases k with ⟨k1,k2⟩|⟨k1,k2⟩
  ·exact hid.1 k2
  ·exact hid.2 _ k2 rfl
 unfold WInv
 rw [ew,V2]
 by_cases ht:f.2.2.2.2=true
 ·rw [if_pos (hw.2 ht),if_pos ht,hi,h1]
  unfold nx
  rw [if_pos ht]
  exact ⟨rfl,fun _=>by simp,fun k e=>by simp at e⟩
 ·rw [if_neg (fun e=>ht (hw.1 e)),if_neg ht,h1]
  have ht':f.2.2.2.2=false:=by simpa using ht
  unfold nx
  rw [if_neg ht]
  refine ⟨rfl,fun e=>by simp at e,fun k' e=>?_⟩
  obtain rfl:fkey f=k':=by simpa using e
  rw [List.drop_append_of_le_length hle]
  rcases k with ⟨k1,k2⟩|⟨k1,k2⟩
  ·rw [h2 k2,List.drop_length];exact Ch k1 ht'
  ·exact Fe (h3 _ k2) k1 rfl ht'
theorem M8 {P:List FlitD→Prop} (h0:P []) (h1:∀l f,P l→P (l++[f])) (l:List FlitD):P l:=by
 rw [← List.reverse_reverse l]
 induction l.reverse with
 | nil=>exact h0
 | cons f m ih=>rw [List.reverse_cons];exact h1 _ _ ih
theorem winv (l:List FlitD):∀s,Str none l s→WInv l s:=by
 induction l using M8 with
 | h0=>intro s h;obtain rfl:none=s:=h;exact ⟨rfl,fun _=>rfl,fun k e=>by simp at e⟩
 | h1 l f ih=>
  intro s h
  obtain ⟨t,h1,h2,rfl⟩:=h.unsnoc
  exact E6 (ih t h1) h2
theorem T0 (l:List FlitD):∀s,Str none l s→wholePk (trim l)=tailIds l:=by
 induction l using M8 with
 | h0=>intro s h;rfl
 | h1 l f ih=>
  intro s h
  obtain ⟨t,h1,h2,rfl⟩:=h.unsnoc
  rw [V7]
  by_cases ht:f.2.2.2.2=true
  ·rw [if_pos ht]
   obtain ⟨w1,w2,_⟩:=winv (l++[f]) _ h
   have:=w2 (by unfold nx;rw [if_pos ht])
   unfold wholePk
   rw [if_neg (by omega),w1]
  ·rw [if_neg ht,V2,if_neg ht]
   exact ih t h1
def tabC (x:NetD) (c:Nat):List Int:=if c=1 then x.2.1.2 else x.2.1.1
def pO (x:NetD) (a c:Nat) (t:Int):Int:=portOf x.1.1 x.1.2.1 (tabC x c) a t
def hasP (x:NetD) (a p:Nat):Prop:=has x.1.1 x.1.2.1 x.1.2.2 (4*(a:Int)+p)
def nC (x:NetD):Nat:=(cnt x.1.1 x.1.2.1).toNat
theorem Xt (x:NetD):(nC x:Int)=cnt x.1.1 x.1.2.1:=by have:=Qg x.1.1 x.1.2.1;unfold nC;omega
def inc (s:Option Key) (c:Nat):Option Key:=match s with
 | some k=>if k.2.2=(c:Int) then some k else none
 | none=>none
def setF (f:Nat→Option Key) (i:Nat) (v:Option Key):Nat→Option Key:=fun n=>if n=i then v else f n
theorem W2 (f:Nat→Option Key) (i:Nat) (v:Option Key):setF f i v i=v:=if_pos rfl
theorem Wp (f:Nat→Option Key) {i j:Nat} (v:Option Key) (h:j≠i):setF f i v j=f j:=if_neg h
structure Wf (x:NetD) (B:SSD) (O:List Int) (A S:SSD) (st fr sr:Nat→Option Key):Prop where
 o1:∀a p c,a<nC x→p<5→c<2→O.getD (outAt a p c) 0=-1→st (outAt a p c)=none
 o2:∀a p c (q:Nat),a<nC x→p<5→c<2→q<5→O.getD (outAt a p c) 0=(q:Int)→∃k:Key,st (outAt a p c)=some k∧fr (10*a+2*q+c)=some k∧pO x a c k.2.1=(p:Int)
 o3:∀a (q:Nat) c k,a<nC x→q<5→c<2→fr (10*a+2*q+c)=some k→∃p,p<5∧O.getD (outAt a p c) 0=(q:Int)
 w4:∀a p c,a<nC x→p<4→c<2→hasP x a p→Str (fr (tgt x a p c)) (B.getD (tgt x a p c) []) (st (outAt a p c))
 w5:∀k c,k<nC x→c<2→Str (fr (10*k+8+c)) (B.getD (10*k+8+c) []) (inc (sr k) c)
 w6:∀k,k<nC x→Str (sr k) (S.getD k []) none
 w7:∀t c:Nat,t<nC x→c<2→Str none ((A.getD t []).filter fun f=>f.2.2.1=(c:Int)) (st (outAt t 4 c))
def mvB (x:NetD) (B:SSD) (a p i:Nat) (f:FlitD):SSD:=if p=4 then upd B (10*a+i) (List.drop 1) else upd (upd B (10*a+i) (List.drop 1)) (tgt x a p (i%2)) (·++[f])
def mvA (A:SSD) (a p:Nat) (f:FlitD):SSD:=if p=4 then upd A a (·++[f]) else A
def mvO (O:List Int) (a p i:Nat) (f:FlitD):List Int:=O.set (outAt a p (i%2)) (if f.2.2.2.2 then -1 else ((i/2:Nat):Int))
theorem Vg {a p c a' p' c':Nat} (hp:p<5) (hp':p'<5) (hc:c<2) (hc':c'<2) (e:outAt a p c=outAt a' p' c'):a=a'∧p=p'∧c=c':=by
 unfold outAt at e;omega
theorem setO {O:List Int} {i j:Nat} {v:Int} (h:i<O.length):(O.set i v).getD j 0=if i=j then v else O.getD j 0:=by
 simp only [List.getD_eq_getElem?_getD,List.getElem?_set]
 split
 ·rename_i e;subst e;simp [h]
 ·rfl
theorem Zr {x:NetD} {a p c:Nat} (h:hasP x a p) (hp:p<4) (hc:c<2):tgt x a p c<10*nC x∧tgt x a p c%2=c∧((tgt x a p c/10:Nat):Int)=next x.1.1 x.1.2.1 a p∧tgt x a p c%10<8:=by
 obtain ⟨h1,h2,h3⟩:=Xn (c:=c) h hp hc
 obtain ⟨_,h4,h5⟩:=Zu (c:=c) h hp
 have:=Xt x
 generalize next x.1.1 x.1.2.1 a p=N at *
 generalize opp p=Op at *
 omega
theorem Str.pop {s u:Option Key} {f:FlitD} {r:List FlitD} (h:Str s (f::r) u):okf s f∧Str (nx f) r u:=h
theorem S1 {s:Option Key} {f:FlitD} {k:Key} (h:okf s f) (e:s=some k):f.2.2.2.1=false∧k=fkey f:=by
 rcases h with ⟨_,h⟩|⟨h1,h⟩
 ·rw [h] at e;simp at e
 ·rw [h] at e;exact ⟨h1,by simpa using e.symm⟩
theorem Yl {f:FlitD} {k:Key} (h:nx f=some k):f.2.2.2.2=false∧k=fkey f:=by
 unfold nx at h
 by_cases e:f.2.2.2.2=true
 ·rw [if_pos e] at h;simp at h
 ·rw [if_neg e] at h;exact ⟨by simpa using e,by simpa using h.symm⟩
theorem F1 {s:Option Key} {f:FlitD} (h:okf s f) (e:f.2.2.2.1=false):s=some (fkey f):=by
 rcases h with ⟨h1,_⟩|⟨_,h⟩
 ·rw [h1] at e;simp at e
 ·exact h
structure Can (x:NetD) (B:SSD) (O:List Int) (a p i:Nat) (f:FlitD) (r:List FlitD):Prop where
 ha:a<nC x
 hp:p<5
 hi:i<10
 hj:B.getD (10*a+i) []=f::r
 hd:f.2.2.2.1=true→pO x a (i%2) f.2.1=(p:Int)∧O.getD (outAt a p (i%2)) 0=-1
 bd:f.2.2.2.1=false→O.getD (outAt a p (i%2)) 0=((i/2:Nat):Int)
 room:p=4∨hasP x a p
theorem Wf.move {x:NetD} {B:SSD} {O:List Int} {A S:SSD} {st fr sr:Nat→Option Key} (w:Wf x B O A S st fr sr) (hl:B.length=10*nC x) (hO:O.length=10*nC x) (hA:A.length=nC x)
 (hc:allP (fun j f=>f.2.2.1=(j:Int)%2) B) {a p i:Nat} {f:FlitD} {r:List FlitD} (k:Can x B O a p i f r) (hs:∃u,Str (fr (10*a+i)) (f::r) u) :
 pO x a (i%2) f.2.1=(p:Int)∧Wf x (mvB x B a p i f) (mvO O a p i f) (mvA A a p f) S (setF st (outAt a p (i%2)) (nx f)) (setF fr (10*a+i) (nx f)) sr:=by
 obtain ⟨ha,hp,hi,hj,hd,bd,room⟩:=k
 obtain ⟨u,hu⟩:=hs
 have o0:=hu.pop.1
 have ei:10*a+2*(i/2)+i%2=10*a+i:=by omega
 have hij:10*a+i<B.length:=by omega
 have hoL:outAt a p (i%2)<O.length:=by unfold outAt;omega
 have hport:pO x a (i%2) f.2.1=(p:Int):=by
  cases e:f.2.2.2.1 with
  | true=>exact (hd e).1
  | false=>
   obtain ⟨k,_,k2,k3⟩:=w.o2 a p (i%2) (i/2) ha hp (by omega) (by omega) (bd e)
   rw [ei] at k2
   obtain ⟨_,rfl⟩:=S1 o0 k2
   exact k3
 have okst:okf (st (outAt a p (i%2))) f:=by
  cases e:f.2.2.2.1 with
  | true=>exact .inl ⟨e,w.o1 a p (i%2) ha hp (by omega) (hd e).2⟩
  | false=>
   obtain ⟨k,k1,k2,_⟩:=w.o2 a p (i%2) (i/2) ha hp (by omega) (by omega) (bd e)
   rw [ei] at k2
   obtain ⟨_,rfl⟩:=S1 o0 k2
   exact .inr ⟨e,k1⟩
 -- whose output leads from this input
 have only:∀p',p'<5→O.getD (outAt a p' (i%2)) 0=((i/2:Nat):Int)→p'=p:=fun p' hp' e=>by
  obtain ⟨k,_,k2,k3⟩:=w.o2 a p' (i%2) (i/2) ha hp' (by omega) (by omega) e
  rw [ei] at k2
  obtain ⟨_,rfl⟩:=S1 o0 k2
  have:(p':Int)=p:=k3.symm.trans hport
  omega
 have own:∀q:Nat,q<5→O.getD (outAt a p (i%2)) 0=(q:Int)→q=i/2:=fun q hq e=>by
  cases e2:f.2.2.2.1 with
  | true=>rw [(hd e2).2] at e;omega
  | false=>rw [bd e2] at e;omega
 have tl:f.2.2.2.2=true→nx f=none:=fun e=>by unfold nx;rw [if_pos e]
 have tn:f.2.2.2.2=false→nx f=some (fkey f):=fun e=>by unfold nx;rw [if_neg (by simp [e])]
 refine ⟨hport,?_⟩
 -- the streams after the pop
 have pops:∀j s,Str (fr j) (B.getD j []) s→Str (setF fr (10*a+i) (nx f) j) ((upd B (10*a+i) (List.drop 1)).getD j []) s:=fun j s h=>by
  by_cases e:j=10*a+i
  ·subst e
   rw [W2,Wd _ hij,hj]
   rw [hj] at h
   exact h.pop.2
  ·rw [Wp _ _ e,Qy _ (fun h=>e h.symm)];exact h
 have same:∀j,(p=4∨j≠tgt x a p (i%2))→(mvB x B a p i f).getD j []=(upd B (10*a+i) (List.drop 1)).getD j []:=fun j h=>by
  unfold mvB
  split
  ·rfl
  ·rename_i hp4
   rw [Qy _ (fun e=>(h.resolve_left hp4) e.symm)]
 constructor
 ·intro a' p' c' h1 h2 h3 h4
  unfold mvO at h4
  rw [setO hoL] at h4
  by_cases e:outAt a p (i%2)=outAt a' p' c'
  ·rw [if_pos e] at h4
   rw [← e,W2]
   by_cases ht:f.2.2.2.2=true
   ·exact tl ht
   ·rw [if_neg ht] at h4;omega
  ·rw [if_neg e] at h4
   rw [Wp _ _ (fun h=>e h.symm)]
   exact w.o1 a' p' c' h1 h2 h3 h4
 ·intro a' p' c' q h1 h2 h3 h4 h5
  unfold mvO at h5
  rw [setO hoL] at h5
  by_cases e:outAt a p (i%2)=outAt a' p' c'
  ·rw [if_pos e] at h5
   obtain ⟨rfl,rfl,rfl⟩:=Vg hp h2 (by omega) h3 e
   by_cases ht:f.2.2.2.2=true
   ·rw [if_pos ht] at h5;omega
   ·rw [if_neg ht] at h5
    have eq:q=i/2:=by omega
    subst eq
    rw [W2,ei,W2]
    exact ⟨fkey f,tn (by simpa using ht),tn (by simpa using ht),hport⟩
  ·rw [if_neg e] at h5
   rw [Wp _ _ (fun h=>e h.symm)]
   obtain ⟨k,k1,k2,k3⟩:=w.o2 a' p' c' q h1 h2 h3 h4 h5
   refine ⟨k,k1,?_,k3⟩
   rw [Wp _ _ ?_]
   ·exact k2
   ·intro ej
    have e1:a'=a:=by omega
    have e2:c'=i%2:=by omega
    have e3:q=i/2:=by omega
    subst e1 e2 e3
    exact e (by rw [only p' h2 h5])
 ·intro a' q c' k h1 h2 h3 h4
  by_cases ej:10*a'+2*q+c'=10*a+i
  ·have e1:a'=a:=by omega
   have e2:c'=i%2:=by omega
   have e3:q=i/2:=by omega
   subst e1 e2 e3
   rw [ej,W2] at h4
   obtain ⟨ht,_⟩:=Yl h4
   refine ⟨p,hp,?_⟩
   unfold mvO
   rw [setO hoL,if_pos rfl,if_neg (by simp [ht])]
  ·rw [Wp _ _ ej] at h4
   obtain ⟨p',k1,k2⟩:=w.o3 a' q c' k h1 h2 h3 h4
   refine ⟨p',k1,?_⟩
   unfold mvO
   rw [setO hoL,if_neg ?_]
   ·exact k2
   ·intro e
    obtain ⟨rfl,rfl,rfl⟩:=Vg hp k1 (by omega) h3 e
    have:=own q h2 k2
    omega
 ·intro a' p' c' h1 h2 h3 h4
  have:=pops _ _ (w.w4 a' p' c' h1 h2 h3 h4)
  by_cases e:outAt a p (i%2)=outAt a' p' c'
  ·obtain ⟨rfl,rfl,rfl⟩:=Vg hp (by omega) (by omega) h3 e
   rw [W2]
   have hp4:¬p=4:=by omega
   unfold mvB
   rw [if_neg hp4]
   have ht:=(Zr (c:=i%2) h4 h2 h3).1
   rw [Wd _ (by rw [Yj];omega)]
   exact this.snoc okst
  ·rw [Wp _ _ (fun h=>e h.symm)]
   rw [same]
   ·exact this
   ·by_cases hp4:p=4
    ·exact .inl hp4
    ·refine .inr fun et=>e ?_
     have nn:=Xt x
     obtain ⟨rfl,rfl⟩:=Gk h4 (room.resolve_left hp4) h2 (by omega) h3 (by omega) (by omega) (by omega) et
     have t1:=(Zr (c:=c') h4 h2 h3).2.1
     have t2:=(Zr (c:=i%2) h4 h2 (by omega)).2.1
     rw [et] at t1
     rw [t2] at t1
     rw [t1]
 ·intro k c h1 h2
  have:=pops _ _ (w.w5 k c h1 h2)
  rw [same]
  ·exact this
  ·by_cases hp4:p=4
   ·exact .inl hp4
   ·refine .inr fun et=>?_
    have:=(Zr (c:=i%2) (room.resolve_left hp4) (by omega) (by omega)).2.2.2
    omega
 ·exact w.w6
 ·intro t c h1 h2
  have h7:=w.w7 t c h1 h2
  unfold mvA
  by_cases hp4:p=4
  ·rw [if_pos hp4]
   subst hp4
   by_cases ea:a=t
   ·subst ea
    rw [Wd _ (by omega),List.filter_append]
    have cl:=hc (10*a+i) f (by rw [hj];exact List.mem_cons_self ..)
    by_cases ec:i%2=c
    ·subst ec
     rw [W2]
     have e1:List.filter (fun f:FlitD=>decide (f.2.2.1=((i%2:Nat):Int))) [f]=[f]:=by
      rw [List.filter_cons_of_pos (by simp;omega)];rfl
     rw [e1]
     exact h7.snoc okst
    ·have e1:List.filter (fun f:FlitD=>decide (f.2.2.1=(c:Int))) [f]=[]:=by
      rw [List.filter_cons_of_neg (by simp;omega)];rfl
     rw [e1,List.append_nil,Wp _ _ (fun e=>by unfold outAt at e;omega)]
     exact h7
   ·rw [Qy _ ea,Wp _ _ (fun e=>by unfold outAt at e;omega)]
    exact h7
  ·rw [if_neg hp4,Wp _ _ (fun e=>by unfold outAt at e;omega)]
   exact h7
theorem Wf.enter {x:NetD} {B:SSD} {O:List Int} {A S:SSD} {st fr sr:Nat→Option Key} (w:Wf x B O A S st fr sr) (hl:B.length=10*nC x) (hS:S.length=nC x) {k c:Nat} {f:FlitD} {r:List FlitD} (hk:k<nC x) (hc:c<2) (ec:f.2.2.1=(c:Int)) (hj:S.getD k []=f::r) :
 Wf x (upd B (10*k+8+c) (·++[f])) O A (upd S k (List.drop 1)) st fr (setF sr k (nx f)):=by
 have h6:=w.w6 k hk
 rw [hj] at h6
 obtain ⟨o0,h6'⟩:=h6.pop
 refine ⟨w.o1,w.o2,w.o3,fun a' p' c' h1 h2 h3 h4=>?_,fun k' c' h1 h2=>?_,fun k' h1=>?_,w.w7⟩
 ·rw [Qy _ (fun e=>by have:=(Zr (c:=c') h4 h2 h3).2.2.2;omega)]
  exact w.w4 a' p' c' h1 h2 h3 h4
 ·have h5:=w.w5 k' c' h1 h2
  by_cases e:k'=k
  ·subst e
   rw [W2]
   by_cases e2:c'=c
   ·subst e2
    rw [Wd _ (by omega)]
    have ok:okf (inc (sr k') c') f:=by
     rcases o0 with ⟨h,e⟩|⟨h,e⟩
     ·rw [e];exact .inl ⟨h,rfl⟩
     ·rw [e];refine .inr ⟨h,?_⟩
      show (if (fkey f).2.2=(c':Int) then some (fkey f) else none)=_
      rw [if_pos (show (fkey f).2.2=(c':Int) from ec)]
    have en:inc (nx f) c'=nx f:=by
     cases hn:nx f with
     | none=>rfl
     | some k0=>
      obtain ⟨_,rfl⟩:=Yl hn
      show (if (fkey f).2.2=(c':Int) then some (fkey f) else none)=_
      rw [if_pos (show (fkey f).2.2=(c':Int) from ec)]
    rw [en]
    exact h5.snoc ok
   ·rw [Qy _ (by omega)]
    have hne:¬(fkey f).2.2=(c':Int):=fun e=>by have e:f.2.2.1=(c':Int):=e;omega
    have e0:inc (sr k') c'=none:=by
     rcases o0 with ⟨h,e⟩|⟨h,e⟩
     ·rw [e];rfl
     ·rw [e];exact if_neg hne
    have en:inc (nx f) c'=none:=by
     cases hn:nx f with
     | none=>rfl
     | some k0=>obtain ⟨_,rfl⟩:=Yl hn;exact if_neg hne
    rw [en];rw [e0] at h5;exact h5
  ·rw [Wp _ _ e,Qy _ (by omega)];exact h5
 ·by_cases e:k'=k
  ·subst e
   rw [W2,Wd _ (by omega),hj];exact h6'
  ·rw [Wp _ _ e,Qy _ (fun h=>e h.symm)];exact w.w6 k' h1
end Go.Proofs.YtmddnnecgnpccaaGreat.V
set_option linter.all false
namespace Go.Proofs.YtmddnnecgnpccaaGreat.V
open Go Go.VM Go.Proofs
set_option maxRecDepth 10000
variable {frz:Nat} {H:Heap}
theorem Wa {α:Type} {D:Fl α} {e:TypeId} {v:Value} {xs:List α} (h:Ow D e H v xs):VM.live H v:=by
 rcases h with ⟨rfl,_⟩|⟨id,off,r,rfl,h2,_⟩
 ·trivial
 ·show VM.look H ⟨id,off,some r.gen⟩≠none
  simp [VM.look,h2]
theorem Mn {hs:List Value} {k:Nat} (hk:k<hs.length) (a':Value):(hs.set k a').flatMap ids=(hs.take k).flatMap ids++(ids a'++(hs.drop (k+1)).flatMap ids):=by
 rw [List.set_eq_take_append_cons_drop,if_pos hk,List.flatMap_append,List.flatMap_cons]
theorem Bi {hs:List Value} {k:Nat} (hk:k<hs.length):hs.flatMap ids=(hs.take k).flatMap ids++(ids hs[k]++(hs.drop (k+1)).flatMap ids):=by
 have:=Mn hk hs[k]
 rwa [List.set_getElem_self] at this
theorem Vo {α:Type} {D:Fl α} {e oe:TypeId} {H H1:Heap} {v a':Value} {hs:List Value} {xss:List (List α)} {k:Nat} {ys:List α} {frz:Nat} {et:TypeId} {ag:Bool} (h:OwL D e oe H v hs xss) (nd:(idsL v hs).Nodup) (hk:k<hs.length)
 (c:Chg H H1 (ids hs[k])) (o:Ow D e H1 a' ys) (hi:∀i∈ids a',i∈ids hs[k]∨H.length≤i) (hf:∀i∈idsL v hs,frz≤i) (he:tsz Tryz.prog et=some (ag,1)) :
 ∃H2,vstore Tryz.prog frz H1 et a' (elp v k)=some H2∧OwL D e oe H2 v (hs.set k a') (xss.set k ys)∧Chg H H2 (idsL v hs)∧(idsL v (hs.set k a')).Nodup∧(∀i∈idsL v (hs.set k a'),i∈idsL v hs∨H.length≤i)∧H2.length=H1.length:=by
 have hlt:=h.lt
 have hfa:=Bi hk
 have hfs:=Mn hk a'
 unfold idsL at nd hf hlt ⊢
 rw [hfa] at nd hf hlt ⊢
 rw [hfs]
 obtain ⟨n1,n2,n3⟩:=List.nodup_append.1 nd
 obtain ⟨m1,m2,m3⟩:=List.nodup_append.1 n2
 obtain ⟨p1,p2,p3⟩:=List.nodup_append.1 m2
 have dv:∀i∈ids v,i∉ids hs[k]:=fun i hi hh=>n3 i hi i (List.mem_append_right _ (List.mem_append_left _ hh)) rfl
 have o1:Ow Fl.val oe H1 v hs:=h.1.chg c dv
 have q:VM.one a'=true∧a'.cells=#[a']:=⟨o.rd.one',o.rd.cells⟩
 obtain ⟨H2,s1,s2,s3,s4⟩:=o1.put1 (P:=Tryz.prog) (frz:=frz) rfl (et:=et) (ag:=ag) he (j:=k) (x:=a') (y:=a') hk q.2 q.1 rfl (fun i hi=>hf i (List.mem_append_left _ hi))
 have hlen:∀i,i<H.length→i<H1.length:=fun i hi=>Nat.lt_of_lt_of_le hi c.1
 have dva:∀i∈ids a',i∉ids v:=fun i hi' hh=>by
  rcases hi i hi' with g|g
  ·exact dv i hh g
  ·have:=hlt i (List.mem_append_left _ hh);omega
 refine ⟨H2,s1,⟨s2,by simpa using h.2.1,fun j b zs hb hz=>?_⟩,?_,?_,fun i hi'=>?_,s4⟩
 ·by_cases hjk:k=j
  ·subst hjk
   rw [List.getElem?_set_self hk] at hb
   have hkx:k<xss.length:=h.2.1▸hk
   rw [List.getElem?_set_self hkx] at hz
   cases hb;cases hz
   exact o.chg s3 dva
  ·rw [List.getElem?_set_ne hjk] at hb hz
   have hb':=h.2.2 j b zs hb hz
   have hfl:=Vy hs (by rw [hfa];exact n2) (fun e=>hjk e.symm) hb (List.getElem?_eq_getElem hk)
   refine (hb'.chg c hfl).chg s3 (fun i hi' hh=>?_)
   have hm:i∈hs.flatMap ids:=List.mem_flatMap.2 ⟨b,List.mem_of_getElem? hb,hi'⟩
   rw [hfa] at hm
   exact n3 i hh i hm rfl
 ·exact (c.mono (fun i hi=>List.mem_append_right _ (List.mem_append_right _ (List.mem_append_left _ hi)))).trans (s3.mono (fun i hi=>List.mem_append_left _ hi))
 ·refine List.nodup_append.2 ⟨n1,List.nodup_append.2 ⟨m1,List.nodup_append.2 ⟨Qw a',p2,fun x hx y hy e=>?_⟩,fun x hx y hy e=>?_⟩,fun x hx y hy e=>?_⟩
  ·subst e
   rcases hi x hx with g|g
   ·exact p3 x g x hy rfl
   ·have:=hlt x (List.mem_append_right _ (List.mem_append_right _ (List.mem_append_right _ hy)));omega
  ·subst e
   rcases List.mem_append.1 hy with hy|hy
   ·rcases hi x hy with g|g
    ·exact m3 x hx x (List.mem_append_left _ g) rfl
    ·have:=hlt x (List.mem_append_right _ (List.mem_append_left _ hx));omega
   ·exact m3 x hx x (List.mem_append_right _ hy) rfl
  ·subst e
   rcases List.mem_append.1 hy with hy|hy
   ·exact n3 x hx x (List.mem_append_left _ hy) rfl
   ·rcases List.mem_append.1 hy with hy|hy
    ·exact dva x hy hx
    ·exact n3 x hx x (List.mem_append_right _ (List.mem_append_right _ hy)) rfl
 ·rcases List.mem_append.1 hi' with hi'|hi'
  ·exact .inl (List.mem_append_left _ hi')
  rcases List.mem_append.1 hi' with hi'|hi'
  ·exact .inl (List.mem_append_right _ (List.mem_append_left _ hi'))
  rcases List.mem_append.1 hi' with hi'|hi'
  ·rcases hi i hi' with g|g
   ·exact .inl (List.mem_append_right _ (List.mem_append_right _ (List.mem_append_left _ g)))
   ·exact .inr g
  ·exact .inl (List.mem_append_right _ (List.mem_append_right _ (List.mem_append_right _ hi')))
def flitsOf (w h:Int) (p:PkD):List FlitD:=if packetOk w h p then (List.range p.2.2.2.2.toNat).map fun i:Nat=>(p.1,p.2.2.1,p.2.2.2.1,decide ((i:Int)=0),decide ((i:Int)=p.2.2.2.2-1)) else []
theorem Fh (w h:Int) (p:PkD) :
 wp (vcall C frz 46 [.agg #[.int .i64 w,.int .i64 h],pkV p] H) (fun r H'=>Ow flF 102 H' r (flitsOf w h p)∧(∀i∈ids r,H.length≤i)∧Chg H H' []):=by
 rw [Qb (fn:=Tryz.f46) Tryz.func46 rfl (by kernel_rfl) rfl]
 have pk:=fun F H=>U9 (frz:=F) (H:=H) w h p
 obtain ⟨q1,q2,q3,q4,q5⟩:=p
 unfold pkV at pk ⊢
 simp only at pk
 have cG:Chg H (H++[⟨[.int .i64 w,.int .i64 h],0,25⟩,⟨[.int .i64 q1,.int .i64 q2,.int .i64 q3,.int .i64 q4,.int .i64 q5],0,47⟩,⟨[],0,102⟩]) []:=Chg.app _
 have o0:Ow flF 102 (H++[⟨[.int .i64 w,.int .i64 h],0,25⟩,⟨[.int .i64 q1,.int .i64 q2,.int .i64 q3,.int .i64 q4,.int .i64 q5],0,47⟩,⟨[],0,102⟩]) (.slice (some ⟨H.length+2,0,some 0⟩) 0 0) []:=Ow.new (D:=flF) (xs:=[]) (k:=2) rfl rfl rfl rfl
 simp [VM.look,pk]
 by_cases g:packetOk w h (q1,q2,q3,q4,q5)
 rotate_left
 ·have e:flitsOf w h (q1,q2,q3,q4,q5)=[]:=if_neg g
  rw [e]
  simp [g]
  first|exact ⟨o0,by simp,cG⟩|exact ⟨o0,by simp,cG.2⟩|exact ⟨o0,cG⟩
 obtain ⟨n,hn⟩:∃n:Nat,q5=n:=⟨q5.toNat,by have:=g.2.2.2.2.2;unfold inR at this;simp only at this;omega⟩
 have hn5:n≤5:=by have:=g.2.2.2.2.2;unfold inR at this;simp only at this;omega
 subst hn
 have hfl:flitsOf w h (q1,q2,q3,q4,(n:Int))=(List.range n).map fun i:Nat=>(q1,q3,q4,decide ((i:Int)=0),decide ((i:Int)=(n:Int)-1)):=by
  unfold flitsOf;rw [if_pos g];simp only [Int.toNat_natCast]
 simp [g,VM.look]
 refine Qm (fun m t H'=>∃(i:Nat) (out:Value),m=n-i∧i≤n∧t 3=.pointer (some ⟨H.length+1,0,some 0⟩)∧t 5=out∧t 14=.int .i64 (n:Int)∧t 15=.int .i64 i∧Chg H H' []∧H'[H.length]? = some ⟨[.int .i64 w,.int .i64 h],0,25⟩∧H'[H.length+1]? = some ⟨[.int .i64 q1,.int .i64 q2,.int .i64 q3,.int .i64 q4,.int .i64 (n:Int)],0,47⟩∧Ow flF 102 H' out ((List.range i).map fun i:Nat=>(q1,q3,q4,decide ((i:Int)=0),decide ((i:Int)=(n:Int)-1)))∧(∀j∈ids out,H.length+2≤j)) ?_ (n:=n)
  ⟨0,.slice (some ⟨H.length+2,0,some 0⟩) 0 0,rfl,by omega,by simp,by simp,by simp,by simp,cG,by simp,by simp,o0,by simp⟩
 rintro m t H' ⟨i,out,rfl,hi,t3,t5,t14,t15,ch,b0,b1,oo,no⟩ ih
 simp [t3,t5,t14,t15,VM.look,b0,b1]
 refine Qf ?_ ?_<;>intro g1
 ·
  have e5:=@w6 ((n:Int)-1) (by omega)
  obtain ⟨Bh,hBh⟩:∃B,B=decide ((i:Int)=0):=⟨_,rfl⟩
  obtain ⟨Bt,hBt⟩:∃B,B=decide ((i:Int)=(n:Int)-1):=⟨_,rfl⟩
  have z1:∀[Inhabited Unit],(decide (i=0))=Bh:=by intro _;rw [hBh];simp
  have z2:∀[Inhabited Unit],(decide ((i:Int)=(n:Int)-1))=Bt:=by intro _;rw [hBt]
  obtain ⟨r',H3,hap,o3,c3,n3⟩:=oo.push (P:=Tryz.prog) (frz:=H.length) (ty:=75) (a:=(q1,q3,q4,Bh,Bt)) (by simp) rfl (by simp;omega) (fun j hj=>by have:=no j hj;omega)
  simp only [Wb] at hap
  simp [-Qe,-Qq,t3,t5,t14,t15,VM.look,b0,b1,e5,z1,z2,hap]
  refine ih (n-(i+1)) _ _ ⟨i+1,r',rfl,by omega,by simp [t3],by simp,by simp [t14],?_,ch.trans' c3 (fun j hj=>.inr (by have:=no j hj;omega)),Qa b0 c3 (fun hh=>by have:=no _ hh;omega),Qa b1 c3 (fun hh=>by have:=no _ hh;omega),?_,fun j hj=>?_⟩ (by omega)
  ·simp [t15];rw [w64 (by omega) (by omega)]
  ·rw [List.range_succ,List.map_append,List.map_cons,List.map_nil,← hBh,← hBt];exact o3
  ·rcases n3 j hj with h1|h1
   ·exact no j h1
   ·have:=Q0 b1;omega
 ·have:i=n:=by omega
  subst this
  simp [t3,t5,t14,t15]
  exact ⟨by rw [hfl];exact oo,fun j hj=>by have:=no j hj;omega,ch⟩
theorem Iq (w h:Int) (p:PkD) :
 wp (vcall C frz 102 [.agg #[.int .i64 w,.int .i64 h],pkV p] H) (fun r H'=>Ow flF 102 H' r (flitsOf w h p)∧(∀i∈ids r,H.length≤i)∧Chg H H' []):=by
 rw [Qb (fn:=Tryz.f102) Tryz.func102 rfl (by kernel_rfl) rfl]
 have pk:=fun F H=>Zy (frz:=F) (H:=H) w h p
 obtain ⟨q1,q2,q3,q4,q5⟩:=p
 unfold pkV at pk ⊢
 simp only at pk
 have cG:Chg H (H++[⟨[.int .i64 w,.int .i64 h],0,25⟩,⟨[.int .i64 q1,.int .i64 q2,.int .i64 q3,.int .i64 q4,.int .i64 q5],0,47⟩,⟨[],0,102⟩]) []:=Chg.app _
 have o0:Ow flF 102 (H++[⟨[.int .i64 w,.int .i64 h],0,25⟩,⟨[.int .i64 q1,.int .i64 q2,.int .i64 q3,.int .i64 q4,.int .i64 q5],0,47⟩,⟨[],0,102⟩]) (.slice (some ⟨H.length+2,0,some 0⟩) 0 0) []:=Ow.new (D:=flF) (xs:=[]) (k:=2) rfl rfl rfl rfl
 simp [VM.look]
 by_cases g:packetOk w h (q1,q2,q3,q4,q5)
 rotate_left
 ·have e:flitsOf w h (q1,q2,q3,q4,q5)=[]:=if_neg g
  rw [e]
  rw [Mf];by_cases g2:0<q5<;>simp [g,g2,VM.look,pk]
  all_goals first|exact ⟨o0,by simp,cG⟩|exact ⟨o0,by simp,cG.2⟩|exact ⟨o0,cG⟩
 obtain ⟨n,hn⟩:∃n:Nat,q5=n:=⟨q5.toNat,by have:=g.2.2.2.2.2;unfold inR at this;simp only at this;omega⟩
 have hn5:n≤5:=by have:=g.2.2.2.2.2;unfold inR at this;simp only at this;omega
 subst hn
 have hfl:flitsOf w h (q1,q2,q3,q4,(n:Int))=(List.range n).map fun i:Nat=>(q1,q3,q4,decide ((i:Int)=0),decide ((i:Int)=(n:Int)-1)):=by
  unfold flitsOf;rw [if_pos g];simp only [Int.toNat_natCast]
 refine Qm (fun m t H'=>∃(i:Nat) (out:Value),m=n-i∧i≤n∧t 2=.pointer (some ⟨H.length,0,some 0⟩)∧t 3=.pointer (some ⟨H.length+1,0,some 0⟩)∧t 5=out∧t 6=.int .i64 i∧Chg H H' []∧H'[H.length]? = some ⟨[.int .i64 w,.int .i64 h],0,25⟩∧H'[H.length+1]? = some ⟨[.int .i64 q1,.int .i64 q2,.int .i64 q3,.int .i64 q4,.int .i64 (n:Int)],0,47⟩∧Ow flF 102 H' out ((List.range i).map fun i:Nat=>(q1,q3,q4,decide ((i:Int)=0),decide ((i:Int)=(n:Int)-1)))∧(∀j∈ids out,H.length+2≤j)) ?_ (n:=n)
  ⟨0,.slice (some ⟨H.length+2,0,some 0⟩) 0 0,rfl,by omega,by simp,by simp,by simp,by simp,cG,by simp,by simp,o0,by simp⟩
 rintro m t H' ⟨i,out,rfl,hi,t2,t3,t5,t6,ch,b0,b1,oo,no⟩ ih
 simp [t2,t3,t5,t6,VM.look,b0,b1]
 by_cases g1:i<n
 ·simp [t2,t3,t5,t6,g1,VM.look,b0,b1,pk,g]
  have e5:=@w6 ((n:Int)-1) (by omega)
  obtain ⟨Bh,hBh⟩:∃B,B=decide ((i:Int)=0):=⟨_,rfl⟩
  obtain ⟨Bt,hBt⟩:∃B,B=decide ((i:Int)=(n:Int)-1):=⟨_,rfl⟩
  have z1:∀[Inhabited Unit],(decide (i=0))=Bh:=by intro _;rw [hBh];simp
  have z2:∀[Inhabited Unit],(decide ((i:Int)=(n:Int)-1))=Bt:=by intro _;rw [hBt]
  obtain ⟨r',H3,hap,o3,c3,n3⟩:=oo.push (P:=Tryz.prog) (frz:=H.length) (ty:=75) (a:=(q1,q3,q4,Bh,Bt)) (by simp) rfl (by simp;omega) (fun j hj=>by have:=no j hj;omega)
  simp only [Wb] at hap
  simp [-Qe,-Qq,t2,t3,t5,t6,VM.look,b0,b1,e5,z1,z2,hap]
  refine ih (n-(i+1)) _ _ ⟨i+1,r',rfl,by omega,by simp [t2],by simp [t3],by simp,?_,ch.trans' c3 (fun j hj=>.inr (by have:=no j hj;omega)),Qa b0 c3 (fun hh=>by have:=no _ hh;omega),Qa b1 c3 (fun hh=>by have:=no _ hh;omega),?_,fun j hj=>?_⟩ (by omega)
  ·simp [t6];rw [w64 (by omega) (by omega)]
  ·rw [List.range_succ,List.map_append,List.map_cons,List.map_nil,← hBh,← hBt];exact o3
  ·rcases n3 j hj with h1|h1
   ·exact no j h1
   ·have:=Q0 b1;omega
 ·have:i=n:=by omega
  subst this
  simp [t2,t3,t5,t6,VM.look,b1]
  exact ⟨by rw [hfl];exact oo,fun j hj=>by have:=no j hj;omega,ch⟩
theorem R8 {P A S A':List Nat} {N:Nat} (nd:(P++(A++S)).Nodup) (lt:∀i∈P++(A++S),i<N) (na:A'.Nodup) (h:∀i∈A',i∈A∨N≤i):(P++(A'++S)).Nodup∧(∀i∈P++(A'++S),i∈P++(A++S)∨N≤i):=by
 obtain ⟨n1,n2,n3⟩:=List.nodup_append.1 nd
 obtain ⟨m1,m2,m3⟩:=List.nodup_append.1 n2
 refine ⟨List.nodup_append.2 ⟨n1,List.nodup_append.2 ⟨na,m2,fun a ha b hb e=>?_⟩,fun a ha b hb e=>?_⟩,fun i hi=>?_⟩
 ·subst e
  rcases h a ha with g|g
  ·exact m3 a g a hb rfl
  ·have:=lt a (List.mem_append_right _ (List.mem_append_right _ hb));omega
 ·subst e
  rcases List.mem_append.1 hb with hb|hb
  ·rcases h a hb with g|g
   ·exact n3 a ha a (List.mem_append_left _ g) rfl
   ·have:=lt a (List.mem_append_left _ ha);omega
  ·exact n3 a ha a (List.mem_append_right _ hb) rfl
 ·rcases List.mem_append.1 hi with hi|hi
  ·exact .inl (List.mem_append_left _ hi)
  rcases List.mem_append.1 hi with hi|hi
  ·rcases h i hi with g|g
   ·exact .inl (List.mem_append_right _ (List.mem_append_left _ g))
   ·exact .inr g
  ·exact .inl (List.mem_append_right _ (List.mem_append_right _ hi))
theorem Pm {P A S:List Nat} (nd:(P++(A++S)).Nodup):(∀i∈P,i∉A)∧(∀i∈S,i∉A):=by
 obtain ⟨n1,n2,n3⟩:=List.nodup_append.1 nd
 obtain ⟨m1,m2,m3⟩:=List.nodup_append.1 n2
 exact ⟨fun i hi hh=>n3 i hi i (List.mem_append_left _ hh) rfl,fun i hi hh=>m3 i hh i hi rfl⟩
def withBuf (x:NetD) (s:SSD):NetD:=(x.1,x.2.1,s,x.2.2.2.1,x.2.2.2.2.1,x.2.2.2.2.2.1,x.2.2.2.2.2.2.1,x.2.2.2.2.2.2.2)
def putBuf (n:NetV) (u:SSV):NetV:=(n.1,n.2.1,u,n.2.2.2.1,n.2.2.2.2.1,n.2.2.2.2.2.1,n.2.2.2.2.2.2.1,n.2.2.2.2.2.2.2)
theorem Jr {K K':Heap} {n:NetV} {x:NetD} {u:SSV} {s:SSD} (on:dNet.Ow K n x) (nd:(dNet.ids n).Nodup) (c:Chg K K' (dSS.ids n.2.2.1)) (os:dSS.Ow K' u s) (na:(dSS.ids u).Nodup) (hi:∀i∈dSS.ids u,i∈dSS.ids n.2.2.1∨K.length≤i) :
 dNet.Ow K' (putBuf n u) (withBuf x s)∧(dNet.ids (putBuf n u)).Nodup∧∀i∈dNet.ids (putBuf n u),i∈dNet.ids n∨K.length≤i:=by
 have lt:=dNet.lt on
 have e:dNet.ids n=(dMesh.ids n.1++dClasses.ids n.2.1)++(dSS.ids n.2.2.1++(dIntS.ids n.2.2.2.1++(dIntS.ids n.2.2.2.2.1++(dSS.ids n.2.2.2.2.2.1++(dSS.ids n.2.2.2.2.2.2.1++[]))))):=by
  show dMesh.ids n.1++(dClasses.ids n.2.1++(dSS.ids n.2.2.1++(dIntS.ids n.2.2.2.1++(dIntS.ids n.2.2.2.2.1++(dSS.ids n.2.2.2.2.2.1++(dSS.ids n.2.2.2.2.2.2.1++[]))))))=_
  simp only [List.append_assoc]
 have e':dNet.ids (putBuf n u)=(dMesh.ids n.1++dClasses.ids n.2.1)++(dSS.ids u++(dIntS.ids n.2.2.2.1++(dIntS.ids n.2.2.2.2.1++(dSS.ids n.2.2.2.2.2.1++(dSS.ids n.2.2.2.2.2.2.1++[]))))):=by
  show dMesh.ids n.1++(dClasses.ids n.2.1++(dSS.ids u++(dIntS.ids n.2.2.2.1++(dIntS.ids n.2.2.2.2.1++(dSS.ids n.2.2.2.2.2.1++(dSS.ids n.2.2.2.2.2.2.1++[]))))))=_
  simp only [List.append_assoc]
 rw [e] at nd lt ⊢
 rw [e']
 obtain ⟨m1,m2⟩:=R8 nd lt na hi
 obtain ⟨d1,d2⟩:=Pm nd
 obtain ⟨o1,o2,o3,o4,o5,o6,o7,_⟩:=on
 exact ⟨⟨Dt.chg (T:=dMesh) o1 c (fun i hi=>d1 i (List.mem_append_left _ (hi))),Dt.chg (T:=dClasses) o2 c (fun i hi=>d1 i (List.mem_append_right _ hi)),os,Dt.chg (T:=dIntS) o4 c (fun i hi=>d2 i (List.mem_append_left _ hi)),Dt.chg (T:=dIntS) o5 c (fun i hi=>d2 i (List.mem_append_right _ (List.mem_append_left _ hi))),Dt.chg (T:=dSS) o6 c (fun i hi=>d2 i (List.mem_append_right _ (List.mem_append_right _ (List.mem_append_left _ hi)))),Dt.chg (T:=dSS) o7 c (fun i hi=>d2 i (List.mem_append_right _ (List.mem_append_right _ (List.mem_append_right _ (List.mem_append_left _ hi))))),trivial⟩,m1,m2⟩
theorem Wm {n:NetV}:∀i∈dSS.ids n.2.2.1,i∈dNet.ids n:=fun i hi=>by
 show i∈dMesh.ids n.1++(dClasses.ids n.2.1++(dSS.ids n.2.2.1++(dIntS.ids n.2.2.2.1++(dIntS.ids n.2.2.2.2.1++(dSS.ids n.2.2.2.2.2.1++(dSS.ids n.2.2.2.2.2.2.1++[]))))))
 simp only [List.mem_append];right;right;left;exact hi
theorem X7 {n:NetV} (nd:(dNet.ids n).Nodup):(dSS.ids n.2.2.1).Nodup:=by
 have e:dNet.ids n=(dMesh.ids n.1++dClasses.ids n.2.1)++(dSS.ids n.2.2.1++(dIntS.ids n.2.2.2.1++(dIntS.ids n.2.2.2.2.1++(dSS.ids n.2.2.2.2.2.1++(dSS.ids n.2.2.2.2.2.2.1++[]))))):=by
  show dMesh.ids n.1++(dClasses.ids n.2.1++(dSS.ids n.2.2.1++(dIntS.ids n.2.2.2.1++(dIntS.ids n.2.2.2.2.1++(dSS.ids n.2.2.2.2.2.1++(dSS.ids n.2.2.2.2.2.2.1++[]))))))=_
  simp only [List.append_assoc]
 rw [e] at nd
 exact (List.nodup_append.1 (List.nodup_append.1 nd).2.1).1
def withOwn (x:NetD) (s:List Int):NetD:=(x.1,x.2.1,x.2.2.1,s,x.2.2.2.2.1,x.2.2.2.2.2.1,x.2.2.2.2.2.2.1,x.2.2.2.2.2.2.2)
def putOwn (n:NetV) (u:Value):NetV:=(n.1,n.2.1,n.2.2.1,u,n.2.2.2.2.1,n.2.2.2.2.2.1,n.2.2.2.2.2.2.1,n.2.2.2.2.2.2.2)
theorem In {K K':Heap} {n:NetV} {x:NetD} {u:Value} {s:List Int} (on:dNet.Ow K n x) (nd:(dNet.ids n).Nodup) (c:Chg K K' (dIntS.ids n.2.2.2.1)) (os:dIntS.Ow K' u s) (na:(dIntS.ids u).Nodup) (hi:∀i∈dIntS.ids u,i∈dIntS.ids n.2.2.2.1∨K.length≤i) :
 dNet.Ow K' (putOwn n u) (withOwn x s)∧(dNet.ids (putOwn n u)).Nodup∧∀i∈dNet.ids (putOwn n u),i∈dNet.ids n∨K.length≤i:=by
 have lt:=dNet.lt on
 have e:dNet.ids n=((dMesh.ids n.1++dClasses.ids n.2.1)++dSS.ids n.2.2.1)++(dIntS.ids n.2.2.2.1++(dIntS.ids n.2.2.2.2.1++(dSS.ids n.2.2.2.2.2.1++(dSS.ids n.2.2.2.2.2.2.1++[])))):=by
  show dMesh.ids n.1++(dClasses.ids n.2.1++(dSS.ids n.2.2.1++(dIntS.ids n.2.2.2.1++(dIntS.ids n.2.2.2.2.1++(dSS.ids n.2.2.2.2.2.1++(dSS.ids n.2.2.2.2.2.2.1++[]))))))=_
  simp only [List.append_assoc]
 have e':dNet.ids (putOwn n u)=((dMesh.ids n.1++dClasses.ids n.2.1)++dSS.ids n.2.2.1)++(dIntS.ids u++(dIntS.ids n.2.2.2.2.1++(dSS.ids n.2.2.2.2.2.1++(dSS.ids n.2.2.2.2.2.2.1++[])))):=by
  show dMesh.ids n.1++(dClasses.ids n.2.1++(dSS.ids n.2.2.1++(dIntS.ids u++(dIntS.ids n.2.2.2.2.1++(dSS.ids n.2.2.2.2.2.1++(dSS.ids n.2.2.2.2.2.2.1++[]))))))=_
  simp only [List.append_assoc]
 rw [e] at nd lt ⊢
 rw [e']
 obtain ⟨m1,m2⟩:=R8 nd lt na hi
 obtain ⟨d1,d2⟩:=Pm nd
 obtain ⟨o1,o2,o3,o4,o5,o6,o7,_⟩:=on
 exact ⟨⟨Dt.chg (T:=dMesh) o1 c (fun i hi=>d1 i (List.mem_append_left _ (List.mem_append_left _ (hi)))),Dt.chg (T:=dClasses) o2 c (fun i hi=>d1 i (List.mem_append_left _ (List.mem_append_right _ hi))),Dt.chg (T:=dSS) o3 c (fun i hi=>d1 i (List.mem_append_right _ hi)),os,Dt.chg (T:=dIntS) o5 c (fun i hi=>d2 i (List.mem_append_left _ hi)),Dt.chg (T:=dSS) o6 c (fun i hi=>d2 i (List.mem_append_right _ (List.mem_append_left _ hi))),Dt.chg (T:=dSS) o7 c (fun i hi=>d2 i (List.mem_append_right _ (List.mem_append_right _ (List.mem_append_left _ hi)))),trivial⟩,m1,m2⟩
theorem Tl {n:NetV}:∀i∈dIntS.ids n.2.2.2.1,i∈dNet.ids n:=fun i hi=>by
 show i∈dMesh.ids n.1++(dClasses.ids n.2.1++(dSS.ids n.2.2.1++(dIntS.ids n.2.2.2.1++(dIntS.ids n.2.2.2.2.1++(dSS.ids n.2.2.2.2.2.1++(dSS.ids n.2.2.2.2.2.2.1++[]))))))
 simp only [List.mem_append];right;right;right;left;exact hi
theorem Fu {n:NetV} (nd:(dNet.ids n).Nodup):(dIntS.ids n.2.2.2.1).Nodup:=by
 have e:dNet.ids n=((dMesh.ids n.1++dClasses.ids n.2.1)++dSS.ids n.2.2.1)++(dIntS.ids n.2.2.2.1++(dIntS.ids n.2.2.2.2.1++(dSS.ids n.2.2.2.2.2.1++(dSS.ids n.2.2.2.2.2.2.1++[])))):=by
  show dMesh.ids n.1++(dClasses.ids n.2.1++(dSS.ids n.2.2.1++(dIntS.ids n.2.2.2.1++(dIntS.ids n.2.2.2.2.1++(dSS.ids n.2.2.2.2.2.1++(dSS.ids n.2.2.2.2.2.2.1++[]))))))=_
  simp only [List.append_assoc]
 rw [e] at nd
 exact (List.nodup_append.1 (List.nodup_append.1 nd).2.1).1
def withTurn (x:NetD) (s:List Int):NetD:=(x.1,x.2.1,x.2.2.1,x.2.2.2.1,s,x.2.2.2.2.2.1,x.2.2.2.2.2.2.1,x.2.2.2.2.2.2.2)
def putTurn (n:NetV) (u:Value):NetV:=(n.1,n.2.1,n.2.2.1,n.2.2.2.1,u,n.2.2.2.2.2.1,n.2.2.2.2.2.2.1,n.2.2.2.2.2.2.2)
theorem Kj {K K':Heap} {n:NetV} {x:NetD} {u:Value} {s:List Int} (on:dNet.Ow K n x) (nd:(dNet.ids n).Nodup) (c:Chg K K' (dIntS.ids n.2.2.2.2.1)) (os:dIntS.Ow K' u s) (na:(dIntS.ids u).Nodup) (hi:∀i∈dIntS.ids u,i∈dIntS.ids n.2.2.2.2.1∨K.length≤i) :
 dNet.Ow K' (putTurn n u) (withTurn x s)∧(dNet.ids (putTurn n u)).Nodup∧∀i∈dNet.ids (putTurn n u),i∈dNet.ids n∨K.length≤i:=by
 have lt:=dNet.lt on
 have e:dNet.ids n=(((dMesh.ids n.1++dClasses.ids n.2.1)++dSS.ids n.2.2.1)++dIntS.ids n.2.2.2.1)++(dIntS.ids n.2.2.2.2.1++(dSS.ids n.2.2.2.2.2.1++(dSS.ids n.2.2.2.2.2.2.1++[]))):=by
  show dMesh.ids n.1++(dClasses.ids n.2.1++(dSS.ids n.2.2.1++(dIntS.ids n.2.2.2.1++(dIntS.ids n.2.2.2.2.1++(dSS.ids n.2.2.2.2.2.1++(dSS.ids n.2.2.2.2.2.2.1++[]))))))=_
  simp only [List.append_assoc]
 have e':dNet.ids (putTurn n u)=(((dMesh.ids n.1++dClasses.ids n.2.1)++dSS.ids n.2.2.1)++dIntS.ids n.2.2.2.1)++(dIntS.ids u++(dSS.ids n.2.2.2.2.2.1++(dSS.ids n.2.2.2.2.2.2.1++[]))):=by
  show dMesh.ids n.1++(dClasses.ids n.2.1++(dSS.ids n.2.2.1++(dIntS.ids n.2.2.2.1++(dIntS.ids u++(dSS.ids n.2.2.2.2.2.1++(dSS.ids n.2.2.2.2.2.2.1++[]))))))=_
  simp only [List.append_assoc]
 rw [e] at nd lt ⊢
 rw [e']
 obtain ⟨m1,m2⟩:=R8 nd lt na hi
 obtain ⟨d1,d2⟩:=Pm nd
 obtain ⟨o1,o2,o3,o4,o5,o6,o7,_⟩:=on
 exact ⟨⟨Dt.chg (T:=dMesh) o1 c (fun i hi=>d1 i (List.mem_append_left _ (List.mem_append_left _ (List.mem_append_left _ (hi))))),Dt.chg (T:=dClasses) o2 c (fun i hi=>d1 i (List.mem_append_left _ (List.mem_append_left _ (List.mem_append_right _ hi)))),Dt.chg (T:=dSS) o3 c (fun i hi=>d1 i (List.mem_append_left _ (List.mem_append_right _ hi))),Dt.chg (T:=dIntS) o4 c (fun i hi=>d1 i (List.mem_append_right _ hi)),os,Dt.chg (T:=dSS) o6 c (fun i hi=>d2 i (List.mem_append_left _ hi)),Dt.chg (T:=dSS) o7 c (fun i hi=>d2 i (List.mem_append_right _ (List.mem_append_left _ hi))),trivial⟩,m1,m2⟩
theorem U8 {n:NetV}:∀i∈dIntS.ids n.2.2.2.2.1,i∈dNet.ids n:=fun i hi=>by
 show i∈dMesh.ids n.1++(dClasses.ids n.2.1++(dSS.ids n.2.2.1++(dIntS.ids n.2.2.2.1++(dIntS.ids n.2.2.2.2.1++(dSS.ids n.2.2.2.2.2.1++(dSS.ids n.2.2.2.2.2.2.1++[]))))))
 simp only [List.mem_append];right;right;right;right;left;exact hi
theorem Jn {n:NetV} (nd:(dNet.ids n).Nodup):(dIntS.ids n.2.2.2.2.1).Nodup:=by
 have e:dNet.ids n=(((dMesh.ids n.1++dClasses.ids n.2.1)++dSS.ids n.2.2.1)++dIntS.ids n.2.2.2.1)++(dIntS.ids n.2.2.2.2.1++(dSS.ids n.2.2.2.2.2.1++(dSS.ids n.2.2.2.2.2.2.1++[]))):=by
  show dMesh.ids n.1++(dClasses.ids n.2.1++(dSS.ids n.2.2.1++(dIntS.ids n.2.2.2.1++(dIntS.ids n.2.2.2.2.1++(dSS.ids n.2.2.2.2.2.1++(dSS.ids n.2.2.2.2.2.2.1++[]))))))=_
  simp only [List.append_assoc]
 rw [e] at nd
 exact (List.nodup_append.1 (List.nodup_append.1 nd).2.1).1
def withSrc (x:NetD) (s:SSD):NetD:=(x.1,x.2.1,x.2.2.1,x.2.2.2.1,x.2.2.2.2.1,s,x.2.2.2.2.2.2.1,x.2.2.2.2.2.2.2)
def putSrc (n:NetV) (u:SSV):NetV:=(n.1,n.2.1,n.2.2.1,n.2.2.2.1,n.2.2.2.2.1,u,n.2.2.2.2.2.2.1,n.2.2.2.2.2.2.2)
theorem Va {K K':Heap} {n:NetV} {x:NetD} {u:SSV} {s:SSD} (on:dNet.Ow K n x) (nd:(dNet.ids n).Nodup) (c:Chg K K' (dSS.ids n.2.2.2.2.2.1)) (os:dSS.Ow K' u s) (na:(dSS.ids u).Nodup) (hi:∀i∈dSS.ids u,i∈dSS.ids n.2.2.2.2.2.1∨K.length≤i) :
 dNet.Ow K' (putSrc n u) (withSrc x s)∧(dNet.ids (putSrc n u)).Nodup∧∀i∈dNet.ids (putSrc n u),i∈dNet.ids n∨K.length≤i:=by
 have lt:=dNet.lt on
 have e:dNet.ids n=((((dMesh.ids n.1++dClasses.ids n.2.1)++dSS.ids n.2.2.1)++dIntS.ids n.2.2.2.1)++dIntS.ids n.2.2.2.2.1)++(dSS.ids n.2.2.2.2.2.1++(dSS.ids n.2.2.2.2.2.2.1++[])):=by
  show dMesh.ids n.1++(dClasses.ids n.2.1++(dSS.ids n.2.2.1++(dIntS.ids n.2.2.2.1++(dIntS.ids n.2.2.2.2.1++(dSS.ids n.2.2.2.2.2.1++(dSS.ids n.2.2.2.2.2.2.1++[]))))))=_
  simp only [List.append_assoc]
 have e':dNet.ids (putSrc n u)=((((dMesh.ids n.1++dClasses.ids n.2.1)++dSS.ids n.2.2.1)++dIntS.ids n.2.2.2.1)++dIntS.ids n.2.2.2.2.1)++(dSS.ids u++(dSS.ids n.2.2.2.2.2.2.1++[])):=by
  show dMesh.ids n.1++(dClasses.ids n.2.1++(dSS.ids n.2.2.1++(dIntS.ids n.2.2.2.1++(dIntS.ids n.2.2.2.2.1++(dSS.ids u++(dSS.ids n.2.2.2.2.2.2.1++[]))))))=_
  simp only [List.append_assoc]
 rw [e] at nd lt ⊢
 rw [e']
 obtain ⟨m1,m2⟩:=R8 nd lt na hi
 obtain ⟨d1,d2⟩:=Pm nd
 obtain ⟨o1,o2,o3,o4,o5,o6,o7,_⟩:=on
 exact ⟨⟨Dt.chg (T:=dMesh) o1 c (fun i hi=>d1 i (List.mem_append_left _ (List.mem_append_left _ (List.mem_append_left _ (List.mem_append_left _ (hi)))))),Dt.chg (T:=dClasses) o2 c (fun i hi=>d1 i (List.mem_append_left _ (List.mem_append_left _ (List.mem_append_left _ (List.mem_append_right _ hi))))),Dt.chg (T:=dSS) o3 c (fun i hi=>d1 i (List.mem_append_left _ (List.mem_append_left _ (List.mem_append_right _ hi)))),Dt.chg (T:=dIntS) o4 c (fun i hi=>d1 i (List.mem_append_left _ (List.mem_append_right _ hi))),Dt.chg (T:=dIntS) o5 c (fun i hi=>d1 i (List.mem_append_right _ hi)),os,Dt.chg (T:=dSS) o7 c (fun i hi=>d2 i (List.mem_append_left _ hi)),trivial⟩,m1,m2⟩
theorem Ya {n:NetV}:∀i∈dSS.ids n.2.2.2.2.2.1,i∈dNet.ids n:=fun i hi=>by
 show i∈dMesh.ids n.1++(dClasses.ids n.2.1++(dSS.ids n.2.2.1++(dIntS.ids n.2.2.2.1++(dIntS.ids n.2.2.2.2.1++(dSS.ids n.2.2.2.2.2.1++(dSS.ids n.2.2.2.2.2.2.1++[]))))))
 simp only [List.mem_append];right;right;right;right;right;left;exact hi
theorem V8 {n:NetV} (nd:(dNet.ids n).Nodup):(dSS.ids n.2.2.2.2.2.1).Nodup:=by
 have e:dNet.ids n=((((dMesh.ids n.1++dClasses.ids n.2.1)++dSS.ids n.2.2.1)++dIntS.ids n.2.2.2.1)++dIntS.ids n.2.2.2.2.1)++(dSS.ids n.2.2.2.2.2.1++(dSS.ids n.2.2.2.2.2.2.1++[])):=by
  show dMesh.ids n.1++(dClasses.ids n.2.1++(dSS.ids n.2.2.1++(dIntS.ids n.2.2.2.1++(dIntS.ids n.2.2.2.2.1++(dSS.ids n.2.2.2.2.2.1++(dSS.ids n.2.2.2.2.2.2.1++[]))))))=_
  simp only [List.append_assoc]
 rw [e] at nd
 exact (List.nodup_append.1 (List.nodup_append.1 nd).2.1).1
def withArr (x:NetD) (s:SSD):NetD:=(x.1,x.2.1,x.2.2.1,x.2.2.2.1,x.2.2.2.2.1,x.2.2.2.2.2.1,s,x.2.2.2.2.2.2.2)
def putArr (n:NetV) (u:SSV):NetV:=(n.1,n.2.1,n.2.2.1,n.2.2.2.1,n.2.2.2.2.1,n.2.2.2.2.2.1,u,n.2.2.2.2.2.2.2)
theorem K8 {K K':Heap} {n:NetV} {x:NetD} {u:SSV} {s:SSD} (on:dNet.Ow K n x) (nd:(dNet.ids n).Nodup) (c:Chg K K' (dSS.ids n.2.2.2.2.2.2.1)) (os:dSS.Ow K' u s) (na:(dSS.ids u).Nodup) (hi:∀i∈dSS.ids u,i∈dSS.ids n.2.2.2.2.2.2.1∨K.length≤i) :
 dNet.Ow K' (putArr n u) (withArr x s)∧(dNet.ids (putArr n u)).Nodup∧∀i∈dNet.ids (putArr n u),i∈dNet.ids n∨K.length≤i:=by
 have lt:=dNet.lt on
 have e:dNet.ids n=(((((dMesh.ids n.1++dClasses.ids n.2.1)++dSS.ids n.2.2.1)++dIntS.ids n.2.2.2.1)++dIntS.ids n.2.2.2.2.1)++dSS.ids n.2.2.2.2.2.1)++(dSS.ids n.2.2.2.2.2.2.1++[]):=by
  show dMesh.ids n.1++(dClasses.ids n.2.1++(dSS.ids n.2.2.1++(dIntS.ids n.2.2.2.1++(dIntS.ids n.2.2.2.2.1++(dSS.ids n.2.2.2.2.2.1++(dSS.ids n.2.2.2.2.2.2.1++[]))))))=_
  simp only [List.append_assoc]
 have e':dNet.ids (putArr n u)=(((((dMesh.ids n.1++dClasses.ids n.2.1)++dSS.ids n.2.2.1)++dIntS.ids n.2.2.2.1)++dIntS.ids n.2.2.2.2.1)++dSS.ids n.2.2.2.2.2.1)++(dSS.ids u++[]):=by
  show dMesh.ids n.1++(dClasses.ids n.2.1++(dSS.ids n.2.2.1++(dIntS.ids n.2.2.2.1++(dIntS.ids n.2.2.2.2.1++(dSS.ids n.2.2.2.2.2.1++(dSS.ids u++[]))))))=_
  simp only [List.append_assoc]
 rw [e] at nd lt ⊢
 rw [e']
 obtain ⟨m1,m2⟩:=R8 nd lt na hi
 obtain ⟨d1,d2⟩:=Pm nd
 obtain ⟨o1,o2,o3,o4,o5,o6,o7,_⟩:=on
 exact ⟨⟨Dt.chg (T:=dMesh) o1 c (fun i hi=>d1 i (List.mem_append_left _ (List.mem_append_left _ (List.mem_append_left _ (List.mem_append_left _ (List.mem_append_left _ (hi))))))),Dt.chg (T:=dClasses) o2 c (fun i hi=>d1 i (List.mem_append_left _ (List.mem_append_left _ (List.mem_append_left _ (List.mem_append_left _ (List.mem_append_right _ hi)))))),Dt.chg (T:=dSS) o3 c (fun i hi=>d1 i (List.mem_append_left _ (List.mem_append_left _ (List.mem_append_left _ (List.mem_append_right _ hi))))),Dt.chg (T:=dIntS) o4 c (fun i hi=>d1 i (List.mem_append_left _ (List.mem_append_left _ (List.mem_append_right _ hi)))),Dt.chg (T:=dIntS) o5 c (fun i hi=>d1 i (List.mem_append_left _ (List.mem_append_right _ hi))),Dt.chg (T:=dSS) o6 c (fun i hi=>d1 i (List.mem_append_right _ hi)),os,trivial⟩,m1,m2⟩
theorem Yy {n:NetV}:∀i∈dSS.ids n.2.2.2.2.2.2.1,i∈dNet.ids n:=fun i hi=>by
 show i∈dMesh.ids n.1++(dClasses.ids n.2.1++(dSS.ids n.2.2.1++(dIntS.ids n.2.2.2.1++(dIntS.ids n.2.2.2.2.1++(dSS.ids n.2.2.2.2.2.1++(dSS.ids n.2.2.2.2.2.2.1++[]))))))
 simp only [List.mem_append];right;right;right;right;right;right;left;exact hi
theorem Ot {n:NetV} (nd:(dNet.ids n).Nodup):(dSS.ids n.2.2.2.2.2.2.1).Nodup:=by
 have e:dNet.ids n=(((((dMesh.ids n.1++dClasses.ids n.2.1)++dSS.ids n.2.2.1)++dIntS.ids n.2.2.2.1)++dIntS.ids n.2.2.2.2.1)++dSS.ids n.2.2.2.2.2.1)++(dSS.ids n.2.2.2.2.2.2.1++[]):=by
  show dMesh.ids n.1++(dClasses.ids n.2.1++(dSS.ids n.2.2.1++(dIntS.ids n.2.2.2.1++(dIntS.ids n.2.2.2.2.1++(dSS.ids n.2.2.2.2.2.1++(dSS.ids n.2.2.2.2.2.2.1++[]))))))=_
  simp only [List.append_assoc]
 rw [e] at nd
 exact (List.nodup_append.1 (List.nodup_append.1 nd).2.1).1
def sendNet (x:NetD) (p:PkD):NetD:=withSrc x (x.2.2.2.2.2.1.set p.2.1.toNat (x.2.2.2.2.2.1.getD p.2.1.toNat []++flitsOf x.1.1 x.1.2.1 p))
theorem Pk {K:Heap} {u:Value} {hs:List Value} {xss:SSD} {k:Nat} {ys:List FlitD} (h:OwL flF 102 75 K u hs (xss.set k ys)) (h1:xss.length≤2097152) (h2:∀xs∈xss,xs.length≤67108864) (h3:ys.length≤67108864):dSS.Ow K (u,hs) (xss.set k ys):=
 ⟨h,by simpa using h1,fun xs hx=>by
  rcases List.mem_or_eq_of_mem_set hx with hx|rfl
  ·exact h2 xs hx
  ·exact h3⟩
theorem Lf (w h:Int) (p:PkD):(flitsOf w h p).length≤5:=by
 unfold flitsOf;split
 ·rename_i g
  have:=g.2.2.2.2.2;unfold inR at this;simp;omega
 ·simp
theorem Ja {v:NetV} {x:NetD} {p:PkD} {m:Nat} (o:dNet.Ow H v x) (hm:p.2.1=m) (hml:m<x.2.2.2.2.2.1.length) (hs:(x.2.2.2.2.2.1[m]).length≤60) :
 wp (vcall C frz 79 [dNet.val v x,pkV p] H) (dNet.Made H (sendNet x p)):=by
 have ones:=Qh o
 have ecopy:=fun L=>Y1 (frz:=H.length) (H:=H++L) (v:=v) (x:=x) (Dt.app (T:=dNet) o)
 have fo:=fun F H=>Iq (frz:=F) (H:=H) x.1.1 x.1.2.1 p
 obtain ⟨q1,q2,q3,q4,q5⟩:=p
 simp only at hm
 subst hm
 unfold pkV at fo ⊢
 simp only [Qc] at ecopy ⊢
 rw [Qb (fn:=Tryz.f79) Tryz.func79 rfl (by kernel_rfl) rfl]
 simp only at fo
 simp [ones]
 refine Qd (ecopy _) ?_
 rintro _ K ⟨n,rfl,on,cn,mn,dn⟩
 simp at mn
 have qn:=Qh on
 have lK:=cn.1
 simp at lK
 simp [Qc,qn,VM.look]
 have hF:H.length≤K.length:=by omega
 simp [hF]
 obtain ⟨K1,hK1⟩:∃K1,K1=K++[⟨[.int .i64 x.1.1,.int .i64 x.1.2.1,n.1,n.2.1.1,n.2.1.2,n.2.2.1.1,n.2.2.2.1,n.2.2.2.2.1,n.2.2.2.2.2.1.1,n.2.2.2.2.2.2.1.1,.int .i64 x.2.2.2.2.2.2.2],0,35⟩]:=⟨_,rfl⟩
 rw [← hK1]
 have cH:Chg H K []:=(Chg.app _).trans cn
 have c1:Chg K K1 []:=by rw [hK1];exact Chg.app _
 have l1:K1.length=K.length+1:=by rw [hK1];simp
 have b2:K1[H.length]? = some ⟨[.int .i64 x.1.1,.int .i64 x.1.2.1,v.1,v.2.1.1,v.2.1.2,v.2.2.1.1,v.2.2.2.1,v.2.2.2.2.1,v.2.2.2.2.2.1.1,v.2.2.2.2.2.2.1.1,.int .i64 x.2.2.2.2.2.2.2],0,35⟩:=Qa (Qa (by simp) cn (by simp)) c1 (by simp)
 have b3:K1[H.length+1]? = some ⟨[.int .i64 q1,.int .i64 m,.int .i64 q3,.int .i64 q4,.int .i64 q5],0,47⟩:=Qa (Qa (by simp) cn (by simp)) c1 (by simp)
 have bR:K1[H.length+2]? = some ⟨[.int .i64 0,.int .i64 0,.slice none 0 0,.slice none 0 0,.slice none 0 0,.slice none 0 0,.slice none 0 0,.slice none 0 0,.slice none 0 0,.slice none 0 0,.int .i64 0],0,35⟩:=Qa (Qa (by simp) cn (by simp)) c1 (by simp)
 have b5:K1[K.length]? = some ⟨[.int .i64 x.1.1,.int .i64 x.1.2.1,n.1,n.2.1.1,n.2.1.2,n.2.2.1.1,n.2.2.2.1,n.2.2.2.2.1,n.2.2.2.2.2.1.1,n.2.2.2.2.2.2.1.1,.int .i64 x.2.2.2.2.2.2.2],0,35⟩:=by rw [hK1];simp
 have on1:=Dt.chg (T:=dNet) on c1 (by simp)
 clear hK1
 obtain ⟨o1,o2,o3,o4,o5,o6,o7,_⟩:=on1
 obtain ⟨a,a1,a2,a3,a4⟩:=Q9 o6.1.rd (ty:=33) (e:=75) (by simp) (by simp) hml
 rw [Xo (fl:=([1,3],[17])) (h:=⟨by kernel_rfl,by kernel_rfl,by kernel_rfl,by kernel_rfl⟩)]
 have lv:=fun H=>@Wa H
 have liv:=Wa o6.1.1
 have qa:VM.one a=true∧a.cells=#[a]:=⟨a4.one',a4.cells⟩
 simp [emps,empOp,empB,VM.look,b2,b3,b5,a2,a3,qn,liv]
 refine Si (fo _ _) ?_
 rintro y K2 ⟨oy,ny,c2⟩
 have b2:=Qa b2 c2 (by simp)
 have b3:=Qa b3 c2 (by simp)
 have bR:=Qa bR c2 (by simp)
 have b5:=Qa b5 c2 (by simp)
 have o1:=Dt.chg (T:=dMesh) o1 c2 (by simp)
 have o2:=Dt.chg (T:=dClasses) o2 c2 (by simp)
 have o3:=Dt.chg (T:=dSS) o3 c2 (by simp)
 have o4:=Dt.chg (T:=dIntS) o4 c2 (by simp)
 have o5:=Dt.chg (T:=dIntS) o5 c2 (by simp)
 have o6:=Dt.chg (T:=dSS) o6 c2 (by simp)
 have o7:=Dt.chg (T:=dSS) o7 c2 (by simp)
 have liv2:=Wa o6.1.1
 refine ⟨by simp [VM.look,b3,b5,qn,liv2],?_⟩
 have hml':m<n.2.2.2.2.2.1.2.length:=by rw [o6.1.2.1];exact hml
 have ea:n.2.2.2.2.2.1.2[m]=a:=by rw [List.getElem?_eq_getElem hml'] at a1;exact Option.some.inj a1
 have oa:Ow flF 102 K2 a x.2.2.2.2.2.1[m]:=o6.1.2.2 m a _ a1 (by simp [hml])
 have h6:∀i∈dSS.ids n.2.2.2.2.2.1,i∈dNet.ids n:=fun i hi=>List.mem_append_right _ (List.mem_append_right _ (List.mem_append_right _ (List.mem_append_right _ (List.mem_append_right _ (List.mem_append_left _ hi)))))
 have ha6:∀i∈ids a,i∈dSS.ids n.2.2.2.2.2.1:=fun i hi=>W9 a1 hi
 have nd6:(dSS.ids n.2.2.2.2.2.1).Nodup:=by
  have:=(List.nodup_append.1 ((List.nodup_append.1 ((List.nodup_append.1 ((List.nodup_append.1 ((List.nodup_append.1 ((List.nodup_append.1 dn).2.1)).2.1)).2.1)).2.1)).2.1)).1
  exact this
 have hfl:=Lf x.1.1 x.1.2.1 (q1,m,q3,q4,q5)
 obtain ⟨a',K3,hap,oa',c3,na'⟩:=oa.append (P:=Tryz.prog) (frz:=H.length) (ty:=75) oy.rd (by simp) (Yr _) (by omega) (fun i hi=>by have:=mn i (h6 i (ha6 i hi));omega)
 have c3':Chg K2 K3 (ids n.2.2.2.2.2.1.2[m]):=by rw [ea];exact c3
 obtain ⟨K4,hst,oL,c4,ndL,idL,l4⟩:=Vo (frz:=H.length) (et:=75) (ag:=false) o6.1 nd6 hml' c3' oa' (by rw [ea];exact na') (fun i hi=>by have:=mn i (h6 i hi);omega) (by simp)
 have lt6:∀i∈dSS.ids n.2.2.2.2.2.1,i<K.length:=fun i hi=>dNet.lt on i (h6 i hi)
 have ida:∀i∈ids a,H.length+3≤i∧i<K.length:=fun i hi=>⟨by have:=mn i (h6 i (ha6 i hi));omega,lt6 i (ha6 i hi)⟩
 have b33:=Qa b3 c3 (fun hh=>by have:=ida _ hh;omega)
 have b35:=Qa b5 c3 (fun hh=>by have:=ida _ hh;omega)
 have dav:∀i∈ids n.2.2.2.2.2.1.1,i∉ids a:=fun i hi hh=>(List.nodup_append.1 nd6).2.2 i hi i (List.mem_flatMap.2 ⟨a,List.mem_of_getElem? a1,hh⟩) rfl
 have ol3:=o6.1.1.chg c3 dav
 have liv3:=Wa ol3
 have hsl:=o6.1.2.1
 have ix3:=ol3.rd.idx (P:=Tryz.prog) (ty:=33) (e:=75) (by simp) (i:=(m:Int)) (by omega) (by omega)
 have i6:∀i∈idsL n.2.2.2.2.2.1.1 n.2.2.2.2.2.1.2,H.length+3≤i∧i<K.length:=fun i hi=>⟨by have:=mn i (h6 i hi);omega,lt6 i hi⟩
 have b43:=Qa b3 c4 (fun hh=>by have:=i6 _ hh;omega)
 have b45:=Qa b5 c4 (fun hh=>by have:=i6 _ hh;omega)
 have b4R:=Qa bR c4 (fun hh=>by have:=i6 _ hh;omega)
 have liv4:=Wa oL.1
 have qa':VM.one a'=true∧a'.cells=#[a']:=⟨oa'.rd.one',oa'.rd.cells⟩
 simp only [Int.toNat_natCast,Nat.mul_one,show Fl.val.n=1 from rfl] at ix3
 have gR:=Qi (r':=⟨[.int .i64 x.1.1,.int .i64 x.1.2.1,n.1,n.2.1.1,n.2.1.2,n.2.2.1.1,n.2.2.2.1,n.2.2.2.2.1,n.2.2.2.2.2.1.1,n.2.2.2.2.2.2.1.1,.int .i64 x.2.2.2.2.2.2.2],0,35⟩) b4R
 have hF2:H.length≤H.length+2:=by omega
 simp [-Qe,-Qq,VM.look,hap,hst,b33,b35,ix3,liv3,b43,b45,liv4,qn,qa',b4R,gR,hF2]
 have e:sendNet x (q1,m,q3,q4,q5)=withSrc x (x.2.2.2.2.2.1.set m (x.2.2.2.2.2.1[m]++flitsOf x.1.1 x.1.2.1 (q1,m,q3,q4,q5))):=by
  unfold sendNet
  simp only [Int.toNat_natCast,List.getD_eq_getElem?_getD,List.getElem?_eq_getElem hml,Option.getD_some]
 rw [e]
 have on2:dNet.Ow K2 n x:=⟨o1,o2,o3,o4,o5,o6,o7,trivial⟩
 have l2:=c2.1
 obtain ⟨p1,p2,p3⟩:=Va (u:=(n.2.2.2.2.2.1.1,n.2.2.2.2.2.1.2.set m a')) on2 dn c4 (Pk oL o6.2.1 o6.2.2 (by simp;omega)) ndL idL
 have eR:Chg K4 (K4.set (H.length+2) ⟨[.int .i64 x.1.1,.int .i64 x.1.2.1,n.1,n.2.1.1,n.2.1.2,n.2.2.1.1,n.2.2.2.1,n.2.2.2.2.1,n.2.2.2.2.2.1.1,n.2.2.2.2.2.2.1.1,.int .i64 x.2.2.2.2.2.2.2],0,35⟩) [H.length+2]:=Ql _ _
 have pm:∀i∈dNet.ids (putSrc n (n.2.2.2.2.2.1.1,n.2.2.2.2.2.1.2.set m a')),H.length+3≤i:=fun i hi=>by
  rcases p3 i hi with g|g
  ·have:=mn i g;omega
  ·omega
 refine ⟨putSrc n (n.2.2.2.2.2.1.1,n.2.2.2.2.2.1.2.set m a'),rfl,Dt.chg (T:=dNet) p1 eR (fun i hi hh=>by have:=pm i hi;simp at hh;omega),?_,fun i hi=>by have:=pm i hi;omega,p2⟩
 exact (((cH.trans c1).trans c2).trans' c4 (fun i hi=>.inr (by have:=i6 i hi;omega))).trans' eR (fun i hi=>.inr (by simp at hi;omega))
def netCells (v:NetV) (x:NetD):List Value:=[.int .i64 x.1.1,.int .i64 x.1.2.1,v.1,v.2.1.1,v.2.1.2,v.2.2.1.1,v.2.2.2.1,v.2.2.2.2.1,v.2.2.2.2.2.1.1,v.2.2.2.2.2.2.1.1,.int .i64 x.2.2.2.2.2.2.2]
def sendOk (x:NetD) (p:PkD):Prop:=packetOk x.1.1 x.1.2.1 p∧((x.2.2.2.2.2.1.getD p.2.1.toNat []).length:Int)+p.2.2.2.2≤60
instance (x:NetD) (p:PkD):Decidable (sendOk x p):=inferInstanceAs (Decidable (_∧_))
theorem Zl {w h:Int} {p:PkD} (g:packetOk w h p):((flitsOf w h p).length:Int)=p.2.2.2.2:=by
 unfold flitsOf;rw [if_pos g]
 have:=g.2.2.2.2.2;unfold inR at this;simp;omega
theorem Kz {w h:Int} {p:PkD} (g:¬packetOk w h p):flitsOf w h p=[]:=if_neg g
theorem ql {v:NetV} {x:NetD} {p:PkD} {id:Nat} {e:TypeId} {tail:List Value} (hr:H[id]? = some ⟨netCells v x++tail,0,e⟩) (o:dNet.Ow H v x) (nd:(dNet.ids v).Nodup) (hf:∀i∈dNet.ids v,frz≤i) (hid:id∉dNet.ids v) (hN:(x.2.2.2.2.2.1.length:Int)=cnt x.1.1 x.1.2.1) (hs:∀l∈x.2.2.2.2.2.1,l.length≤60) :
 wp (vcall C frz 21 [.pointer (some ⟨id,0,some 0⟩),pkV p] H) (fun r H'=>r=.bool (decide (sendOk x p))∧
  if sendOk x p then ∃hs':List Value,dNet.Ow H' (putSrc v (v.2.2.2.2.2.1.1,hs')) (sendNet x p)∧(dNet.ids (putSrc v (v.2.2.2.2.2.1.1,hs'))).Nodup∧(∀i∈dNet.ids (putSrc v (v.2.2.2.2.2.1.1,hs')),i∈dNet.ids v∨H.length≤i)∧Chg H H' (dSS.ids v.2.2.2.2.2.1) else Chg H H' []):=by
 have ones:=Qh o
 have fo:=fun F H=>Fh (frz:=F) (H:=H) x.1.1 x.1.2.1 p
 rw [Qb (fn:=Tryz.f21) Tryz.func21 rfl (by kernel_rfl) rfl]
 have hlt:=Q0 hr
 unfold netCells at hr
 simp only [List.cons_append,List.nil_append] at hr
 obtain ⟨q1,q2,q3,q4,q5⟩:=p
 unfold pkV at fo ⊢
 simp only at fo
 have hr1:=fun r=>Qo hr [r]
 simp
 rw [Qp (h:=by kernel_rfl)]
 simp [VM.look,VM.vnil,hr1]
 refine Qd (fo _ _) ?_
 rintro y K ⟨oy,ny,c1⟩
 have hr2:=Qa (hr1 _) c1 (by simp)
 have b3:K[H.length]? = some ⟨[.int .i64 q1,.int .i64 q2,.int .i64 q3,.int .i64 q4,.int .i64 q5],0,47⟩:=Qa (by simp) c1 (by simp)
 have cH:Chg H K []:=(Chg.app _).trans c1
 have on:=Dt.chg (T:=dNet) o cH (by simp)
 have ly:=oy.rd.len (P:=Tryz.prog) (ty:=75) (by simp)
 simp
 rw [Qp (h:=by kernel_rfl)]
 by_cases g0:packetOk x.1.1 x.1.2.1 (q1,q2,q3,q4,q5)
 rotate_left
 ·have hso:¬sendOk x (q1,q2,q3,q4,q5):=fun k=>g0 k.1
  rw [Kz g0] at ly
  simp [ly,hso]
  exact cH
 have hfl:=Zl g0
 have hto:=g0.2.1
 unfold isN at hto
 simp only at hfl hto
 obtain ⟨m,rfl⟩:∃m:Nat,q2=m:=⟨q2.toNat,by omega⟩
 have hml:m<x.2.2.2.2.2.1.length:=by omega
 have hgd:x.2.2.2.2.2.1.getD m []=x.2.2.2.2.2.1[m]:=by simp [List.getD_eq_getElem?_getD,List.getElem?_eq_getElem hml]
 have hsm:=hs _ (List.getElem_mem hml)
 have hln:=g0.2.2.2.2.2
 unfold inR at hln
 simp only at hln
 have hfn:¬q5=0:=by omega
 obtain ⟨o1,o2,o3,o4,o5,o6,o7,_⟩:=on
 obtain ⟨a,a1,a2,a3,a4⟩:=Q9 o6.1.rd (ty:=33) (e:=75) (by simp) (by simp) hml
 have la:=a4.len (P:=Tryz.prog) (ty:=75) (by simp)
 have e1:=@w6 ((x.2.2.2.2.2.1[m].length:Int)+q5) (by omega)
 simp [VM.look,VM.vnil,ly,hfn,hr2,b3,a2,a3,la,hfl,e1]
 refine Qf ?_ ?_<;>intro g1
 ·have hso:¬sendOk x (q1,(m:Int),q3,q4,q5):=fun k=>by have:=k.2;simp only [Int.toNat_natCast,hgd] at this;omega
  simp [hso]
  exact cH
 have hso:sendOk x (q1,(m:Int),q3,q4,q5):=⟨g0,by simp only [Int.toNat_natCast,hgd];omega⟩
 simp
 have liv:=Wa o6.1.1
 have qa:VM.one a=true∧a.cells=#[a]:=⟨a4.one',a4.cells⟩
 have hml':m<v.2.2.2.2.2.1.2.length:=by rw [o6.1.2.1];exact hml
 have ea:v.2.2.2.2.2.1.2[m]=a:=by rw [List.getElem?_eq_getElem hml'] at a1;exact Option.some.inj a1
 have oa:Ow flF 102 K a x.2.2.2.2.2.1[m]:=o6.1.2.2 m a _ a1 (by simp [hml])
 have h6:=Ya (n:=v)
 have ha6:∀i∈ids a,i∈dSS.ids v.2.2.2.2.2.1:=fun i hi=>W9 a1 hi
 have nd6:=V8 nd
 have lt6:∀i∈dSS.ids v.2.2.2.2.2.1,i<H.length:=fun i hi=>dNet.lt o i (h6 i hi)
 obtain ⟨a',K3,hap,oa',c3,na'⟩:=oa.append (P:=Tryz.prog) (frz:=frz) (ty:=75) oy.rd (by simp) (Yr _) (by omega) (fun i hi=>hf i (h6 i (ha6 i hi)))
 have c3':Chg K K3 (ids v.2.2.2.2.2.1.2[m]):=by rw [ea];exact c3
 obtain ⟨K4,hst,oL,c4,ndL,idL,l4⟩:=Vo (frz:=frz) (et:=75) (ag:=false) o6.1 nd6 hml' c3' oa' (by rw [ea];exact na') (fun i hi=>hf i (h6 i hi)) (by simp)
 have b33:=Qa b3 c3 (fun hh=>by have:=lt6 _ (ha6 _ hh);omega)
 have b35:=Qa hr2 c3 (fun hh=>hid (h6 _ (ha6 _ hh)))
 have dav:∀i∈ids v.2.2.2.2.2.1.1,i∉ids a:=fun i hi hh=>(List.nodup_append.1 nd6).2.2 i hi i (List.mem_flatMap.2 ⟨a,List.mem_of_getElem? a1,hh⟩) rfl
 have ol3:=o6.1.1.chg c3 dav
 have liv3:=Wa ol3
 have hsl:=o6.1.2.1
 have ix3:=ol3.rd.idx (P:=Tryz.prog) (ty:=33) (e:=75) (by simp) (i:=(m:Int)) (by omega) (by omega)
 have b43:=Qa b3 c4 (fun hh=>by have:=lt6 _ hh;omega)
 have b45:=Qa hr2 c4 (fun hh=>hid (h6 _ hh))
 have liv4:=Wa oL.1
 have qa':VM.one a'=true∧a'.cells=#[a']:=⟨oa'.rd.one',oa'.rd.cells⟩
 simp only [Int.toNat_natCast,Nat.mul_one,show Fl.val.n=1 from rfl] at ix3
 rw [Xo (fl:=([3,5],[17])) (h:=⟨by kernel_rfl,by kernel_rfl,by kernel_rfl,by kernel_rfl⟩)]
 simp [emps,empOp,empB,-Qe,-Qq,VM.look,VM.vnil,hr2,b3,a2,a3,hap,hst,b33,b35,ix3,liv,liv3,b43,b45,liv4,ones,qa',hso]
 have en:sendNet x (q1,m,q3,q4,q5)=withSrc x (x.2.2.2.2.2.1.set m (x.2.2.2.2.2.1[m]++flitsOf x.1.1 x.1.2.1 (q1,m,q3,q4,q5))):=by
  unfold sendNet
  simp only [Int.toNat_natCast,hgd]
 rw [en]
 have on2:dNet.Ow K v x:=⟨o1,o2,o3,o4,o5,o6,o7,trivial⟩
 have lK:=cH.1
 obtain ⟨p1,p2,p3⟩:=Va (u:=(v.2.2.2.2.2.1.1,v.2.2.2.2.2.1.2.set m a')) on2 nd c4 (Pk oL o6.2.1 o6.2.2 (by simp;omega)) ndL idL
 refine ⟨_,p1,p2,fun i hi=>?_,(cH.mono (fun _ h=>by cases h)).trans c4⟩
 rcases p3 i hi with g|g
 ·exact .inl g
 ·exact .inr (by omega)
abbrev dPk:Dt Value (List PkD):=dFlat pkF 47 1073741824
abbrev ChipD:=NetD×List PkD
abbrev ChipV:=NetV×Value
def dChip:Dt ChipV ChipD:={ dAnd dNet dPk with val:=fun v a=>.agg #[.int .i64 a.1.1.1,.int .i64 a.1.1.2.1,v.1.1,v.1.2.1.1,v.1.2.1.2,v.1.2.2.1.1,v.1.2.2.2.1,v.1.2.2.2.2.1,v.1.2.2.2.2.2.1.1,v.1.2.2.2.2.2.2.1.1,.int .i64 a.1.2.2.2.2.2.2.2,v.2] }
theorem Qj (v:ChipV) (a:ChipD):dChip.val v a=.agg #[.int .i64 a.1.1.1,.int .i64 a.1.1.2.1,v.1.1,v.1.2.1.1,v.1.2.1.2,v.1.2.2.1.1,v.1.2.2.2.1,v.1.2.2.2.2.1,v.1.2.2.2.2.2.1.1,v.1.2.2.2.2.2.2.1.1,.int .i64 a.1.2.2.2.2.2.2.2,v.2]:=rfl
theorem Qt {v:ChipV} {a:ChipD} (h:dChip.Ow H v a):((VM.one v.1.1=true∧v.1.1.cells=#[v.1.1])∧(VM.one v.1.2.1.1=true∧v.1.2.1.1.cells=#[v.1.2.1.1])∧(VM.one v.1.2.1.2=true∧v.1.2.1.2.cells=#[v.1.2.1.2])∧(VM.one v.1.2.2.1.1=true∧v.1.2.2.1.1.cells=#[v.1.2.2.1.1])∧
 (VM.one v.1.2.2.2.1=true∧v.1.2.2.2.1.cells=#[v.1.2.2.2.1])∧(VM.one v.1.2.2.2.2.1=true∧v.1.2.2.2.2.1.cells=#[v.1.2.2.2.2.1])∧(VM.one v.1.2.2.2.2.2.1.1=true∧v.1.2.2.2.2.2.1.1.cells=#[v.1.2.2.2.2.2.1.1])∧(VM.one v.1.2.2.2.2.2.2.1.1=true∧v.1.2.2.2.2.2.2.1.1.cells=#[v.1.2.2.2.2.2.2.1.1]))∧VM.one v.2=true∧v.2.cells=#[v.2]:=
 ⟨Qh h.1,h.2.1.rd.one',h.2.1.rd.cells⟩
theorem Pc {v:ChipV} {a:ChipD} (o:dChip.Ow H v a):wp (vcall C frz 15 [dChip.val v a] H) (dChip.Made H a):=by
 have oneA:=Qt o
 have ones:=oneA.1
 have one2:=oneA.2
 have ecopy:=fun K (c:Chg H K [])=>O7 (frz:=H.length) (H:=K) (v:=v.1) (x:=a.1) (Dt.chg (T:=dNet) o.1 c (by simp))
 simp only [Qc] at ecopy
 rw [Qj]
 rw [Qb (fn:=Tryz.f15) Tryz.func15 rfl (by kernel_rfl) rfl]
 simp [ones,one2]
 rw [Qp (h:=by kernel_rfl)]
 simp [VM.look,ones,one2]
 refine Qd (ecopy _ (Chg.app _)) ?_
 rintro _ K ⟨n,rfl,on,cn,mn,dn⟩
 have b0:K[H.length]? = some ⟨[.int .i64 a.1.1.1,.int .i64 a.1.1.2.1,v.1.1,v.1.2.1.1,v.1.2.1.2,v.1.2.2.1.1,v.1.2.2.2.1,v.1.2.2.2.2.1,v.1.2.2.2.2.2.1.1,v.1.2.2.2.2.2.2.1.1,.int .i64 a.1.2.2.2.2.2.2.2,v.2],0,38⟩:=Qa (by simp) cn (by simp)
 have bR:K[H.length+1]? = some ⟨[.int .i64 0,.int .i64 0,.slice none 0 0,.slice none 0 0,.slice none 0 0,.slice none 0 0,.slice none 0 0,.slice none 0 0,.slice none 0 0,.slice none 0 0,.int .i64 0,.slice none 0 0],0,38⟩:=Qa (by simp) cn (by simp)
 have cH:Chg H K []:=(Chg.app _).trans cn
 simp at mn
 have qn:=Qh on
 have rs:=o.2.1.rd.chg cH (by simp)
 have o0:Ow pkF 47 (K++[⟨[],0,47⟩]) (.slice (some ⟨K.length,0,some 0⟩) 0 0) []:=Ow.new0 (D:=pkF) (xs:=[]) rfl rfl rfl rfl
 have lK:=Q0 b0
 have lR:=Q0 bR
 obtain ⟨r,K2,hap,or,c2,mr⟩:=o0.append (P:=Tryz.prog) (frz:=H.length) (ty:=36) (rs.app (L:=[⟨[],0,47⟩])) (by simp) (Lc a.2) (by have:=o.2.2;simp;omega) (fun i hi=>by simp [ids] at hi;omega)
 have mr':∀i∈ids r,K.length≤i:=fun i hi=>by
  rcases mr i hi with g|g
  ·simp [ids] at g;omega
  ·simp at g;omega
 have cL:Chg K K2 []:=(Chg.app []).trans' c2 (fun i hi=>.inr (by simp [ids] at hi;omega))
 have bA:=fun L=>Qo b0 L
 have bR:=Qa bR cL (by simp)
 have qr:=And.intro or.rd.one' or.rd.cells
 have gR:=Qi (r':=⟨[.int .i64 a.1.1.1,.int .i64 a.1.1.2.1,n.1,n.2.1.1,n.2.1.2,n.2.2.1.1,n.2.2.2.1,n.2.2.2.2.1,n.2.2.2.2.2.1.1,n.2.2.2.2.2.2.1.1,.int .i64 a.1.2.2.2.2.2.2.2,r],0,38⟩) bR
 have hF:H.length≤H.length+1:=by omega
 try simp only [List.length_nil] at hap
 simp [-Qe,-Qq,Qc,VM.look,bA,ones,one2,qn,hap,qr,bR,gR,hF]
 have eR:Chg K2 (K2.set (H.length+1) ⟨[.int .i64 a.1.1.1,.int .i64 a.1.1.2.1,n.1,n.2.1.1,n.2.1.2,n.2.2.1.1,n.2.2.2.1,n.2.2.2.2.1,n.2.2.2.2.2.1.1,n.2.2.2.2.2.2.1.1,.int .i64 a.1.2.2.2.2.2.2.2,r],0,38⟩) [H.length+1]:=Ql _ _
 have lt:=dNet.lt on
 have or':dPk.Ow K2 r a.2:=⟨by simpa using or,o.2.2⟩
 refine ⟨(n,r),rfl,⟨Dt.chg (T:=dNet) (Dt.chg (T:=dNet) on cL (by simp)) eR (fun i hi hh=>by have:=mn i hi;simp at hh;omega),Dt.chg (T:=dPk) or' eR (fun i hi hh=>by have:=mr' i hi;simp at hh;omega)⟩,(cH.trans cL).trans' eR (fun i hi=>.inr (by simp at hi;omega)),fun i hi=>?_,?_⟩
 ·rcases List.mem_append.1 hi with hi|hi
  ·have:=mn i hi;omega
  ·have:=mr' i hi;omega
 ·exact Wv dn (Qw r) lt mr'
theorem O6 {v:ChipV} {a:ChipD} (o:dChip.Ow H v a):wp (vcall C frz 51 [dChip.val v a] H) (dChip.Made H a):=by
 have oneA:=Qt o
 have ones:=oneA.1
 have one2:=oneA.2
 have ecopy:=fun K (c:Chg H K [])=>Y1 (frz:=H.length) (H:=K) (v:=v.1) (x:=a.1) (Dt.chg (T:=dNet) o.1 c (by simp))
 simp only [Qc] at ecopy
 rw [Qj]
 rw [Qb (fn:=Tryz.f51) Tryz.func51 rfl (by kernel_rfl) rfl]
 simp [ones,one2]
 rw [Qp (h:=by kernel_rfl)]
 simp [VM.look,ones,one2]
 refine Qd (ecopy _ (Chg.app _)) ?_
 rintro _ K ⟨n,rfl,on,cn,mn,dn⟩
 have b0:K[H.length]? = some ⟨[.int .i64 a.1.1.1,.int .i64 a.1.1.2.1,v.1.1,v.1.2.1.1,v.1.2.1.2,v.1.2.2.1.1,v.1.2.2.2.1,v.1.2.2.2.2.1,v.1.2.2.2.2.2.1.1,v.1.2.2.2.2.2.2.1.1,.int .i64 a.1.2.2.2.2.2.2.2,v.2],0,38⟩:=Qa (by simp) cn (by simp)
 have bR:K[H.length+1]? = some ⟨[.int .i64 0,.int .i64 0,.slice none 0 0,.slice none 0 0,.slice none 0 0,.slice none 0 0,.slice none 0 0,.slice none 0 0,.slice none 0 0,.slice none 0 0,.int .i64 0,.slice none 0 0],0,38⟩:=Qa (by simp) cn (by simp)
 have cH:Chg H K []:=(Chg.app _).trans cn
 simp at mn
 have qn:=Qh on
 have rs:=o.2.1.rd.chg cH (by simp)
 have o0:Ow pkF 47 (K++[⟨[],0,47⟩]) (.slice (some ⟨K.length,0,some 0⟩) 0 0) []:=Ow.new0 (D:=pkF) (xs:=[]) rfl rfl rfl rfl
 have lK:=Q0 b0
 have lR:=Q0 bR
 obtain ⟨r,K2,hap,or,c2,mr⟩:=o0.append (P:=Tryz.prog) (frz:=H.length) (ty:=36) (rs.app (L:=[⟨[],0,47⟩])) (by simp) (Lc a.2) (by have:=o.2.2;simp;omega) (fun i hi=>by simp [ids] at hi;omega)
 have mr':∀i∈ids r,K.length≤i:=fun i hi=>by
  rcases mr i hi with g|g
  ·simp [ids] at g;omega
  ·simp at g;omega
 have cL:Chg K K2 []:=(Chg.app []).trans' c2 (fun i hi=>.inr (by simp [ids] at hi;omega))
 have bA:=fun L=>Qo b0 L
 have bR:=Qa bR cL (by simp)
 have qr:=And.intro or.rd.one' or.rd.cells
 have gR:=Qi (r':=⟨[.int .i64 a.1.1.1,.int .i64 a.1.1.2.1,n.1,n.2.1.1,n.2.1.2,n.2.2.1.1,n.2.2.2.1,n.2.2.2.2.1,n.2.2.2.2.2.1.1,n.2.2.2.2.2.2.1.1,.int .i64 a.1.2.2.2.2.2.2.2,r],0,38⟩) bR
 have hF:H.length≤H.length+1:=by omega
 try simp only [List.length_nil] at hap
 simp [-Qe,-Qq,Qc,VM.look,bA,ones,one2,qn,hap,qr,bR,gR,hF]
 have eR:Chg K2 (K2.set (H.length+1) ⟨[.int .i64 a.1.1.1,.int .i64 a.1.1.2.1,n.1,n.2.1.1,n.2.1.2,n.2.2.1.1,n.2.2.2.1,n.2.2.2.2.1,n.2.2.2.2.2.1.1,n.2.2.2.2.2.2.1.1,.int .i64 a.1.2.2.2.2.2.2.2,r],0,38⟩) [H.length+1]:=Ql _ _
 have lt:=dNet.lt on
 have or':dPk.Ow K2 r a.2:=⟨by simpa using or,o.2.2⟩
 refine ⟨(n,r),rfl,⟨Dt.chg (T:=dNet) (Dt.chg (T:=dNet) on cL (by simp)) eR (fun i hi hh=>by have:=mn i hi;simp at hh;omega),Dt.chg (T:=dPk) or' eR (fun i hi hh=>by have:=mr' i hi;simp at hh;omega)⟩,(cH.trans cL).trans' eR (fun i hi=>.inr (by simp at hi;omega)),fun i hi=>?_,?_⟩
 ·rcases List.mem_append.1 hi with hi|hi
  ·have:=mn i hi;omega
  ·have:=mr' i hi;omega
 ·exact Wv dn (Qw r) lt mr'
def sendP (x:NetD) (p:PkD):NetD:=if netOk x∧sendOk x p then sendNet x p else x
theorem Pr {v:NetV} {x:NetD} {p:PkD} (o:dNet.Ow H v x) :
 wp (vcall C frz 53 [dNet.val v x,pkV p] H) (Made2 dNet H (sendP x p) (decide (netOk x∧sendOk x p))):=by
 have ones:=Qh o
 have nk:=fun F K (c:Chg H K [])=>V3 (frz:=F) (H:=K) (v:=v) (x:=x) (Dt.chg (T:=dNet) o c (by simp))
 have pk:=fun F K=>Zy (frz:=F) (H:=K) x.1.1 x.1.2.1 p
 have ecopy:=fun K (c:Chg H K [])=>Y1 (frz:=H.length) (H:=K) (v:=v) (x:=x) (Dt.chg (T:=dNet) o c (by simp))
 have esend:=fun K (c:Chg H K []) m hm hml hs=>Ja (frz:=H.length) (H:=K) (v:=v) (x:=x) (p:=p) (m:=m) (Dt.chg (T:=dNet) o c (by simp)) hm hml hs
 obtain ⟨q1,q2,q3,q4,q5⟩:=p
 unfold pkV at pk esend ⊢
 simp only at pk esend
 simp only [Qc] at nk ecopy esend ⊢
 rw [Qb (fn:=Tryz.f53) Tryz.func53 rfl (by kernel_rfl) rfl]
 obtain ⟨G,hG⟩:∃G,G=H++[⟨[.int .i64 x.1.1,.int .i64 x.1.2.1,v.1,v.2.1.1,v.2.1.2,v.2.2.1.1,v.2.2.2.1,v.2.2.2.2.1,v.2.2.2.2.2.1.1,v.2.2.2.2.2.2.1.1,.int .i64 x.2.2.2.2.2.2.2],0,35⟩,⟨[.int .i64 q1,.int .i64 q2,.int .i64 q3,.int .i64 q4,.int .i64 q5],0,47⟩,⟨[.int .i64 0,.int .i64 0,.slice none 0 0,.slice none 0 0,.slice none 0 0,.slice none 0 0,.slice none 0 0,.slice none 0 0,.slice none 0 0,.slice none 0 0,.int .i64 0],0,35⟩]:=⟨_,rfl⟩
 have cG:Chg H G []:=by rw [hG];exact Chg.app _
 have b0:G[H.length]? = some ⟨[.int .i64 x.1.1,.int .i64 x.1.2.1,v.1,v.2.1.1,v.2.1.2,v.2.2.1.1,v.2.2.2.1,v.2.2.2.2.1,v.2.2.2.2.2.1.1,v.2.2.2.2.2.2.1.1,.int .i64 x.2.2.2.2.2.2.2],0,35⟩:=by rw [hG];simp
 have b1:G[H.length+1]? = some ⟨[.int .i64 q1,.int .i64 q2,.int .i64 q3,.int .i64 q4,.int .i64 q5],0,47⟩:=by rw [hG];simp
 have bR:G[H.length+2]? = some ⟨[.int .i64 0,.int .i64 0,.slice none 0 0,.slice none 0 0,.slice none 0 0,.slice none 0 0,.slice none 0 0,.slice none 0 0,.slice none 0 0,.slice none 0 0,.int .i64 0],0,35⟩:=by rw [hG];simp
 have lG:G.length=H.length+3:=by rw [hG];simp
 simp [ones]
 rw [← hG]
 clear hG
 rw [Qp (h:=by kernel_rfl)]
 have hF:H.length≤H.length+2:=by omega
 have key:∀(y:NetD) (n:NetV) (K:Heap) (ok:Bool),dNet.Ow K n y→Chg G K []→(∀i∈dNet.ids n,G.length≤i)→(dNet.ids n).Nodup→sendP x (q1,q2,q3,q4,q5)=y→decide (netOk x∧sendOk x (q1,q2,q3,q4,q5))=ok→
  K[H.length+2]? = some ⟨[.int .i64 0,.int .i64 0,.slice none 0 0,.slice none 0 0,.slice none 0 0,.slice none 0 0,.slice none 0 0,.slice none 0 0,.slice none 0 0,.slice none 0 0,.int .i64 0],0,35⟩∧Made2 dNet H (sendP x (q1,q2,q3,q4,q5)) (decide (netOk x∧sendOk x (q1,q2,q3,q4,q5))) (.tuple #[dNet.val n y,.bool ok]) (K.set (H.length+2) ⟨[.int .i64 y.1.1,.int .i64 y.1.2.1,n.1,n.2.1.1,n.2.1.2,n.2.2.1.1,n.2.2.2.1,n.2.2.2.2.1,n.2.2.2.2.2.1.1,n.2.2.2.2.2.2.1.1,.int .i64 y.2.2.2.2.2.2.2],0,35⟩):=by
  intro y n K ok on ck mn dn e1 e2
  have bK:=Qa bR ck (by simp)
  refine ⟨bK,dNet.val n y,by rw [e2],n,by rw [e1],?_,?_,fun i hi=>by have:=mn i hi;omega,dn⟩
  ·rw [e1];exact Dt.chg (T:=dNet) on (Ql _ _) (fun i hi hh=>by have:=mn i hi;simp at hh;omega)
  ·exact (cG.trans ck).trans' (Ql _ _) (fun i hi=>.inr (by simp at hi;omega))
 have fail:¬(netOk x∧sendOk x (q1,q2,q3,q4,q5))→∀r K,dNet.Made G x r K→∃n,r=netVal n x∧dNet.Ow K n x∧K[H.length+2]? = some ⟨[.int .i64 0,.int .i64 0,.slice none 0 0,.slice none 0 0,.slice none 0 0,.slice none 0 0,.slice none 0 0,.slice none 0 0,.slice none 0 0,.slice none 0 0,.int .i64 0],0,35⟩∧Made2 dNet H (sendP x (q1,q2,q3,q4,q5)) (decide (netOk x∧sendOk x (q1,q2,q3,q4,q5))) (.tuple #[dNet.val n x,.bool false]) (K.set (H.length+2) ⟨[.int .i64 x.1.1,.int .i64 x.1.2.1,n.1,n.2.1.1,n.2.1.2,n.2.2.1.1,n.2.2.2.1,n.2.2.2.2.1,n.2.2.2.2.2.1.1,n.2.2.2.2.2.2.1.1,.int .i64 x.2.2.2.2.2.2.2],0,35⟩):=by
  intro hb r K hm
  obtain ⟨n,rfl,on,cn,mn,dn⟩:=hm
  obtain ⟨k1,k2⟩:=key x n K false on cn mn dn (if_neg hb) (decide_eq_false hb)
  exact ⟨n,rfl,on,k1,k2⟩
 have ff:¬(netOk x∧sendOk x (q1,q2,q3,q4,q5))→wp (vcall C H.length 75 [netVal v x] G) (fun r K=>∃n,r=netVal n x∧dNet.Ow K n x∧K[H.length+2]? = some ⟨[.int .i64 0,.int .i64 0,.slice none 0 0,.slice none 0 0,.slice none 0 0,.slice none 0 0,.slice none 0 0,.slice none 0 0,.slice none 0 0,.slice none 0 0,.int .i64 0],0,35⟩∧Made2 dNet H (sendP x (q1,q2,q3,q4,q5)) (decide (netOk x∧sendOk x (q1,q2,q3,q4,q5))) (.tuple #[dNet.val n x,.bool false]) (K.set (H.length+2) ⟨[.int .i64 x.1.1,.int .i64 x.1.2.1,n.1,n.2.1.1,n.2.1.2,n.2.2.1.1,n.2.2.2.1,n.2.2.2.2.1,n.2.2.2.2.2.1.1,n.2.2.2.2.2.2.1.1,.int .i64 x.2.2.2.2.2.2.2],0,35⟩)):=fun hb=>(ecopy G cG).mono (fun r K hm=>fail hb r K hm)
 unfold netVal at ff
 have nk':=fun F=>nk F G cG
 have pk':=fun F=>pk F G
 by_cases g0:netOk x
 rotate_left
 ·have hb:¬(netOk x∧sendOk x (q1,q2,q3,q4,q5)):=fun k=>g0 k.1
  simp [VM.look,b0,b1,ones,nk',g0]
  refine Qd (ff hb) ?_
  rintro r K ⟨n,rfl,on,bK,hM⟩
  have qn:=Qh on
  have gR:=Qi (r':=⟨[.int .i64 x.1.1,.int .i64 x.1.2.1,n.1,n.2.1.1,n.2.1.2,n.2.2.1.1,n.2.2.2.1,n.2.2.2.2.1,n.2.2.2.2.2.1.1,n.2.2.2.2.2.2.1.1,.int .i64 x.2.2.2.2.2.2.2],0,35⟩) bK
  simp [netVal,Qc,VM.look,bK,qn,gR,hF]
  simpa [g0,Qc] using hM
 by_cases g1:packetOk x.1.1 x.1.2.1 (q1,q2,q3,q4,q5)
 rotate_left
 ·have hb:¬(netOk x∧sendOk x (q1,q2,q3,q4,q5)):=fun k=>g1 k.2.1
  have hb2:¬sendOk x (q1,q2,q3,q4,q5):=fun k=>g1 k.1
  simp [VM.look,b0,b1,ones,nk',pk',g0,g1]
  refine Qd (ff hb) ?_
  rintro r K ⟨n,rfl,on,bK,hM⟩
  have qn:=Qh on
  have gR:=Qi (r':=⟨[.int .i64 x.1.1,.int .i64 x.1.2.1,n.1,n.2.1.1,n.2.1.2,n.2.2.1.1,n.2.2.2.1,n.2.2.2.2.1,n.2.2.2.2.2.1.1,n.2.2.2.2.2.2.1.1,.int .i64 x.2.2.2.2.2.2.2],0,35⟩) bK
  simp [netVal,Qc,VM.look,bK,qn,gR,hF]
  simpa [g0,hb2,Qc] using hM
 have hto:=g1.2.1
 unfold isN at hto
 simp only at hto
 have hN:=g0.2.1.2.2.2.1
 obtain ⟨m,rfl⟩:∃m:Nat,q2=m:=⟨q2.toNat,by omega⟩
 have hml:m<x.2.2.2.2.2.1.length:=by omega
 have hgd:x.2.2.2.2.2.1.getD m []=x.2.2.2.2.2.1[m]:=by simp [List.getD_eq_getElem?_getD,List.getElem?_eq_getElem hml]
 have hsm:=(g0.2.2.2.1 _ (List.getElem_mem hml)).1
 have hln:=g1.2.2.2.2.2
 unfold inR at hln
 simp only at hln
 obtain ⟨o1,o2,o3,o4,o5,o6,o7,_⟩:=Dt.chg (T:=dNet) o cG (by simp)
 obtain ⟨a,a1,a2,a3,a4⟩:=Q9 o6.1.rd (ty:=33) (e:=75) (by simp) (by simp) hml
 have la:=a4.len (P:=Tryz.prog) (ty:=75) (by simp)
 have e1:=@w6 ((x.2.2.2.2.2.1[m].length:Int)+q5) (by omega)
 simp [VM.look,b0,b1,ones,nk',pk',g0,g1,a2,a3,la,e1]
 refine Qf ?_ ?_<;>intro g2
 ·have hb2:¬sendOk x (q1,(m:Int),q3,q4,q5):=fun k=>by have:=k.2;simp only [Int.toNat_natCast,hgd] at this;omega
  have hb:¬(netOk x∧sendOk x (q1,(m:Int),q3,q4,q5)):=fun k=>hb2 k.2
  simp [VM.look,b0,ones]
  refine Qd (ff hb) ?_
  rintro r K ⟨n,rfl,on,bK,hM⟩
  have qn:=Qh on
  have gR:=Qi (r':=⟨[.int .i64 x.1.1,.int .i64 x.1.2.1,n.1,n.2.1.1,n.2.1.2,n.2.2.1.1,n.2.2.2.1,n.2.2.2.2.1,n.2.2.2.2.2.1.1,n.2.2.2.2.2.2.1.1,.int .i64 x.2.2.2.2.2.2.2],0,35⟩) bK
  simp [netVal,Qc,VM.look,bK,qn,gR,hF]
  simpa [g0,hb2,Qc] using hM
 have hso:sendOk x (q1,(m:Int),q3,q4,q5):=⟨g1,by simp only [Int.toNat_natCast,hgd];omega⟩
 simp [VM.look,b0,b1,ones]
 refine Qd (esend G cG m rfl hml hsm) ?_
 rintro _ K ⟨n,rfl,on,cn,mn,dn⟩
 obtain ⟨bK,hM⟩:=key _ n K true on cn mn dn (if_pos ⟨g0,hso⟩) (decide_eq_true ⟨g0,hso⟩)
 generalize sendNet x (q1,(m:Int),q3,q4,q5)=y at *
 have qn:=Qh on
 have gR:=Qi (r':=⟨[.int .i64 y.1.1,.int .i64 y.1.2.1,n.1,n.2.1.1,n.2.1.2,n.2.2.1.1,n.2.2.2.1,n.2.2.2.2.1,n.2.2.2.2.2.1.1,n.2.2.2.2.2.2.1.1,.int .i64 y.2.2.2.2.2.2.2],0,35⟩) bK
 simp [netVal,Qc,VM.look,bK,qn,gR,hF]
 simpa [g0,hso,Qc] using hM
def placeK (p:PkD→Bool) (b:List PkD):Int:=if b.any p then b.findIdx p else -1
theorem Ni (p:PkD→Bool) (b:List PkD) : -1≤placeK p b∧placeK p b<b.length∧(0≤placeK p b↔b.any p=true):=by
 unfold placeK
 split
 ·rename_i h
  obtain ⟨x,hx,hp⟩:=List.any_eq_true.1 h
  have:=List.findIdx_lt_length_of_exists ⟨x,hx,hp⟩
  refine ⟨by omega,by omega,?_⟩
  simp only [h,iff_true];omega
 ·rename_i h
  refine ⟨by omega,by omega,?_⟩
  simp only [h];simp
theorem Fk {p:PkD→Bool} {b:List PkD} {i:Nat} (h:i<b.length) (h1:∀x∈b.take i,p x=false) (h2:p b[i]=true):placeK p b=i:=by
 unfold placeK
 rw [if_pos (List.any_eq_true.2 ⟨b[i],List.getElem_mem h,h2⟩)]
 congr 1
 rw [List.findIdx_eq h]
 refine ⟨h2,fun j hj=>?_⟩
 refine Bool.eq_false_iff.1 ?_ |> fun hh=>by simpa using hh
 exact h1 _ (by rw [List.mem_take_iff_getElem];exact ⟨j,by omega,rfl⟩)
theorem Nc (v f:Value) (p:PkD→Bool) (b:List PkD) (hI:Rd pkF H v b) (hl:b.length≤1073741824)
 (hf:∀x∈b,vclos (vcall C H.length) f [pkV x] H=some (.bool (p x),H)) :
 vcall C frz 62 [v,f] H=some (.int .i64 (placeK p b),H):=by
 refine wp.exact (by simp) ?_ rfl
 rw [Qb (fn:=Tryz.f62) Tryz.func62 rfl (by kernel_rfl) rfl]
 have ll:=hI.len (P:=Tryz.prog) (ty:=36) (by simp)
 simp [ll]
 refine Qm (fun n t H'=>∃i:Nat,n=b.length-i∧i≤b.length∧t 0=v∧t 1=f∧t 7=.int .i64 b.length∧t 8=.int .i64 i∧H'=H∧∀x∈b.take i,p x=false) ?_ (n:=b.length) ⟨0,by simp⟩
 rintro n t H' ⟨i,rfl,hi,h0,h1,h3,h4,rfl,hj⟩ ih
 simp [h0,h1,h3,h4,ll]
 refine Qf ?_ ?_<;>intro h5
 ·have hi':i<b.length:=by omega
  have q1:=hI.idx (P:=Tryz.prog) (ty:=36) (e:=47) (by simp) (i:=(i:Int)) (by omega) (by omega)
  have q2:=hI.load (P:=Tryz.prog) (e:=47) (by simp) hi'
  have hf':=hf _ (List.getElem_mem hi')
  simp only [Int.toNat_natCast,Uw,Xw] at q1 q2
  unfold pkV at hf'
  simp [h0,h1,h3,h4,q1,q2,hf']
  cases h6:p b[i]
  ·simp [h0,h1,h3,h4,h6]
   refine ih (b.length-(i+1)) _ _ ⟨i+1,rfl,by omega,by simp [h0],by simp [h1],by simp [h3],?_,rfl,fun x hx=>?_⟩ (by omega)
   ·simp;rw [w64 (by omega) (by omega)]
   ·rcases Wl hi' hx with hx|rfl
    ·exact hj x hx
    ·exact h6
  ·simp [h0,h1,h3,h4,h6]
   rw [Fk hi' hj h6]
 ·have:i=b.length:=by omega
  subst this
  simp [h0,h1,h3,h4]
  rw [List.take_length] at hj
  rw [placeK,if_neg]
  rw [List.any_eq_true]
  rintro ⟨x,hx,hp⟩
  rw [hj x hx] at hp;cases hp
theorem Se (v f:Value) (p:PkD→Bool) (b:List PkD) (hI:Rd pkF H v b) (hl:b.length≤1073741824)
 (hf:∀x∈b,vclos (vcall C H.length) f [pkV x] H=some (.bool (p x),H)) :
 vcall C frz 32 [v,f] H=some (.bool (b.any p),H):=by
 rw [Qb (fn:=Tryz.f32) Tryz.func32 rfl (by kernel_rfl) rfl]
 simp [Nc _ _ _ _ hI hl hf,(Ni p b).2.2,-List.any_eq_true]
def missOk (x:NetD) (list:List PkD):Prop:=netOk x∧∀p∈list,packetOk x.1.1 x.1.2.1 p
instance (x:NetD) (list:List PkD):Decidable (missOk x list):=inferInstanceAs (Decidable (_∧_))
def lackP (arr:SSD) (p:PkD):Bool:=!decide (p.1∈arrIds arr p.2.2.1.toNat p.2.2.2.1)
def lacks (x:NetD) (list:List PkD):List Int:=(list.filter (lackP x.2.2.2.2.2.2.1)).map (·.1)
theorem Kr {arr:SSD} {list:List PkD} {i:Nat} (h:i<list.length):((list.take (i+1)).filter (lackP arr)).map (·.1)=((list.take i).filter (lackP arr)).map (·.1)++(if lackP arr list[i]=true then [list[i].1] else []):=by
 rw [List.take_succ_eq_append_getElem h,List.filter_append,List.map_append];congr 1;cases h:lackP arr list[i]<;>simp [h]
def missing (x:NetD) (list:List PkD):List Int:=if missOk x list then lacks x list else []
theorem Fy (x:NetD) (list:List PkD):(lacks x list).length≤list.length:=by unfold lacks;rw [List.length_map];exact List.length_filter_le _ _
theorem Po (x:NetD) (v:NetV) (p:PkD) (id:Nat) (hr:H[id]? = some ⟨[.int .i64 x.1.1,.int .i64 x.1.2.1,v.1,v.2.1.1,v.2.1.2,v.2.2.1.1,v.2.2.2.1,v.2.2.2.2.1,v.2.2.2.2.2.1.1,v.2.2.2.2.2.2.1.1,.int .i64 x.2.2.2.2.2.2.2],0,35⟩) :
 vcall C frz 33 [pkV p,.pointer (some ⟨id,0,some 0⟩)] H=some (.bool (!decide (packetOk x.1.1 x.1.2.1 p)),H):=by
 have hlt:=Q0 hr
 have pk:=fun F L=>U9 (frz:=F) (H:=H++L) x.1.1 x.1.2.1 p
 have hr':=fun r=>Qo hr [r]
 refine wp.exact (by simp) ?_ rfl
 rw [Qb (fn:=Tryz.f33) Tryz.func33 rfl (by kernel_rfl) rfl]
 unfold pkV at *
 simp [VM.look,hr',pk]
theorem Fc {v:NetV} {x:NetD} {u:Value} {list:List PkD} (o:dNet.Ow H v x) (hI:Rd pkF H u list) (hl:list.length≤1073741824) :
 wp (vcall C frz 17 [dNet.val v x,u] H) (NewInts H (missing x list)):=by
 have ones:=Qh o
 have nk:=fun F L=>Sp (frz:=F) (H:=H++L) (v:=v) (x:=x) (Dt.app (T:=dNet) o)
 simp only [Qc] at nk ⊢
 rw [Qb (fn:=Tryz.f17) Tryz.func17 rfl (by kernel_rfl) rfl]
 simp [ones,nk]
 have bad:¬missOk x list→missing x list=[]:=fun k=>if_neg k
 by_cases g0:netOk x
 rotate_left
 ·simp [g0]
  rw [bad (fun k=>g0 k.1)]
  exact ⟨Ow.new (D:=Fl.int) (xs:=[]) (k:=1) rfl rfl rfl rfl,by simp,Chg.app _⟩
 obtain ⟨G,hG⟩:∃G,G=H++[⟨[.int .i64 x.1.1,.int .i64 x.1.2.1,v.1,v.2.1.1,v.2.1.2,v.2.2.1.1,v.2.2.2.1,v.2.2.2.2.1,v.2.2.2.2.2.1.1,v.2.2.2.2.2.2.1.1,.int .i64 x.2.2.2.2.2.2.2],0,35⟩,⟨[],0,3⟩]:=⟨_,rfl⟩
 rw [← hG]
 have b0:G[H.length]? = some ⟨[.int .i64 x.1.1,.int .i64 x.1.2.1,v.1,v.2.1.1,v.2.1.2,v.2.2.1.1,v.2.2.2.1,v.2.2.2.2.1,v.2.2.2.2.2.1.1,v.2.2.2.2.2.2.1.1,.int .i64 x.2.2.2.2.2.2.2],0,35⟩:=by rw [hG];simp
 have cG:Chg H G []:=by rw [hG];exact Chg.app _
 have hI':Rd pkF G u list:=by rw [hG];exact hI.app
 have o0:Ow Fl.int 3 G (.slice (some ⟨H.length+1,0,some 0⟩) 0 0) []:=by rw [hG];exact Ow.new (D:=Fl.int) (xs:=[]) (k:=1) rfl rfl rfl rfl
 have cf:=fun F=>Se (frz:=F) (H:=G) u (.func (.func 33) #[] #[.pointer (some ⟨H.length,0,some 0⟩)]) (fun p=>!decide (packetOk x.1.1 x.1.2.1 p)) list hI' hl (fun p hp=>by have:=Po (frz:=G.length) x v p H.length b0;simpa using this)
 simp [g0,cf]
 by_cases g1:∀p∈list,packetOk x.1.1 x.1.2.1 p
 rotate_left
 ·have g1':(list.any fun p=>!decide (packetOk x.1.1 x.1.2.1 p))=true:=by
   rw [List.any_eq_true]
   refine Classical.byContradiction fun hh=>g1 fun p hp=>Classical.byContradiction fun hq=>hh ⟨p,hp,by simp [hq]⟩
  simp [g1',-List.any_eq_true]
  rw [bad (fun k=>g1 k.2)]
  exact ⟨o0,by simp,cG⟩
 have g1':(list.any fun p=>!decide (packetOk x.1.1 x.1.2.1 p))=false:=by
  rw [Bool.eq_false_iff];intro hh
  obtain ⟨p,hp,hq⟩:=List.any_eq_true.1 hh
  simp [g1 p hp] at hq
 simp [g1',-List.any_eq_true,hI'.len (P:=Tryz.prog) (ty:=36) (by simp)]
 rw [show missing x list=lacks x list from if_pos ⟨g0,g1⟩]
 have hN:=g0.2.1.2.2.2.2
 obtain ⟨arr,harr⟩:∃a,a=x.2.2.2.2.2.2.1:=⟨_,rfl⟩
 unfold lacks
 rw [← harr] at hN ⊢
 have h9:=o.2.2.2.2.2.2.1
 rw [← harr] at h9
 have hb9:=h9.2.2
 have hGl:H.length<G.length:=by rw [hG];simp
 clear hG cf bad g1' nk
 refine Qm (fun n t H'=>∃(i:Nat) (out:Value),n=list.length-i∧i≤list.length∧t 2=.pointer (some ⟨H.length,0,some 0⟩)∧t 5=out∧t 20=u∧t 21=.int .i64 list.length∧t 22=.int .i64 i∧Chg H H' []∧H'[H.length]? = some ⟨[.int .i64 x.1.1,.int .i64 x.1.2.1,v.1,v.2.1.1,v.2.1.2,v.2.2.1.1,v.2.2.2.1,v.2.2.2.2.1,v.2.2.2.2.2.1.1,v.2.2.2.2.2.2.1.1,.int .i64 x.2.2.2.2.2.2.2],0,35⟩∧Ow Fl.int 3 H' out (((list.take i).filter (lackP arr)).map (·.1))∧(∀j∈ids out,H.length<j)) ?_ (n:=list.length)
  ⟨0,.slice (some ⟨H.length+1,0,some 0⟩) 0 0,rfl,by omega,by simp,by simp,by simp,by simp,by simp,cG,b0,o0,by simp⟩
 rintro n t H' ⟨i,out,rfl,hi,t2,t5,t20,t21,t22,ch,bb,oo,no⟩ ih
 simp [t2,t5,t20,t21,t22]
 refine Qf ?_ ?_<;>intro g
 rotate_left
 ·have:i=list.length:=by omega
  subst this
  rw [List.take_length] at oo
  simp [t2,t5,t20,t21,t22]
  exact ⟨oo,fun j hj=>by have:=no j hj;omega,ch⟩
 have hi':i<list.length:=by omega
 have hp0:=g1 _ (List.getElem_mem hi')
 have hto:=hp0.2.2.1
 unfold isN at hto
 have rd:=hI.chg ch (by simp)
 have hF:H.length≤H'.length:=ch.1
 have q1:=rd.idx (P:=Tryz.prog) (ty:=36) (e:=47) (by simp) (i:=(i:Int)) (by omega) (by omega)
 have q2:=rd.load (P:=Tryz.prog) (e:=47) (by simp) hi'
 simp only [Int.toNat_natCast,Uw] at q1 q2
 have hsu:=Kr (arr:=arr) hi'
 have hln:(((list.take i).filter (lackP arr)).map (·.1)).length≤i:=by rw [List.length_map];have:=List.length_filter_le (lackP arr) (list.take i);simp at this;omega
 obtain ⟨p,hp⟩:∃p,p=list[i]:=⟨_,rfl⟩
 rw [← hp] at q2 hsu hto
 obtain ⟨m,hm⟩:∃m:Nat,p.2.2.1=m:=⟨p.2.2.1.toNat,by omega⟩
 have hml:m<arr.length:=by omega
 have hlk:lackP arr p=!decide (p.1∈arrIds arr m p.2.2.2.1):=by unfold lackP;rw [hm,Int.toNat_natCast]
 have bb2:=fun r=>Qo bb [r]
 have h92:=fun L=>Dt.app (T:=dSS) (L:=L) (Dt.chg (T:=dSS) h9 ch (by simp))
 have hm9:=hb9 _ (List.getElem_mem hml)
 have hg:arr.getD m []=arr[m]:=by simp [List.getD_eq_getElem?_getD,hml]
 have hal:=U4 arr m p.2.2.2.1
 rw [hg] at hal
 simp [t2,t5,t20,t21,t22,q1,q2,Xw,hF,VM.look,hm]
 refine Qd (Oe (bb2 _) (h92 _) hml) ?_
 rintro _ G2 ⟨s,ok,rfl,os,ns,c2⟩
 have b3:=Qa (bb2 _) c2 (by simp)
 have bp:G2[H'.length]? = some ⟨[.int .i64 p.1,.int .i64 p.2.1,.int .i64 m,.int .i64 p.2.2.2.1,.int .i64 p.2.2.2.2],0,47⟩:=Qa (by simp) c2 (by simp)
 have o2:Ow Fl.int 3 G2 out (((list.take i).filter (lackP arr)).map (·.1)):=oo.app.chg c2 (by simp)
 have cc:=fun F=>U2 (frz:=F) (H:=G2) s _ p.1 os.rd.isI (by omega)
 have ch2:Chg H G2 []:=(ch.trans (Chg.app _)).trans c2
 simp [t2,t5,t20,t21,t22,VM.look,bp,cc]
 by_cases g4:p.1∈arrIds arr m p.2.2.2.1
 ·have hlp:¬lackP arr p=true:=by rw [hlk];simp [g4]
  simp [t2,t5,t20,t21,t22,g4]
  refine ih (list.length-(i+1)) _ _ ⟨i+1,out,rfl,by omega,by simp [t2],by simp [t5],by simp [t20],by simp [t21],?_,ch2,b3,by rw [hsu,if_neg hlp,List.append_nil];exact o2,no⟩ (by omega)
  simp;rw [w64 (by omega) (by omega)]
 ·have hlp:lackP arr p=true:=by rw [hlk];simp [g4]
  obtain ⟨r',H3,hap,o3,c3,n3⟩:=o2.push (P:=Tryz.prog) (frz:=H.length) (ty:=26) (a:=p.1) (by simp) rfl (by omega) (fun j hj=>by have:=no j hj;omega)
  simp only [Fl.int_f] at hap
  simp [t2,t5,t20,t21,t22,g4,VM.look,bp,hap]
  refine ih (list.length-(i+1)) _ _ ⟨i+1,r',rfl,by omega,by simp [t2],by simp,by simp [t20],by simp [t21],?_,ch2.trans' c3 (fun j hj=>.inr (by have:=no j hj;omega)),Qa b3 c3 (fun hj=>by have:=no _ hj;omega),by rw [hsu,if_pos hlp];exact o3,fun j hj=>?_⟩ (by omega)
  ·simp [t22];rw [w64 (by omega) (by omega)]
  ·rcases n3 j hj with h1|h1
   ·exact no j h1
   ·have:=ch2.1;have:=Q0 bp;omega
abbrev pk0:PkD:=(0,0,0,0,0)
def sentOk (w h:Int) (list:List PkD):Prop:=∀i,i<list.length→packetOk w h (list.getD i pk0)∧(list.getD i pk0).1=(i:Int)+1
instance (w h:Int) (list:List PkD):Decidable (sentOk w h list):=inferInstanceAs (Decidable (∀i,i<_→_))
def chipOk (a:ChipD):Prop:=netOk a.1∧a.2.length≤200∧sentOk a.1.1.1 a.1.1.2.1 a.2∧keepsOk a.1 a.2
instance (a:ChipD):Decidable (chipOk a):=inferInstanceAs (Decidable (_∧_))
def delivered (a:ChipD):Int:=if chipOk a then (a.2.length:Int)-(missing a.1 a.2).length else -1
theorem S0 {v:ChipV} {a:ChipD} (o:dChip.Ow H v a):vcall C frz 10 [dChip.val v a] H=some (.bool (decide (chipOk a)),H):=by
 have oneA:=Qt o
 have ones:=oneA.1
 have one2:=oneA.2
 have o1:=o.1
 have rs:=o.2.1.rd
 have nk:=fun F L=>Sp (frz:=F) (H:=H++L) (v:=v.1) (x:=a.1) (Dt.app (T:=dNet) o1)
 have ko:=fun F H' (c:Chg H H' [])=>Mg (frz:=F) (H:=H') (u:=v.2) (list:=a.2) (Dt.chg (T:=dNet) o1 c (by simp)) (rs.chg c (by simp)) o.2.2
 simp only [Qc] at nk ko
 rw [Qj]
 refine wp.exact (by simp) ?_ rfl
 rw [Qb (fn:=Tryz.f10) Tryz.func10 rfl (by kernel_rfl) rfl]
 have hY:∀Y,(chipOk a→Y=true)→(¬chipOk a→Y=false)→Y=decide (chipOk a):=fun Y h1 h2=>by
  by_cases g:chipOk a
  ·rw [h1 g,decide_eq_true g]
  ·rw [h2 g,decide_eq_false g]
 have hno:¬chipOk a→false=decide (chipOk a):=fun g=>by rw [decide_eq_false g]
 have hG:(H++[⟨[.int .i64 a.1.1.1,.int .i64 a.1.1.2.1,v.1.1,v.1.2.1.1,v.1.2.1.2,v.1.2.2.1.1,v.1.2.2.2.1,v.1.2.2.2.2.1,v.1.2.2.2.2.2.1.1,v.1.2.2.2.2.2.2.1.1,.int .i64 a.1.2.2.2.2.2.2.2,v.2],0,38⟩])[H.length]? = some ⟨[.int .i64 a.1.1.1,.int .i64 a.1.1.2.1,v.1.1,v.1.2.1.1,v.1.2.1.2,v.1.2.2.1.1,v.1.2.2.2.1,v.1.2.2.2.2.1,v.1.2.2.2.2.2.1.1,v.1.2.2.2.2.2.2.1.1,.int .i64 a.1.2.2.2.2.2.2.2,v.2],0,38⟩:=by simp
 have cG:Chg H (H++[⟨[.int .i64 a.1.1.1,.int .i64 a.1.1.2.1,v.1.1,v.1.2.1.1,v.1.2.1.2,v.1.2.2.1.1,v.1.2.2.2.1,v.1.2.2.2.2.1,v.1.2.2.2.2.2.1.1,v.1.2.2.2.2.2.2.1.1,.int .i64 a.1.2.2.2.2.2.2.2,v.2],0,38⟩]) []:=Chg.app _
 simp [ones,one2,nk]
 by_cases g0:netOk a.1
 rotate_left
 ·simp [g0];exact fun k=>g0 k.1
 have ls:=fun L=>(rs.app (L:=L)).len (P:=Tryz.prog) (ty:=36) (by simp)
 simp [g0,ones,one2,ls]
 by_cases g1:200<a.2.length
 ·have g1':(200:Int)<a.2.length:=by omega
  simp [g1,g1'];exact fun k=>by have:=k.2.1;omega
 have g1':¬(200:Int)<a.2.length:=by omega
 simp [g1,g1',ones,one2,ls]
 refine Qm (fun n t H'=>∃(i:Nat),n=a.2.length-i∧i≤a.2.length∧t 1=.pointer (some ⟨H.length,0,some 0⟩)∧t 16=v.2∧t 17=.int .i64 a.2.length∧t 18=.int .i64 i∧Chg H H' []∧H'[H.length]? = some ⟨[.int .i64 a.1.1.1,.int .i64 a.1.1.2.1,v.1.1,v.1.2.1.1,v.1.2.1.2,v.1.2.2.1.1,v.1.2.2.2.1,v.1.2.2.2.2.1,v.1.2.2.2.2.2.1.1,v.1.2.2.2.2.2.2.1.1,.int .i64 a.1.2.2.2.2.2.2.2,v.2],0,38⟩∧∀j,j<i→packetOk a.1.1.1 a.1.1.2.1 (a.2.getD j pk0)∧(a.2.getD j pk0).1=(j:Int)+1) ?_ (n:=a.2.length)
  ⟨0,rfl,by omega,by simp,by simp,by simp,by simp,cG,hG,fun _ h=>absurd h (by omega)⟩
 rintro n t H' ⟨i,rfl,hi,t1,t16,t17,t18,ch,bb,hk⟩ ih
 have rd:=rs.chg ch (by simp)
 have ll:=rd.len (P:=Tryz.prog) (ty:=36) (by simp)
 simp [t1,t16,t17,t18,VM.look,bb,ll]
 refine Qf ?_ ?_<;>intro g
 rotate_left
 ·have:i=a.2.length:=by omega
  have hs:sentOk a.1.1.1 a.1.1.2.1 a.2:=fun j hj=>hk j (by omega)
  have ko':=fun F=>ko F H' ch
  simp [t1,t16,t17,t18,VM.look,bb,ones,one2,ko']
  exact ⟨fun k=>⟨g0,by omega,hs,k⟩,fun k=>k.2.2.2⟩
 have hi':i<a.2.length:=by omega
 have hF:H.length≤H'.length:=ch.1
 have q1:=rd.idx (P:=Tryz.prog) (ty:=36) (e:=47) (by simp) (i:=(i:Int)) (by omega) (by omega)
 have q2:=rd.load (P:=Tryz.prog) (e:=47) (by simp) hi'
 simp only [Int.toNat_natCast,Uw] at q1 q2
 have hgd:a.2.getD i pk0=a.2[i]:=by simp [List.getD_eq_getElem?_getD,hi']
 have hfail:¬(packetOk a.1.1.1 a.1.1.2.1 a.2[i]∧a.2[i].1=(i:Int)+1)→¬chipOk a:=fun k c=>k (by have:=c.2.2.1 i hi';rwa [hgd] at this)
 have e1:=@w6 ((i:Int)+1) (by omega)
 have hnx:packetOk a.1.1.1 a.1.1.2.1 a.2[i]→a.2[i].1=(i:Int)+1→∀j,j<i+1→packetOk a.1.1.1 a.1.1.2.1 (a.2.getD j pk0)∧(a.2.getD j pk0).1=(j:Int)+1:=fun k1 k2 j hj=>by
  rcases Nat.lt_succ_iff_lt_or_eq.1 hj with hj|rfl
  ·exact hk j hj
  ·rw [hgd];exact ⟨k1,k2⟩
 obtain ⟨p,hp⟩:∃p,p=a.2[i]:=⟨_,rfl⟩
 have pk:=fun F L=>U9 (frz:=F) (H:=H'++L) a.1.1.1 a.1.1.2.1 p
 unfold pkV at pk
 rw [← hp] at q2 hfail hnx
 have bb2:=fun r=>Qo bb [r]
 simp [t1,t16,t17,t18,q1,q2,Xw,hF,VM.look,bb2,pk]
 by_cases g2:packetOk a.1.1.1 a.1.1.2.1 p
 rotate_left
 ·simp [g2];exact hfail (fun k=>g2 k.1)
 by_cases g3:p.1=(i:Int)+1
 rotate_left
 ·simp [t1,t16,t17,t18,g2,g3,VM.look,e1];exact hfail (fun k=>g3 k.2)
 simp [t1,t16,t17,t18,g2,g3,VM.look,e1]
 refine ih (a.2.length-(i+1)) _ _ ⟨i+1,rfl,by omega,by simp [t1],by simp [t16],by simp [t17],by simp [t18],ch.trans (Chg.app _),Qo bb _,hnx g2 g3⟩ (by omega)
theorem Om {v:ChipV} {a:ChipD} (o:dChip.Ow H v a):vcall C frz 52 [dChip.val v a] H=some (.bool (decide (chipOk a)),H):=by
 have oneA:=Qt o
 have ones:=oneA.1
 have one2:=oneA.2
 have o1:=o.1
 have rs:=o.2.1.rd
 have nk:=fun F L=>V3 (frz:=F) (H:=H++L) (v:=v.1) (x:=a.1) (Dt.app (T:=dNet) o1)
 have ko:=fun F H' (c:Chg H H' [])=>Pu (frz:=F) (H:=H') (u:=v.2) (list:=a.2) (Dt.chg (T:=dNet) o1 c (by simp)) (rs.chg c (by simp)) o.2.2
 simp only [Qc] at nk ko
 rw [Qj]
 refine wp.exact (by simp) ?_ rfl
 rw [Qb (fn:=Tryz.f52) Tryz.func52 rfl (by kernel_rfl) rfl]
 have hY:∀Y,(chipOk a→Y=true)→(¬chipOk a→Y=false)→Y=decide (chipOk a):=fun Y h1 h2=>by
  by_cases g:chipOk a
  ·rw [h1 g,decide_eq_true g]
  ·rw [h2 g,decide_eq_false g]
 have hno:¬chipOk a→false=decide (chipOk a):=fun g=>by rw [decide_eq_false g]
 have hG:(H++[⟨[.int .i64 a.1.1.1,.int .i64 a.1.1.2.1,v.1.1,v.1.2.1.1,v.1.2.1.2,v.1.2.2.1.1,v.1.2.2.2.1,v.1.2.2.2.2.1,v.1.2.2.2.2.2.1.1,v.1.2.2.2.2.2.2.1.1,.int .i64 a.1.2.2.2.2.2.2.2,v.2],0,38⟩])[H.length]? = some ⟨[.int .i64 a.1.1.1,.int .i64 a.1.1.2.1,v.1.1,v.1.2.1.1,v.1.2.1.2,v.1.2.2.1.1,v.1.2.2.2.1,v.1.2.2.2.2.1,v.1.2.2.2.2.2.1.1,v.1.2.2.2.2.2.2.1.1,.int .i64 a.1.2.2.2.2.2.2.2,v.2],0,38⟩:=by simp
 have cG:Chg H (H++[⟨[.int .i64 a.1.1.1,.int .i64 a.1.1.2.1,v.1.1,v.1.2.1.1,v.1.2.1.2,v.1.2.2.1.1,v.1.2.2.2.1,v.1.2.2.2.2.1,v.1.2.2.2.2.2.1.1,v.1.2.2.2.2.2.2.1.1,.int .i64 a.1.2.2.2.2.2.2.2,v.2],0,38⟩]) []:=Chg.app _
 simp [ones,one2,nk]
 by_cases g0:netOk a.1
 rotate_left
 ·simp [g0];exact fun k=>g0 k.1
 have ls:=fun L=>(rs.app (L:=L)).len (P:=Tryz.prog) (ty:=36) (by simp)
 simp [g0,ones,one2,ls]
 by_cases g1:200<a.2.length
 ·have g1':(200:Int)<a.2.length:=by omega
  simp [g1,g1'];exact fun k=>by have:=k.2.1;omega
 have g1':¬(200:Int)<a.2.length:=by omega
 simp [g1,g1',ones,one2,ls]
 refine Qm (fun n t H'=>∃(i:Nat),n=a.2.length-i∧i≤a.2.length∧t 1=.pointer (some ⟨H.length,0,some 0⟩)∧t 3=.int .i64 i∧Chg H H' []∧H'[H.length]? = some ⟨[.int .i64 a.1.1.1,.int .i64 a.1.1.2.1,v.1.1,v.1.2.1.1,v.1.2.1.2,v.1.2.2.1.1,v.1.2.2.2.1,v.1.2.2.2.2.1,v.1.2.2.2.2.2.1.1,v.1.2.2.2.2.2.2.1.1,.int .i64 a.1.2.2.2.2.2.2.2,v.2],0,38⟩∧∀j,j<i→packetOk a.1.1.1 a.1.1.2.1 (a.2.getD j pk0)∧(a.2.getD j pk0).1=(j:Int)+1) ?_ (n:=a.2.length)
  ⟨0,rfl,by omega,by simp,by simp,cG,hG,fun _ h=>absurd h (by omega)⟩
 rintro n t H' ⟨i,rfl,hi,t1,t3,ch,bb,hk⟩ ih
 have rd:=rs.chg ch (by simp)
 have ll:=rd.len (P:=Tryz.prog) (ty:=36) (by simp)
 simp [t1,t3,VM.look,bb,ll]
 refine Qf ?_ ?_<;>intro g
 rotate_left
 ·have:i=a.2.length:=by omega
  have hs:sentOk a.1.1.1 a.1.1.2.1 a.2:=fun j hj=>hk j (by omega)
  have ko':=fun F=>ko F H' ch
  simp [t1,t3,VM.look,bb,ones,one2,ko']
  exact ⟨fun k=>⟨g0,by omega,hs,k⟩,fun k=>k.2.2.2⟩
 have hi':i<a.2.length:=by omega
 have hF:H.length≤H'.length:=ch.1
 have q1:=rd.idx (P:=Tryz.prog) (ty:=36) (e:=47) (by simp) (i:=(i:Int)) (by omega) (by omega)
 have q2:=rd.load (P:=Tryz.prog) (e:=47) (by simp) hi'
 simp only [Int.toNat_natCast,Uw] at q1 q2
 have hgd:a.2.getD i pk0=a.2[i]:=by simp [List.getD_eq_getElem?_getD,hi']
 have hfail:¬(packetOk a.1.1.1 a.1.1.2.1 a.2[i]∧a.2[i].1=(i:Int)+1)→¬chipOk a:=fun k c=>k (by have:=c.2.2.1 i hi';rwa [hgd] at this)
 have e1:=@w6 ((i:Int)+1) (by omega)
 have hnx:packetOk a.1.1.1 a.1.1.2.1 a.2[i]→a.2[i].1=(i:Int)+1→∀j,j<i+1→packetOk a.1.1.1 a.1.1.2.1 (a.2.getD j pk0)∧(a.2.getD j pk0).1=(j:Int)+1:=fun k1 k2 j hj=>by
  rcases Nat.lt_succ_iff_lt_or_eq.1 hj with hj|rfl
  ·exact hk j hj
  ·rw [hgd];exact ⟨k1,k2⟩
 have f0:=rd.field (P:=Tryz.prog) (s:=47) (f:=0) (o:=0) (n:=1) (ag:=false) (by simp) (j:=i*5) (by omega)
 have k0:=rd.cell (P:=Tryz.prog) (e:=3) (by simp) hi' (c:=0) (by decide)
 simp only [Uw,Nat.add_zero] at f0 k0
 simp only [Xw] at k0
 simp at k0
 obtain ⟨p,hp⟩:∃p,p=a.2[i]:=⟨_,rfl⟩
 have pk:=fun F=>Zy (frz:=F) (H:=H') a.1.1.1 a.1.1.2.1 p
 unfold pkV at pk
 rw [← hp] at q2 hfail hnx k0
 simp
 rw [Qp (h:=by kernel_rfl)]
 simp [-vfieldAddr,Qs,t1,t3,q1,q2,Xw,VM.look,bb,pk]
 by_cases g2:packetOk a.1.1.1 a.1.1.2.1 p
 rotate_left
 ·simp [g2];exact hfail (fun k=>g2 k.1)
 by_cases g3:p.1=(i:Int)+1
 rotate_left
 ·simp [-vfieldAddr,Qs,t1,t3,g2,g3,VM.look,bb,q1,f0,k0,e1];exact hfail (fun k=>g3 k.2)
 simp [-vfieldAddr,Qs,t1,t3,g2,g3,VM.look,bb,q1,f0,k0,e1]
 refine ih (a.2.length-(i+1)) _ _ ⟨i+1,rfl,by omega,by simp [t1],by simp,ch,bb,hnx g2 g3⟩ (by omega)
theorem Z5 {v:ChipV} {a:ChipD} (o:dChip.Ow H v a):vcall C frz 9 [dChip.val v a] H=some (.int .i64 (delivered a),H):=by
 have oneA:=Qt o
 have ones:=oneA.1
 have one2:=oneA.2
 have o1:=o.1
 have rs:=o.2.1.rd
 have ck:=fun F L=>S0 (frz:=F) (H:=H++L) (v:=v) (a:=a) (Dt.app (T:=dChip) o)
 have ms:=fun F L=>Fc (frz:=F) (H:=H++L) (u:=v.2) (list:=a.2) (Dt.app (T:=dNet) o1) rs.app o.2.2
 have ls:=fun L=>(rs.app (L:=L)).len (P:=Tryz.prog) (ty:=36) (by simp)
 simp only [Qc] at ms
 simp only [Qj] at ck ⊢
 refine wp.exact (by simp) ?_ rfl
 rw [Qb (fn:=Tryz.f9) Tryz.func9 rfl (by kernel_rfl) rfl]
 unfold delivered
 simp [ones,one2,ck]
 by_cases g0:chipOk a
 rotate_left
 ·simp [g0]
 simp [g0]
 rw [Qp (h:=by kernel_rfl)]
 simp [ones,one2,ls]
 refine Qd (ms _ _) ?_
 rintro r K ⟨or,nr,cr⟩
 have lr:=or.rd.len (P:=Tryz.prog) (ty:=26) (by simp)
 have h1:=g0.2.1
 have h2:(missing a.1 a.2).length≤a.2.length:=by
  unfold missing;split
  ·exact Fy _ _
  ·simp
 simp [lr]
 rw [w64 (by omega) (by omega)]
def sendsOk (a:ChipD) (p:PkD):Prop:=chipOk a∧a.2.length≠200∧sendOk a.1 p
instance (a:ChipD) (p:PkD):Decidable (sendsOk a p):=inferInstanceAs (Decidable (_∧_))
def nextP (a:ChipD) (q2 q3 q4 q5:Int):PkD:=((a.2.length:Int)+1,q2,q3,q4,q5)
def chipSend (a:ChipD) (q2 q3 q4 q5:Int):ChipD:=if sendsOk a (nextP a q2 q3 q4 q5) then (sendNet a.1 (nextP a q2 q3 q4 q5),a.2++[nextP a q2 q3 q4 q5]) else a
theorem Un {K:Heap} {n:ChipV} {y:ChipD} {ok:Bool} {id:Nat} {r:Row} {a:ChipD} {q2 q3 q4 q5:Int} (hid:id=H.length+1) (o:dChip.Ow K n y) (c:Chg H K []) (m:∀i∈dChip.ids n,H.length+2≤i) (d:(dChip.ids n).Nodup) (e1:chipSend a q2 q3 q4 q5=y) (e2:decide (sendsOk a (nextP a q2 q3 q4 q5))=ok) :
 Made2 dChip H (chipSend a q2 q3 q4 q5) (decide (sendsOk a (nextP a q2 q3 q4 q5))) (.tuple #[dChip.val n y,.bool ok]) (K.set id r):=by
 subst hid
 refine ⟨dChip.val n y,by rw [e2],n,by rw [e1],?_,c.trans' (Ql _ _) (fun i hi=>.inr (by simp at hi;omega)),fun i hi=>by have:=m i hi;omega,d⟩
 rw [e1];exact Dt.chg (T:=dChip) o (Ql _ _) (fun i hi hh=>by have:=m i hi;simp at hh;omega)
theorem Ih {v:ChipV} {a:ChipD} {q2 q3 q4 q5:Int} (o:dChip.Ow H v a) :
 wp (vcall C frz 11 [dChip.val v a,.int .i64 q2,.int .i64 q3,.int .i64 q4,.int .i64 q5] H) (Made2 dChip H (chipSend a q2 q3 q4 q5) (decide (sendsOk a (nextP a q2 q3 q4 q5)))):=by
 have oneA:=Qt o
 have ones:=oneA.1
 have one2:=oneA.2
 have ecopy:=fun K (c:Chg H K [])=>Pc (frz:=H.length) (H:=K) (v:=v) (a:=a) (Dt.chg (T:=dChip) o c (by simp))
 have ck:=fun F K (c:Chg H K [])=>S0 (frz:=F) (H:=K) (v:=v) (a:=a) (Dt.chg (T:=dChip) o c (by simp))
 have esend:=fun (K:Heap) id nv tail hr on nd hf hid hN hs=>ql (frz:=H.length) (H:=K) (v:=nv) (x:=a.1) (p:=nextP a q2 q3 q4 q5) (id:=id) (e:=38) (tail:=tail) hr on nd hf hid hN hs
 have hlen:=o.2.2
 have e0:=@w6 ((a.2.length:Int)+1) (by omega)
 unfold pkV nextP at esend
 simp only at esend
 simp only [Qj] at ecopy ck ⊢
 rw [Qb (fn:=Tryz.f11) Tryz.func11 rfl (by kernel_rfl) rfl]
 obtain ⟨G,hG⟩:∃G,G=H++[⟨[.int .i64 a.1.1.1,.int .i64 a.1.1.2.1,v.1.1,v.1.2.1.1,v.1.2.1.2,v.1.2.2.1.1,v.1.2.2.2.1,v.1.2.2.2.2.1,v.1.2.2.2.2.2.1.1,v.1.2.2.2.2.2.2.1.1,.int .i64 a.1.2.2.2.2.2.2.2,v.2],0,38⟩,⟨[.int .i64 0,.int .i64 0,.slice none 0 0,.slice none 0 0,.slice none 0 0,.slice none 0 0,.slice none 0 0,.slice none 0 0,.slice none 0 0,.slice none 0 0,.int .i64 0,.slice none 0 0],0,38⟩]:=⟨_,rfl⟩
 have cG:Chg H G []:=by rw [hG];exact Chg.app _
 have b0:G[H.length]? = some ⟨[.int .i64 a.1.1.1,.int .i64 a.1.1.2.1,v.1.1,v.1.2.1.1,v.1.2.1.2,v.1.2.2.1.1,v.1.2.2.2.1,v.1.2.2.2.2.1,v.1.2.2.2.2.2.1.1,v.1.2.2.2.2.2.2.1.1,.int .i64 a.1.2.2.2.2.2.2.2,v.2],0,38⟩:=by rw [hG];simp
 have bR:G[H.length+1]? = some ⟨[.int .i64 0,.int .i64 0,.slice none 0 0,.slice none 0 0,.slice none 0 0,.slice none 0 0,.slice none 0 0,.slice none 0 0,.slice none 0 0,.slice none 0 0,.int .i64 0,.slice none 0 0],0,38⟩:=by rw [hG];simp
 have lG:G.length=H.length+2:=by rw [hG];simp
 simp [ones,one2]
 rw [← hG]
 clear hG
 have liv:=fun K (c:Chg H K [])=>Wa (o.2.1.chg c (by simp))
 have lp:=fun K (c:Chg H K [])=>(o.2.1.rd.chg c (by simp)).len (P:=Tryz.prog) (ty:=36) (by simp)
 rw [Xo (fl:=([3],[14])) (h:=⟨by kernel_rfl,by kernel_rfl,by kernel_rfl,by kernel_rfl⟩)]
 simp [emps,empOp,empB,VM.look,b0,ones,one2]
 refine Si (ecopy G cG) ?_
 rintro _ K ⟨n,rfl,on,cn,mn,dn⟩
 refine ⟨by simp,?_⟩
 have cK:Chg H K []:=cG.trans cn
 have b0:=Qa b0 cn (by simp)
 have bR:=Qa bR cn (by simp)
 have oneN:=Qt on
 have qn:=oneN.1
 have qn2:=oneN.2
 have livK:=liv K cK
 have lpK:=lp K cK
 have lK:=cn.1
 have hFK:H.length≤K.length:=by omega
 have hFK1:H.length≤K.length+1:=by omega
 have bA:=fun L=>Qo b0 L
 have livA:=fun L=>liv (K++L) (cK.trans (Chg.app _))
 simp [Qj,emps,empOp,empB,VM.look,b0,bA,ones,one2,qn,qn2,livK,livA,lpK,e0,hFK,hFK1,List.set_append]
 obtain ⟨K2,hK2⟩:∃K2,K2=K++[⟨[.int .i64 a.1.1.1,.int .i64 a.1.1.2.1,n.1.1,n.1.2.1.1,n.1.2.1.2,n.1.2.2.1.1,n.1.2.2.2.1,n.1.2.2.2.2.1,n.1.2.2.2.2.2.1.1,n.1.2.2.2.2.2.2.1.1,.int .i64 a.1.2.2.2.2.2.2.2,n.2],0,38⟩,⟨[.int .i64 (a.2.length+1:Int),.int .i64 q2,.int .i64 q3,.int .i64 q4,.int .i64 q5],0,47⟩]:=⟨_,rfl⟩
 have e2:K++[⟨[.int .i64 a.1.1.1,.int .i64 a.1.1.2.1,n.1.1,n.1.2.1.1,n.1.2.1.2,n.1.2.2.1.1,n.1.2.2.2.1,n.1.2.2.2.2.1,n.1.2.2.2.2.2.1.1,n.1.2.2.2.2.2.2.1.1,.int .i64 a.1.2.2.2.2.2.2.2,n.2],0,38⟩,⟨[.int .i64 (a.2.length+1:Int),.int .i64 q2,.int .i64 q3,.int .i64 q4,.int .i64 q5],0,47⟩]=K2:=hK2.symm
 rw [e2]
 have c12:Chg K K2 []:=by rw [hK2];exact Chg.app _
 have cK2:=cK.trans c12
 have l2:K2.length=K.length+2:=by rw [hK2];simp
 have b0:=Qa b0 c12 (by simp)
 have bR:=Qa bR c12 (by simp)
 have bC:K2[K.length]? = some ⟨[.int .i64 a.1.1.1,.int .i64 a.1.1.2.1,n.1.1,n.1.2.1.1,n.1.2.1.2,n.1.2.2.1.1,n.1.2.2.2.1,n.1.2.2.2.2.1,n.1.2.2.2.2.2.1.1,n.1.2.2.2.2.2.2.1.1,.int .i64 a.1.2.2.2.2.2.2.2,n.2],0,38⟩:=by rw [hK2];simp
 have bP:K2[K.length+1]? = some ⟨[.int .i64 (a.2.length+1:Int),.int .i64 q2,.int .i64 q3,.int .i64 q4,.int .i64 q5],0,47⟩:=by rw [hK2];simp
 have on2:=Dt.chg (T:=dChip) on c12 (by simp)
 clear hK2 e2
 have hF:H.length≤H.length+1:=by omega
 have ff:∀K3,Chg H K3 []→K3[H.length+1]? = some ⟨[.int .i64 0,.int .i64 0,.slice none 0 0,.slice none 0 0,.slice none 0 0,.slice none 0 0,.slice none 0 0,.slice none 0 0,.slice none 0 0,.slice none 0 0,.int .i64 0,.slice none 0 0],0,38⟩→¬sendsOk a (nextP a q2 q3 q4 q5)→wp (vcall C H.length 15 [.agg #[.int .i64 a.1.1.1,.int .i64 a.1.1.2.1,v.1.1,v.1.2.1.1,v.1.2.1.2,v.1.2.2.1.1,v.1.2.2.2.1,v.1.2.2.2.2.1,v.1.2.2.2.2.2.1.1,v.1.2.2.2.2.2.2.1.1,.int .i64 a.1.2.2.2.2.2.2.2,v.2]] K3) (fun r K=>∃n:ChipV,r=dChip.val n a∧dChip.Ow K n a∧K[H.length+1]? = some ⟨[.int .i64 0,.int .i64 0,.slice none 0 0,.slice none 0 0,.slice none 0 0,.slice none 0 0,.slice none 0 0,.slice none 0 0,.slice none 0 0,.slice none 0 0,.int .i64 0,.slice none 0 0],0,38⟩∧Made2 dChip H (chipSend a q2 q3 q4 q5) (decide (sendsOk a (nextP a q2 q3 q4 q5))) (.tuple #[dChip.val n a,.bool false]) (K.set (H.length+1) ⟨[.int .i64 a.1.1.1,.int .i64 a.1.1.2.1,n.1.1,n.1.2.1.1,n.1.2.1.2,n.1.2.2.1.1,n.1.2.2.2.1,n.1.2.2.2.2.1,n.1.2.2.2.2.2.1.1,n.1.2.2.2.2.2.2.1.1,.int .i64 a.1.2.2.2.2.2.2.2,n.2],0,38⟩)):=by
  intro K3 c3 b3 hb
  refine (ecopy K3 c3).mono ?_
  rintro _ K ⟨n,rfl,on,cn,mn,dn⟩
  have h9:=Q0 b3
  exact ⟨n,rfl,on,Qa b3 cn (by simp),Un rfl on (c3.trans cn) (fun i hi=>by have:=mn i hi;omega) dn (if_neg hb) (decide_eq_false hb)⟩
 have ck':=fun F=>ck F K2 cK2
 have lp2:=lp K2 cK2
 by_cases g0:chipOk a
 rotate_left
 ·have hb:¬sendsOk a (nextP a q2 q3 q4 q5):=fun k=>g0 k.1
  simp [VM.look,b0,ones,one2,ck',g0]
  refine Qd (ff K2 cK2 bR hb) ?_
  rintro _ K4 ⟨n4,rfl,on4,b4,hM⟩
  have q4a:=Qt on4
  have gR:=Qi (r':=⟨[.int .i64 a.1.1.1,.int .i64 a.1.1.2.1,n4.1.1,n4.1.2.1.1,n4.1.2.1.2,n4.1.2.2.1.1,n4.1.2.2.2.1,n4.1.2.2.2.2.1,n4.1.2.2.2.2.2.1.1,n4.1.2.2.2.2.2.2.1.1,.int .i64 a.1.2.2.2.2.2.2.2,n4.2],0,38⟩) b4
  simp [Qj,q4a,VM.look,b4,gR,hF]
  simpa [hb,Qj] using hM
 by_cases g1:a.2.length=200
 ·have hb:¬sendsOk a (nextP a q2 q3 q4 q5):=fun k=>k.2.1 g1
  have g1':((a.2.length:Int))=200:=by omega
  simp [VM.look,b0,ones,one2,ck',g0,lp2,g1,g1']
  refine Qd (ff K2 cK2 bR hb) ?_
  rintro _ K4 ⟨n4,rfl,on4,b4,hM⟩
  have q4a:=Qt on4
  have gR:=Qi (r':=⟨[.int .i64 a.1.1.1,.int .i64 a.1.1.2.1,n4.1.1,n4.1.2.1.1,n4.1.2.1.2,n4.1.2.2.1.1,n4.1.2.2.2.1,n4.1.2.2.2.2.1,n4.1.2.2.2.2.2.1.1,n4.1.2.2.2.2.2.2.1.1,.int .i64 a.1.2.2.2.2.2.2.2,n4.2],0,38⟩) b4
  simp [Qj,q4a,VM.look,b4,gR,hF]
  simpa [hb,Qj] using hM
 have g1':¬((a.2.length:Int))=200:=by omega
 simp [VM.look,b0,bC,bP,ones,one2,ck',g0,lp2,g1,g1']
 have hd:=List.nodup_append.1 dn
 have hm1:∀i∈dNet.ids n.1,H.length+2≤i:=fun i hi=>by have:=mn i (List.mem_append_left _ hi);omega
 have hm2:∀i∈VM.ids n.2,H.length+2≤i:=fun i hi=>by have:=mn i (List.mem_append_right _ hi);omega
 have hl1:∀i∈dNet.ids n.1,i<K.length:=fun i hi=>dNet.lt on.1 i hi
 have hl2:∀i∈VM.ids n.2,i<K.length:=fun i hi=>dPk.lt on.2 i hi
 refine Qd (esend K2 K.length n.1 [n.2] bC on2.1 hd.1 (fun i hi=>by have:=hm1 i hi;omega) (fun hh=>by have:=hl1 _ hh;omega) g0.1.2.1.2.2.2.1 (fun l hl=>(g0.1.2.2.2.1 l hl).1)) ?_
 rintro _ K3 ⟨rfl,hps⟩
 by_cases g2:sendOk a.1 (nextP a q2 q3 q4 q5)
 rotate_left
 ·have hb:¬sendsOk a (nextP a q2 q3 q4 q5):=fun k=>g2 k.2.2
  have g2':¬sendOk a.1 ((a.2.length:Int)+1,q2,q3,q4,q5):=g2
  rw [if_neg g2'] at hps
  have b0:=Qa b0 hps (by simp)
  have bR:=Qa bR hps (by simp)
  simp [g2',VM.look,b0,ones,one2]
  refine Qd (ff K3 (cK2.trans hps) bR hb) ?_
  rintro _ K4 ⟨n4,rfl,on4,b4,hM⟩
  have q4a:=Qt on4
  have gR:=Qi (r':=⟨[.int .i64 a.1.1.1,.int .i64 a.1.1.2.1,n4.1.1,n4.1.2.1.1,n4.1.2.1.2,n4.1.2.2.1.1,n4.1.2.2.2.1,n4.1.2.2.2.2.1,n4.1.2.2.2.2.2.1.1,n4.1.2.2.2.2.2.2.1.1,.int .i64 a.1.2.2.2.2.2.2.2,n4.2],0,38⟩) b4
  simp [Qj,q4a,VM.look,b4,gR,hF]
  simpa [hb,Qj] using hM
 have g2':sendOk a.1 ((a.2.length:Int)+1,q2,q3,q4,q5):=g2
 rw [if_pos g2'] at hps
 obtain ⟨hs',o3,d3,i3,c3⟩:=hps
 have hso:sendsOk a (nextP a q2 q3 q4 q5):=⟨g0,g1,g2⟩
 have insrc:=Ya (n:=n.1)
 have bR:=Qa bR c3 (fun hh=>by have:=hm1 _ (insrc _ hh);omega)
 have bC:=Qa bC c3 (fun hh=>by have:=hl1 _ (insrc _ hh);omega)
 have bP:=Qa bP c3 (fun hh=>by have:=hl1 _ (insrc _ hh);omega)
 have op3:=Dt.chg (T:=dPk) on2.2 c3 (fun i hi hh=>hd.2.2 i (insrc _ hh) i hi rfl)
 obtain ⟨r',K4,hap,o4,c4,n4⟩:=op3.1.push (P:=Tryz.prog) (frz:=H.length) (ty:=36) (a:=((a.2.length:Int)+1,q2,q3,q4,q5)) (by simp) rfl (by have:=g0.2.1;omega) (fun i hi=>by have:=hm2 i hi;omega)
 simp only [Xw] at hap
 have bR4:=Qa bR c4 (fun hh=>by have:=hm2 _ hh;omega)
 have bC4:=Qa bC c4 (fun hh=>by have:=hl2 _ hh;omega)
 have l3:=c3.1
 have bC3:=fun L=>Qo bC L
 have bP3:=fun L=>Qo bP L
 have qr:=And.intro o4.rd.one' o4.rd.cells
 have gC:=Qi (r':=⟨[.int .i64 a.1.1.1,.int .i64 a.1.1.2.1,n.1.1,n.1.2.1.1,n.1.2.1.2,n.1.2.2.1.1,n.1.2.2.2.1,n.1.2.2.2.2.1,n.1.2.2.2.2.2.1.1,n.1.2.2.2.2.2.2.1.1,.int .i64 a.1.2.2.2.2.2.2.2,r'],0,38⟩) bC4
 have eC:Chg K4 (K4.set K.length ⟨[.int .i64 a.1.1.1,.int .i64 a.1.1.2.1,n.1.1,n.1.2.1.1,n.1.2.1.2,n.1.2.2.1.1,n.1.2.2.2.1,n.1.2.2.2.2.1,n.1.2.2.2.2.2.1.1,n.1.2.2.2.2.2.2.1.1,.int .i64 a.1.2.2.2.2.2.2.2,r'],0,38⟩) [K.length]:=Ql _ _
 have bR5:=Qa bR4 eC (by simp;omega)
 have gR:=Qi (r':=⟨[.int .i64 a.1.1.1,.int .i64 a.1.1.2.1,n.1.1,n.1.2.1.1,n.1.2.1.2,n.1.2.2.1.1,n.1.2.2.2.1,n.1.2.2.2.2.1,n.1.2.2.2.2.2.1.1,n.1.2.2.2.2.2.2.1.1,.int .i64 a.1.2.2.2.2.2.2.2,r'],0,38⟩) bR5
 have hFK:H.length≤K.length:=by omega
 simp [-Qe,-Qq,g2',VM.look,bC,bC3,bP,bP3,hap,bC4,qr,qn,gC,bR5,gR,hF,hFK]
 have hp1:∀i∈dNet.ids (putSrc n.1 (n.1.2.2.2.2.2.1.1,hs')),H.length+2≤i∧i∉VM.ids n.2∧i≠K.length∧i<K3.length:=fun i hi=>by
  have h9:=dNet.lt o3 i hi
  rcases i3 i hi with g|g
  ·exact ⟨hm1 i g,fun hh=>hd.2.2 i g i hh rfl,by have:=hl1 i g;omega,h9⟩
  ·exact ⟨by omega,fun hh=>by have:=hl2 i hh;omega,by omega,h9⟩
 have hp2:∀i∈VM.ids r',(i∈VM.ids n.2∨K3.length≤i)∧i≠K.length∧H.length+2≤i:=fun i hi=>by
  rcases n4 i hi with g|g
  ·exact ⟨.inl g,by have:=hl2 i g;omega,hm2 i g⟩
  ·exact ⟨.inr g,by omega,by omega⟩
 have fo1:=Dt.chg (T:=dNet) (Dt.chg (T:=dNet) o3 c4 (fun i hi=>(hp1 i hi).2.1)) eC (fun i hi hh=>by have:=(hp1 i hi).2.2.1;simp at hh;omega)
 have fo2:dPk.Ow (K4.set K.length ⟨[.int .i64 a.1.1.1,.int .i64 a.1.1.2.1,n.1.1,n.1.2.1.1,n.1.2.1.2,n.1.2.2.1.1,n.1.2.2.2.1,n.1.2.2.2.2.1,n.1.2.2.2.2.2.1.1,n.1.2.2.2.2.2.2.1.1,.int .i64 a.1.2.2.2.2.2.2.2,r'],0,38⟩) r' (a.2++[((a.2.length:Int)+1,q2,q3,q4,q5)]):=⟨o4.chg eC (fun i hi hh=>by have:=(hp2 i hi).2.1;simp at hh;omega),by have:=g0.2.1;simp;omega⟩
 have:=Un (K:=K4.set K.length ⟨[.int .i64 a.1.1.1,.int .i64 a.1.1.2.1,n.1.1,n.1.2.1.1,n.1.2.1.2,n.1.2.2.1.1,n.1.2.2.2.1,n.1.2.2.2.2.1,n.1.2.2.2.2.2.1.1,n.1.2.2.2.2.2.2.1.1,.int .i64 a.1.2.2.2.2.2.2.2,r'],0,38⟩) (n:=(putSrc n.1 (n.1.2.2.2.2.2.1.1,hs'),r')) (y:=(sendNet a.1 ((a.2.length:Int)+1,q2,q3,q4,q5),a.2++[((a.2.length:Int)+1,q2,q3,q4,q5)])) (a:=a) (q2:=q2) (q3:=q3) (q4:=q4) (q5:=q5) (r:=⟨[.int .i64 a.1.1.1,.int .i64 a.1.1.2.1,n.1.1,n.1.2.1.1,n.1.2.1.2,n.1.2.2.1.1,n.1.2.2.2.1,n.1.2.2.2.2.1,n.1.2.2.2.2.2.1.1,n.1.2.2.2.2.2.2.1.1,.int .i64 a.1.2.2.2.2.2.2.2,r'],0,38⟩) (H:=H) rfl ⟨fo1,fo2⟩
  (((cK2.trans' c3 (fun i hi=>.inr (by have:=hm1 _ (insrc _ hi);omega))).trans' c4 (fun i hi=>.inr (by have:=hm2 _ hi;omega))).trans' eC (fun i hi=>.inr (by simp at hi;omega)))
  (fun i hi=>by
   rcases List.mem_append.1 hi with hi|hi
   ·exact (hp1 i hi).1
   ·exact (hp2 i hi).2.2)
  (List.nodup_append.2 ⟨d3,Qw r',fun x hx y hy e=>by
   subst e
   rcases (hp2 x hy).1 with g|g
   ·exact (hp1 x hx).2.1 g
   ·have:=(hp1 x hx).2.2.2;omega⟩)
  (if_pos hso) (decide_eq_true hso)
 exact this
theorem Kk {v:ChipV} {a:ChipD} {q2 q3 q4 q5:Int} (o:dChip.Ow H v a) :
 wp (vcall C frz 25 [dChip.val v a,.int .i64 q2,.int .i64 q3,.int .i64 q4,.int .i64 q5] H) (Made2 dChip H (chipSend a q2 q3 q4 q5) (decide (sendsOk a (nextP a q2 q3 q4 q5)))):=by
 have oneA:=Qt o
 have ones:=oneA.1
 have one2:=oneA.2
 have ecopy:=fun K (c:Chg H K [])=>O6 (frz:=H.length) (H:=K) (v:=v) (a:=a) (Dt.chg (T:=dChip) o c (by simp))
 have ck:=fun F K (c:Chg H K [])=>Om (frz:=F) (H:=K) (v:=v) (a:=a) (Dt.chg (T:=dChip) o c (by simp))
 have esend:=fun (K:Heap) (c:Chg H K [])=>Pr (frz:=H.length) (H:=K) (v:=v.1) (x:=a.1) (p:=nextP a q2 q3 q4 q5) (Dt.chg (T:=dNet) o.1 c (by simp))
 have hlen:=o.2.2
 have e0:=@w6 ((a.2.length:Int)+1) (by omega)
 unfold pkV at esend
 simp only [show (nextP a q2 q3 q4 q5).1=(a.2.length:Int)+1 from rfl,show (nextP a q2 q3 q4 q5).2.1=q2 from rfl,show (nextP a q2 q3 q4 q5).2.2.1=q3 from rfl,show (nextP a q2 q3 q4 q5).2.2.2.1=q4 from rfl,show (nextP a q2 q3 q4 q5).2.2.2.2=q5 from rfl,Qc] at esend
 simp only [Qj] at ecopy ck ⊢
 rw [Qb (fn:=Tryz.f25) Tryz.func25 rfl (by kernel_rfl) rfl]
 obtain ⟨G,hG⟩:∃G,G=H++[⟨[.int .i64 a.1.1.1,.int .i64 a.1.1.2.1,v.1.1,v.1.2.1.1,v.1.2.1.2,v.1.2.2.1.1,v.1.2.2.2.1,v.1.2.2.2.2.1,v.1.2.2.2.2.2.1.1,v.1.2.2.2.2.2.2.1.1,.int .i64 a.1.2.2.2.2.2.2.2,v.2],0,38⟩,⟨[.int .i64 0,.int .i64 0,.slice none 0 0,.slice none 0 0,.slice none 0 0,.slice none 0 0,.slice none 0 0,.slice none 0 0,.slice none 0 0,.slice none 0 0,.int .i64 0,.slice none 0 0],0,38⟩]:=⟨_,rfl⟩
 have cG:Chg H G []:=by rw [hG];exact Chg.app _
 have b0:G[H.length]? = some ⟨[.int .i64 a.1.1.1,.int .i64 a.1.1.2.1,v.1.1,v.1.2.1.1,v.1.2.1.2,v.1.2.2.1.1,v.1.2.2.2.1,v.1.2.2.2.2.1,v.1.2.2.2.2.2.1.1,v.1.2.2.2.2.2.2.1.1,.int .i64 a.1.2.2.2.2.2.2.2,v.2],0,38⟩:=by rw [hG];simp
 have bR:G[H.length+1]? = some ⟨[.int .i64 0,.int .i64 0,.slice none 0 0,.slice none 0 0,.slice none 0 0,.slice none 0 0,.slice none 0 0,.slice none 0 0,.slice none 0 0,.slice none 0 0,.int .i64 0,.slice none 0 0],0,38⟩:=by rw [hG];simp
 have lG:G.length=H.length+2:=by rw [hG];simp
 simp [ones,one2]
 rw [← hG]
 clear hG
 have lp:=fun K (c:Chg H K [])=>(o.2.1.rd.chg c (by simp)).len (P:=Tryz.prog) (ty:=36) (by simp)
 try simp [VM.look,b0,ones,one2]
 refine Qd (ecopy G cG) ?_
 rintro _ K ⟨n,rfl,on,cn,mn,dn⟩
 have cK:Chg H K []:=cG.trans cn
 have b0:=Qa b0 cn (by simp)
 have bR:=Qa bR cn (by simp)
 have oneN:=Qt on
 have qn:=oneN.1
 have qn2:=oneN.2
 have lK:=cn.1
 have hFK:H.length≤K.length:=by omega
 obtain ⟨K2,hK2⟩:∃K2,K2=K++[⟨[.int .i64 a.1.1.1,.int .i64 a.1.1.2.1,n.1.1,n.1.2.1.1,n.1.2.1.2,n.1.2.2.1.1,n.1.2.2.2.1,n.1.2.2.2.2.1,n.1.2.2.2.2.2.1.1,n.1.2.2.2.2.2.2.1.1,.int .i64 a.1.2.2.2.2.2.2.2,n.2],0,38⟩]:=⟨_,rfl⟩
 have e2:K++[⟨[.int .i64 a.1.1.1,.int .i64 a.1.1.2.1,n.1.1,n.1.2.1.1,n.1.2.1.2,n.1.2.2.1.1,n.1.2.2.2.1,n.1.2.2.2.2.1,n.1.2.2.2.2.2.1.1,n.1.2.2.2.2.2.2.1.1,.int .i64 a.1.2.2.2.2.2.2.2,n.2],0,38⟩]=K2:=hK2.symm
 have c12:Chg K K2 []:=by rw [hK2];exact Chg.app _
 have cK2:=cK.trans c12
 have l2:K2.length=K.length+1:=by rw [hK2];simp
 have b0:=Qa b0 c12 (by simp)
 have bR:=Qa bR c12 (by simp)
 have bC:K2[K.length]? = some ⟨[.int .i64 a.1.1.1,.int .i64 a.1.1.2.1,n.1.1,n.1.2.1.1,n.1.2.1.2,n.1.2.2.1.1,n.1.2.2.2.1,n.1.2.2.2.2.1,n.1.2.2.2.2.2.1.1,n.1.2.2.2.2.2.2.1.1,.int .i64 a.1.2.2.2.2.2.2.2,n.2],0,38⟩:=by rw [hK2];simp
 have on2:=Dt.chg (T:=dChip) on c12 (by simp)
 have hF:H.length≤H.length+1:=by omega
 have mn':∀i∈dChip.ids n,H.length+2≤i:=fun i hi=>by have:=mn i hi;omega
 have fin:∀K3,Chg K2 K3 []→¬sendsOk a (nextP a q2 q3 q4 q5)→Made2 dChip H (chipSend a q2 q3 q4 q5) (decide (sendsOk a (nextP a q2 q3 q4 q5))) (.tuple #[dChip.val n a,.bool false]) (K3.set (H.length+1) ⟨[.int .i64 a.1.1.1,.int .i64 a.1.1.2.1,n.1.1,n.1.2.1.1,n.1.2.1.2,n.1.2.2.1.1,n.1.2.2.2.1,n.1.2.2.2.2.1,n.1.2.2.2.2.2.1.1,n.1.2.2.2.2.2.2.1.1,.int .i64 a.1.2.2.2.2.2.2.2,n.2],0,38⟩):=fun K3 c3 hb=>
  Un rfl (Dt.chg (T:=dChip) on2 c3 (by simp)) (cK2.trans c3) mn' dn (if_neg hb) (decide_eq_false hb)
 have ck':=fun F=>ck F K2 cK2
 have lp2:=lp K2 cK2
 simp [Qj,VM.look,qn,qn2,hFK]
 rw [e2]
 clear hK2 e2
 by_cases g0:chipOk a
 rotate_left
 ·have hb:¬sendsOk a (nextP a q2 q3 q4 q5):=fun k=>g0 k.1
  have gR:=Qi (r':=⟨[.int .i64 a.1.1.1,.int .i64 a.1.1.2.1,n.1.1,n.1.2.1.1,n.1.2.1.2,n.1.2.2.1.1,n.1.2.2.2.1,n.1.2.2.2.2.1,n.1.2.2.2.2.2.1.1,n.1.2.2.2.2.2.2.1.1,.int .i64 a.1.2.2.2.2.2.2.2,n.2],0,38⟩) bR
  have hM:=fin K2 (Chg.refl _) hb
  simp [VM.look,b0,bC,ones,one2,ck',g0,qn,qn2,bR,gR,hF]
  simpa [hb,Qj] using hM
 by_cases g1:a.2.length=200
 ·have hb:¬sendsOk a (nextP a q2 q3 q4 q5):=fun k=>k.2.1 g1
  have g1':((a.2.length:Int))=200:=by omega
  have gR:=Qi (r':=⟨[.int .i64 a.1.1.1,.int .i64 a.1.1.2.1,n.1.1,n.1.2.1.1,n.1.2.1.2,n.1.2.2.1.1,n.1.2.2.2.1,n.1.2.2.2.2.1,n.1.2.2.2.2.2.1.1,n.1.2.2.2.2.2.2.1.1,.int .i64 a.1.2.2.2.2.2.2.2,n.2],0,38⟩) bR
  have hM:=fin K2 (Chg.refl _) hb
  simp [VM.look,b0,bC,ones,one2,ck',g0,lp2,g1,g1',qn,qn2,bR,gR,hF]
  simpa [hb,Qj] using hM
 have g1':¬((a.2.length:Int))=200:=by omega
 have hFK2:H.length≤K2.length:=by omega
 simp [VM.look,b0,bC,ones,one2,ck',g0,lp2,g1,g1',e0,hFK2]
 obtain ⟨K3,hK3⟩:∃K3,K3=K2++[⟨[.int .i64 (a.2.length+1:Int),.int .i64 q2,.int .i64 q3,.int .i64 q4,.int .i64 q5],0,47⟩]:=⟨_,rfl⟩
 have e3:K2++[⟨[.int .i64 (a.2.length+1:Int),.int .i64 q2,.int .i64 q3,.int .i64 q4,.int .i64 q5],0,47⟩]=K3:=hK3.symm
 have c23:Chg K2 K3 []:=by rw [hK3];exact Chg.app _
 have l3:K3.length=K2.length+1:=by rw [hK3];simp
 have bP:K3[K2.length]? = some ⟨[.int .i64 (a.2.length+1:Int),.int .i64 q2,.int .i64 q3,.int .i64 q4,.int .i64 q5],0,47⟩:=by rw [hK3];simp
 have b0:=Qa b0 c23 (by simp)
 have bR:=Qa bR c23 (by simp)
 have bC:=Qa bC c23 (by simp)
 rw [e3]
 clear hK3 e3
 simp [VM.look,b0,bP,ones,one2,hFK2]
 refine Qd (esend K3 (cK2.trans c23)) ?_
 rintro _ K4 ⟨_,rfl,n2,rfl,o4,c4,m4,d4⟩
 have bP:=Qa bP c4 (by simp)
 have bR:=Qa bR c4 (by simp)
 have bC:=Qa bC c4 (by simp)
 have one4:=Qh o4
 have l4:=c4.1
 have hFK4:H.length≤K4.length:=by omega
 have bPA:=fun L=>Qo bP L
 have bRA:=fun L=>Qo bR L
 have bCA:=fun L=>Qo bC L
 by_cases g2:sendOk a.1 (nextP a q2 q3 q4 q5)
 rotate_left
 ·have hb:¬sendsOk a (nextP a q2 q3 q4 q5):=fun k=>g2 k.2.2
  have hz:sendP a.1 (nextP a q2 q3 q4 q5)=a.1:=if_neg (fun k=>g2 k.2)
  rw [hz] at o4
  have hM:=fin (K4++[⟨[.int .i64 a.1.1.1,.int .i64 a.1.1.2.1,n2.1,n2.2.1.1,n2.2.1.2,n2.2.2.1.1,n2.2.2.2.1,n2.2.2.2.2.1,n2.2.2.2.2.2.1.1,n2.2.2.2.2.2.2.1.1,.int .i64 a.1.2.2.2.2.2.2.2],0,35⟩]) ((c23.trans c4).trans (Chg.app _)) hb
  have gR:=Qi (r':=⟨[.int .i64 a.1.1.1,.int .i64 a.1.1.2.1,n.1.1,n.1.2.1.1,n.1.2.1.2,n.1.2.2.1.1,n.1.2.2.2.1,n.1.2.2.2.2.1,n.1.2.2.2.2.2.1.1,n.1.2.2.2.2.2.2.1.1,.int .i64 a.1.2.2.2.2.2.2.2,n.2],0,38⟩) (bRA [⟨[.int .i64 a.1.1.1,.int .i64 a.1.1.2.1,n2.1,n2.2.1.1,n2.2.1.2,n2.2.2.1.1,n2.2.2.2.1,n2.2.2.2.2.1,n2.2.2.2.2.2.1.1,n2.2.2.2.2.2.2.1.1,.int .i64 a.1.2.2.2.2.2.2.2],0,35⟩])
  simp [Qc,hz,g0.1,g2,one4,hFK4,VM.look,bCA,bRA,qn,qn2,gR,hF]
  simpa [hb,Qj] using hM
 have hso:sendsOk a (nextP a q2 q3 q4 q5):=⟨g0,g1,g2⟩
 have hz:sendP a.1 (nextP a q2 q3 q4 q5)=sendNet a.1 (nextP a q2 q3 q4 q5):=if_pos ⟨g0.1,g2⟩
 rw [hz] at o4
 obtain ⟨z,hzz⟩:∃z,z=sendNet a.1 (nextP a q2 q3 q4 q5):=⟨_,rfl⟩
 rw [← hzz] at o4 hz
 have hd:=List.nodup_append.1 dn
 have hm2:∀i∈VM.ids n.2,H.length+2≤i:=fun i hi=>mn' i (List.mem_append_right _ hi)
 have hl2:∀i∈VM.ids n.2,i<K.length:=fun i hi=>dPk.lt on.2 i hi
 obtain ⟨K5,hK5⟩:∃K5,K5=K4++[⟨[.int .i64 z.1.1,.int .i64 z.1.2.1,n2.1,n2.2.1.1,n2.2.1.2,n2.2.2.1.1,n2.2.2.2.1,n2.2.2.2.2.1,n2.2.2.2.2.2.1.1,n2.2.2.2.2.2.2.1.1,.int .i64 z.2.2.2.2.2.2.2],0,35⟩]:=⟨_,rfl⟩
 have e5:K4++[⟨[.int .i64 z.1.1,.int .i64 z.1.2.1,n2.1,n2.2.1.1,n2.2.1.2,n2.2.2.1.1,n2.2.2.2.1,n2.2.2.2.2.1,n2.2.2.2.2.2.1.1,n2.2.2.2.2.2.2.1.1,.int .i64 z.2.2.2.2.2.2.2],0,35⟩]=K5:=hK5.symm
 have c45:Chg K4 K5 []:=by rw [hK5];exact Chg.app _
 have l5:K5.length=K4.length+1:=by rw [hK5];simp
 have b5:K5[K4.length]? = some ⟨[.int .i64 z.1.1,.int .i64 z.1.2.1,n2.1,n2.2.1.1,n2.2.1.2,n2.2.2.1.1,n2.2.2.2.1,n2.2.2.2.2.1,n2.2.2.2.2.2.1.1,n2.2.2.2.2.2.2.1.1,.int .i64 z.2.2.2.2.2.2.2],0,35⟩:=by rw [hK5];simp
 have bP:=Qa bP c45 (by simp)
 have bR:=Qa bR c45 (by simp)
 have bC:=Qa bC c45 (by simp)
 have o5:=Dt.chg (T:=dNet) o4 c45 (by simp)
 have op5:=Dt.chg (T:=dPk) (Dt.chg (T:=dPk) on2.2 ((c23.trans c4).trans c45) (by simp)) (Ql (H:=K5) K.length ⟨[.int .i64 z.1.1,.int .i64 z.1.2.1,n2.1,n2.2.1.1,n2.2.1.2,n2.2.2.1.1,n2.2.2.2.1,n2.2.2.2.2.1,n2.2.2.2.2.2.1.1,n2.2.2.2.2.2.2.1.1,.int .i64 z.2.2.2.2.2.2.2,n.2],0,38⟩) (fun i hi hh=>by have:=hl2 i hi;simp at hh;omega)
 have gC1:=Qi (r':=⟨[.int .i64 z.1.1,.int .i64 z.1.2.1,n2.1,n2.2.1.1,n2.2.1.2,n2.2.2.1.1,n2.2.2.2.1,n2.2.2.2.2.1,n2.2.2.2.2.2.1.1,n2.2.2.2.2.2.2.1.1,.int .i64 z.2.2.2.2.2.2.2,n.2],0,38⟩) bC
 have hFKK:H.length≤K.length:=by omega
 simp [Qc,hz,g0.1,g2,one4,hFK4,VM.look]
 rw [e5]
 clear hK5 e5
 obtain ⟨K6,hK6⟩:∃K6,K6=K5.set K.length ⟨[.int .i64 z.1.1,.int .i64 z.1.2.1,n2.1,n2.2.1.1,n2.2.1.2,n2.2.2.1.1,n2.2.2.2.1,n2.2.2.2.2.1,n2.2.2.2.2.2.1.1,n2.2.2.2.2.2.2.1.1,.int .i64 z.2.2.2.2.2.2.2,n.2],0,38⟩:=⟨_,rfl⟩
 have c56:Chg K5 K6 [K.length]:=by rw [hK6];exact Ql _ _
 have l6:K6.length=K5.length:=by rw [hK6];simp
 have b6:=Qa bP c56 (by simp;omega)
 have b6R:=Qa bR c56 (by simp;omega)
 rw [← hK6] at op5 gC1
 simp [VM.look,b5,bC,qn2,one4,hFKK]
 rw [← hK6]
 have o6:=Dt.chg (T:=dNet) o5 c56 (fun i hi hh=>by have:=m4 i hi;simp at hh;omega)
 obtain ⟨r',K7,hap,o7,c7,n7⟩:=op5.1.push (P:=Tryz.prog) (frz:=H.length) (ty:=36) (a:=((a.2.length:Int)+1,q2,q3,q4,q5)) (by simp) rfl (by have:=g0.2.1;omega) (fun i hi=>by have:=hm2 i hi;omega)
 simp only [Xw] at hap
 have b6A:=fun L=>Qo b6 L
 have gCA:=fun L=>Qo gC1 L
 have bC7:=Qa gC1 c7 (fun hh=>by have:=hl2 _ hh;omega)
 have bR7:=Qa b6R c7 (fun hh=>by have:=hm2 _ hh;omega)
 have qr:=And.intro o7.rd.one' o7.rd.cells
 have gC:=Qi (r':=⟨[.int .i64 z.1.1,.int .i64 z.1.2.1,n2.1,n2.2.1.1,n2.2.1.2,n2.2.2.1.1,n2.2.2.2.1,n2.2.2.2.2.1,n2.2.2.2.2.2.1.1,n2.2.2.2.2.2.2.1.1,.int .i64 z.2.2.2.2.2.2.2,r'],0,38⟩) bC7
 have eC:Chg K7 (K7.set K.length ⟨[.int .i64 z.1.1,.int .i64 z.1.2.1,n2.1,n2.2.1.1,n2.2.1.2,n2.2.2.1.1,n2.2.2.2.1,n2.2.2.2.2.1,n2.2.2.2.2.2.1.1,n2.2.2.2.2.2.2.1.1,.int .i64 z.2.2.2.2.2.2.2,r'],0,38⟩) [K.length]:=Ql _ _
 have bR8:=Qa bR7 eC (by simp;omega)
 have gR:=Qi (r':=⟨[.int .i64 z.1.1,.int .i64 z.1.2.1,n2.1,n2.2.1.1,n2.2.1.2,n2.2.2.1.1,n2.2.2.2.1,n2.2.2.2.2.1,n2.2.2.2.2.2.1.1,n2.2.2.2.2.2.2.1.1,.int .i64 z.2.2.2.2.2.2.2,r'],0,38⟩) bR8
 simp [-Qe,-Qq,VM.look,gC1,gCA,b6,b6A,hap,bC7,qr,one4,gC,bR8,gR,hF,hFKK]
 have hp2:∀i∈VM.ids r',(i∈VM.ids n.2∨K6.length≤i)∧i≠K.length∧H.length+2≤i:=fun i hi=>by
  rcases n7 i hi with g|g
  ·exact ⟨.inl g,by have:=hl2 i g;omega,hm2 i g⟩
  ·exact ⟨.inr g,by omega,by omega⟩
 have hp1:∀i∈dNet.ids n2,K3.length≤i∧i<K4.length:=fun i hi=>⟨m4 i hi,dNet.lt o4 i hi⟩
 have fo1:=Dt.chg (T:=dNet) (Dt.chg (T:=dNet) o6 c7 (fun i hi hh=>by have:=hp1 i hi;have:=hl2 i hh;omega)) eC (fun i hi hh=>by have:=hp1 i hi;simp at hh;omega)
 have fo2:dPk.Ow (K7.set K.length ⟨[.int .i64 z.1.1,.int .i64 z.1.2.1,n2.1,n2.2.1.1,n2.2.1.2,n2.2.2.1.1,n2.2.2.2.1,n2.2.2.2.2.1,n2.2.2.2.2.2.1.1,n2.2.2.2.2.2.2.1.1,.int .i64 z.2.2.2.2.2.2.2,r'],0,38⟩) r' (a.2++[((a.2.length:Int)+1,q2,q3,q4,q5)]):=⟨o7.chg eC (fun i hi hh=>by have:=(hp2 i hi).2.1;simp at hh;omega),by have:=g0.2.1;simp;omega⟩
 have eC2:chipSend a q2 q3 q4 q5=(z,a.2++[((a.2.length:Int)+1,q2,q3,q4,q5)]):=by rw [hzz];exact if_pos hso
 have:=Un (K:=K7.set K.length ⟨[.int .i64 z.1.1,.int .i64 z.1.2.1,n2.1,n2.2.1.1,n2.2.1.2,n2.2.2.1.1,n2.2.2.2.1,n2.2.2.2.2.1,n2.2.2.2.2.2.1.1,n2.2.2.2.2.2.2.1.1,.int .i64 z.2.2.2.2.2.2.2,r'],0,38⟩) (n:=(n2,r')) (y:=(z,a.2++[((a.2.length:Int)+1,q2,q3,q4,q5)])) (a:=a) (q2:=q2) (q3:=q3) (q4:=q4) (q5:=q5) (r:=⟨[.int .i64 z.1.1,.int .i64 z.1.2.1,n2.1,n2.2.1.1,n2.2.1.2,n2.2.2.1.1,n2.2.2.2.1,n2.2.2.2.2.1,n2.2.2.2.2.2.1.1,n2.2.2.2.2.2.2.1.1,.int .i64 z.2.2.2.2.2.2.2,r'],0,38⟩) (H:=H) rfl ⟨fo1,fo2⟩
  ((((((cK2.trans c23).trans c4).trans c45).trans' c56 (fun i hi=>.inr (by simp at hi;omega))).trans' c7 (fun i hi=>.inr (by have:=hm2 _ hi;omega))).trans' eC (fun i hi=>.inr (by simp at hi;omega)))
  (fun i hi=>by
   rcases List.mem_append.1 hi with hi|hi
   ·have:=hp1 i hi;omega
   ·exact (hp2 i hi).2.2)
  (List.nodup_append.2 ⟨d4,Qw r',fun x hx y hy e=>by
   subst e
   have h1:=hp1 x hx
   rcases (hp2 x hy).1 with g|g
   ·have:=hl2 x g;omega
   ·omega⟩)
  eC2 (decide_eq_true hso)
 exact this
end Go.Proofs.YtmddnnecgnpccaaGreat.V
set_option linter.all false
namespace Go.Proofs.YtmddnnecgnpccaaGreat.V
open Go Go.VM Go.Proofs
set_option maxRecDepth 10000
def itN (g:Int→Int):Nat→Int→Int
 | 0,a=>a
 | n+1,a=>g (itN g n a)
theorem Xc (g:Int→Int):∀n a,itN g (n+1) a=itN g n (g a)
 | 0,a=>rfl
 | n+1,a=>by show g (itN g (n+1) a)=g (itN g n (g a));rw [Xc g n a]
theorem Mb (g:Int→Int) (m:Nat):∀n a,itN g (n+m) a=itN g n (itN g m a)
 | 0,a=>by rw [Nat.zero_add];rfl
 | n+1,a=>by rw [Nat.add_right_comm];show g (itN g (n+m) a)=g (itN g n (itN g m a));rw [Mb g m n a]
def nuT (w h:Int) (T:List Int) (to a:Int):Int:=next w h a (portOf w h T a to)
theorem Sb (w h:Int) (b T:List Int) (to:Int):∀F a out,walkN w h b T to F a out≠[]→∃L,itN (nuT w h T to) L a=to∧∀n,n<L→stepOk w h b T (itN (nuT w h T to) n a) to
 | 0,a,out,hne=>by
  unfold walkN at hne
  by_cases e:portOf w h T a to=4
  ·rw [if_pos e] at hne
   by_cases e2:a=to
   ·exact ⟨0,e2,fun n h=>by omega⟩
   ·rw [if_neg e2] at hne;exact absurd rfl hne
  ·rw [if_neg e] at hne;exact absurd rfl hne
 | F+1,a,out,hne=>by
  unfold walkN at hne
  by_cases e:portOf w h T a to=4
  ·rw [if_pos e] at hne
   by_cases e2:a=to
   ·exact ⟨0,e2,fun n h=>by omega⟩
   ·rw [if_neg e2] at hne;exact absurd rfl hne
  ·rw [if_neg e] at hne
   by_cases e2:stepOk w h b T a to
   ·rw [if_pos e2] at hne
    obtain ⟨L,h1,h2⟩:=Sb w h b T to F _ _ hne
    refine ⟨L+1,by rw [Xc];exact h1,fun n hn=>?_⟩
    cases n with
    | zero=>exact e2
    | succ n=>rw [Xc];exact h2 n (by omega)
   ·rw [if_neg e2] at hne;exact absurd rfl hne
structure Route (x:NetD) (s t c:Nat) (R:Nat→Nat) (L:Nat):Prop where
 r0:R 0=10*s+8+c
 rt:R L/10=t
 rs:∀n,n<L→∃p:Nat,p<4∧pO x (R n/10) c t=(p:Int)∧R (n+1)=tgt x (R n/10) p c∧hasP x (R n/10) p
 r4:pO x t c t=4
 ij:∀m n,m≤L→n≤L→R m/10=R n/10→m=n
 md:∀n,n≤L→R n%2=c
 lt:∀n,n≤L→R n<10*nC x
theorem Route.inj {x:NetD} {s t c:Nat} {R:Nat→Nat} {L:Nat} (r:Route x s t c R L):∀m n,m≤L→n≤L→R m=R n→m=n:=fun m n hm hn e=>r.ij m n hm hn (by rw [e])
def tabsOk (x:NetD):Prop:=∀c,c<2→tableOk x.1.1 x.1.2.1 x.1.2.2 (tabC x c)
theorem W7 {x:NetD} (h:classesOk x.1.1 x.1.2.1 x.1.2.2 x.2.1.1 x.2.1.2):tabsOk x:=fun c _=>by
 unfold tabC;split
 ·exact h.2
 ·exact h.1
theorem Ta {x:NetD} (h:tabsOk x) {t c:Nat} (ht:t<nC x) (hc:c<2):pO x t c t=4:=((h c hc).2 t ht t ht).1 rfl
theorem C7 {x:NetD} (h:tabsOk x) {a t c:Nat} (ha:a<nC x) (ht:t<nC x) (hc:c<2) (e:pO x a c t=4):a=t:=by
 by_cases g:a=t
 ·exact g
 ·have:=((h c hc).2 a ha t ht).2 g
  have e':portOf x.1.1 x.1.2.1 (tabC x c) a t=4:=e
  unfold walk at this
  exfalso
  apply this
  cases hk:(cnt x.1.1 x.1.2.1).toNat with
  | zero=>unfold walkN;rw [if_pos e',if_neg (by omega)]
  | succ n=>unfold walkN;rw [if_pos e',if_neg (by omega)]
theorem Yu {x:NetD} (h:tabsOk x) {s t c:Nat} (hs:s<nC x) (ht:t<nC x) (hc:c<2):∃R L,Route x s t c R L:=by
 have hn:=Xt x
 have h4:=Ta h ht hc
 have key:∃L,itN (nuT x.1.1 x.1.2.1 (tabC x c) t) L s=t∧∀n,n<L→stepOk x.1.1 x.1.2.1 x.1.2.2 (tabC x c) (itN (nuT x.1.1 x.1.2.1 (tabC x c) t) n s) t:=by
  by_cases e:s=t
  ·exact ⟨0,by show (s:Int)=t;rw [e],fun n hn=>by omega⟩
  ·exact Sb _ _ _ _ _ _ _ _ (((h c hc).2 s hs t ht).2 e)
 obtain ⟨L,h1,h2⟩:=key
 generalize hg:nuT x.1.1 x.1.2.1 (tabC x c) t=g at *
 have hN:∀n,n≤L→0≤itN g n s∧itN g n s<nC x:=fun n hn'=>by
  cases n with
  | zero=>show 0≤(s:Int)∧(s:Int)<nC x;omega
  | succ n=>
   obtain ⟨k1,k2⟩:=h2 n (by omega)
   obtain ⟨_,_,k3,k4⟩:=X9 k1 k2
   have e:itN g (n+1) s=next x.1.1 x.1.2.1 (itN g n s) (portOf x.1.1 x.1.2.1 (tabC x c) (itN g n s) t):=by
    show g (itN g n s)=_
    rw [← hg];rfl
   rw [e];exact ⟨k3,by omega⟩
 have hne:∀n,n<L→itN g n s≠t:=fun n hn' e=>by
  have k1:=(h2 n hn').1
  rw [e] at k1
  have h4':portOf x.1.1 x.1.2.1 (tabC x c) t t=4:=h4
  rw [h4'] at k1
  unfold inR at k1;omega
 have hinj:∀m n,m<n→n≤L→itN g m s≠itN g n s:=fun m n hm hn' e=>by
  have e1:itN g (L-n+m) s=itN g (L-n+n) s:=by rw [Mb g m,Mb g n,e]
  rw [show L-n+n=L by omega,h1] at e1
  exact hne (L-n+m) (by omega) e1
 -- the buffers
 have hR:∃R:Nat→Nat,R 0=10*s+8+c∧∀n,R (n+1)=(10*itN g (n+1) s+2*opp (portOf x.1.1 x.1.2.1 (tabC x c) (itN g n s) t)+c).toNat:=
  ⟨fun n=>match n with|0=>10*s+8+c|n+1=>(10*itN g (n+1) s+2*opp (portOf x.1.1 x.1.2.1 (tabC x c) (itN g n s) t)+c).toNat,rfl,fun n=>rfl⟩
 obtain ⟨R,R0,RS⟩:=hR
 have hopp:∀n,n<L→0≤opp (portOf x.1.1 x.1.2.1 (tabC x c) (itN g n s) t)∧opp (portOf x.1.1 x.1.2.1 (tabC x c) (itN g n s) t)<4:=fun n hn'=>by
  have k1:=(h2 n hn').1
  unfold inR at k1
  unfold opp
  rw [if_neg (by omega),if_pos (by omega)]
  omega
 have hdiv:∀n,n≤L→((R n/10:Nat):Int)=itN g n s∧R n%2=c∧R n<10*nC x:=fun n hn'=>by
  cases n with
  | zero=>
   rw [R0]
   have:itN g 0 s=(s:Int):=rfl
   rw [this];omega
  | succ n=>
   rw [RS]
   have k1:=hopp n (by omega)
   have k2:=hN (n+1) hn'
   generalize opp (portOf x.1.1 x.1.2.1 (tabC x c) (itN g n s) t)=Op at *
   generalize itN g (n+1) s=N at *
   omega
 refine ⟨R,L,R0,?_,fun n hn'=>?_,h4,fun m n hm hn' e=>?_,fun n hn'=>(hdiv n hn').2.1,fun n hn'=>(hdiv n hn').2.2⟩
 ·have:=(hdiv L (by omega)).1
  rw [h1] at this;omega
 ·obtain ⟨k1,k2⟩:=h2 n hn'
  have e:=(hdiv n (by omega)).1
  unfold inR at k1
  refine ⟨(portOf x.1.1 x.1.2.1 (tabC x c) (itN g n s) t).toNat,by omega,?_,?_⟩
  ·unfold pO;rw [e];omega
  ·rw [RS]
   unfold tgt
   have e2:(((portOf x.1.1 x.1.2.1 (tabC x c) (itN g n s) t).toNat:Nat):Int)=portOf x.1.1 x.1.2.1 (tabC x c) (itN g n s) t:=by omega
   rw [e,e2]
   have e3:itN g (n+1) s=next x.1.1 x.1.2.1 (itN g n s) (portOf x.1.1 x.1.2.1 (tabC x c) (itN g n s) t):=by
    show g (itN g n s)=_
    rw [← hg];rfl
   refine ⟨by rw [e3],?_⟩
   unfold hasP;rw [e,e2];exact k2
 ·have a1:=(hdiv m hm).1
  have a2:=(hdiv n hn').1
  rw [e,a2] at a1
  rcases Nat.lt_trichotomy m n with k|k|k
  ·exact absurd a1.symm (hinj m n k hn')
  ·exact k
  ·exact absurd a1 (hinj n m k hm)
def cat (g:Nat→List FlitD):Nat→List FlitD
 | 0=>g 0
 | n+1=>g (n+1)++cat g n
theorem Y2 {g g':Nat→List FlitD}:∀L,(∀n,n≤L→g' n=g n)→cat g' L=cat g L
 | 0,h=>h 0 (by omega)
 | L+1,h=>by unfold cat;rw [h (L+1) (by omega),Y2 L (fun n hn=>h n (by omega))]
theorem I8 {g g':Nat→List FlitD} {y:FlitD}:∀n,g n=y::g' n→(∀m,m<n→g' m=g m)→cat g n=y::cat g' n
 | 0,h,_=>h
 | n+1,h,k=>by unfold cat;rw [h,Y2 n (fun m hm=>k m (by omega))];rfl
theorem Gd {g g':Nat→List FlitD} {y:FlitD} (h:g' 0=g 0++[y]):∀L,(∀m,0<m→m≤L→g' m=g m)→cat g' L=cat g L++[y]
 | 0,_=>h
 | L+1,k=>by unfold cat;rw [k (L+1) (by omega) (by omega),Gd h L (fun m hm hl=>k m hm (by omega)),List.append_assoc]
theorem Ko {g g':Nat→List FlitD} {y:FlitD} {n:Nat} (h1:g n=y::g' n) (h2:g' (n+1)=g (n+1)++[y]):∀L,n<L→(∀m,m≤L→m≠n→m≠n+1→g' m=g m)→cat g' L=cat g L
 | 0,h,_=>by omega
 | L+1,h,k=>by
  by_cases e:L=n
  ·subst e
   have:=I8 (g:=g) (g':=g') L h1 (fun m hm=>k m (by omega) (by omega) (by omega))
   unfold cat
   rw [h2,this,List.append_assoc];rfl
  ·unfold cat
   rw [k (L+1) (by omega) (by omega) (by omega),Ko h1 h2 L (by omega) (fun m hm=>k m (by omega))]
def inF (list:List PkD) (s t c:Nat) (y:FlitD):Bool:=decide (sentP list y.1 s t c)
def flowFl (x:NetD) (list:List PkD) (s t c:Nat):List FlitD:=(list.filter fun p=>isFlow s t c p).flatMap (flitsOf x.1.1 x.1.2.1)
def Gen (list:List PkD) (y:FlitD):Prop:=∃p∈list,p.1=y.1∧p.2.2.1=y.2.1∧p.2.2.2.1=y.2.2.1
def Uniq (list:List PkD):Prop:=∀p∈list,∀q∈list,p.1=q.1→p=q
theorem Jo {list:List PkD} (u:Uniq list) {y:FlitD} (g:Gen list y) {s t c:Nat} (h:inF list s t c y=true):y.2.1=(t:Int)∧y.2.2.1=(c:Int):=by
 obtain ⟨p,hp,e1,e2,e3⟩:=g
 have h:sentP list y.1 s t c:=by simpa [inF] using h
 obtain ⟨q,hq,f1,f2,f3,f4⟩:=h
 have:=u p hp q hq (e1.trans f1.symm)
 subst this
 exact ⟨e2.symm.trans f3,e3.symm.trans f4⟩
structure Flow (x:NetD) (list:List PkD) (B A S:SSD) (s t c:Nat) (R:Nat→Nat) (L:Nat):Prop where
 z1:(A.getD t []).filter (inF list s t c)++(cat (fun n=>(B.getD (R n) []).filter (inF list s t c)) L++(S.getD s []).filter (inF list s t c))=flowFl x list s t c
 z2:∀j y,y∈B.getD j []→inF list s t c y=true→∃n,n≤L∧j=R n
 z3:∀k y,y∈S.getD k []→inF list s t c y=true→k=s
theorem Iv {B:SSD} {j:Nat} {y:FlitD} {r:List FlitD} (hj:B.getD j []=y::r):j<B.length:=by
 by_cases h:j<B.length
 ·exact h
 ·simp [List.getD_eq_getElem?_getD,List.getElem?_eq_none (Nat.le_of_not_lt h)] at hj
theorem R6 {B:SSD} {j:Nat} {y:FlitD} {r:List FlitD} {P:FlitD→Bool} (hj:B.getD j []=y::r) (hP:P y=false) (j':Nat):((upd B j (List.drop 1)).getD j' []).filter P=(B.getD j' []).filter P:=by
 by_cases e:j=j'
 ·subst e;rw [Wd _ (Iv hj),hj];simp [hP]
 ·rw [Qy _ e]
theorem V4 {P:FlitD→Bool} {y:FlitD} (hP:P y=false) (B:SSD) (j j':Nat):((upd B j (·++[y])).getD j' []).filter P=(B.getD j' []).filter P:=by
 by_cases e:j=j'
 ·subst e
  by_cases hl:j<B.length
  ·rw [Wd _ hl];simp [hP]
  ·unfold upd;rw [List.set_eq_of_length_le (Nat.le_of_not_lt hl)]
 ·rw [Qy _ e]
theorem W1 {B:SSD} {j j':Nat} {z:FlitD} (h:z∈(upd B j (List.drop 1)).getD j' []):z∈B.getD j' []:=by
 by_cases e:j=j'
 ·subst e
  by_cases hl:j<B.length
  ·rw [Wd _ hl] at h;exact List.mem_of_mem_drop h
  ·unfold upd at h;rwa [List.set_eq_of_length_le (Nat.le_of_not_lt hl)] at h
 ·rwa [Qy _ e] at h
theorem Wy {B:SSD} {j j':Nat} {y z:FlitD} (h:z∈(upd B j (·++[y])).getD j' []):z∈B.getD j' []∨(j'=j∧z=y):=by
 by_cases e:j=j'
 ·subst e
  by_cases hl:j<B.length
  ·rw [Wd _ hl] at h
   rcases List.mem_append.1 h with h|h
   ·exact .inl h
   ·exact .inr ⟨rfl,List.mem_singleton.1 h⟩
  ·unfold upd at h;rw [List.set_eq_of_length_le (Nat.le_of_not_lt hl)] at h;exact .inl h
 ·rw [Qy _ e] at h;exact .inl h
theorem Flow.move {x:NetD} {list:List PkD} {B A S:SSD} {O:List Int} {s t c:Nat} {R:Nat→Nat} {L:Nat} (z:Flow x list B A S s t c R L) (rt:Route x s t c R L) (hl:B.length=10*nC x) (hA:A.length=nC x)
 (u:Uniq list) (gB:∀j y,y∈B.getD j []→Gen list y) {a p i:Nat} {y:FlitD} {r:List FlitD} (k:Can x B O a p i y r) (hport:pO x a (i%2) y.2.1=(p:Int)) :
 Flow x list (mvB x B a p i y) (mvA A a p y) S s t c R L:=by
 obtain ⟨ha,hp,hi,hj,hd,bd,room⟩:=k
 by_cases hP:inF list s t c y=true
 ·obtain ⟨e1,e2⟩:=Jo u (gB _ y (by rw [hj];exact List.mem_cons_self ..)) hP
  obtain ⟨n,hn,en⟩:=z.z2 _ y (by rw [hj];exact List.mem_cons_self ..) hP
  have m1:=rt.md n hn
  have ea:R n/10=a:=by omega
  have ec:i%2=c:=by omega
  subst ec
  rw [e1] at hport
  have hlt:=rt.lt n hn
  rw [en] at hj
  rcases Nat.lt_or_ge n L with hL|hL
  ·obtain ⟨p',p1,p2,p3,_⟩:=rt.rs n hL
   rw [ea] at p2 p3
   have:p'=p:=by have:=p2.symm.trans hport;omega
   subst this
   have h4:¬p'=4:=by omega
   have hne:R n≠R (n+1):=fun e=>by have:=rt.inj n (n+1) hn (by omega) e;omega
   have hlt2:=rt.lt (n+1) (by omega)
   unfold mvB mvA
   rw [if_neg h4,if_neg h4,en,← p3]
   refine ⟨?_,fun j w hw hF=>?_,z.z3⟩
   ·rw [← z.z1]
    congr 2
    refine Ko (n:=n) (y:=y) ?_ ?_ L hL fun m hm m1 m2=>?_
    ·show (B.getD (R n) []).filter _=y::(((upd (upd B (R n) (List.drop 1)) (R (n+1)) (·++[y])).getD (R n) []).filter _)
     rw [Qy _ (fun e=>hne e.symm),Wd _ (by omega),hj,List.filter_cons_of_pos hP];rfl
    ·show (((upd (upd B (R n) (List.drop 1)) (R (n+1)) (·++[y])).getD (R (n+1)) []).filter _)=(B.getD (R (n+1)) []).filter _++[y]
     rw [Wd _ (by rw [Yj];omega),Qy _ hne,List.filter_append,List.filter_cons_of_pos hP];rfl
    ·show (((upd (upd B (R n) (List.drop 1)) (R (n+1)) (·++[y])).getD (R m) []).filter _)=(B.getD (R m) []).filter _
     rw [Qy _ (fun e=>m2 (rt.inj (n+1) m (by omega) hm e).symm),Qy _ (fun e=>m1 (rt.inj n m hn hm e).symm)]
   ·rcases Wy hw with hw|⟨rfl,rfl⟩
    ·exact z.z2 j w (W1 hw) hF
    ·exact ⟨n+1,by omega,rfl⟩
  ·have eL:n=L:=by omega
   subst eL
   have et:=rt.rt
   rw [ea] at et
   subst et
   have h4:p=4:=by have:=rt.r4;rw [this] at hport;omega
   subst h4
   unfold mvB mvA
   rw [if_pos rfl,if_pos rfl,en]
   refine ⟨?_,fun j w hw hF=>z.z2 j w (W1 hw) hF,z.z3⟩
   rw [← z.z1,Wd _ (by omega),List.filter_append,List.filter_cons_of_pos hP]
   have ct:=I8 (g:=fun m=>(B.getD (R m) []).filter (inF list s a (i%2))) (g':=fun m=>((upd B (R n) (List.drop 1)).getD (R m) []).filter (inF list s a (i%2))) (y:=y) n ?_ fun m hm=>?_
   ·rw [ct];simp
   ·show (B.getD (R n) []).filter _=y::(((upd B (R n) (List.drop 1)).getD (R n) []).filter _)
    rw [Wd _ (by omega),hj,List.filter_cons_of_pos hP];rfl
   ·show (((upd B (R n) (List.drop 1)).getD (R m) []).filter _)=(B.getD (R m) []).filter _
    rw [Qy _ (fun e=>by have:=rt.inj n m hn (by omega) e;omega)]
 ·have hP:inF list s t c y=false:=by simpa using hP
  have eB:∀j,((mvB x B a p i y).getD j []).filter (inF list s t c)=(B.getD j []).filter (inF list s t c):=fun j=>by
   unfold mvB;split
   ·exact R6 hj hP j
   ·rw [V4 hP,R6 hj hP]
  have eA:((mvA A a p y).getD t []).filter (inF list s t c)=(A.getD t []).filter (inF list s t c):=by
   unfold mvA;split
   ·exact V4 hP A a t
   ·rfl
  refine ⟨?_,fun j w hw hF=>?_,z.z3⟩
  ·rw [eA,← z.z1]
   congr 2
   exact Y2 L fun m _=>eB (R m)
  ·unfold mvB at hw
   split at hw
   ·exact z.z2 j w (W1 hw) hF
   ·rcases Wy hw with hw|⟨rfl,rfl⟩
    ·exact z.z2 j w (W1 hw) hF
    ·rw [hP] at hF;exact absurd hF (by simp)
theorem Flow.enter {x:NetD} {list:List PkD} {B A S:SSD} {s t c:Nat} {R:Nat→Nat} {L:Nat} (z:Flow x list B A S s t c R L) (rt:Route x s t c R L) (hl:B.length=10*nC x)
 (u:Uniq list) (gS:∀j y,y∈S.getD j []→Gen list y) {k c0:Nat} {y:FlitD} {r:List FlitD} (hk:k<nC x) (hc:c0<2) (ec:y.2.2.1=(c0:Int)) (hj:S.getD k []=y::r) :
 Flow x list (upd B (10*k+8+c0) (·++[y])) A (upd S k (List.drop 1)) s t c R L:=by
 by_cases hP:inF list s t c y=true
 ·obtain ⟨e1,e2⟩:=Jo u (gS _ y (by rw [hj];exact List.mem_cons_self ..)) hP
  have es:=z.z3 k y (by rw [hj];exact List.mem_cons_self ..) hP
  subst es
  have:c0=c:=by omega
  subst this
  have l0:=rt.lt 0 (by omega)
  rw [← rt.r0]
  refine ⟨?_,fun j w hw hF=>?_,fun j w hw hF=>z.z3 j w (W1 hw) hF⟩
  ·rw [← z.z1,Wd _ (Iv hj),hj,List.filter_cons_of_pos hP]
   rw [Gd (g:=fun m=>(B.getD (R m) []).filter (inF list k t c0)) (y:=y) ?_ L fun m hm hl'=>?_]
   ·simp
   ·show (((upd B (R 0) (·++[y])).getD (R 0) []).filter _)=(B.getD (R 0) []).filter _++[y]
    rw [Wd _ (by omega),List.filter_append,List.filter_cons_of_pos hP];rfl
   ·show (((upd B (R 0) (·++[y])).getD (R m) []).filter _)=(B.getD (R m) []).filter _
    rw [Qy _ (fun e=>by have:=rt.inj 0 m (by omega) hl' e;omega)]
  ·rcases Wy hw with hw|⟨rfl,rfl⟩
   ·exact z.z2 j w hw hF
   ·exact ⟨0,by omega,rfl⟩
 ·have hP:inF list s t c y=false:=by simpa using hP
  refine ⟨?_,fun j w hw hF=>?_,fun j w hw hF=>z.z3 j w (W1 hw) hF⟩
  ·rw [← z.z1,R6 hj hP]
   congr 2
   exact Y2 L fun m _=>V4 hP B _ (R m)
  ·rcases Wy hw with hw|⟨rfl,rfl⟩
   ·exact z.z2 j w hw hF
   ·rw [hP] at hF;exact absurd hF (by simp)
def Src (x:NetD) (j:Nat):Prop:=(∃a p c,a<nC x∧p<4∧c<2∧hasP x a p∧j=tgt x a p c)∨∃k c,k<nC x∧c<2∧j=10*k+8+c
structure Pos (x:NetD) (list:List PkD) (fr sr:Nat→Option Key):Prop where
 gf:∀j (k:Key),fr j=some k→∃p∈list,p.1=k.1∧p.2.2.1=k.2.1∧p.2.2.2.1=k.2.2
 gs:∀j (k:Key),sr j=some k→∃p∈list,p.1=k.1∧p.2.2.1=k.2.1∧p.2.2.2.1=k.2.2
 pf:∀(s t c:Nat) R L,s<nC x→t<nC x→c<2→Route x s t c R L→∀j (k:Key),fr j=some k→sentP list k.1 s t c→∃n,n≤L∧j=R n
 ps:∀(s t c:Nat),s<nC x→t<nC x→c<2→∀j (k:Key),sr j=some k→sentP list k.1 s t c→j=s
structure Good (x:NetD) (list:List PkD) (B:SSD) (O:List Int) (A S:SSD):Prop where
 lB:B.length=10*nC x
 lO:O.length=10*nC x
 lA:A.length=nC x
 lS:S.length=nC x
 cl:allP (fun j y=>y.2.2.1=(j:Int)%2) B
 gB:∀j y,y∈B.getD j []→Gen list y
 gS:∀j y,y∈S.getD j []→Gen list y
 gA:∀(t:Nat) y,y∈A.getD t []→Gen list y∧y.2.1=(t:Int)
 rc:∀j,B.getD j []≠[]→Src x j
 wf:∃st fr sr,Wf x B O A S st fr sr∧Pos x list fr sr
 fl:∀s t c R L,s<nC x→t<nC x→c<2→Route x s t c R L→Flow x list B A S s t c R L
structure Sent (x:NetD) (list:List PkD):Prop where
 u:Uniq list
 ok:∀p∈list,packetOk x.1.1 x.1.2.1 p
theorem Ma {x:NetD} {list:List PkD} (h:Sent x list) {y:FlitD} (g:Gen list y):∃t c:Nat,t<nC x∧c<2∧y.2.1=(t:Int)∧y.2.2.1=(c:Int):=by
 obtain ⟨p,hp,_,e2,e3⟩:=g
 obtain ⟨_,_,⟨k1,k2⟩,_,k3,_⟩:=h.ok p hp
 have:=Xt x
 unfold inR at k3
 exact ⟨p.2.2.1.toNat,p.2.2.2.1.toNat,by omega,by omega,by omega,by omega⟩
theorem Good.move {x:NetD} {list:List PkD} {B:SSD} {O:List Int} {A S:SSD} (g:Good x list B O A S) (h:Sent x list) (tk:tabsOk x) {a p i:Nat} {y:FlitD} {r:List FlitD} (k:Can x B O a p i y r) :
 Good x list (mvB x B a p i y) (mvO O a p i y) (mvA A a p y) S:=by
 obtain ⟨st,fr,sr,w,ps⟩:=g.wf
 have hj:=k.hj
 have hm:y∈B.getD (10*a+i) []:=by rw [hj];exact List.mem_cons_self ..
 have hs:∃u,Str (fr (10*a+i)) (y::r) u:=by
  rcases g.rc (10*a+i) (by rw [hj];simp) with ⟨a',p',c',h1,h2,h3,h4,e⟩|⟨k',c',h1,h2,e⟩
  ·have:=w.w4 a' p' c' h1 h2 h3 h4
   rw [← e,hj] at this;exact ⟨_,this⟩
  ·have:=w.w5 k' c' h1 h2
   rw [← e,hj] at this;exact ⟨_,this⟩
 obtain ⟨hport,w'⟩:=w.move g.lB g.lO g.lA g.cl k hs
 have pos':Pos x list (setF fr (10*a+i) (nx y)) sr:=by
  refine ⟨fun j q e=>?_,ps.gs,fun s t c R L h1 h2 h3 rt j q e hq=>?_,ps.ps⟩
  ·by_cases ej:j=10*a+i
   ·subst ej
    rw [W2] at e
    obtain ⟨_,rfl⟩:=Yl e
    exact g.gB _ y hm
   ·rw [Wp _ _ ej] at e;exact ps.gf j q e
  ·by_cases ej:j=10*a+i
   ·subst ej
    rw [W2] at e
    obtain ⟨_,rfl⟩:=Yl e
    exact (g.fl s t c R L h1 h2 h3 rt).z2 _ y hm (by unfold inF;rw [decide_eq_true_eq];exact hq)
   ·rw [Wp _ _ ej] at e;exact ps.pf s t c R L h1 h2 h3 rt j q e hq
 obtain ⟨t0,c0,ht,hc0,et,ec⟩:=Ma h (g.gB _ y hm)
 have ci:=g.cl _ y hm
 have ha:=k.ha
 have hi:=k.hi
 have hp:=k.hp
 have hA:p=4→y.2.1=(a:Int):=fun e=>by
  subst e
  rw [et] at hport
  have:=C7 tk ha ht (by omega) hport
  omega
 refine ⟨?_,?_,?_,g.lS,fun j z hz=>?_,fun j z hz=>?_,g.gS,fun t z hz=>?_,fun j hne=>?_,⟨_,_,sr,w',pos'⟩,fun s t c R L h1 h2 h3 rt=>(g.fl s t c R L h1 h2 h3 rt).move rt g.lB g.lA h.u g.gB k hport⟩
 ·unfold mvB;split<;>simp [g.lB]
 ·unfold mvO;simp [g.lO]
 ·unfold mvA;split<;>simp [g.lA]
 ·unfold mvB at hz
  split at hz
  ·exact g.cl j z (W1 hz)
  ·rename_i h4
   rcases Wy hz with hz|⟨rfl,rfl⟩
   ·exact g.cl j z (W1 hz)
   ·have:=(Zr (c:=i%2) (k.room.resolve_left h4) (by omega) (by omega)).2.1
    rw [ci];omega
 ·unfold mvB at hz
  split at hz
  ·exact g.gB j z (W1 hz)
  ·rcases Wy hz with hz|⟨rfl,rfl⟩
   ·exact g.gB j z (W1 hz)
   ·exact g.gB _ _ hm
 ·unfold mvA at hz
  split at hz
  ·rename_i h4
   rcases Wy hz with hz|⟨rfl,rfl⟩
   ·exact g.gA t z hz
   ·exact ⟨g.gB _ _ hm,hA h4⟩
  ·exact g.gA t z hz
 ·obtain ⟨z,hz⟩:=List.exists_mem_of_ne_nil _ hne
  unfold mvB at hz
  split at hz
  ·exact g.rc j (List.ne_nil_of_mem (W1 hz))
  ·rename_i h4
   rcases Wy hz with hz|⟨rfl,rfl⟩
   ·exact g.rc j (List.ne_nil_of_mem (W1 hz))
   ·exact .inl ⟨a,p,i%2,ha,by omega,by omega,k.room.resolve_left h4,rfl⟩
theorem Good.enter {x:NetD} {list:List PkD} {B:SSD} {O:List Int} {A S:SSD} (g:Good x list B O A S) (h:Sent x list) (tk:tabsOk x) {k c:Nat} {y:FlitD} {r:List FlitD} (hk:k<nC x) (hc:c<2) (ec:y.2.2.1=(c:Int)) (hj:S.getD k []=y::r) :
 Good x list (upd B (10*k+8+c) (·++[y])) O A (upd S k (List.drop 1)):=by
 obtain ⟨st,fr,sr,w,ps⟩:=g.wf
 have w':=w.enter g.lB g.lS hk hc ec hj
 have hm:y∈S.getD k []:=by rw [hj];exact List.mem_cons_self ..
 have tk:tabsOk x:=tk
 have pos':Pos x list fr (setF sr k (nx y)):=by
  refine ⟨ps.gf,fun j q e=>?_,ps.pf,fun s t c' h1 h2 h3 j q e hq=>?_⟩
  ·by_cases ej:j=k
   ·subst ej
    rw [W2] at e
    obtain ⟨_,rfl⟩:=Yl e
    exact g.gS _ y hm
   ·rw [Wp _ _ ej] at e;exact ps.gs j q e
  ·by_cases ej:j=k
   ·subst ej
    rw [W2] at e
    obtain ⟨_,rfl⟩:=Yl e
    obtain ⟨R,L,rt⟩:=Yu tk h1 h2 h3
    exact (g.fl s t c' R L h1 h2 h3 rt).z3 _ y hm (by unfold inF;rw [decide_eq_true_eq];exact hq)
   ·rw [Wp _ _ ej] at e;exact ps.ps s t c' h1 h2 h3 j q e hq
 refine ⟨by simp [g.lB],g.lO,g.lA,by simp [g.lS],fun j z hz=>?_,fun j z hz=>?_,fun j z hz=>g.gS j z (W1 hz),g.gA,fun j hne=>?_,⟨_,_,_,w',pos'⟩,fun s t c' R L h1 h2 h3 rt=>(g.fl s t c' R L h1 h2 h3 rt).enter rt g.lB h.u g.gS hk hc ec hj⟩
 ·rcases Wy hz with hz|⟨rfl,rfl⟩
  ·exact g.cl j z hz
  ·rw [ec];omega
 ·rcases Wy hz with hz|⟨rfl,rfl⟩
  ·exact g.gB j z hz
  ·exact g.gS _ _ hm
 ·obtain ⟨z,hz⟩:=List.exists_mem_of_ne_nil _ hne
  rcases Wy hz with hz|⟨rfl,rfl⟩
  ·exact g.rc j (List.ne_nil_of_mem hz)
  ·exact .inr ⟨k,c,hk,hc,rfl⟩
def stat (x:NetD):NetD:=(x.1,x.2.1,[],[],[],[],[],0)
theorem Xm {l:List FlitD} (h:l≠[]):l=headL l::l.drop 1:=by
 cases l with
 | nil=>exact absurd rfl h
 | cons a l=>rfl
def Fits (x:NetD) (B:SSD) (O:List Int) (g:GrD):Prop:=B.getD (frm g) []≠[]∧headL (B.getD (frm g) [])=headOf x (frm g)∧O.getD (outAt g.1 g.2.1 (g.2.2%2)) 0=x.2.2.2.1.getD (outAt g.1 g.2.1 (g.2.2%2)) 0
theorem Jk {x:NetD} {B:SSD} {O:List Int} {g:GrD} (hg:g.1<nC x∧g.2.1<5∧g.2.2<10∧reqN x g.1 g.2.2 g.2.1) (f:Fits x B O g):Can (stat x) B O g.1 g.2.1 g.2.2 (headOf x (frm g)) ((B.getD (frm g) []).drop 1):=by
 obtain ⟨h1,h2,h3,r1,r2,r3⟩:=hg
 obtain ⟨f1,f2,f3⟩:=f
 have hB:=Xm f1
 rw [f2] at hB
 rw [r3] at f3
 have hne:x.2.2.1.getD (10*g.1+g.2.2) []≠[]:=fun e=>by
  unfold wantedN at r1;rw [if_pos e] at r1;omega
 refine ⟨h1,h2,h3,hB,fun e=>?_,fun e=>?_,?_⟩
 ·have e':(headOf x (10*g.1+g.2.2)).2.2.2.1=true:=e
  unfold wantedN at r1
  rw [if_neg hne,if_pos e'] at r1
  rw [if_pos e'] at f3
  exact ⟨r1,f3⟩
 ·have e':(headOf x (10*g.1+g.2.2)).2.2.2.1=false:=e
  rw [if_neg (by simp [e'])] at f3
  exact f3
 ·rcases r2 with e|⟨e,_⟩
  ·exact .inl e
  ·exact .inr e
theorem Nj (x:NetD) (B:SSD) (g:GrD):bothS x B g=mvB (stat x) B g.1 g.2.1 g.2.2 (headOf x (frm g)):=by
 unfold bothS pushS mvB popS
 split<;>rfl
theorem Db (x:NetD) (A:SSD) (g:GrD):arrS x A g=mvA A g.1 g.2.1 (headOf x (frm g)):=rfl
theorem Ci (x:NetD) (O:List Int) (g:GrD):ownS x O g=mvO O g.1 g.2.1 g.2.2 (headOf x (frm g)):=rfl
theorem Tv {B:SSD} {j k:Nat} {y:FlitD} (h:B.getD j []≠[]):(upd B k (·++[y])).getD j []≠[]∧headL ((upd B k (·++[y])).getD j [])=headL (B.getD j []):=by
 by_cases e:k=j
 ·subst e
  by_cases hl:k<B.length
  ·rw [Wd _ hl]
   cases hh:B.getD k [] with
   | nil=>exact absurd hh h
   | cons a l=>exact ⟨by simp,rfl⟩
  ·unfold upd;rw [List.set_eq_of_length_le (Nat.le_of_not_lt hl)];exact ⟨h,rfl⟩
 ·rw [Qy _ e];exact ⟨h,rfl⟩
theorem Good.grants {x:NetD} {list:List PkD} (h:Sent (stat x) list) (tk:tabsOk (stat x)):∀(l:List GrD) {B:SSD} {O:List Int} {A S:SSD},Good (stat x) list B O A S→(l.map frm).Nodup→(l.map key).Nodup→(∀g∈l,(g.1<nC x∧g.2.1<5∧g.2.2<10∧reqN x g.1 g.2.2 g.2.1)∧Fits x B O g)→
 Good (stat x) list (l.foldl (bothS x) B) (l.foldl (ownS x) O) (l.foldl (arrS x) A) S
 | [],B,O,A,S,g,_,_,_=>g
 | a::l,B,O,A,S,g,n1,n2,hf=>by
  obtain ⟨p1,p2⟩:=List.nodup_cons.1 n1
  obtain ⟨q1,q2⟩:=List.nodup_cons.1 n2
  obtain ⟨ha,fa⟩:=hf a (List.mem_cons_self ..)
  have g':=g.move h tk (Jk ha fa)
  rw [← Nj,← Ci,← Db] at g'
  simp only [List.foldl_cons]
  refine Good.grants h tk l g' p2 q2 fun b hb=>?_
  obtain ⟨hb1,f1,f2,f3⟩:=hf b (List.mem_cons_of_mem _ hb)
  have e1:frm a≠frm b:=fun e=>p1 (e▸List.mem_map_of_mem hb)
  have e2:key a≠key b:=fun e=>q1 (e▸List.mem_map_of_mem hb)
  refine ⟨hb1,?_⟩
  have k1:(popS B a).getD (frm b) []=B.getD (frm b) []:=Qy _ e1
  have k2:(ownS x O a).getD (outAt b.1 b.2.1 (b.2.2%2)) 0=O.getD (outAt b.1 b.2.1 (b.2.2%2)) 0:=by
   have hne:outAt a.1 a.2.1 (a.2.2%2)≠outAt b.1 b.2.1 (b.2.2%2):=fun e=>by
    obtain ⟨c1,c2,_⟩:=Vg ha.2.1 hb1.2.1 (by omega) (by omega) e
    exact e2 (by unfold key;rw [c1,c2])
   unfold ownS
   simp only [List.getD_eq_getElem?_getD]
   rw [List.getElem?_set_ne hne]
  have k3:(bothS x B a).getD (frm b) []≠[]∧headL ((bothS x B a).getD (frm b) [])=headL (B.getD (frm b) []):=by
   unfold bothS pushS
   split
   ·rw [k1];exact ⟨f1,rfl⟩
   ·have:=Tv (B:=popS B a) (j:=frm b) (k:=tgt x a.1 a.2.1 (a.2.2%2)) (y:=headOf x (frm a)) (by rw [k1];exact f1)
    rw [k1] at this;exact this
  exact ⟨k3.1,k3.2.trans f2,k2.trans f3⟩
theorem Good.enters {x:NetD} {list:List PkD} (h:Sent (stat x) list) (tk:tabsOk (stat x)):∀(l:List Nat) {B:SSD} {O:List Int} {A S:SSD},Good (stat x) list B O A S→l.Nodup→(∀k∈l,k<nC x∧S.getD k []≠[]∧headL (S.getD k [])=srcHead x k)→
 Good (stat x) list (l.foldl (entS x) B) O A (l.foldl srcS S)
 | [],B,O,A,S,g,_,_=>g
 | k::l,B,O,A,S,g,n,hf=>by
  obtain ⟨p1,p2⟩:=List.nodup_cons.1 n
  obtain ⟨hk,f1,f2⟩:=hf k (List.mem_cons_self ..)
  have hS:=Xm f1
  rw [f2] at hS
  obtain ⟨t,c,_,hc,_,ec⟩:=Ma h (g.gS k (srcHead x k) (by rw [hS];exact List.mem_cons_self ..))
  have g':=g.enter h tk (k:=k) (c:=c) hk hc ec hS
  have e1:entAt x k=10*k+8+c:=by unfold entAt;rw [ec];omega
  have e2:entS x B k=upd B (10*k+8+c) (·++[srcHead x k]):=by unfold entS;rw [e1]
  have e3:srcS S k=upd S k (List.drop 1):=rfl
  rw [← e2,← e3] at g'
  simp only [List.foldl_cons]
  refine Good.enters h tk l g' p2 fun j hj=>?_
  obtain ⟨c1,c2,c3⟩:=hf j (List.mem_cons_of_mem _ hj)
  have hne:k≠j:=fun e=>p1 (e▸hj)
  refine ⟨c1,?_⟩
  have:(srcS S k).getD j []=S.getD j []:=Qy _ hne
  rw [this];exact ⟨c2,c3⟩
def GoodN (x:NetD) (list:List PkD):Prop:=Good (stat x) list x.2.2.1 x.2.2.2.1 x.2.2.2.2.2.2.1 x.2.2.2.2.2.1
theorem Es {x:NetD} {list:List PkD} (hc:classesOk x.1.1 x.1.2.1 x.1.2.2 x.2.1.1 x.2.1.2) (h:Sent (stat x) list) (g:GoodN x list):GoodN (stepN x) list:=by
 have tk:tabsOk (stat x):=W7 (x:=stat x) hc
 have hg:∀a∈allN x,a.1<nC x∧a.2.1<5∧a.2.2<10∧reqN x a.1 a.2.2 a.2.1:=fun a ha=>by
  obtain ⟨h1,h2⟩:=W4 ha
  have:=Xt x
  exact ⟨by omega,h2⟩
 have k1:Good (stat x) list ((allN x).foldl (bothS x) x.2.2.1) ((allN x).foldl (ownS x) x.2.2.2.1) ((allN x).foldl (arrS x) x.2.2.2.2.2.2.1) x.2.2.2.2.2.1:=
  Good.grants h tk (allN x) g (Xz x) (Yf x _) fun a ha=>⟨hg a ha,Yn (hg a ha).2.2.2,rfl,rfl⟩
 rw [Sq x (allN x) x.2.2.1 (Xz x) fun a ha=>Yn (hg a ha).2.2.2] at k1
 exact Good.enters h tk (enterN x) k1 (Y6 x) fun k hk=>by
  obtain ⟨h1,h2⟩:=Wu hk
  have:=Xt x
  exact ⟨by omega,h2.1,rfl⟩
theorem Zw {x:NetD} {list:List PkD} (hc:classesOk x.1.1 x.1.2.1 x.1.2.2 x.2.1.1 x.2.1.2) (h:Sent (stat x) list) (g:GoodN x list):∀k,(stat (runN x k)=stat x)∧GoodN (runN x k) list
 | 0=>⟨rfl,g⟩
 | k+1=>by
  obtain ⟨e,ih⟩:=Zw hc h g k
  have e1':(stat (runN x k)).1=(stat x).1:=by rw [e]
  have e2':(stat (runN x k)).2.1=(stat x).2.1:=by rw [e]
  have e1:(runN x k).1=x.1:=e1'
  have e2:(runN x k).2.1=x.2.1:=e2'
  refine ⟨e,Es (x:=runN x k) (by rw [e1,e2];exact hc) (by rw [e];exact h) ih⟩
end Go.Proofs.YtmddnnecgnpccaaGreat.V
set_option linter.all false
namespace Go.Proofs.YtmddnnecgnpccaaGreat.V
open Go Go.VM Go.Proofs
set_option maxRecDepth 10000
variable {frz:Nat} {H:Heap}
def fresh (x:NetD) (m:MeshD) (t:ClassesD):NetD:=(m,t,x.2.2.1,List.replicate x.2.2.2.1.length (-1),List.replicate x.2.2.2.2.1.length 0,x.2.2.2.2.2.1,x.2.2.2.2.2.2.1,x.2.2.2.2.2.2.2)
theorem Jb (p:Int):vcall C frz 86 [.int .i64 p] H=some (.int .i64 (opp p),H):=by
 rw [Qb (fn:=Tryz.f86) Tryz.func86 rfl (by kernel_rfl) rfl]
 simp
 refine Qr _ ?_ ?_<;>intro h1<;>simp [h1,opp,Qv]
 refine Qr _ ?_ ?_<;>intro h2
 ·obtain ⟨h3,h4⟩:=h2
  simp [h3,h4]
  rw [w64 (by omega) (by omega),Int.tmod_eq_emod_of_nonneg (by omega)]
 ·have h3:¬(0≤p∧p≤3):=h2
  simp [h3]
theorem T9 (p:Int):vcall C frz 122 [.int .i64 p] H=some (.int .i64 (opp p),H):=by
 rw [Qb (fn:=Tryz.f122) Tryz.func122 rfl (by kernel_rfl) rfl]
 simp
 refine Qr _ ?_ ?_<;>intro h1<;>simp [h1,opp,Q4]
 refine Qr _ ?_ ?_<;>intro h2
 ·obtain ⟨h3,h4⟩:=h2
  simp [h3,h4]
  rw [w64 (by omega) (by omega),Int.tmod_eq_emod_of_nonneg (by omega)]
 ·have h3:¬(0≤p∧p≤3):=h2
  simp [h3]
end Go.Proofs.YtmddnnecgnpccaaGreat.V
set_option linter.all false
namespace Go.Proofs.YtmddnnecgnpccaaGreat.V
open Go Go.VM Go.Proofs
set_option maxRecDepth 10000
variable {frz:Nat} {H H':Heap} {vb:Value} {code:List Int} {r:Nat}
theorem iand255 (a:Int):0≤iand .i64 a 255∧iand .i64 a 255<256:=by
 unfold iand
 have h1:(BitVec.ofInt IntKind.i64.bits a&&& BitVec.ofInt IntKind.i64.bits 255).toNat≤255:=by
  rw [BitVec.toNat_and]
  exact Nat.le_trans Nat.and_le_right (by decide)
 rw [w64 (by omega) (by omega)]
 omega
def Cur (H:Heap) (r:Nat) (vb:Value) (code:List Int):Prop:=
 ∃(i:Nat) (h:Int),i≤code.length∧H[r]? = some ⟨[vb,.int .i64 i,.int .i64 h],0,65⟩∧Rd Fl.u8 H vb code∧r∉ids vb∧code.length≤1073741824
theorem Cur.lt (h:Cur H r vb code):r<H.length:=by obtain ⟨_,_,_,h2,_⟩:=h;exact Q0 h2
theorem Cur.chg {is:List Nat} (h:Cur H r vb code) (c:Chg H H' is) (k:r∉is) (k':∀i∈ids vb,i∉is):Cur H' r vb code:=by
 obtain ⟨i,x,h1,h2,h3,h4,h5⟩:=h
 exact ⟨i,x,h1,Qa h2 c k,h3.chg c k',h4,h5⟩
theorem Lw (vb:Value) (code:List Int) (hb:Rd Fl.u8 H vb code) (hl:code.length≤1073741824) :
 wp (vcall C frz 13 [vb] H) (fun u H'=>∃r,u=.pointer (some ⟨r,0,some 0⟩)∧H.length≤r∧Cur H' r vb code∧Chg H H' []):=by
 rw [Qb (fn:=Tryz.f13) Tryz.func13 rfl (by kernel_rfl) rfl]
 simp [hb.len]
 refine Cy (F:=?F) (k:=?k) (o:=?o) (Q:=?Q) (fun t H'=>H'=H∧t 0=vb∧∃h,t 3=.int .i64 h) ?main ?rest
 case main=>
  intro rest
  refine Qm (fun n t H'=>∃i:Nat,n=code.length-i∧i≤code.length∧t 0=vb∧t 4=.int .i64 i∧(∃h,t 3=.int .i64 h)∧H=H') ?_ (n:=code.length)
   ⟨0,rfl,by omega,by simp,by simp,⟨_,by simp;rfl⟩,rfl⟩
  rintro n t _ ⟨i,rfl,hi,t0,t4,⟨h,t3⟩,rfl⟩ ih
  simp [t0,t3,t4,hb.len]
  refine Nu ?_ ?_<;>intro g1
  ·simp [t0,t3,t4,g1]
   refine Qf ?_ ?_<;>intro g2
   ·have q1:=hb.idx (P:=Tryz.prog) (ty:=22) (e:=5) (by simp) (i:=(i:Int)) (by omega) (by omega)
    have r1:=hb.cell1 (P:=Tryz.prog) (e:=5) rfl (by simp) g1
    simp at q1 r1
    simp [t0,t3,t4,q1,r1]
    refine ih (code.length-(i+1)) _ _ ⟨i+1,rfl,by omega,by simp [t0],?_,⟨_,by simp;rfl⟩,rfl⟩ (by omega)
    simp;rw [w64 (by omega) (by omega)]
   ·simp [t0,t3,t4,-Tt]
    refine rest _ _ ?_
    exact ⟨rfl,by simp [t0],h,by simp [t3]⟩
  ·simp [t0,t3,t4,g1,-Tt]
   refine rest _ _ ?_
   exact ⟨rfl,by simp [t0],h,by simp [t3]⟩
 case rest=>
  rintro t H' ⟨hH,t0,h,t3⟩
  rw [hH]
  simp [t0,t3,hb.one',hb.cells]
  exact ⟨⟨0,h,by omega,by simp,hb.app,fun hh=>by have:=hb.lt _ hh;omega,hl⟩,Chg.app _⟩
theorem Yw (c:Cur H r vb code) (hf:frz≤r):wp (vcall C frz 28 [.pointer (some ⟨r,0,some 0⟩)] H) (fun u H'=>(∃x:Nat,u=.int .i64 x∧x<256)∧Chg H H' [r]∧Cur H' r vb code):=by
 obtain ⟨i,h,hi,hr,hb,hn,hl⟩:=c
 have lt:=Q0 hr
 rw [Qb (fn:=Tryz.f28) Tryz.func28 rfl (by kernel_rfl) rfl]
 simp [vnil,VM.look,hr,hf]
 generalize IntKind.i64.wrap (IntKind.i64.wrap (h*6364136223846793005)+1442695040888963407)=h1
 have hr1:=Qi (r':=⟨[vb,.int .i64 i,.int .i64 h1],0,65⟩) hr
 have c1:Chg H (H.set r ⟨[vb,.int .i64 i,.int .i64 h1],0,65⟩) [r]:=Ql _ _
 generalize H.set r ⟨[vb,.int .i64 i,.int .i64 h1],0,65⟩=H1 at *
 have hb1:=hb.chg c1 (fun j hj hh=>by have:=List.mem_singleton.1 hh;subst this;exact hn hj)
 rw [Qp (h:=by kernel_rfl)]
 simp [vnil,VM.look,hr1]
 obtain ⟨x,hx⟩:∃x:Nat,iand .i64 (ixor .i64 (ishr .i64 h1 33) (ishr .i64 h1 45)) 255=x:=⟨_,(Int.toNat_of_nonneg (iand255 _).1).symm⟩
 have hx2:=(iand255 (ixor .i64 (ishr .i64 h1 33) (ishr .i64 h1 45))).2
 rw [hx] at hx2
 simp [hx]
 rw [Qp (h:=by kernel_rfl)]
 simp [vnil,VM.look,hr1,hb1.len]
 refine Qf ?_ ?_<;>intro g1
 ·have q1:=hb1.idx (P:=Tryz.prog) (ty:=22) (e:=5) (by simp) (i:=(i:Int)) (by omega) (by omega)
  have r1:=hb1.cell1 (P:=Tryz.prog) (e:=5) rfl (by simp) g1
  simp at q1 r1
  simp
  rw [Qp (h:=by kernel_rfl)]
  have e1:IntKind.i64.wrap ((i:Int)+1)=((i+1:Nat):Int):=by rw [w64 (by omega) (by omega)];omega
  simp only [vnil,VM.look,hr1,q1,r1]
  simp [vnil,VM.look,hr1,q1,r1,hf]
  generalize hz:IntKind.i64.wrap ((x:Int)+IntKind.i64.wrap code[i])=z
  obtain ⟨y,hy⟩:∃y:Nat,iand .i64 z 255=y:=⟨_,(Int.toNat_of_nonneg (iand255 _).1).symm⟩
  have hy2:=(iand255 z).2
  rw [hy] at hy2
  rw [hy,e1]
  have hr2:=Qi (r':=⟨[vb,.int .i64 (i+1:Nat),.int .i64 h1],0,65⟩) hr1
  have c2:Chg H1 (H1.set r ⟨[vb,.int .i64 (i+1:Nat),.int .i64 h1],0,65⟩) [r]:=Ql _ _
  exact ⟨⟨y,rfl,by omega⟩,c1.trans c2,i+1,h1,by omega,hr2,hb1.chg c2 (fun j hj hh=>by have:=List.mem_singleton.1 hh;subst this;exact hn hj),hn,hl⟩
 ·simp
  exact ⟨⟨x,rfl,by omega⟩,c1,i,h1,hi,hr1,hb1,hn,hl⟩
theorem Ph {x n:Nat} (hn:0<n):(x:Int).tmod (n:Int)=((x%n:Nat):Int):=by rw [Int.tmod_eq_emod_of_nonneg (by omega)];rfl
theorem Wq (c:Cur H r vb code) (hf:frz≤r) (n:Nat) (hn:0<n) (hn2:n<2147483648):wp (vcall C frz 14 [.pointer (some ⟨r,0,some 0⟩),.int .i64 n] H) (fun u H'=>(∃x:Nat,u=.int .i64 x∧x<n)∧Chg H H' [r]∧Cur H' r vb code):=by
 have hn0:¬(n:Int)≤0:=by omega
 have hn1:¬n=0:=by omega
 rw [Qb (fn:=Tryz.f14) Tryz.func14 rfl (by kernel_rfl) rfl]
 simp [hn0,hn1]
 refine Qf ?_ ?_<;>intro g1
 ·simp
  refine Qd (Yw c hf) ?_
  rintro _ H1 ⟨⟨x,rfl,hx⟩,c1,d1⟩
  have hm:x%n<n:=Nat.mod_lt _ hn
  have e1:IntKind.i64.wrap ((x%n:Nat):Int)=((x%n:Nat):Int):=w64 (by omega) (by omega)
  simp [hn1,Ph hn,e1]
  exact ⟨⟨x%n,by simp,hm⟩,c1,d1⟩
 ·simp
  refine Qd (Yw c hf) ?_
  rintro _ H1 ⟨⟨x,rfl,hx⟩,c1,d1⟩
  simp
  refine Qd (Yw d1 hf) ?_
  rintro _ H2 ⟨⟨y,rfl,hy⟩,c2,d2⟩
  simp
  refine Qd (Yw d2 hf) ?_
  rintro _ H3 ⟨⟨z,rfl,hz⟩,c3,d3⟩
  simp
  refine Qd (Yw d3 hf) ?_
  rintro _ H4 ⟨⟨w,rfl,hw⟩,c4,d4⟩
  obtain ⟨q,hq⟩:∃q:Nat,q=x*16777216+y*65536+z*256+w:=⟨_,rfl⟩
  have e1:IntKind.i64.wrap (IntKind.i64.wrap (IntKind.i64.wrap (IntKind.i64.wrap ((x:Int)*16777216)+IntKind.i64.wrap ((y:Int)*65536))+IntKind.i64.wrap ((z:Int)*256))+(w:Int))=(q:Int):=by
   rw [w64 (x:=(x:Int)*16777216) (by omega) (by omega),w64 (x:=(y:Int)*65536) (by omega) (by omega),w64 (x:=(z:Int)*256) (by omega) (by omega),w64 (x:=(x:Int)*16777216+(y:Int)*65536) (by omega) (by omega),w64 (x:=(x:Int)*16777216+(y:Int)*65536+(z:Int)*256) (by omega) (by omega),w64 (by omega) (by omega)]
   omega
  have hm:q%n<n:=Nat.mod_lt _ hn
  have e2:IntKind.i64.wrap ((q%n:Nat):Int)=((q%n:Nat):Int):=w64 (by omega) (by omega)
  simp [hn1,e1,Ph hn,e2]
  exact ⟨⟨q%n,by simp,hm⟩,c1.trans (c2.trans (c3.trans c4)),d4⟩
theorem Ed (c:Cur H r vb code) (hf:frz≤r) (n:Nat) (hn:0<n) (hn2:n<2147483648):wp (vcall C frz 26 [.pointer (some ⟨r,0,some 0⟩),.int .i64 n] H) (fun u H'=>(∃b:Bool,u=.bool b)∧Chg H H' [r]∧Cur H' r vb code):=by
 rw [Qb (fn:=Tryz.f26) Tryz.func26 rfl (by kernel_rfl) rfl]
 simp
 refine Qd (Wq c hf n hn hn2) ?_
 rintro _ H1 ⟨⟨x,rfl,hx⟩,c1,d1⟩
 simp
 exact ⟨by omega,c1,d1⟩
theorem Vm (c:Cur H r vb code) (hf:frz≤r) (v:Value) (xs:List Int) (hI:IsI H v xs) (hv:r∉ids v) (h0:0<xs.length) (hl:xs.length<2147483648) :
 wp (vcall C frz 69 [.pointer (some ⟨r,0,some 0⟩),v] H) (fun u H'=>(∃x,u=.int .i64 x∧x∈xs)∧Chg H H' [r]∧Cur H' r vb code):=by
 rw [Qb (fn:=Tryz.f69) Tryz.func69 rfl (by kernel_rfl) rfl]
 simp [hI.len]
 refine Qd (Wq c hf xs.length h0 hl) ?_
 rintro _ H1 ⟨⟨x,rfl,hx⟩,c1,d1⟩
 have hI1:=(hI.rd.chg c1 (fun i hi hh=>by have:=List.mem_singleton.1 hh;subst this;exact hv hi)).isI
 have q1:=hI1.idx (P:=Tryz.prog) (ty:=26) (e:=3) (by simp) (i:=(x:Int)) (by omega) (by omega)
 have r1:=(hI1.load (P:=Tryz.prog) (e:=3) (by simp) hx).trans (by rw [Q6 _ _ hx])
 simp only [Int.toNat_natCast] at q1
 simp [q1,r1]
 exact ⟨c1,d1⟩
theorem En (c:Cur H r vb code) (hf:frz≤r):wp (vcall C frz 47 [.pointer (some ⟨r,0,some 0⟩)] H) (fun u H'=>(∃w h,u=.agg #[.int .i64 w,.int .i64 h]∧okG w h)∧Chg H H' [r]∧Cur H' r vb code):=by
 have lt:=c.lt
 have nb:∀(L:Heap),Cur (H++L) r vb code:=fun L=>by
  obtain ⟨i,x,h1,h2,h3,h4,h5⟩:=c
  exact ⟨i,x,h1,Qo h2 L,h3.app,h4,h5⟩
 rw [Qb (fn:=Tryz.f47) Tryz.func47 rfl (by kernel_rfl) rfl]
 simp
 have i1:=IsI.at (H:=H) (L:=[⟨[.int .i64 0,.int .i64 0],0,25⟩,⟨[.int .i64 1,.int .i64 2,.int .i64 2,.int .i64 3,.int .i64 3,.int .i64 4],0,3⟩]) (k:=1) (xs:=[1,2,2,3,3,4]) rfl
 refine Qd (Vm (nb _) hf _ [1,2,2,3,3,4] i1 (by simp;omega) (by simp) (by simp)) ?_
 rintro _ H1 ⟨⟨w,rfl,hw⟩,c1,d1⟩
 have cH:Chg H H1 [r]:=(Chg.app [r]).trans c1
 have l0:=cH.1
 have b0:H1[H.length]? = some ⟨[.int .i64 0,.int .i64 0],0,25⟩:=Qa (by simp) c1 (by simp;omega)
 have lt1:=d1.lt
 have nb1:∀(L:Heap),Cur (H1++L) r vb code:=fun L=>by
  obtain ⟨i,x,h1,h2,h3,h4,h5⟩:=d1
  exact ⟨i,x,h1,Qo h2 L,h3.app,h4,h5⟩
 simp
 have i2:=IsI.at0 (H:=H1) (L:=[⟨[.int .i64 1,.int .i64 2,.int .i64 2,.int .i64 3,.int .i64 3,.int .i64 4],0,3⟩]) (xs:=[1,2,2,3,3,4]) rfl
 refine Qd (Vm (nb1 _) hf _ [1,2,2,3,3,4] i2 (by simp;omega) (by simp) (by simp)) ?_
 rintro _ H2 ⟨⟨h,rfl,hh⟩,c2,d2⟩
 have b2:H2[H.length]? = some ⟨[.int .i64 0,.int .i64 0],0,25⟩:=Qa (Qo b0 _) c2 (by simp;omega)
 have g2:=Qi (r':=⟨[.int .i64 w,.int .i64 h],0,25⟩) b2
 have hF:frz≤H.length:=by omega
 simp [VM.look,b2,g2,hF]
 have hwr:1≤w∧w≤4:=by simp at hw;omega
 have hhr:1≤h∧h≤4:=by simp at hh;omega
 have c3:Chg H2 (H2.set H.length ⟨[.int .i64 w,.int .i64 h],0,25⟩) [H.length]:=Ql _ _
 refine ⟨⟨w,h,⟨rfl,rfl⟩,hwr,hhr⟩,(cH.trans ((Chg.app [r]).trans c2)).trans' c3 (fun i hi=>.inr (by simp at hi;omega)),?_⟩
 obtain ⟨i,x,h1,h2,h3,h4,h5⟩:=d2
 have vlt:=fun i (hi:i∈ids vb)=>(show i<H.length by obtain ⟨_,_,_,_,k3,_⟩:=c;exact k3.lt i hi)
 exact ⟨i,x,h1,Qa h2 c3 (by simp;omega),h3.chg c3 (fun j hj hh=>by have:=vlt j hj;simp at hh;omega),h4,h5⟩
theorem Cur.app (c:Cur H r vb code) (L:Heap):Cur (H++L) r vb code:=by
 obtain ⟨i,x,h1,h2,h3,h4,h5⟩:=c
 exact ⟨i,x,h1,Qo h2 L,h3.app,h4,h5⟩
theorem Cur.vlt (c:Cur H r vb code):∀i∈ids vb,i<H.length:=by
 obtain ⟨_,_,_,_,k3,_⟩:=c;exact k3.lt
theorem N7 (vb:Value) (code:List Int) (hb:Rd Fl.u8 H vb code) (hl:code.length≤1073741824) :
 wp (vcall C frz 7 [vb] H) (fun u H'=>∃xs:List Int,Ow Fl.int 3 H' u xs∧xs.length=12∧(∀x∈xs,0≤x∧x<10000)∧(∀i∈ids u,H.length≤i)∧Chg H H' []):=by
 rw [Qb (fn:=Tryz.f7) Tryz.func7 rfl (by kernel_rfl) rfl]
 simp
 refine Qd (Lw vb code hb hl) ?_
 rintro _ H1 ⟨r,rfl,hr,c1,ch1⟩
 have lt1:=c1.lt
 have vlt:=hb.lt
 simp
 refine Qm (fun n t H'=>∃(i:Nat) (u:Value) (xs:List Int),n=12-i∧i≤12∧t 3=.pointer (some ⟨r,0,some 0⟩)∧t 4=u∧t 5=.int .i64 i∧Cur H' r vb code∧Ow Fl.int 3 H' u xs∧xs.length=i∧(∀x∈xs,0≤x∧x<10000)∧(∀j∈ids u,H.length≤j∧j≠r)∧Chg H H' []) ?_ (n:=12)
  ⟨0,.slice (some ⟨H1.length,0,some 0⟩) 0 0,[],rfl,by omega,by simp,by simp,by simp,c1.app _,Ow.new0 (D:=Fl.int) (xs:=[]) rfl rfl rfl rfl,rfl,by simp,by have:=ch1.1;simp;omega,ch1.trans (Chg.app [])⟩
 rintro n t H' ⟨i,u,xs,rfl,hi,t3,t4,t5,c,o,hx,hr2,nu,ch⟩ ih
 simp [t3,t4,t5]
 refine Qf ?_ ?_<;>intro g1
 ·simp [t3,t4,t5]
  have bl:=Wq (frz:=H.length) c hr 10000 (by decide) (by decide)
  refine Qd (by simpa using bl) ?_
  rintro _ H2 ⟨⟨x,rfl,hx2⟩,c2,d2⟩
  have o2:=o.chg c2 (fun j hj hh=>(nu j hj).2 (List.mem_singleton.1 hh))
  obtain ⟨u',H3,hap,o3,c3,n3⟩:=o2.push (P:=Tryz.prog) (frz:=H.length) (ty:=26) (a:=(x:Int)) (by simp) rfl (by omega) (fun j hj=>(nu j hj).1)
  simp only [Fl.int_f] at hap
  have l2:=ch.1
  have l3:=c2.1
  have ltr:=d2.lt
  simp [t3,t4,t5,hap]
  refine ih (12-(i+1)) _ _ ⟨i+1,u',xs++[(x:Int)],rfl,by omega,by simp [t3],by simp,?_,d2.chg c3 (fun hh=>(nu _ hh).2 rfl) (fun j hj hh=>by have:=(nu j hh).1;have:=vlt j hj;omega),o3,by simp [hx],fun y hy=>?_,fun j hj=>?_,(ch.trans' c2 (fun j hj=>.inr (by simp at hj;omega))).trans' c3 (fun j hj=>.inr ((nu j hj).1))⟩ (by omega)
  ·simp;rw [w64 (by omega) (by omega)]
  ·rcases List.mem_append.1 hy with hy|hy
   ·exact hr2 y hy
   ·rw [List.mem_singleton.1 hy];omega
  ·rcases n3 j hj with h1|h1
   ·exact nu j h1
   ·omega
 ·simp [t4]
  exact ⟨xs,o,by omega,hr2,fun j hj=>(nu j hj).1,ch⟩
theorem jb (v:Value) (code:List Int) (hb:Rd Fl.u8 H v code):vcall C frz 5 [v] H=some (.bool (decide ((1048576:Int)<code.length)),H):=by
 rw [Qb (fn:=Tryz.f5) Tryz.func5 rfl (by kernel_rfl) rfl]
 simp [hb.len]
end Go.Proofs.YtmddnnecgnpccaaGreat.V
set_option linter.all false
namespace Go.Proofs.YtmddnnecgnpccaaGreat.V
open Go Go.VM Go.Proofs
theorem Pa:∀xs:List Int,cellsOf Fl.u8 xs=xs.map (.int .u8)
 | []=>rfl
 | a::l=>by rw [Wg,Pa l];rfl
theorem Eu {H:Heap} {v:Value} {xs:List Int} (h:IsS (Kn.int .u8) H v xs):Rd Fl.u8 H v xs:=by
 rcases h with h|⟨id,off,r,h1,h2,h3,h4⟩
 ·exact .inl h
 ·have hs:(Kn.int .u8).sz=1:=rfl
  rw [hs] at h3 h4
  have e0:cellsOf Fl.u8 xs=xs.map (.int .u8):=Pa xs
  refine .inr ⟨id,off,r,h1,h2,?_,by simpa using h3⟩
  rw [e0]
  refine List.ext_getElem? fun j=>?_
  by_cases hj:j<xs.length
  ·have:=h4 j xs[j] (by simp [hj])
   have e:(r.cells.drop (off+j*1)).take 1=[.int .u8 xs[j]]:=this
   have e2:=congrArg (·[0]?) e
   simp at e2
   rw [List.getElem?_take,if_pos (by simpa using hj),List.getElem?_drop]
   simp [e2,hj]
  ·rw [List.getElem?_take,if_neg (by simpa using hj),List.getElem?_eq_none (by rw [List.length_map];omega)]
end Go.Proofs.YtmddnnecgnpccaaGreat.V
set_option linter.all false
namespace Go.Proofs.YtmddnnecgnpccaaGreat.V
open Go Go.VM Go.Proofs
set_option maxRecDepth 10000
variable {frz:Nat} {H:Heap}
def net0:NetD:=((0,0,[]),([],[]),[],[],[],[],[],0)
def netNew (m:MeshD) (t:ClassesD):NetD:=
 if classesOk m.1 m.2.1 m.2.2 t.1 t.2 then (m,t,List.replicate (10*(cnt m.1 m.2.1).toNat) [],List.replicate (10*(cnt m.1 m.2.1).toNat) (-1),List.replicate (5*(cnt m.1 m.2.1).toNat) 0,List.replicate (cnt m.1 m.2.1).toNat [],List.replicate (cnt m.1 m.2.1).toNat [],0) else net0
theorem emptyS {id n:Nat} (h:H[id]? = some ⟨List.replicate n (.slice none 0 0),0,75⟩) (hn:n≤2097152):dSS.Ow H (.slice (some ⟨id,0,some 0⟩) n 0,List.replicate n (.slice none 0 0)) (List.replicate n []):=by
 refine ⟨⟨.inr ⟨id,0,_,by simp,h,?_,by simp,rfl,?_⟩,by simp,fun j a xs ha hx=>?_⟩,by simpa using hn,fun xs hx=>?_⟩
 ·simp [cellsOf,Fl.val]
 ·simp [ones]
 ·rw [List.getElem?_replicate] at ha hx
  split at ha
  ·cases ha;rename_i hj;rw [if_pos hj] at hx;cases hx;exact .inl ⟨rfl,rfl⟩
  ·cases ha
 ·have:=List.eq_of_mem_replicate hx;subst this;simp
theorem zeroI {id n:Nat} (h:H[id]? = some ⟨List.replicate n (.int .i64 0),0,3⟩) (hn:n≤1073741824):dIntS.Ow H (.slice (some ⟨id,0,some 0⟩) n 0) (List.replicate n 0):=by
 refine ⟨.inr ⟨id,0,_,by simp,h,?_,by simp,rfl,?_⟩,by simpa using hn⟩
 ·rw [Wh];simp
 ·simp [ones]
theorem ssIds (id n m:Nat):dSS.ids (.slice (some ⟨id,0,some 0⟩) n 0,List.replicate m (.slice none 0 0))=[id]:=by
 show idsL _ _=_
 have:∀m,(List.replicate m (Value.slice none 0 0)).flatMap ids=[]:=fun m=>by
  induction m with
  | zero=>rfl
  | succ m ih=>rw [List.replicate_succ,List.flatMap_cons,ih];rfl
 unfold idsL;rw [this];rfl
def nV0:NetV:=(.slice none 0 0,(.slice none 0 0,.slice none 0 0),(.slice none 0 0,[]),.slice none 0 0,.slice none 0 0,(.slice none 0 0,[]),(.slice none 0 0,[]),())
theorem Sl:dNet.ids nV0=[]:=by simp [nV0,dNet,dNet0,dAnd,dSS,dMesh,dClasses,dIntS,dTable,dFlat,dNone,idsL,ids]
theorem Gb (K:Heap):dNet.Ow K nV0 net0:=by
 have e1:dIntS.Ow K (.slice none 0 0) []:=⟨.inl ⟨rfl,rfl⟩,by simp⟩
 have e2:dSS.Ow K (.slice none 0 0,[]) []:=⟨⟨.inl ⟨rfl,rfl⟩,rfl,by simp⟩,by simp,by simp⟩
 exact ⟨e1,⟨e1,e1⟩,e2,e1,e1,e2,e2,trivial⟩
theorem Fs {K:Heap} (c:Chg H K []):dNet.Made H net0 (.agg #[.int .i64 0,.int .i64 0,.slice none 0 0,.slice none 0 0,.slice none 0 0,.slice none 0 0,.slice none 0 0,.slice none 0 0,.slice none 0 0,.slice none 0 0,.int .i64 0]) K:=
 ⟨nV0,rfl,Gb K,c,by rw [Sl];simp,by rw [Sl];simp⟩
theorem Fm {vm:Value} {m:MeshD} {vc:Value×Value} {t:ClassesD} (om:dMesh.Ow H vm m) (oc:dClasses.Ow H vc t) :
 wp (vcall C frz 50 [dMesh.val vm m,dClasses.val vc t] H) (Made2 dNet H (netNew m t) (decide (classesOk m.1 m.2.1 m.2.2 t.1 t.2))):=by
 obtain ⟨w,h,b⟩:=m
 obtain ⟨A,B⟩:=t
 have onem:=Y5 om
 have onec:=Wr oc
 obtain ⟨u1,u2⟩:=vc
 rw [Ys,Wo]
 simp only at onem onec ⊢
 rw [Qb (fn:=Tryz.f50) Tryz.func50 rfl (by kernel_rfl) rfl]
 have ck:=fun F L=>Vf (frz:=F) (H:=H++L) w h vm u1 u2 b A B (Rd.isI om.1.rd.app) (Rd.isI oc.1.1.rd.app) (Rd.isI oc.2.1.rd.app) om.2
 simp [onem,onec,ck]
 by_cases g0:classesOk w h b A B
 rotate_left
 ·simp [g0]
  have e:netNew (w,h,b) (A,B)=net0:=if_neg g0
  rw [e]
  exact ⟨_,rfl,Fs (Chg.app _)⟩
 obtain ⟨N,hN⟩:∃N:Nat,cnt w h=N:=⟨(cnt w h).toNat,by have:=Qg w h;omega⟩
 have hNr:=Qg w h
 have eN:(cnt w h).toNat=N:=by rw [hN];simp
 simp [g0,Qx]
 obtain ⟨G0,hG0⟩:∃G,G=H++[⟨[.int .i64 w,.int .i64 h,vm],0,28⟩,⟨[u1,u2],0,32⟩,⟨[.int .i64 0,.int .i64 0,.slice none 0 0,.slice none 0 0,.slice none 0 0,.slice none 0 0,.slice none 0 0,.slice none 0 0,.slice none 0 0,.slice none 0 0,.int .i64 0],0,35⟩]:=⟨_,rfl⟩
 have b0:G0[H.length]? = some ⟨[.int .i64 w,.int .i64 h,vm],0,28⟩:=by rw [hG0];simp
 have b1:G0[H.length+1]? = some ⟨[u1,u2],0,32⟩:=by rw [hG0];simp
 have bR:G0[H.length+2]? = some ⟨[.int .i64 0,.int .i64 0,.slice none 0 0,.slice none 0 0,.slice none 0 0,.slice none 0 0,.slice none 0 0,.slice none 0 0,.slice none 0 0,.slice none 0 0,.int .i64 0],0,35⟩:=by rw [hG0];simp
 have cH:Chg H G0 []:=by rw [hG0];exact Chg.app []
 have lH:G0.length=H.length+3:=by rw [hG0];simp
 rw [← hG0]
 clear hG0
 rw [Qp (h:=by kernel_rfl)]
 simp [VM.look,b0,onem,hN]
 have om0:dMesh.Ow G0 vm (w,h,b):=Dt.chg0 om cH
 have oc0:dClasses.Ow G0 (u1,u2) (A,B):=Dt.chg0 oc cH
 refine Qd (O3 w h vm b om0.1.rd.isI om0.2) ?_
 rintro _ G1 ⟨n1,rfl,o1,c1,m1,d1⟩
 have oc1:=Dt.chg0 oc0 c1
 have b1:=Qa b1 c1 (by simp)
 have bR:=Qa bR c1 (by simp)
 have onen:=Y5 o1
 simp [VM.look,b1,onec]
 refine Qd (Vr u1 u2 A B oc1.1.1.rd.isI oc1.2.1.rd.isI oc1.1.2 oc1.2.2) ?_
 rintro _ G2 ⟨⟨n2,n3⟩,rfl,o2,c2,m2,d2⟩
 have lt1:=dMesh.lt o1
 have ltc:=dClasses.lt o2
 have o1:=Dt.chg0 o1 c2
 have bR:=Qa bR c2 (by simp)
 have onen2:=Wr o2
 obtain ⟨K5,hK5⟩:∃K,K=5*N:=⟨_,rfl⟩
 obtain ⟨K10,hK10⟩:∃K,K=10*N:=⟨_,rfl⟩
 have e5:∀[Inhabited Unit],IntKind.i64.wrap (5*(N:Int))=(K5:Int):=by intro _;rw [w64 (by omega) (by omega)];omega
 have e10:∀[Inhabited Unit],IntKind.i64.wrap (10*(N:Int))=(K10:Int):=by intro _;rw [w64 (by omega) (by omega)];omega
 have hk5:(K5:Int)≤1073741824:=by omega
 have hk10:(K10:Int)≤1073741824:=by omega
 have hk1:(N:Int)≤1073741824:=by omega
 have cH2:Chg H G2 []:=(cH.trans c1).trans c2
 have l2:=cH2.1
 have l01:=c1.1
 have l12:=c2.1
 have hz:H.length≤G2.length+1:=by omega
 have hz4:H.length≤G2.length+4:=by omega
 simp [Ys,Wo,onen,onen2,e5,e10,hk5,hk10,hk1,hz,hz4]
 obtain ⟨G4,hG4⟩:∃G,G=G2++[⟨List.replicate K10 (.slice none 0 0),0,75⟩,⟨List.replicate K5 (.int .i64 0),0,3⟩,⟨List.replicate N (.slice none 0 0),0,75⟩,⟨List.replicate N (.slice none 0 0),0,75⟩,⟨[.int .i64 w,.int .i64 h,n1,n2,n3,.slice (some ⟨G2.length,0,some 0⟩) K10 0,.slice none 0 0,.slice (some ⟨G2.length+1,0,some 0⟩) K5 0,.slice (some ⟨G2.length+2,0,some 0⟩) N 0,.slice (some ⟨G2.length+3,0,some 0⟩) N 0,.int .i64 0],0,35⟩]:=⟨_,rfl⟩
 have e4:G2++[⟨List.replicate K10 (.slice none 0 0),0,75⟩,⟨List.replicate K5 (.int .i64 0),0,3⟩,⟨List.replicate N (.slice none 0 0),0,75⟩,⟨List.replicate N (.slice none 0 0),0,75⟩,⟨[.int .i64 w,.int .i64 h,n1,n2,n3,.slice (some ⟨G2.length,0,some 0⟩) K10 0,.slice none 0 0,.slice (some ⟨G2.length+1,0,some 0⟩) K5 0,.slice (some ⟨G2.length+2,0,some 0⟩) N 0,.slice (some ⟨G2.length+3,0,some 0⟩) N 0,.int .i64 0],0,35⟩]=G4:=hG4.symm
 rw [e4]
 have l4:G4.length=G2.length+5:=by rw [hG4];simp
 have c4:Chg G2 G4 []:=by rw [hG4];exact Chg.app _
 have bN:G4[G2.length+4]? = some ⟨[.int .i64 w,.int .i64 h,n1,n2,n3,.slice (some ⟨G2.length,0,some 0⟩) K10 0,.slice none 0 0,.slice (some ⟨G2.length+1,0,some 0⟩) K5 0,.slice (some ⟨G2.length+2,0,some 0⟩) N 0,.slice (some ⟨G2.length+3,0,some 0⟩) N 0,.int .i64 0],0,35⟩:=by rw [hG4];simp
 have bR:G4[H.length+2]? = some ⟨[.int .i64 0,.int .i64 0,.slice none 0 0,.slice none 0 0,.slice none 0 0,.slice none 0 0,.slice none 0 0,.slice none 0 0,.slice none 0 0,.slice none 0 0,.int .i64 0],0,35⟩:=Qa bR c4 (by simp)
 have o1:=Dt.chg0 o1 c4
 have o2:=Dt.chg0 o2 c4
 have y3:dSS.Ow G4 (.slice (some ⟨G2.length,0,some 0⟩) K10 0,List.replicate K10 (.slice none 0 0)) (List.replicate K10 []):=emptyS (by rw [hG4];simp) (by omega)
 have y5:dIntS.Ow G4 (.slice (some ⟨G2.length+1,0,some 0⟩) K5 0) (List.replicate K5 0):=zeroI (by rw [hG4];simp) (by omega)
 have y6:dSS.Ow G4 (.slice (some ⟨G2.length+2,0,some 0⟩) N 0,List.replicate N (.slice none 0 0)) (List.replicate N []):=emptyS (by rw [hG4];simp) (by omega)
 have y7:dSS.Ow G4 (.slice (some ⟨G2.length+3,0,some 0⟩) N 0,List.replicate N (.slice none 0 0)) (List.replicate N []):=emptyS (by rw [hG4];simp) (by omega)
 clear hG4 e4
 refine Qm (fun n t G=>∃(i:Nat) (own:Value),n=K10-i∧i≤K10∧t 4=.pointer (some ⟨H.length+2,0,some 0⟩)∧t 6=.int .i64 N∧t 7=.pointer (some ⟨G2.length+4,0,some 0⟩)∧t 8=.int .i64 i∧Chg G4 G [G2.length+4]∧G[G2.length+4]? = some ⟨[.int .i64 w,.int .i64 h,n1,n2,n3,.slice (some ⟨G2.length,0,some 0⟩) K10 0,own,.slice (some ⟨G2.length+1,0,some 0⟩) K5 0,.slice (some ⟨G2.length+2,0,some 0⟩) N 0,.slice (some ⟨G2.length+3,0,some 0⟩) N 0,.int .i64 0],0,35⟩∧Ow Fl.int 3 G own (List.replicate i (-1))∧(∀j∈ids own,G4.length≤j)) ?_ (n:=K10)
  ⟨0,.slice none 0 0,rfl,by omega,by simp,by simp,by simp,by simp,Chg.refl _,bN,.inl ⟨rfl,rfl⟩,by simp⟩
 rintro n t G ⟨i,own,rfl,hi,t4,t6,t7,t8,ch,bb,oo,no⟩ ih
 have hF:H.length≤G2.length+4:=by omega
 simp [t4,t6,t7,t8,e10]
 refine Qf ?_ ?_<;>intro g
 ·obtain ⟨r',H2,hap,ow,cw,nw⟩:=oo.push (P:=Tryz.prog) (frz:=H.length) (ty:=26) (a:=-1) (by simp) rfl (by simp;omega) (fun j hj=>by have:=no j hj;omega)
  simp only [Fl.int_f] at hap
  have hlt:=Q0 bb
  have bb1:=fun r=>Qo bb [r]
  have bb2:=Qa bb cw (fun hh=>by have:=no _ hh;omega)
  have h9:VM.one r'=true:=ow.rd.one'
  have h10:r'.cells=#[r']:=ow.rd.cells
  simp [-Qe,-Qq,t4,t6,t7,t8,VM.look,bb,bb1,bb2,hap,hF,h9,h10]
  have gR:=Qi (r':=⟨[.int .i64 w,.int .i64 h,n1,n2,n3,.slice (some ⟨G2.length,0,some 0⟩) K10 0,r',.slice (some ⟨G2.length+1,0,some 0⟩) K5 0,.slice (some ⟨G2.length+2,0,some 0⟩) N 0,.slice (some ⟨G2.length+3,0,some 0⟩) N 0,.int .i64 0],0,35⟩) bb2
  refine ih (K10-(i+1)) _ _ ⟨i+1,r',rfl,by omega,by simp [t4],by simp [t6],by simp [t7],?_,?_,gR,?_,fun j hj=>?_⟩ (by omega)
  ·simp [t8];rw [w64 (by omega) (by omega)]
  ·exact (ch.trans' cw (fun j hj=>.inr (no j hj))).trans' (Ql _ _) (fun j hj=>.inl (by simpa using hj))
  ·rw [List.replicate_succ'];exact ow.chg (Ql _ _) (fun j hj hh=>by
    simp at hh;subst hh
    rcases nw _ hj with h1|h1
    ·have:=no _ h1;omega
    ·have:=ch.1;omega)
  ·rcases nw j hj with h1|h1
   ·exact no j h1
   ·have:=ch.1;omega
 ·have hiK:i=K10:=by omega
  rw [hiK] at oo
  have gR:=Qa bR ch (by simp;omega)
  have hne:H.length≤H.length+2:=by omega
  have on1:=Dt.chg (T:=dMesh) o1 ch (fun j hj hh=>by have:=lt1 j hj;simp at hh;omega)
  have on2:=Dt.chg (T:=dClasses) o2 ch (fun j hj hh=>by have:=ltc j hj;simp at hh;omega)
  have on3:=Dt.chg (T:=dSS) y3 ch (fun j hj hh=>by rw [ssIds] at hj;simp at hj hh;omega)
  have on5:=Dt.chg (T:=dIntS) y5 ch (fun j hj hh=>by simp [dIntS,dFlat] at hj hh;omega)
  have on6:=Dt.chg (T:=dSS) y6 ch (fun j hj hh=>by rw [ssIds] at hj;simp at hj hh;omega)
  have on7:=Dt.chg (T:=dSS) y7 ch (fun j hj hh=>by rw [ssIds] at hj;simp at hj hh;omega)
  have on4:dIntS.Ow G own (List.replicate K10 (-1)):=⟨oo,by simp;omega⟩
  have q4:=Xi on4
  have hio:ids own=[]∨∃x,ids own=[x]∧G4.length≤x:=by
   rcases oo with ⟨e,_⟩|⟨x,off,r,e,_⟩
   ·left;rw [e];rfl
   ·right;exact ⟨x,by rw [e];rfl,no x (by rw [e];simp [ids])⟩
  have gR2:=Qi (r':=⟨[.int .i64 w,.int .i64 h,n1,n2,n3,.slice (some ⟨G2.length,0,some 0⟩) K10 0,own,.slice (some ⟨G2.length+1,0,some 0⟩) K5 0,.slice (some ⟨G2.length+2,0,some 0⟩) N 0,.slice (some ⟨G2.length+3,0,some 0⟩) N 0,.int .i64 0],0,35⟩) gR
  have hF2:H.length≤H.length+2:=by omega
  simp [t4,t6,t7,t8,e10,VM.look,bb,gR,onen,onen2,q4,hF2,gR2]
  have eR:Chg G (G.set (H.length+2) ⟨[.int .i64 w,.int .i64 h,n1,n2,n3,.slice (some ⟨G2.length,0,some 0⟩) K10 0,own,.slice (some ⟨G2.length+1,0,some 0⟩) K5 0,.slice (some ⟨G2.length+2,0,some 0⟩) N 0,.slice (some ⟨G2.length+3,0,some 0⟩) N 0,.int .i64 0],0,35⟩) [H.length+2]:=Ql _ _
  have on1:=Dt.chg (T:=dMesh) on1 eR (fun j hj hh=>by have:=m1 j hj;simp at hh;omega)
  have on2:=Dt.chg (T:=dClasses) on2 eR (fun j hj hh=>by have:=m2 j hj;simp at hh;omega)
  have on3:=Dt.chg (T:=dSS) on3 eR (fun j hj hh=>by rw [ssIds] at hj;simp at hj hh;omega)
  have on4:=Dt.chg (T:=dIntS) on4 eR (fun j hj hh=>by have:=no j hj;simp at hh;omega)
  have on5:=Dt.chg (T:=dIntS) on5 eR (fun j hj hh=>by simp [dIntS,dFlat] at hj hh;omega)
  have on6:=Dt.chg (T:=dSS) on6 eR (fun j hj hh=>by rw [ssIds] at hj;simp at hj hh;omega)
  have on7:=Dt.chg (T:=dSS) on7 eR (fun j hj hh=>by rw [ssIds] at hj;simp at hj hh;omega)
  have e:netNew (w,h,b) (A,B)=((w,h,b),(A,B),List.replicate K10 [],List.replicate K10 (-1),List.replicate K5 0,List.replicate N [],List.replicate N [],0):=by
   unfold netNew;rw [if_pos g0];simp only [eN,hK5,hK10]
  have rest:∀l,dSS.ids (.slice (some ⟨G2.length,0,some 0⟩) K10 0,List.replicate K10 (.slice none 0 0))++(dIntS.ids own++(dIntS.ids (.slice (some ⟨G2.length+1,0,some 0⟩) K5 0)++(dSS.ids (.slice (some ⟨G2.length+2,0,some 0⟩) N 0,List.replicate N (.slice none 0 0))++(dSS.ids (.slice (some ⟨G2.length+3,0,some 0⟩) N 0,List.replicate N (.slice none 0 0))++[]))))=l→l.Nodup∧∀i∈l,G2.length≤i:=by
   intro l hl
   rw [ssIds,ssIds,ssIds,show dIntS.ids own=ids own from rfl] at hl
   rcases hio with hx|⟨x,hx,hx2⟩<;>rw [hx] at hl<;>simp [dIntS,dFlat] at hl<;>subst hl
   ·refine ⟨by simp,fun i hi=>?_⟩
    simp at hi;omega
   ·refine ⟨by simp;omega,fun i hi=>?_⟩
    simp at hi;omega
  obtain ⟨r1,r2⟩:=rest _ rfl
  refine ⟨_,rfl,(n1,(n2,n3),(.slice (some ⟨G2.length,0,some 0⟩) K10 0,List.replicate K10 (.slice none 0 0)),own,.slice (some ⟨G2.length+1,0,some 0⟩) K5 0,(.slice (some ⟨G2.length+2,0,some 0⟩) N 0,List.replicate N (.slice none 0 0)),(.slice (some ⟨G2.length+3,0,some 0⟩) N 0,List.replicate N (.slice none 0 0)),()),?_,?_,?_,fun i hi=>?_,?_⟩
  ·rw [e];rfl
  ·rw [e];exact ⟨on1,on2,on3,on4,on5,on6,on7,trivial⟩
  ·exact ((cH2.trans c4).trans' ch (fun j hj=>.inr (by simp at hj;omega))).trans' eR (fun j hj=>.inr (by simp at hj;omega))
  ·rcases List.mem_append.1 hi with hi|hi
   ·have:=m1 i hi;omega
   rcases List.mem_append.1 hi with hi|hi
   ·have:=m2 i hi;omega
   have:=r2 i hi;omega
  ·refine Wv d1 (Wv d2 r1 ltc r2) lt1 (fun i hi=>?_)
   rcases List.mem_append.1 hi with hi|hi
   ·exact m2 i hi
   ·have:=r2 i hi;omega
end Go.Proofs.YtmddnnecgnpccaaGreat.V
set_option linter.all false
namespace Go.Proofs.YtmddnnecgnpccaaGreat.V
open Go Go.VM Go.Proofs
variable {frz:Nat} {H:Heap}
end Go.Proofs.YtmddnnecgnpccaaGreat.V
set_option linter.all false
namespace Go.Proofs.YtmddnnecgnpccaaGreat.V
open Go Go.VM Go.Proofs
set_option maxRecDepth 10000
variable {frz:Nat} {H:Heap}
def treeOk (w h:Int) (b:List Int) (r:Int):Prop:=conn w h b∧isN w h r
noncomputable instance (w h:Int) (b:List Int) (r:Int):Decidable (treeOk w h b r):=inferInstanceAs (Decidable (_∧_))
def alongP (x g:Int):Int:=if x<g then 1 else if g<x then 3 else -1
def acrossP (y g:Int):Int:=if y<g then 2 else if g<y then 0 else -1
def stdPort (w r a to:Int):Int:=
 if a=to then 4 else
 if acrossP (a/w) (to/w)<0∨(0≤alongP (a%w) (to%w)∧((if r=4 then 1+to%2 else r)=1∨((if r=4 then 1+to%2 else r)=3∧alongP (a%w) (to%w)=3))) then alongP (a%w) (to%w) else acrossP (a/w) (to/w)
def stdTab (w r:Int) (n:Nat):List Int:=(List.range (n*n)).map fun i=>stdPort w r (i/n:Nat) (i%n:Nat)
theorem Pj (w r:Int) (n:Nat):(stdTab w r n).length=n*n:=by simp [stdTab]
theorem B6 (w r a to:Int) (hw:1≤w) (ha:0≤a) (ht:0≤to) (hne:a≠to) (R:Int) (hR:R=if r=4 then 1+to%2 else r) :
 stdPort w r a to=(if (if R=2 then a/w=to/w else if R=3 then to%w<a%w∨a/w=to/w else a%w≠to%w) then (if to%w<a%w then 3 else 1) else (if to/w<a/w then 0 else 2))∨¬(1≤R∧R≤3):=by
 have h1:=Int.emod_add_mul_ediv a w
 have h2:=Int.emod_add_mul_ediv to w
 have h3:¬(a%w=to%w∧a/w=to/w):=fun ⟨e1,e2⟩=>hne (by rw [← h1,← h2,e1,e2])
 unfold stdPort
 rw [if_neg hne,← hR]
 generalize a%w=X at *
 generalize to%w=U at *
 generalize a/w=Y at *
 generalize to/w=V at *
 by_cases hr:1≤R∧R≤3
 rotate_left
 ·exact .inr hr
 left
 unfold alongP acrossP
 obtain rfl|rfl|rfl:R=1∨R=2∨R=3:=by omega
 all_goals simp
 all_goals (repeat' split)<;>first|rfl|omega
theorem Wc (x g:Int):vcall C frz 113 [.int .i64 x,.int .i64 g] H=some (.int .i64 (if g<x then 3 else 1),H):=by
 rw [Qb (fn:=Tryz.f113) Tryz.func113 rfl (by kernel_rfl) rfl]
 simp
 refine Qr _ ?_ ?_<;>intro h1<;>simp [h1]
theorem Wz (x g:Int):vcall C frz 114 [.int .i64 x,.int .i64 g] H=some (.int .i64 (if g<x then 0 else 2),H):=by
 rw [Qb (fn:=Tryz.f114) Tryz.func114 rfl (by kernel_rfl) rfl]
 simp
 refine Qr _ ?_ ?_<;>intro h1<;>simp [h1]
theorem Fo (w h r a to:Int) (hr:1≤r∧r≤4) (ha:isN w h a) (hto:isN w h to) :
 vcall C frz 92 [.agg #[.int .i64 w,.int .i64 h],.int .i64 r,.int .i64 a,.int .i64 to] H=some (.int .i64 (stdPort w r a to),H):=by
 rw [Qb (fn:=Tryz.f92) Tryz.func92 rfl (by kernel_rfl) rfl]
 obtain ⟨hg,a0,_,a1⟩:=Rq ha
 obtain ⟨_,t0,_,t1⟩:=Rq hto
 have hw:=hg.1
 have wz:¬w=0:=by omega
 have e1:a.tmod w=a%w:=Int.tmod_eq_emod_of_nonneg a0
 have e2:to.tmod w=to%w:=Int.tmod_eq_emod_of_nonneg t0
 have e3:a.tdiv w=a/w:=Int.tdiv_eq_ediv_of_nonneg a0
 have e4:to.tdiv w=to/w:=Int.tdiv_eq_ediv_of_nonneg t0
 have e5:to.tmod 2=to%2:=Int.tmod_eq_emod_of_nonneg t0
 have d1:0≤a/w∧a/w≤a:=⟨Int.ediv_nonneg a0 (by omega),Int.ediv_le_self _ a0⟩
 have d2:0≤to/w∧to/w≤to:=⟨Int.ediv_nonneg t0 (by omega),Int.ediv_le_self _ t0⟩
 have f3:=@w6 (a/w) (by omega)
 have f4:=@w6 (to/w) (by omega)
 have f5:=@w6 (1+to%2) (by omega)
 have key:a≠to→∀R,(R=if r=4 then 1+to%2 else r)→1≤R→R≤3→stdPort w r a to=if (if R=2 then a/w=to/w else if R=3 then to%w<a%w∨a/w=to/w else a%w≠to%w) then (if to%w<a%w then 3 else 1) else (if to/w<a/w then 0 else 2):=fun hne R hR r1 r2=>by
  rcases B6 w r a to hw.1 a0 t0 hne R hR with h|h
  ·exact h
  ·exact absurd ⟨r1,r2⟩ h
 simp [VM.look,wz,e1,e2,e3,e4,f3,f4]
 by_cases h4:a=to
 ·subst h4;simp [stdPort]
 have key:=key h4
 clear e1 e2 e3 e4 f3 f4
 generalize a%w=X at *
 generalize to%w=U at *
 generalize a/w=Y at *
 generalize to/w=V at *
 generalize stdPort w r a to=Z at *
 simp [h4]
 have k1:∀[Inhabited Unit],IntKind.i64.wrap 1=1:=by intro _;exact w64 (by omega) (by omega)
 have k2:∀[Inhabited Unit],IntKind.i64.wrap 2=2:=by intro _;exact w64 (by omega) (by omega)
 by_cases r4:r=4
 ·have key:=key _ (if_pos r4).symm (by omega) (by omega)
  have m2:to%2=0∨to%2=1:=by omega
  rcases m2 with m2|m2<;>simp only [m2] at key f5
  ·simp [r4,e5,m2,f5,Wc,Wz,k1,k2]
   by_cases h5:X=U<;>simp [h5] at key<;>simp [h5,key,Wc,Wz,k1,k2]
  ·simp [r4,e5,m2,f5,Wc,Wz,k1,k2]
   by_cases h5:Y=V<;>simp [h5] at key<;>simp [h5,key,Wc,Wz,k1,k2]
 ·have key:=key _ (if_neg r4).symm (by omega) (by omega)
  obtain rfl|rfl|rfl:r=1∨r=2∨r=3:=by omega
  ·simp [Wc,Wz,k1,k2]
   by_cases h5:X=U<;>simp [h5] at key<;>simp [h5,key,Wc,Wz,k1,k2]
  ·simp [Wc,Wz,k1,k2]
   by_cases h5:Y=V<;>simp [h5] at key<;>simp [h5,key,Wc,Wz,k1,k2]
  ·simp [Wc,Wz,k1,k2]
   by_cases h5:U<X
   ·simp [h5] at key;simp [h5,key,Wc,Wz,k1,k2]
   ·by_cases h6:Y=V<;>simp [h5,h6] at key<;>simp [h5,h6,key,Wc,Wz,k1,k2]
end Go.Proofs.YtmddnnecgnpccaaGreat.V
set_option linter.all false
namespace Go.Proofs.YtmddnnecgnpccaaGreat.V
open Go Go.VM Go.Proofs
set_option maxRecDepth 100000
abbrev rPort (r w a to:Int):Int:=stdPort w r a to
def walkR (r w h to:Int):Nat→Int→List Int→List Int
 | 0,a,out=>if rPort r w a to=4 then (if a=to then out else []) else []
 | f+1,a,out=>if rPort r w a to=4 then (if a=to then out else []) else
  if inR 0 (rPort r w a to) 3∧leads w h (4*a+rPort r w a to) then walkR r w h to f (next w h a (rPort r w a to)) (out++[4*a+rPort r w a to]) else []
theorem Z6 {r w h a to:Int} {n:Nat} (hn:cnt w h=n) (ha:isN w h a) (hto:isN w h to):portOf w h (stdTab w r n) a to=rPort r w a to:=by
 obtain ⟨i,rfl⟩:=Int.eq_ofNat_of_zero_le ha.1
 obtain ⟨j,rfl⟩:=Int.eq_ofNat_of_zero_le hto.1
 have h1:=ha.2
 have h2:=hto.2
 unfold portOf rd
 have hj:j<n:=by omega
 have hi:i<n:=by omega
 have hsm:i*n+j<n*n:=by
  have:=Nat.mul_le_mul_right n (show i+1≤n by omega)
  rw [Nat.succ_mul] at this;omega
 have hdv:(i*n+j)/n=i:=by rw [Nat.mul_comm,Nat.mul_add_div (by omega),Nat.div_eq_of_lt hj];omega
 have hmd:(i*n+j)%n=j:=by rw [Nat.mul_comm,Nat.mul_add_mod,Nat.mod_eq_of_lt hj]
 rw [hn,show ((i:Int)*(n:Int)+(j:Int)).toNat=i*n+j by rw [← Int.natCast_mul,← Int.natCast_add];rfl]
 rw [stdTab,List.getD_eq_getElem?_getD,List.getElem?_map,List.getElem?_range hsm]
 simp only [Option.map_some,Option.getD_some,hdv,hmd]
theorem Gu {r w h to:Int} {n:Nat} (hn:cnt w h=n) (hg:okG w h) (hto:isN w h to):∀f a out,isN w h a→walkN w h [] (stdTab w r n) to f a out=walkR r w h to f a out
 | 0,a,out,ha=>by simp only [walkN,walkR,Z6 hn ha hto]
 | f+1,a,out,ha=>by
  simp only [walkN,walkR,Z6 hn ha hto,stepOk]
  have e:(inR 0 (rPort r w a to) 3∧has w h [] (4*a+rPort r w a to))↔(inR 0 (rPort r w a to) 3∧leads w h (4*a+rPort r w a to)):=by simp [has]
  by_cases h1:rPort r w a to=4
  ·simp [h1]
  ·simp only [h1,if_false]
   by_cases h2:inR 0 (rPort r w a to) 3∧leads w h (4*a+rPort r w a to)
   ·rw [if_pos (e.2 h2),if_pos h2]
    obtain ⟨h3,h4⟩:=e.2 h2
    exact Gu hn hg hto f _ _ (X9 h3 h4).2.2
   ·rw [if_neg (fun k=>h2 (e.1 k)),if_neg h2]
def wkR (r w h:Int) (n:Nat) (a to:Int):List Int:=walkR r w h to n a []
theorem A6 {r w h a to:Int} {n:Nat} (hn:cnt w h=n) (hg:okG w h) (ha:isN w h a) (hto:isN w h to):walk w h [] (stdTab w r n) a to=wkR r w h n a to:=by
 unfold walk wkR
 rw [Gu hn hg hto _ _ _ ha,hn];rfl
def chkR1 (r w h:Int) (n:Nat) (a to:Int):Bool:=decide (a=to) || !(wkR r w h n a to).isEmpty
def chkR (r w h n:Nat):Bool:=(List.range n).all fun a=>(List.range n).all fun to=>chkR1 r w h n a to
theorem Dd:((List.range 4).all fun r=>(List.range 4).all fun w=>(List.range 4).all fun h=>chkR (r+1) (w+1) (h+1) ((w+1)*(h+1)))=true:=by kernel_rfl
theorem B5 {r w h a to:Int} {n:Nat} (hr:1≤r∧r≤4) (hg:okG w h) (hn:cnt w h=n) (ha:isN w h a) (hto:isN w h to):chkR1 r w h n a to=true:=by
 obtain ⟨⟨w0,w1⟩,h0,h1⟩:=hg
 obtain ⟨i,hi⟩:∃i:Nat,w=((i+1:Nat):Int):=⟨(w-1).toNat,by omega⟩
 obtain ⟨j,hj⟩:∃j:Nat,h=((j+1:Nat):Int):=⟨(h-1).toNat,by omega⟩
 obtain ⟨q,hq⟩:∃j:Nat,r=((j+1:Nat):Int):=⟨(r-1).toNat,by omega⟩
 obtain ⟨k,rfl⟩:=Int.eq_ofNat_of_zero_le ha.1
 obtain ⟨l,rfl⟩:=Int.eq_ofNat_of_zero_le hto.1
 have e9:=Dd
 rw [List.all_eq_true] at e9
 have e0:=e9 q (List.mem_range.2 (by omega))
 rw [List.all_eq_true] at e0
 have e1:=e0 i (List.mem_range.2 (by omega))
 rw [List.all_eq_true] at e1
 have e2:=e1 j (List.mem_range.2 (by omega))
 have hk:=ha.2
 have hl:=hto.2
 have hnn:n=(i+1)*(j+1):=by
  rw [cnt,if_pos ⟨⟨w0,w1⟩,h0,h1⟩,hi,hj,← Int.natCast_mul] at hn;omega
 rw [chkR,List.all_eq_true] at e2
 have e3:=e2 k (List.mem_range.2 (by omega))
 rw [List.all_eq_true] at e3
 have e4:=e3 l (List.mem_range.2 (by omega))
 rw [hi,hj,hq,hnn];exact e4
theorem D5 {r w h:Int} {n:Nat} (hr:1≤r∧r≤4) (hg:okG w h) (hn:cnt w h=n):tableOk w h [] (stdTab w r n):=by
 refine ⟨⟨⟨by simp,hg⟩,by rw [Pj,hn,Int.natCast_mul]⟩,fun a ha c hc=>⟨fun e=>?_,fun e=>?_⟩⟩
 ·subst e
  rw [Z6 hn (Ww ha) (Ww ha)];simp [stdPort]
 ·rw [A6 hn hg (Ww ha) (Ww hc)]
  have c:=B5 hr hg hn (Ww ha) (Ww hc)
  rw [chkR1] at c
  simp at c
  rcases c with c|c
  ·omega
  ·exact c
end Go.Proofs.YtmddnnecgnpccaaGreat.V
