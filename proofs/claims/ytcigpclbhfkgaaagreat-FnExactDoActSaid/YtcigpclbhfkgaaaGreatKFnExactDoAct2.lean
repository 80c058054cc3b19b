/- Texts of a proof, joined. -/
import Derived.Test.YtcigpclbhfkgaaaGreatKM0
import Derived.Test.YtcigpclbhfkgaaaGreatKM1
import Derived.Test.YtcigpclbhfkgaaaGreatKFnExactDoAct0
import Derived.Test.YtcigpclbhfkgaaaGreatKFnExactDoAct1
set_option linter.all false
namespace Go.Proofs.YtcigpclbhfkgaaaGreat.V
open Go Go.VM Go.Proofs
set_option maxRecDepth 10000
variable {frz:Nat} {H:Heap} {v:Value} {xs:List Int} {e:TypeId}
structure Pq (ys:List Int) (A B a b:Nat):Prop where
 le:A≤a∧a≤b∧b≤B
 left:Srt ys A a
 right:Srt ys b B
 lo:∀p q,A≤p→p<a→a≤q→q<B→G ys p≤G ys q
 hi:∀p q,A≤p→p<b→b≤q→q<B→G ys p≤G ys q
 low:0<A→∀k,A≤k→k<B→G ys (A-1)≤G ys k
section
variable {ys zs:List Int} {A B a b m:Nat}
theorem Pq.below (h:Pq ys A B a b) (ha:0<a):∀k,a≤k→k<B→G ys (a-1)≤G ys k:=fun k h1 h2=>by
 obtain ⟨l1,l2,l3⟩:=h.le
 by_cases hA:a=A
 ·have:=h.low (by omega) k (by omega) h2;rw [hA];exact this
 ·exact h.lo (a-1) k (by omega) (by omega) h1 h2
theorem Pq.sw (h:Pq ys A B a b) (s:Sw a b ys zs) (hB:B≤ys.length):Pq zs A B a b:=by
 obtain ⟨l1,l2,l3⟩:=h.le
 have hb:b≤ys.length:=by omega
 have out:=fun k (hk:k<a∨b≤k)=>s.out hb hk
 refine ⟨h.le,h.left.frame (fun k h1 h2=>out k (.inl h2)),h.right.frame (fun k h1 h2=>out k (.inr h1)),fun p q h1 h2 h3 h4=>?_,fun p q h1 h2 h3 h4=>?_,fun h0 k h1 h2=>?_⟩
 ·rw [out p (.inl h2)]
  exact s.all' hb (p:=fun y=>G ys p≤y) (Nat.le_refl a) l3 (fun k k1 k2=>h.lo p k h1 h2 k1 k2) q h3 h4
 ·rw [out q (.inr h3)]
  exact s.all' hb (p:=fun y=>y≤G ys q) l1 (Nat.le_refl b) (fun k k1 k2=>h.hi k q k1 k2 h3 h4) p h1 h2
 ·rw [out (A-1) (.inl (by omega))]
  exact s.all' hb (p:=fun y=>G ys (A-1)≤y) l1 l3 (fun k k1 k2=>h.low h0 k k1 k2) k h1 h2
theorem Pq.done (h:Pq ys A B a b) (s:Srt ys a b):Srt ys A B:=by
 obtain ⟨l1,l2,l3⟩:=h.le
 exact (h.left.join (s.join h.right (fun p q h1 h2 h3 h4=>h.hi p q (by omega) h2 h3 h4)) h.lo)
theorem Pq.eq {x:Int} (h:Pq ys A B a b) (hm:a<m∧m≤b) (hx:∀k,a≤k→k<b→x≤G ys k) (h1:∀k,a≤k→k<m→¬x<G ys k) (h2:∀k,m≤k→k<b→x<G ys k):Pq ys A B m b:=by
 obtain ⟨l1,l2,l3⟩:=h.le
 refine ⟨by omega,h.left.join (fun p q q1 q2 q3=>?_) (fun p q q1 q2 q3 q4=>h.lo p q q1 q2 q3 (by omega)),h.right,fun p q q1 q2 q3 q4=>?_,h.hi,h.low⟩
 ·have:=h1 p q1 (by omega);have:=hx q (by omega) (by omega);omega
 ·by_cases hp:p<a
  ·exact h.lo p q q1 hp (by omega) q4
  ·by_cases hq:q<b
   ·have:=h1 p (by omega) q2;have:=h2 q q3 hq;omega
   ·exact h.hi p q q1 (by omega) (by omega) q4
theorem Pq.goRight (h:Pq ys A B a b) (hm:a≤m∧m<b) (s:Srt ys a m) (h1:∀k,a≤k→k<m→G ys k≤G ys m) (h2:∀k,m<k→k<b→G ys m≤G ys k):Pq ys A B (m+1) b:=by
 obtain ⟨l1,l2,l3⟩:=h.le
 refine ⟨by omega,h.left.join (fun p q q1 q2 q3=>?_) (fun p q q1 q2 q3 q4=>h.lo p q q1 q2 q3 (by omega)),h.right,fun p q q1 q2 q3 q4=>?_,h.hi,h.low⟩
 ·by_cases hq:q=m
  ·rw [hq];exact h1 p q1 (by omega)
  ·exact s p q q1 q2 (by omega)
 ·by_cases hp:p<a
  ·exact h.lo p q q1 hp (by omega) q4
  ·by_cases hq:q<b
   ·have:=h2 q (by omega) hq
    by_cases hpm:p=m
    ·rw [hpm];exact this
    ·have:=h1 p (by omega) (by omega);omega
   ·exact h.hi p q q1 (by omega) (by omega) q4
theorem Pq.goLeft (h:Pq ys A B a b) (hm:a≤m∧m<b) (s:Srt ys (m+1) b) (h1:∀k,a≤k→k<m→G ys k≤G ys m) (h2:∀k,m<k→k<b→G ys m≤G ys k):Pq ys A B a m:=by
 obtain ⟨l1,l2,l3⟩:=h.le
 refine ⟨by omega,h.left,Srt.join (b:=b) (fun p q q1 q2 q3=>?_) h.right (fun p q q1 q2 q3 q4=>h.hi p q (by omega) q2 q3 q4),h.lo,fun p q q1 q2 q3 q4=>?_,h.low⟩
 ·by_cases hp:p=m
  ·rw [hp];exact h2 q (by omega) q3
  ·exact s p q (by omega) q2 q3
 ·by_cases hq:q<b
  ·by_cases hp:p<a
   ·exact h.lo p q q1 hp (by omega) q4
   ·have:=h1 p (by omega) q2
    by_cases hqm:q=m
    ·rw [hqm];exact this
    ·have:=h2 q (by omega) hq;omega
  ·exact h.hi p q q1 (by omega) (by omega) q4
end
theorem pdq_w:∀(n:Nat) (H:Heap) (v:Value) (xs:List Int) (e:TypeId) (A B:Nat) (L:Int) (h:Ow Fl.int e H v xs) (hn:B-A≤n) (hab:A≤B) (hb:B≤xs.length) (hl:xs.length≤1073741824)
 (hlo:0<A→∀k,A≤k→k<B→G xs (A-1)≤G xs k) (hf:∀i∈ids v,frz≤i) (hF:frz≤H.length),
 wp (vcall C frz 164 [v,.int .i64 A,.int .i64 B,.int .i64 L] H) (fun _ H'=>∃ys,Sw A B xs ys∧Srt ys A B∧Ow Fl.int e H' v ys∧Chg H H' (ids v)):=by
 intro n
 induction n using Nat.strongRecOn with
 | _ n IH=>
 intro H v xs e A B L h hn hab hb hl hlo hf hF
 rw [vcall_go (fn:=Tryz.f164) Tryz.func164 rfl (by kernel_rfl) rfl]
 simp
 refine wp_inv (fun c t H'=>∃(a b:Nat) (L:Int) (w1 w2:Bool),c=b-a∧t 0=v∧t 1=.int .i64 a∧t 2=.int .i64 b∧t 3=.int .i64 L∧t 8=.bool w1∧t 9=.bool w2∧
  ∃ys,Sw A B xs ys∧Pq ys A B a b∧Ow Fl.int e H' v ys∧Chg H H' (ids v)) ?_ (n:=B-A)
  ⟨A,B,L,true,true,rfl,by simp,by simp,by simp,by simp,by simp,by simp,xs,.refl,⟨by omega,Srt.short (by omega),Srt.short (by omega),fun p q h1 h2 h3 h4=>by omega,fun p q h1 h2 h3 h4=>by omega,hlo⟩,h,Chg.refl _⟩
 rintro c t H' ⟨a,b,L,w1,w2,rfl,h0,h1,h2,h3,h8,h9,ys,sw,pq,o,c⟩ ih
 have len:=sw.len
 obtain ⟨l1,l2,l3⟩:=pq.le
 obtain ⟨n1,hn1⟩:∃n1,n1=b-a:=⟨_,rfl⟩
 have e1:∀[Inhabited Unit],IntKind.i64.wrap ((b:Int)-a)=(n1:Int):=by intro _;rw [w64 (by omega) (by omega)];omega
 simp [h0,h1,h2,h3,h8,h9,e1]
 refine wp_dec ?_ ?_<;>intro g1
 ·simp [h0,h1,h2,h3,h8,h9]
  refine wp_thn (insSort_w v ys e a b o l2 (by omega) (by omega) hf) ?_
  rintro _ H1 ⟨zs,sw1,sr1,o1,c1,k1⟩
  simp
  exact ⟨zs,sw.trans (sw1.mono l1 l3),(pq.sw sw1 (by omega)).done sr1,o1,c.trans c1⟩
 ·simp [h0,h1,h2,h3,h8,h9]
  refine wp_dec ?_ ?_<;>intro g2
  ·simp [h0,h1,h2,h3,h8,h9]
   refine wp_thn (heapSort_w v ys e a b o (by omega) (by omega) (by omega) hf) ?_
   rintro _ H1 ⟨zs,sw1,sr1,o1,c1,k1⟩
   simp
   exact ⟨zs,sw.trans (sw1.mono l1 l3),(pq.sw sw1 (by omega)).done sr1,o1,c.trans c1⟩
  ·simp [h0,h1,h2,h3,h8,h9]
   refine wp_joinc (F:=?F1) (k:=?k1) (d:=?d1) (Q:=?Q1) (fun r t=>∃(L:Int) (zs:List Int) (H1:Heap),r=vcall C frz 203 [v,.int .i64 a,.int .i64 b] H1∧t 0=v∧t 1=.int .i64 a∧t 2=.int .i64 b∧t 3=.int .i64 L∧t 10=.int .i64 n1∧t 8=.bool w1∧t 9=.bool w2∧
    Sw A B xs zs∧Pq zs A B a b∧Ow Fl.int e H1 v zs∧Chg H H1 (ids v)) ?main1 ?rest1
   case main1=>
    intro rest
    have h10:=True.intro
    refine wp_bool ?_ ?_<;>intro g3
    ·simp [h0,h1,h2,h3,h8,h9]
     refine rest _ _ ?_
     exact ⟨L,ys,H',rfl,by simp [h0],by simp [h1],by simp [h2],by simp [h3],by simp [h10],by simp [h8],by simp [h9],sw,pq,o,c⟩
    ·simp [h0,h1,h2,h3,h8,h9]
     refine wp_thn (breakPat_w v ys e a b o l2 (by omega) (by omega) hf (by have:=c.1;omega)) ?_
     rintro _ H1 ⟨zs,sw1,o1,c1⟩
     simp [h0,h1,h2,h3,h8,h9]
     refine rest _ _ ?_
     exact ⟨IntKind.i64.wrap (L-1),zs,H1,rfl,by simp [h0],by simp [h1],by simp [h2],by simp,by simp,by simp [h8],by simp [h9],sw.trans (sw1.mono l1 l3),pq.sw sw1 (by omega),o1,c.trans c1⟩
   case rest1=>
    clear h0 h1 h2 h3 h8 h9 sw pq o c len
    rintro _ t ⟨L,ys,H',rfl,h0,h1,h2,h3,h10,h8,h9,sw,pq,o,c⟩
    have len:=sw.len
    refine wp_thn (choosePivot_w v ys e a b o (by omega) (by omega) (by omega) (by have:=c.1;omega)) ?_
    rintro _ H1 ⟨⟨p,k,rfl,hp1,hp2⟩,c1⟩
    have o1:=o.chg c1 (by simp)
    have cH1:=c.trans (c1.mono (by simp))
    simp [h0,h1,h2,h3,h8,h9]
    refine wp_joing (F:=?F2) (k:=?k2) (d:=?d2) (want:=?w2) (op:=?op2) (Q:=?Q2) (fun c t H1=>c=.bool w1∧∃(p:Nat) (k:Int) (zs:List Int),(a≤p∧p<b)∧t 0=v∧t 1=.int .i64 a∧t 2=.int .i64 b∧t 3=.int .i64 L∧t 10=.int .i64 n1∧t 8=.bool w1∧t 9=.bool w2∧t 11=.int .i64 p∧t 12=.int .i64 k∧t 62=.bool w1∧
     Sw A B xs zs∧Pq zs A B a b∧Ow Fl.int e H1 v zs∧Chg H H1 (ids v)) ?main2 ?rest2
    case main2=>
     intro rest
     refine wp_dec ?_ ?_<;>intro g3
     ·simp [h0,h1,h2,h3,h8,h9]
      refine wp_thn (revRange_w v ys e a b o1 (by omega) (by omega) (by omega) hf) ?_
      rintro _ H2 ⟨zs,sw1,_,o2,c2,k2⟩
      obtain ⟨b1,hb1⟩:∃b1,b1=b-1:=⟨_,rfl⟩
      obtain ⟨p1,hp3⟩:∃p1,p1=p-a:=⟨_,rfl⟩
      obtain ⟨p2,hp4⟩:∃p2,p2=b1-p1:=⟨_,rfl⟩
      have e2:∀[Inhabited Unit],IntKind.i64.wrap ((b:Int)-1)=(b1:Int):=by intro _;rw [w64 (by omega) (by omega)];omega
      have e3:∀[Inhabited Unit],IntKind.i64.wrap ((p:Int)-a)=(p1:Int):=by intro _;rw [w64 (by omega) (by omega)];omega
      have e4:∀[Inhabited Unit],IntKind.i64.wrap ((b1:Int)-p1)=(p2:Int):=by intro _;rw [w64 (by omega) (by omega)];omega
      simp [h0,h1,h2,h3,h8,h9,e2,e3,e4]
      refine rest _ _ _ ?_
      exact ⟨rfl,p2,1,zs,by omega,by simp [h0],by simp [h1],by simp [h2],by simp [h3],by simp [h10],by simp [h8],by simp [h9],by simp,by simp,by simp,sw.trans (sw1.mono l1 l3),pq.sw sw1 (by omega),o2,cH1.trans c2⟩
     ·simp [h0,h1,h2,h3,h8,h9]
      refine rest _ _ _ ?_
      exact ⟨rfl,p,k,ys,by omega,by simp [h0],by simp [h1],by simp [h2],by simp [h3],by simp [h10],by simp [h8],by simp [h9],by simp,by simp,by simp,sw,pq,o1,cH1⟩
    case rest2=>
     clear h0 h1 h2 h3 h8 h9 sw pq o c len o1 c1 cH1 hp1 hp2
     rintro _ t H1 ⟨rfl,p,k,ys,hp,h0,h1,h2,h3,h10,h8,h9,h11,h12,h62,sw,pq,o,c⟩
     have len:=sw.len
     refine wp_join (F:=?F3) (k:=?k3) (Q:=?Q3) (fun t H1=>∃(zs:List Int),t 0=v∧t 1=.int .i64 a∧t 2=.int .i64 b∧t 3=.int .i64 L∧t 10=.int .i64 n1∧t 8=.bool w1∧t 9=.bool w2∧t 11=.int .i64 p∧
      Sw A B xs zs∧Pq zs A B a b∧Ow Fl.int e H1 v zs∧Chg H H1 (ids v)) ?main3 ?rest3
     case main3=>
      intro rest
      refine wpg_bool ?_ ?_<;>intro g3
      ·simp [h0,h1,h2,h3,h8,h9,h11,h12,h62,g3]
       refine wpg_bool ?_ ?_<;>intro g4
       ·simp [h0,h1,h2,h3,h8,h9,h11,h12,h62,g3,g4]
        refine wp_dec ?_ ?_<;>intro g5
        ·simp [h0,h1,h2,h3,h8,h9,h11,h12]
         refine wp_thn (partIns_w v ys e a b o (by omega) (by omega) (by omega) (fun h0 k k1 k2=>pq.below h0 k k1 (by omega)) hf) ?_
         rintro _ H2 ⟨d,rfl,zs,sw1,sr1,o2,c2,k2⟩
         simp
         refine wp_bool ?_ ?_<;>intro g6
         ·simp
          exact ⟨zs,sw.trans (sw1.mono l1 l3),(pq.sw sw1 (by omega)).done (sr1 g6),o2,c.trans c2⟩
         ·simp
          refine rest _ _ ?_
          exact ⟨zs,by simp [h0],by simp [h1],by simp [h2],by simp [h3],by simp [h10],by simp [h8],by simp [h9],by simp [h11],sw.trans (sw1.mono l1 l3),pq.sw sw1 (by omega),o2,c.trans c2⟩
        ·simp
         refine rest _ _ ?_
         exact ⟨ys,by simp [h0],by simp [h1],by simp [h2],by simp [h3],by simp [h10],by simp [h8],by simp [h9],by simp [h11],sw,pq,o,c⟩
       ·simp [h0,h1,h2,h3,h8,h9,h11,h12,h62,g3,g4]
        refine rest _ _ ?_
        exact ⟨ys,by simp [h0],by simp [h1],by simp [h2],by simp [h3],by simp [h10],by simp [h8,g3],by simp [h9,g4],by simp [h11],sw,pq,o,c⟩
      ·simp [h0,h1,h2,h3,h8,h9,h11,h12,h62,g3]
       refine rest _ _ ?_
       exact ⟨ys,by simp [h0],by simp [h1],by simp [h2],by simp [h3],by simp [h10],by simp [h8,g3],by simp [h9],by simp [h11],sw,pq,o,c⟩
     case rest3=>
      clear h0 h1 h2 h3 h8 h9 h11 h12 sw pq o c len
      rintro t H1 ⟨ys,h0,h1,h2,h3,h10,h8,h9,h11,sw,pq,o,c⟩
      have len:=sw.len
      have q1:p<ys.length:=by omega
      rw [go_draw (h:=by kernel_rfl)]
      simp [h0,h1,h2,h3,h8,h9,h11]
      refine wp_joinc (F:=?F4) (k:=?k4) (d:=?d4) (Q:=?Q4) (fun r t=>r=vcall C frz 208 [v,.int .i64 a,.int .i64 b,.int .i64 p] H1∧t 0=v∧t 1=.int .i64 a∧t 2=.int .i64 b∧t 3=.int .i64 L∧t 10=.int .i64 n1) ?main4 ?rest4
      case main4=>
       intro rest
       refine wpg_dec ?_ ?_<;>intro g3
       ·have e5:∀[Inhabited Unit],IntKind.i64.wrap ((a:Int)-1)=((a-1:Nat):Int):=by intro _;rw [w64 (by omega) (by omega)];omega
        have q2:a-1<ys.length:=by omega
        simp [h0,h1,h2,h3,h8,h9,h11,g3,e5,ow_ix o q1,ow_ix o q2,ow_ld o q1,ow_ld o q2,less_c]
        refine wp_dec ?_ ?_<;>intro g4
        ·simp [h0,h1,h2,h3,h8,h9,h11]
         refine rest _ _ ?_
         exact ⟨rfl,by simp [h0],by simp [h1],by simp [h2],by simp [h3],by simp [h10]⟩
        ·simp [h0,h1,h2,h3,h8,h9,h11]
         refine wp_thn (partEq_w v ys e a b p o hp (by omega) (by omega) hf) ?_
         rintro _ H2 ⟨m,rfl,m1,m2,zs,sw1,⟨f1,f2⟩,o2,c2,k2⟩
         simp [h0,h1,h2,h3,h8,h9,h11]
         have low:=(pq.sw sw1 (by omega)).below g3
         have out:=sw1.out (by omega) (k:=a-1) (by omega)
         refine ih (b-m) _ _ ⟨m,b,L,w1,w2,rfl,by simp [h0],by simp,by simp [h2],by simp [h3],by simp [h8],by simp [h9],zs,sw.trans (sw1.mono l1 l3),(pq.sw sw1 (by omega)).eq ⟨m1,m2⟩ (fun k k1 k2=>?_) f1 f2,o2,c.trans c2⟩ (by omega)
         have:=low k k1 (by omega);omega
       ·simp [h0,h1,h2,h3,h8,h9,h11,g3]
        refine rest _ _ ?_
        exact ⟨rfl,by simp [h0],by simp [h1],by simp [h2],by simp [h3],by simp [h10]⟩
      case rest4=>
       rintro _ t ⟨rfl,h0,h1,h2,h3,h10⟩
       refine wp_thn (part_w v ys e a b p o hp (by omega) (by omega) hf) ?_
       rintro _ H2 ⟨m,d,rfl,m1,m2,zs,sw1,⟨f1,f2⟩,o2,c2,k2⟩
       have pq2:=pq.sw sw1 (by omega)
       have len2:=sw1.len
       obtain ⟨r1,hr1⟩:∃r1,r1=m-a:=⟨_,rfl⟩
       obtain ⟨r2,hr2⟩:∃r2,r2=b-m:=⟨_,rfl⟩
       obtain ⟨mm,hmm⟩:∃mm,mm=m+1:=⟨_,rfl⟩
       have e6:∀[Inhabited Unit],IntKind.i64.wrap ((m:Int)-a)=(r1:Int):=by intro _;rw [w64 (by omega) (by omega)];omega
       have e7:∀[Inhabited Unit],IntKind.i64.wrap ((b:Int)-m)=(r2:Int):=by intro _;rw [w64 (by omega) (by omega)];omega
       have e8:∀[Inhabited Unit],IntKind.i64.wrap ((m:Int)+1)=(mm:Int):=by intro _;rw [w64 (by omega) (by omega)];omega
       have f1':∀k,a≤k→k<m→G zs k≤G zs m:=fun k k1 k2=>Int.le_of_lt (f1 k k1 k2)
       have cc:=c.trans c2
       have q8:∀[Inhabited Unit],IntKind.i64.wrap ((n1:Int)/8)=(n1/8:Nat):=by intro _;rw [w64 (by omega) (by omega)];omega
       obtain ⟨n8,hn8⟩:∃n8,n8=n1/8:=⟨_,rfl⟩
       rw [← hn8] at q8
       simp [h0,h1,h2,h3,h10,e6,e7,e8,q8]
       refine wp_dec ?_ ?_<;>intro g7
       ·simp [h0,h1,h2,h3,h10]
        refine wp_thn (IH (m-a) (by omega) H2 v zs e a m L o2 (Nat.le_refl _) (by omega) (by omega) (by omega) (fun q0 k k1 k2=>pq2.below q0 k k1 (by omega)) hf (by have:=cc.1;omega)) ?_
        rintro _ H3 ⟨ws,sw3,sr3,o3,c3⟩
        simp [h0,h1,h2,h3,h10,e8]
        have hbz:m≤zs.length:=by omega
        have wm:G ws m=G zs m:=sw3.out hbz (.inr (Nat.le_refl _))
        refine ih (b-mm) _ _ ⟨mm,b,L,decide (n8≤r1),d,rfl,by simp [h0],by simp,by simp [h2],by simp [h3],by simp,by simp,ws,(sw.trans (sw1.mono l1 l3)).trans (sw3.mono l1 (by omega)),?_,o3,cc.trans c3⟩ (by omega)
        rw [hmm]
        refine (pq2.sw (sw3.mono (Nat.le_refl _) (by omega)) (by omega)).goRight ⟨m1,m2⟩ sr3 ?_ (fun k k1 k2=>?_)
        ·rw [wm];exact sw3.all hbz (p:=fun y=>y≤G zs m) f1'
        ·rw [wm,sw3.out hbz (.inr (by omega))];exact f2 k k1 k2
       ·simp [h0,h1,h2,h3,h10,e8]
        refine wp_thn (IH (b-mm) (by omega) H2 v zs e mm b L o2 (Nat.le_refl _) (by omega) (by omega) (by omega) (fun q0 k k1 k2=>by rw [show mm-1=m by omega];exact f2 k (by omega) k2) hf (by have:=cc.1;omega)) ?_
        rintro _ H3 ⟨ws,sw3,sr3,o3,c3⟩
        simp [h0,h1,h2,h3,h10,e8]
        have hbz:b≤zs.length:=by omega
        have wm:G ws m=G zs m:=sw3.out hbz (.inl (by omega))
        refine ih (m-a) _ _ ⟨a,m,L,decide (n8≤r2),d,rfl,by simp [h0],by simp [h1],by simp,by simp [h3],by simp,by simp,ws,(sw.trans (sw1.mono l1 l3)).trans (sw3.mono (by omega) l3),?_,o3,cc.trans c3⟩ (by omega)
        refine (pq2.sw (sw3.mono (by omega) (Nat.le_refl _)) (by omega)).goLeft ⟨m1,m2⟩ (hmm▸sr3) (fun k k1 k2=>?_) (fun k k1 k2=>?_)
        ·rw [wm,sw3.out hbz (.inl (by omega))];exact f1' k k1 k2
        ·rw [wm];exact sw3.all hbz (p:=fun y=>G zs m≤y) (fun k k1 k2=>f2 k (by omega) k2) k (by omega) k2
theorem sorted_eq {xs ys:List Int} (h1:xs.Pairwise (·≤·)) (h2:ys.Pairwise (·≤·)) (h:xs.Perm ys):xs=ys:=
 List.Perm.eq_of_pairwise (le:=(·≤·)) (fun a b _ _ h1 h2=>Int.le_antisymm h1 h2) h1 h2 h
def isort (xs:List Int):List Int:=xs.mergeSort (fun a b=>decide (a≤b))
theorem isort_perm (xs:List Int):(isort xs).Perm xs:=List.mergeSort_perm xs _
theorem isort_sorted (xs:List Int):(isort xs).Pairwise (·≤·):=by
 have:=List.pairwise_mergeSort (le:=fun a b:Int=>decide (a≤b)) (fun a b c h1 h2=>by simp at *;omega) (fun a b=>by simp;omega) xs
 exact this.imp (fun h=>by simpa using h)
theorem isort_len (xs:List Int):(isort xs).length=xs.length:=(isort_perm xs).length_eq
theorem sort_w (v:Value) (xs:List Int) (e:TypeId) (h:Ow Fl.int e H v xs) (hl:xs.length≤1073741824) (hf:∀i∈ids v,frz≤i) (hF:frz≤H.length) :
 wp (vcall C frz 108 [v] H) (fun _ H'=>Ow Fl.int e H' v (isort xs)∧Chg H H' (ids v)):=by
 rw [vcall_go (fn:=Tryz.f108) Tryz.func108 rfl (by kernel_rfl) rfl]
 have e1:∀[Inhabited Unit],IntKind.u64.wrap (xs.length:Int)=(xs.length:Int):=by intro _;exact w64u (by omega) (by omega)
 simp [h.rd.len,e1]
 refine wp_thn (len_w xs.length (by omega)) ?_
 rintro _ H0 ⟨hH,n,rfl,_⟩
 rw [hH]
 simp
 have:=pdq_w (frz:=frz) xs.length H v xs e 0 xs.length n h (by omega) (by omega) (Nat.le_refl _) hl (fun h=>by omega) hf hF
 refine wp_thn (by simpa using this) ?_
 rintro _ H1 ⟨ys,sw,sr,o,c⟩
 simp
 have hys:ys=isort xs:=by
  have hp:=sw.perm (Nat.le_refl _)
  rw [← sw.len] at sr
  exact sorted_eq sr.pairwise (isort_sorted xs) (hp.trans (isort_perm xs).symm)
 subst hys
 exact ⟨o,c⟩
end Go.Proofs.YtcigpclbhfkgaaaGreat.V
set_option linter.all false
namespace Go.Proofs.YtcigpclbhfkgaaaGreat.V
open Go Go.VM Go.Proofs
set_option maxRecDepth 10000
variable {frz:Nat} {H:Heap} {v:Value} {xs ys:List Int} {e:TypeId}
theorem ow_tail (o:Ow Fl.int 3 H v xs) (h0:0<xs.length) {l:Nat} (hl:l≤xs.length):∃z,∀(H':Heap) (ys:List Int),Ow Fl.int 3 H' v ys→ys.length=xs.length→
 vslice Tryz.prog H' 24 (some (.int .i64 (l:Nat))) none v=some z∧Ow Fl.int 3 H' z (ys.drop l)∧ids z=ids v:=by
 rcases o with ⟨_,rfl⟩|⟨id,off,r,rfl,k2,k3,k4,k5,k6⟩
 ·simp at h0
 ·refine ⟨.slice (some ⟨id,off+l*1,some r.gen⟩) (xs.length-l) 0,fun H' ys o' hlen=>?_⟩
  obtain ⟨z',h1,h2,h3⟩:=o'.slice (P:=Tryz.prog) (ty:=24) (lo:=some (.int .i64 (l:Int))) (hi:=none) (l:=l) (u:=ys.length) (by simp) rfl rfl (by omega) (Nat.le_refl _)
  have e:(ys.drop l).take (ys.length-l)=ys.drop l:=List.take_of_length_le (by simp)
  rw [e] at h2
  have hz:z'=.slice (some ⟨id,off+l*1,some r.gen⟩) (xs.length-l) 0:=by
   rcases o' with ⟨hv,_⟩|⟨id',off',r',hv,q2,q3,q4,q5,q6⟩
   ·cases hv
   ·injection hv with hv1 hv2
    injection hv1 with hv1
    injection hv1 with i1 i2 i3
    injection i3 with i3
    subst i1 i2
    have hle:(l:Int)≤(xs.length:Int):=by omega
    simp [vslice,VM.look,q2,i3,vbound,q5,hle] at h1
    simp [← h1,i3]
  rw [← hz]
  exact ⟨h1,h2,h3⟩
theorem ow_clear (o:Ow Fl.int 3 H v ys) (h0:0<ys.length) {l:Nat} (hl:l≤ys.length) {z:Value} (hz:vslice Tryz.prog H 24 (some (.int .i64 (l:Nat))) none v=some z) (hf:∀i∈ids v,frz≤i) :
 ∃H' zs,vclear Tryz.prog frz H 24 z=some (undef,H')∧zs.length=ys.length∧zs.take l=ys.take l∧Ow Fl.int 3 H' v zs∧Chg H H' (ids v):=by
 rcases o with ⟨_,rfl⟩|⟨id,off,r,rfl,k2,k3,k4,k5,k6⟩
 ·simp at h0
 ·have hle:(l:Int)≤(ys.length:Int):=by omega
  simp [vslice,VM.look,k2,vbound,k5,hle] at hz
  subst hz
  have hfr:frz≤id:=hf id (by simp)
  have hn:Fl.int.n=1:=rfl
  rw [hn] at k3 k4
  have hroom:off+l+(ys.length-l)≤r.cells.length:=by omega
  refine ⟨H.set id { r with cells:=VM.splice r.cells (off+l) (List.replicate (ys.length-l) [Value.int .i64 0]).flatten },ys.take l++List.replicate (ys.length-l) 0,?_,by simp;omega,by rw [List.take_append_of_le_length (by simp;omega),List.take_take,Nat.min_self],?_,chg_set _ _⟩
  ·simp [vclear,VM.look,k2,hfr,hroom,ones,VM.one]
  ·have hcl:((List.replicate (ys.length-l) [Value.int .i64 0]).flatten).length=ys.length-l:=by simp
   have hlt:id<H.length:=box_lt k2
   have hzl:(ys.take l++List.replicate (ys.length-l) (0:Int)).length=ys.length:=by simp;omega
   refine .inr ⟨id,off,{ r with cells:=VM.splice r.cells (off+l) (List.replicate (ys.length-l) [Value.int .i64 0]).flatten },by rw [hzl],by simp [hlt],?_,?_,k5,ones_splice k6 (by simp [ones,VM.one])⟩
   ·rw [hzl,hn,splice_region k3 k4 (by rw [hcl];omega),cellsOf_int,cellsOf_int]
    unfold VM.splice
    rw [hcl]
    have e1:(List.map (Value.int .i64) ys).drop (l+(ys.length-l))=[]:=by rw [List.drop_eq_nil_iff];simp;omega
    rw [e1,List.append_nil,List.map_append,List.map_take]
    simp
   ·rw [hzl,hn,splice_len (by rw [hcl];omega)];exact k4
end Go.Proofs.YtcigpclbhfkgaaaGreat.V
set_option linter.all false
namespace Go.Proofs.YtcigpclbhfkgaaaGreat.V
open Go Go.VM Go.Proofs
set_option maxRecDepth 10000
variable {frz:Nat} {H:Heap}
def placeP (p:Int→Bool) (b:List Int):Int:=if b.any p then b.findIdx p else -1
theorem placeP_at {p:Int→Bool} {b:List Int} {i:Nat} (h:i<b.length) (h1:∀x∈b.take i,p x=false) (h2:p b[i]=true):placeP p b=i:=by
 unfold placeP
 rw [if_pos (List.any_eq_true.2 ⟨b[i],List.getElem_mem h,h2⟩)]
 congr 1
 rw [List.findIdx_eq h]
 refine ⟨h2,fun j hj=>?_⟩
 refine Bool.eq_false_iff.1 ?_ |> fun hh=>by simpa using hh
 exact h1 _ (by rw [List.mem_take_iff_getElem];exact ⟨j,by omega,rfl⟩)
theorem indexFunc_c (v f:Value) (p:Int→Bool) (b:List Int) (hI:IsI H v b) (hl:b.length≤1073741824)
 (hf:∀x∈b,vclos (vcall C H.length) f [.int .i64 x] H=some (.bool (p x),H)) :
 vcall C frz 254 [v,f] H=some (.int .i64 (placeP p b),H):=by
 rw [vcall_go (fn:=Tryz.f254) Tryz.func254 rfl (by kernel_rfl) rfl]
 simp [hI.len]
 refine go_inv (fun n t H'=>∃i:Nat,n=b.length-i∧i≤b.length∧t 0=v∧t 1=f∧t 6=v∧t 7=.int .i64 b.length∧t 8=.int .i64 i∧H'=H∧∀x∈b.take i,p x=false) ?_ (n:=b.length) ⟨0,by simp⟩
 rintro n t H' ⟨i,rfl,hi,h0,h1,h2,h3,h4,rfl,hj⟩ ih
 simp [h0,h1,h2,h3,h4,hI.len]
 refine br_dec _ ?_ ?_<;>intro h5
 ·simp [h0,h1,h2,h3,h4,h5,hI.idx,hI.load,getD_get,hf]
  refine br_eq _ ?_ ?_<;>intro h6<;>simp [h0,h1,h2,h3,h4,h6]
  ·rw [placeP_at h5 hj h6]
  ·refine ih (b.length-(i+1)) _ _ ⟨i+1,rfl,by omega,by simp [h0],by simp [h1],by simp [h2],by simp [h3],?_,rfl,?_⟩ (by omega)
   ·simp;rw [w64 (by omega) (by omega)]
   ·rw [List.take_succ_eq_append_getElem h5]
    intro x hx
    rcases List.mem_append.1 hx with hx|hx
    ·exact hj x hx
    ·rw [List.mem_singleton.1 hx];exact h6
 ·have:i=b.length:=by omega
  subst this
  simp [h0,h1,h2,h3]
  rw [List.take_length] at hj
  rw [placeP,if_neg]
  rw [List.any_eq_true]
  rintro ⟨x,hx,hp⟩
  rw [hj x hx] at hp;cases hp
end Go.Proofs.YtcigpclbhfkgaaaGreat.V
set_option linter.all false
namespace Go.Proofs.YtcigpclbhfkgaaaGreat.V
open Go Go.VM Go.Proofs
set_option maxRecDepth 10000
variable {frz:Nat} {H:Heap} {v:Value} {xs:List Int}
theorem filter_none {p:Int→Bool} {l:List Int} (h:l.any p=false):l.filter (fun x=>!p x)=l:=by
 rw [List.filter_eq_self]
 intro x hx
 cases hp:p x with
 | false=>rfl
 | true=>rw [List.any_eq_true.2 ⟨x,hx,hp⟩] at h;cases h
theorem placeP_first {p:Int→Bool} {b:List Int} (h:b.any p=true):∃i:Nat,placeP p b=i∧i<b.length∧(∀x∈b.take i,p x=false)∧∀(hi:i<b.length),p b[i]=true:=by
 have hl:b.findIdx p<b.length:=by
  obtain ⟨x,hx,hp⟩:=List.any_eq_true.1 h
  exact List.findIdx_lt_length_of_exists ⟨x,hx,hp⟩
 refine ⟨b.findIdx p,by rw [placeP,if_pos h],hl,fun x hx=>?_,fun hi=>List.findIdx_getElem⟩
 obtain ⟨j,hj,rfl⟩:=List.mem_iff_getElem.1 hx
 rw [List.length_take] at hj
 rw [List.getElem_take]
 have:=List.not_of_lt_findIdx (p:=p) (xs:=b) (i:=j) (by omega)
 simpa using this
theorem deleteFunc_w (v f:Value) (p:Int→Bool) (xs:List Int) (h:Ow Fl.int 3 H v xs) (hl:xs.length≤1073741824) (hf:∀i∈ids v,frz≤i)
 (hc:∀K,Chg H K (ids v)→∀F,∀x∈xs,vclos (vcall C F) f [.int .i64 x] K=some (.bool (p x),K)) :
 wp (vcall C frz 230 [v,f] H) (fun u H'=>Ow Fl.int 3 H' u (xs.filter fun x=>!p x)∧(∀i∈ids u,i∈ids v)∧Chg H H' (ids v)):=by
 rw [vcall_go (fn:=Tryz.f230) Tryz.func230 rfl (by kernel_rfl) rfl]
 have ix:=fun F=>indexFunc_c (frz:=F) v f p xs h.rd.isI hl (fun x hx=>hc H (Chg.refl _) _ x hx)
 simp [ix]
 by_cases g0:xs.any p=true
 rotate_left
 ·have g0':xs.any p=false:=by simpa using g0
  have e:placeP p xs=-1:=by rw [placeP,if_neg g0]
  simp [e]
  rw [filter_none g0']
  exact ⟨h,Chg.refl _⟩
 obtain ⟨k0,e,hk0,hb,hat⟩:=placeP_first g0
 have e':¬((k0:Int)=-1):=by omega
 have w1:∀[Inhabited Unit],IntKind.i64.wrap ((k0:Int)+1)=((k0+1:Nat):Int):=by intro _;rw [w64 (by omega) (by omega)];omega
 have f0:(xs.take (k0+1)).filter (fun x=>!p x)=xs.take k0:=by
  rw [List.take_succ_eq_append_getElem hk0,List.filter_append,List.filter_eq_self.2 (fun x hx=>by rw [hb x hx];rfl)]
  simp [hat hk0]
 simp [e,e']
 refine wp_inv (fun n t H'=>∃(k j:Nat) (ys:List Int),n=xs.length-j∧j≤xs.length∧k<j∧t 0=v∧t 1=f∧t 5=.int .i64 k∧t 6=.int .i64 j∧ys.length=xs.length∧ys.take k=(xs.take j).filter (fun x=>!p x)∧(∀m,j≤m→G ys m=G xs m)∧
  Ow Fl.int 3 H' v ys∧Chg H H' (ids v)) ?_ (n:=xs.length-(k0+1))
  ⟨k0,k0+1,xs,rfl,by omega,by omega,by simp,by simp,by simp,by simp [w1],rfl,f0.symm,fun m hm=>rfl,h,Chg.refl _⟩
 rintro n t H' ⟨k,j,ys,rfl,hj,hk,t0,t1,t5,t6,hlen,htk,hG,o,ch⟩ ih
 have lz:=o.rd.len (P:=Tryz.prog) (ty:=24) (by simp)
 simp [t0,t1,t5,t6,lz,hlen]
 refine wp_dec ?_ ?_<;>intro g
 ·have hj':j<xs.length:=by omega
  have hjy:j<ys.length:=by omega
  have hkl:k<ys.length:=by omega
  have e3:∀[Inhabited Unit],IntKind.i64.wrap ((j:Int)+1)=((j+1:Nat):Int):=by intro _;rw [w64 (by omega) (by omega)];omega
  have e4:∀[Inhabited Unit],IntKind.i64.wrap ((k:Int)+1)=((k+1:Nat):Int):=by intro _;rw [w64 (by omega) (by omega)];omega
  have hGx:G xs j=xs[j]:=G_get hj'
  have cl:=fun F=>hc H' ch F (G xs j) (by rw [hGx];exact List.getElem_mem hj')
  have hts:(xs.take (j+1)).filter (fun x=>!p x)=(xs.take j).filter (fun x=>!p x)++(if p (G xs j)=true then [] else [G xs j]):=by
   rw [List.take_succ_eq_append_getElem hj',List.filter_append,hGx]
   cases hpj:p xs[j]<;>simp [hpj]
  generalize hX:G xs j=X at *
  simp [t0,t1,t5,t6,ow_ix o hjy,ow_ld o hjy,hG j (Nat.le_refl _),hX,cl]
  cases hp:p X with
  | true=>
   rw [if_pos hp] at hts
   simp [t0,t1,t5,t6]
   refine ih (xs.length-(j+1)) _ _ ⟨k,j+1,ys,rfl,by omega,by omega,by simp [t0],by simp [t1],by simp [t5],by simp [e3],hlen,by rw [hts,List.append_nil];exact htk,fun m hm=>hG m (by omega),o,ch⟩ (by omega)
  | false=>
   rw [if_neg (by rw [hp];simp)] at hts
   obtain ⟨H2,s2,o2,c2,l2⟩:=o.put1 (P:=Tryz.prog) (frz:=frz) rfl (et:=3) (ag:=false) (by simp) hkl (x:=.int .i64 X) (y:=X) rfl rfl rfl hf
   simp [t0,t1,t5,t6,ow_ix o hkl,s2]
   refine ih (xs.length-(j+1)) _ _ ⟨k+1,j+1,ys.set k X,rfl,by omega,by omega,by simp [t0],by simp [t1],by simp [e4],by simp [e3],by simp [hlen],?_,fun m hm=>?_,o2,ch.trans c2⟩ (by omega)
   ·rw [hts,← htk,List.take_succ_eq_append_getElem (by simpa using hkl),List.getElem_set_self]
    simp [List.take_set_of_le]
   ·have hmk:m≠k:=by omega
    have:G (ys.set k X) m=G ys m:=by simp [G,List.getD_eq_getElem?_getD,List.getElem?_set_ne (Ne.symm hmk)]
    rw [this];exact hG m (by omega)
 ·have hjl:j=xs.length:=by omega
  have hkl:k≤ys.length:=by omega
  have hn:0<ys.length:=by omega
  obtain ⟨y,hy⟩:=ow_tail o hn (l:=k) hkl
  obtain ⟨y1,_,_⟩:=hy H' ys o rfl
  obtain ⟨H2,zs,cl,zl,zt,oz2,c2⟩:=ow_clear o hn hkl y1 hf
  obtain ⟨q,q1,q2,q3⟩:=oz2.slice (P:=Tryz.prog) (ty:=24) (lo:=none) (hi:=some (.int .i64 (k:Int))) (l:=0) (u:=k) (by simp) rfl rfl (Nat.zero_le _) (by omega)
  simp [t0,t1,t5,t6,y1,cl,q1]
  simp only [List.drop_zero,Nat.sub_zero,zt,htk,hjl,List.take_length] at q2
  exact ⟨q2,by rw [q3];exact fun i hi=>hi,ch.trans c2⟩
end Go.Proofs.YtcigpclbhfkgaaaGreat.V
set_option linter.all false
namespace Go.Proofs.YtcigpclbhfkgaaaGreat.V
open Go Go.VM Go.Proofs
set_option maxRecDepth 10000
variable {frz:Nat} {H:Heap}
theorem l17Wanted_c {v:NetV} {x:NetD} {a i:Nat} (o':dNet.Ow H v x) (hx:runOk x) (ha:(a:Int)<cnt x.1.1 x.1.2.1) (hi:i<10) :
 vcall C frz 249 [dNet.val v x,.int .i64 a,.int .i64 i] H=some (.int .i64 (wantedN x a i),H):=by
 refine wp.exact (by simp) ?_ rfl
 have ones:=dNet_one o'
 have cr:=cnt_range x.1.1 x.1.2.1
 simp only [dNet_val]
 rw [vcall_go (fn:=Tryz.f249) Tryz.func249 rfl (by kernel_rfl) rfl]
 obtain ⟨d,hd⟩:∃d,d=10*a+i:=⟨_,rfl⟩
 obtain ⟨c,hc⟩:∃c,c=i%2:=⟨_,rfl⟩
 obtain ⟨q,hq⟩:∃q,q=i/2:=⟨_,rfl⟩
 generalize hY:wantedN x a i=Y
 unfold wantedN at hY
 rw [← hd,← hc,← hq] at hY
 have e1:=@w6 (10*(a:Int)) (by omega)
 have e2:∀[Inhabited Unit],IntKind.i64.wrap (10*(a:Int)+(i:Int))=(d:Int):=by intro _;rw [w64 (by omega) (by omega)];omega
 have e3:∀[Inhabited Unit],(i:Int).tmod 2=(c:Int):=by intro _;rw [tmod2];omega
 have e3':∀[Inhabited Unit],(i:Int)%2=(c:Int):=by intro _;omega
 have e4:∀[Inhabited Unit],IntKind.i64.wrap ((i:Int)/2)=(q:Int):=by intro _;rw [w64 (by omega) (by omega)];omega
 obtain ⟨G,hG⟩:∃G,G=H++[⟨netCells v x,0,46⟩]:=⟨_,rfl⟩
 have o:dNet.Ow G v x:=hG▸Dt.app (T:=dNet) o'
 have hr:G[H.length]? = some ⟨netCells v x,0,46⟩:=by rw [hG];simp
 have hGs:H++[⟨netCells v x,0,46⟩]=G:=hG.symm
 unfold netCells at hr hGs
 have hl:d<x.2.2.1.length:=by have:=hx.2.1.1;omega
 obtain ⟨u,a1,a2,a3,a4⟩:=RdL_at o.2.2.1.1.rd (ty:=44) (e:=113) (by simp) (by simp) hl
 have la:=a4.len (P:=Tryz.prog) (ty:=113) (by simp)
 have hgd:x.2.2.1.getD d []=x.2.2.1[d]:=by simp [List.getD_eq_getElem?_getD,hl]
 have hho:headOf x d=headL x.2.2.1[d]:=by unfold headOf;rw [hgd]
 have qa:VM.one u=true∧u.cells=#[u]:=⟨a4.one',a4.cells⟩
 simp [ones]
 rw [hGs]
 simp [VM.look,hr,ones,e1,e2,e3,e3',a2,a3,la]
 rw [hgd,hho] at hY
 by_cases g0:x.2.2.1[d]=[]
 ·rw [if_pos g0] at hY
  simp [g0,hY]
 rw [if_neg g0] at hY
 have g0':¬(x.2.2.1[d].length:Int)=0:=by
  have:=List.length_pos_iff.2 g0;omega
 have g0n:¬x.2.2.1[d].length=0:=by omega
 obtain ⟨z0,f1,f2,f3,c1,c2,c3,_⟩:=front a4 g0
 obtain ⟨k1,k2⟩:=hx.2.2.1 d _ (by rw [hgd];exact headL_mem g0)
 generalize headL x.2.2.1[d]=f at *
 simp [-vfieldAddr,vfa_ptr,g0',g0n,g0,z0,f3,c3]
 by_cases g1:f.2.2.2.1=true
 ·rw [if_pos g1] at hY
  simp only [g1]
  have ha':isN x.1.1 x.1.2.1 a:=⟨by omega,ha⟩
  obtain ⟨k0,k0',k3,k4⟩:=at_small ha' k2.1
  obtain ⟨N,hN⟩:∃N,N=cnt x.1.1 x.1.2.1:=⟨_,rfl⟩
  have e5:∀[Inhabited Unit],IntKind.i64.wrap ((a:Int)*N)=a*N:=by intro _;rw [hN];exact w64 (by omega) (by omega)
  have e6:∀[Inhabited Unit],IntKind.i64.wrap ((a:Int)*N+f.2.1)=a*N+f.2.1:=by intro _;rw [hN];exact w64 (by omega) (by have:=k2.1.2;omega)
  have nc:=fun F=>sNodeCount_c (frz:=F) (H:=G) x.1.1 x.1.2.1
  rw [← hN] at nc
  simp [VM.look,hr,ones,nc]
  by_cases g2:c=1
  ·rw [if_pos g2] at hY
   have hT:=Rd.isI o.2.1.2.1.rd
   have hs:=hx.1.2.1.2
   have q1:vindexAddr Tryz.prog G 24 v.2.1.2 (.int .i64 (a*N+f.2.1))=some (elp v.2.1.2 (a*N+f.2.1).toNat):=by rw [hN];exact hT.idx (e:=3) (by simp) k0 (by omega)
   have q2:vload Tryz.prog G 3 (elp v.2.1.2 (a*N+f.2.1).toNat)=some (.int .i64 Y):=by rw [← hY];unfold portOf rd;rw [hN];exact hT.load (by simp) (by omega)
   subst g2
   simp
   rw [go_draw (h:=by kernel_rfl)]
   simp [-vfieldAddr,vfa_ptr,VM.look,hr,ones,e5,e6,z0,f1,c1,q1,q2]
  ·rw [if_neg g2] at hY
   have hT:=Rd.isI o.2.1.1.1.rd
   have hs:=hx.1.1.1.2
   have q1:vindexAddr Tryz.prog G 24 v.2.1.1 (.int .i64 (a*N+f.2.1))=some (elp v.2.1.1 (a*N+f.2.1).toNat):=by rw [hN];exact hT.idx (e:=3) (by simp) k0 (by omega)
   have q2:vload Tryz.prog G 3 (elp v.2.1.1 (a*N+f.2.1).toNat)=some (.int .i64 Y):=by rw [← hY];unfold portOf rd;rw [hN];exact hT.load (by simp) (by omega)
   have g2':¬(c:Int)=1:=by omega
   simp [g2,g2']
   rw [go_draw (h:=by kernel_rfl)]
   simp [-vfieldAddr,vfa_ptr,VM.look,hr,ones,e5,e6,z0,f1,c1,q1,q2]
 ·rw [if_neg g1] at hY
  simp only [g1]
  simp
  refine wp_inv (fun n t H'=>∃p:Nat,n=5-p∧p≤5∧t 1=.int .i64 a∧t 2=.int .i64 i∧t 3=.pointer (some ⟨H.length,0,some 0⟩)∧t 8=.int .i64 c∧t 10=.int .i64 p∧H'=G∧∀r,r<p→decide (x.2.2.2.1.getD (outAt a r c) 0=(q:Int))=false) ?_ (n:=5) ⟨0,by simp,by omega,by simp,by simp,by simp,by simp [e3,e3'],by simp,rfl,by omega⟩
  rintro n t H' ⟨p,rfl,hp,t1,t2,t3,t8,t10,rfl,hk⟩ ih
  simp [t1,t2,t3,t8,t10]
  refine wp_dec ?_ ?_<;>intro g
  ·have hp':p<5:=by omega
   have e7:=@w6 (2*(p:Int)) (by omega)
   have e8:=@w6 (10*(a:Int)+2*(p:Int)) (by omega)
   have hz:outAt a p c<x.2.2.2.1.length:=by have:=hx.2.1.2.1;unfold outAt;omega
   have e9:∀[Inhabited Unit],IntKind.i64.wrap (10*(a:Int)+2*(p:Int)+(c:Int))=(outAt a p c:Nat):=by intro _;unfold outAt;rw [w64 (by omega) (by omega)];omega
   have hgo:x.2.2.2.1.getD (outAt a p c) 0=x.2.2.2.1[outAt a p c]:=by simp [List.getD_eq_getElem?_getD,hz]
   generalize hzz:outAt a p c=z at *
   have rd:=Rd.isI o.2.2.2.1.1.rd
   have q1:=rd.idx (P:=Tryz.prog) (ty:=24) (e:=3) (by simp) (i:=(z:Int)) (by omega) (by omega)
   have q2:=rd.load (P:=Tryz.prog) (e:=3) (by simp) hz
   simp only [Int.toNat_natCast] at q1 q2
   rw [hgo] at q2
   simp [VM.look,hr,ones,t1,t2,t3,t8,t10,e1,e4,e7,e8,e9,q1,q2]
   refine wp_dec ?_ ?_<;>intro g2
   ·simp [t1,t2,t3,t8,t10]
    rw [find_range hp' (by rw [hzz,hgo];exact decide_eq_true g2) hk] at hY
    exact hY
   ·simp [t1,t2,t3,t8,t10]
    refine ih (5-(p+1)) _ _ ⟨p+1,rfl,by omega,by simp [t1],by simp [t2],by simp [t3],by simp [t8],?_,rfl,fun r hr'=>?_⟩ (by omega)
    ·simp;rw [w64 (by omega) (by omega)]
    ·by_cases hrp:r<p
     ·exact hk r hrp
     ·have:r=p:=by omega
      subst this
      rw [hzz,hgo];exact decide_eq_false g2
  ·have:p=5:=by omega
   subst this
   rw [find_range_none hk] at hY
   simp [t1,t2,t3,t8,t10,hY]
theorem l17Room_c {v:NetV} {x:NetD} {a p c:Nat} (o':dNet.Ow H v x) (hx:runOk x) (ha:(a:Int)<cnt x.1.1 x.1.2.1) (hp:p<5) (hc:c<2) :
 vcall C frz 250 [dNet.val v x,.int .i64 a,.int .i64 p,.int .i64 c] H=some (.bool (decide (roomN x a p c)),H):=by
 refine wp.exact (by simp) ?_ rfl
 have ones:=dNet_one o'
 have cr:=cnt_range x.1.1 x.1.2.1
 simp only [dNet_val]
 rw [vcall_go (fn:=Tryz.f250) Tryz.func250 rfl (by kernel_rfl) rfl]
 obtain ⟨G,hG⟩:∃G,G=H++[⟨netCells v x,0,46⟩]:=⟨_,rfl⟩
 have o:dNet.Ow G v x:=hG▸Dt.app (T:=dNet) o'
 have hr:G[H.length]? = some ⟨netCells v x,0,46⟩:=by rw [hG];simp
 have hGs:H++[⟨netCells v x,0,46⟩]=G:=hG.symm
 unfold netCells at hr hGs
 simp [ones]
 rw [hGs]
 by_cases h4:p=4
 ·subst h4;simp [roomN]
 have h4':¬(p:Int)=4:=by omega
 have e1:=@w6 (4*(a:Int)) (by omega)
 have e2:∀[Inhabited Unit],IntKind.i64.wrap (4*(a:Int)+(p:Int))=4*(a:Int)+p:=by intro _;exact w64 (by omega) (by omega)
 have lv:=fun F=>l03Has_c (frz:=F) (H:=G) x.1.1 x.1.2.1 v.1 x.1.2.2 (4*(a:Int)+p) (Rd.isI o.1.1.rd) o.1.2
 by_cases hh:has x.1.1 x.1.2.1 x.1.2.2 (4*(a:Int)+p)
 rotate_left
 ·simp [VM.look,hr,ones,e1,e2,lv,hh,h4,h4',roomN]
 obtain ⟨u1,u2,u3⟩:=tgt_val (c:=c) hh (by omega) hc
 obtain ⟨s1,s2,s3⟩:=tgt_ok (c:=c) hh (by omega)
 have hl:tgt x a p c<x.2.2.1.length:=by have:=hx.2.1.1;omega
 have hgd:x.2.2.1[tgt x a p c]?.getD []=x.2.2.1[tgt x a p c]:=by simp [hl]
 have key:roomN x a p c↔(x.2.2.1[tgt x a p c].length:Int)<3:=by
  unfold roomN;rw [List.getD_eq_getElem?_getD,hgd]
  exact ⟨fun k=>by rcases k with k|k;exact absurd k h4;have:=k.2;omega,fun k=>.inr ⟨hh,by omega⟩⟩
 generalize htt:tgt x a p c=z at *
 have nn:=fun F=>sNextNode_c (frz:=F) (H:=G) x.1.1 x.1.2.1 a p
 have so:=fun F=>sOpposite_c (frz:=F) (H:=G) p
 obtain ⟨s4,s5⟩:=s1
 generalize next x.1.1 x.1.2.1 a p=N at *
 generalize opp (p:Int)=O at *
 have e3:=@w6 (10*N) (by omega)
 have e4:=@w6 (2*O) (by omega)
 have e5:=@w6 (10*N+2*O) (by omega)
 have e6:∀[Inhabited Unit],IntKind.i64.wrap (10*N+2*O+(c:Int))=(z:Int):=by intro _;rw [w64 (by omega) (by omega)];omega
 obtain ⟨u,a1,a2,a3,a4⟩:=RdL_at o.2.2.1.1.rd (ty:=44) (e:=113) (by simp) (by simp) hl
 have la:=a4.len (P:=Tryz.prog) (ty:=113) (by simp)
 simp [VM.look,hr,ones,e1,e2,lv,hh,h4,h4',nn]
 rw [go_draw (h:=by kernel_rfl)]
 simp [VM.look,hr,ones,e3,e4,e5,e6,so,a2,a3,la,key]
theorem l17Request_c {v:NetV} {x:NetD} {a i p:Nat} (o':dNet.Ow H v x) (hx:runOk x) (ha:(a:Int)<cnt x.1.1 x.1.2.1) (hi:i<10) (hp:p<5) :
 vcall C frz 219 [dNet.val v x,.int .i64 a,.int .i64 i,.int .i64 p] H=some (.bool (decide (reqN x a i p)),H):=by
 refine wp.exact (by simp) ?_ rfl
 have ones:=dNet_one o'
 have cr:=cnt_range x.1.1 x.1.2.1
 simp only [dNet_val]
 rw [vcall_go (fn:=Tryz.f219) Tryz.func219 rfl (by kernel_rfl) rfl]
 obtain ⟨d,hd⟩:∃d,d=10*a+i:=⟨_,rfl⟩
 obtain ⟨c,hc⟩:∃c,c=i%2:=⟨_,rfl⟩
 obtain ⟨q,hq⟩:∃q,q=i/2:=⟨_,rfl⟩
 obtain ⟨G,hG⟩:∃G,G=H++[⟨netCells v x,0,46⟩]:=⟨_,rfl⟩
 have o:dNet.Ow G v x:=hG▸Dt.app (T:=dNet) o'
 have hr:G[H.length]? = some ⟨netCells v x,0,46⟩:=by rw [hG];simp
 have hGs:H++[⟨netCells v x,0,46⟩]=G:=hG.symm
 unfold netCells at hr hGs
 have wn:=fun F=>l17Wanted_c (frz:=F) (H:=G) o hx ha hi
 have rm:=fun F=>l17Room_c (frz:=F) (H:=G) (c:=c) o hx ha hp (by omega)
 simp only [dNet_val] at wn rm
 generalize hY:decide (reqN x a i p)=Y
 have no:¬reqN x a i p→Y=false:=fun hh=>by rw [← hY];exact decide_eq_false hh
 have e1:=@w6 (10*(a:Int)) (by omega)
 have e2:∀[Inhabited Unit],IntKind.i64.wrap (10*(a:Int)+(i:Int))=(d:Int):=by intro _;rw [w64 (by omega) (by omega)];omega
 have e3:∀[Inhabited Unit],(i:Int).tmod 2=(c:Int):=by intro _;rw [tmod2];omega
 have e3':∀[Inhabited Unit],(i:Int)%2=(c:Int):=by intro _;omega
 have e4:∀[Inhabited Unit],IntKind.i64.wrap ((i:Int)/2)=(q:Int):=by intro _;rw [w64 (by omega) (by omega)];omega
 have e7:=@w6 (2*(p:Int)) (by omega)
 have e8:=@w6 (10*(a:Int)+2*(p:Int)) (by omega)
 have e9:∀[Inhabited Unit],IntKind.i64.wrap (10*(a:Int)+2*(p:Int)+(c:Int))=(outAt a p c:Nat):=by intro _;unfold outAt;rw [w64 (by omega) (by omega)];omega
 simp [ones]
 rw [hGs]
 by_cases g1:wantedN x a i=(p:Int)
 rotate_left
 ·simp [VM.look,hr,ones,wn,g1,e3,e3'];exact no (fun k=>g1 k.1)
 by_cases g2:roomN x a p c
 rotate_left
 ·simp [VM.look,hr,ones,wn,g1,e3,e3',rm,g2];exact no (fun k=>g2 (hc▸k.2.1))
 have hl:d<x.2.2.1.length:=by have:=hx.2.1.1;omega
 obtain ⟨u,a1,a2,a3,a4⟩:=RdL_at o.2.2.1.1.rd (ty:=44) (e:=113) (by simp) (by simp) hl
 have hgd:x.2.2.1.getD d []=x.2.2.1[d]:=by simp [List.getD_eq_getElem?_getD,hl]
 have hho:headOf x d=headL x.2.2.1[d]:=by unfold headOf;rw [hgd]
 have g0:x.2.2.1[d]≠[]:=fun hh=>by
  unfold wantedN at g1
  rw [← hd,hgd,if_pos hh] at g1
  omega
 obtain ⟨z0,f1,f2,f3,c1,c2,c3,_⟩:=front a4 g0
 have hz:outAt a p c<x.2.2.2.1.length:=by have:=hx.2.1.2.1;unfold outAt;omega
 have hgo:x.2.2.2.1.getD (outAt a p c) 0=x.2.2.2.1[outAt a p c]:=by simp [List.getD_eq_getElem?_getD,hz]
 have key:reqN x a i p↔x.2.2.2.1[outAt a p c]=if (headL x.2.2.1[d]).2.2.2.1 then -1 else (q:Int):=by
  unfold reqN;rw [← hd,← hc,← hq,hgo,hho]
  exact ⟨fun k=>k.2.2,fun k=>⟨g1,g2,k⟩⟩
 generalize hzz:outAt a p c=z at *
 generalize headL x.2.2.1[d]=f at *
 have rd:=Rd.isI o.2.2.2.1.1.rd
 have q1:=rd.idx (P:=Tryz.prog) (ty:=24) (e:=3) (by simp) (i:=(z:Int)) (by omega) (by omega)
 have q2:=rd.load (P:=Tryz.prog) (e:=3) (by simp) hz
 simp only [Int.toNat_natCast] at q1 q2
 rw [hgo] at q2
 have qa:VM.one u=true∧u.cells=#[u]:=⟨a4.one',a4.cells⟩
 simp [VM.look,hr,ones,wn,g1,e3,e3',rm,g2,e1,e7,e8,e9,q1,q2]
 simp [-vfieldAddr,vfa_ptr,VM.look,hr,ones,e1,e2,a2,a3,z0,f3,c3]
 by_cases g3:f.2.2.2.1=true
 ·simp only [g3,if_true] at key ⊢
  simp [e4]
  rw [← hY];simp only [key]
 ·simp only [g3,if_false] at key ⊢
  simp [e4]
  rw [← hY];simp only [key]
  try simp
def grF:Fl GrD:=⟨3,fun a=>[.int .i64 a.1,.int .i64 a.2.1,.int .i64 a.2.2],fun _=>rfl⟩
@[simp] theorem grF_n:grF.n=3:=rfl
theorem grF_f (a:GrD):grF.f a=[.int .i64 a.1,.int .i64 a.2.1,.int .i64 a.2.2]:=rfl
theorem ones_grF (xs:List GrD):ones (cellsOf grF xs)=true:=by
 induction xs with
 | nil=>rfl
 | cons a l ih=>rw [cellsOf_cons];simp [ih,grF_f]
theorem bl_ld {K:Heap} {e:TypeId} {v:Value} {u:List Bool} (o:Ow Fl.bool e K v u) {j:Nat} (hj:j<u.length):vload Tryz.prog K 4 (elp v j)=some (.bool (u.getD j false)):=by
 rw [o.rd.cell1 (P:=Tryz.prog) rfl (by simp) hj]
 simp [List.getD_eq_getElem?_getD,hj]
theorem free_map {x:NetD} {a p:Nat} {u:List Bool}:((reqsN x a p).map Int.ofNat).filter (fun y=>!u.getD (y/2).toNat false)=(freeN x a p u).map Int.ofNat:=by
 rw [List.filter_map]
 unfold freeN
 congr 1
theorem free_in {x:NetD} {a p:Nat} {u:List Bool}:∀y∈(freeN x a p u).map Int.ofNat,inR 0 y 9:=fun y hy=>by
 obtain ⟨i,hi,rfl⟩:=List.mem_map.1 hy
 have:=(free_mem hi).1
 unfold inR;show (0:Int)≤(i:Int)∧(i:Int)≤9;omega
theorem free_len {x:NetD} {a p:Nat} {u:List Bool}:((freeN x a p u).map Int.ofNat).length≤10:=by
 rw [List.length_map]
 have h1:=List.length_filter_le (fun i=>!u.getD (i/2) false) (reqsN x a p)
 have h2:=List.length_filter_le (fun i=>decide (reqN x a i p)) (List.range 10)
 rw [List.length_range] at h2
 unfold freeN;unfold reqsN at h1 ⊢;omega
theorem pick_lt {x:NetD} {a p:Nat} {u:List Bool} (h:0≤pickN x a p u):∃k:Nat,pickN x a p u=k∧k<10:=by
 have:=(free_mem (pick_mem h)).1
 exact ⟨(pickN x a p u).toNat,by omega,this⟩
theorem arr_ix {K:Heap} {e:TypeId} {R:Nat} {u:List Bool} (o:Ow Fl.bool e K (.slice (some ⟨R,0,some 0⟩) 5 0) u) {j:Nat} (hj:j<5):vindexAddr Tryz.prog K 215 (.pointer (some ⟨R,0,some 0⟩)) (.int .i64 (j:Int))=some (elp (.slice (some ⟨R,0,some 0⟩) 5 0) j):=by
 have hl:=Ow_live o
 have hj':(j:Int)<5:=by omega
 simp only [VM.live] at hl
 unfold vindexAddr
 cases hh:VM.look K ⟨R,0,some 0⟩ with
 | none=>exact absurd hh hl
 | some r=>simp [elp,hj',hh]
theorem grants1_c {K:Heap} {e:TypeId} {R i:Nat} {u:List Bool} (o:Ow Fl.bool e K (.slice (some ⟨R,0,some 0⟩) 5 0) u) (hl:u.length=5) (hi:i<10) :
 vcall C frz 232 [.int .i64 (i:Int),.pointer (some ⟨R,0,some 0⟩)] K=some (.bool (u.getD (i/2) false),K):=by
 rw [vcall_go (fn:=Tryz.f232) Tryz.func232 rfl (by kernel_rfl) rfl]
 obtain ⟨q,hq⟩:∃q,q=i/2:=⟨_,rfl⟩
 rw [← hq]
 have e4:∀[Inhabited Unit],IntKind.i64.wrap ((i:Int)/2)=(q:Int):=by intro _;rw [w64 (by omega) (by omega)];omega
 have q1:=arr_ix o (j:=q) (by omega)
 have q2:=bl_ld o (j:=q) (by omega)
 simp [e4,q1,q2]
theorem grants_w {v:NetV} {x:NetD} {id a:Nat} {e:TypeId} {tail:List Value} (hr:H[id]? = some ⟨netCells v x++tail,0,e⟩) (o:dNet.Ow H v x) (hx:runOk x) (ha:(a:Int)<cnt x.1.1 x.1.2.1) :
 wp (vcall C frz 188 [.pointer (some ⟨id,0,some 0⟩),.int .i64 a] H) (fun r H'=>Ow grF 169 H' r (grN x a)∧(∀i∈ids r,H.length≤i)∧Chg H H' []):=by
 have ones:=dNet_one o
 have cr:=cnt_range x.1.1 x.1.2.1
 have hidl:=box_lt hr
 rw [vcall_go (fn:=Tryz.f188) Tryz.func188 rfl (by kernel_rfl) rfl]
 have oB0:Ow Fl.bool 215 (H++[⟨[],0,169⟩,⟨[.bool false,.bool false,.bool false,.bool false,.bool false],0,215⟩]) (.slice (some ⟨H.length+1,0,some 0⟩) 5 0) (List.replicate 5 false):=Ow.new (D:=Fl.bool) (xs:=List.replicate 5 false) (k:=1) rfl rfl rfl rfl
 have oG0:Ow grF 169 (H++[⟨[],0,169⟩,⟨[.bool false,.bool false,.bool false,.bool false,.bool false],0,215⟩]) (.slice (some ⟨H.length,0,some 0⟩) 0 0) []:=Ow.new0 (D:=grF) (xs:=[]) rfl rfl rfl rfl
 have bp:bplaces Tryz.prog 215=some [(0,1),(1,1),(2,1),(3,1),(4,1)]:=by kernel_rfl
 simp [bp]
 refine wp_inv (fun n t H'=>∃(p:Nat) (r:Value),n=5-p∧p≤5∧t 0=.pointer (some ⟨id,0,some 0⟩)∧t 1=.int .i64 a∧t 5=r∧t 6=.pointer (some ⟨H.length+1,0,some 0⟩)∧t 7=.int .i64 p∧Chg H H' []∧
  Ow Fl.bool 215 H' (.slice (some ⟨H.length+1,0,some 0⟩) 5 0) (grTo x a p).2∧Ow grF 169 H' r (grTo x a p).1∧(∀j∈ids r,H.length≤j∧j≠H.length+1)) ?_ (n:=5)
  ⟨0,.slice (some ⟨H.length,0,some 0⟩) 0 0,rfl,by omega,by simp,by simp,by simp,by simp,by simp,Chg.app _,oB0,oG0,by simp⟩
 rintro n t H' ⟨p,r,rfl,hp,t0,t1,t5,t6,t7,ch,oB,oG,nG⟩ ih
 simp [t0,t1,t5,t6,t7]
 refine wp_dec ?_ ?_<;>intro g
 ·have hp':p<5:=by omega
  obtain ⟨l5,gat,gnd,gle⟩:=grTo_ok x a p hp
  have gs:=grTo_succ x a p
  unfold grStep at gs
  have r1:=box_chg hr ch (by simp)
  have o1:=Dt.chg (T:=dNet) o ch (by simp)
  have hbl:H.length+1<H'.length:=oB.lt _ (by simp)
  generalize grTo x a p=st at *
  simp [t0,t1,t5,t6,t7]
  refine wp_thn (requests_w r1 o1 hx ha hp') ?_
  rintro L H1 ⟨oL,nL,cL⟩
  have oB1:=oB.chg cL (by simp)
  have oG1:=oG.chg cL (by simp)
  have c1:=ch.trans cL
  simp [t0,t1,t5,t6,t7]
  have hrl:((reqsN x a p).map Int.ofNat).length≤10:=by
   rw [List.length_map]
   have h2:=List.length_filter_le (fun i=>decide (reqN x a i p)) (List.range 10)
   rw [List.length_range] at h2
   exact h2
  refine wp_thn (deleteFunc_w L _ (fun y=>st.2.getD (y/2).toNat false) _ oL (by omega) (fun i hi=>by have:=nL i hi;have:=ch.1;omega) (fun K hK F y hy=>?_)) ?_
  ·obtain ⟨i,hi,rfl⟩:=List.mem_map.1 hy
   have hi10:i<10:=List.mem_range.1 (List.mem_filter.1 hi).1
   have:=grants1_c (frz:=F) (i:=i) (oB1.chg hK (fun j hj hh=>by have:=nL j hh;simp at hj;omega)) l5 hi10
   simp
   exact this
  rintro U H2 ⟨oU,nU,cU⟩
  have fm:((reqsN x a p).map Int.ofNat).filter (fun y=>!(fun y=>st.2.getD (y/2).toNat false) y)=(freeN x a p st.2).map Int.ofNat:=free_map
  rw [fm] at oU
  have c2:=c1.trans' cU (fun i hi=>.inr (by have:=nL i hi;have:=ch.1;omega))
  have oB2:=oB1.chg cU (fun j hj hh=>by have:=nL j hh;simp at hj;omega)
  have lG:=oG.lt
  have oG2:=oG1.chg cU (fun j hj hh=>by have:=nL j hh;have:=lG j hj;omega)
  have r2:=box_chg hr c2 (by simp)
  have o2:=Dt.chg (T:=dNet) o c2 (by simp)
  unfold netCells at r2
  simp only [List.cons_append,List.nil_append] at r2
  obtain ⟨z,hz⟩:∃z,z=5*a+p:=⟨_,rfl⟩
  have hzl:z<x.2.2.2.2.1.length:=by have:=hx.2.1.2.2.1;omega
  have e1:=@w6 (5*(a:Int)) (by omega)
  have e2:∀[Inhabited Unit],IntKind.i64.wrap (5*(a:Int)+(p:Int))=(z:Int):=by intro _;rw [w64 (by omega) (by omega)];omega
  have rd:=Rd.isI o2.2.2.2.2.1.1.rd
  have q1:=rd.idx (P:=Tryz.prog) (ty:=24) (e:=3) (by simp) (i:=(z:Int)) (by omega) (by omega)
  have q2:=rd.load (P:=Tryz.prog) (e:=3) (by simp) hzl
  simp only [Int.toNat_natCast] at q1 q2
  have hti:inR 0 (x.2.2.2.2.1.getD z 0) 9:=by
   have:x.2.2.2.2.1.getD z 0=x.2.2.2.2.1[z]:=by simp [List.getD_eq_getElem?_getD,hzl]
   rw [this];exact hx.2.2.2.2 _ (List.getElem_mem hzl)
  have ff:=fun F=>firstFrom_c (frz:=F) (H:=H2) U _ _ oU.rd.isI (by have:=free_len (x:=x) (a:=a) (p:=p) (u:=st.2);omega) free_in hti
  have hpk:firstF (x.2.2.2.2.1.getD z 0) ((freeN x a p st.2).map Int.ofNat)=pickN x a p st.2:=by rw [hz];rfl
  rw [hpk] at ff
  generalize x.2.2.2.2.1.getD z 0=T at *
  simp [t0,t1,t5,t6,t7,VM.look,VM.vnil,r2,ones,e1,e2,q1,q2,ff]
  by_cases g2:0≤pickN x a p st.2
  rotate_left
  ·rw [if_neg g2] at gs
   simp [t0,t1,t5,t6,t7,g2]
   refine ih (5-(p+1)) _ _ ⟨p+1,r,rfl,by omega,by simp [t0],by simp [t1],by simp [t5],by simp [t6],?_,c2,by rw [gs];exact oB2,by rw [gs];exact oG2,nG⟩ (by omega)
   simp [t7];rw [w64 (by omega) (by omega)]
  rw [if_pos g2] at gs
  obtain ⟨k,hk,hk10⟩:=pick_lt g2
  rw [hk,Int.toNat_natCast] at gs
  obtain ⟨q,hq⟩:∃q,q=k/2:=⟨_,rfl⟩
  rw [← hq] at gs
  have e4:∀[Inhabited Unit],IntKind.i64.wrap ((k:Int)/2)=(q:Int):=by intro _;rw [w64 (by omega) (by omega)];omega
  have ai:=arr_ix oB2 (j:=q) (by omega)
  obtain ⟨H3,s3,oB3,c3,l3⟩:=oB2.put1 (P:=Tryz.prog) (frz:=H.length) rfl (et:=4) (ag:=false) (by simp) (j:=q) (x:=.bool true) (y:=true) (by omega) rfl rfl rfl (fun i hi=>by simp at hi;omega)
  have c03:=c2.trans' c3 (fun i hi=>.inr (by simp at hi;omega))
  have oG3:=oG2.chg c3 (fun j hj hh=>(nG j hj).2 (by simpa using hh))
  have l03:=c03.1
  obtain ⟨r',H4,hap,oG4,c4,n4⟩:=oG3.push (P:=Tryz.prog) (frz:=H.length) (ty:=145) (a:=(a,p,k)) (by simp) rfl (by omega) (fun i hi=>(nG i hi).1)
  simp only [grF_f] at hap
  have oB4:=oB3.chg c4 (fun j hj hh=>by simp at hj;exact (nG j hh).2 hj)
  have l2:=c2.1
  have l13:=ch.1
  have lcU:=cU.1
  have lcL:=cL.1
  simp [-vappend_nil,-vappend_mk,t0,t1,t5,t6,t7,hk,e4,ai,s3,hap]
  refine ih (5-(p+1)) _ _ ⟨p+1,r',rfl,by omega,by simp [t0],by simp [t1],by simp,by simp [t6],?_,c03.trans' c4 (fun i hi=>.inr (nG i hi).1),by rw [gs];exact oB4,by rw [gs];exact oG4,fun j hj=>?_⟩ (by omega)
  ·simp [t7];rw [w64 (by omega) (by omega)]
  ·rcases n4 j hj with h1|h1
   ·exact nG j h1
   ·omega
 ·have:p=5:=by omega
  subst this
  simp [t0,t1,t5,t6,t7]
  exact ⟨oG,fun i hi=>(nG i hi).1,ch⟩
theorem allTo_len (x:NetD) (n:Nat):(allTo x n).length≤5*n:=(allTo_ok x n).2.2
noncomputable def enterTo (x:NetD) (n:Nat):List Nat:=(List.range n).filter fun k=>entersN x k
theorem enterTo_succ (x:NetD) (n:Nat):enterTo x (n+1)=if entersN x n then enterTo x n++[n] else enterTo x n:=by
 unfold enterTo;rw [List.range_succ,List.filter_append]
 by_cases h:entersN x n<;>simp [h]
theorem enterTo_len (x:NetD) (n:Nat):(enterTo x n).length≤n:=by
 have:=List.length_filter_le (fun k=>decide (entersN x k)) (List.range n)
 rw [List.length_range] at this;exact this
theorem allGrants_w {v:NetV} {x:NetD} {id:Nat} {e:TypeId} {tail:List Value} (hr:H[id]? = some ⟨netCells v x++tail,0,e⟩) (o:dNet.Ow H v x) (hx:runOk x) :
 wp (vcall C frz 151 [.pointer (some ⟨id,0,some 0⟩)] H) (fun r H'=>Ow grF 169 H' r (allN x)∧(∀i∈ids r,H.length≤i)∧Chg H H' []):=by
 have ones:=dNet_one o
 obtain ⟨N,hN⟩:∃N:Nat,cnt x.1.1 x.1.2.1=N:=⟨(cnt x.1.1 x.1.2.1).toNat,by have:=cnt_range x.1.1 x.1.2.1;omega⟩
 have hN2:N≤16:=by have:=cnt_range x.1.1 x.1.2.1;omega
 have hall:allN x=allTo x N:=by unfold allN;rw [hN,Int.toNat_natCast]
 have hidl:=box_lt hr
 rw [vcall_go (fn:=Tryz.f151) Tryz.func151 rfl (by kernel_rfl) rfl]
 have hr':=hr
 unfold netCells at hr'
 simp only [List.cons_append,List.nil_append] at hr'
 have rd:=(RdL.app (L:=[⟨[],0,169⟩]) o.2.2.2.2.2.1.1.rd)
 have ll:=rd.1.len (P:=Tryz.prog) (ty:=44) (by simp)
 rw [rd.2.1] at ll
 have hsl:x.2.2.2.2.2.1.length=N:=by have:=hx.2.1.2.2.2.1;omega
 rw [hsl] at ll
 rw [hall]
 simp [VM.look,VM.vnil,hr',get_app' hr',ones,ll]
 refine wp_inv (fun n t H'=>∃(i:Nat) (r:Value),n=N-i∧i≤N∧t 0=.pointer (some ⟨id,0,some 0⟩)∧t 3=r∧t 10=.int .i64 N∧t 11=.int .i64 i∧Chg H H' []∧Ow grF 169 H' r (allTo x i)∧(∀j∈ids r,H.length≤j)) ?_ (n:=N)
  ⟨0,.slice (some ⟨H.length,0,some 0⟩) 0 0,rfl,by omega,by simp,by simp,by simp,by simp,Chg.app _,Ow.new0 (D:=grF) (xs:=[]) rfl rfl rfl rfl,by simp⟩
 rintro n t H' ⟨i,r,rfl,hi,t0,t3,t10,t11,ch,oo,nr⟩ ih
 simp [t0,t3,t10,t11]
 refine wp_dec ?_ ?_<;>intro g
 ·have hi':i<N:=by omega
  have r1:=box_chg hr ch (by simp)
  have o1:=Dt.chg (T:=dNet) o ch (by simp)
  simp [t0,t3,t10,t11]
  refine wp_thn (grants_w r1 o1 hx (a:=i) (by omega)) ?_
  rintro L H1 ⟨oL,nL,cL⟩
  have l1:=ch.1
  have l2:=cL.1
  have al:=allTo_len x i
  have gl:=grN_len x i
  obtain ⟨r',H2,hap,o2,c2,n2⟩:=(oo.chg cL (by simp)).append (P:=Tryz.prog) (frz:=H.length) (ty:=145) oL.rd (by simp) (ones_grF _) (by omega) nr
  have asu:=allTo_succ x i
  simp [-vappend_nil,-vappend_mk,t0,t3,t10,t11,hap]
  refine ih (N-(i+1)) _ _ ⟨i+1,r',rfl,by omega,by simp [t0],by simp,by simp [t10],?_,(ch.trans cL).trans' c2 (fun j hj=>.inr (nr j hj)),by rw [asu];exact o2,fun j hj=>?_⟩ (by omega)
  ·simp [t11];rw [w64 (by omega) (by omega)]
  ·rcases n2 j hj with h1|h1
   ·exact nr j h1
   ·omega
 ·have:i=N:=by omega
  subst this
  simp [t0,t3,t10,t11]
  exact ⟨oo,nr,ch⟩
theorem entering_w {v:NetV} {x:NetD} {id:Nat} {e:TypeId} {tail:List Value} (hr:H[id]? = some ⟨netCells v x++tail,0,e⟩) (o:dNet.Ow H v x) (hx:runOk x) :
 wp (vcall C frz 152 [.pointer (some ⟨id,0,some 0⟩)] H) (fun r H'=>Ow Fl.int 3 H' r ((enterN x).map Int.ofNat)∧(∀i∈ids r,H.length≤i)∧Chg H H' []):=by
 have ones:=dNet_one o
 obtain ⟨N,hN⟩:∃N:Nat,cnt x.1.1 x.1.2.1=N:=⟨(cnt x.1.1 x.1.2.1).toNat,by have:=cnt_range x.1.1 x.1.2.1;omega⟩
 have hN2:N≤16:=by have:=cnt_range x.1.1 x.1.2.1;omega
 have hall:enterN x=enterTo x N:=by unfold enterN enterTo;rw [hN,Int.toNat_natCast]
 have hidl:=box_lt hr
 rw [vcall_go (fn:=Tryz.f152) Tryz.func152 rfl (by kernel_rfl) rfl]
 unfold netCells at hr
 simp only [List.cons_append,List.nil_append] at hr
 have rd:=(RdL.app (L:=[⟨[],0,3⟩]) o.2.2.2.2.2.1.1.rd)
 have ll:=rd.1.len (P:=Tryz.prog) (ty:=44) (by simp)
 rw [rd.2.1] at ll
 have hsl:x.2.2.2.2.2.1.length=N:=by have:=hx.2.1.2.2.2.1;omega
 have hbl:x.2.2.1.length=10*N:=by have:=hx.2.1.1;omega
 rw [hsl] at ll
 rw [hall]
 simp [VM.look,VM.vnil,hr,get_app' hr,ones,ll]
 refine wp_inv (fun n t H'=>∃(i:Nat) (r:Value),n=N-i∧i≤N∧t 0=.pointer (some ⟨id,0,some 0⟩)∧t 3=r∧t 10=v.2.2.2.2.2.1.1∧t 11=.int .i64 N∧t 12=.int .i64 i∧Chg H H' []∧Ow Fl.int 3 H' r ((enterTo x i).map Int.ofNat)∧(∀j∈ids r,H.length≤j)) ?_ (n:=N)
  ⟨0,.slice (some ⟨H.length,0,some 0⟩) 0 0,rfl,by omega,by simp,by simp,by simp,by simp,by simp,Chg.app _,Ow.new0 (D:=Fl.int) (xs:=[]) rfl rfl rfl rfl,by simp⟩
 rintro n t H' ⟨i,r,rfl,hi,t0,t3,t10,t11,t12,ch,oo,nr⟩ ih
 simp [t0,t3,t10,t11,t12]
 refine wp_dec ?_ ?_<;>intro g
 rotate_left
 ·have:i=N:=by omega
  subst this
  simp [t0,t3,t10,t11,t12]
  exact ⟨oo,nr,ch⟩
 have hi':i<N:=by omega
 have r1:=box_chg hr ch (by simp)
 have o1:=Dt.chg (T:=dNet) o ch (by simp)
 have his:i<x.2.2.2.2.2.1.length:=by omega
 obtain ⟨u,a1,a2,a3,a4⟩:=RdL_at o1.2.2.2.2.2.1.1.rd (ty:=44) (e:=113) (by simp) (by simp) his
 have la:=a4.len (P:=Tryz.prog) (ty:=113) (by simp)
 have qa:VM.one u=true∧u.cells=#[u]:=⟨a4.one',a4.cells⟩
 have hgd:x.2.2.2.2.2.1.getD i []=x.2.2.2.2.2.1[i]:=by simp [List.getD_eq_getElem?_getD,his]
 have hes:=enterTo_succ x i
 have hel:=enterTo_len x i
 simp [t0,t3,t10,t11,t12,a2,a3]
 rw [go_draw (h:=by kernel_rfl)]
 by_cases g0:x.2.2.2.2.2.1[i]=[]
 ·have hne:¬entersN x i:=fun k=>k.1 (by rw [hgd];exact g0)
  rw [if_neg hne] at hes
  rw [g0] at la
  simp [t0,t3,t10,t11,t12,la]
  refine ih (N-(i+1)) _ _ ⟨i+1,r,rfl,by omega,by simp [t0],by simp [t3],by simp [t10],by simp [t11],?_,ch,by rw [hes];exact oo,nr⟩ (by omega)
  simp [t12];rw [w64 (by omega) (by omega)]
 have g0':0<x.2.2.2.2.2.1[i].length:=List.length_pos_iff.2 g0
 obtain ⟨z0,f1,f2,f3,c1,c2,c3,_⟩:=front a4 g0
 obtain ⟨en1,en2,en3⟩:=ent_ok hx (k:=i) (by rw [hgd];exact g0)
 have hsh:srcHead x i=headL x.2.2.2.2.2.1[i]:=by unfold srcHead;rw [hgd]
 have hcl:=en1.2
 rw [hsh] at en2 hcl
 generalize headL x.2.2.2.2.2.1[i]=f at *
 have bA:∀F,vcall C F 154 [.int .i64 (i:Int),.int .i64 4,.int .i64 f.2.2.1] H'=some (.int .i64 (entAt x i:Int),H'):=fun F=>by
  rw [bufferAt_c,if_pos ⟨⟨by omega,by omega⟩,⟨by omega,by omega⟩,hcl⟩,en2];congr 3
 have key:entersN x i↔(x.2.2.1.getD (entAt x i) []).length<3:=⟨fun k=>k.2,fun k=>⟨by rw [hgd];exact g0,k⟩⟩
 have hzl:entAt x i<x.2.2.1.length:=by unfold inR at hcl;omega
 generalize entAt x i=z at *
 obtain ⟨u',b1,b2,b3,b4⟩:=RdL_at o1.2.2.1.1.rd (ty:=44) (e:=113) (by simp) (by simp) hzl
 have lb:=b4.len (P:=Tryz.prog) (ty:=113) (by simp)
 have hgz:x.2.2.1.getD z []=x.2.2.1[z]:=by simp [List.getD_eq_getElem?_getD,hzl]
 have qb:VM.one u'=true∧u'.cells=#[u']:=⟨b4.one',b4.cells⟩
 rw [hgz] at key
 simp [-vfieldAddr,vfa_ptr,t0,t3,t10,t11,t12,la,g0',VM.look,VM.vnil,r1,ones,z0,f2,c2,bA,b2,b3,lb]
 refine wp_dec ?_ ?_<;>intro g1
 ·rw [if_pos (key.2 (by omega))] at hes
  obtain ⟨r',H2,hap,o2,c2',n2⟩:=oo.push (P:=Tryz.prog) (frz:=H.length) (ty:=24) (a:=(i:Int)) (by simp) rfl (by simp;omega) nr
  simp only [Fl.int_f] at hap
  have l0:=ch.1
  simp [t0,t3,t10,t11,t12,hap]
  refine ih (N-(i+1)) _ _ ⟨i+1,r',rfl,by omega,by simp [t0],by simp,by simp [t10],by simp [t11],?_,ch.trans' c2' (fun j hj=>.inr (nr j hj)),?_,fun j hj=>?_⟩ (by omega)
  ·simp [t12];rw [w64 (by omega) (by omega)]
  ·rw [hes,List.map_append];exact o2
  ·rcases n2 j hj with h1|h1
   ·exact nr j h1
   ·omega
 ·rw [if_neg (fun k=>by have:=key.1 k;omega)] at hes
  simp [t0,t3,t10,t11,t12]
  refine ih (N-(i+1)) _ _ ⟨i+1,r,rfl,by omega,by simp [t0],by simp [t3],by simp [t10],by simp [t11],?_,ch,by rw [hes];exact oo,nr⟩ (by omega)
  simp [t12];rw [w64 (by omega) (by omega)]
noncomputable def freeTo (x:NetD) (a p:Nat) (u:List Bool) (n:Nat):List Nat:=(List.range n).filter fun i=>!u.getD (i/2) false&&decide (reqN x a i p)
theorem freeTo_all (x:NetD) (a p:Nat) (u:List Bool):freeTo x a p u 10=freeN x a p u:=by
 unfold freeTo freeN reqsN;rw [List.filter_filter]
theorem freeTo_succ (x:NetD) (a p:Nat) (u:List Bool) (n:Nat):freeTo x a p u (n+1)=if u.getD (n/2) false=false∧reqN x a n p then freeTo x a p u n++[n] else freeTo x a p u n:=by
 unfold freeTo;rw [List.range_succ,List.filter_append]
 by_cases h:u.getD (n/2) false=false
 ·by_cases h2:reqN x a n p
  ·rw [if_pos ⟨h,h2⟩];simp only [List.filter_cons,h,h2];simp
  ·rw [if_neg (fun k=>h2 k.2)];simp only [List.filter_cons,h,h2];simp
 ·rw [if_neg (fun k=>h k.1)]
  have h':u.getD (n/2) false=true:=by simpa using h
  simp only [List.filter_cons,h'];simp
theorem freeTo_len (x:NetD) (a p:Nat) (u:List Bool) (n:Nat):(freeTo x a p u n).length≤n:=by
 have:=List.length_filter_le (fun i=>!u.getD (i/2) false&&decide (reqN x a i p)) (List.range n)
 rw [List.length_range] at this;exact this
theorem sl_ix {K:Heap} {e:TypeId} {v:Value} {u:List Bool} (o:Ow Fl.bool e K v u) {j:Nat} (hj:j<u.length):vindexAddr Tryz.prog K 210 v (.int .i64 (j:Int))=some (elp v j):=by
 have:=o.rd.idx (P:=Tryz.prog) (ty:=210) (e:=4) (by simp) (i:=(j:Int)) (by omega) (by omega)
 simpa using this
theorem l18Grants_w {v:NetV} {x:NetD} {a:Nat} (o:dNet.Ow H v x) (hx:runOk x) (ha:(a:Int)<cnt x.1.1 x.1.2.1) :
 wp (vcall C frz 172 [dNet.val v x,.int .i64 a] H) (fun r H'=>Ow grF 169 H' r (grN x a)∧(∀i∈ids r,H.length≤i)∧Chg H H' []):=by
 have ones:=dNet_one o
 have cr:=cnt_range x.1.1 x.1.2.1
 simp only [dNet_val]
 rw [vcall_go (fn:=Tryz.f172) Tryz.func172 rfl (by kernel_rfl) rfl]
 obtain ⟨G,hG⟩:∃G,G=H++[⟨netCells v x,0,46⟩,⟨[],0,169⟩,⟨[.bool false,.bool false,.bool false,.bool false,.bool false],0,4⟩]:=⟨_,rfl⟩
 have oB0:Ow Fl.bool 4 G (.slice (some ⟨H.length+2,0,some 0⟩) 5 0) (List.replicate 5 false):=by rw [hG];exact Ow.new (D:=Fl.bool) (xs:=List.replicate 5 false) (k:=2) rfl rfl rfl rfl
 have oG0:Ow grF 169 G (.slice (some ⟨H.length+1,0,some 0⟩) 0 0) []:=by rw [hG];exact Ow.new (D:=grF) (xs:=[]) (k:=1) rfl rfl rfl rfl
 have cG:Chg H G []:=by rw [hG];exact Chg.app _
 have hr:G[H.length]? = some ⟨netCells v x,0,46⟩:=by rw [hG];simp
 have hGs:H++[⟨netCells v x,0,46⟩,⟨[],0,169⟩,⟨[.bool false,.bool false,.bool false,.bool false,.bool false],0,4⟩]=G:=hG.symm
 have lG0:G.length=H.length+3:=by rw [hG];simp
 unfold netCells at hr hGs
 simp [ones]
 rw [hGs]
 clear hG hGs
 refine wp_inv (fun n t H'=>∃(p:Nat) (r:Value),n=5-p∧p≤5∧t 1=.int .i64 a∧t 2=.pointer (some ⟨H.length,0,some 0⟩)∧t 5=r∧t 6=.slice (some ⟨H.length+2,0,some 0⟩) 5 0∧t 7=.int .i64 p∧Chg H H' []∧H'[H.length]? = some ⟨netCells v x,0,46⟩∧
  Ow Fl.bool 4 H' (.slice (some ⟨H.length+2,0,some 0⟩) 5 0) (grTo x a p).2∧Ow grF 169 H' r (grTo x a p).1∧(∀j∈ids r,H.length+1≤j∧j≠H.length+2)) ?_ (n:=5)
  ⟨0,.slice (some ⟨H.length+1,0,some 0⟩) 0 0,rfl,by omega,by simp,by simp,by simp,by simp,by simp,cG,by unfold netCells;exact hr,oB0,oG0,by simp⟩
 rintro n t H' ⟨p,r,rfl,hp,t1,t2,t5,t6,t7,ch,b0,oB,oG,nG⟩ ih
 simp [t1,t2,t5,t6,t7]
 refine wp_dec ?_ ?_<;>intro g
 rotate_left
 ·have:p=5:=by omega
  subst this
  simp [t1,t2,t5,t6,t7]
  exact ⟨oG,fun i hi=>by have:=(nG i hi).1;omega,ch⟩
 have hp':p<5:=by omega
 obtain ⟨l5,gat,gnd,gle⟩:=grTo_ok x a p hp
 have gs:=grTo_succ x a p
 unfold grStep at gs
 have hbl:H.length+2<H'.length:=oB.lt _ (by simp)
 have lGr:=oG.lt
 generalize grTo x a p=st at *
 simp [t1,t2,t5,t6,t7]
 refine wp_inv (fun n t1' H1=>∃(i:Nat) (f:Value),n=10-i∧i≤10∧t1' 1=.int .i64 a∧t1' 2=.pointer (some ⟨H.length,0,some 0⟩)∧t1' 5=r∧t1' 6=.slice (some ⟨H.length+2,0,some 0⟩) 5 0∧t1' 7=.int .i64 p∧t1' 8=f∧t1' 9=.int .i64 i∧Chg H' H1 []∧
  Ow Fl.int 3 H1 f ((freeTo x a p st.2 i).map Int.ofNat)∧(∀j∈ids f,H'.length≤j)) ?_ (n:=10)
  ⟨0,.slice (some ⟨H'.length,0,some 0⟩) 0 0,rfl,by omega,by simp [t1],by simp [t2],by simp [t5],by simp [t6],by simp [t7],by simp,by simp,Chg.app _,Ow.new0 (D:=Fl.int) (xs:=[]) rfl rfl rfl rfl,by simp⟩
 clear t1 t2 t5 t6 t7
 rintro n t H1 ⟨i,f,rfl,hi,t1,t2,t5,t6,t7,t8,t9,c1,oF,nF⟩ ih2
 have c01:=ch.trans c1
 have b1:=box_chg b0 c1 (by simp)
 have o1:=Dt.chg (T:=dNet) o c01 (by simp)
 have oB1:=oB.chg c1 (by simp)
 unfold netCells at b1
 have l1:=c1.1
 simp [t1,t2,t5,t6,t7,t8,t9]
 refine wp_dec ?_ ?_<;>intro g1
 ·have hi':i<10:=by omega
  obtain ⟨q,hq⟩:∃q,q=i/2:=⟨_,rfl⟩
  have e4:∀[Inhabited Unit],IntKind.i64.wrap ((i:Int)/2)=(q:Int):=by intro _;rw [w64 (by omega) (by omega)];omega
  have fs:=freeTo_succ x a p st.2 i
  have fl:=freeTo_len x a p st.2 i
  rw [← hq] at fs
  have q1:=sl_ix oB1 (j:=q) (by omega)
  have q2:=bl_ld oB1 (j:=q) (by omega)
  have rq:=fun F=>l17Request_c (frz:=F) (H:=H1) (i:=i) o1 hx ha hi' hp'
  simp only [dNet_val] at rq
  generalize st.2.getD q false=B at *
  simp [t1,t2,t5,t6,t7,t8,t9,e4,q1,q2]
  cases B with
  | true=>
   rw [if_neg (by simp)] at fs
   simp [t1,t2,t5,t6,t7,t8,t9]
   refine ih2 (10-(i+1)) _ _ ⟨i+1,f,rfl,by omega,by simp [t1],by simp [t2],by simp [t5],by simp [t6],by simp [t7],by simp [t8],?_,c1,by rw [fs];exact oF,nF⟩ (by omega)
   simp [t9];rw [w64 (by omega) (by omega)]
  | false=>
   simp [t1,t2,t5,t6,t7,t8,t9,VM.look,b1,ones,rq]
   by_cases g2:reqN x a i p
   ·rw [if_pos ⟨rfl,g2⟩] at fs
    obtain ⟨f',H2,hap,o2,c2,n2⟩:=oF.push (P:=Tryz.prog) (frz:=H.length) (ty:=24) (a:=(i:Int)) (by simp) rfl (by simp;omega) (fun j hj=>by have:=nF j hj;omega)
    simp only [Fl.int_f] at hap
    have hF1:H.length≤H1.length:=by omega
    simp [t1,t2,t5,t6,t7,t8,t9,g2,hap,hF1]
    refine ih2 (10-(i+1)) _ _ ⟨i+1,f',rfl,by omega,by simp [t1],by simp [t2],by simp [t5],by simp [t6],by simp [t7],by simp,?_,c1.trans' c2 (fun j hj=>.inr (nF j hj)),?_,fun j hj=>?_⟩ (by omega)
    ·simp [t9];rw [w64 (by omega) (by omega)]
    ·rw [fs,List.map_append];exact o2
    ·rcases n2 j hj with h1|h1
     ·exact nF j h1
     ·omega
   ·rw [if_neg (fun k=>g2 k.2)] at fs
    simp [t1,t2,t5,t6,t7,t8,t9,g2]
    refine ih2 (10-(i+1)) _ _ ⟨i+1,f,rfl,by omega,by simp [t1],by simp [t2],by simp [t5],by simp [t6],by simp [t7],by simp [t8],?_,c1,by rw [fs];exact oF,nF⟩ (by omega)
    simp [t9];rw [w64 (by omega) (by omega)]
 have hi10:i=10:=by omega
 subst hi10
 clear ih2
 rw [freeTo_all] at oF
 obtain ⟨z,hz⟩:∃z,z=5*a+p:=⟨_,rfl⟩
 have hzl:z<x.2.2.2.2.1.length:=by have:=hx.2.1.2.2.1;omega
 have e1:=@w6 (5*(a:Int)) (by omega)
 have e2:∀[Inhabited Unit],IntKind.i64.wrap (5*(a:Int)+(p:Int))=(z:Int):=by intro _;rw [w64 (by omega) (by omega)];omega
 have rd:=Rd.isI o1.2.2.2.2.1.1.rd
 have q1:=rd.idx (P:=Tryz.prog) (ty:=24) (e:=3) (by simp) (i:=(z:Int)) (by omega) (by omega)
 have q2:=rd.load (P:=Tryz.prog) (e:=3) (by simp) hzl
 simp only [Int.toNat_natCast] at q1 q2
 have hti:inR 0 (x.2.2.2.2.1.getD z 0) 9:=by
  have:x.2.2.2.2.1.getD z 0=x.2.2.2.2.1[z]:=by simp [List.getD_eq_getElem?_getD,hzl]
  rw [this];exact hx.2.2.2.2 _ (List.getElem_mem hzl)
 have ff:=fun F=>sFirstFrom_c (frz:=F) (H:=H1) f _ _ oF.rd.isI (by have:=free_len (x:=x) (a:=a) (p:=p) (u:=st.2);omega) free_in hti
 have hpk:firstF (x.2.2.2.2.1.getD z 0) ((freeN x a p st.2).map Int.ofNat)=pickN x a p st.2:=by rw [hz];rfl
 rw [hpk] at ff
 have oG1:=oG.chg c1 (by simp)
 generalize x.2.2.2.2.1.getD z 0=T at *
 simp [t1,t2,t5,t6,t7,t8,t9,VM.look,b1,ones,e1,e2,q1,q2,ff]
 by_cases g2:0≤pickN x a p st.2
 rotate_left
 ·rw [if_neg g2] at gs
  simp [t1,t2,t5,t6,t7,g2]
  refine ih (5-(p+1)) _ _ ⟨p+1,r,rfl,by omega,by simp [t1],by simp [t2],by simp [t5],by simp [t6],?_,ch.trans c1,by unfold netCells;exact b1,by rw [gs];exact oB1,by rw [gs];exact oG1,nG⟩ (by omega)
  simp [t7];rw [w64 (by omega) (by omega)]
 rw [if_pos g2] at gs
 obtain ⟨k,hk,hk10⟩:=pick_lt g2
 rw [hk,Int.toNat_natCast] at gs
 obtain ⟨q,hq⟩:∃q,q=k/2:=⟨_,rfl⟩
 rw [← hq] at gs
 have e4:∀[Inhabited Unit],IntKind.i64.wrap ((k:Int)/2)=(q:Int):=by intro _;rw [w64 (by omega) (by omega)];omega
 have ai:=sl_ix oB1 (j:=q) (by omega)
 obtain ⟨H3,s3,oB3,c3,l3⟩:=oB1.put1 (P:=Tryz.prog) (frz:=H.length) rfl (et:=4) (ag:=false) (by simp) (j:=q) (x:=.bool true) (y:=true) (by omega) rfl rfl rfl (fun i hi=>by simp at hi;omega)
 have c13:=(ch.trans c1).trans' c3 (fun i hi=>.inr (by simp at hi;omega))
 have oG3:=oG1.chg c3 (fun j hj hh=>(nG j hj).2 (by simpa using hh))
 have b3:=box_chg b1 c3 (by simp)
 obtain ⟨r',H4,hap,oG4,c4,n4⟩:=oG3.push (P:=Tryz.prog) (frz:=H.length) (ty:=145) (a:=(a,p,k)) (by simp) rfl (by omega) (fun i hi=>by have:=(nG i hi).1;omega)
 simp only [grF_f] at hap
 have oB4:=oB3.chg c4 (fun j hj hh=>by simp at hj;exact (nG j hh).2 hj)
 have b4:=box_chg b3 c4 (fun hh=>by have:=(nG _ hh).1;omega)
 simp [-vappend_nil,-vappend_mk,t1,t2,t5,t6,t7,hk,e4,ai,s3,hap]
 refine ih (5-(p+1)) _ _ ⟨p+1,r',rfl,by omega,by simp [t1],by simp [t2],by simp,by simp [t6],?_,c13.trans' c4 (fun i hi=>.inr (by have:=(nG i hi).1;omega)),by unfold netCells;exact b4,by rw [gs];exact oB4,by rw [gs];exact oG4,fun j hj=>?_⟩ (by omega)
 ·simp [t7];rw [w64 (by omega) (by omega)]
 ·rcases n4 j hj with h1|h1
  ·exact nG j h1
  ·have:=c3.1;omega
theorem l18All_w {v:NetV} {x:NetD} (o:dNet.Ow H v x) (hx:runOk x) :
 wp (vcall C frz 123 [dNet.val v x] H) (fun r H'=>Ow grF 169 H' r (allN x)∧(∀i∈ids r,H.length≤i)∧Chg H H' []):=by
 have ones:=dNet_one o
 obtain ⟨N,hN⟩:∃N:Nat,cnt x.1.1 x.1.2.1=N:=⟨(cnt x.1.1 x.1.2.1).toNat,by have:=cnt_range x.1.1 x.1.2.1;omega⟩
 have hN2:N≤16:=by have:=cnt_range x.1.1 x.1.2.1;omega
 have hall:allN x=allTo x N:=by unfold allN;rw [hN,Int.toNat_natCast]
 simp only [dNet_val]
 rw [vcall_go (fn:=Tryz.f123) Tryz.func123 rfl (by kernel_rfl) rfl]
 obtain ⟨G,hG⟩:∃G,G=H++[⟨netCells v x,0,46⟩,⟨[],0,169⟩]:=⟨_,rfl⟩
 have oG0:Ow grF 169 G (.slice (some ⟨H.length+1,0,some 0⟩) 0 0) []:=by rw [hG];exact Ow.new (D:=grF) (xs:=[]) (k:=1) rfl rfl rfl rfl
 have cG:Chg H G []:=by rw [hG];exact Chg.app _
 have hr:G[H.length]? = some ⟨netCells v x,0,46⟩:=by rw [hG];simp
 have hGs:H++[⟨netCells v x,0,46⟩,⟨[],0,169⟩]=G:=hG.symm
 have lG0:G.length=H.length+2:=by rw [hG];simp
 unfold netCells at hr hGs
 rw [hall]
 simp [ones]
 rw [hGs]
 clear hG hGs
 refine wp_inv (fun n t H'=>∃(i:Nat) (r:Value),n=N-i∧i≤N∧t 1=.pointer (some ⟨H.length,0,some 0⟩)∧t 3=r∧t 4=.int .i64 i∧Chg H H' []∧H'[H.length]? = some ⟨netCells v x,0,46⟩∧Ow grF 169 H' r (allTo x i)∧(∀j∈ids r,H.length+1≤j)) ?_ (n:=N)
  ⟨0,.slice (some ⟨H.length+1,0,some 0⟩) 0 0,rfl,by omega,by simp,by simp,by simp,cG,by unfold netCells;exact hr,oG0,by simp⟩
 rintro n t H' ⟨i,r,rfl,hi,t1,t3,t4,ch,b0,oo,nr⟩ ih
 have o1:=Dt.chg (T:=dNet) o ch (by simp)
 have b0':=b0
 unfold netCells at b0'
 have nc:=fun F=>nodeCount_c (frz:=F) (H:=H') x.1.1 x.1.2.1
 have nc2:=fun F=>sNodeCount_c (frz:=F) (H:=H') x.1.1 x.1.2.1
 rw [hN] at nc nc2
 simp [t1,t3,t4,VM.look,b0',ones,nc,nc2]
 refine wp_dec ?_ ?_<;>intro g
 ·have hi':i<N:=by omega
  have gr:=l18Grants_w (frz:=H.length) (a:=i) o1 hx (by omega)
  simp only [dNet_val] at gr
  simp [t1,t3,t4,VM.look,b0',ones]
  refine wp_thn gr ?_
  rintro L H1 ⟨oL,nL,cL⟩
  have l1:=ch.1
  have l2:=cL.1
  have al:=allTo_len x i
  have gl:=grN_len x i
  have b1:=box_chg b0 cL (by simp)
  obtain ⟨r',H2,hap,o2,c2,n2⟩:=(oo.chg cL (by simp)).append (P:=Tryz.prog) (frz:=H.length) (ty:=145) oL.rd (by simp) (ones_grF _) (by omega) (fun j hj=>by have:=nr j hj;omega)
  have asu:=allTo_succ x i
  simp [-vappend_nil,-vappend_mk,t1,t3,t4,hap]
  refine ih (N-(i+1)) _ _ ⟨i+1,r',rfl,by omega,by simp [t1],by simp,?_,(ch.trans cL).trans' c2 (fun j hj=>.inr (by have:=nr j hj;omega)),box_chg b1 c2 (fun hh=>by have:=nr _ hh;omega),by rw [asu];exact o2,fun j hj=>?_⟩ (by omega)
  ·simp [t4];rw [w64 (by omega) (by omega)]
  ·rcases n2 j hj with h1|h1
   ·exact nr j h1
   ·have:=box_lt b0;omega
 ·have:i=N:=by omega
  subst this
  simp [t1,t3,t4]
  exact ⟨oo,fun j hj=>by have:=nr j hj;omega,ch⟩
theorem l19Entering_w {v:NetV} {x:NetD} (o:dNet.Ow H v x) (hx:runOk x) :
 wp (vcall C frz 124 [dNet.val v x] H) (fun r H'=>Ow Fl.int 3 H' r ((enterN x).map Int.ofNat)∧(∀i∈ids r,H.length≤i)∧Chg H H' []):=by
 have ones:=dNet_one o
 obtain ⟨N,hN⟩:∃N:Nat,cnt x.1.1 x.1.2.1=N:=⟨(cnt x.1.1 x.1.2.1).toNat,by have:=cnt_range x.1.1 x.1.2.1;omega⟩
 have hN2:N≤16:=by have:=cnt_range x.1.1 x.1.2.1;omega
 have hall:enterN x=enterTo x N:=by unfold enterN enterTo;rw [hN,Int.toNat_natCast]
 simp only [dNet_val]
 rw [vcall_go (fn:=Tryz.f124) Tryz.func124 rfl (by kernel_rfl) rfl]
 have hsl:x.2.2.2.2.2.1.length=N:=by have:=hx.2.1.2.2.2.1;omega
 have hbl:x.2.2.1.length=10*N:=by have:=hx.2.1.1;omega
 obtain ⟨G,hG⟩:∃G,G=H++[⟨netCells v x,0,46⟩,⟨[],0,3⟩]:=⟨_,rfl⟩
 have oG0:Ow Fl.int 3 G (.slice (some ⟨H.length+1,0,some 0⟩) 0 0) []:=by rw [hG];exact Ow.new (D:=Fl.int) (xs:=[]) (k:=1) rfl rfl rfl rfl
 have cG:Chg H G []:=by rw [hG];exact Chg.app _
 have hr:G[H.length]? = some ⟨netCells v x,0,46⟩:=by rw [hG];simp
 have hGs:H++[⟨netCells v x,0,46⟩,⟨[],0,3⟩]=G:=hG.symm
 unfold netCells at hr hGs
 rw [hall]
 simp [ones]
 rw [hGs]
 clear hG hGs
 refine wp_inv (fun n t H'=>∃(i:Nat) (r:Value),n=N-i∧i≤N∧t 1=.pointer (some ⟨H.length,0,some 0⟩)∧t 3=r∧t 4=.int .i64 i∧Chg H H' []∧H'[H.length]? = some ⟨netCells v x,0,46⟩∧Ow Fl.int 3 H' r ((enterTo x i).map Int.ofNat)∧(∀j∈ids r,H.length+1≤j)) ?_ (n:=N)
  ⟨0,.slice (some ⟨H.length+1,0,some 0⟩) 0 0,rfl,by omega,by simp,by simp,by simp,cG,by unfold netCells;exact hr,oG0,by simp⟩
 rintro n t H' ⟨i,r,rfl,hi,t1,t3,t4,ch,b0,oo,nr⟩ ih
 have r1:=b0
 unfold netCells at r1
 have o1:=Dt.chg (T:=dNet) o ch (by simp)
 have rd:=o1.2.2.2.2.2.1.1.rd
 have ll:=rd.1.len (P:=Tryz.prog) (ty:=44) (by simp)
 rw [rd.2.1,hsl] at ll
 simp [t1,t3,t4,VM.look,r1,ones,ll]
 refine wp_dec ?_ ?_<;>intro g
 rotate_left
 ·have:i=N:=by omega
  subst this
  simp [t1,t3,t4]
  exact ⟨oo,fun j hj=>by have:=nr j hj;omega,ch⟩
 have hi':i<N:=by omega
 have his:i<x.2.2.2.2.2.1.length:=by omega
 obtain ⟨u,a1,a2,a3,a4⟩:=RdL_at o1.2.2.2.2.2.1.1.rd (ty:=44) (e:=113) (by simp) (by simp) his
 have la:=a4.len (P:=Tryz.prog) (ty:=113) (by simp)
 have qa:VM.one u=true∧u.cells=#[u]:=⟨a4.one',a4.cells⟩
 have hgd:x.2.2.2.2.2.1.getD i []=x.2.2.2.2.2.1[i]:=by simp [List.getD_eq_getElem?_getD,his]
 have hes:=enterTo_succ x i
 have hel:=enterTo_len x i
 simp [t1,t3,t4]
 rw [go_draw (h:=by kernel_rfl)]
 by_cases g0:x.2.2.2.2.2.1[i]=[]
 ·have hne:¬entersN x i:=fun k=>k.1 (by rw [hgd];exact g0)
  rw [if_neg hne] at hes
  rw [g0] at la
  simp [t1,t3,t4,VM.look,r1,ones,a2,a3,la]
  refine ih (N-(i+1)) _ _ ⟨i+1,r,rfl,by omega,by simp [t1],by simp [t3],?_,ch,b0,by rw [hes];exact oo,nr⟩ (by omega)
  simp [t4];rw [w64 (by omega) (by omega)]
 have g0':0<x.2.2.2.2.2.1[i].length:=List.length_pos_iff.2 g0
 obtain ⟨z0,f1,f2,f3,c1,c2,c3,_⟩:=front a4 g0
 obtain ⟨en1,en2,en3⟩:=ent_ok hx (k:=i) (by rw [hgd];exact g0)
 have hsh:srcHead x i=headL x.2.2.2.2.2.1[i]:=by unfold srcHead;rw [hgd]
 have hcl:=en1.2
 rw [hsh] at en2 hcl
 generalize headL x.2.2.2.2.2.1[i]=f at *
 have key:entersN x i↔(x.2.2.1.getD (entAt x i) []).length<3:=⟨fun k=>k.2,fun k=>⟨by rw [hgd];exact g0,k⟩⟩
 have hzl:entAt x i<x.2.2.1.length:=by unfold inR at hcl;omega
 unfold inR at hcl
 generalize entAt x i=z at *
 have e1:=@w6 (10*(i:Int)) (by omega)
 have e2:=@w6 (10*(i:Int)+8) (by omega)
 have e3:∀[Inhabited Unit],IntKind.i64.wrap (10*(i:Int)+8+f.2.2.1)=(z:Int):=by intro _;rw [w64 (by omega) (by omega)];omega
 obtain ⟨u',b1,b2,b3,b4⟩:=RdL_at o1.2.2.1.1.rd (ty:=44) (e:=113) (by simp) (by simp) hzl
 have lb:=b4.len (P:=Tryz.prog) (ty:=113) (by simp)
 have hgz:x.2.2.1.getD z []=x.2.2.1[z]:=by simp [List.getD_eq_getElem?_getD,hzl]
 have qb:VM.one u'=true∧u'.cells=#[u']:=⟨b4.one',b4.cells⟩
 rw [hgz] at key
 simp [-vfieldAddr,vfa_ptr,t1,t3,t4,la,g0',VM.look,r1,ones,a2,a3,z0,f2,c2,e1,e2,e3,b2,b3,lb]
 refine wp_dec ?_ ?_<;>intro g1
 ·rw [if_pos (key.2 (by omega))] at hes
  obtain ⟨r',H2,hap,o2,c2',n2⟩:=oo.push (P:=Tryz.prog) (frz:=H.length) (ty:=24) (a:=(i:Int)) (by simp) rfl (by simp;omega) (fun j hj=>by have:=nr j hj;omega)
  simp only [Fl.int_f] at hap
  have l0:=ch.1
  simp [t1,t3,t4,hap]
  refine ih (N-(i+1)) _ _ ⟨i+1,r',rfl,by omega,by simp [t1],by simp,?_,ch.trans' c2' (fun j hj=>.inr (by have:=nr j hj;omega)),box_chg b0 c2' (fun hh=>by have:=nr _ hh;omega),?_,fun j hj=>?_⟩ (by omega)
  ·simp [t4];rw [w64 (by omega) (by omega)]
  ·rw [hes,List.map_append];exact o2
  ·rcases n2 j hj with h1|h1
   ·exact nr j h1
   ·have:=box_lt b0;omega
 ·rw [if_neg (fun k=>by have:=key.1 k;omega)] at hes
  simp [t1,t3,t4]
  refine ih (N-(i+1)) _ _ ⟨i+1,r,rfl,by omega,by simp [t1],by simp [t3],?_,ch,b0,by rw [hes];exact oo,nr⟩ (by omega)
  simp [t4];rw [w64 (by omega) (by omega)]
theorem upd_at {s:SSD} {j:Nat} (h:j<s.length) (f:List FlitD→List FlitD):upd s j f=s.set j (f s[j]):=by
 unfold upd;rw [List.getD_eq_getElem?_getD,List.getElem?_eq_getElem h];rfl
structure Put (K K3:Heap) (u u':SSV) (s':SSD):Prop where
 hd:u'.1=u.1
 ow:dSS.Ow K3 u' s'
 nd:(dSS.ids u').Nodup
 ids:∀i∈dSS.ids u',i∈dSS.ids u∨K.length≤i
 chg:Chg K K3 (dSS.ids u)
theorem ss_hd {K:Heap} {u:SSV} {s:SSD} (o:dSS.Ow K u s) {j:Nat} (hj:j<s.length) :
 ∃a,u.2[j]? = some a∧vindexAddr Tryz.prog K 44 u.1 (.int .i64 (j:Int))=some (elp u.1 j)∧vload Tryz.prog K 113 (elp u.1 j)=some a∧Ow flF 157 K a s[j]∧VM.one a=true∧a.cells=#[a]∧VM.live K u.1:=by
 obtain ⟨a,a1,a2,a3,a4⟩:=RdL_at o.1.rd (ty:=44) (e:=113) (by simp) (by simp) hj
 have oa:=o.1.2.2 j a s[j] a1 (by simp [hj])
 exact ⟨a,a1,a2,a3,oa,a4.one',a4.cells,Ow_live o.1.1⟩
theorem ss_push {K:Heap} {u:SSV} {s:SSD} {j:Nat} {a:Value} (o:dSS.Ow K u s) (nd:(dSS.ids u).Nodup) (hj:j<s.length) (hb:s[j].length+1≤67108864) (hf:∀i∈dSS.ids u,frz≤i) (ha:u.2[j]? = some a) (y:FlitD) :
 ∃a' K2 K3,vappend Tryz.prog frz (K++[⟨flF.f y,0,157⟩]) 113 113 a (.slice (some ⟨K.length,0,some 0⟩) 1 0)=some (a',K2)∧vindexAddr Tryz.prog K2 44 u.1 (.int .i64 (j:Int))=some (elp u.1 j)∧
  vstore Tryz.prog frz K2 113 a' (elp u.1 j)=some K3∧VM.live K2 u.1∧VM.live K3 u.1∧VM.one a'=true∧a'.cells=#[a']∧Chg K K2 (ids a)∧Put K K3 u (u.1,u.2.set j a') (upd s j (·++[y])):=by
 have hj':j<u.2.length:=by rw [o.1.2.1];exact hj
 have ea:u.2[j]=a:=by rw [List.getElem?_eq_getElem hj'] at ha;exact Option.some.inj ha
 have oa:Ow flF 157 K a s[j]:=o.1.2.2 j a _ ha (by simp [hj])
 have hia:∀i∈ids a,i∈dSS.ids u:=fun i hi=>mem_idsL ha hi
 obtain ⟨a',K2,hap,oa',c2,na'⟩:=oa.push (P:=Tryz.prog) (frz:=frz) (ty:=113) (a:=y) (by simp) rfl (by omega) (fun i hi=>hf i (hia i hi))
 have c2':Chg K K2 (ids u.2[j]):=by rw [ea];exact c2
 obtain ⟨K3,hst,oL,c3,ndL,idL,l3⟩:=OwL_put (frz:=frz) (et:=113) (ag:=false) o.1 nd hj' c2' oa' (by rw [ea];exact na') (fun i hi=>hf i hi) (by simp)
 have dav:∀i∈ids u.1,i∉ids a:=fun i hi hh=>(List.nodup_append.1 nd).2.2 i hi i (List.mem_flatMap.2 ⟨a,List.mem_of_getElem? ha,hh⟩) rfl
 have ol2:=o.1.1.chg c2 dav
 have hsl:=o.1.2.1
 have ix2:=ol2.rd.idx (P:=Tryz.prog) (ty:=44) (e:=113) (by simp) (i:=(j:Int)) (by omega) (by omega)
 simp only [Int.toNat_natCast,Nat.mul_one,show Fl.val.n=1 from rfl] at ix2
 have hup:=upd_at hj (·++[y])
 refine ⟨a',K2,K3,hap,ix2,hst,Ow_live ol2,Ow_live oL.1,oa'.rd.one',oa'.rd.cells,c2,rfl,?_,ndL,idL,c3⟩
 rw [hup]
 exact ss_set oL o.2.1 o.2.2 (by simp;omega)
theorem ss_pop {K:Heap} {u:SSV} {s:SSD} {j:Nat} {a:Value} (o:dSS.Ow K u s) (nd:(dSS.ids u).Nodup) (hj:j<s.length) (hne:s[j]≠[]) (hf:∀i∈dSS.ids u,frz≤i) (hfK:frz≤K.length) (ha:u.2[j]? = some a) :
 ∃z a' K2 K3,vload Tryz.prog (K++[⟨[],0,157⟩]) 113 (elp u.1 j)=some a∧vindexAddr Tryz.prog (K++[⟨[],0,157⟩]) 44 u.1 (.int .i64 (j:Int))=some (elp u.1 j)∧
  vslice Tryz.prog (K++[⟨[],0,157⟩]) 113 (some (.int .i64 1)) none a=some z∧
  vappend Tryz.prog frz (K++[⟨[],0,157⟩]) 113 113 (.slice (some ⟨K.length,0,some 0⟩) 0 0) z=some (a',K2)∧vindexAddr Tryz.prog K2 44 u.1 (.int .i64 (j:Int))=some (elp u.1 j)∧
  vstore Tryz.prog frz K2 113 a' (elp u.1 j)=some K3∧VM.live (K++[⟨[],0,157⟩]) u.1∧VM.live K2 u.1∧VM.live K3 u.1∧VM.one a'=true∧a'.cells=#[a']∧Chg K K2 []∧Put K K3 u (u.1,u.2.set j a') (upd s j (List.drop 1)):=by
 have hj':j<u.2.length:=by rw [o.1.2.1];exact hj
 have ea:u.2[j]=a:=by rw [List.getElem?_eq_getElem hj'] at ha;exact Option.some.inj ha
 have o1:=Dt.app (T:=dSS) (L:=[⟨[],0,157⟩]) o
 obtain ⟨a1,h1,h2,h3,oa,h4,h5,h6⟩:=ss_hd o1 hj
 have e1:a1=a:=by rw [ha] at h1;exact (Option.some.inj h1).symm
 subst e1
 have hsl:=o.1.2.1
 have hpos:=List.length_pos_iff.2 hne
 obtain ⟨z,hz,oz,nz⟩:=oa.slice (P:=Tryz.prog) (ty:=113) (lo:=some (.int .i64 1)) (hi:=none) (l:=1) (u:=s[j].length) (by simp) rfl rfl (by omega) (Nat.le_refl _)
 have et:(s[j].drop 1).take (s[j].length-1)=s[j].drop 1:=List.take_of_length_le (by simp)
 rw [et] at oz
 have hlb:=o.2.2 _ (List.getElem_mem hj)
 have on:Ow flF 157 (K++[⟨[],0,157⟩]) (.slice (some ⟨K.length,0,some 0⟩) 0 0) []:=Ow.new0 (D:=flF) (xs:=[]) rfl rfl rfl rfl
 obtain ⟨a',K2,hap,oa',c2,na'⟩:=on.append (P:=Tryz.prog) (frz:=frz) (ty:=113) oz.rd (by simp) (ones_flF _) (by simp;omega) (fun i hi=>by simp at hi;omega)
 rw [List.nil_append] at oa'
 have c12:Chg K K2 []:=(Chg.app _).trans' c2 (fun i hi=>.inr (by simp at hi;omega))
 obtain ⟨K3,hst,oL,c3,ndL,idL,l3⟩:=OwL_put (frz:=frz) (et:=113) (ag:=false) o.1 nd hj' (c12.mono (fun _ h=>by cases h)) oa' (fun i hi=>by
  rcases na' i hi with g|g
  ·right;simp at g;omega
  ·right;simp at g;omega) (fun i hi=>hf i hi) (by simp)
 have ol2:=o.1.1.chg c12 (by simp)
 have ix2:=ol2.rd.idx (P:=Tryz.prog) (ty:=44) (e:=113) (by simp) (i:=(j:Int)) (by omega) (by omega)
 simp only [Int.toNat_natCast,Nat.mul_one,show Fl.val.n=1 from rfl] at ix2
 have hup:=upd_at hj (List.drop 1)
 refine ⟨z,a',K2,K3,h3,h2,hz,hap,ix2,hst,h6,Ow_live ol2,Ow_live oL.1,oa'.rd.one',oa'.rd.cells,c12,rfl,?_,ndL,idL,c3⟩
 rw [hup]
 exact ss_set oL o.2.1 o.2.2 (by simp;omega)
theorem ss_popE {K:Heap} {u:SSV} {s:SSD} {j:Nat} {a:Value} (o:dSS.Ow K u s) (nd:(dSS.ids u).Nodup) (hj:j<s.length) (hne:s[j]≠[]) (hf:∀i∈dSS.ids u,frz≤i) (ha:u.2[j]? = some a) :
 ∃z a' K2 K3,vslice Tryz.prog K 113 (some (.int .i64 1)) none a=some z∧
  vappend Tryz.prog frz K 113 113 (.slice none 0 0) z=some (a',K2)∧vindexAddr Tryz.prog K2 44 u.1 (.int .i64 (j:Int))=some (elp u.1 j)∧
  vstore Tryz.prog frz K2 113 a' (elp u.1 j)=some K3∧VM.live K2 u.1∧VM.live K3 u.1∧VM.one a'=true∧a'.cells=#[a']∧Chg K K2 []∧Put K K3 u (u.1,u.2.set j a') (upd s j (List.drop 1)):=by
 have hj':j<u.2.length:=by rw [o.1.2.1];exact hj
 obtain ⟨a1,h1,h2,h3,oa,h4,h5,h6⟩:=ss_hd o hj
 have e1:a1=a:=by rw [ha] at h1;exact (Option.some.inj h1).symm
 subst e1
 have hsl:=o.1.2.1
 have hpos:=List.length_pos_iff.2 hne
 obtain ⟨z,hz,oz,nz⟩:=oa.slice (P:=Tryz.prog) (ty:=113) (lo:=some (.int .i64 1)) (hi:=none) (l:=1) (u:=s[j].length) (by simp) rfl rfl (by omega) (Nat.le_refl _)
 have et:(s[j].drop 1).take (s[j].length-1)=s[j].drop 1:=List.take_of_length_le (by simp)
 rw [et] at oz
 have hlb:=o.2.2 _ (List.getElem_mem hj)
 have on:Ow flF 157 K (.slice none 0 0) []:=.inl ⟨rfl,rfl⟩
 obtain ⟨a',K2,hap,oa',c12,na'⟩:=on.append (P:=Tryz.prog) (frz:=frz) (ty:=113) oz.rd (by simp) (ones_flF _) (by simp;omega) (by simp)
 rw [List.nil_append] at oa'
 obtain ⟨K3,hst,oL,c3,ndL,idL,l3⟩:=OwL_put (frz:=frz) (et:=113) (ag:=false) o.1 nd hj' (c12.mono (fun i h=>by simp at h)) oa' (fun i hi=>by
  rcases na' i hi with g|g
  ·simp at g
  ·exact .inr g) (fun i hi=>hf i hi) (by simp)
 have c12':Chg K K2 []:=c12.mono (fun i h=>by simp at h)
 have ol2:=o.1.1.chg c12' (by simp)
 have ix2:=ol2.rd.idx (P:=Tryz.prog) (ty:=44) (e:=113) (by simp) (i:=(j:Int)) (by omega) (by omega)
 simp only [Int.toNat_natCast,Nat.mul_one,show Fl.val.n=1 from rfl] at ix2
 have hup:=upd_at hj (List.drop 1)
 refine ⟨z,a',K2,K3,hz,hap,ix2,hst,Ow_live ol2,Ow_live oL.1,oa'.rd.one',oa'.rd.cells,c12',rfl,?_,ndL,idL,c3⟩
 rw [hup]
 exact ss_set oL o.2.1 o.2.2 (by simp;omega)
theorem ow_nil {α:Type} {D:Fl α} {e:TypeId} {K:Heap} {v:Value} {xs:List α} (o:Ow D e K v xs) (h:0<xs.length) (j:Nat):VM.vnil K (elp v j)=some (elp v j):=by
 rcases o with ⟨_,rfl⟩|⟨id,off,r,rfl,h2,_⟩
 ·simp at h
 ·simp [elp,VM.vnil,VM.look,h2]
def vw (v:NetV) (h5 h8 h9:List Value):NetV:=(v.1,v.2.1,(v.2.2.1.1,h5),v.2.2.2.1,v.2.2.2.2.1,(v.2.2.2.2.2.1.1,h8),(v.2.2.2.2.2.2.1.1,h9),v.2.2.2.2.2.2.2)
structure NS (H K:Heap) (W:List Nat) (v:NetV) (y:NetD) (h5 h8 h9:List Value):Prop where
 ow:dNet.Ow K (vw v h5 h8 h9) y
 nd:(dNet.ids (vw v h5 h8 h9)).Nodup
 ids:∀i∈dNet.ids (vw v h5 h8 h9),i∈dNet.ids v∨H.length≤i
 chg:Chg H K (W++dNet.ids v)
theorem NS.start {v:NetV} {y:NetD} (W:List Nat) (o:dNet.Ow H v y) (nd:(dNet.ids v).Nodup):NS H H W v y v.2.2.1.2 v.2.2.2.2.2.1.2 v.2.2.2.2.2.2.1.2:=
 ⟨o,nd,fun i hi=>.inl hi,Chg.refl _⟩
theorem NS.other {K K':Heap} {W:List Nat} {v:NetV} {y:NetD} {h5 h8 h9:List Value} {I:List Nat} (n:NS H K W v y h5 h8 h9) (c:Chg K K' I) (hd:∀i∈dNet.ids (vw v h5 h8 h9),i∉I) (hI:∀i∈I,i∈W∨H.length≤i):NS H K' W v y h5 h8 h9:=
 ⟨Dt.chg (T:=dNet) n.ow c hd,n.nd,n.ids,n.chg.trans' c (fun i hi=>(hI i hi).imp (fun h=>List.mem_append_left _ h) id)⟩
theorem NS.step {K K':Heap} {W:List Nat} {v:NetV} {y y':NetD} {h5 h8 h9 h5' h8' h9':List Value} {I:List Nat} (n:NS H K W v y h5 h8 h9) (c:Chg K K' I) (hI:∀i∈I,i∈dNet.ids (vw v h5 h8 h9))
 (o:dNet.Ow K' (vw v h5' h8' h9') y') (nd:(dNet.ids (vw v h5' h8' h9')).Nodup) (hi:∀i∈dNet.ids (vw v h5' h8' h9'),i∈dNet.ids (vw v h5 h8 h9)∨K.length≤i):NS H K' W v y' h5' h8' h9':=
 ⟨o,nd,fun i h=>by
  rcases hi i h with g|g
  ·exact n.ids i g
  ·have:=n.chg.1;right;omega,n.chg.trans' c (fun i h=>(n.ids i (hI i h)).imp (fun h=>List.mem_append_right _ h) id)⟩
theorem NS.buf {K K':Heap} {W:List Nat} {v:NetV} {y:NetD} {h5 h8 h9 h5':List Value} {s':SSD} (n:NS H K W v y h5 h8 h9) (p:Put K K' (v.2.2.1.1,h5) (v.2.2.1.1,h5') s') :
 NS H K' W v (withBuf y s') h5' h8 h9∧(∀i∈dNet.ids (vw v h5' h8 h9),i∈dNet.ids (vw v h5 h8 h9)∨K.length≤i)∧Chg K K' (dNet.ids (vw v h5 h8 h9)):=by
 obtain ⟨a,b,c⟩:=net_putBuf (n:=vw v h5 h8 h9) (u:=(v.2.2.1.1,h5')) n.ow n.nd p.chg p.ow p.nd p.ids
 exact ⟨n.step p.chg (fun i hi=>net_inBuf (n:=vw v h5 h8 h9) i hi) a b c,c,p.chg.mono (fun i hi=>net_inBuf (n:=vw v h5 h8 h9) i hi)⟩
theorem NS.src {K K':Heap} {W:List Nat} {v:NetV} {y:NetD} {h5 h8 h9 h8':List Value} {s':SSD} (n:NS H K W v y h5 h8 h9) (p:Put K K' (v.2.2.2.2.2.1.1,h8) (v.2.2.2.2.2.1.1,h8') s') :
 NS H K' W v (withSrc y s') h5 h8' h9∧(∀i∈dNet.ids (vw v h5 h8' h9),i∈dNet.ids (vw v h5 h8 h9)∨K.length≤i)∧Chg K K' (dNet.ids (vw v h5 h8 h9)):=by
 obtain ⟨a,b,c⟩:=net_putSrc (n:=vw v h5 h8 h9) (u:=(v.2.2.2.2.2.1.1,h8')) n.ow n.nd p.chg p.ow p.nd p.ids
 exact ⟨n.step p.chg (fun i hi=>net_inSrc (n:=vw v h5 h8 h9) i hi) a b c,c,p.chg.mono (fun i hi=>net_inSrc (n:=vw v h5 h8 h9) i hi)⟩
theorem NS.arr {K K':Heap} {W:List Nat} {v:NetV} {y:NetD} {h5 h8 h9 h9':List Value} {s':SSD} (n:NS H K W v y h5 h8 h9) (p:Put K K' (v.2.2.2.2.2.2.1.1,h9) (v.2.2.2.2.2.2.1.1,h9') s') :
 NS H K' W v (withArr y s') h5 h8 h9'∧(∀i∈dNet.ids (vw v h5 h8 h9'),i∈dNet.ids (vw v h5 h8 h9)∨K.length≤i)∧Chg K K' (dNet.ids (vw v h5 h8 h9)):=by
 obtain ⟨a,b,c⟩:=net_putArr (n:=vw v h5 h8 h9) (u:=(v.2.2.2.2.2.2.1.1,h9')) n.ow n.nd p.chg p.ow p.nd p.ids
 exact ⟨n.step p.chg (fun i hi=>net_inArr (n:=vw v h5 h8 h9) i hi) a b c,c,p.chg.mono (fun i hi=>net_inArr (n:=vw v h5 h8 h9) i hi)⟩
theorem NS.own {K:Heap} {W:List Nat} {v:NetV} {y:NetD} {h5 h8 h9:List Value} (n:NS H K W v y h5 h8 h9) (hf:∀i∈dNet.ids (vw v h5 h8 h9),frz≤i) {j:Nat} (hj:j<y.2.2.2.1.length) (z:Int) :
 ∃K',vstore Tryz.prog frz K 3 (.int .i64 z) (elp v.2.2.2.1 j)=some K'∧NS H K' W v (withOwn y (y.2.2.2.1.set j z)) h5 h8 h9∧Chg K K' (dNet.ids (vw v h5 h8 h9)):=by
 obtain ⟨K',s,o,c,l⟩:=n.ow.2.2.2.1.1.put1 (P:=Tryz.prog) (frz:=frz) rfl (et:=3) (ag:=false) (by simp) hj (x:=.int .i64 z) (y:=z) rfl rfl rfl (fun i hi=>hf i (net_inOwn (n:=vw v h5 h8 h9) i hi))
 obtain ⟨a,b,c'⟩:=net_putOwn (n:=vw v h5 h8 h9) (u:=v.2.2.2.1) (s:=y.2.2.2.1.set j z) n.ow n.nd c ⟨o,by have:=n.ow.2.2.2.1.2;simpa using this⟩ (net_ndOwn (n:=vw v h5 h8 h9) n.nd) (fun i hi=>.inl hi)
 exact ⟨K',s,n.step c (fun i hi=>net_inOwn (n:=vw v h5 h8 h9) i hi) a b c',c.mono (fun i hi=>net_inOwn (n:=vw v h5 h8 h9) i hi)⟩
theorem NS.turn {K:Heap} {W:List Nat} {v:NetV} {y:NetD} {h5 h8 h9:List Value} (n:NS H K W v y h5 h8 h9) (hf:∀i∈dNet.ids (vw v h5 h8 h9),frz≤i) {j:Nat} (hj:j<y.2.2.2.2.1.length) (z:Int) :
 ∃K',vstore Tryz.prog frz K 3 (.int .i64 z) (elp v.2.2.2.2.1 j)=some K'∧NS H K' W v (withTurn y (y.2.2.2.2.1.set j z)) h5 h8 h9∧Chg K K' (dNet.ids (vw v h5 h8 h9)):=by
 obtain ⟨K',s,o,c,l⟩:=n.ow.2.2.2.2.1.1.put1 (P:=Tryz.prog) (frz:=frz) rfl (et:=3) (ag:=false) (by simp) hj (x:=.int .i64 z) (y:=z) rfl rfl rfl (fun i hi=>hf i (net_inTurn (n:=vw v h5 h8 h9) i hi))
 obtain ⟨a,b,c'⟩:=net_putTurn (n:=vw v h5 h8 h9) (u:=v.2.2.2.2.1) (s:=y.2.2.2.2.1.set j z) n.ow n.nd c ⟨o,by have:=n.ow.2.2.2.2.1.2;simpa using this⟩ (net_ndTurn (n:=vw v h5 h8 h9) n.nd) (fun i hi=>.inl hi)
 exact ⟨K',s,n.step c (fun i hi=>net_inTurn (n:=vw v h5 h8 h9) i hi) a b c',c.mono (fun i hi=>net_inTurn (n:=vw v h5 h8 h9) i hi)⟩
noncomputable def nPop (x:NetD) (i:Nat):NetD:=withBuf x (((allN x).take i).foldl popS x.2.2.1)
noncomputable def nPush (x y:NetD) (i:Nat):NetD:=
 (y.1,y.2.1,((allN x).take i).foldl (pushS x) y.2.2.1,((allN x).take i).foldl (ownS x) y.2.2.2.1,((allN x).take i).foldl turnS y.2.2.2.2.1,y.2.2.2.2.2.1,((allN x).take i).foldl (arrS x) y.2.2.2.2.2.2.1,y.2.2.2.2.2.2.2)
noncomputable def nEnt (x y:NetD) (i:Nat):NetD:=
 (y.1,y.2.1,((enterN x).take i).foldl (entS x) y.2.2.1,y.2.2.2.1,y.2.2.2.2.1,((enterN x).take i).foldl srcS y.2.2.2.2.2.1,y.2.2.2.2.2.2.1,y.2.2.2.2.2.2.2)
theorem step_eq (x:NetD):stepN x=older (nEnt x (nPush x (nPop x (allN x).length) (allN x).length) (enterN x).length) 1:=by
 unfold nEnt nPush nPop older withBuf
 simp only [List.take_length]
 rfl
def tgI (x:NetD) (g:GrD):Int:=if g.2.1=4 then -1 else (tgt x g.1 g.2.1 (g.2.2%2):Int)
theorem gr_idx {K:Heap} {e:TypeId} {v:Value} {l:List GrD} (o:Ow grF e K v l) {i:Nat} (hi:i<l.length) :
 vindexAddr Tryz.prog K 145 v (.int .i64 (i:Int))=some (elp v (i*3))∧vload Tryz.prog K 169 (elp v (i*3))=some (.agg (grF.f l[i]).toArray):=by
 have q1:=o.rd.idx (P:=Tryz.prog) (ty:=145) (e:=169) (by simp) (i:=(i:Int)) (by omega) (by omega)
 have q2:=o.rd.load (P:=Tryz.prog) (e:=169) (by simp) hi
 simp only [Int.toNat_natCast,grF_n] at q1 q2
 exact ⟨q1,q2⟩
def StepPost (H:Heap) (v:NetV) (y:NetD) (id:Nat) (e:TypeId) (tail:List Value) (_:Value) (H':Heap):Prop:=
 ∃v':NetV,H'[id]? = some ⟨netCells v' y++tail,0,e⟩∧dNet.Ow H' v' y∧(dNet.ids v').Nodup∧(∀i∈dNet.ids v',i∈dNet.ids v∨H.length≤i)∧Chg H H' (id::dNet.ids v)
theorem live_nil {K:Heap} {w:Value} (h:VM.live K w) (hw:∃a n c,w=.slice (some a) n c) (j:Nat):VM.vnil K (elp w j)=some (elp w j):=by
 obtain ⟨a,n,c,rfl⟩:=hw
 simp only [VM.live,live1] at h
 show (match VM.look K a with|some _=>some (Value.pointer (some ⟨a.block,a.off+j,a.spot⟩))|none=>none)=_
 cases hh:VM.look K a with
 | none=>exact absurd hh h
 | some r=>rfl
theorem ow_some {α:Type} {D:Fl α} {e:TypeId} {K:Heap} {v:Value} {xs:List α} (o:Ow D e K v xs) (h:0<xs.length):∃a n c,v=.slice (some a) n c:=by
 rcases o with ⟨_,rfl⟩|⟨id,off,r,rfl,h2,_⟩
 ·simp at h
 ·exact ⟨_,_,_,rfl⟩
theorem nPop_succ {x:NetD} {i:Nat} (h:i<(allN x).length):nPop x (i+1)=withBuf (nPop x i) (upd (nPop x i).2.2.1 (frm (allN x)[i]) (List.drop 1)):=by
 unfold nPop;rw [foldl_take_succ _ _ h];rfl
theorem nPop_len (x:NetD) (i:Nat):(nPop x i).2.2.1.length=x.2.2.1.length:=fold_len popS_len _ _
theorem nPop_at {x:NetD} {i:Nat} (h:i<(allN x).length):(nPop x i).2.2.1.getD (frm (allN x)[i]) []=x.2.2.1.getD (frm (allN x)[i]) []:=pops_at _ _ _ (not_take (allN_nd x) h)
theorem mv_at {K:Heap} {e:TypeId} {v:Value} {l:List FlitD} (o:Ow flF e K v l) {i:Nat} (hi:i<l.length) :
 vindexAddr Tryz.prog K 113 v (.int .i64 (i:Int))=some (elp v (i*5))∧vload Tryz.prog K 157 (elp v (i*5))=some (.agg (flF.f l[i]).toArray)∧vfieldAddr Tryz.prog K 157 4 (elp v (i*5))=some (elp v (i*5+4))∧vload Tryz.prog K 4 (elp v (i*5+4))=some (.bool l[i].2.2.2.2):=by
 have q1:=o.rd.idx (P:=Tryz.prog) (ty:=113) (e:=157) (by simp) (i:=(i:Int)) (by omega) (by omega)
 have q2:=o.rd.load (P:=Tryz.prog) (e:=157) (by simp) hi
 have q3:=o.rd.field (P:=Tryz.prog) (s:=157) (f:=4) (o:=4) (n:=1) (ag:=false) (by simp) (j:=i*5) (by omega)
 have q4:=o.rd.cell (P:=Tryz.prog) (e:=4) (by simp) hi (c:=4) (by decide)
 simp only [Int.toNat_natCast,flF_n] at q1 q2 q4
 simp only [flF_f] at q4
 simp at q4
 exact ⟨q1,q2,q3,q4⟩
theorem in_at {K:Heap} {v:Value} {l:List Int} (h:IsI K v l) {i:Nat} (hi:i<l.length) :
 vindexAddr Tryz.prog K 24 v (.int .i64 (i:Int))=some (elp v i)∧vload Tryz.prog K 3 (elp v i)=some (.int .i64 l[i]):=by
 have q1:=h.idx (P:=Tryz.prog) (ty:=24) (e:=3) (by simp) (i:=(i:Int)) (by omega) (by omega)
 have q2:=h.load (P:=Tryz.prog) (e:=3) (by simp) hi
 simp only [Int.toNat_natCast] at q1
 rw [getD_get _ _ hi] at q2
 exact ⟨q1,q2⟩
theorem nPush_succ {x y:NetD} {i:Nat} (h:i<(allN x).length):nPush x y (i+1)=withTurn (withOwn (withArr (withBuf (nPush x y i) (pushS x (nPush x y i).2.2.1 (allN x)[i])) (arrS x (nPush x y i).2.2.2.2.2.2.1 (allN x)[i])) (ownS x (nPush x y i).2.2.2.1 (allN x)[i])) (turnS (nPush x y i).2.2.2.2.1 (allN x)[i]):=by
 unfold nPush;simp only [foldl_take_succ _ _ h];rfl
theorem nEnt_succ {x y:NetD} {i:Nat} (h:i<(enterN x).length):nEnt x y (i+1)=withSrc (withBuf (nEnt x y i) (entS x (nEnt x y i).2.2.1 (enterN x)[i])) (srcS (nEnt x y i).2.2.2.2.2.1 (enterN x)[i]):=by
 unfold nEnt;simp only [foldl_take_succ _ _ h];rfl
theorem step_w {v:NetV} {x:NetD} {id:Nat} {e:TypeId} {tail:List Value} (hr:H[id]? = some ⟨netCells v x++tail,0,e⟩) (o:dNet.Ow H v x) (nd:(dNet.ids v).Nodup) (hf:∀i∈dNet.ids v,frz≤i) (hfi:frz≤id) (hid:id∉dNet.ids v) (hfH:frz≤H.length) (hx:runOk x) (hb5:allL 67000000 x.2.2.1) (hb9:allL 67000000 x.2.2.2.2.2.2.1) (ht:inR 0 x.2.2.2.2.2.2.2 1000000) :
 wp (vcall C frz 92 [.pointer (some ⟨id,0,some 0⟩)] H) (StepPost H v (stepN x) id e tail):=by
 have ones:=dNet_one o
 have cr:=cnt_range x.1.1 x.1.2.1
 have hidl:=box_lt hr
 have hlt:=dNet.lt o
 rw [vcall_go (fn:=Tryz.f92) Tryz.func92 rfl (by kernel_rfl) rfl]
 simp
 refine wp_thn (allGrants_w hr o hx) ?_
 rintro gl H1 ⟨oG,nG,cG⟩
 simp
 refine wp_thn (entering_w (box_chg hr cG (by simp)) (Dt.chg (T:=dNet) o cG (by simp)) hx) ?_
 rintro el H2 ⟨oE,nE,cE⟩
 simp
 obtain ⟨G,hG⟩:∃G,G=H2++[⟨[],0,157⟩,⟨[],0,3⟩]:=⟨_,rfl⟩
 have oM0:Ow flF 157 G (.slice (some ⟨H2.length,0,some 0⟩) 0 0) []:=by rw [hG];exact Ow.new0 (D:=flF) (xs:=[]) rfl rfl rfl rfl
 have oT0:Ow Fl.int 3 G (.slice (some ⟨H2.length+1,0,some 0⟩) 0 0) []:=by rw [hG];exact Ow.new (D:=Fl.int) (xs:=[]) (k:=1) rfl rfl rfl rfl
 have c2G:Chg H2 G []:=by rw [hG];exact Chg.app _
 have lG:G.length=H2.length+2:=by rw [hG];simp
 have c0G:Chg H G []:=(cG.trans cE).trans c2G
 have l1:=cG.1
 have l2:=cE.1
 have oG1:=(oG.chg cE (by simp)).chg c2G (by simp)
 have oE1:=oE.chg c2G (by simp)
 have hGs:H2++[⟨[],0,157⟩,⟨[],0,3⟩]=G:=hG.symm
 have ltG:∀i∈ids gl,i<H1.length:=oG.lt
 have ltE:∀i∈ids el,i<H2.length:=oE.lt
 have hgl:=oG1.rd.len (P:=Tryz.prog) (ty:=145) (by simp)
 rw [hGs]
 clear hG hGs
 have hL:=allN_len x
 have hat:=fun g (hg:g∈allN x)=>allN_at hg
 have hnd:=allN_nd x
 simp [hgl]
 -- the targets
 refine wp_inv (fun n t H'=>∃(i:Nat) (r:Value),n=(allN x).length-i∧i≤(allN x).length∧t 0=.pointer (some ⟨id,0,some 0⟩)∧t 2=gl∧t 3=el∧t 4=.slice (some ⟨H2.length,0,some 0⟩) 0 0∧t 5=r∧t 25=gl∧t 26=.int .i64 (allN x).length∧t 27=.int .i64 i∧
  Chg G H' [H2.length+1]∧Ow Fl.int 3 H' r (((allN x).take i).map (tgI x))∧(∀j∈ids r,j=H2.length+1∨G.length≤j)) ?_ (n:=(allN x).length)
  ⟨0,.slice (some ⟨H2.length+1,0,some 0⟩) 0 0,rfl,by omega,by simp,by simp,by simp,by simp,by simp,by simp,by simp,by simp,Chg.refl _,oT0,by simp⟩
 rintro n t H' ⟨i,r,rfl,hi,t0,t2,t3,t4,t5,t25,t26,t27,ch,oT,nT⟩ ih
 simp [t0,t2,t3,t4,t5,t25,t26,t27]
 refine wp_dec ?_ ?_<;>intro g
 ·have hi':i<(allN x).length:=by omega
  have oG2:=oG1.chg ch (fun j hj hh=>by have:=ltG j hj;simp at hh;omega)
  obtain ⟨q1,q2⟩:=gr_idx oG2 hi'
  obtain ⟨m1,m2,m3,m4⟩:=hat _ (List.getElem_mem hi')
  have htk:(allN x).take (i+1)=(allN x).take i++[(allN x)[i]]:=List.take_succ_eq_append_getElem hi'
  generalize (allN x)[i]=gg at *
  have cH':Chg H H' []:=c0G.trans' ch (fun j hj=>.inr (by simp at hj;omega))
  obtain ⟨c,hc⟩:∃c,c=gg.2.2%2:=⟨_,rfl⟩
  have e3:∀[Inhabited Unit],(gg.2.2:Int).tmod 2=(c:Int):=by intro _;rw [tmod2];omega
  have e3':∀[Inhabited Unit],(gg.2.2:Int)%2=(c:Int):=by intro _;omega
  have bh:=fun F L=>behind_c (frz:=F) (H:=H'++L) (a:=gg.1) (p:=gg.2.1) (c:=c) (get_app' (box_chg hr cH' (by simp)) L) (Dt.app (T:=dNet) (Dt.chg (T:=dNet) o cH' (by simp))) m1 m2 (by omega)
  have ht:(if gg.2.1≠4∧has x.1.1 x.1.2.1 x.1.2.2 (4*(gg.1:Int)+gg.2.1) then (tgt x gg.1 gg.2.1 c:Int) else -1)=tgI x gg:=by
   unfold tgI
   rw [← hc]
   by_cases h4:gg.2.1=4
   ·rw [if_neg (fun k=>k.1 h4),if_pos h4]
   ·rcases m4.2.1 with k|⟨k,_⟩
    ·exact absurd k h4
    ·rw [if_pos ⟨h4,k⟩,if_neg h4]
  rw [ht] at bh
  obtain ⟨T,hT⟩:∃T,T=tgI x gg:=⟨_,rfl⟩
  rw [← hT] at bh
  simp [t0,t2,t3,t4,t5,t25,t26,t27,q1,q2,grF_f,VM.look,e3,e3',bh]
  have hF:frz≤H'.length:=by have:=cH'.1;omega
  have l3:=ch.1
  obtain ⟨r',H3,hap,oT3,c3,n3⟩:=(oT.app (L:=[⟨[.int .i64 (gg.1:Int),.int .i64 (gg.2.1:Int),.int .i64 (gg.2.2:Int)],0,169⟩])).push (P:=Tryz.prog) (frz:=frz) (ty:=24) (a:=T) (by simp) rfl (by simp;omega) (fun j hj=>by have:=nT j hj;omega)
  simp only [Fl.int_f,List.append_assoc,List.cons_append,List.nil_append,List.length_append,List.length_cons,List.length_nil] at hap
  simp [-vappend_nil,-vappend_mk,t0,t2,t3,t4,t5,t25,t26,t27,hF,hap]
  refine ih ((allN x).length-(i+1)) _ _ ⟨i+1,r',rfl,by omega,by simp [t0],by simp [t2],by simp [t3],by simp [t4],by simp,by simp [t25],by simp [t26],?_,?_,by rw [htk,List.map_append,List.map_cons,List.map_nil,← hT];exact oT3,fun j hj=>?_⟩ (by omega)
  ·simp [t27];rw [w64 (by omega) (by omega)]
  ·exact (ch.trans (Chg.app _)).trans' c3 (fun j hj=>(nT j hj).imp (fun h=>by simp [h]) _root_.id)
  ·rcases n3 j hj with h1|h1
   ·exact nT j h1
   ·simp at h1;omega
 ·have hil:i=(allN x).length:=by omega
  subst hil
  rw [List.take_length] at oT
  clear ih
  have cK0:Chg H H' []:=c0G.trans' ch (fun j hj=>.inr (by simp at hj;omega))
  have oG2:=oG1.chg ch (fun j hj hh=>by have:=ltG j hj;simp at hh;omega)
  have oE2:=oE1.chg ch (fun j hj hh=>by have:=ltE j hj;simp at hh;omega)
  have oM2:=oM0.chg ch (by simp)
  have hgl2:=oG2.rd.len (P:=Tryz.prog) (ty:=145) (by simp)
  have ltT:∀j∈ids r,j<H'.length:=oT.lt
  have nT':∀j∈ids r,H2.length<j:=fun j hj=>by rcases nT j hj with h|h<;>omega
  have hr0:=box_chg hr cK0 (by simp)
  have ns0:NS H' H' [H2.length] v x _ _ _:=NS.start [H2.length] (Dt.chg (T:=dNet) o cK0 (by simp)) nd
  have lK0:H2.length+2≤H'.length:=by have:=ch.1;omega
  simp [t0,t2,t3,t4,t5,t25,t26,t27,hgl2]
  -- the pops
  clear ch oT0 oG1 oE1 oM0 hgl c2G
  refine wp_inv (fun n t K=>∃(i:Nat) (mv:Value) (h5:List Value),n=(allN x).length-i∧i≤(allN x).length∧t 0=.pointer (some ⟨id,0,some 0⟩)∧t 2=gl∧t 3=el∧t 4=mv∧t 5=r∧t 44=gl∧t 45=.int .i64 (allN x).length∧t 46=.int .i64 i∧
   NS H' K [H2.length] v (nPop x i) h5 v.2.2.2.2.2.1.2 v.2.2.2.2.2.2.1.2∧Ow flF 157 K mv (((allN x).take i).map fun g=>headOf x (frm g))∧(∀j∈ids mv,(j=H2.length∨H'.length≤j)∧j∉dNet.ids (vw v h5 v.2.2.2.2.2.1.2 v.2.2.2.2.2.2.1.2))) ?_ (n:=(allN x).length)
   ⟨0,.slice (some ⟨H2.length,0,some 0⟩) 0 0,v.2.2.1.2,rfl,by omega,by simp [t0],by simp [t2],by simp [t3],by simp [t4],by simp [t5],by simp,by simp,by simp,ns0,oM2,fun j hj=>⟨.inl (by simpa using hj),fun hh=>by have:=hlt j hh;simp at hj;omega⟩⟩
  clear t0 t2 t3 t4 t5 t25 t26 t27
  rintro n t K ⟨i,mv,h5,rfl,hi,t0,t2,t3,t4,t5,t44,t45,t46,ns,oM,nM⟩ ih
  simp [t0,t2,t3,t4,t5,t44,t45,t46]
  refine wp_dec ?_ ?_<;>intro g
  ·have hi':i<(allN x).length:=by omega
   have oG3:=oG2.chg ns.chg (fun j hj hh=>by
    have h1:=ltG j hj
    have h2:=nG j hj
    rcases List.mem_append.1 hh with hh|hh
    ·simp at hh;omega
    ·have:=hlt j hh;omega)
   obtain ⟨q1,q2⟩:=gr_idx oG3 hi'
   obtain ⟨m1,m2,m3,m4⟩:=hat _ (List.getElem_mem hi')
   have htk:(allN x).take (i+1)=(allN x).take i++[(allN x)[i]]:=List.take_succ_eq_append_getElem hi'
   have hps:=nPop_succ hi'
   have hpa:=nPop_at hi'
   generalize (allN x)[i]=gg at *
   obtain ⟨j,hj⟩:∃j,j=frm gg:=⟨_,rfl⟩
   rw [← hj] at hps hpa
   have hjl:j<(nPop x i).2.2.1.length:=by rw [nPop_len];have:=hx.2.1.1;unfold frm at hj;omega
   have hgd:(nPop x i).2.2.1.getD j []=(nPop x i).2.2.1[j]:=by simp [List.getD_eq_getElem?_getD,hjl]
   have hne:(nPop x i).2.2.1[j]≠[]:=by rw [← hgd,hpa,hj];exact req_ne m4
   have hhd:headL (nPop x i).2.2.1[j]=headOf x (frm gg):=by rw [← hgd,hpa,hj];rfl
   have e1:=@w6 (10*(gg.1:Int)) (by omega)
   have e2:∀[Inhabited Unit],IntKind.i64.wrap (10*(gg.1:Int)+(gg.2.2:Int))=(j:Int):=by intro _;unfold frm at hj;rw [w64 (by omega) (by omega)];omega
   have hrK:=box_chg hr0 ns.chg (fun hh=>by
    rcases List.mem_append.1 hh with hh|hh
    ·simp at hh;omega
    ·exact hid hh)
   unfold netCells at hrK
   simp only [List.cons_append,List.nil_append] at hrK
   obtain ⟨A,hA⟩:∃A,A=K++[⟨[.int .i64 (gg.1:Int),.int .i64 (gg.2.1:Int),.int .i64 (gg.2.2:Int)],0,169⟩]:=⟨_,rfl⟩
   have cA:Chg K A []:=by rw [hA];exact Chg.app _
   have lA:A.length=K.length+1:=by rw [hA];simp
   have bx:A[K.length]? = some ⟨[.int .i64 (gg.1:Int),.int .i64 (gg.2.1:Int),.int .i64 (gg.2.2:Int)],0,169⟩:=by rw [hA];simp
   have nsA:=ns.other cA (by simp) (by simp)
   have oMA:=oM.chg cA (by simp)
   have hrA:=box_chg hrK cA (by simp)
   obtain ⟨a,a1,a2,a3,oa,qa1,qa2,lvA⟩:=ss_hd (u:=(v.2.2.1.1,h5)) nsA.ow.2.2.1 hjl
   obtain ⟨z0,_,_,_,_,_,_,zw⟩:=front oa.rd hne
   rw [hhd] at zw
   have ltM:=oM.lt
   have lcK:=ns.chg.1
   obtain ⟨f,hfe⟩:∃f,f=headOf x (frm gg):=⟨_,rfl⟩
   rw [← hfe] at zw
   obtain ⟨mv',B,hap,oM',cB,nB⟩:=oMA.push (P:=Tryz.prog) (frz:=frz) (ty:=113) (a:=f) (by simp) rfl (by simp;omega) (fun k hk=>by have:=(nM k hk).1;omega)
   have nsB:=nsA.other cB (fun k hk hh=>(nM k hh).2 hk) (fun k hk=>(nM k hk).1.imp (fun h=>by simp [h]) _root_.id)
   have hfn:∀k∈dNet.ids (vw v h5 v.2.2.2.2.2.1.2 v.2.2.2.2.2.2.1.2),frz≤k:=fun k hk=>by
    rcases ns.ids k hk with g|g
    ·exact hf k g
    ·omega
   have lcB:=cB.1
   obtain ⟨z,a',K2,K3,p1,p2,p3,p4,p5,p6,lv1,lv2,lv3,qb1,qb2,c2,pt⟩:=ss_pop (frz:=frz) (u:=(v.2.2.1.1,h5)) nsB.ow.2.2.1 (net_ndBuf (n:=vw v h5 v.2.2.2.2.2.1.2 v.2.2.2.2.2.2.1.2) nsB.nd) hjl hne (fun k hk=>hfn k (net_inBuf (n:=vw v h5 v.2.2.2.2.2.1.2 v.2.2.2.2.2.2.1.2) k hk)) (by omega) a1
   simp only at a2 a3 lvA p1 p2 p5 p6 lv1 lv2 lv3
   obtain ⟨nsC,nC,cC⟩:=nsB.buf pt
   have hw:=ow_some nsA.ow.2.2.1.1.1 (by show 0<h5.length;have:=nsA.ow.2.2.1.1.2.1;have h2:(vw v h5 v.2.2.2.2.2.1.2 v.2.2.2.2.2.2.1.2).2.2.1.2=h5:=rfl;rw [h2] at this;omega)
   have hw':∃a n c,v.2.2.1.1=.slice (some a) n c:=hw
   have vA:=live_nil lvA hw' j
   have lvB:VM.live B v.2.2.1.1:=Ow_live nsB.ow.2.2.1.1.1
   have vB:=live_nil lvB hw' j
   have v1:=live_nil lv1 hw' j
   have v2:=live_nil lv2 hw' j
   have aB:vload Tryz.prog B 113 (elp v.2.2.1.1 j)=some a:=by
    obtain ⟨ab,b1,b2,b3,_⟩:=ss_hd (u:=(v.2.2.1.1,h5)) nsB.ow.2.2.1 hjl
    rw [a1] at b1;cases b1;exact b3
   have hFK:frz≤K.length:=by omega
   have hFA:frz≤A.length:=by omega
   have hFB:frz≤B.length:=by omega
   simp only [flF_f] at hap zw
   have hAs:K++[⟨[.int .i64 (gg.1:Int),.int .i64 (gg.2.1:Int),.int .i64 (gg.2.2:Int)],0,169⟩]=A:=hA.symm
   simp [t0,t2,t3,t4,t5,t44,t45,t46,q1,q2,grF_f]
   rw [hAs]
   clear hA hAs
   rw [go_draw (h:=by kernel_rfl)]
   have vI:VM.vnil A (.pointer (some ⟨id,0,some 0⟩))=some (.pointer (some ⟨id,0,some 0⟩)):=by simp [VM.vnil,VM.look,hrA]
   simp [-vappend_nil,-vappend_mk,t0,t2,t3,t4,t5,t44,t45,t46,VM.look,hrA,vI,bx,ones,e1,e2,a2,vA,a3,z0,zw,hFK,hFA,hap,hFB,vB,v1,v2,p1,p3,p4,p6,qa1,qa2,qb1,qb2]
   have ltN:∀k∈dNet.ids (vw v h5 v.2.2.2.2.2.1.2 v.2.2.2.2.2.2.1.2),k<K.length:=fun k hk=>dNet.lt ns.ow k hk
   have dMN:∀k∈ids mv',k∉dNet.ids (vw v h5 v.2.2.2.2.2.1.2 v.2.2.2.2.2.2.1.2):=fun k hk hh=>by
    rcases nB k hk with h|h
    ·exact (nM k h).2 hh
    ·have:=ltN k hh;omega
   have ltM':=oM'.lt
   refine ih ((allN x).length-(i+1)) _ _ ⟨i+1,mv',h5.set j a',rfl,by omega,by simp [t0],by simp [t2],by simp [t3],by simp,by simp [t5],by simp [t44],by simp [t45],?_,by rw [hps];exact nsC,?_,fun k hk=>⟨?_,fun hh=>?_⟩⟩ (by omega)
   ·simp [t46];rw [w64 (by omega) (by omega)]
   ·rw [htk,List.map_append,List.map_cons,List.map_nil,← hfe];exact oM'.chg cC dMN
   ·rcases nB k hk with h|h
    ·exact (nM k h).1
    ·right;omega
   ·rcases nC k hh with h|h
    ·exact dMN k hk h
    ·have:=ltM' k hk;omega
  ·have hil:i=(allN x).length:=by omega
   subst hil
   rw [List.take_length] at oM
   clear ih
   -- between the loops: the network w,y1
   have hrK:K[id]? = some ⟨netCells (vw v h5 v.2.2.2.2.2.1.2 v.2.2.2.2.2.2.1.2) (nPop x (allN x).length)++tail,0,e⟩:=box_chg hr0 ns.chg (fun hh=>by
    rcases List.mem_append.1 hh with hh|hh
    ·simp at hh;omega
    ·exact hid hh)
   have hdn:∀k,H.length≤k→k<H2.length∨H2.length<k→k<H'.length→k∉[H2.length]++dNet.ids v:=fun k h1 h2 h3 hh=>by
    rcases List.mem_append.1 hh with hh|hh
    ·simp at hh;omega
    ·have:=hlt k hh;omega
   have lG1:H1.length≤H2.length:=cE.1
   have oG3:=oG2.chg ns.chg (fun k hk=>hdn k (nG k hk) (.inl (by have:=ltG k hk;omega)) (by have:=ltG k hk;omega))
   have oE3:=oE2.chg ns.chg (fun k hk=>hdn k (by have:=nE k hk;omega) (.inl (ltE k hk)) (by have:=ltE k hk;omega))
   have oT3:=oT.chg ns.chg (fun k hk=>hdn k (by have:=nT' k hk;omega) (.inr (nT' k hk)) (ltT k hk))
   have hfw:∀k∈dNet.ids (vw v h5 v.2.2.2.2.2.1.2 v.2.2.2.2.2.2.1.2),(k∈dNet.ids v∨H'.length≤k):=ns.ids
   have nM':=fun k hk=>(nM k hk).2
   have hgl3:=oG3.rd.len (P:=Tryz.prog) (ty:=145) (by simp)
   have c1K:=ns.chg
   have b5:allL 67000000 (nPop x (allN x).length).2.2.1:=pops_allL _ _ hb5
   have l5:(nPop x (allN x).length).2.2.1.length=x.2.2.1.length:=nPop_len x _
   have ns1:NS K K [] (vw v h5 v.2.2.2.2.2.1.2 v.2.2.2.2.2.2.1.2) (nPop x (allN x).length) _ _ _:=NS.start [] ns.ow ns.nd
   simp [t0,t2,t3,t4,t5,t44,t45,t46,hgl3]
   clear ns hr0 oG2 oE2 oM2 oT nM hgl2
   generalize hw:vw v h5 v.2.2.2.2.2.1.2 v.2.2.2.2.2.2.1.2=w at *
   obtain ⟨y1,hy1⟩:∃y1,y1=nPop x (allN x).length:=⟨_,rfl⟩
   rw [← hy1] at hrK b5 l5 ns1
   have ye:y1.1=x.1∧y1.2.1=x.2.1∧y1.2.2.2.1=x.2.2.2.1∧y1.2.2.2.2.1=x.2.2.2.2.1∧y1.2.2.2.2.2.1=x.2.2.2.2.2.1∧y1.2.2.2.2.2.2.1=x.2.2.2.2.2.2.1∧y1.2.2.2.2.2.2.2=x.2.2.2.2.2.2.2:=by rw [hy1];exact ⟨rfl,rfl,rfl,rfl,rfl,rfl,rfl⟩
   have lK1:H'.length≤K.length:=c1K.1
   have hidw:id∉dNet.ids w:=fun hh=>by
    rcases hfw _ hh with h|h
    ·exact hid h
    ·omega
   have hgw:∀k,H.length≤k→k<H'.length→k∉dNet.ids w:=fun k h1 h2 hh=>by
    rcases hfw k hh with h|h
    ·have:=hlt k h;omega
    ·omega
   have hff:∀k∈dNet.ids w,frz≤k:=fun k hk=>by
    rcases hfw k hk with h|h
    ·exact hf k h
    ·omega
   have onew:=dNet_one (v:=w) ns1.ow
   -- the pushes
   refine wp_inv (fun n t J=>∃(i:Nat) (g5 g9:List Value),n=(allN x).length-i∧i≤(allN x).length∧t 0=.pointer (some ⟨id,0,some 0⟩)∧t 3=el∧t 4=mv∧t 5=r∧t 78=gl∧t 79=.int .i64 (allN x).length∧t 80=.int .i64 i∧
    NS K J [] w (nPush x y1 i) g5 w.2.2.2.2.2.1.2 g9) ?_ (n:=(allN x).length)
    ⟨0,w.2.2.1.2,w.2.2.2.2.2.2.1.2,rfl,by omega,by simp [t0],by simp [t3],by simp [t4],by simp [t5],by simp,by simp,by simp,ns1⟩
   clear t0 t2 t3 t4 t5 t44 t45 t46
   rintro n t J ⟨i,g5,g9,rfl,hi,t0,t3,t4,t5,t78,t79,t80,ns⟩ ih
   simp [t0,t3,t4,t5,t78,t79,t80]
   refine wp_dec ?_ ?_<;>intro g
   ·have hi':i<(allN x).length:=by omega
    have oG4:=oG3.chg ns.chg (fun k hk hh=>by
     rw [List.nil_append] at hh
     exact hgw k (nG k hk) (by have:=ltG k hk;omega) hh)
    obtain ⟨q1,q2⟩:=gr_idx oG4 hi'
    obtain ⟨m1,m2,m3,m4⟩:=hat _ (List.getElem_mem hi')
    have hps:=nPush_succ (y:=y1) hi'
    have lmv:i<((allN x).map fun g=>headOf x (frm g)).length:=by simpa using hi'
    have lti:i<((allN x).map (tgI x)).length:=by simpa using hi'
    have emv:((allN x).map fun g=>headOf x (frm g))[i]=headOf x (frm (allN x)[i]):=by simp
    have eti:((allN x).map (tgI x))[i]=tgI x (allN x)[i]:=by simp
    obtain ⟨J1,hJ1⟩:∃J1,J1=J++[⟨grF.f (allN x)[i],0,169⟩]:=⟨_,rfl⟩
    have cJ:Chg J J1 []:=by rw [hJ1];exact Chg.app _
    have lJ:J1.length=J.length+1:=by rw [hJ1];simp
    have bx:J1[J.length]? = some ⟨grF.f (allN x)[i],0,169⟩:=by rw [hJ1];simp
    have hJs:J++[⟨grF.f (allN x)[i],0,169⟩]=J1:=hJ1.symm
    generalize (allN x)[i]=gg at *
    simp only [grF_f] at bx hJs
    have nsA:=ns.other cJ (by simp) (by simp)
    obtain ⟨c,hc⟩:∃c,c=gg.2.2%2:=⟨_,rfl⟩
    obtain ⟨q,hq⟩:∃q,q=gg.2.2/2:=⟨_,rfl⟩
    obtain ⟨f,hfe⟩:∃f,f=headOf x (frm gg):=⟨_,rfl⟩
    rw [← hfe] at emv
    have hFJ:frz≤J.length:=by have:=ns.chg.1;omega
    have rowA:∀J':Heap,Chg K J' ([]++dNet.ids w)→J'[id]? = some ⟨netCells w y1++tail,0,e⟩:=fun J' c=>box_chg hrK c (by simpa using hidw)
    have mvA:∀J':Heap,Chg K J' ([]++dNet.ids w)→Ow flF 157 J' mv _:=fun J' c=>oM.chg c (fun k hk=>by simpa using nM' k hk)
    have tlA:∀J':Heap,Chg K J' ([]++dNet.ids w)→Ow Fl.int 3 J' r _:=fun J' c=>oT3.chg c (fun k hk hh=>by rw [List.nil_append] at hh;exact hgw k (by have:=nT' k hk;omega) (ltT k hk) hh)
    have e3:∀[Inhabited Unit],(gg.2.2:Int).tmod 2=(c:Int):=by intro _;rw [tmod2];omega
    have e3':∀[Inhabited Unit],(gg.2.2:Int)%2=(c:Int):=by intro _;omega
    have e4:∀[Inhabited Unit],IntKind.i64.wrap ((gg.2.2:Int)/2)=(q:Int):=by intro _;rw [w64 (by omega) (by omega)];omega
    have rA:=rowA J1 nsA.chg
    unfold netCells at rA
    simp only [List.cons_append,List.nil_append] at rA
    obtain ⟨u1,u2⟩:=in_at (tlA J1 nsA.chg).rd.isI lti
    rw [eti] at u2
    have hNx:(x.2.2.1.length:Int)=10*cnt x.1.1 x.1.2.1:=hx.2.1.1
    have l9:(nPush x y1 i).2.2.2.2.2.2.1.length=x.2.2.2.2.2.2.1.length:=by rw [← ye.2.2.2.2.2.1];exact fold_len (arrS_len x) _ _
    have l5':(nPush x y1 i).2.2.1.length=x.2.2.1.length:=by rw [← l5];exact fold_len (pushS_len x) _ _
    have h9l:gg.1<(nPush x y1 i).2.2.2.2.2.2.1.length:=by rw [l9];have:=hx.2.1.2.2.2.2;omega
    obtain ⟨a9,r1,r2,r3,r4,r5,r6,r7⟩:=ss_hd (u:=(w.2.2.2.2.2.2.1.1,g9)) nsA.ow.2.2.2.2.2.2.1 h9l
    simp only at r2 r3 r7
    have vI:∀J':Heap,J'[id]? = some ⟨netCells w y1++tail,0,e⟩→VM.vnil J' (.pointer (some ⟨id,0,some 0⟩))=some (.pointer (some ⟨id,0,some 0⟩)):=fun J' h=>by simp [VM.vnil,VM.look,h]
    have vI1:=vI J1 (rowA J1 nsA.chg)
    simp [t0,t3,t4,t5,t78,t79,t80,q1,q2,grF_f]
    rw [hJs]
    clear hJ1 hJs
    rw [go_draw (h:=by kernel_rfl)]
    have hlw:∀k∈dNet.ids (vw w g5 w.2.2.2.2.2.1.2 g9),k<J.length:=fun k hk=>dNet.lt ns.ow k hk
    have hfg:∀k∈dNet.ids (vw w g5 w.2.2.2.2.2.1.2 g9),frz≤k:=fun k hk=>by
     rcases ns.ids k hk with h|h
     ·exact hff k h
     ·omega
    have b5i:=allL_mono (fold_allL (push_allL x) ((allN x).take i) y1.2.2.1 67000000 b5) (show _≤67000080 by simp;omega)
    have b9i:=allL_mono (fold_allL (arr_allL x) ((allN x).take i) y1.2.2.2.2.2.2.1 67000000 (by rw [ye.2.2.2.2.2.1];exact hb9)) (show _≤67000080 by simp;omega)
    obtain ⟨w1,w2,w3,w4⟩:=mv_at (mvA J1 nsA.chg) lmv
    rw [emv] at w2
    simp only [flF_f] at w2
    have hJJ:([⟨[.int .i64 f.1,.int .i64 f.2.1,.int .i64 f.2.2.1,.bool f.2.2.2.1,.bool f.2.2.2.2],0,157⟩]:Heap)=[⟨flF.f f,0,157⟩]:=rfl
    have hFJ1:frz≤J1.length:=by omega
    have hF1:frz≤J.length+1:=by omega
    simp [t0,t3,t4,t5,t78,t79,t80,VM.look,rA,vI1,bx,onew,r2,u1,u2,hFJ]
    -- the flit is put
    refine wp_join (F:=?FA1) (k:=?kA1) (Q:=?QA1) (fun t J2=>∃(g5' g9':List Value),t 0=.pointer (some ⟨id,0,some 0⟩)∧t 3=el∧t 4=mv∧t 5=r∧t 11=.int .i64 i∧t 12=.pointer (some ⟨J.length,0,some 0⟩)∧t 78=gl∧t 79=.int .i64 (allN x).length∧t 80=.int .i64 i∧
     J2[J.length]? = some ⟨[.int .i64 (gg.1:Int),.int .i64 (gg.2.1:Int),.int .i64 (gg.2.2:Int)],0,169⟩∧NS K J2 [] w (withArr (withBuf (nPush x y1 i) (pushS x (nPush x y1 i).2.2.1 gg)) (arrS x (nPush x y1 i).2.2.2.2.2.2.1 gg)) g5' w.2.2.2.2.2.1.2 g9'∧∀k∈dNet.ids (vw w g5' w.2.2.2.2.2.1.2 g9'),k≠J.length) ?main ?rest
    case main=>
     intro rest
     by_cases h4:gg.2.1=4
     ·have hT:tgI x gg=-1:=by unfold tgI;rw [if_pos h4]
      obtain ⟨a',K2,K3,hap,p5,p6,lv2,lv3,qb1,qb2,c2,pt⟩:=ss_push (frz:=frz) (u:=(w.2.2.2.2.2.2.1.1,g9)) nsA.ow.2.2.2.2.2.2.1 (net_ndArr (n:=vw w g5 w.2.2.2.2.2.1.2 g9) nsA.nd) h9l (by have:=b9i _ (List.getElem_mem h9l);omega) (fun k hk=>hfg k (net_inArr (n:=vw w g5 w.2.2.2.2.2.1.2 g9) k hk)) r1 f
      simp only at p5 p6 lv2 lv3
      obtain ⟨nsC,nC,cC⟩:=nsA.arr pt
      have hwa:=ow_some nsA.ow.2.2.2.2.2.2.1.1.1 (by show 0<g9.length;have:=nsA.ow.2.2.2.2.2.2.1.1.2.1;have h2:(vw w g5 w.2.2.2.2.2.1.2 g9).2.2.2.2.2.2.1.2=g9:=rfl;rw [h2] at this;omega)
      have v1:=live_nil r7 hwa gg.1
      have v2:=live_nil lv2 hwa gg.1
      have bx3:=box_chg bx cC (fun hh=>by have:=hlw _ hh;omega)
      simp only [flF_f] at hap
      simp [hT]
      rw [go_draw (h:=by kernel_rfl)]
      simp [-vappend_nil,-vappend_mk,t0,t3,t4,t5,t78,t79,t80,VM.look,v1,r3,w1,w2,hap,v2,p6,r5,r6,qb1,qb2,hFJ1]
      refine rest _ _ ?_
      have e1:withArr (withBuf (nPush x y1 i) (pushS x (nPush x y1 i).2.2.1 gg)) (arrS x (nPush x y1 i).2.2.2.2.2.2.1 gg)=withArr (nPush x y1 i) (upd (nPush x y1 i).2.2.2.2.2.2.1 gg.1 (·++[f])):=by
       unfold pushS arrS;rw [if_pos h4,if_pos h4,hfe];rfl
      rw [e1]
      exact ⟨g5,g9.set gg.1 a',by simp [t0],by simp [t3],by simp [t4],by simp [t5],by simp,by simp,by simp [t78],by simp [t79],by simp [t80],bx3,nsC,fun k hk=>by rcases nC k hk with h|h;(have:=hlw k h;omega);omega⟩
     ·obtain ⟨hh,hroom⟩:=m4.2.1.resolve_left h4
      rw [← hc] at hroom
      obtain ⟨s1,s2,s3⟩:=tgt_val (c:=c) hh (by omega) (by omega)
      obtain ⟨z,hz⟩:∃z,z=tgt x gg.1 gg.2.1 c:=⟨_,rfl⟩
      rw [← hz] at s1 s2 s3
      have hT:tgI x gg=(z:Int):=by unfold tgI;rw [if_neg h4,← hc,hz]
      have hzl:z<(nPush x y1 i).2.2.1.length:=by rw [l5'];omega
      obtain ⟨az,d1,d2,d3,d4,d5,d6,d7⟩:=ss_hd (u:=(w.2.2.1.1,g5)) nsA.ow.2.2.1 hzl
      simp only at d2 d3 d7
      obtain ⟨a',K2,K3,hap,p5,p6,lv2,lv3,qb1,qb2,c2,pt⟩:=ss_push (frz:=frz) (u:=(w.2.2.1.1,g5)) nsA.ow.2.2.1 (net_ndBuf (n:=vw w g5 w.2.2.2.2.2.1.2 g9) nsA.nd) hzl (by have:=b5i _ (List.getElem_mem hzl);omega) (fun k hk=>hfg k (net_inBuf (n:=vw w g5 w.2.2.2.2.2.1.2 g9) k hk)) d1 f
      simp only at p5 p6 lv2 lv3
      obtain ⟨nsC,nC,cC⟩:=nsA.buf pt
      have hwa:=ow_some nsA.ow.2.2.1.1.1 (by show 0<g5.length;have:=nsA.ow.2.2.1.1.2.1;have h2:(vw w g5 w.2.2.2.2.2.1.2 g9).2.2.1.2=g5:=rfl;rw [h2] at this;omega)
      have v1:=live_nil d7 hwa z
      have v2:=live_nil lv2 hwa z
      have bx3:=box_chg bx cC (fun hh=>by have:=hlw _ hh;omega)
      rw [hT] at u2
      simp only [flF_f] at hap
      simp [hT]
      rw [go_draw (h:=by kernel_rfl)]
      simp [t0,t3,t4,t5,t78,t79,t80,VM.look,rA,vI1,onew,u1,u2,d2]
      rw [go_draw (h:=by kernel_rfl)]
      simp [-vappend_nil,-vappend_mk,t0,t3,t4,t5,t78,t79,t80,VM.look,v1,d3,w1,w2,hap,v2,p6,d5,d6,qb1,qb2,hFJ1]
      refine rest _ _ ?_
      have e1:withArr (withBuf (nPush x y1 i) (pushS x (nPush x y1 i).2.2.1 gg)) (arrS x (nPush x y1 i).2.2.2.2.2.2.1 gg)=withBuf (nPush x y1 i) (upd (nPush x y1 i).2.2.1 z (·++[f])):=by
       unfold pushS arrS;rw [if_neg h4,if_neg h4,hfe,hz,hc];rfl
      rw [e1]
      exact ⟨g5.set z a',g9,by simp [t0],by simp [t3],by simp [t4],by simp [t5],by simp,by simp,by simp [t78],by simp [t79],by simp [t80],bx3,nsC,fun k hk=>by rcases nC k hk with h|h;(have:=hlw k h;omega);omega⟩
    case rest=>
     rintro t J2 ⟨g5',g9',t0,t3,t4,t5,t11,t12,t78,t79,t80,bx2,ns2,hlw2⟩
     obtain ⟨s2,hs2⟩:∃s2,s2=withArr (withBuf (nPush x y1 i) (pushS x (nPush x y1 i).2.2.1 gg)) (arrS x (nPush x y1 i).2.2.2.2.2.2.1 gg):=⟨_,rfl⟩
     rw [← hs2] at hps ns2
     have own2:s2.2.2.2.1=(nPush x y1 i).2.2.2.1:=by rw [hs2];rfl
     have turn2:s2.2.2.2.2.1=(nPush x y1 i).2.2.2.2.1:=by rw [hs2];rfl
     have lown:s2.2.2.2.1.length=x.2.2.2.1.length:=by rw [own2,← ye.2.2.1];exact fold_len (ownS_len x) _ _
     have lturn:s2.2.2.2.2.1.length=x.2.2.2.2.1.length:=by rw [turn2,← ye.2.2.2.1];exact fold_len turnS_len _ _
     clear hs2
     have rA2:=rowA J2 ns2.chg
     have vI2:=vI J2 rA2
     unfold netCells at rA2
     simp only [List.cons_append,List.nil_append] at rA2
     obtain ⟨z,hz⟩:∃z,z=outAt gg.1 gg.2.1 c:=⟨_,rfl⟩
     have hzl:z<s2.2.2.2.1.length:=by rw [lown,hz];have:=hx.2.1.2.1;unfold outAt;omega
     have bA:=fun F=>bufferAt_n (frz:=F) (H:=J2) (n:=gg.1) (p:=gg.2.1) (c:=c) (by omega) m2 (by omega)
     rw [← hz] at bA
     obtain ⟨o1,_⟩:=in_at (Rd.isI ns2.ow.2.2.2.1.1.rd) hzl
     have o1':vindexAddr Tryz.prog J2 24 w.2.2.2.1 (.int .i64 (z:Int))=some (elp w.2.2.2.1 z):=o1
     have hfg2:∀k∈dNet.ids (vw w g5' w.2.2.2.2.2.1.2 g9'),frz≤k:=fun k hk=>by
      rcases ns2.ids k hk with h|h
      ·exact hff k h
      ·have:=ns2.chg.1;omega
     obtain ⟨J3,st3,ns3,c3⟩:=ns2.own (frz:=frz) hfg2 hzl (q:Int)
     have vo:=ow_nil ns2.ow.2.2.2.1.1 (by omega) z
     have vo':VM.vnil J2 (elp w.2.2.2.1 z)=some (elp w.2.2.2.1 z):=vo
     rw [go_draw (h:=by kernel_rfl)]
     have hnot:J.length∉dNet.ids (vw w g5' w.2.2.2.2.2.1.2 g9'):=fun hh=>hlw2 _ hh rfl
     have bx3:=box_chg bx2 c3 hnot
     obtain ⟨y1',y2',y3',y4'⟩:=mv_at (mvA J3 ns3.chg) lmv
     rw [emv] at y4'
     have vo3:VM.vnil J3 (elp w.2.2.2.1 z)=some (elp w.2.2.2.1 z):=ow_nil (v:=w.2.2.2.1) ns3.ow.2.2.2.1.1 (by show 0<(s2.2.2.2.1.set z (q:Int)).length;simp;omega) z
     simp [-vfieldAddr,vfa_ptr,t0,t3,t4,t5,t11,t12,t78,t79,t80,VM.look,rA2,vI2,bx2,onew,e3,e3',bA,o1',e4,vo',st3,y1',y3',y4']
     have hos:ownS x s2.2.2.2.1 gg=s2.2.2.2.1.set z (if f.2.2.2.2 then -1 else (q:Int)):=by unfold ownS;rw [← hfe,hz,hc,hq]
     -- the owner
     refine wp_join (F:=?FA2) (k:=?kA2) (Q:=?QA2) (fun t J4=>t 0=.pointer (some ⟨id,0,some 0⟩)∧t 3=el∧t 4=mv∧t 5=r∧t 12=.pointer (some ⟨J.length,0,some 0⟩)∧t 78=gl∧t 79=.int .i64 (allN x).length∧t 80=.int .i64 i∧
      J4[J.length]? = some ⟨[.int .i64 (gg.1:Int),.int .i64 (gg.2.1:Int),.int .i64 (gg.2.2:Int)],0,169⟩∧NS K J4 [] w (withOwn s2 (ownS x s2.2.2.2.1 gg)) g5' w.2.2.2.2.2.1.2 g9') ?main2 ?rest2
     case main2=>
      intro rest
      cases ht:f.2.2.2.2 with
      | false=>
       rw [ht,if_neg (by simp)] at hos
       simp
       refine rest _ _ ?_
       rw [hos]
       exact ⟨by simp [t0],by simp [t3],by simp [t4],by simp [t5],by simp [t12],by simp [t78],by simp [t79],by simp [t80],bx3,ns3⟩
      | true=>
       rw [ht,if_pos rfl] at hos
       obtain ⟨J4,st4,ns4,c4⟩:=ns3.own (frz:=frz) hfg2 (j:=z) (by show z<(s2.2.2.2.1.set z (q:Int)).length;simp;omega) (-1)
       have e1:withOwn (withOwn s2 (s2.2.2.2.1.set z (q:Int))) ((withOwn s2 (s2.2.2.2.1.set z (q:Int))).2.2.2.1.set z (-1))=withOwn s2 (s2.2.2.2.1.set z (-1)):=by
        show withOwn s2 ((s2.2.2.2.1.set z (q:Int)).set z (-1))=_
        rw [List.set_set]
       rw [e1] at ns4
       simp [t0,t3,t4,t5,t11,t12,t78,t79,t80,vo3,st4]
       refine rest _ _ ?_
       rw [hos]
       exact ⟨by simp [t0],by simp [t3],by simp [t4],by simp [t5],by simp [t12],by simp [t78],by simp [t79],by simp [t80],box_chg bx3 c4 hnot,ns4⟩
     case rest2=>
      rintro t J4 ⟨t0,t3,t4,t5,t12,t78,t79,t80,bx4,ns4⟩
      have rA4:=rowA J4 ns4.chg
      have vI4:=vI J4 rA4
      unfold netCells at rA4
      simp only [List.cons_append,List.nil_append] at rA4
      obtain ⟨zt,hzt⟩:∃zt,zt=5*gg.1+gg.2.1:=⟨_,rfl⟩
      obtain ⟨d,hd⟩:∃d,d=(gg.2.2+1)%10:=⟨_,rfl⟩
      have hztl:zt<s2.2.2.2.2.1.length:=by rw [lturn,hzt];have:=hx.2.1.2.2.1;omega
      obtain ⟨o4,_⟩:=in_at (Rd.isI ns4.ow.2.2.2.2.1.1.rd) hztl
      have o4':vindexAddr Tryz.prog J4 24 w.2.2.2.2.1 (.int .i64 (zt:Int))=some (elp w.2.2.2.2.1 zt):=o4
      obtain ⟨J5,st5,ns5,c5⟩:=ns4.turn (frz:=frz) hfg2 (j:=zt) hztl (d:Int)
      have k1:=@w6 (5*(gg.1:Int)) (by omega)
      have k2:∀[Inhabited Unit],IntKind.i64.wrap (5*(gg.1:Int)+(gg.2.1:Int))=(zt:Int):=by intro _;rw [w64 (by omega) (by omega)];omega
      have k3:=@w6 ((gg.2.2:Int)+1) (by omega)
      have k4:∀[Inhabited Unit],((gg.2.2:Int)+1).tmod 10=(d:Int):=by intro _;rw [Int.tmod_eq_emod_of_nonneg (by omega)];omega
      have k4':∀[Inhabited Unit],((gg.2.2:Int)+1)%10=(d:Int):=by intro _;omega
      have hts:turnS s2.2.2.2.2.1 gg=s2.2.2.2.2.1.set zt (d:Int):=by unfold turnS;rw [hzt,hd]
      rw [← own2,← turn2,hts] at hps
      rw [go_draw (h:=by kernel_rfl)]
      simp [t0,t3,t4,t5,t12,t78,t79,t80,VM.look,rA4,vI4,bx4,onew,k1,k2,k3,k4,k4',o4',st5]
      refine ih ((allN x).length-(i+1)) _ _ ⟨i+1,g5',g9',rfl,by omega,by simp [t0],by simp [t3],by simp [t4],by simp [t5],by simp [t78],by simp [t79],?_,by rw [hps];exact ns5⟩ (by omega)
      simp [t80];rw [w64 (by omega) (by omega)]
   ·have hil:i=(allN x).length:=by omega
    subst hil
    clear ih
    have oE4:=oE3.chg ns.chg (fun k hk hh=>by
     rw [List.nil_append] at hh
     exact hgw k (by have:=nE k hk;omega) (by have:=ltE k hk;omega) hh)
    have hel:=oE4.rd.len (P:=Tryz.prog) (ty:=24) (by simp)
    rw [List.length_map] at hel
    obtain ⟨y3,hy3⟩:∃y3,y3=nPush x y1 (allN x).length:=⟨_,rfl⟩
    rw [← hy3] at ns
    have ye3:y3.1=x.1∧y3.2.1=x.2.1∧y3.2.2.2.2.2.1=x.2.2.2.2.2.1∧y3.2.2.2.2.2.2.2=x.2.2.2.2.2.2.2:=by rw [hy3];exact ⟨ye.1,ye.2.1,ye.2.2.2.2.1,ye.2.2.2.2.2.2⟩
    have l53:y3.2.2.1.length=x.2.2.1.length:=by rw [hy3,← l5];exact fold_len (pushS_len x) _ _
    have b53:allL 67000080 y3.2.2.1:=by
     rw [hy3]
     refine allL_mono (fold_allL (push_allL x) ((allN x).take (allN x).length) y1.2.2.1 67000000 b5) ?_
     simp;omega
    have hE:=enterN_len x
    have hEat:=fun k (hk:k∈enterN x)=>enterN_at hk
    have hEnd:=enterN_nd x
    simp [t0,t3,t4,t5,t78,t79,t80,hel]
    -- what enters
    refine wp_inv (fun n t J=>∃(i:Nat) (g5 g8:List Value),n=(enterN x).length-i∧i≤(enterN x).length∧t 0=.pointer (some ⟨id,0,some 0⟩)∧t 158=el∧t 159=.int .i64 (enterN x).length∧t 160=.int .i64 i∧
     NS K J [] w (nEnt x y3 i) g5 g8 g9) ?_ (n:=(enterN x).length)
     ⟨0,g5,w.2.2.2.2.2.1.2,rfl,by omega,by simp [t0],by simp,by simp,by simp,ns⟩
    clear t0 t3 t4 t5 t78 t79 t80 oE4 hel ns
    rintro n t J ⟨i,g5,g8,rfl,hi,t0,t158,t159,t160,ns⟩ ih
    simp [t0,t158,t159,t160]
    refine wp_dec ?_ ?_<;>intro g
    ·have hi':i<(enterN x).length:=by omega
     have oE4:=oE3.chg ns.chg (fun k hk hh=>by
      rw [List.nil_append] at hh
      exact hgw k (by have:=nE k hk;omega) (by have:=ltE k hk;omega) hh)
     obtain ⟨u1,u2⟩:=in_at oE4.rd.isI (i:=i) (by simpa using hi')
     have eel:((enterN x).map Int.ofNat)[i]'(by simpa using hi')=((enterN x)[i]:Int):=by simp
     rw [eel] at u2
     obtain ⟨m1,m2⟩:=hEat _ (List.getElem_mem hi')
     have hps:=nEnt_succ (y:=y3) hi'
     have hsat:(nEnt x y3 i).2.2.2.2.2.1.getD (enterN x)[i] []=x.2.2.2.2.2.1.getD (enterN x)[i] []:=by
      rw [← ye3.2.2.1]
      have hnt:=not_take (f:=fun k:Nat=>k) (by simpa using hEnd) hi'
      exact srcs_at _ _ _ (by simpa using hnt)
     generalize (enterN x)[i]=k at *
     have hks:k<(nEnt x y3 i).2.2.2.2.2.1.length:=by
      have:(nEnt x y3 i).2.2.2.2.2.1.length=y3.2.2.2.2.2.1.length:=fold_len srcS_len _ _
      rw [this,ye3.2.2.1];have:=hx.2.1.2.2.2.1;omega
     have hgd:(nEnt x y3 i).2.2.2.2.2.1.getD k []=(nEnt x y3 i).2.2.2.2.2.1[k]:=by simp [List.getD_eq_getElem?_getD,hks]
     have hne:(nEnt x y3 i).2.2.2.2.2.1[k]≠[]:=by rw [← hgd,hsat];exact m2.1
     have hhd:headL (nEnt x y3 i).2.2.2.2.2.1[k]=srcHead x k:=by rw [← hgd,hsat];rfl
     obtain ⟨en1,en2,en3⟩:=ent_ok hx m2.1
     have hcl:=en1.2
     obtain ⟨f,hfe⟩:∃f,f=srcHead x k:=⟨_,rfl⟩
     obtain ⟨z,hz⟩:∃z,z=entAt x k:=⟨_,rfl⟩
     rw [← hfe,← hz] at en2
     rw [← hfe] at hhd hcl
     have hzl:z<(nEnt x y3 i).2.2.1.length:=by
      have:(nEnt x y3 i).2.2.1.length=y3.2.2.1.length:=fold_len (entS_len x) _ _
      rw [this,l53];have:=hx.2.1.1;unfold inR at hcl;omega
     have b5i:=allL_mono (fold_allL (ent_allL x) ((enterN x).take i) y3.2.2.1 67000080 b53) (show _≤67000096 by simp;omega)
     have rA:∀J':Heap,Chg K J' ([]++dNet.ids w)→J'[id]? = some ⟨netCells w y1++tail,0,e⟩:=fun J' c=>box_chg hrK c (by simpa using hidw)
     have vI:∀J':Heap,J'[id]? = some ⟨netCells w y1++tail,0,e⟩→VM.vnil J' (.pointer (some ⟨id,0,some 0⟩))=some (.pointer (some ⟨id,0,some 0⟩)):=fun J' h=>by simp [VM.vnil,VM.look,h]
     obtain ⟨J1,hJ1⟩:∃J1,J1=J++[⟨flF.f f,0,157⟩]:=⟨_,rfl⟩
     have cJ:Chg J J1 []:=by rw [hJ1];exact Chg.app _
     have lJ:J1.length=J.length+1:=by rw [hJ1];simp
     have bx:J1[J.length]? = some ⟨flF.f f,0,157⟩:=by rw [hJ1];simp
     have hJs:J++[⟨flF.f f,0,157⟩]=J1:=hJ1.symm
     simp only [flF_f] at bx hJs
     have nsA:=ns.other cJ (by simp) (by simp)
     have hlw:∀l∈dNet.ids (vw w g5 g8 g9),l<J.length:=fun l hl=>dNet.lt ns.ow l hl
     have hFJ:frz≤J.length:=by have:=ns.chg.1;omega
     have hfg:∀l∈dNet.ids (vw w g5 g8 g9),frz≤l:=fun l hl=>by
      rcases ns.ids l hl with h|h
      ·exact hff l h
      ·omega
     obtain ⟨a8,r1,r2,r3,r4,r5,r6,r7⟩:=ss_hd (u:=(w.2.2.2.2.2.1.1,g8)) ns.ow.2.2.2.2.2.1 hks
     simp only at r2 r3 r7
     obtain ⟨z0,_,_,_,_,_,_,zw⟩:=front r4.rd hne
     rw [hhd] at zw
     simp only [flF_f] at zw
     obtain ⟨az,d1,d2,d3,d4,d5,d6,d7⟩:=ss_hd (u:=(w.2.2.1.1,g5)) nsA.ow.2.2.1 hzl
     simp only at d2 d3 d7
     obtain ⟨a',K2,K3,hap,p5,p6,lv2,lv3,qb1,qb2,c2,pt⟩:=ss_push (frz:=frz) (u:=(w.2.2.1.1,g5)) nsA.ow.2.2.1 (net_ndBuf (n:=vw w g5 g8 g9) nsA.nd) hzl (by have:=b5i _ (List.getElem_mem hzl);omega) (fun l hl=>hfg l (net_inBuf (n:=vw w g5 g8 g9) l hl)) d1 f
     simp only at p5 p6 lv2 lv3
     obtain ⟨nsB,nB,cB⟩:=nsA.buf pt
     simp only [flF_f] at hap
     have hfg2:∀l∈dNet.ids (vw w (g5.set z a') g8 g9),frz≤l:=fun l hl=>by
      rcases nB l hl with h|h
      ·exact hfg l h
      ·omega
     have hFK3:frz≤K3.length:=by have:=cB.1;omega
     obtain ⟨a8',s1,s2,s3,s4,s5,s6,s7⟩:=ss_hd (u:=(w.2.2.2.2.2.1.1,g8)) nsB.ow.2.2.2.2.2.1 hks
     have ea8:a8'=a8:=by rw [r1] at s1;exact (Option.some.inj s1).symm
     subst ea8
     simp only at s2 s3 s7
     obtain ⟨zz,b',M2,M3,t3',t4',t5',t6',mv2,mv3,qc1,qc2,cc2,pt2⟩:=ss_popE (frz:=frz) (u:=(w.2.2.2.2.2.1.1,g8)) nsB.ow.2.2.2.2.2.1 (net_ndSrc (n:=vw w (g5.set z a') g8 g9) nsB.nd) hks hne (fun l hl=>hfg2 l (net_inSrc (n:=vw w (g5.set z a') g8 g9) l hl)) s1
     simp only at t5' t6' mv2 mv3
     obtain ⟨nsC,nC,cC⟩:=nsB.src pt2
     have rJ:=rA J ns.chg
     have rJ1:=rA J1 nsA.chg
     have rK3:=rA K3 nsB.chg
     have vJ:=vI J rJ
     have vJ1:=vI J1 rJ1
     have vK3:=vI K3 rK3
     have hidg:id∉dNet.ids (vw w g5 g8 g9):=fun hh=>by
      rcases ns.ids _ hh with h|h
      ·exact hidw h
      ·have:=box_lt hrK;omega
     have rK2:K2[id]? = some ⟨netCells w y1++tail,0,e⟩:=box_chg rJ1 c2 (fun hh=>hidg (net_inBuf (n:=vw w g5 g8 g9) id (mem_idsL d1 hh)))
     have rM2:M2[id]? = some ⟨netCells w y1++tail,0,e⟩:=box_chg rK3 cc2 (by simp)
     have rM3:=rA M3 nsC.chg
     have rJL:=fun L=>get_app' rJ1 L
     have lvL:∀L:Heap,VM.live (J1++L) w.2.2.1.1:=fun L=>Ow_live (v:=w.2.2.1.1) (Ow.app (L:=L) nsA.ow.2.2.1.1.1)
     have rM:∀L:Heap,(K3++L)[id]? = some ⟨netCells w y1++tail,0,e⟩:=fun L=>get_app' rK3 L
     have vM:=fun L=>vI (K3++L) (rM L)
     unfold netCells at rJ rJ1 rK3 rM rK2 rM2 rM3 rJL
     simp only [List.cons_append,List.nil_append] at rJ rJ1 rK3 rM rK2 rM2 rM3 rJL
     have bA:∀F,vcall C F 154 [.int .i64 (k:Int),.int .i64 4,.int .i64 f.2.2.1] J1=some (.int .i64 (z:Int),J1):=fun F=>by
      rw [bufferAt_c,if_pos ⟨⟨by omega,by omega⟩,⟨by omega,by omega⟩,hcl⟩,en2];congr 3
     simp [t0,t158,t159,t160,u1,u2,VM.look,rJ,vJ,onew,r2,r3,r5,r6,z0,zw]
     rw [hJs]
     clear hJ1 hJs
     simp [t0,t158,t159,t160,VM.look,bx,bA]
     rw [go_drawF (fl:=[3]) (h:=⟨by kernel_rfl,by kernel_rfl,by kernel_rfl,by kernel_rfl⟩)]
     simp [emps,empOp,empB,-vappend_nil,-vappend_mk,t0,t158,t159,t160,VM.look,rJ1,vJ1,onew,d2,d3,d5,d6,bx,hap,p5,p6,d7,lv2,lv3,qb1,qb2,hFJ,rJL,lvL,rK2,rK3]
     rw [go_drawE (h:=⟨by kernel_rfl,by kernel_rfl⟩)]
     simp [emps,empOp,empB,-vappend_nil,-vappend_mk,t0,t158,t159,t160,VM.look,rK3,vK3,onew,s2,s3,s5,s6,s7,rM,vM,t3',t4',t5',t6',rM2,rM3,mv2,mv3,qc1,qc2,hFK3]
     refine ih ((enterN x).length-(i+1)) _ _ ⟨i+1,g5.set z a',g8.set k b',rfl,by omega,by simp [t0],by simp [t158],by simp [t159],?_,?_⟩ (by omega)
     ·simp [t160];rw [w64 (by omega) (by omega)]
     ·rw [hps]
      have e1:entS x (nEnt x y3 i).2.2.1 k=upd (nEnt x y3 i).2.2.1 z (·++[f]):=by unfold entS;rw [← hz,← hfe]
      rw [e1]
      exact nsC
    ·have hil:i=(enterN x).length:=by omega
     subst hil
     clear ih
     have ec:netCells w y1=netCells w x:=by unfold netCells;rw [ye.1,ye.2.2.2.2.2.2]
     have rJ:J[id]? = some ⟨netCells w x++tail,0,e⟩:=by rw [← ec];exact box_chg hrK ns.chg (by simpa using hidw)
     have hse:stepN x=older (nEnt x y3 (enterN x).length) 1:=by rw [step_eq,← hy1,← hy3]
     have lJ:=ns.chg.1
     unfold netCells at rJ
     simp only [List.cons_append,List.nil_append] at rJ
     have vJ:VM.vnil J (.pointer (some ⟨id,0,some 0⟩))=some (.pointer (some ⟨id,0,some 0⟩)):=by simp [VM.vnil,VM.look,rJ]
     have et:∀[Inhabited Unit],IntKind.i64.wrap (x.2.2.2.2.2.2.2+1)=x.2.2.2.2.2.2.2+1:=by intro _;unfold inR at ht;exact w64 (by omega) (by omega)
     simp [t0,t158,t159,t160,VM.look,rJ,vJ,et,hfi]
     have hidg:id∉dNet.ids (vw w g5 g8 g9):=fun hh=>by
      rcases ns.ids _ hh with h|h
      ·exact hidw h
      ·have:=box_lt hrK;omega
     refine ⟨vw w g5 g8 g9,set_get rJ,?_,ns.nd,fun k hk=>?_,?_⟩
     ·rw [hse]
      exact Dt.chg (T:=dNet) ns.ow (chg_set _ _) (fun k hk hh=>by simp at hh;exact hidg (hh▸hk))
     ·rcases ns.ids k hk with h|h
      ·rcases hfw k h with h|h
       ·exact .inl h
       ·exact .inr (by omega)
      ·exact .inr (by omega)
     ·have c1:Chg H K (id::dNet.ids v):=(cK0.mono (fun _ h=>by cases h)).trans' c1K (fun k hk=>by
       rcases List.mem_append.1 hk with h|h
       ·simp at h;exact .inr (by omega)
       ·exact .inl (List.mem_cons_of_mem _ h))
      refine (c1.trans' ns.chg (fun k hk=>?_)).trans (Chg.mono (chg_set _ _) (fun k hk=>by simp at hk;rw [hk];exact List.mem_cons_self ..))
      rw [List.nil_append] at hk
      rcases hfw k hk with h|h
      ·exact .inl (List.mem_cons_of_mem _ h)
      ·exact .inr (by omega)
noncomputable def nBoth (x:NetD) (i:Nat):NetD:=
 (x.1,x.2.1,((allN x).take i).foldl (bothS x) x.2.2.1,((allN x).take i).foldl (ownS x) x.2.2.2.1,((allN x).take i).foldl turnS x.2.2.2.2.1,x.2.2.2.2.2.1,((allN x).take i).foldl (arrS x) x.2.2.2.2.2.2.1,x.2.2.2.2.2.2.2)
theorem nBoth_succ {x:NetD} {i:Nat} (h:i<(allN x).length):nBoth x (i+1)=withTurn (withOwn (withArr (withBuf (nBoth x i) (pushS x (upd (nBoth x i).2.2.1 (frm (allN x)[i]) (List.drop 1)) (allN x)[i])) (arrS x (nBoth x i).2.2.2.2.2.2.1 (allN x)[i])) (ownS x (nBoth x i).2.2.2.1 (allN x)[i])) (turnS (nBoth x i).2.2.2.2.1 (allN x)[i]):=by
 unfold nBoth;simp only [foldl_take_succ _ _ h];rfl
theorem bothS_len (x:NetD) (s:SSD) (g:GrD):(bothS x s g).length=s.length:=by unfold bothS;simp
theorem nBoth_ne {x:NetD} {i:Nat} (h:i<(allN x).length):(nBoth x i).2.2.1.getD (frm (allN x)[i]) []≠[]:=
 both_at x _ _ _ (not_take (allN_nd x) h) (req_ne (allN_at (List.getElem_mem h)).2.2.2)
theorem step_eq2 (x:NetD):stepN x=older (nEnt x (nBoth x (allN x).length) (enterN x).length) 1:=by
 have e:=both_eq x (allN x) x.2.2.1 (allN_nd x) (fun g hg=>req_ne (allN_at hg).2.2.2)
 unfold nEnt nBoth older
 simp only [List.take_length]
 rw [e]
 rfl
theorem l19Step_d {v:NetV} {x:NetD} (o:dNet.Ow H v x) (hx:runOk x) (hb5:allL 67000000 x.2.2.1) (hb9:allL 67000000 x.2.2.2.2.2.2.1) (ht:inR 0 x.2.2.2.2.2.2.2 1000000) :
 wp (vcall C frz 125 [dNet.val v x] H) (dNet.Made H (stepN x)):=by
 have ones:=dNet_one o
 have cr:=cnt_range x.1.1 x.1.2.1
 have hlt:=dNet.lt o
 have ecopy:=fun L=>l15Copy_d (frz:=H.length) (H:=H++L) (v:=v) (x:=x) (Dt.app (T:=dNet) o)
 simp only [dNet_val] at ecopy ⊢
 rw [vcall_go (fn:=Tryz.f125) Tryz.func125 rfl (by kernel_rfl) rfl]
 simp [ones]
 refine wp_thn (ecopy _) ?_
 rintro _ K ⟨n,rfl,on,cn,mn,dn⟩
 simp at mn
 have qn:=dNet_one on
 have lK:=cn.1
 simp at lK
 have hF:H.length≤K.length:=by omega
 simp [dNet_val,qn,VM.look,hF]
 obtain ⟨K1,hK1⟩:∃K1,K1=K++[⟨netCells n x,0,46⟩]:=⟨_,rfl⟩
 have c1:Chg K K1 []:=by rw [hK1];exact Chg.app _
 have l1:K1.length=K.length+1:=by rw [hK1];simp
 have cK:Chg H K []:=(Chg.app _).trans cn
 have cK1:=cK.trans c1
 have b1:K1[H.length]? = some ⟨netCells v x,0,46⟩:=box_chg (box_chg (by simp [netCells]) cn (by simp)) c1 (by simp)
 have bR:K1[H.length+1]? = some ⟨[.int .i64 0,.int .i64 0,.slice none 0 0,.slice none 0 0,.slice none 0 0,.slice none 0 0,.slice none 0 0,.slice none 0 0,.slice none 0 0,.slice none 0 0,.int .i64 0],0,46⟩:=box_chg (box_chg (by simp) cn (by simp)) c1 (by simp)
 have b3:K1[K.length]? = some ⟨netCells n x,0,46⟩:=by rw [hK1];simp
 have hKs:K++[⟨netCells n x,0,46⟩]=K1:=hK1.symm
 have o1:=Dt.chg (T:=dNet) o cK1 (by simp)
 have on1:=Dt.chg (T:=dNet) on c1 (by simp)
 have ltn:∀i∈dNet.ids n,i<K.length:=fun i hi=>dNet.lt on i hi
 have b1':=b1
 unfold netCells at hKs b1'
 rw [hKs]
 clear hK1 hKs
 have eal:=l18All_w (frz:=H.length) o1 hx
 simp only [dNet_val] at eal
 simp [VM.look,b1',ones]
 refine wp_thn eal ?_
 rintro gl K2 ⟨oG,nG,cG⟩
 have l2:=cG.1
 have b1:=box_chg b1 cG (by simp)
 have bR:=box_chg bR cG (by simp)
 have b3:=box_chg b3 cG (by simp)
 have o2:=Dt.chg (T:=dNet) o1 cG (by simp)
 have on2:=Dt.chg (T:=dNet) on1 cG (by simp)
 have cK2:=cK1.trans cG
 have hidn:K.length∉dNet.ids n:=fun hh=>by have:=ltn _ hh;omega
 have ns0:NS K2 K2 [] n x _ _ _:=NS.start [] on2 dn
 have hL:=allN_len x
 have hat:=fun g (hg:g∈allN x)=>allN_at hg
 have ltG:=oG.lt
 have hmn:∀k∈dNet.ids n,H.length+2≤k:=mn
 have rowO:∀J:Heap,Chg K2 J ([]++dNet.ids n)→J[H.length]? = some ⟨netCells v x,0,46⟩:=fun J c=>box_chg b1 c (fun hh=>by have:=hmn _ (by simpa using hh);omega)
 have rowR:=fun (J:Heap) (c:Chg K2 J ([]++dNet.ids n))=>box_chg bR c (fun hh=>by have:=hmn _ (by simpa using hh);omega)
 have rowN:∀J:Heap,Chg K2 J ([]++dNet.ids n)→J[K.length]? = some ⟨netCells n x,0,46⟩:=fun J c=>box_chg b3 c (by simpa using hidn)
 have cHJ:∀J:Heap,Chg K2 J ([]++dNet.ids n)→Chg H J []:=fun J c=>cK2.trans' c (fun k hk=>.inr (by have:=hmn k (by simpa using hk);omega))
 have glJ:∀J:Heap,Chg K2 J ([]++dNet.ids n)→Ow grF 169 J gl (allN x):=fun J c=>oG.chg c (fun k hk hh=>by have:=nG k hk;have:=ltn k (by simpa using hh);omega)
 have hNx:(x.2.2.1.length:Int)=10*cnt x.1.1 x.1.2.1:=hx.2.1.1
 simp
 -- the grants
 refine wp_inv (fun m t J=>∃(i:Nat) (g5 g9:List Value),m=(allN x).length-i∧i≤(allN x).length∧t 1=.pointer (some ⟨H.length,0,some 0⟩)∧t 2=.pointer (some ⟨H.length+1,0,some 0⟩)∧t 3=.pointer (some ⟨K.length,0,some 0⟩)∧t 4=gl∧t 5=.int .i64 i∧
  NS K2 J [] n (nBoth x i) g5 n.2.2.2.2.2.1.2 g9) ?_ (n:=(allN x).length)
  ⟨0,n.2.2.1.2,n.2.2.2.2.2.2.1.2,rfl,by omega,by simp,by simp,by simp,by simp,by simp,ns0⟩
 rintro m t J ⟨i,g5,g9,rfl,hi,t1,t2,t3,t4,t5,ns⟩ ih
 have hgl:=(glJ J ns.chg).rd.len (P:=Tryz.prog) (ty:=145) (by simp)
 simp [t1,t2,t3,t4,t5,hgl]
 refine wp_dec ?_ ?_<;>intro g
 ·have hi':i<(allN x).length:=by omega
  obtain ⟨q1,q2⟩:=gr_idx (glJ J ns.chg) hi'
  obtain ⟨m1,m2,m3,m4⟩:=hat _ (List.getElem_mem hi')
  have hps:=nBoth_succ hi'
  have hne0:=nBoth_ne hi'
  obtain ⟨J1,hJ1⟩:∃J1,J1=J++[⟨grF.f (allN x)[i],0,169⟩]:=⟨_,rfl⟩
  have cJ:Chg J J1 []:=by rw [hJ1];exact Chg.app _
  have lJ:J1.length=J.length+1:=by rw [hJ1];simp
  have bx1:J1[J.length]? = some ⟨grF.f (allN x)[i],0,169⟩:=by rw [hJ1];simp
  have hJs:J++[⟨grF.f (allN x)[i],0,169⟩]=J1:=hJ1.symm
  generalize (allN x)[i]=gg at *
  simp only [grF_f] at bx1 hJs
  have nsA:=ns.other cJ (by simp) (by simp)
  obtain ⟨c,hc⟩:∃c,c=gg.2.2%2:=⟨_,rfl⟩
  obtain ⟨q,hq⟩:∃q,q=gg.2.2/2:=⟨_,rfl⟩
  obtain ⟨j,hj⟩:∃j,j=frm gg:=⟨_,rfl⟩
  obtain ⟨f,hfe⟩:∃f,f=headOf x (frm gg):=⟨_,rfl⟩
  have hjx:j<x.2.2.1.length:=by unfold frm at hj;omega
  have l5':(nBoth x i).2.2.1.length=x.2.2.1.length:=fold_len (bothS_len x) _ _
  have l9':(nBoth x i).2.2.2.2.2.2.1.length=x.2.2.2.2.2.2.1.length:=fold_len (arrS_len x) _ _
  have hjl:j<(nBoth x i).2.2.1.length:=by omega
  rw [← hj] at hps hne0 hfe
  have hgd:(nBoth x i).2.2.1.getD j []=(nBoth x i).2.2.1[j]:=by simp [List.getD_eq_getElem?_getD,hjl]
  have hne:(nBoth x i).2.2.1[j]≠[]:=by rw [← hgd];exact hne0
  have hgx:x.2.2.1.getD j []=x.2.2.1[j]:=by simp [List.getD_eq_getElem?_getD,hjx]
  have hnx:x.2.2.1[j]≠[]:=by rw [← hgx,hj];exact req_ne m4
  have hhd:headL x.2.2.1[j]=f:=by rw [← hgx,hfe];rfl
  have e1:=@w6 (10*(gg.1:Int)) (by omega)
  have e2:∀[Inhabited Unit],IntKind.i64.wrap (10*(gg.1:Int)+(gg.2.2:Int))=(j:Int):=by intro _;unfold frm at hj;rw [w64 (by omega) (by omega)];omega
  have e3:∀[Inhabited Unit],(gg.2.2:Int).tmod 2=(c:Int):=by intro _;rw [tmod2];omega
  have e3':∀[Inhabited Unit],(gg.2.2:Int)%2=(c:Int):=by intro _;omega
  have e4:∀[Inhabited Unit],IntKind.i64.wrap ((gg.2.2:Int)/2)=(q:Int):=by intro _;rw [w64 (by omega) (by omega)];omega
  have rO1:=rowO J1 nsA.chg
  unfold netCells at rO1
  obtain ⟨a0,z1,z2,z3,z4,z5,z6,z7⟩:=ss_hd (u:=v.2.2.1) (Dt.chg (T:=dNet) o (cHJ J1 nsA.chg) (by simp)).2.2.1 hjx
  obtain ⟨z0,_,_,_,_,_,_,zw⟩:=front z4.rd hnx
  rw [hhd] at zw
  obtain ⟨J2,hJ2⟩:∃J2,J2=J1++[⟨flF.f f,0,157⟩]:=⟨_,rfl⟩
  have cJ2:Chg J1 J2 []:=by rw [hJ2];exact Chg.app _
  have lJ2:J2.length=J1.length+1:=by rw [hJ2];simp
  have bx2:J2[J1.length]? = some ⟨flF.f f,0,157⟩:=by rw [hJ2];simp
  have hJ2s:J1++[⟨flF.f f,0,157⟩]=J2:=hJ2.symm
  simp only [flF_f] at bx2 hJ2s zw
  have bx12:=box_chg bx1 cJ2 (by simp)
  have nsB:=nsA.other cJ2 (by simp) (by simp)
  have hlw:∀k∈dNet.ids (vw n g5 n.2.2.2.2.2.1.2 g9),k<J.length:=fun k hk=>dNet.lt ns.ow k hk
  have hfg:∀k∈dNet.ids (vw n g5 n.2.2.2.2.2.1.2 g9),H.length≤k:=fun k hk=>by
   rcases ns.ids k hk with h|h
   ·have:=hmn k h;omega
   ·omega
  have hFJ:H.length≤J.length:=by have:=ns.chg.1;omega
  have hFJ1:H.length≤J1.length:=by omega
  have b5i:=allL_mono (fold_allL (both_allL x) ((allN x).take i) x.2.2.1 67000000 hb5) (show _≤67000080 by simp;omega)
  have b9i:=allL_mono (fold_allL (arr_allL x) ((allN x).take i) x.2.2.2.2.2.2.1 67000000 hb9) (show _≤67000080 by simp;omega)
  -- out of the input
  obtain ⟨ab,r1,r2,r3,r4,r5,r6,r7⟩:=ss_hd (u:=(n.2.2.1.1,g5)) nsB.ow.2.2.1 hjl
  simp only at r2 r3 r7
  obtain ⟨z,a',M2,M3,p3,p4,p5,p6,lv2,lv3,qb1,qb2,c2,pt⟩:=ss_popE (frz:=H.length) (u:=(n.2.2.1.1,g5)) nsB.ow.2.2.1 (net_ndBuf (n:=vw n g5 n.2.2.2.2.2.1.2 g9) nsB.nd) hjl hne (fun k hk=>hfg k (net_inBuf (n:=vw n g5 n.2.2.2.2.2.1.2 g9) k hk)) r1
  simp only at p5 p6 lv2 lv3
  obtain ⟨nsC,nC,cC⟩:=nsB.buf pt
  have bx13:=box_chg bx12 cC (fun hh=>by have:=hlw _ hh;omega)
  have bx23:=box_chg bx2 cC (fun hh=>by have:=hlw _ hh;omega)
  have rN2:=rowN J2 nsB.chg
  unfold netCells at rN2
  have lM3:=cC.1
  simp [t1,t2,t3,t4,t5,q1,q2,grF_f,hFJ]
  rw [hJs]
  clear hJ1 hJs
  simp [t1,t2,t3,t4,t5,VM.look,bx1,rO1,ones,e1,e2,e3,e3',z2,z3,z5,z6,z0,zw,hFJ1]
  rw [hJ2s]
  clear hJ2 hJ2s
  rw [go_drawE (h:=⟨by kernel_rfl,by kernel_rfl⟩)]
  simp [emps,empOp,empB,-vappend_nil,-vappend_mk,t1,t2,t3,t4,t5,VM.look,rN2,qn,r2,r3,r5,r6,p3,p4,p5,p6,qb1,qb2,bx13,e4]
  have rN3:=rowN M3 nsC.chg
  have rO3:=rowO M3 nsC.chg
  have hlw2:∀k∈dNet.ids (vw n (g5.set j a') n.2.2.2.2.2.1.2 g9),k<J.length∨J2.length≤k:=fun k hk=>(nC k hk).imp (hlw k) _root_.id
  have hfg2:∀k∈dNet.ids (vw n (g5.set j a') n.2.2.2.2.2.1.2 g9),H.length≤k:=fun k hk=>by
   rcases nC k hk with h|h
   ·exact hfg k h
   ·omega
  have hidg:K.length∉dNet.ids (vw n (g5.set j a') n.2.2.2.2.2.1.2 g9):=fun hh=>by
   rcases nsC.ids _ hh with h|h
   ·exact hidn h
   ·omega
  have rNL:=fun L=>get_app' rN3 L
  have bxL:=fun L=>get_app' bx13 L
  have hFM3:H.length≤M3.length:=by omega
  unfold netCells at rO3
  -- into the output
  refine wp_joinb (F:=?FB1) (k1:=?kB1) (k2:=?kB2) (Q:=?QB1) (fun cc t J4=>∃(g5' g9':List Value),cc=.bool f.2.2.2.2∧t 1=.pointer (some ⟨H.length,0,some 0⟩)∧t 2=.pointer (some ⟨H.length+1,0,some 0⟩)∧t 3=.pointer (some ⟨K.length,0,some 0⟩)∧t 4=gl∧t 5=.int .i64 i∧
   t 6=.pointer (some ⟨J.length,0,some 0⟩)∧t 8=.int .i64 c∧t 11=.int .i64 q∧J4[J.length]? = some ⟨[.int .i64 (gg.1:Int),.int .i64 (gg.2.1:Int),.int .i64 (gg.2.2:Int)],0,169⟩∧
   NS K2 J4 [] n (withArr (withBuf (nBoth x i) (pushS x (upd (nBoth x i).2.2.1 j (List.drop 1)) gg)) (arrS x (nBoth x i).2.2.2.2.2.2.1 gg)) g5' n.2.2.2.2.2.1.2 g9'∧∀k∈dNet.ids (vw n g5' n.2.2.2.2.2.1.2 g9'),k≠J.length) ?mainB ?restB
  case mainB=>
   intro rest
   by_cases h4:gg.2.1=4
   ·have h4c:(gg.2.1:Int)=4:=by omega
    have h9l:gg.1<(nBoth x i).2.2.2.2.2.2.1.length:=by rw [l9'];have:=hx.2.1.2.2.2.2;omega
    obtain ⟨a9,d1,d2,d3,d4,d5,d6,d7⟩:=ss_hd (u:=(n.2.2.2.2.2.2.1.1,g9)) nsC.ow.2.2.2.2.2.2.1 h9l
    simp only at d2 d3 d7
    obtain ⟨b',Q2,Q3,hap,s5,s6,mv2,mv3,qc1,qc2,cc2,pt2⟩:=ss_push (frz:=H.length) (u:=(n.2.2.2.2.2.2.1.1,g9)) nsC.ow.2.2.2.2.2.2.1 (net_ndArr (n:=vw n (g5.set j a') n.2.2.2.2.2.1.2 g9) nsC.nd) h9l (Nat.le_trans (Nat.succ_le_succ (b9i _ (List.getElem_mem h9l))) (by decide)) (fun k hk=>hfg2 k (net_inArr (n:=vw n (g5.set j a') n.2.2.2.2.2.1.2 g9) k hk)) d1 f
    simp only at s5 s6 mv2 mv3
    obtain ⟨nsD,nD,cD⟩:=nsC.arr pt2
    have hia:∀k∈ids a9,k∈dNet.ids (vw n (g5.set j a') n.2.2.2.2.2.1.2 g9):=fun k hk=>net_inArr (n:=vw n (g5.set j a') n.2.2.2.2.2.1.2 g9) k (mem_idsL d1 hk)
    have rNQ2:=box_chg rN3 cc2 (fun hh=>hidg (hia _ hh))
    have rNQ3:=rowN Q3 nsD.chg
    have bxQ2:=box_chg bx13 cc2 (fun hh=>by have:=hlw2 _ (hia _ hh);omega)
    have bxQ3:=box_chg bx13 cD (fun hh=>by have:=hlw2 _ hh;omega)
    have lvL:∀L:Heap,VM.live (M3++L) n.2.2.2.2.2.2.1.1:=fun L=>Ow_live (v:=n.2.2.2.2.2.2.1.1) (Ow.app (L:=L) nsC.ow.2.2.2.2.2.2.1.1.1)
    have bxfQ:=box_chg bx23 cD (fun hh=>by have:=hlw2 _ hh;omega)
    unfold netCells at rN3 rNL rNQ2 rNQ3
    simp only [flF_f] at hap
    simp [h4]
    rw [go_drawF (fl:=[1,3]) (h:=⟨by kernel_rfl,by kernel_rfl,by kernel_rfl,by kernel_rfl⟩)]
    simp [emps,empOp,empB,-vappend_nil,-vappend_mk,t1,t2,t3,t4,t5,VM.look,rN3,qn,bx13,bx23,d2,d3,d5,d6,d7,hap,s5,s6,qc1,qc2,mv2,mv3,rNL,bxL,rNQ2,rNQ3,bxQ2,bxQ3,lvL,hFM3,e4,bxfQ]
    refine rest _ _ _ ?_
    have ea:withArr (withBuf (nBoth x i) (pushS x (upd (nBoth x i).2.2.1 j (List.drop 1)) gg)) (arrS x (nBoth x i).2.2.2.2.2.2.1 gg)=withArr (withBuf (nBoth x i) (upd (nBoth x i).2.2.1 j (List.drop 1))) (upd (nBoth x i).2.2.2.2.2.2.1 gg.1 (·++[f])):=by
     unfold pushS arrS;rw [if_pos h4,if_pos h4,hfe,hj]
    rw [ea]
    exact ⟨g5.set j a',g9.set gg.1 b',rfl,by simp [t1],by simp [t2],by simp [t3],by simp [t4],by simp [t5],by simp,by simp,by simp,bxQ3,nsD,fun k hk=>by rcases nD k hk with h|h;(have:=hlw2 k h;omega);omega⟩
   ·obtain ⟨hh,hroom⟩:=m4.2.1.resolve_left h4
    rw [← hc] at hroom
    have h4c:¬(gg.2.1:Int)=4:=by omega
    obtain ⟨s1,s2,s3⟩:=tgt_val (c:=c) hh (by omega) (by omega)
    obtain ⟨o1,o2,o3⟩:=tgt_ok (c:=c) hh (by omega)
    obtain ⟨zt,hz⟩:∃zt,zt=tgt x gg.1 gg.2.1 c:=⟨_,rfl⟩
    rw [← hz] at s1 s2 s3
    have hzl:zt<(upd (nBoth x i).2.2.1 j (List.drop 1)).length:=by rw [upd_len,l5'];omega
    have nn:=fun F=>sNextNode_c (frz:=F) (H:=M3) x.1.1 x.1.2.1 gg.1 gg.2.1
    have so:=fun F=>sOpposite_c (frz:=F) (H:=M3) gg.2.1
    obtain ⟨o4,o5⟩:=o1
    generalize next x.1.1 x.1.2.1 gg.1 gg.2.1=N at *
    generalize opp (gg.2.1:Int)=O at *
    have k3:=@w6 (10*N) (by omega)
    have k4:=@w6 (2*O) (by omega)
    have k5:=@w6 (10*N+2*O) (by omega)
    have k6:∀[Inhabited Unit],IntKind.i64.wrap (10*N+2*O+(c:Int))=(zt:Int):=by intro _;rw [w64 (by omega) (by omega)];omega
    have b5u:allL 67000080 (upd (nBoth x i).2.2.1 j (List.drop 1)):=allL_drop b5i
    obtain ⟨a9,d1,d2,d3,d4,d5,d6,d7⟩:=ss_hd (u:=(n.2.2.1.1,g5.set j a')) nsC.ow.2.2.1 hzl
    simp only at d2 d3 d7
    obtain ⟨b',Q2,Q3,hap,s5,s6,mv2,mv3,qc1,qc2,cc2,pt2⟩:=ss_push (frz:=H.length) (u:=(n.2.2.1.1,g5.set j a')) nsC.ow.2.2.1 (net_ndBuf (n:=vw n (g5.set j a') n.2.2.2.2.2.1.2 g9) nsC.nd) hzl (Nat.le_trans (Nat.succ_le_succ (b5u _ (List.getElem_mem hzl))) (by decide)) (fun k hk=>hfg2 k (net_inBuf (n:=vw n (g5.set j a') n.2.2.2.2.2.1.2 g9) k hk)) d1 f
    simp only at s5 s6 mv2 mv3
    obtain ⟨nsD,nD,cD⟩:=nsC.buf pt2
    have hia:∀k∈ids a9,k∈dNet.ids (vw n (g5.set j a') n.2.2.2.2.2.1.2 g9):=fun k hk=>net_inBuf (n:=vw n (g5.set j a') n.2.2.2.2.2.1.2 g9) k (mem_idsL d1 hk)
    have rNQ2:=box_chg rN3 cc2 (fun hh=>hidg (hia _ hh))
    have rNQ3:=rowN Q3 nsD.chg
    have bxQ2:=box_chg bx13 cc2 (fun hh=>by have:=hlw2 _ (hia _ hh);omega)
    have bxQ3:=box_chg bx13 cD (fun hh=>by have:=hlw2 _ hh;omega)
    have lvL:∀L:Heap,VM.live (M3++L) n.2.2.1.1:=fun L=>Ow_live (v:=n.2.2.1.1) (Ow.app (L:=L) nsC.ow.2.2.1.1.1)
    have bxfQ:=box_chg bx23 cD (fun hh=>by have:=hlw2 _ hh;omega)
    unfold netCells at rN3 rNL rNQ2 rNQ3
    simp only [flF_f] at hap
    simp [h4c]
    rw [go_draw (h:=by kernel_rfl)]
    simp [t1,t2,t3,t4,t5,VM.look,rO3,ones,bx13,nn,so,k3,k4,k5,k6]
    rw [go_drawF (fl:=[1]) (h:=⟨by kernel_rfl,by kernel_rfl,by kernel_rfl,by kernel_rfl⟩)]
    simp [emps,empOp,empB,-vappend_nil,-vappend_mk,t1,t2,t3,t4,t5,VM.look,rN3,qn,bx13,bx23,d2,d3,d5,d6,d7,hap,s5,s6,qc1,qc2,mv2,mv3,rNL,bxL,rNQ2,rNQ3,bxQ2,bxQ3,lvL,hFM3,e4,bxfQ]
    refine rest _ _ _ ?_
    have ea:withArr (withBuf (nBoth x i) (pushS x (upd (nBoth x i).2.2.1 j (List.drop 1)) gg)) (arrS x (nBoth x i).2.2.2.2.2.2.1 gg)=withBuf (nBoth x i) (upd (upd (nBoth x i).2.2.1 j (List.drop 1)) zt (·++[f])):=by
     unfold pushS arrS;rw [if_neg h4,if_neg h4,hfe,hj,hz,hc];rfl
    rw [ea]
    exact ⟨(g5.set j a').set zt b',g9,rfl,by simp [t1],by simp [t2],by simp [t3],by simp [t4],by simp [t5],by simp,by simp,by simp,bxQ3,nsD,fun k hk=>by rcases nD k hk with h|h;(have:=hlw2 k h;omega);omega⟩
  case restB=>
   rintro cc t J4 ⟨g5',g9',rfl,t1,t2,t3,t4,t5,t6,t8,t11,bx4,ns4,hnJ⟩
   obtain ⟨s2,hs2⟩:∃s2,s2=withArr (withBuf (nBoth x i) (pushS x (upd (nBoth x i).2.2.1 j (List.drop 1)) gg)) (arrS x (nBoth x i).2.2.2.2.2.2.1 gg):=⟨_,rfl⟩
   rw [← hs2] at hps ns4
   have own2:s2.2.2.2.1=(nBoth x i).2.2.2.1:=by rw [hs2];rfl
   have turn2:s2.2.2.2.2.1=(nBoth x i).2.2.2.2.1:=by rw [hs2];rfl
   have lown:s2.2.2.2.1.length=x.2.2.2.1.length:=by rw [own2];exact fold_len (ownS_len x) _ _
   have lturn:s2.2.2.2.2.1.length=x.2.2.2.2.1.length:=by rw [turn2];exact fold_len turnS_len _ _
   clear hs2
   obtain ⟨zo,hz⟩:∃zo,zo=outAt gg.1 gg.2.1 c:=⟨_,rfl⟩
   have hzl:zo<s2.2.2.2.1.length:=by rw [lown,hz];have:=hx.2.1.2.1;unfold outAt;omega
   have hfg4:∀k∈dNet.ids (vw n g5' n.2.2.2.2.2.1.2 g9'),H.length≤k:=fun k hk=>by
    rcases ns4.ids k hk with h|h
    ·have:=hmn k h;omega
    ·omega
   obtain ⟨V,hV⟩:∃V:Int,V=if f.2.2.2.2 then -1 else (q:Int):=⟨_,rfl⟩
   obtain ⟨J5,st5,ns5,c5⟩:=ns4.own (frz:=H.length) hfg4 hzl V
   have hnot:J.length∉dNet.ids (vw n g5' n.2.2.2.2.2.1.2 g9'):=fun hh=>hnJ _ hh rfl
   have bx5:=box_chg bx4 c5 hnot
   obtain ⟨zt,hzt⟩:∃zt,zt=5*gg.1+gg.2.1:=⟨_,rfl⟩
   obtain ⟨d,hd⟩:∃d,d=(gg.2.2+1)%10:=⟨_,rfl⟩
   have hztl:zt<s2.2.2.2.2.1.length:=by rw [lturn,hzt];have:=hx.2.1.2.2.1;omega
   obtain ⟨o5,_⟩:=in_at (Rd.isI ns4.ow.2.2.2.1.1.rd) hzl
   have o5':vindexAddr Tryz.prog J4 24 n.2.2.2.1 (.int .i64 (zo:Int))=some (elp n.2.2.2.1 zo):=o5
   obtain ⟨o4,_⟩:=in_at (Rd.isI ns5.ow.2.2.2.2.1.1.rd) (l:=s2.2.2.2.2.1) hztl
   have o4':vindexAddr Tryz.prog J5 24 n.2.2.2.2.1 (.int .i64 (zt:Int))=some (elp n.2.2.2.2.1 zt):=o4
   obtain ⟨J6,st6,ns6,c6⟩:=ns5.turn (frz:=H.length) hfg4 (j:=zt) hztl (d:Int)
   have k1:=@w6 (5*(gg.1:Int)) (by omega)
   have k2:∀[Inhabited Unit],IntKind.i64.wrap (5*(gg.1:Int)+(gg.2.1:Int))=(zt:Int):=by intro _;rw [w64 (by omega) (by omega)];omega
   have k3:=@w6 ((gg.2.2:Int)+1) (by omega)
   have k4:∀[Inhabited Unit],((gg.2.2:Int)+1).tmod 10=(d:Int):=by intro _;rw [Int.tmod_eq_emod_of_nonneg (by omega)];omega
   have k4':∀[Inhabited Unit],((gg.2.2:Int)+1)%10=(d:Int):=by intro _;omega
   have k7:=@w6 (2*(gg.2.1:Int)) (by omega)
   have k8:=@w6 (10*(gg.1:Int)+2*(gg.2.1:Int)) (by omega)
   have k9:∀[Inhabited Unit],IntKind.i64.wrap (10*(gg.1:Int)+2*(gg.2.1:Int)+(c:Int))=(zo:Int):=by intro _;rw [hz];unfold outAt;rw [w64 (by omega) (by omega)];omega
   have hos:ownS x s2.2.2.2.1 gg=s2.2.2.2.1.set zo V:=by unfold ownS;rw [hV,hz,hc,hq,hfe,hj]
   have hts:turnS s2.2.2.2.2.1 gg=s2.2.2.2.2.1.set zt (d:Int):=by unfold turnS;rw [hzt,hd]
   rw [← own2,← turn2,hts,hos] at hps
   have rN4:=rowN J4 ns4.chg
   have rN5:=rowN J5 ns5.chg
   unfold netCells at rN4 rN5
   cases ht:f.2.2.2.2 with
   | false=>
    rw [ht,if_neg (by simp)] at hV
    subst hV
    simp [t1,t2,t3,t4,t5,t6,t8,t11,VM.look,rN4,rN5,qn,bx4,bx5,e1,k1,k2,k3,k4,k4',k7,k8,k9,o5',o4',st5,st6]
    refine ih ((allN x).length-(i+1)) _ _ ⟨i+1,g5',g9',rfl,by omega,by simp [t1],by simp [t2],by simp [t3],by simp [t4],?_,by rw [hps];exact ns6⟩ (by omega)
    simp [t5];rw [w64 (by omega) (by omega)]
   | true=>
    rw [ht,if_pos rfl] at hV
    subst hV
    simp [t1,t2,t3,t4,t5,t6,t8,t11,VM.look,rN4,rN5,qn,bx4,bx5,e1,k1,k2,k3,k4,k4',k7,k8,k9,o5',o4',st5,st6]
    refine ih ((allN x).length-(i+1)) _ _ ⟨i+1,g5',g9',rfl,by omega,by simp [t1],by simp [t2],by simp [t3],by simp [t4],?_,by rw [hps];exact ns6⟩ (by omega)
    simp [t5];rw [w64 (by omega) (by omega)]
 ·have hil:i=(allN x).length:=by omega
  subst hil
  clear ih
  have rO:=rowO J ns.chg
  have oJ:=Dt.chg (T:=dNet) o (cHJ J ns.chg) (by simp)
  have ent:=l19Entering_w (frz:=H.length) oJ hx
  simp only [dNet_val] at ent
  have rO':=rO
  unfold netCells at rO'
  simp [t1,t2,t3,t4,t5,VM.look,rO',ones]
  refine wp_thn ent ?_
  rintro el J1 ⟨oE,nE,cE⟩
  have ltE:=oE.lt
  have lE:=cE.1
  have lJ:=ns.chg.1
  -- between the loops: the network w,y3
  obtain ⟨y3,hy3⟩:∃y3,y3=nBoth x (allN x).length:=⟨_,rfl⟩
  rw [← hy3] at ns
  have ye3:y3.1=x.1∧y3.2.1=x.2.1∧y3.2.2.2.2.2.1=x.2.2.2.2.2.1∧y3.2.2.2.2.2.2.2=x.2.2.2.2.2.2.2:=by rw [hy3];exact ⟨rfl,rfl,rfl,rfl⟩
  have l53:y3.2.2.1.length=x.2.2.1.length:=by rw [hy3];exact fold_len (bothS_len x) _ _
  have b53:allL 67000080 y3.2.2.1:=by
   rw [hy3]
   refine allL_mono (fold_allL (both_allL x) ((allN x).take (allN x).length) x.2.2.1 67000000 hb5) ?_
   simp;omega
  have hlw:∀k∈dNet.ids (vw n g5 n.2.2.2.2.2.1.2 g9),k<J.length:=fun k hk=>dNet.lt ns.ow k hk
  have hfw:∀k∈dNet.ids (vw n g5 n.2.2.2.2.2.1.2 g9),k∈dNet.ids n∨K2.length≤k:=ns.ids
  have rN1:J1[K.length]? = some ⟨netCells (vw n g5 n.2.2.2.2.2.1.2 g9) x,0,46⟩:=box_chg (rowN J ns.chg) cE (by simp)
  have rO1:=box_chg rO cE (by simp)
  have rR1:=box_chg (rowR J ns.chg) cE (by simp)
  have ns1:NS J1 J1 [] (vw n g5 n.2.2.2.2.2.1.2 g9) y3 _ _ _:=NS.start [] (Dt.chg (T:=dNet) ns.ow cE (by simp)) ns.nd
  have cHJ1:Chg H J1 []:=(cHJ J ns.chg).trans cE
  clear rO' rO oJ ent
  generalize hw:vw n g5 n.2.2.2.2.2.1.2 g9=w at *
  have hidw:K.length∉dNet.ids w:=fun hh=>by
   rcases hfw _ hh with h|h
   ·exact hidn h
   ·omega
  have hmw:∀k∈dNet.ids w,H.length+2≤k:=fun k hk=>by
   rcases hfw k hk with h|h
   ·exact hmn k h
   ·omega
  have onew:=dNet_one (v:=w) ns1.ow
  have hE:=enterN_len x
  have hEat:=fun k (hk:k∈enterN x)=>enterN_at hk
  have hEnd:=enterN_nd x
  clear rowO rowR rowN cHJ glJ ns
  have rowO:∀J:Heap,Chg J1 J ([]++dNet.ids w)→J[H.length]? = some ⟨netCells v x,0,46⟩:=fun J c=>box_chg rO1 c (fun hh=>by have:=hmw _ (by simpa using hh);omega)
  have rowR:=fun (J:Heap) (c:Chg J1 J ([]++dNet.ids w))=>box_chg rR1 c (fun hh=>by have:=hmw _ (by simpa using hh);omega)
  have rowN:∀J:Heap,Chg J1 J ([]++dNet.ids w)→J[K.length]? = some ⟨netCells w x,0,46⟩:=fun J c=>box_chg rN1 c (by simpa using hidw)
  have cHJ:∀J:Heap,Chg J1 J ([]++dNet.ids w)→Chg H J []:=fun J c=>cHJ1.trans' c (fun k hk=>.inr (by have:=hmw k (by simpa using hk);omega))
  have elJ:∀J':Heap,Chg J1 J' ([]++dNet.ids w)→Ow Fl.int 3 J' el ((enterN x).map Int.ofNat):=fun J' c=>oE.chg c (fun k hk hh=>by have:=nE k hk;have:=hlw k (by simpa using hh);omega)
  simp [t1,t2,t3,t4,t5]
  -- what enters
  refine wp_inv (fun m t J=>∃(i:Nat) (g5 g8:List Value),m=(enterN x).length-i∧i≤(enterN x).length∧t 1=.pointer (some ⟨H.length,0,some 0⟩)∧t 2=.pointer (some ⟨H.length+1,0,some 0⟩)∧t 3=.pointer (some ⟨K.length,0,some 0⟩)∧t 12=el∧t 13=.int .i64 i∧
   NS J1 J [] w (nEnt x y3 i) g5 g8 w.2.2.2.2.2.2.1.2) ?_ (n:=(enterN x).length)
   ⟨0,w.2.2.1.2,w.2.2.2.2.2.1.2,rfl,by omega,by simp [t1],by simp [t2],by simp [t3],by simp,by simp,ns1⟩
  clear t1 t2 t3 t4 t5
  rintro m t J ⟨i,g5,g8,rfl,hi,t1,t2,t3,t12,t13,ns⟩ ih
  have hel:=(elJ J ns.chg).rd.len (P:=Tryz.prog) (ty:=24) (by simp)
  rw [List.length_map] at hel
  simp [t1,t2,t3,t12,t13,hel]
  refine wp_dec ?_ ?_<;>intro g
  ·have hi':i<(enterN x).length:=by omega
   obtain ⟨u1,u2⟩:=in_at (elJ J ns.chg).rd.isI (i:=i) (by simpa using hi')
   have eel:((enterN x).map Int.ofNat)[i]'(by simpa using hi')=((enterN x)[i]:Int):=by simp
   rw [eel] at u2
   obtain ⟨m1,m2⟩:=hEat _ (List.getElem_mem hi')
   have hps:=nEnt_succ (y:=y3) hi'
   have hsat:(nEnt x y3 i).2.2.2.2.2.1.getD (enterN x)[i] []=x.2.2.2.2.2.1.getD (enterN x)[i] []:=by
    rw [← ye3.2.2.1]
    have hnt:=not_take (f:=fun k:Nat=>k) (by simpa using hEnd) hi'
    exact srcs_at _ _ _ (by simpa using hnt)
   generalize (enterN x)[i]=k at *
   have hkx:k<x.2.2.2.2.2.1.length:=by have:=hx.2.1.2.2.2.1;omega
   have hks:k<(nEnt x y3 i).2.2.2.2.2.1.length:=by
    have:(nEnt x y3 i).2.2.2.2.2.1.length=y3.2.2.2.2.2.1.length:=fold_len srcS_len _ _
    rw [this,ye3.2.2.1];exact hkx
   have hgd:(nEnt x y3 i).2.2.2.2.2.1.getD k []=(nEnt x y3 i).2.2.2.2.2.1[k]:=by simp [List.getD_eq_getElem?_getD,hks]
   have hne:(nEnt x y3 i).2.2.2.2.2.1[k]≠[]:=by rw [← hgd,hsat];exact m2.1
   have hgx:x.2.2.2.2.2.1.getD k []=x.2.2.2.2.2.1[k]:=by simp [List.getD_eq_getElem?_getD,hkx]
   have hnx:x.2.2.2.2.2.1[k]≠[]:=by rw [← hgx];exact m2.1
   obtain ⟨en1,en2,en3⟩:=ent_ok hx m2.1
   have hcl:=en1.2
   obtain ⟨f,hfe⟩:∃f,f=srcHead x k:=⟨_,rfl⟩
   have hhd:headL x.2.2.2.2.2.1[k]=f:=by rw [← hgx,hfe];rfl
   obtain ⟨z,hz⟩:∃z,z=entAt x k:=⟨_,rfl⟩
   rw [← hfe,← hz] at en2
   rw [← hfe] at hcl
   unfold inR at hcl
   have hzl:z<(nEnt x y3 i).2.2.1.length:=by
    have:(nEnt x y3 i).2.2.1.length=y3.2.2.1.length:=fold_len (entS_len x) _ _
    rw [this,l53];have:=hx.2.1.1;omega
   have b5i:allL 67000096 (nEnt x y3 i).2.2.1:=allL_mono (fold_allL (ent_allL x) ((enterN x).take i) y3.2.2.1 67000080 b53) (show _≤67000096 by simp;omega)
   obtain ⟨J2,hJ2⟩:∃J2,J2=J++[⟨flF.f f,0,157⟩]:=⟨_,rfl⟩
   have cJ:Chg J J2 []:=by rw [hJ2];exact Chg.app _
   have lJ2:J2.length=J.length+1:=by rw [hJ2];simp
   have bx:J2[J.length]? = some ⟨flF.f f,0,157⟩:=by rw [hJ2];simp
   have hJs:J++[⟨flF.f f,0,157⟩]=J2:=hJ2.symm
   simp only [flF_f] at bx hJs
   have nsA:=ns.other cJ (by simp) (by simp)
   have hlJ:∀l∈dNet.ids (vw w g5 g8 w.2.2.2.2.2.2.1.2),l<J.length:=fun l hl=>dNet.lt ns.ow l hl
   have hFJ:H.length≤J.length:=by have:=ns.chg.1;omega
   have hFJ2:H.length≤J2.length:=by omega
   have hfg:∀l∈dNet.ids (vw w g5 g8 w.2.2.2.2.2.2.1.2),H.length≤l:=fun l hl=>by
    rcases ns.ids l hl with h|h
    ·have:=hmw l h;omega
    ·omega
   obtain ⟨a0,z1,z2,z3,z4,z5,z6,z7⟩:=ss_hd (u:=v.2.2.2.2.2.1) (Dt.chg (T:=dNet) o (cHJ J ns.chg) (by simp)).2.2.2.2.2.1 hkx
   obtain ⟨z0,_,_,_,_,_,_,zw⟩:=front z4.rd hnx
   rw [hhd] at zw
   simp only [flF_f] at zw
   obtain ⟨az,d1,d2,d3,d4,d5,d6,d7⟩:=ss_hd (u:=(w.2.2.1.1,g5)) nsA.ow.2.2.1 hzl
   simp only at d2 d3 d7
   obtain ⟨a',M2,M3,hap,p5,p6,lv2,lv3,qb1,qb2,c2,pt⟩:=ss_push (frz:=H.length) (u:=(w.2.2.1.1,g5)) nsA.ow.2.2.1 (net_ndBuf (n:=vw w g5 g8 w.2.2.2.2.2.2.1.2) nsA.nd) hzl (Nat.le_trans (Nat.succ_le_succ (b5i _ (List.getElem_mem hzl))) (by decide)) (fun l hl=>hfg l (net_inBuf (n:=vw w g5 g8 w.2.2.2.2.2.2.1.2) l hl)) d1 f
   simp only at p5 p6 lv2 lv3
   obtain ⟨nsB,nB,cB⟩:=nsA.buf pt
   simp only [flF_f] at hap
   have hfg2:∀l∈dNet.ids (vw w (g5.set z a') g8 w.2.2.2.2.2.2.1.2),H.length≤l:=fun l hl=>by
    rcases nB l hl with h|h
    ·exact hfg l h
    ·omega
   obtain ⟨a8,s1,s2,s3,s4,s5,s6,s7⟩:=ss_hd (u:=(w.2.2.2.2.2.1.1,g8)) nsB.ow.2.2.2.2.2.1 hks
   simp only at s2 s3 s7
   obtain ⟨zz,b',N2,N3,t3',t4',t5',t6',mv2,mv3,qc1,qc2,cc2,pt2⟩:=ss_popE (frz:=H.length) (u:=(w.2.2.2.2.2.1.1,g8)) nsB.ow.2.2.2.2.2.1 (net_ndSrc (n:=vw w (g5.set z a') g8 w.2.2.2.2.2.2.1.2) nsB.nd) hks hne (fun l hl=>hfg2 l (net_inSrc (n:=vw w (g5.set z a') g8 w.2.2.2.2.2.2.1.2) l hl)) s1
   simp only at t5' t6' mv2 mv3
   obtain ⟨nsC,nC,cC⟩:=nsB.src pt2
   have hidg:K.length∉dNet.ids (vw w g5 g8 w.2.2.2.2.2.2.1.2):=fun hh=>by
    rcases ns.ids _ hh with h|h
    ·exact hidw h
    ·omega
   have hia:∀l∈ids az,l∈dNet.ids (vw w g5 g8 w.2.2.2.2.2.2.1.2):=fun l hl=>net_inBuf (n:=vw w g5 g8 w.2.2.2.2.2.2.1.2) l (mem_idsL d1 hl)
   have rO1:=rowO J ns.chg
   have rN2:=rowN J2 nsA.chg
   have rNL:=fun L=>get_app' rN2 L
   have rNM2:=box_chg rN2 c2 (fun hh=>hidg (hia _ hh))
   have rNM3:=rowN M3 nsB.chg
   have bxL:=fun L=>get_app' bx L
   have lvL:∀L:Heap,VM.live (J2++L) w.2.2.1.1:=fun L=>Ow_live (v:=w.2.2.1.1) (Ow.app (L:=L) nsA.ow.2.2.1.1.1)
   unfold netCells at rO1 rN2 rNL rNM2 rNM3
   have k1:=@w6 (10*(k:Int)) (by omega)
   have k2:=@w6 (10*(k:Int)+8) (by omega)
   have k3:∀[Inhabited Unit],IntKind.i64.wrap (10*(k:Int)+8+f.2.2.1)=(z:Int):=by intro _;rw [w64 (by omega) (by omega)];omega
   simp [t1,t2,t3,t12,t13,u1,u2,VM.look,rO1,ones,z2,z3,z5,z6,z0,zw,hFJ]
   rw [hJs]
   clear hJ2 hJs
   simp [t1,t2,t3,t12,t13,VM.look,bx,k1,k2,k3]
   rw [go_drawF (fl:=[1]) (h:=⟨by kernel_rfl,by kernel_rfl,by kernel_rfl,by kernel_rfl⟩)]
   simp [emps,empOp,empB,-vappend_nil,-vappend_mk,t1,t2,t3,t12,t13,VM.look,rN2,onew,d2,d3,d5,d6,d7,bx,hap,p5,p6,lv2,lv3,qb1,qb2,rNL,rNM2,rNM3,bxL,lvL,hFJ2]
   rw [go_drawE (h:=⟨by kernel_rfl,by kernel_rfl⟩)]
   simp [emps,empOp,empB,-vappend_nil,-vappend_mk,t1,t2,t3,t12,t13,VM.look,rNM3,onew,s2,s3,s5,s6,t3',t4',t5',t6',qc1,qc2]
   refine ih ((enterN x).length-(i+1)) _ _ ⟨i+1,g5.set z a',g8.set k b',rfl,by omega,by simp [t1],by simp [t2],by simp [t3],by simp [t12],?_,?_⟩ (by omega)
   ·simp [t13];rw [w64 (by omega) (by omega)]
   ·rw [hps]
    have e1:entS x (nEnt x y3 i).2.2.1 k=upd (nEnt x y3 i).2.2.1 z (·++[f]):=by unfold entS;rw [← hz,← hfe]
    rw [e1]
    exact nsC
  ·have hil:i=(enterN x).length:=by omega
   subst hil
   clear ih
   have hse:stepN x=older (nEnt x y3 (enterN x).length) 1:=by rw [step_eq2,← hy3]
   have et:∀[Inhabited Unit],IntKind.i64.wrap (x.2.2.2.2.2.2.2+1)=x.2.2.2.2.2.2.2+1:=by intro _;unfold inR at ht;exact w64 (by omega) (by omega)
   have rO2:=rowO J ns.chg
   have rN2:=rowN J ns.chg
   have rR2:=rowR J ns.chg
   unfold netCells at rO2 rN2
   have gN:=set_get (r':=⟨[.int .i64 x.1.1,.int .i64 x.1.2.1,w.1,w.2.1.1,w.2.1.2,w.2.2.1.1,w.2.2.2.1,w.2.2.2.2.1,w.2.2.2.2.2.1.1,w.2.2.2.2.2.2.1.1,.int .i64 (x.2.2.2.2.2.2.2+1)],0,46⟩) rN2
   have cN:Chg J (J.set K.length ⟨[.int .i64 x.1.1,.int .i64 x.1.2.1,w.1,w.2.1.1,w.2.1.2,w.2.2.1.1,w.2.2.2.1,w.2.2.2.2.1,w.2.2.2.2.2.1.1,w.2.2.2.2.2.2.1.1,.int .i64 (x.2.2.2.2.2.2.2+1)],0,46⟩) [K.length]:=chg_set _ _
   have rR3:=box_chg rR2 cN (by simp;omega)
   have gR:=set_get (r':=⟨[.int .i64 x.1.1,.int .i64 x.1.2.1,w.1,w.2.1.1,w.2.1.2,w.2.2.1.1,w.2.2.2.1,w.2.2.2.2.1,w.2.2.2.2.2.1.1,w.2.2.2.2.2.2.1.1,.int .i64 (x.2.2.2.2.2.2.2+1)],0,46⟩) rR3
   have cR:Chg (J.set K.length ⟨[.int .i64 x.1.1,.int .i64 x.1.2.1,w.1,w.2.1.1,w.2.1.2,w.2.2.1.1,w.2.2.2.1,w.2.2.2.2.1,w.2.2.2.2.2.1.1,w.2.2.2.2.2.2.1.1,.int .i64 (x.2.2.2.2.2.2.2+1)],0,46⟩) ((J.set K.length ⟨[.int .i64 x.1.1,.int .i64 x.1.2.1,w.1,w.2.1.1,w.2.1.2,w.2.2.1.1,w.2.2.2.1,w.2.2.2.2.1,w.2.2.2.2.2.1.1,w.2.2.2.2.2.2.1.1,.int .i64 (x.2.2.2.2.2.2.2+1)],0,46⟩).set (H.length+1) ⟨[.int .i64 x.1.1,.int .i64 x.1.2.1,w.1,w.2.1.1,w.2.1.2,w.2.2.1.1,w.2.2.2.1,w.2.2.2.2.1,w.2.2.2.2.2.1.1,w.2.2.2.2.2.2.1.1,.int .i64 (x.2.2.2.2.2.2.2+1)],0,46⟩) [H.length+1]:=chg_set _ _
   have hF1:H.length≤H.length+1:=by omega
   have hidg:K.length∉dNet.ids (vw w g5 g8 w.2.2.2.2.2.2.1.2):=fun hh=>by
    rcases ns.ids _ hh with h|h
    ·exact hidw h
    ·omega
   have hmg:∀k∈dNet.ids (vw w g5 g8 w.2.2.2.2.2.2.1.2),H.length+2≤k:=fun k hk=>by
    rcases ns.ids k hk with h|h
    ·exact hmw k h
    ·omega
   simp [t1,t2,t3,t12,t13,VM.look,rO2,rN2,ones,onew,et,hF,gN,rR3,gR,hF1]
   refine ⟨vw w g5 g8 w.2.2.2.2.2.2.1.2,rfl,?_,?_,fun k hk=>by have:=hmg k hk;omega,ns.nd⟩
   ·rw [hse]
    exact Dt.chg (T:=dNet) (Dt.chg (T:=dNet) ns.ow cN (fun k hk hh=>by simp at hh;exact hidg (hh▸hk))) cR (fun k hk hh=>by have:=hmg k hk;simp at hh;omega)
   ·exact ((cHJ J ns.chg).trans' cN (fun k hk=>.inr (by simp at hk;omega))).trans' cR (fun k hk=>.inr (by simp at hk;omega))
def runs (x:NetD) (k:Int):Prop:=netOk x∧inR 0 k 400∧x.2.2.2.2.2.2.2+k≤1000000
instance (x:NetD) (k:Int):Decidable (runs x k):=inferInstanceAs (Decidable (_∧_))
noncomputable def runNet (x:NetD) (k:Int):NetD:=if runs x k then runN x k.toNat else x
theorem netOk_buf {x:NetD} (h:netOk x):allL 66000000 x.2.2.1:=fun l hl=>by
 obtain ⟨i,hi,rfl⟩:=List.getElem_of_mem hl
 have:=(h.2.2.1 i hi).1
 rw [getD_at hi] at this
 omega
theorem run_at {x:NetD} (h:runOk x) (h5:allL 66000000 x.2.2.1) (h9:allL 66000000 x.2.2.2.2.2.2.1) {i:Nat} (hi:i≤400):runOk (runN x i)∧allL 67000000 (runN x i).2.2.1∧allL 67000000 (runN x i).2.2.2.2.2.2.1∧(runN x i).2.2.2.2.2.2.2=x.2.2.2.2.2.2.2+i:=by
 obtain ⟨a,b⟩:=run_allL h5 h9 i
 exact ⟨run_ok h i,allL_mono a (by omega),allL_mono b (by omega),run_time x i⟩
theorem canRun_c {v:NetV} {x:NetD} {k:Int} (o:dNet.Ow H v x):vcall C frz 91 [dNet.val v x,.int .i64 k] H=some (.bool (decide (runs x k)),H):=by
 refine wp.exact (by simp) ?_ rfl
 have ones:=dNet_one o
 have nk:=fun F L=>netOk_d (frz:=F) (H:=H++L) (v:=v) (x:=x) (Dt.app (T:=dNet) o)
 simp only [dNet_val] at nk ⊢
 rw [vcall_go (fn:=Tryz.f91) Tryz.func91 rfl (by kernel_rfl) rfl]
 generalize hY:decide (runs x k)=Y
 have no:¬runs x k→Y=false:=fun hh=>by rw [← hY];exact decide_eq_false hh
 by_cases h1:netOk x
 rotate_left
 ·simp [ones,VM.look,nk,h1];exact no (fun k=>h1 k.1)
 by_cases h2:inR 0 k 400
 rotate_left
 ·simp [ones,VM.look,nk,h1,inside_c,h2];exact no (fun k=>h2 k.2.1)
 have ht:=h1.2.2.2.2.2.2
 unfold inR at ht
 have e1:∀[Inhabited Unit],IntKind.i64.wrap (x.2.2.2.2.2.2.2+k)=x.2.2.2.2.2.2.2+k:=by intro _;unfold inR at h2;exact w64 (by omega) (by omega)
 have key:runs x k↔x.2.2.2.2.2.2.2+k≤1000000:=⟨fun h=>h.2.2,fun h=>⟨h1,h2,h⟩⟩
 simp [ones,VM.look,nk,h1,inside_c,h2,e1]
 rw [← hY];simp only [key]
theorem runNet_d {v:NetV} {x:NetD} {k:Int} (o:dNet.Ow H v x) (h9:allL 66000000 x.2.2.2.2.2.2.1) :
 wp (vcall C frz 38 [dNet.val v x,.int .i64 k] H) (Made2 dNet H (runNet x k) (decide (runs x k))):=by
 have ones:=dNet_one o
 have ecopy:=fun L=>copyNet_d (frz:=H.length) (H:=H++L) (v:=v) (x:=x) (Dt.app (T:=dNet) o)
 have ck:=fun F K (c:Chg H K [])=>canRun_c (frz:=F) (H:=K) (v:=v) (x:=x) (k:=k) (Dt.chg (T:=dNet) o c (by simp))
 simp only [dNet_val] at ecopy ck ⊢
 rw [vcall_go (fn:=Tryz.f38) Tryz.func38 rfl (by kernel_rfl) rfl]
 simp [ones]
 refine wp_thn (ecopy _) ?_
 rintro _ K ⟨n,rfl,on,cn,mn,dn⟩
 simp at mn
 have qn:=dNet_one on
 have lK:=cn.1
 simp at lK
 have hF:H.length≤K.length:=by omega
 have ltn:∀i∈dNet.ids n,i<K.length:=fun i hi=>dNet.lt on i hi
 simp [dNet_val,qn,VM.look,hF]
 obtain ⟨K1,hK1⟩:∃K1,K1=K++[⟨netCells n x,0,46⟩]:=⟨_,rfl⟩
 have c1:Chg K K1 []:=by rw [hK1];exact Chg.app _
 have cK:Chg H K []:=(Chg.app _).trans cn
 have cK1:=cK.trans c1
 have l1:K1.length=K.length+1:=by rw [hK1];simp
 have b1:K1[H.length]? = some ⟨netCells v x,0,46⟩:=box_chg (box_chg (by simp [netCells]) cn (by simp)) c1 (by simp)
 have bR:K1[H.length+1]? = some ⟨[.int .i64 0,.int .i64 0,.slice none 0 0,.slice none 0 0,.slice none 0 0,.slice none 0 0,.slice none 0 0,.slice none 0 0,.slice none 0 0,.slice none 0 0,.int .i64 0],0,46⟩:=box_chg (box_chg (by simp) cn (by simp)) c1 (by simp)
 have b3:K1[K.length]? = some ⟨netCells n x,0,46⟩:=by rw [hK1];simp
 have on1:=Dt.chg (T:=dNet) on c1 (by simp)
 have hKs:K++[⟨netCells n x,0,46⟩]=K1:=hK1.symm
 have b1':=b1
 unfold netCells at hKs b1'
 rw [hKs]
 clear hK1 hKs
 have ck':=fun F=>ck F K1 cK1
 have hF1:H.length≤H.length+1:=by omega
 -- what is handed back
 have fin:∀(J:Heap) (w:NetV) (y:NetD) (b:Bool),Chg H J []→J[H.length+1]? = some ⟨[.int .i64 0,.int .i64 0,.slice none 0 0,.slice none 0 0,.slice none 0 0,.slice none 0 0,.slice none 0 0,.slice none 0 0,.slice none 0 0,.slice none 0 0,.int .i64 0],0,46⟩→
  dNet.Ow J w y→(dNet.ids w).Nodup→(∀i∈dNet.ids w,H.length+2≤i)→runNet x k=y→decide (runs x k)=b→Made2 dNet H (runNet x k) (decide (runs x k)) (.tuple #[dNet.val w y,.bool b]) (J.set (H.length+1) ⟨netCells w y,0,46⟩):=fun J w y b cJ bJ oJ dJ mJ e1 e2=>by
  rw [e1,e2]
  exact ⟨_,rfl,w,rfl,Dt.chg (T:=dNet) oJ (chg_set _ _) (fun i hi hh=>by have:=mJ i hi;simp at hh;omega),cJ.trans' (chg_set _ _) (fun i hi=>.inr (by simp at hi;omega)),fun i hi=>by have:=mJ i hi;omega,dJ⟩
 by_cases g0:runs x k
 rotate_left
 ·have gR:=set_get (r':=⟨netCells n x,0,46⟩) bR
  have hM:=fin K1 n x false cK1 bR on1 dn (fun i hi=>by have:=mn i hi;omega) (if_neg g0) (decide_eq_false g0)
  have b3':=b3
  unfold netCells at b3' gR
  simp [VM.look,b1',ones,ck',g0,b3',bR,gR,qn,hF1]
  simpa [g0,dNet_val,netCells] using hM
 obtain ⟨m,hm⟩:∃m:Nat,k=m:=⟨k.toNat,by have:=g0.2.1.1;omega⟩
 subst hm
 have hm4:m≤400:=by have:=g0.2.1.2;omega
 have ht:=g0.1.2.2.2.2.2.2
 have ht2:=g0.2.2
 unfold inR at ht
 have hro:=netOk_runOk g0.1
 have ra:=fun i (hi:i≤m)=>run_at (i:=i) hro (netOk_buf g0.1) h9 (by omega)
 simp [VM.look,b1',ones,ck',g0]
 refine wp_inv (fun q t J=>∃(i:Nat) (w:NetV),q=m-i∧i≤m∧t 6=.pointer (some ⟨K.length,0,some 0⟩)∧t 4=.pointer (some ⟨H.length+1,0,some 0⟩)∧t 14=.int .i64 m∧t 15=.int .i64 i∧J[K.length]? = some ⟨netCells w (runN x i),0,46⟩∧dNet.Ow J w (runN x i)∧(dNet.ids w).Nodup∧(∀i∈dNet.ids w,H.length+2≤i∧i≠K.length)∧
  J[H.length+1]? = some ⟨[.int .i64 0,.int .i64 0,.slice none 0 0,.slice none 0 0,.slice none 0 0,.slice none 0 0,.slice none 0 0,.slice none 0 0,.slice none 0 0,.slice none 0 0,.int .i64 0],0,46⟩∧Chg H J []) ?_ (n:=m)
  ⟨0,n,rfl,by omega,by simp,by simp,by simp,by simp,b3,on1,dn,fun i hi=>⟨by have:=mn i hi;omega,by have:=ltn i hi;omega⟩,bR,cK1⟩
 rintro q t J ⟨i,w,rfl,hi,t6,t4,t14,t15,bJ,oJ,dJ,mJ,bRJ,cJ⟩ ih
 simp [t6,t4,t14,t15]
 refine wp_dec ?_ ?_<;>intro g
 ·have hi':i<m:=by omega
  obtain ⟨r1,r2,r3,r4⟩:=ra i (by omega)
  have lJ:=box_lt bJ
  have st:=step_w (frz:=H.length) (id:=K.length) (tail:=[]) (e:=46) (by simpa using bJ) oJ dJ (fun i hi=>by have:=(mJ i hi).1;omega) hF (fun hh=>(mJ _ hh).2 rfl) cJ.1 r1 r2 r3 (by rw [r4];unfold inR;omega)
  simp [t6,t4,t14,t15]
  refine wp_thn st ?_
  rintro _ J2 ⟨w2,s1,s2,s3,s4,s5⟩
  rw [List.append_nil] at s1
  simp [t6,t4,t14,t15]
  refine ih (m-(i+1)) _ _ ⟨i+1,w2,rfl,by omega,by simp [t6],by simp [t4],by simp [t14],?_,s1,s2,s3,fun j hj=>?_,box_chg bRJ s5 (fun hh=>?_),cJ.trans' s5 (fun j hj=>?_)⟩ (by omega)
  ·simp [t15];rw [w64 (by omega) (by omega)]
  ·rcases s4 j hj with h|h
   ·exact mJ j h
   ·exact ⟨by omega,by omega⟩
  ·rcases List.mem_cons.1 hh with h|h
   ·omega
   ·have:=(mJ _ h).1;omega
  ·right
   rcases List.mem_cons.1 hj with h|h
   ·omega
   ·have:=(mJ _ h).1;omega
 ·have:i=m:=by omega
  subst this
  have gR:=set_get (r':=⟨netCells w (runN x i),0,46⟩) bRJ
  have oneJ:=dNet_one oJ
  have hM:=fin J w (runN x i) true cJ bRJ oJ dJ (fun j hj=>(mJ j hj).1) (by unfold runNet;rw [if_pos g0,Int.toNat_natCast]) (decide_eq_true g0)
  unfold netCells at bJ gR
  simp [t6,t4,t14,t15,VM.look,bJ,bRJ,gR,oneJ,hF1]
  simpa [g0,dNet_val,netCells] using hM
def RunPost (H:Heap) (v:NetV) (y:NetD) (r:Value) (H':Heap):Prop:=
 ∃w:NetV,r=dNet.val w y∧dNet.Ow H' w y∧(dNet.ids w).Nodup∧(∀i∈dNet.ids w,i∈dNet.ids v∨H.length≤i)∧Chg H H' []
theorem l20Run_d {v:NetV} {x:NetD} {m:Nat} (o:dNet.Ow H v x) (nd:(dNet.ids v).Nodup) (hm4:m≤400) (hx:runOk x) (h5:allL 66000000 x.2.2.1) (h9:allL 66000000 x.2.2.2.2.2.2.1) (ht:0≤x.2.2.2.2.2.2.2) (ht2:x.2.2.2.2.2.2.2+m≤1000000) :
 wp (vcall C frz 90 [dNet.val v x,.int .i64 m] H) (RunPost H v (runN x m)):=by
 have ones:=dNet_one o
 have hlt:=dNet.lt o
 have ra:=fun i (hi:i≤m)=>run_at (i:=i) hx h5 h9 (by omega)
 simp only [dNet_val]
 rw [vcall_go (fn:=Tryz.f90) Tryz.func90 rfl (by kernel_rfl) rfl]
 obtain ⟨G,hG⟩:∃G,G=H++[⟨netCells v x,0,46⟩,⟨[.int .i64 0,.int .i64 0,.slice none 0 0,.slice none 0 0,.slice none 0 0,.slice none 0 0,.slice none 0 0,.slice none 0 0,.slice none 0 0,.slice none 0 0,.int .i64 0],0,46⟩]:=⟨_,rfl⟩
 have cG:Chg H G []:=by rw [hG];exact Chg.app _
 have b1:G[H.length]? = some ⟨netCells v x,0,46⟩:=by rw [hG];simp
 have bR:G[H.length+1]? = some ⟨[.int .i64 0,.int .i64 0,.slice none 0 0,.slice none 0 0,.slice none 0 0,.slice none 0 0,.slice none 0 0,.slice none 0 0,.slice none 0 0,.slice none 0 0,.int .i64 0],0,46⟩:=by rw [hG];simp
 have hGs:=hG.symm
 unfold netCells at hGs
 simp [ones]
 rw [hGs]
 clear hG hGs
 have hF0:H.length≤H.length:=Nat.le_refl _
 have hF1:H.length≤H.length+1:=by omega
 refine wp_inv (fun q t J=>∃(i:Nat) (w:NetV),q=m-i∧i≤m∧t 1=.int .i64 m∧t 2=.pointer (some ⟨H.length,0,some 0⟩)∧t 4=.pointer (some ⟨H.length+1,0,some 0⟩)∧t 5=.int .i64 i∧J[H.length]? = some ⟨netCells w (runN x i),0,46⟩∧dNet.Ow J w (runN x i)∧(dNet.ids w).Nodup∧(∀i∈dNet.ids w,i∈dNet.ids v∨H.length+2≤i)∧
  J[H.length+1]? = some ⟨[.int .i64 0,.int .i64 0,.slice none 0 0,.slice none 0 0,.slice none 0 0,.slice none 0 0,.slice none 0 0,.slice none 0 0,.slice none 0 0,.slice none 0 0,.int .i64 0],0,46⟩∧Chg H J []) ?_ (n:=m)
  ⟨0,v,rfl,by omega,by simp,by simp,by simp,by simp,b1,Dt.chg (T:=dNet) o cG (by simp),nd,fun i hi=>.inl hi,bR,cG⟩
 rintro q t J ⟨i,w,rfl,hi,t1,t2,t4,t5,bJ,oJ,dJ,mJ,bRJ,cJ⟩ ih
 have oneJ:=dNet_one oJ
 have hdis:∀k∈dNet.ids w,k≠H.length∧k≠H.length+1:=fun k hk=>by
  rcases mJ k hk with h|h
  ·have:=hlt k h;exact ⟨by omega,by omega⟩
  ·exact ⟨by omega,by omega⟩
 -- what is handed back
 have fin:∀(y:NetD) (J:Heap),Chg H J []→dNet.Ow J w y→RunPost H v y (dNet.val w y) (J.set (H.length+1) ⟨netCells w y,0,46⟩):=fun y J cJ oJ=>
  ⟨w,rfl,Dt.chg (T:=dNet) oJ (chg_set _ _) (fun k hk hh=>by have:=(hdis k hk).2;simp at hh;omega),dJ,fun k hk=>(mJ k hk).imp _root_.id (fun h=>by omega),cJ.trans' (chg_set _ _) (fun k hk=>.inr (by simp at hk;omega))⟩
 simp [t1,t2,t4,t5]
 refine wp_dec ?_ ?_<;>intro g
 ·have hi':i<m:=by omega
  obtain ⟨r1,r2,r3,r4⟩:=ra i (by omega)
  have lJ:=box_lt bJ
  have idl:=fun F=>l20Idle_d (frz:=F) oJ
  simp only [dNet_val] at idl
  have bJ':=bJ
  unfold netCells at bJ'
  simp [t1,t2,t4,t5,VM.look,bJ',oneJ,idl]
  by_cases g1:idle (runN x i)
  ·have hrun:runN x m=older (runN x i) ((m-i:Nat):Int):=by
    have h1:=run_add x i (m-i)
    rw [show i+(m-i)=m by omega] at h1
    rw [h1,idle_run g1]
   have e1:=@w6 ((runN x i).2.2.2.2.2.2.2+(m:Int)) (by omega)
   have e2:∀[Inhabited Unit],IntKind.i64.wrap ((runN x i).2.2.2.2.2.2.2+(m:Int)-(i:Int))=(runN x i).2.2.2.2.2.2.2+((m-i:Nat):Int):=by intro _;rw [w64 (by omega) (by omega)];omega
   obtain ⟨T,hT⟩:∃T,T=(runN x i).2.2.2.2.2.2.2+((m-i:Nat):Int):=⟨_,rfl⟩
   rw [← hT] at e2
   have hod:older (runN x i) ((m-i:Nat):Int)=((runN x i).1,(runN x i).2.1,(runN x i).2.2.1,(runN x i).2.2.2.1,(runN x i).2.2.2.2.1,(runN x i).2.2.2.2.2.1,(runN x i).2.2.2.2.2.2.1,T):=by unfold older;rw [hT]
   rw [hrun,hod]
   generalize runN x i=z at *
   have gN:=set_get (r':=⟨netCells w (z.1,z.2.1,z.2.2.1,z.2.2.2.1,z.2.2.2.2.1,z.2.2.2.2.2.1,z.2.2.2.2.2.2.1,T),0,46⟩) bJ
   have cN:Chg J (J.set H.length ⟨netCells w (z.1,z.2.1,z.2.2.1,z.2.2.2.1,z.2.2.2.2.1,z.2.2.2.2.2.1,z.2.2.2.2.2.2.1,T),0,46⟩) [H.length]:=chg_set _ _
   have bR3:=box_chg bRJ cN (by simp)
   have gR:=set_get (r':=⟨netCells w (z.1,z.2.1,z.2.2.1,z.2.2.2.1,z.2.2.2.2.1,z.2.2.2.2.2.1,z.2.2.2.2.2.2.1,T),0,46⟩) bR3
   have hM:=fin (z.1,z.2.1,z.2.2.1,z.2.2.2.1,z.2.2.2.2.1,z.2.2.2.2.2.1,z.2.2.2.2.2.2.1,T) _ (cJ.trans' cN (fun k hk=>.inr (by simp at hk;omega))) (Dt.chg (T:=dNet) oJ cN (fun k hk hh=>by have:=(hdis k hk).1;simp at hh;omega))
   unfold netCells at gN bR3 gR hM
   simp only at gN bR3 gR hM
   simp [t1,t2,t4,t5,VM.look,bJ',oneJ,g1,e1,e2,gN,bR3,gR,hF1]
   simpa [dNet_val] using hM
  have st:=l19Step_d (frz:=H.length) oJ r1 r2 r3 (by rw [r4];unfold inR;omega)
  simp only [dNet_val] at st
  simp [t1,t2,t4,t5,VM.look,bJ',oneJ,g1]
  refine wp_thn st ?_
  rintro _ J2 ⟨w2,rfl,s2,s5,s4,s3⟩
  have one2:=dNet_one s2
  have bJ2:=box_chg bJ s5 (by simp)
  have bRJ2:=box_chg bRJ s5 (by simp)
  have hg:runN x (i+1)=stepN (runN x i):=rfl
  have gN:=set_get (r':=⟨netCells w2 (stepN (runN x i)),0,46⟩) bJ2
  have cN:Chg J2 (J2.set H.length ⟨netCells w2 (stepN (runN x i)),0,46⟩) [H.length]:=chg_set _ _
  have hF2:H.length≤H.length:=Nat.le_refl _
  have l2:=s5.1
  have l3:=box_lt bRJ
  have bJ2':=bJ2
  unfold netCells at bJ2'
  simp [dNet_val,t1,t2,t4,t5,VM.look,bJ2',one2]
  refine ih (m-(i+1)) _ _ ⟨i+1,w2,rfl,by omega,by simp [t1],by simp [t2],by simp [t4],?_,gN,Dt.chg (T:=dNet) s2 cN (fun k hk hh=>by have:=s4 k hk;simp at hh;omega),s3,fun k hk=>.inr (by have:=s4 k hk;omega),box_chg bRJ2 cN (by simp),(cJ.trans s5).trans' cN (fun k hk=>.inr (by simp at hk;omega))⟩ (by omega)
  simp [t5];rw [w64 (by omega) (by omega)]
 ·have:i=m:=by omega
  subst this
  have gR:=set_get (r':=⟨netCells w (runN x i),0,46⟩) bRJ
  have hM:=fin (runN x i) J cJ oJ
  unfold netCells at bJ gR hM
  simp [t1,t2,t4,t5,VM.look,bJ,bRJ,gR,oneJ,hF1]
  simpa [dNet_val] using hM
theorem sRunNet_d {v:NetV} {x:NetD} {k:Int} (o:dNet.Ow H v x) (h9:allL 66000000 x.2.2.2.2.2.2.1) :
 wp (vcall C frz 37 [dNet.val v x,.int .i64 k] H) (Made2 dNet H (runNet x k) (decide (runs x k))):=by
 have ones:=dNet_one o
 have ecopy:=fun L=>l15Copy_d (frz:=H.length) (H:=H++L) (v:=v) (x:=x) (Dt.app (T:=dNet) o)
 have nk:=fun F L=>sNetOk_d (frz:=F) (H:=H++L) (v:=v) (x:=x) (Dt.app (T:=dNet) o)
 simp only [dNet_val] at ecopy nk ⊢
 rw [vcall_go (fn:=Tryz.f37) Tryz.func37 rfl (by kernel_rfl) rfl]
 have hF1:H.length≤H.length+1:=by omega
 have fin:∀(J:Heap) (w:NetV) (y:NetD) (b:Bool),Chg H J []→
  dNet.Ow J w y→(dNet.ids w).Nodup→(∀i∈dNet.ids w,H.length+2≤i)→runNet x k=y→decide (runs x k)=b→Made2 dNet H (runNet x k) (decide (runs x k)) (.tuple #[dNet.val w y,.bool b]) (J.set (H.length+1) ⟨netCells w y,0,46⟩):=fun J w y b cJ oJ dJ mJ e1 e2=>by
  rw [e1,e2]
  exact ⟨_,rfl,w,rfl,Dt.chg (T:=dNet) oJ (chg_set _ _) (fun i hi hh=>by have:=mJ i hi;simp at hh;omega),cJ.trans' (chg_set _ _) (fun i hi=>.inr (by simp at hi;omega)),fun i hi=>by have:=mJ i hi;omega,dJ⟩
 by_cases g0:runs x k
 ·obtain ⟨m,hm⟩:∃m:Nat,k=m:=⟨k.toNat,by have:=g0.2.1.1;omega⟩
  subst hm
  have hm4:m≤400:=by have:=g0.2.1.2;omega
  have ht:=g0.1.2.2.2.2.2.2
  have ht2:=g0.2.2
  unfold inR at ht
  have hro:=netOk_runOk g0.1
  have e1:∀[Inhabited Unit],IntKind.i64.wrap (x.2.2.2.2.2.2.2+(m:Int))=x.2.2.2.2.2.2.2+m:=by intro _;exact w64 (by omega) (by omega)
  have e2:¬1000000<x.2.2.2.2.2.2.2+(m:Int):=by omega
  simp [ones,VM.look,nk,g0.1,l01In_c,g0.2.1,e1,e2]
  refine wp_thn (ecopy _) ?_
  rintro _ K ⟨n,rfl,on,cn,mn,dn⟩
  simp at mn
  have qn:=dNet_one on
  have rr:=l20Run_d (frz:=H.length) on dn hm4 hro (netOk_buf g0.1) h9 ht.1 ht2
  simp only [dNet_val] at rr
  have lK:=cn.1
  simp at lK
  simp [dNet_val,qn]
  refine wp_thn rr ?_
  rintro _ J ⟨w,rfl,ow,dw,mw,cw⟩
  have onew:=dNet_one ow
  have cJ:Chg H J []:=((Chg.app _).trans cn).trans cw
  have bR:J[H.length+1]? = some ⟨[.int .i64 0,.int .i64 0,.slice none 0 0,.slice none 0 0,.slice none 0 0,.slice none 0 0,.slice none 0 0,.slice none 0 0,.slice none 0 0,.slice none 0 0,.int .i64 0],0,46⟩:=box_chg (box_chg (by simp) cn (by simp)) cw (by simp)
  have gR:=set_get (r':=⟨netCells w (runN x m),0,46⟩) bR
  have hM:=fin J w (runN x m) true cJ ow dw (fun i hi=>by
   rcases mw i hi with h|h
   ·have:=mn i h;omega
   ·omega) (by unfold runNet;rw [if_pos g0,Int.toNat_natCast]) (decide_eq_true g0)
  unfold netCells at gR
  simp [dNet_val,VM.look,bR,gR,onew,hF1]
  simpa [g0,dNet_val,netCells] using hM
 ·by_cases h1:netOk x
  ·by_cases h2:inR 0 k 400
   ·have ht:=h1.2.2.2.2.2.2
    unfold inR at ht
    have e1:∀[Inhabited Unit],IntKind.i64.wrap (x.2.2.2.2.2.2.2+k)=x.2.2.2.2.2.2.2+k:=by intro _;unfold inR at h2;exact w64 (by omega) (by omega)
    have e2:1000000<x.2.2.2.2.2.2.2+k:=by
     refine Classical.byContradiction fun hh=>g0 ⟨h1,h2,by omega⟩
    simp [ones,VM.look,nk,h1,l01In_c,h2,e1,e2]
    refine wp_thn (ecopy _) ?_
    rintro _ K ⟨n,rfl,on,cn,mn,dn⟩
    simp at mn
    have qn:=dNet_one on
    have bR:K[H.length+1]? = some ⟨[.int .i64 0,.int .i64 0,.slice none 0 0,.slice none 0 0,.slice none 0 0,.slice none 0 0,.slice none 0 0,.slice none 0 0,.slice none 0 0,.slice none 0 0,.int .i64 0],0,46⟩:=box_chg (by simp) cn (by simp)
    have gR:=set_get (r':=⟨netCells n x,0,46⟩) bR
    have hM:=fin K n x false ((Chg.app _).trans cn) on dn (fun i hi=>by have:=mn i hi;omega) (if_neg g0) (decide_eq_false g0)
    unfold netCells at gR
    simp [dNet_val,VM.look,bR,gR,qn,hF1]
    simpa [g0,dNet_val,netCells] using hM
   ·simp [ones,VM.look,nk,h1,l01In_c,h2]
    refine wp_thn (ecopy _) ?_
    rintro _ K ⟨n,rfl,on,cn,mn,dn⟩
    simp at mn
    have qn:=dNet_one on
    have bR:K[H.length+1]? = some ⟨[.int .i64 0,.int .i64 0,.slice none 0 0,.slice none 0 0,.slice none 0 0,.slice none 0 0,.slice none 0 0,.slice none 0 0,.slice none 0 0,.slice none 0 0,.int .i64 0],0,46⟩:=box_chg (by simp) cn (by simp)
    have gR:=set_get (r':=⟨netCells n x,0,46⟩) bR
    have hM:=fin K n x false ((Chg.app _).trans cn) on dn (fun i hi=>by have:=mn i hi;omega) (if_neg g0) (decide_eq_false g0)
    unfold netCells at gR
    simp [dNet_val,VM.look,bR,gR,qn,hF1]
    simpa [g0,dNet_val,netCells] using hM
  ·simp [ones,VM.look,nk,h1]
   refine wp_thn (ecopy _) ?_
   rintro _ K ⟨n,rfl,on,cn,mn,dn⟩
   simp at mn
   have qn:=dNet_one on
   have bR:K[H.length+1]? = some ⟨[.int .i64 0,.int .i64 0,.slice none 0 0,.slice none 0 0,.slice none 0 0,.slice none 0 0,.slice none 0 0,.slice none 0 0,.slice none 0 0,.slice none 0 0,.int .i64 0],0,46⟩:=box_chg (by simp) cn (by simp)
   have gR:=set_get (r':=⟨netCells n x,0,46⟩) bR
   have hM:=fin K n x false ((Chg.app _).trans cn) on dn (fun i hi=>by have:=mn i hi;omega) (if_neg g0) (decide_eq_false g0)
   unfold netCells at gR
   simp [dNet_val,VM.look,bR,gR,qn,hF1]
   simpa [g0,dNet_val,netCells] using hM
def pkF:Fl PkD:=⟨5,fun a=>[.int .i64 a.1,.int .i64 a.2.1,.int .i64 a.2.2.1,.int .i64 a.2.2.2.1,.int .i64 a.2.2.2.2],fun _=>rfl⟩
@[simp] theorem pkF_n:pkF.n=5:=rfl
theorem pkF_f (a:PkD):pkF.f a=[.int .i64 a.1,.int .i64 a.2.1,.int .i64 a.2.2.1,.int .i64 a.2.2.2.1,.int .i64 a.2.2.2.2]:=rfl
abbrev knP:=Kn.pair (Kn.int .i64) (Kn.pair (Kn.int .i64) (Kn.pair (Kn.int .i64) (Kn.pair (Kn.int .i64) (Kn.int .i64))))
theorem knP_is {H:Heap} {x:PkD} {vs:List Value} (h:knP.Is H x vs):vs=pkF.f x:=by
 obtain ⟨v1,v2,rfl,h1,w1,w2,rfl,h2,y1,y2,rfl,h3,z1,z2,rfl,h4,h5⟩:=h
 simp only [Kn.int,Kn.bool] at h1 h2 h3 h4 h5
 rw [h1,h2,h3,h4,h5];rfl
theorem ones_pkF (xs:List PkD):ones (cellsOf pkF xs)=true:=by
 induction xs with
 | nil=>rfl
 | cons a l ih=>rw [cellsOf_cons];simp [ih,pkF_f]
theorem toPacket_p (x:PkD):vcall C frz 83 [.agg (pkF.f x).toArray] H=some (.agg (pkF.f x).toArray,H):=toPacket_c _ _ _ _ _
theorem toPacketS_w (v:Value) (xs:List PkD) (hI:Rd pkF H v xs) (hb:xs.length≤1073741824) :
 wp (vcall C frz 30 [v] H) (fun r H'=>Ow pkF 76 H' r xs∧(∀i∈ids r,H.length≤i)∧Chg H H' []):=by
 rw [vcall_go (fn:=Tryz.f30) Tryz.func30 rfl (by kernel_rfl) rfl]
 simp [hI.len]
 refine wp_need (by omega) ?_
 refine wp_inv (fun n t H'=>∃i:Nat,n=xs.length-i∧i≤xs.length∧t 0=v∧t 3=.slice (some ⟨H.length,0,some 0⟩) xs.length 0∧t 4=.int .i64 i∧
  Ow pkF 76 H' (.slice (some ⟨H.length,0,some 0⟩) xs.length 0) (xs.take i++List.replicate (xs.length-i) (0,0,0,0,0))∧Chg H H' []) ?_ (n:=xs.length)
  ⟨0,by simp,by omega,by simp,by simp,by simp,Ow.new0 rfl (rep_cells (D:=pkF) (0,0,0,0,0) _) (by rw [rep_cells (D:=pkF) (0,0,0,0,0)];exact ones_pkF _) (by simp),Chg.app _⟩
 rintro n t H' ⟨i,rfl,hi,h0,h3,h4,o,c⟩ ih
 have rd:=hI.chg c (by simp)
 simp [h0,h3,h4,rd.len]
 refine wp_dec ?_ ?_<;>intro h
 ·have h':i<xs.length:=by omega
  have q1:=rd.idx (P:=Tryz.prog) (ty:=34) (e:=116) (by simp) (i:=(i:Int)) (by omega) (by omega)
  have q2:=rd.load (P:=Tryz.prog) (e:=116) (by simp) h'
  have hl:(xs.take i++List.replicate (xs.length-i) ((0,0,0,0,0):PkD)).length=xs.length:=by simp;omega
  have q3:=o.rd.idx (P:=Tryz.prog) (ty:=47) (e:=76) (by simp) (i:=(i:Int)) (by omega) (by omega)
  obtain ⟨H2,s1,o1,c1,l1⟩:=o.store (P:=Tryz.prog) (frz:=H.length) (et:=76) (ag:=true) (x:=.agg (pkF.f xs[i]).toArray) (by simp) (j:=i) (y:=xs[i]) (by omega) (by simp [Value.cells]) (by simp [pkF_f]) (by simp)
  simp only [Int.toNat_natCast,pkF_n] at q1 q2 q3 s1
  simp [h0,h3,h4,q1,q2,toPacket_p,q3,s1]
  refine ih (xs.length-(i+1)) _ _ ⟨i+1,rfl,by omega,by simp [h0],by simp [h3],?_,?_,c.trans' c1 (by simp)⟩ (by omega)
  ·simp;rw [w64 (by omega) (by omega)]
  ·rw [fill_set _ _ h'] at o1;exact o1
 ·have:i=xs.length:=by omega
  subst this
  simp [h0,h3,h4]
  exact ⟨by simpa using o,c⟩
theorem szPacketS_c (v:Value) (xs:List PkD) (n:Int) (hI:Rd pkF H v xs) (h0:0≤n) (h1:n≤1048576) (h2:xs.length≤9223372036854775807) :
 vcall C frz 26 [v,.int .i64 n] H=some (.int .i64 (if n<xs.length then -1 else n-xs.length),H):=by
 rw [vcall_go (fn:=Tryz.f26) Tryz.func26 rfl (by kernel_rfl) rfl]
 simp [hI.len]
 rw [w64 (by omega) (by omega)]
 refine br_dec _ ?_ ?_<;>intro h<;>simp [h]
 ·intro hh;omega
 ·intro hh;omega
theorem eqPacket_c (x y:PkD):vcall C frz 88 [.agg (pkF.f x).toArray,.agg (pkF.f y).toArray] H=some (.bool (decide (x=y)),H):=by
 obtain ⟨p,t,c,h,l⟩:=x
 obtain ⟨p',t',c',h',l'⟩:=y
 rw [vcall_go (fn:=Tryz.f88) Tryz.func88 rfl (by kernel_rfl) rfl]
 simp [pkF_f]
 by_cases e1:p=p'
 ·by_cases e2:t=t'
  ·by_cases e3:c=c'
   ·by_cases e4:h=h'
    ·by_cases e5:l=l'<;>simp [e1,e2,e3,e4,e5]
    ·simp [e1,e2,e3,e4]
   ·simp [e1,e2,e3]
  ·simp [e1,e2]
 ·simp [e1]
theorem eqPacketS_c (a b:Value) (xs ys:List PkD) (ha:Rd pkF H a xs) (hb:Rd pkF H b ys) (hl:xs.length≤1073741824) :
 vcall C frz 34 [a,b] H=some (.bool (decide (xs=ys)),H):=by
 refine wp.exact (by simp) ?_ rfl
 rw [vcall_go (fn:=Tryz.f34) Tryz.func34 rfl (by kernel_rfl) rfl]
 simp [ha.len,hb.len]
 refine wp_dec ?_ ?_<;>intro h0<;>simp [h0]
 ·refine wp_inv (fun n t H'=>∃i:Nat,n=xs.length-i∧i≤xs.length∧t 0=a∧t 1=b∧t 5=.int .i64 i∧H'=H∧xs.take i=ys.take i) ?_ (n:=xs.length) ⟨0,rfl,by omega,by simp,by simp,by simp,rfl,by simp⟩
  rintro n t H' ⟨i,rfl,hi,h1,h2,h3,rfl,h4⟩ ih
  simp [h1,h2,h3,ha.len]
  refine wp_dec ?_ ?_<;>intro h
  ·have hx:i<xs.length:=by omega
   have hy:i<ys.length:=by omega
   have q1:=ha.idx (P:=Tryz.prog) (ty:=47) (e:=76) (by simp) (i:=(i:Int)) (by omega) (by omega)
   have q2:=ha.load (P:=Tryz.prog) (e:=76) (by simp) hx
   have q3:=hb.idx (P:=Tryz.prog) (ty:=47) (e:=76) (by simp) (i:=(i:Int)) (by omega) (by omega)
   have q4:=hb.load (P:=Tryz.prog) (e:=76) (by simp) hy
   simp only [Int.toNat_natCast,pkF_n] at q1 q2 q3 q4
   simp [h1,h2,h3]
   rw [go_draw (h:=by kernel_rfl)]
   simp [h1,h2,h3,q1,q2,q3,q4,eqPacket_c]
   refine wp_dec ?_ ?_<;>intro h5
   ·simp [h1,h2,h3]
    refine ih (xs.length-(i+1)) _ _ ⟨i+1,rfl,by omega,by simp [h1],by simp [h2],?_,rfl,?_⟩ (by omega)
    ·simp;rw [w64 (by omega) (by omega)]
    ·rw [List.take_succ_eq_append_getElem hx,List.take_succ_eq_append_getElem hy,h4];simp [h5]
   ·simp [h1,h2,h3]
    intro hh;subst hh;simp at h5
  ·have:i=xs.length:=by omega
   subst this
   simp [h1,h2,h3]
   rw [List.take_length,List.take_of_length_le (by omega)] at h4
   exact h4
 ·intro hh;exact h0 (by rw [hh])
abbrev dPk:Dt Value (List PkD):=dFlat pkF 76 1073741824
abbrev ChipD:=NetD×List PkD
abbrev ChipV:=NetV×Value
def dChip:Dt ChipV ChipD:={ dAnd dNet dPk with val:=fun v a=>.agg #[.int .i64 a.1.1.1,.int .i64 a.1.1.2.1,v.1.1,v.1.2.1.1,v.1.2.1.2,v.1.2.2.1.1,v.1.2.2.2.1,v.1.2.2.2.2.1,v.1.2.2.2.2.2.1.1,v.1.2.2.2.2.2.2.1.1,.int .i64 a.1.2.2.2.2.2.2.2,v.2] }
theorem dChip_val (v:ChipV) (a:ChipD):dChip.val v a=.agg #[.int .i64 a.1.1.1,.int .i64 a.1.1.2.1,v.1.1,v.1.2.1.1,v.1.2.1.2,v.1.2.2.1.1,v.1.2.2.2.1,v.1.2.2.2.2.1,v.1.2.2.2.2.2.1.1,v.1.2.2.2.2.2.2.1.1,.int .i64 a.1.2.2.2.2.2.2.2,v.2]:=rfl
theorem dChip_one {v:ChipV} {a:ChipD} (h:dChip.Ow H v a):((VM.one v.1.1=true∧v.1.1.cells=#[v.1.1])∧(VM.one v.1.2.1.1=true∧v.1.2.1.1.cells=#[v.1.2.1.1])∧(VM.one v.1.2.1.2=true∧v.1.2.1.2.cells=#[v.1.2.1.2])∧(VM.one v.1.2.2.1.1=true∧v.1.2.2.1.1.cells=#[v.1.2.2.1.1])∧
 (VM.one v.1.2.2.2.1=true∧v.1.2.2.2.1.cells=#[v.1.2.2.2.1])∧(VM.one v.1.2.2.2.2.1=true∧v.1.2.2.2.2.1.cells=#[v.1.2.2.2.2.1])∧(VM.one v.1.2.2.2.2.2.1.1=true∧v.1.2.2.2.2.2.1.1.cells=#[v.1.2.2.2.2.2.1.1])∧(VM.one v.1.2.2.2.2.2.2.1.1=true∧v.1.2.2.2.2.2.2.1.1.cells=#[v.1.2.2.2.2.2.2.1.1]))∧VM.one v.2=true∧v.2.cells=#[v.2]:=
 ⟨dNet_one h.1,h.2.1.rd.one',h.2.1.rd.cells⟩
theorem eqChip_d {a b:ChipV} {x y:ChipD} (ha:dChip.Ow H a x) (hb:dChip.Ow H b y):vcall C frz 11 [dChip.val a x,dChip.val b y] H=some (.bool (decide (x=y)),H):=by
 have oa:=dChip_one ha
 have ob:=dChip_one hb
 have e1:=fun F L=>eqNet_d (frz:=F) (H:=H++L) (Dt.app (T:=dNet) ha.1) (Dt.app (T:=dNet) hb.1)
 have e2:=fun F L=>eqPacketS_c (frz:=F) (H:=H++L) a.2 b.2 x.2 y.2 ha.2.1.rd.app hb.2.1.rd.app ha.2.2
 simp only [dNet_val] at e1
 rw [dChip_val,dChip_val]
 have hY:decide (x=y)=(decide (x.1=y.1)&&decide (x.2=y.2)):=by
  obtain ⟨x1,x2⟩:=x;obtain ⟨y1,y2⟩:=y
  rw [Bool.eq_iff_iff];simp only [decide_eq_true_eq,Bool.and_eq_true,Prod.mk.injEq]
 refine wp.exact (by simp) ?_ rfl
 rw [vcall_go (fn:=Tryz.f11) Tryz.func11 rfl (by kernel_rfl) rfl]
 generalize decide (x=y)=Y at *
 generalize decide (x.1=y.1)=P1 at *
 generalize decide (x.2=y.2)=P2 at *
 simp [oa,ob,e1]
 cases P1
 ·simp [hY]
 simp [oa,ob,e2]
 cases P2<;>simp [hY]
theorem szChip_c (w h tm n:Int) (u2 u3 u4 u5 u6 u7 u8 u9 u10:Value) (h5 h8 h9:List Value) (b A B own turn:List Int) (buf src arr:SSD) (sent:List PkD)
 (r2:Rd Fl.int H u2 b) (r3:Rd Fl.int H u3 A) (r4:Rd Fl.int H u4 B) (r5:RdL flF H u5 h5 buf) (r6:Rd Fl.int H u6 own) (r7:Rd Fl.int H u7 turn) (r8:RdL flF H u8 h8 src) (r9:RdL flF H u9 h9 arr) (r10:Rd pkF H u10 sent)
 (l2:b.length≤9223372036854775807) (l3:A.length≤9223372036854775807) (l4:B.length≤9223372036854775807) (l5:buf.length≤9223372036854775807) (l5':∀x∈buf,x.length≤9223372036854775807) (l6:own.length≤9223372036854775807) (l7:turn.length≤9223372036854775807)
 (l8:src.length≤9223372036854775807) (l8':∀x∈src,x.length≤9223372036854775807) (l9:arr.length≤9223372036854775807) (l9':∀x∈arr,x.length≤9223372036854775807) (l10:sent.length≤9223372036854775807) (h0:0≤n) (h1:n≤1048576) :
 vcall C frz 7 [.agg #[.int .i64 w,.int .i64 h,u2,u3,u4,u5,u6,u7,u8,u9,.int .i64 tm,u10],.int .i64 n] H=some (.int .i64 (if n<(b.length:Int)+((A.length:Int)+(B.length:Int))+(tot buf:Int)+(own.length:Int)+(turn.length:Int)+(tot src:Int)+(tot arr:Int)+(sent.length:Int) then -1 else n-((b.length:Int)+((A.length:Int)+(B.length:Int))+(tot buf:Int)+(own.length:Int)+(turn.length:Int)+(tot src:Int)+(tot arr:Int)+(sent.length:Int))),H):=by
 refine wp.exact (by simp) ?_ rfl
 rw [vcall_go (fn:=Tryz.f7) Tryz.func7 rfl (by kernel_rfl) rfl]
 have one2:=And.intro r2.one' r2.cells
 have one3:=And.intro r3.one' r3.cells
 have one4:=And.intro r4.one' r4.cells
 have one5:=And.intro r5.1.one' r5.1.cells
 have one6:=And.intro r6.one' r6.cells
 have one7:=And.intro r7.one' r7.cells
 have one8:=And.intro r8.1.one' r8.1.cells
 have one9:=And.intro r9.1.one' r9.1.cells
 have one10:=And.intro r10.one' r10.cells
 have s1:=fun F L=>szNet_c (frz:=F) (H:=H++L) w h tm n u2 u3 u4 u5 u6 u7 u8 u9 h5 h8 h9 b A B own turn buf src arr r2.app r3.app r4.app r5.app r6.app r7.app r8.app r9.app l2 l3 l4 l5 l5' l6 l7 l8 l8' l9 l9' h0 h1
 obtain ⟨S,hS⟩:∃S:Int,S=(b.length:Int)+((A.length:Int)+(B.length:Int))+(tot buf:Int)+(own.length:Int)+(turn.length:Int)+(tot src:Int)+(tot arr:Int):=⟨_,rfl⟩
 have hS0:0≤S:=by omega
 rw [← hS]
 simp only [← hS] at s1
 clear hS
 simp [one2,one3,one4,one5,one6,one7,one8,one9,one10,s1]
 by_cases g:n<S
 ·simp only [if_pos g];simp;intro hh;omega
 simp only [if_neg g]
 have f:¬n-S<0:=by omega
 have s2:=fun F L=>szPacketS_c (frz:=F) (H:=H++L) u10 sent (n-S) r10.app (by omega) (by omega) l10
 simp [f,one2,one3,one4,one5,one6,one7,one8,one9,one10,s2]
 by_cases g2:n-S<(sent.length:Int)
 ·simp only [if_pos g2];simp;intro hh;omega
 simp only [if_neg g2]
 have f2:¬n-S-(sent.length:Int)<0:=by omega
 simp [f2]
 rw [if_neg (by omega)];omega
theorem toChip_w (w h tm:Int) (u2 u3 u4 u5 u6 u7 u8 u9 u10:Value) (h5 h8 h9:List Value) (b A B own turn:List Int) (buf src arr:SSD) (sent:List PkD)
 (r2:Rd Fl.int H u2 b) (r3:Rd Fl.int H u3 A) (r4:Rd Fl.int H u4 B) (r5:RdL flF H u5 h5 buf) (r6:Rd Fl.int H u6 own) (r7:Rd Fl.int H u7 turn) (r8:RdL flF H u8 h8 src) (r9:RdL flF H u9 h9 arr) (r10:Rd pkF H u10 sent)
 (l2:b.length≤1073741824) (l3:A.length≤1073741824) (l4:B.length≤1073741824) (l5:buf.length≤2097152) (l5':∀x∈buf,x.length≤67108864) (l6:own.length≤1073741824) (l7:turn.length≤1073741824)
 (l8:src.length≤2097152) (l8':∀x∈src,x.length≤67108864) (l9:arr.length≤2097152) (l9':∀x∈arr,x.length≤67108864) (l10:sent.length≤1073741824) :
 wp (vcall C frz 9 [.agg #[.int .i64 w,.int .i64 h,u2,u3,u4,u5,u6,u7,u8,u9,.int .i64 tm,u10]] H) (dChip.Made H (((w,h,b),(A,B),buf,own,turn,src,arr,tm),sent)):=by
 rw [vcall_go (fn:=Tryz.f9) Tryz.func9 rfl (by kernel_rfl) rfl]
 have one2:=And.intro r2.one' r2.cells
 have one3:=And.intro r3.one' r3.cells
 have one4:=And.intro r4.one' r4.cells
 have one5:=And.intro r5.1.one' r5.1.cells
 have one6:=And.intro r6.one' r6.cells
 have one7:=And.intro r7.one' r7.cells
 have one8:=And.intro r8.1.one' r8.1.cells
 have one9:=And.intro r9.1.one' r9.1.cells
 have one10:=And.intro r10.one' r10.cells
 have hF:H.length≤H.length+2:=by omega
 have hF1:H.length≤H.length+1:=by omega
 simp [one2,one3,one4,one5,one6,one7,one8,one9,one10]
 obtain ⟨G0,hG0⟩:∃G,G=H++[⟨[.int .i64 w,.int .i64 h,u2,u3,u4,u5,u6,u7,u8,u9,.int .i64 tm,u10],0,36⟩,⟨[.int .i64 0,.int .i64 0,.slice none 0 0,.slice none 0 0,.slice none 0 0,.slice none 0 0,.slice none 0 0,.slice none 0 0,.slice none 0 0,.slice none 0 0,.int .i64 0,.slice none 0 0],0,49⟩,⟨[.int .i64 0,.int .i64 0,.slice none 0 0,.slice none 0 0,.slice none 0 0,.slice none 0 0,.slice none 0 0,.slice none 0 0,.slice none 0 0,.slice none 0 0,.int .i64 0,.slice none 0 0],0,49⟩]:=⟨_,rfl⟩
 have b0:G0[H.length]? = some ⟨[.int .i64 w,.int .i64 h,u2,u3,u4,u5,u6,u7,u8,u9,.int .i64 tm,u10],0,36⟩:=by rw [hG0];simp
 have bR:G0[H.length+1]? = some ⟨[.int .i64 0,.int .i64 0,.slice none 0 0,.slice none 0 0,.slice none 0 0,.slice none 0 0,.slice none 0 0,.slice none 0 0,.slice none 0 0,.slice none 0 0,.int .i64 0,.slice none 0 0],0,49⟩:=by rw [hG0];simp
 have b1:G0[H.length+2]? = some ⟨[.int .i64 0,.int .i64 0,.slice none 0 0,.slice none 0 0,.slice none 0 0,.slice none 0 0,.slice none 0 0,.slice none 0 0,.slice none 0 0,.slice none 0 0,.int .i64 0,.slice none 0 0],0,49⟩:=by rw [hG0];simp
 have cH:Chg H G0 []:=by rw [hG0];exact Chg.app []
 have lH:H.length+3≤G0.length:=by rw [hG0];simp
 rw [← hG0]
 clear hG0
 refine wp_thn (toNet_w w h tm u2 u3 u4 u5 u6 u7 u8 u9 h5 h8 h9 b A B own turn buf src arr (r2.chg cH (by simp)) (r3.chg cH (by simp)) (r4.chg cH (by simp)) (r5.chg cH (by simp)) (r6.chg cH (by simp)) (r7.chg cH (by simp)) (r8.chg cH (by simp)) (r9.chg cH (by simp)) l2 l3 l4 l5 l5' l6 l7 l8 l8' l9 l9') ?_
 rintro _ K1 ⟨n,rfl,o1,c1,m1,d1⟩
 have q1:=dNet_one o1
 have lt1:=dNet.lt o1
 have b0:=box_chg b0 c1 (by simp)
 have b1:=box_chg b1 c1 (by simp)
 have bR:=box_chg bR c1 (by simp)
 have cH:=cH.trans c1
 have lc1:=c1.1
 have e1:Chg K1 (K1.set (H.length+2) ⟨[.int .i64 w,.int .i64 h,n.1,n.2.1.1,n.2.1.2,n.2.2.1.1,n.2.2.2.1,n.2.2.2.2.1,n.2.2.2.2.2.1.1,n.2.2.2.2.2.2.1.1,.int .i64 tm,.slice none 0 0],0,49⟩) [H.length+2]:=chg_set _ _
 have g1:=set_get (r':=⟨[.int .i64 w,.int .i64 h,n.1,n.2.1.1,n.2.1.2,n.2.2.1.1,n.2.2.2.1,n.2.2.2.2.1,n.2.2.2.2.2.1.1,n.2.2.2.2.2.2.1.1,.int .i64 tm,.slice none 0 0],0,49⟩) b1
 have b0':=box_chg b0 e1 (by simp)
 have bR:=box_chg bR e1 (by simp)
 have o1:=Dt.chg (T:=dNet) o1 e1 (fun i hi hh=>by have:=m1 i hi;simp at hh;omega)
 have cH:=cH.trans' e1 (fun i hi=>.inr (by simp at hi;omega))
 have ls1:(K1.set (H.length+2) ⟨[.int .i64 w,.int .i64 h,n.1,n.2.1.1,n.2.1.2,n.2.2.1.1,n.2.2.2.1,n.2.2.2.2.1,n.2.2.2.2.2.1.1,n.2.2.2.2.2.2.1.1,.int .i64 tm,.slice none 0 0],0,49⟩).length=K1.length:=by simp
 simp [dNet_val,VM.look,b0,b1,one2,one3,one4,one5,one6,one7,one8,one9,one10,q1,hF]
 generalize K1.set (H.length+2) ⟨[.int .i64 w,.int .i64 h,n.1,n.2.1.1,n.2.1.2,n.2.2.1.1,n.2.2.2.1,n.2.2.2.2.1,n.2.2.2.2.2.1.1,n.2.2.2.2.2.2.1.1,.int .i64 tm,.slice none 0 0],0,49⟩=G1 at *
 clear b0 b1
 try simp [VM.look,b0',one2,one3,one4,one5,one6,one7,one8,one9,one10]
 refine wp_thn (toPacketS_w u10 sent (r10.chg cH (by simp)) l10) ?_
 rintro p K2 ⟨o2,m2,c2⟩
 have q2:=And.intro o2.rd.one' o2.rd.cells
 have b1:=box_chg g1 c2 (by simp)
 have bR:=box_chg bR c2 (by simp)
 have o1:=Dt.chg0 (T:=dNet) o1 c2
 have cH:=cH.trans c2
 have e2:Chg K2 (K2.set (H.length+2) ⟨[.int .i64 w,.int .i64 h,n.1,n.2.1.1,n.2.1.2,n.2.2.1.1,n.2.2.2.1,n.2.2.2.2.1,n.2.2.2.2.2.1.1,n.2.2.2.2.2.2.1.1,.int .i64 tm,p],0,49⟩) [H.length+2]:=chg_set _ _
 have g2:=set_get (r':=⟨[.int .i64 w,.int .i64 h,n.1,n.2.1.1,n.2.1.2,n.2.2.1.1,n.2.2.2.1,n.2.2.2.2.1,n.2.2.2.2.2.1.1,n.2.2.2.2.2.2.1.1,.int .i64 tm,p],0,49⟩) b1
 have bR:=box_chg bR e2 (by simp)
 have o1:=Dt.chg (T:=dNet) o1 e2 (fun i hi hh=>by have:=m1 i hi;simp at hh;omega)
 have o2:=o2.chg e2 (fun i hi hh=>by have:=m2 i hi;simp at hh;omega)
 have cH:=cH.trans' e2 (fun i hi=>.inr (by simp at hi;omega))
 simp [VM.look,b1,q1,q2,hF]
 generalize K2.set (H.length+2) ⟨[.int .i64 w,.int .i64 h,n.1,n.2.1.1,n.2.1.2,n.2.2.1.1,n.2.2.2.1,n.2.2.2.2.1,n.2.2.2.2.2.1.1,n.2.2.2.2.2.2.1.1,.int .i64 tm,p],0,49⟩=G2 at *
 have gR:=set_get (r':=⟨[.int .i64 w,.int .i64 h,n.1,n.2.1.1,n.2.1.2,n.2.2.1.1,n.2.2.2.1,n.2.2.2.2.1,n.2.2.2.2.2.1.1,n.2.2.2.2.2.2.1.1,.int .i64 tm,p],0,49⟩) bR
 have eR:Chg G2 (G2.set (H.length+1) ⟨[.int .i64 w,.int .i64 h,n.1,n.2.1.1,n.2.1.2,n.2.2.1.1,n.2.2.2.1,n.2.2.2.2.1,n.2.2.2.2.2.1.1,n.2.2.2.2.2.2.1.1,.int .i64 tm,p],0,49⟩) [H.length+1]:=chg_set _ _
 have o1:=Dt.chg (T:=dNet) o1 eR (fun i hi hh=>by have:=m1 i hi;simp at hh;omega)
 have o2:=o2.chg eR (fun i hi hh=>by have:=m2 i hi;simp at hh;omega)
 have cH:=cH.trans' eR (fun i hi=>.inr (by simp at hi;omega))
 try simp [VM.look,g2,bR,gR,hF1,q1,q2]
 refine ⟨(n,p),rfl,⟨o1,o2,l10⟩,cH,fun i hi=>?_,?_⟩
 ·rcases List.mem_append.1 hi with hi|hi
  ·have:=m1 i hi;omega
  ·have:=m2 i hi;omega
 ·exact nd_app d1 (ids_nodup p) lt1 (fun i hi=>by have:=m2 i hi;omega)
theorem copyChip_d {v:ChipV} {a:ChipD} (o:dChip.Ow H v a):wp (vcall C frz 31 [dChip.val v a] H) (dChip.Made H a):=by
 have oneA:=dChip_one o
 have ones:=oneA.1
 have one2:=oneA.2
 have ecopy:=fun K (c:Chg H K [])=>copyNet_d (frz:=H.length) (H:=K) (v:=v.1) (x:=a.1) (Dt.chg (T:=dNet) o.1 c (by simp))
 simp only [dNet_val] at ecopy
 rw [dChip_val]
 rw [vcall_go (fn:=Tryz.f31) Tryz.func31 rfl (by kernel_rfl) rfl]
 simp [ones,one2]
 rw [go_draw (h:=by kernel_rfl)]
 simp [VM.look,ones,one2]
 refine wp_thn (ecopy _ (Chg.app _)) ?_
 rintro _ K ⟨n,rfl,on,cn,mn,dn⟩
 have b0:K[H.length]? = some ⟨[.int .i64 a.1.1.1,.int .i64 a.1.1.2.1,v.1.1,v.1.2.1.1,v.1.2.1.2,v.1.2.2.1.1,v.1.2.2.2.1,v.1.2.2.2.2.1,v.1.2.2.2.2.2.1.1,v.1.2.2.2.2.2.2.1.1,.int .i64 a.1.2.2.2.2.2.2.2,v.2],0,49⟩:=box_chg (by simp) cn (by simp)
 have bR:K[H.length+1]? = some ⟨[.int .i64 0,.int .i64 0,.slice none 0 0,.slice none 0 0,.slice none 0 0,.slice none 0 0,.slice none 0 0,.slice none 0 0,.slice none 0 0,.slice none 0 0,.int .i64 0,.slice none 0 0],0,49⟩:=box_chg (by simp) cn (by simp)
 have cH:Chg H K []:=(Chg.app _).trans cn
 simp at mn
 have qn:=dNet_one on
 have rs:=o.2.1.rd.chg cH (by simp)
 have o0:Ow pkF 76 (K++[⟨[],0,76⟩]) (.slice (some ⟨K.length,0,some 0⟩) 0 0) []:=Ow.new0 (D:=pkF) (xs:=[]) rfl rfl rfl rfl
 have lK:=box_lt b0
 have lR:=box_lt bR
 obtain ⟨r,K2,hap,or,c2,mr⟩:=o0.append (P:=Tryz.prog) (frz:=H.length) (ty:=47) (rs.app (L:=[⟨[],0,76⟩])) (by simp) (ones_pkF a.2) (by have:=o.2.2;simp;omega) (fun i hi=>by simp [ids] at hi;omega)
 have mr':∀i∈ids r,K.length≤i:=fun i hi=>by
  rcases mr i hi with g|g
  ·simp [ids] at g;omega
  ·simp at g;omega
 have cL:Chg K K2 []:=(Chg.app []).trans' c2 (fun i hi=>.inr (by simp [ids] at hi;omega))
 have bA:=fun L=>get_app' b0 L
 have bR:=box_chg bR cL (by simp)
 have qr:=And.intro or.rd.one' or.rd.cells
 have gR:=set_get (r':=⟨[.int .i64 a.1.1.1,.int .i64 a.1.1.2.1,n.1,n.2.1.1,n.2.1.2,n.2.2.1.1,n.2.2.2.1,n.2.2.2.2.1,n.2.2.2.2.2.1.1,n.2.2.2.2.2.2.1.1,.int .i64 a.1.2.2.2.2.2.2.2,r],0,49⟩) bR
 have hF:H.length≤H.length+1:=by omega
 try simp only [List.length_nil] at hap
 simp [-vappend_nil,-vappend_mk,dNet_val,VM.look,bA,ones,one2,qn,hap,qr,bR,gR,hF]
 have eR:Chg K2 (K2.set (H.length+1) ⟨[.int .i64 a.1.1.1,.int .i64 a.1.1.2.1,n.1,n.2.1.1,n.2.1.2,n.2.2.1.1,n.2.2.2.1,n.2.2.2.2.1,n.2.2.2.2.2.1.1,n.2.2.2.2.2.2.1.1,.int .i64 a.1.2.2.2.2.2.2.2,r],0,49⟩) [H.length+1]:=chg_set _ _
 have lt:=dNet.lt on
 have or':dPk.Ow K2 r a.2:=⟨by simpa using or,o.2.2⟩
 refine ⟨(n,r),rfl,⟨Dt.chg (T:=dNet) (Dt.chg (T:=dNet) on cL (by simp)) eR (fun i hi hh=>by have:=mn i hi;simp at hh;omega),Dt.chg (T:=dPk) or' eR (fun i hi hh=>by have:=mr' i hi;simp at hh;omega)⟩,(cH.trans cL).trans' eR (fun i hi=>.inr (by simp at hi;omega)),fun i hi=>?_,?_⟩
 ·rcases List.mem_append.1 hi with hi|hi
  ·have:=mn i hi;omega
  ·have:=mr' i hi;omega
 ·exact nd_app dn (ids_nodup r) lt mr'
theorem l37Copy_d {v:ChipV} {a:ChipD} (o:dChip.Ow H v a):wp (vcall C frz 27 [dChip.val v a] H) (dChip.Made H a):=by
 have oneA:=dChip_one o
 have ones:=oneA.1
 have one2:=oneA.2
 have ecopy:=fun K (c:Chg H K [])=>l15Copy_d (frz:=H.length) (H:=K) (v:=v.1) (x:=a.1) (Dt.chg (T:=dNet) o.1 c (by simp))
 simp only [dNet_val] at ecopy
 rw [dChip_val]
 rw [vcall_go (fn:=Tryz.f27) Tryz.func27 rfl (by kernel_rfl) rfl]
 simp [ones,one2]
 rw [go_draw (h:=by kernel_rfl)]
 simp [VM.look,ones,one2]
 refine wp_thn (ecopy _ (Chg.app _)) ?_
 rintro _ K ⟨n,rfl,on,cn,mn,dn⟩
 have b0:K[H.length]? = some ⟨[.int .i64 a.1.1.1,.int .i64 a.1.1.2.1,v.1.1,v.1.2.1.1,v.1.2.1.2,v.1.2.2.1.1,v.1.2.2.2.1,v.1.2.2.2.2.1,v.1.2.2.2.2.2.1.1,v.1.2.2.2.2.2.2.1.1,.int .i64 a.1.2.2.2.2.2.2.2,v.2],0,49⟩:=box_chg (by simp) cn (by simp)
 have bR:K[H.length+1]? = some ⟨[.int .i64 0,.int .i64 0,.slice none 0 0,.slice none 0 0,.slice none 0 0,.slice none 0 0,.slice none 0 0,.slice none 0 0,.slice none 0 0,.slice none 0 0,.int .i64 0,.slice none 0 0],0,49⟩:=box_chg (by simp) cn (by simp)
 have cH:Chg H K []:=(Chg.app _).trans cn
 simp at mn
 have qn:=dNet_one on
 have rs:=o.2.1.rd.chg cH (by simp)
 have o0:Ow pkF 76 (K++[⟨[],0,76⟩]) (.slice (some ⟨K.length,0,some 0⟩) 0 0) []:=Ow.new0 (D:=pkF) (xs:=[]) rfl rfl rfl rfl
 have lK:=box_lt b0
 have lR:=box_lt bR
 obtain ⟨r,K2,hap,or,c2,mr⟩:=o0.append (P:=Tryz.prog) (frz:=H.length) (ty:=47) (rs.app (L:=[⟨[],0,76⟩])) (by simp) (ones_pkF a.2) (by have:=o.2.2;simp;omega) (fun i hi=>by simp [ids] at hi;omega)
 have mr':∀i∈ids r,K.length≤i:=fun i hi=>by
  rcases mr i hi with g|g
  ·simp [ids] at g;omega
  ·simp at g;omega
 have cL:Chg K K2 []:=(Chg.app []).trans' c2 (fun i hi=>.inr (by simp [ids] at hi;omega))
 have bA:=fun L=>get_app' b0 L
 have bR:=box_chg bR cL (by simp)
 have qr:=And.intro or.rd.one' or.rd.cells
 have gR:=set_get (r':=⟨[.int .i64 a.1.1.1,.int .i64 a.1.1.2.1,n.1,n.2.1.1,n.2.1.2,n.2.2.1.1,n.2.2.2.1,n.2.2.2.2.1,n.2.2.2.2.2.1.1,n.2.2.2.2.2.2.1.1,.int .i64 a.1.2.2.2.2.2.2.2,r],0,49⟩) bR
 have hF:H.length≤H.length+1:=by omega
 try simp only [List.length_nil] at hap
 simp [-vappend_nil,-vappend_mk,dNet_val,VM.look,bA,ones,one2,qn,hap,qr,bR,gR,hF]
 have eR:Chg K2 (K2.set (H.length+1) ⟨[.int .i64 a.1.1.1,.int .i64 a.1.1.2.1,n.1,n.2.1.1,n.2.1.2,n.2.2.1.1,n.2.2.2.1,n.2.2.2.2.1,n.2.2.2.2.2.1.1,n.2.2.2.2.2.2.1.1,.int .i64 a.1.2.2.2.2.2.2.2,r],0,49⟩) [H.length+1]:=chg_set _ _
 have lt:=dNet.lt on
 have or':dPk.Ow K2 r a.2:=⟨by simpa using or,o.2.2⟩
 refine ⟨(n,r),rfl,⟨Dt.chg (T:=dNet) (Dt.chg (T:=dNet) on cL (by simp)) eR (fun i hi hh=>by have:=mn i hi;simp at hh;omega),Dt.chg (T:=dPk) or' eR (fun i hi hh=>by have:=mr' i hi;simp at hh;omega)⟩,(cH.trans cL).trans' eR (fun i hi=>.inr (by simp at hi;omega)),fun i hi=>?_,?_⟩
 ·rcases List.mem_append.1 hi with hi|hi
  ·have:=mn i hi;omega
  ·have:=mr' i hi;omega
 ·exact nd_app dn (ids_nodup r) lt mr'
def sendP (x:NetD) (p:PkD):NetD:=if netOk x∧sendOk x p then sendNet x p else x
theorem sSendPacket_d {v:NetV} {x:NetD} {p:PkD} (o:dNet.Ow H v x) :
 wp (vcall C frz 29 [dNet.val v x,pkV p] H) (Made2 dNet H (sendP x p) (decide (netOk x∧sendOk x p))):=by
 have ones:=dNet_one o
 have nk:=fun F K (c:Chg H K [])=>sNetOk_d (frz:=F) (H:=K) (v:=v) (x:=x) (Dt.chg (T:=dNet) o c (by simp))
 have pk:=fun F K=>sPacketOk_c (frz:=F) (H:=K) x.1.1 x.1.2.1 p
 have ecopy:=fun K (c:Chg H K [])=>l15Copy_d (frz:=H.length) (H:=K) (v:=v) (x:=x) (Dt.chg (T:=dNet) o c (by simp))
 have esend:=fun K (c:Chg H K []) m hm hml hs=>sL16Send_d (frz:=H.length) (H:=K) (v:=v) (x:=x) (p:=p) (m:=m) (Dt.chg (T:=dNet) o c (by simp)) hm hml hs
 obtain ⟨q1,q2,q3,q4,q5⟩:=p
 unfold pkV at pk esend ⊢
 simp only at pk esend
 simp only [dNet_val] at nk ecopy esend ⊢
 rw [vcall_go (fn:=Tryz.f29) Tryz.func29 rfl (by kernel_rfl) rfl]
 obtain ⟨G,hG⟩:∃G,G=H++[⟨[.int .i64 x.1.1,.int .i64 x.1.2.1,v.1,v.2.1.1,v.2.1.2,v.2.2.1.1,v.2.2.2.1,v.2.2.2.2.1,v.2.2.2.2.2.1.1,v.2.2.2.2.2.2.1.1,.int .i64 x.2.2.2.2.2.2.2],0,46⟩,⟨[.int .i64 q1,.int .i64 q2,.int .i64 q3,.int .i64 q4,.int .i64 q5],0,76⟩,⟨[.int .i64 0,.int .i64 0,.slice none 0 0,.slice none 0 0,.slice none 0 0,.slice none 0 0,.slice none 0 0,.slice none 0 0,.slice none 0 0,.slice none 0 0,.int .i64 0],0,46⟩]:=⟨_,rfl⟩
 have cG:Chg H G []:=by rw [hG];exact Chg.app _
 have b0:G[H.length]? = some ⟨[.int .i64 x.1.1,.int .i64 x.1.2.1,v.1,v.2.1.1,v.2.1.2,v.2.2.1.1,v.2.2.2.1,v.2.2.2.2.1,v.2.2.2.2.2.1.1,v.2.2.2.2.2.2.1.1,.int .i64 x.2.2.2.2.2.2.2],0,46⟩:=by rw [hG];simp
 have b1:G[H.length+1]? = some ⟨[.int .i64 q1,.int .i64 q2,.int .i64 q3,.int .i64 q4,.int .i64 q5],0,76⟩:=by rw [hG];simp
 have bR:G[H.length+2]? = some ⟨[.int .i64 0,.int .i64 0,.slice none 0 0,.slice none 0 0,.slice none 0 0,.slice none 0 0,.slice none 0 0,.slice none 0 0,.slice none 0 0,.slice none 0 0,.int .i64 0],0,46⟩:=by rw [hG];simp
 have lG:G.length=H.length+3:=by rw [hG];simp
 simp [ones]
 rw [← hG]
 clear hG
 rw [go_draw (h:=by kernel_rfl)]
 have hF:H.length≤H.length+2:=by omega
 have key:∀(y:NetD) (n:NetV) (K:Heap) (ok:Bool),dNet.Ow K n y→Chg G K []→(∀i∈dNet.ids n,G.length≤i)→(dNet.ids n).Nodup→sendP x (q1,q2,q3,q4,q5)=y→decide (netOk x∧sendOk x (q1,q2,q3,q4,q5))=ok→
  K[H.length+2]? = some ⟨[.int .i64 0,.int .i64 0,.slice none 0 0,.slice none 0 0,.slice none 0 0,.slice none 0 0,.slice none 0 0,.slice none 0 0,.slice none 0 0,.slice none 0 0,.int .i64 0],0,46⟩∧Made2 dNet H (sendP x (q1,q2,q3,q4,q5)) (decide (netOk x∧sendOk x (q1,q2,q3,q4,q5))) (.tuple #[dNet.val n y,.bool ok]) (K.set (H.length+2) ⟨[.int .i64 y.1.1,.int .i64 y.1.2.1,n.1,n.2.1.1,n.2.1.2,n.2.2.1.1,n.2.2.2.1,n.2.2.2.2.1,n.2.2.2.2.2.1.1,n.2.2.2.2.2.2.1.1,.int .i64 y.2.2.2.2.2.2.2],0,46⟩):=by
  intro y n K ok on ck mn dn e1 e2
  have bK:=box_chg bR ck (by simp)
  refine ⟨bK,dNet.val n y,by rw [e2],n,by rw [e1],?_,?_,fun i hi=>by have:=mn i hi;omega,dn⟩
  ·rw [e1];exact Dt.chg (T:=dNet) on (chg_set _ _) (fun i hi hh=>by have:=mn i hi;simp at hh;omega)
  ·exact (cG.trans ck).trans' (chg_set _ _) (fun i hi=>.inr (by simp at hi;omega))
 have fail:¬(netOk x∧sendOk x (q1,q2,q3,q4,q5))→∀r K,dNet.Made G x r K→∃n,r=netVal n x∧dNet.Ow K n x∧K[H.length+2]? = some ⟨[.int .i64 0,.int .i64 0,.slice none 0 0,.slice none 0 0,.slice none 0 0,.slice none 0 0,.slice none 0 0,.slice none 0 0,.slice none 0 0,.slice none 0 0,.int .i64 0],0,46⟩∧Made2 dNet H (sendP x (q1,q2,q3,q4,q5)) (decide (netOk x∧sendOk x (q1,q2,q3,q4,q5))) (.tuple #[dNet.val n x,.bool false]) (K.set (H.length+2) ⟨[.int .i64 x.1.1,.int .i64 x.1.2.1,n.1,n.2.1.1,n.2.1.2,n.2.2.1.1,n.2.2.2.1,n.2.2.2.2.1,n.2.2.2.2.2.1.1,n.2.2.2.2.2.2.1.1,.int .i64 x.2.2.2.2.2.2.2],0,46⟩):=by
  intro hb r K hm
  obtain ⟨n,rfl,on,cn,mn,dn⟩:=hm
  obtain ⟨k1,k2⟩:=key x n K false on cn mn dn (if_neg hb) (decide_eq_false hb)
  exact ⟨n,rfl,on,k1,k2⟩
 have ff:¬(netOk x∧sendOk x (q1,q2,q3,q4,q5))→wp (vcall C H.length 44 [netVal v x] G) (fun r K=>∃n,r=netVal n x∧dNet.Ow K n x∧K[H.length+2]? = some ⟨[.int .i64 0,.int .i64 0,.slice none 0 0,.slice none 0 0,.slice none 0 0,.slice none 0 0,.slice none 0 0,.slice none 0 0,.slice none 0 0,.slice none 0 0,.int .i64 0],0,46⟩∧Made2 dNet H (sendP x (q1,q2,q3,q4,q5)) (decide (netOk x∧sendOk x (q1,q2,q3,q4,q5))) (.tuple #[dNet.val n x,.bool false]) (K.set (H.length+2) ⟨[.int .i64 x.1.1,.int .i64 x.1.2.1,n.1,n.2.1.1,n.2.1.2,n.2.2.1.1,n.2.2.2.1,n.2.2.2.2.1,n.2.2.2.2.2.1.1,n.2.2.2.2.2.2.1.1,.int .i64 x.2.2.2.2.2.2.2],0,46⟩)):=fun hb=>(ecopy G cG).mono (fun r K hm=>fail hb r K hm)
 unfold netVal at ff
 have nk':=fun F=>nk F G cG
 have pk':=fun F=>pk F G
 by_cases g0:netOk x
 rotate_left
 ·have hb:¬(netOk x∧sendOk x (q1,q2,q3,q4,q5)):=fun k=>g0 k.1
  simp [VM.look,b0,b1,ones,nk',g0]
  refine wp_thn (ff hb) ?_
  rintro r K ⟨n,rfl,on,bK,hM⟩
  have qn:=dNet_one on
  have gR:=set_get (r':=⟨[.int .i64 x.1.1,.int .i64 x.1.2.1,n.1,n.2.1.1,n.2.1.2,n.2.2.1.1,n.2.2.2.1,n.2.2.2.2.1,n.2.2.2.2.2.1.1,n.2.2.2.2.2.2.1.1,.int .i64 x.2.2.2.2.2.2.2],0,46⟩) bK
  simp [netVal,dNet_val,VM.look,bK,qn,gR,hF]
  simpa [g0,dNet_val] using hM
 by_cases g1:packetOk x.1.1 x.1.2.1 (q1,q2,q3,q4,q5)
 rotate_left
 ·have hb:¬(netOk x∧sendOk x (q1,q2,q3,q4,q5)):=fun k=>g1 k.2.1
  have hb2:¬sendOk x (q1,q2,q3,q4,q5):=fun k=>g1 k.1
  simp [VM.look,b0,b1,ones,nk',pk',g0,g1]
  refine wp_thn (ff hb) ?_
  rintro r K ⟨n,rfl,on,bK,hM⟩
  have qn:=dNet_one on
  have gR:=set_get (r':=⟨[.int .i64 x.1.1,.int .i64 x.1.2.1,n.1,n.2.1.1,n.2.1.2,n.2.2.1.1,n.2.2.2.1,n.2.2.2.2.1,n.2.2.2.2.2.1.1,n.2.2.2.2.2.2.1.1,.int .i64 x.2.2.2.2.2.2.2],0,46⟩) bK
  simp [netVal,dNet_val,VM.look,bK,qn,gR,hF]
  simpa [g0,hb2,dNet_val] using hM
 have hto:=g1.2.1
 unfold isN at hto
 simp only at hto
 have hN:=g0.2.1.2.2.2.1
 obtain ⟨m,rfl⟩:∃m:Nat,q2=m:=⟨q2.toNat,by omega⟩
 have hml:m<x.2.2.2.2.2.1.length:=by omega
 have hgd:x.2.2.2.2.2.1.getD m []=x.2.2.2.2.2.1[m]:=by simp [List.getD_eq_getElem?_getD,List.getElem?_eq_getElem hml]
 have hsm:=(g0.2.2.2.1 _ (List.getElem_mem hml)).1
 have hln:=g1.2.2.2.2.2
 unfold inR at hln
 simp only at hln
 obtain ⟨o1,o2,o3,o4,o5,o6,o7,_⟩:=Dt.chg (T:=dNet) o cG (by simp)
 obtain ⟨a,a1,a2,a3,a4⟩:=RdL_at o6.1.rd (ty:=44) (e:=113) (by simp) (by simp) hml
 have la:=a4.len (P:=Tryz.prog) (ty:=113) (by simp)
 have e1:=@w6 ((x.2.2.2.2.2.1[m].length:Int)+q5) (by omega)
 simp [VM.look,b0,b1,ones,nk',pk',g0,g1,a2,a3,la,e1]
 refine wp_dec ?_ ?_<;>intro g2
 ·have hb2:¬sendOk x (q1,(m:Int),q3,q4,q5):=fun k=>by have:=k.2;simp only [Int.toNat_natCast,hgd] at this;omega
  have hb:¬(netOk x∧sendOk x (q1,(m:Int),q3,q4,q5)):=fun k=>hb2 k.2
  simp [VM.look,b0,ones]
  refine wp_thn (ff hb) ?_
  rintro r K ⟨n,rfl,on,bK,hM⟩
  have qn:=dNet_one on
  have gR:=set_get (r':=⟨[.int .i64 x.1.1,.int .i64 x.1.2.1,n.1,n.2.1.1,n.2.1.2,n.2.2.1.1,n.2.2.2.1,n.2.2.2.2.1,n.2.2.2.2.2.1.1,n.2.2.2.2.2.2.1.1,.int .i64 x.2.2.2.2.2.2.2],0,46⟩) bK
  simp [netVal,dNet_val,VM.look,bK,qn,gR,hF]
  simpa [g0,hb2,dNet_val] using hM
 have hso:sendOk x (q1,(m:Int),q3,q4,q5):=⟨g1,by simp only [Int.toNat_natCast,hgd];omega⟩
 simp [VM.look,b0,b1,ones]
 refine wp_thn (esend G cG m rfl hml hsm) ?_
 rintro _ K ⟨n,rfl,on,cn,mn,dn⟩
 obtain ⟨bK,hM⟩:=key _ n K true on cn mn dn (if_pos ⟨g0,hso⟩) (decide_eq_true ⟨g0,hso⟩)
 generalize sendNet x (q1,(m:Int),q3,q4,q5)=y at *
 have qn:=dNet_one on
 have gR:=set_get (r':=⟨[.int .i64 y.1.1,.int .i64 y.1.2.1,n.1,n.2.1.1,n.2.1.2,n.2.2.1.1,n.2.2.2.1,n.2.2.2.2.1,n.2.2.2.2.2.1.1,n.2.2.2.2.2.2.1.1,.int .i64 y.2.2.2.2.2.2.2],0,46⟩) bK
 simp [netVal,dNet_val,VM.look,bK,qn,gR,hF]
 simpa [g0,hso,dNet_val] using hM
theorem cseq_flF (x y:FlitD):cseq [0,0,0,1,1] (flF.f x) (flF.f y)=some (decide (x=y)):=by
 obtain ⟨p,t,c,h,l⟩:=x
 obtain ⟨p',t',c',h',l'⟩:=y
 simp only [flF_f,cseq,ceq,if_true]
 congr 1
 rw [Bool.eq_iff_iff];simp [and_assoc]
theorem cseq_pkF (x y:PkD):cseq [0,0,0,0,0] (pkF.f x) (pkF.f y)=some (decide (x=y)):=by
 obtain ⟨p,t,c,h,l⟩:=x
 obtain ⟨p',t',c',h',l'⟩:=y
 simp only [pkF_f,cseq,ceq,if_true]
 congr 1
 rw [Bool.eq_iff_iff];simp [and_assoc]
theorem equalI_c (a b:Value) (xs ys:List Int) (ha:Rd Fl.int H a xs) (hb:Rd Fl.int H b ys) (hl:xs.length≤1073741824) :
 vcall C frz 186 [a,b] H=some (.bool (decide (xs=ys)),H):=by
 refine wp.exact (by simp) ?_ rfl
 rw [vcall_go (fn:=Tryz.f186) Tryz.func186 rfl (by kernel_rfl) rfl]
 generalize hY:decide (xs=ys)=Y
 have la:=ha.len (P:=Tryz.prog) (ty:=24) (by simp)
 have lb:=hb.len (P:=Tryz.prog) (ty:=24) (by simp)
 have no:¬xs=ys→Y=false:=fun hh=>by rw [← hY];exact decide_eq_false hh
 simp [la,lb]
 refine wp_dec ?_ ?_<;>intro h0
 ·have h0':xs.length=ys.length:=by omega
  simp [la]
  refine wp_inv (fun n t H'=>∃i:Nat,n=xs.length-i∧i≤xs.length∧t 0=a∧t 1=b∧t 12=.int .i64 xs.length∧t 13=.int .i64 i∧H'=H∧xs.take i=ys.take i) ?_ (n:=xs.length) ⟨0,rfl,by omega,by simp,by simp,by simp,by simp,rfl,by simp⟩
  rintro n t H' ⟨i,rfl,hi,t0,t1,t12,t13,rfl,h4⟩ ih
  simp [t0,t1,t12,t13,la]
  refine wp_dec ?_ ?_<;>intro h
  ·have hx:i<xs.length:=by omega
   have hy:i<ys.length:=by omega
   have q1:=ha.idx (P:=Tryz.prog) (ty:=24) (e:=3) (by simp) (i:=(i:Int)) (by omega) (by omega)
   have q2:=ha.cell1 (P:=Tryz.prog) (e:=3) rfl (by simp) hx
   have q3:=hb.idx (P:=Tryz.prog) (ty:=24) (e:=3) (by simp) (i:=(i:Int)) (by omega) (by omega)
   have q4:=hb.cell1 (P:=Tryz.prog) (e:=3) rfl (by simp) hy
   simp only [Int.toNat_natCast,Fl.int_n,Nat.mul_one] at q1 q2 q3 q4
   simp at q2 q4
   simp [t0,t1,t12,t13]
   rw [go_draw (h:=by kernel_rfl)]
   simp [t0,t1,t12,t13,q1,q2,q3,q4]
   refine wp_dec ?_ ?_<;>intro h5
   ·simp [t0,t1,t12,t13]
    refine ih (xs.length-(i+1)) _ _ ⟨i+1,rfl,by omega,by simp [t0],by simp [t1],by simp [t12],?_,rfl,?_⟩ (by omega)
    ·simp;rw [w64 (by omega) (by omega)]
    ·rw [List.take_succ_eq_append_getElem hx,List.take_succ_eq_append_getElem hy,h4,h5]
   ·simp [t0,t1,t12,t13]
    exact no (fun hh=>h5 (by subst hh;rfl))
  ·have:i=xs.length:=by omega
   subst this
   rw [List.take_length,List.take_of_length_le (by omega)] at h4
   simp [t0,t1,t12,t13]
   rw [← hY];exact decide_eq_true h4
 ·simp
  exact no (fun hh=>h0 (by rw [hh]))
def flit0:FlitD:=(0,0,0,false,false)
def wholeAt (l:List FlitD) (i:Nat):FlitD:=((l.getD 0 flit0).1,(l.getD 0 flit0).2.1,(l.getD 0 flit0).2.2.1,decide ((i:Int)=0),decide ((i:Int)=(l.length:Int)-1))
def whole (l:List FlitD):Prop:=(∀i,i<l.length→l.getD i flit0=wholeAt l i)∧0<l.length
instance (l:List FlitD):Decidable (whole l):=inferInstanceAs (Decidable (_∧_))
theorem cseq_flit (a b c a' b' c':Int) (d e d' e':Bool):cseq [0,0,0,1,1] [.int .i64 a,.int .i64 b,.int .i64 c,.bool d,.bool e] [.int .i64 a',.int .i64 b',.int .i64 c',.bool d',.bool e']=some (decide (((a,b,c,d,e):FlitD)=(a',b',c',d',e'))):=
 cseq_flF (a,b,c,d,e) (a',b',c',d',e')
theorem isWhole_c (v:Value) (xs:List FlitD) (hI:Rd flF H v xs) (hl:xs.length≤1073741824) :
 vcall C frz 229 [v] H=some (.bool (decide (whole xs)),H):=by
 refine wp.exact (by simp) ?_ rfl
 rw [vcall_go (fn:=Tryz.f229) Tryz.func229 rfl (by kernel_rfl) rfl]
 generalize hY:decide (whole xs)=Y
 have no:¬whole xs→Y=false:=fun hh=>by rw [← hY];exact decide_eq_false hh
 simp [hI.len (P:=Tryz.prog) (ty:=113) (by simp)]
 refine wp_inv (fun n t H'=>∃i:Nat,n=xs.length-i∧i≤xs.length∧t 0=v∧t 5=v∧t 6=.int .i64 xs.length∧t 7=.int .i64 i∧Chg H H' []∧∀j,j<i→xs.getD j flit0=wholeAt xs j) ?_ (n:=xs.length)
  ⟨0,rfl,by omega,by simp,by simp,by simp,by simp,Chg.refl _,by omega⟩
 rintro n t H' ⟨i,rfl,hi,t0,t5,t6,t7,c,hk⟩ ih
 simp [t0,t5,t6,t7]
 refine wp_dec ?_ ?_<;>intro g
 ·have hi':i<xs.length:=by omega
  have h0:0<xs.length:=by omega
  have rd:=hI.chg c (by simp)
  have q1:=rd.idx (P:=Tryz.prog) (ty:=113) (e:=157) (by simp) (i:=(i:Int)) (by omega) (by omega)
  have q2:=rd.load (P:=Tryz.prog) (e:=157) (by simp) hi'
  have rd2:=fun (r:Row)=>(rd.app (L:=[r]))
  have z0:=fun (r:Row)=>(rd2 r).idx (P:=Tryz.prog) (ty:=113) (e:=157) (by simp) (i:=0) (by omega) (by omega)
  have zl:=fun (r:Row)=>(rd2 r).len (P:=Tryz.prog) (ty:=113) (by simp)
  have f0:=fun (r:Row)=>(rd2 r).field (P:=Tryz.prog) (s:=157) (f:=0) (o:=0) (n:=1) (ag:=false) (by simp) (j:=0) h0
  have f1:=fun (r:Row)=>(rd2 r).field (P:=Tryz.prog) (s:=157) (f:=1) (o:=1) (n:=1) (ag:=false) (by simp) (j:=0) h0
  have f2:=fun (r:Row)=>(rd2 r).field (P:=Tryz.prog) (s:=157) (f:=2) (o:=2) (n:=1) (ag:=false) (by simp) (j:=0) h0
  have c0:=fun (r:Row)=>(rd2 r).cell (P:=Tryz.prog) (e:=3) (by simp) h0 (c:=0) (by decide)
  have c1:=fun (r:Row)=>(rd2 r).cell (P:=Tryz.prog) (e:=3) (by simp) h0 (c:=1) (by decide)
  have c2:=fun (r:Row)=>(rd2 r).cell (P:=Tryz.prog) (e:=3) (by simp) h0 (c:=2) (by decide)
  simp only [Int.toNat_natCast,flF_n,Int.toNat_zero,Nat.zero_mul,Nat.zero_add,Nat.add_zero] at q1 q2 z0 f0 f1 f2 c0 c1 c2
  simp only [flF_f] at c0 c1 c2
  simp at c0 c1 c2
  have hw:=@w6 ((xs.length:Int)-1) (by omega)
  have hF:H.length≤H'.length:=c.1
  have hg0:xs.getD 0 flit0=xs[0]:=by simp [List.getD_eq_getElem?_getD,h0]
  have hgi:xs.getD i flit0=xs[i]:=by simp [List.getD_eq_getElem?_getD,hi']
  have hwt:wholeAt xs i=(xs[0].1,xs[0].2.1,xs[0].2.2.1,decide ((i:Int)=0),decide ((i:Int)=(xs.length:Int)-1)):=by unfold wholeAt;rw [hg0]
  obtain ⟨p,hp⟩:∃p,p=xs[i]:=⟨_,rfl⟩
  obtain ⟨z,hz⟩:∃z,z=xs[0]:=⟨_,rfl⟩
  rw [← hp] at q2 hgi
  rw [← hz] at c0 c1 c2 hwt
  obtain ⟨B1,hB1⟩:∃B,B=decide ((i:Int)=0):=⟨_,rfl⟩
  obtain ⟨B2,hB2⟩:∃B,B=decide ((i:Int)=(xs.length:Int)-1):=⟨_,rfl⟩
  rw [← hB1,← hB2] at hwt
  have e1:∀[Inhabited Unit],decide ((i:Int)=0)=B1:=by intro _;exact hB1.symm
  have e1':∀[Inhabited Unit],decide (i=0)=B1:=by intro _;rw [hB1];congr 1;simp
  have e2:∀[Inhabited Unit],decide ((i:Int)=(xs.length:Int)-1)=B2:=by intro _;exact hB2.symm
  simp [t0,t5,t6,t7,q1,q2,flF_f,hF]
  rw [go_draw (h:=by kernel_rfl)]
  simp [-vfieldAddr,vfa_ptr,VM.look,t0,t5,t6,t7,z0,zl,f0,f1,f2,c0,c1,c2,hw,e1,e1',e2,cseq_flit,-cseq,-Prod.mk.injEq]
  have hdec:(((p.1,p.2.1,p.2.2.1,p.2.2.2.1,p.2.2.2.2):FlitD)=(z.1,z.2.1,z.2.2.1,B1,B2))↔xs.getD i flit0=wholeAt xs i:=by rw [hgi,hwt]
  by_cases g2:xs.getD i flit0=wholeAt xs i
  ·have g3:=hdec.2 g2
   rw [decide_eq_true g3]
   simp [t0,t5,t6,t7]
   refine ih (xs.length-(i+1)) _ _ ⟨i+1,rfl,by omega,by simp [t0],by simp [t5],by simp [t6],?_,c.trans (Chg.app _),fun j hj=>?_⟩ (by omega)
   ·simp;rw [w64 (by omega) (by omega)]
   ·by_cases hji:j<i
    ·exact hk j hji
    ·have:j=i:=by omega
     subst this;exact g2
  ·have g3:¬((p.1,p.2.1,p.2.2.1,p.2.2.2.1,p.2.2.2.2):FlitD)=(z.1,z.2.1,z.2.2.1,B1,B2):=fun hh=>g2 (hdec.1 hh)
   rw [decide_eq_false g3]
   simp [t0,t5,t6,t7]
   exact no (fun hh=>g2 (hh.1 i hi'))
 ·have:i=xs.length:=by omega
  subst this
  have ll:=(hI.chg c (by simp)).len (P:=Tryz.prog) (ty:=113) (by simp)
  simp [t0,t5,t6,t7,ll]
  rw [← hY];exact decide_eq_decide.2 ⟨fun h0=>⟨hk,h0⟩,fun k=>k.2⟩
theorem sIsWhole_c (v:Value) (xs:List FlitD) (hI:Rd flF H v xs) (hl:xs.length≤1073741824) :
 vcall C frz 225 [v] H=some (.bool (decide (whole xs)),H):=by
 refine wp.exact (by simp) ?_ rfl
 rw [vcall_go (fn:=Tryz.f225) Tryz.func225 rfl (by kernel_rfl) rfl]
 generalize hY:decide (whole xs)=Y
 have no:¬whole xs→Y=false:=fun hh=>by rw [← hY];exact decide_eq_false hh
 simp
 refine wp_inv (fun n t H'=>∃i:Nat,n=xs.length-i∧i≤xs.length∧t 0=v∧t 3=.int .i64 i∧Chg H H' []∧∀j,j<i→xs.getD j flit0=wholeAt xs j) ?_ (n:=xs.length)
  ⟨0,rfl,by omega,by simp,by simp,Chg.refl _,by omega⟩
 rintro n t H' ⟨i,rfl,hi,t0,t3,c,hk⟩ ih
 have ll:=(hI.chg c (by simp)).len (P:=Tryz.prog) (ty:=113) (by simp)
 simp [t0,t3,ll]
 refine wp_dec ?_ ?_<;>intro g
 ·have hi':i<xs.length:=by omega
  have h0:0<xs.length:=by omega
  have rd:=hI.chg c (by simp)
  have q1:=rd.idx (P:=Tryz.prog) (ty:=113) (e:=157) (by simp) (i:=(i:Int)) (by omega) (by omega)
  have q2:=rd.load (P:=Tryz.prog) (e:=157) (by simp) hi'
  have rd2:=fun (r:Row)=>(rd.app (L:=[r]))
  have z0:=fun (r:Row)=>(rd2 r).idx (P:=Tryz.prog) (ty:=113) (e:=157) (by simp) (i:=0) (by omega) (by omega)
  have zl:=fun (r:Row)=>(rd2 r).len (P:=Tryz.prog) (ty:=113) (by simp)
  have f0:=fun (r:Row)=>(rd2 r).field (P:=Tryz.prog) (s:=157) (f:=0) (o:=0) (n:=1) (ag:=false) (by simp) (j:=0) h0
  have f1:=fun (r:Row)=>(rd2 r).field (P:=Tryz.prog) (s:=157) (f:=1) (o:=1) (n:=1) (ag:=false) (by simp) (j:=0) h0
  have f2:=fun (r:Row)=>(rd2 r).field (P:=Tryz.prog) (s:=157) (f:=2) (o:=2) (n:=1) (ag:=false) (by simp) (j:=0) h0
  have c0:=fun (r:Row)=>(rd2 r).cell (P:=Tryz.prog) (e:=3) (by simp) h0 (c:=0) (by decide)
  have c1:=fun (r:Row)=>(rd2 r).cell (P:=Tryz.prog) (e:=3) (by simp) h0 (c:=1) (by decide)
  have c2:=fun (r:Row)=>(rd2 r).cell (P:=Tryz.prog) (e:=3) (by simp) h0 (c:=2) (by decide)
  simp only [Int.toNat_natCast,flF_n,Int.toNat_zero,Nat.zero_mul,Nat.zero_add,Nat.add_zero] at q1 q2 z0 f0 f1 f2 c0 c1 c2
  simp only [flF_f] at c0 c1 c2
  simp at c0 c1 c2
  have hw:=@w6 ((xs.length:Int)-1) (by omega)
  have hF:H.length≤H'.length:=c.1
  have hg0:xs.getD 0 flit0=xs[0]:=by simp [List.getD_eq_getElem?_getD,h0]
  have hgi:xs.getD i flit0=xs[i]:=by simp [List.getD_eq_getElem?_getD,hi']
  have hwt:wholeAt xs i=(xs[0].1,xs[0].2.1,xs[0].2.2.1,decide ((i:Int)=0),decide ((i:Int)=(xs.length:Int)-1)):=by unfold wholeAt;rw [hg0]
  obtain ⟨p,hp⟩:∃p,p=xs[i]:=⟨_,rfl⟩
  obtain ⟨z,hz⟩:∃z,z=xs[0]:=⟨_,rfl⟩
  rw [← hp] at q2 hgi
  rw [← hz] at c0 c1 c2 hwt
  obtain ⟨B1,hB1⟩:∃B,B=decide ((i:Int)=0):=⟨_,rfl⟩
  obtain ⟨B2,hB2⟩:∃B,B=decide ((i:Int)=(xs.length:Int)-1):=⟨_,rfl⟩
  rw [← hB1,← hB2] at hwt
  have e1:∀[Inhabited Unit],decide ((i:Int)=0)=B1:=by intro _;exact hB1.symm
  have e1':∀[Inhabited Unit],decide (i=0)=B1:=by intro _;rw [hB1];congr 1;simp
  have e2:∀[Inhabited Unit],decide ((i:Int)=(xs.length:Int)-1)=B2:=by intro _;exact hB2.symm
  simp [t0,t3,q1,q2,flF_f,hF]
  rw [go_draw (h:=by kernel_rfl)]
  have hcmp:xs.getD i flit0=wholeAt xs i↔p.1=z.1∧p.2.1=z.2.1∧p.2.2.1=z.2.2.1∧p.2.2.2.1=B1∧p.2.2.2.2=B2:=by
   rw [hgi,hwt];obtain ⟨_,_,_,_,_⟩:=p;simp
  have bad:¬(p.1=z.1∧p.2.1=z.2.1∧p.2.2.1=z.2.2.1∧p.2.2.2.1=B1∧p.2.2.2.2=B2)→Y=false:=fun hh=>no (fun k=>hh (hcmp.1 (k.1 i hi')))
  obtain ⟨p1,p2,p3,p4,p5⟩:=p
  simp only at hcmp bad
  simp [-vfieldAddr,vfa_ptr,VM.look,t0,t3,z0,zl,f0,f1,f2,c0,c1,c2,hw,e1,e1',e2]
  by_cases g1:p1=z.1
  rotate_left
  ·simp [t0,t3,g1];exact bad (fun k=>g1 k.1)
  simp [-vfieldAddr,vfa_ptr,VM.look,t0,t3,z0,zl,f0,f1,f2,c0,c1,c2,hw,e1,e1',e2,g1]
  by_cases g2:p2=z.2.1
  rotate_left
  ·simp [t0,t3,g2];exact bad (fun k=>g2 k.2.1)
  simp [-vfieldAddr,vfa_ptr,VM.look,t0,t3,z0,zl,f0,f1,f2,c0,c1,c2,hw,e1,e1',e2,g1,g2]
  by_cases g3:p3=z.2.2.1
  rotate_left
  ·simp [t0,t3,g3];exact bad (fun k=>g3 k.2.2.1)
  simp [-vfieldAddr,vfa_ptr,VM.look,t0,t3,z0,zl,f0,f1,f2,c0,c1,c2,hw,e1,e1',e2,g1,g2,g3]
  by_cases g4:p4=B1
  rotate_left
  ·have g4':(p4 != B1)=true:=bne_iff_ne.2 g4
   simp [t0,t3,g4'];exact bad (fun k=>g4 k.2.2.2.1)
  simp [-vfieldAddr,vfa_ptr,VM.look,t0,t3,z0,zl,f0,f1,f2,c0,c1,c2,hw,e1,e1',e2,g1,g2,g3,g4]
  by_cases g5:p5=B2
  rotate_left
  ·have g5':(p5 != B2)=true:=bne_iff_ne.2 g5
   simp [t0,t3,g5'];exact bad (fun k=>g5 k.2.2.2.2)
  have g6:=hcmp.2 ⟨g1,g2,g3,g4,g5⟩
  simp [t0,t3,g5]
  refine ih (xs.length-(i+1)) _ _ ⟨i+1,rfl,by omega,by simp [t0],?_,c.trans (Chg.app _),fun j hj=>?_⟩ (by omega)
  ·simp;rw [w64 (by omega) (by omega)]
  ·by_cases hji:j<i
   ·exact hk j hji
   ·have:j=i:=by omega
    subst this;exact g6
 ·have:i=xs.length:=by omega
  subst this
  simp [t0,t3,ll]
  rw [← hY];exact decide_eq_decide.2 ⟨fun h0=>⟨hk,h0⟩,fun k=>k.2⟩
end Go.Proofs.YtcigpclbhfkgaaaGreat.V
