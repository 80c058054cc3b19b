/- Texts of a proof, joined. -/
import Derived.Test.YtaldglgobgjeaaaGreatKM0
import Derived.Test.YtaldglgobgjeaaaGreatKM1
import Derived.Test.YtaldglgobgjeaaaGreatKFnBreaks0
set_option linter.all false
namespace Go.Proofs.YtaldglgobgjeaaaGreat.V
open Go Go.VM Go.Proofs
set_option maxRecDepth 10000
variable {frz:Nat} {H:Heap}
theorem Oa {P A S A':List Nat} {N:Nat} (nd:(P++(A++S)).Nodup) (lt:∀i∈P++(A++S),i<N) (na:A'.Nodup) (h:∀i∈A',i∈A∨N≤i):(P++(A'++S)).Nodup∧(∀i∈P++(A'++S),i∈P++(A++S)∨N≤i):=by
 obtain ⟨n1,n2,n3⟩:=List.nodup_append.1 nd
 obtain ⟨m1,m2,m3⟩:=List.nodup_append.1 n2
 refine ⟨List.nodup_append.2 ⟨n1,List.nodup_append.2 ⟨na,m2,fun a ha b hb e=>?_⟩,fun a ha b hb e=>?_⟩,fun i hi=>?_⟩
 ·subst e
  rcases h a ha with g|g
  ·exact m3 a g a hb rfl
  ·have:=lt a (List.mem_append_right _ (List.mem_append_right _ hb));omega
 ·subst e
  rcases List.mem_append.1 hb with hb|hb
  ·rcases h a hb with g|g
   ·exact n3 a ha a (List.mem_append_left _ g) rfl
   ·have:=lt a (List.mem_append_left _ ha);omega
  ·exact n3 a ha a (List.mem_append_right _ hb) rfl
 ·rcases List.mem_append.1 hi with hi|hi
  ·exact .inl (List.mem_append_left _ hi)
  rcases List.mem_append.1 hi with hi|hi
  ·rcases h i hi with g|g
   ·exact .inl (List.mem_append_right _ (List.mem_append_left _ g))
   ·exact .inr g
  ·exact .inl (List.mem_append_right _ (List.mem_append_right _ hi))
theorem Pf {P A S:List Nat} (nd:(P++(A++S)).Nodup):(∀i∈P,i∉A)∧(∀i∈S,i∉A):=by
 obtain ⟨n1,n2,n3⟩:=List.nodup_append.1 nd
 obtain ⟨m1,m2,m3⟩:=List.nodup_append.1 n2
 exact ⟨fun i hi hh=>n3 i hi i (List.mem_append_left _ hh) rfl,fun i hi hh=>m3 i hh i hi rfl⟩
def withBuf (x:NetD) (s:SSD):NetD:=(x.1,x.2.1,s,x.2.2.2.1,x.2.2.2.2.1,x.2.2.2.2.2.1,x.2.2.2.2.2.2.1,x.2.2.2.2.2.2.2)
def putBuf (n:NetV) (u:SSV):NetV:=(n.1,n.2.1,u,n.2.2.2.1,n.2.2.2.2.1,n.2.2.2.2.2.1,n.2.2.2.2.2.2.1,n.2.2.2.2.2.2.2)
theorem E7 {K K':Heap} {n:NetV} {x:NetD} {u:SSV} {s:SSD} (on:dNet.Ow K n x) (nd:(dNet.ids n).Nodup) (c:Chg K K' (dSS.ids n.2.2.1)) (os:dSS.Ow K' u s) (na:(dSS.ids u).Nodup) (hi:∀i∈dSS.ids u,i∈dSS.ids n.2.2.1∨K.length≤i) :
 dNet.Ow K' (putBuf n u) (withBuf x s)∧(dNet.ids (putBuf n u)).Nodup∧∀i∈dNet.ids (putBuf n u),i∈dNet.ids n∨K.length≤i:=by
 have lt:=dNet.lt on
 have e:dNet.ids n=(dMesh.ids n.1++dClasses.ids n.2.1)++(dSS.ids n.2.2.1++(dIntS.ids n.2.2.2.1++(dIntS.ids n.2.2.2.2.1++(dSS.ids n.2.2.2.2.2.1++(dSS.ids n.2.2.2.2.2.2.1++[]))))):=by
  show dMesh.ids n.1++(dClasses.ids n.2.1++(dSS.ids n.2.2.1++(dIntS.ids n.2.2.2.1++(dIntS.ids n.2.2.2.2.1++(dSS.ids n.2.2.2.2.2.1++(dSS.ids n.2.2.2.2.2.2.1++[]))))))=_
  simp only [List.append_assoc]
 have e':dNet.ids (putBuf n u)=(dMesh.ids n.1++dClasses.ids n.2.1)++(dSS.ids u++(dIntS.ids n.2.2.2.1++(dIntS.ids n.2.2.2.2.1++(dSS.ids n.2.2.2.2.2.1++(dSS.ids n.2.2.2.2.2.2.1++[]))))):=by
  show dMesh.ids n.1++(dClasses.ids n.2.1++(dSS.ids u++(dIntS.ids n.2.2.2.1++(dIntS.ids n.2.2.2.2.1++(dSS.ids n.2.2.2.2.2.1++(dSS.ids n.2.2.2.2.2.2.1++[]))))))=_
  simp only [List.append_assoc]
 rw [e] at nd lt ⊢
 rw [e']
 obtain ⟨m1,m2⟩:=Oa nd lt na hi
 obtain ⟨d1,d2⟩:=Pf nd
 obtain ⟨o1,o2,o3,o4,o5,o6,o7,_⟩:=on
 exact ⟨⟨Dt.chg (T:=dMesh) o1 c (fun i hi=>d1 i (List.mem_append_left _ (hi))),Dt.chg (T:=dClasses) o2 c (fun i hi=>d1 i (List.mem_append_right _ hi)),os,Dt.chg (T:=dIntS) o4 c (fun i hi=>d2 i (List.mem_append_left _ hi)),Dt.chg (T:=dIntS) o5 c (fun i hi=>d2 i (List.mem_append_right _ (List.mem_append_left _ hi))),Dt.chg (T:=dSS) o6 c (fun i hi=>d2 i (List.mem_append_right _ (List.mem_append_right _ (List.mem_append_left _ hi)))),Dt.chg (T:=dSS) o7 c (fun i hi=>d2 i (List.mem_append_right _ (List.mem_append_right _ (List.mem_append_right _ (List.mem_append_left _ hi))))),trivial⟩,m1,m2⟩
theorem Yq {n:NetV}:∀i∈dSS.ids n.2.2.1,i∈dNet.ids n:=fun i hi=>by
 show i∈dMesh.ids n.1++(dClasses.ids n.2.1++(dSS.ids n.2.2.1++(dIntS.ids n.2.2.2.1++(dIntS.ids n.2.2.2.2.1++(dSS.ids n.2.2.2.2.2.1++(dSS.ids n.2.2.2.2.2.2.1++[]))))))
 simp only [List.mem_append];right;right;left;exact hi
theorem Su {n:NetV} (nd:(dNet.ids n).Nodup):(dSS.ids n.2.2.1).Nodup:=by
 have e:dNet.ids n=(dMesh.ids n.1++dClasses.ids n.2.1)++(dSS.ids n.2.2.1++(dIntS.ids n.2.2.2.1++(dIntS.ids n.2.2.2.2.1++(dSS.ids n.2.2.2.2.2.1++(dSS.ids n.2.2.2.2.2.2.1++[]))))):=by
  show dMesh.ids n.1++(dClasses.ids n.2.1++(dSS.ids n.2.2.1++(dIntS.ids n.2.2.2.1++(dIntS.ids n.2.2.2.2.1++(dSS.ids n.2.2.2.2.2.1++(dSS.ids n.2.2.2.2.2.2.1++[]))))))=_
  simp only [List.append_assoc]
 rw [e] at nd
 exact (List.nodup_append.1 (List.nodup_append.1 nd).2.1).1
def withOwn (x:NetD) (s:List Int):NetD:=(x.1,x.2.1,x.2.2.1,s,x.2.2.2.2.1,x.2.2.2.2.2.1,x.2.2.2.2.2.2.1,x.2.2.2.2.2.2.2)
def putOwn (n:NetV) (u:Value):NetV:=(n.1,n.2.1,n.2.2.1,u,n.2.2.2.2.1,n.2.2.2.2.2.1,n.2.2.2.2.2.2.1,n.2.2.2.2.2.2.2)
theorem Fu {K K':Heap} {n:NetV} {x:NetD} {u:Value} {s:List Int} (on:dNet.Ow K n x) (nd:(dNet.ids n).Nodup) (c:Chg K K' (dIntS.ids n.2.2.2.1)) (os:dIntS.Ow K' u s) (na:(dIntS.ids u).Nodup) (hi:∀i∈dIntS.ids u,i∈dIntS.ids n.2.2.2.1∨K.length≤i) :
 dNet.Ow K' (putOwn n u) (withOwn x s)∧(dNet.ids (putOwn n u)).Nodup∧∀i∈dNet.ids (putOwn n u),i∈dNet.ids n∨K.length≤i:=by
 have lt:=dNet.lt on
 have e:dNet.ids n=((dMesh.ids n.1++dClasses.ids n.2.1)++dSS.ids n.2.2.1)++(dIntS.ids n.2.2.2.1++(dIntS.ids n.2.2.2.2.1++(dSS.ids n.2.2.2.2.2.1++(dSS.ids n.2.2.2.2.2.2.1++[])))):=by
  show dMesh.ids n.1++(dClasses.ids n.2.1++(dSS.ids n.2.2.1++(dIntS.ids n.2.2.2.1++(dIntS.ids n.2.2.2.2.1++(dSS.ids n.2.2.2.2.2.1++(dSS.ids n.2.2.2.2.2.2.1++[]))))))=_
  simp only [List.append_assoc]
 have e':dNet.ids (putOwn n u)=((dMesh.ids n.1++dClasses.ids n.2.1)++dSS.ids n.2.2.1)++(dIntS.ids u++(dIntS.ids n.2.2.2.2.1++(dSS.ids n.2.2.2.2.2.1++(dSS.ids n.2.2.2.2.2.2.1++[])))):=by
  show dMesh.ids n.1++(dClasses.ids n.2.1++(dSS.ids n.2.2.1++(dIntS.ids u++(dIntS.ids n.2.2.2.2.1++(dSS.ids n.2.2.2.2.2.1++(dSS.ids n.2.2.2.2.2.2.1++[]))))))=_
  simp only [List.append_assoc]
 rw [e] at nd lt ⊢
 rw [e']
 obtain ⟨m1,m2⟩:=Oa nd lt na hi
 obtain ⟨d1,d2⟩:=Pf nd
 obtain ⟨o1,o2,o3,o4,o5,o6,o7,_⟩:=on
 exact ⟨⟨Dt.chg (T:=dMesh) o1 c (fun i hi=>d1 i (List.mem_append_left _ (List.mem_append_left _ (hi)))),Dt.chg (T:=dClasses) o2 c (fun i hi=>d1 i (List.mem_append_left _ (List.mem_append_right _ hi))),Dt.chg (T:=dSS) o3 c (fun i hi=>d1 i (List.mem_append_right _ hi)),os,Dt.chg (T:=dIntS) o5 c (fun i hi=>d2 i (List.mem_append_left _ hi)),Dt.chg (T:=dSS) o6 c (fun i hi=>d2 i (List.mem_append_right _ (List.mem_append_left _ hi))),Dt.chg (T:=dSS) o7 c (fun i hi=>d2 i (List.mem_append_right _ (List.mem_append_right _ (List.mem_append_left _ hi)))),trivial⟩,m1,m2⟩
theorem S7 {n:NetV}:∀i∈dIntS.ids n.2.2.2.1,i∈dNet.ids n:=fun i hi=>by
 show i∈dMesh.ids n.1++(dClasses.ids n.2.1++(dSS.ids n.2.2.1++(dIntS.ids n.2.2.2.1++(dIntS.ids n.2.2.2.2.1++(dSS.ids n.2.2.2.2.2.1++(dSS.ids n.2.2.2.2.2.2.1++[]))))))
 simp only [List.mem_append];right;right;right;left;exact hi
theorem Am {n:NetV} (nd:(dNet.ids n).Nodup):(dIntS.ids n.2.2.2.1).Nodup:=by
 have e:dNet.ids n=((dMesh.ids n.1++dClasses.ids n.2.1)++dSS.ids n.2.2.1)++(dIntS.ids n.2.2.2.1++(dIntS.ids n.2.2.2.2.1++(dSS.ids n.2.2.2.2.2.1++(dSS.ids n.2.2.2.2.2.2.1++[])))):=by
  show dMesh.ids n.1++(dClasses.ids n.2.1++(dSS.ids n.2.2.1++(dIntS.ids n.2.2.2.1++(dIntS.ids n.2.2.2.2.1++(dSS.ids n.2.2.2.2.2.1++(dSS.ids n.2.2.2.2.2.2.1++[]))))))=_
  simp only [List.append_assoc]
 rw [e] at nd
 exact (List.nodup_append.1 (List.nodup_append.1 nd).2.1).1
def withTurn (x:NetD) (s:List Int):NetD:=(x.1,x.2.1,x.2.2.1,x.2.2.2.1,s,x.2.2.2.2.2.1,x.2.2.2.2.2.2.1,x.2.2.2.2.2.2.2)
def putTurn (n:NetV) (u:Value):NetV:=(n.1,n.2.1,n.2.2.1,n.2.2.2.1,u,n.2.2.2.2.2.1,n.2.2.2.2.2.2.1,n.2.2.2.2.2.2.2)
theorem Io {K K':Heap} {n:NetV} {x:NetD} {u:Value} {s:List Int} (on:dNet.Ow K n x) (nd:(dNet.ids n).Nodup) (c:Chg K K' (dIntS.ids n.2.2.2.2.1)) (os:dIntS.Ow K' u s) (na:(dIntS.ids u).Nodup) (hi:∀i∈dIntS.ids u,i∈dIntS.ids n.2.2.2.2.1∨K.length≤i) :
 dNet.Ow K' (putTurn n u) (withTurn x s)∧(dNet.ids (putTurn n u)).Nodup∧∀i∈dNet.ids (putTurn n u),i∈dNet.ids n∨K.length≤i:=by
 have lt:=dNet.lt on
 have e:dNet.ids n=(((dMesh.ids n.1++dClasses.ids n.2.1)++dSS.ids n.2.2.1)++dIntS.ids n.2.2.2.1)++(dIntS.ids n.2.2.2.2.1++(dSS.ids n.2.2.2.2.2.1++(dSS.ids n.2.2.2.2.2.2.1++[]))):=by
  show dMesh.ids n.1++(dClasses.ids n.2.1++(dSS.ids n.2.2.1++(dIntS.ids n.2.2.2.1++(dIntS.ids n.2.2.2.2.1++(dSS.ids n.2.2.2.2.2.1++(dSS.ids n.2.2.2.2.2.2.1++[]))))))=_
  simp only [List.append_assoc]
 have e':dNet.ids (putTurn n u)=(((dMesh.ids n.1++dClasses.ids n.2.1)++dSS.ids n.2.2.1)++dIntS.ids n.2.2.2.1)++(dIntS.ids u++(dSS.ids n.2.2.2.2.2.1++(dSS.ids n.2.2.2.2.2.2.1++[]))):=by
  show dMesh.ids n.1++(dClasses.ids n.2.1++(dSS.ids n.2.2.1++(dIntS.ids n.2.2.2.1++(dIntS.ids u++(dSS.ids n.2.2.2.2.2.1++(dSS.ids n.2.2.2.2.2.2.1++[]))))))=_
  simp only [List.append_assoc]
 rw [e] at nd lt ⊢
 rw [e']
 obtain ⟨m1,m2⟩:=Oa nd lt na hi
 obtain ⟨d1,d2⟩:=Pf nd
 obtain ⟨o1,o2,o3,o4,o5,o6,o7,_⟩:=on
 exact ⟨⟨Dt.chg (T:=dMesh) o1 c (fun i hi=>d1 i (List.mem_append_left _ (List.mem_append_left _ (List.mem_append_left _ (hi))))),Dt.chg (T:=dClasses) o2 c (fun i hi=>d1 i (List.mem_append_left _ (List.mem_append_left _ (List.mem_append_right _ hi)))),Dt.chg (T:=dSS) o3 c (fun i hi=>d1 i (List.mem_append_left _ (List.mem_append_right _ hi))),Dt.chg (T:=dIntS) o4 c (fun i hi=>d1 i (List.mem_append_right _ hi)),os,Dt.chg (T:=dSS) o6 c (fun i hi=>d2 i (List.mem_append_left _ hi)),Dt.chg (T:=dSS) o7 c (fun i hi=>d2 i (List.mem_append_right _ (List.mem_append_left _ hi))),trivial⟩,m1,m2⟩
theorem V9 {n:NetV}:∀i∈dIntS.ids n.2.2.2.2.1,i∈dNet.ids n:=fun i hi=>by
 show i∈dMesh.ids n.1++(dClasses.ids n.2.1++(dSS.ids n.2.2.1++(dIntS.ids n.2.2.2.1++(dIntS.ids n.2.2.2.2.1++(dSS.ids n.2.2.2.2.2.1++(dSS.ids n.2.2.2.2.2.2.1++[]))))))
 simp only [List.mem_append];right;right;right;right;left;exact hi
theorem Ft {n:NetV} (nd:(dNet.ids n).Nodup):(dIntS.ids n.2.2.2.2.1).Nodup:=by
 have e:dNet.ids n=(((dMesh.ids n.1++dClasses.ids n.2.1)++dSS.ids n.2.2.1)++dIntS.ids n.2.2.2.1)++(dIntS.ids n.2.2.2.2.1++(dSS.ids n.2.2.2.2.2.1++(dSS.ids n.2.2.2.2.2.2.1++[]))):=by
  show dMesh.ids n.1++(dClasses.ids n.2.1++(dSS.ids n.2.2.1++(dIntS.ids n.2.2.2.1++(dIntS.ids n.2.2.2.2.1++(dSS.ids n.2.2.2.2.2.1++(dSS.ids n.2.2.2.2.2.2.1++[]))))))=_
  simp only [List.append_assoc]
 rw [e] at nd
 exact (List.nodup_append.1 (List.nodup_append.1 nd).2.1).1
def withSrc (x:NetD) (s:SSD):NetD:=(x.1,x.2.1,x.2.2.1,x.2.2.2.1,x.2.2.2.2.1,s,x.2.2.2.2.2.2.1,x.2.2.2.2.2.2.2)
def putSrc (n:NetV) (u:SSV):NetV:=(n.1,n.2.1,n.2.2.1,n.2.2.2.1,n.2.2.2.2.1,u,n.2.2.2.2.2.2.1,n.2.2.2.2.2.2.2)
theorem P8 {K K':Heap} {n:NetV} {x:NetD} {u:SSV} {s:SSD} (on:dNet.Ow K n x) (nd:(dNet.ids n).Nodup) (c:Chg K K' (dSS.ids n.2.2.2.2.2.1)) (os:dSS.Ow K' u s) (na:(dSS.ids u).Nodup) (hi:∀i∈dSS.ids u,i∈dSS.ids n.2.2.2.2.2.1∨K.length≤i) :
 dNet.Ow K' (putSrc n u) (withSrc x s)∧(dNet.ids (putSrc n u)).Nodup∧∀i∈dNet.ids (putSrc n u),i∈dNet.ids n∨K.length≤i:=by
 have lt:=dNet.lt on
 have e:dNet.ids n=((((dMesh.ids n.1++dClasses.ids n.2.1)++dSS.ids n.2.2.1)++dIntS.ids n.2.2.2.1)++dIntS.ids n.2.2.2.2.1)++(dSS.ids n.2.2.2.2.2.1++(dSS.ids n.2.2.2.2.2.2.1++[])):=by
  show dMesh.ids n.1++(dClasses.ids n.2.1++(dSS.ids n.2.2.1++(dIntS.ids n.2.2.2.1++(dIntS.ids n.2.2.2.2.1++(dSS.ids n.2.2.2.2.2.1++(dSS.ids n.2.2.2.2.2.2.1++[]))))))=_
  simp only [List.append_assoc]
 have e':dNet.ids (putSrc n u)=((((dMesh.ids n.1++dClasses.ids n.2.1)++dSS.ids n.2.2.1)++dIntS.ids n.2.2.2.1)++dIntS.ids n.2.2.2.2.1)++(dSS.ids u++(dSS.ids n.2.2.2.2.2.2.1++[])):=by
  show dMesh.ids n.1++(dClasses.ids n.2.1++(dSS.ids n.2.2.1++(dIntS.ids n.2.2.2.1++(dIntS.ids n.2.2.2.2.1++(dSS.ids u++(dSS.ids n.2.2.2.2.2.2.1++[]))))))=_
  simp only [List.append_assoc]
 rw [e] at nd lt ⊢
 rw [e']
 obtain ⟨m1,m2⟩:=Oa nd lt na hi
 obtain ⟨d1,d2⟩:=Pf nd
 obtain ⟨o1,o2,o3,o4,o5,o6,o7,_⟩:=on
 exact ⟨⟨Dt.chg (T:=dMesh) o1 c (fun i hi=>d1 i (List.mem_append_left _ (List.mem_append_left _ (List.mem_append_left _ (List.mem_append_left _ (hi)))))),Dt.chg (T:=dClasses) o2 c (fun i hi=>d1 i (List.mem_append_left _ (List.mem_append_left _ (List.mem_append_left _ (List.mem_append_right _ hi))))),Dt.chg (T:=dSS) o3 c (fun i hi=>d1 i (List.mem_append_left _ (List.mem_append_left _ (List.mem_append_right _ hi)))),Dt.chg (T:=dIntS) o4 c (fun i hi=>d1 i (List.mem_append_left _ (List.mem_append_right _ hi))),Dt.chg (T:=dIntS) o5 c (fun i hi=>d1 i (List.mem_append_right _ hi)),os,Dt.chg (T:=dSS) o7 c (fun i hi=>d2 i (List.mem_append_left _ hi)),trivial⟩,m1,m2⟩
theorem Zk {n:NetV}:∀i∈dSS.ids n.2.2.2.2.2.1,i∈dNet.ids n:=fun i hi=>by
 show i∈dMesh.ids n.1++(dClasses.ids n.2.1++(dSS.ids n.2.2.1++(dIntS.ids n.2.2.2.1++(dIntS.ids n.2.2.2.2.1++(dSS.ids n.2.2.2.2.2.1++(dSS.ids n.2.2.2.2.2.2.1++[]))))))
 simp only [List.mem_append];right;right;right;right;right;left;exact hi
theorem M0 {n:NetV} (nd:(dNet.ids n).Nodup):(dSS.ids n.2.2.2.2.2.1).Nodup:=by
 have e:dNet.ids n=((((dMesh.ids n.1++dClasses.ids n.2.1)++dSS.ids n.2.2.1)++dIntS.ids n.2.2.2.1)++dIntS.ids n.2.2.2.2.1)++(dSS.ids n.2.2.2.2.2.1++(dSS.ids n.2.2.2.2.2.2.1++[])):=by
  show dMesh.ids n.1++(dClasses.ids n.2.1++(dSS.ids n.2.2.1++(dIntS.ids n.2.2.2.1++(dIntS.ids n.2.2.2.2.1++(dSS.ids n.2.2.2.2.2.1++(dSS.ids n.2.2.2.2.2.2.1++[]))))))=_
  simp only [List.append_assoc]
 rw [e] at nd
 exact (List.nodup_append.1 (List.nodup_append.1 nd).2.1).1
def withArr (x:NetD) (s:SSD):NetD:=(x.1,x.2.1,x.2.2.1,x.2.2.2.1,x.2.2.2.2.1,x.2.2.2.2.2.1,s,x.2.2.2.2.2.2.2)
def putArr (n:NetV) (u:SSV):NetV:=(n.1,n.2.1,n.2.2.1,n.2.2.2.1,n.2.2.2.2.1,n.2.2.2.2.2.1,u,n.2.2.2.2.2.2.2)
theorem Ek {K K':Heap} {n:NetV} {x:NetD} {u:SSV} {s:SSD} (on:dNet.Ow K n x) (nd:(dNet.ids n).Nodup) (c:Chg K K' (dSS.ids n.2.2.2.2.2.2.1)) (os:dSS.Ow K' u s) (na:(dSS.ids u).Nodup) (hi:∀i∈dSS.ids u,i∈dSS.ids n.2.2.2.2.2.2.1∨K.length≤i) :
 dNet.Ow K' (putArr n u) (withArr x s)∧(dNet.ids (putArr n u)).Nodup∧∀i∈dNet.ids (putArr n u),i∈dNet.ids n∨K.length≤i:=by
 have lt:=dNet.lt on
 have e:dNet.ids n=(((((dMesh.ids n.1++dClasses.ids n.2.1)++dSS.ids n.2.2.1)++dIntS.ids n.2.2.2.1)++dIntS.ids n.2.2.2.2.1)++dSS.ids n.2.2.2.2.2.1)++(dSS.ids n.2.2.2.2.2.2.1++[]):=by
  show dMesh.ids n.1++(dClasses.ids n.2.1++(dSS.ids n.2.2.1++(dIntS.ids n.2.2.2.1++(dIntS.ids n.2.2.2.2.1++(dSS.ids n.2.2.2.2.2.1++(dSS.ids n.2.2.2.2.2.2.1++[]))))))=_
  simp only [List.append_assoc]
 have e':dNet.ids (putArr n u)=(((((dMesh.ids n.1++dClasses.ids n.2.1)++dSS.ids n.2.2.1)++dIntS.ids n.2.2.2.1)++dIntS.ids n.2.2.2.2.1)++dSS.ids n.2.2.2.2.2.1)++(dSS.ids u++[]):=by
  show dMesh.ids n.1++(dClasses.ids n.2.1++(dSS.ids n.2.2.1++(dIntS.ids n.2.2.2.1++(dIntS.ids n.2.2.2.2.1++(dSS.ids n.2.2.2.2.2.1++(dSS.ids u++[]))))))=_
  simp only [List.append_assoc]
 rw [e] at nd lt ⊢
 rw [e']
 obtain ⟨m1,m2⟩:=Oa nd lt na hi
 obtain ⟨d1,d2⟩:=Pf nd
 obtain ⟨o1,o2,o3,o4,o5,o6,o7,_⟩:=on
 exact ⟨⟨Dt.chg (T:=dMesh) o1 c (fun i hi=>d1 i (List.mem_append_left _ (List.mem_append_left _ (List.mem_append_left _ (List.mem_append_left _ (List.mem_append_left _ (hi))))))),Dt.chg (T:=dClasses) o2 c (fun i hi=>d1 i (List.mem_append_left _ (List.mem_append_left _ (List.mem_append_left _ (List.mem_append_left _ (List.mem_append_right _ hi)))))),Dt.chg (T:=dSS) o3 c (fun i hi=>d1 i (List.mem_append_left _ (List.mem_append_left _ (List.mem_append_left _ (List.mem_append_right _ hi))))),Dt.chg (T:=dIntS) o4 c (fun i hi=>d1 i (List.mem_append_left _ (List.mem_append_left _ (List.mem_append_right _ hi)))),Dt.chg (T:=dIntS) o5 c (fun i hi=>d1 i (List.mem_append_left _ (List.mem_append_right _ hi))),Dt.chg (T:=dSS) o6 c (fun i hi=>d1 i (List.mem_append_right _ hi)),os,trivial⟩,m1,m2⟩
theorem Sz {n:NetV}:∀i∈dSS.ids n.2.2.2.2.2.2.1,i∈dNet.ids n:=fun i hi=>by
 show i∈dMesh.ids n.1++(dClasses.ids n.2.1++(dSS.ids n.2.2.1++(dIntS.ids n.2.2.2.1++(dIntS.ids n.2.2.2.2.1++(dSS.ids n.2.2.2.2.2.1++(dSS.ids n.2.2.2.2.2.2.1++[]))))))
 simp only [List.mem_append];right;right;right;right;right;right;left;exact hi
theorem Ar {n:NetV} (nd:(dNet.ids n).Nodup):(dSS.ids n.2.2.2.2.2.2.1).Nodup:=by
 have e:dNet.ids n=(((((dMesh.ids n.1++dClasses.ids n.2.1)++dSS.ids n.2.2.1)++dIntS.ids n.2.2.2.1)++dIntS.ids n.2.2.2.2.1)++dSS.ids n.2.2.2.2.2.1)++(dSS.ids n.2.2.2.2.2.2.1++[]):=by
  show dMesh.ids n.1++(dClasses.ids n.2.1++(dSS.ids n.2.2.1++(dIntS.ids n.2.2.2.1++(dIntS.ids n.2.2.2.2.1++(dSS.ids n.2.2.2.2.2.1++(dSS.ids n.2.2.2.2.2.2.1++[]))))))=_
  simp only [List.append_assoc]
 rw [e] at nd
 exact (List.nodup_append.1 (List.nodup_append.1 nd).2.1).1
def sendNet (x:NetD) (p:PkD):NetD:=withSrc x (x.2.2.2.2.2.1.set p.2.1.toNat (x.2.2.2.2.2.1.getD p.2.1.toNat []++flitsOf x.1.1 x.1.2.1 p))
theorem Lu {K:Heap} {u:Value} {hs:List Value} {xss:SSD} {k:Nat} {ys:List FlitD} (h:OwL flF 144 109 K u hs (xss.set k ys)) (h1:xss.length≤2097152) (h2:∀xs∈xss,xs.length≤67108864) (h3:ys.length≤67108864):dSS.Ow K (u,hs) (xss.set k ys):=
 ⟨h,by simpa using h1,fun xs hx=>by
  rcases List.mem_or_eq_of_mem_set hx with hx|rfl
  ·exact h2 xs hx
  ·exact h3⟩
def netCells (v:NetV) (x:NetD):List Value:=[.int .i64 x.1.1,.int .i64 x.1.2.1,v.1,v.2.1.1,v.2.1.2,v.2.2.1.1,v.2.2.2.1,v.2.2.2.2.1,v.2.2.2.2.2.1.1,v.2.2.2.2.2.2.1.1,.int .i64 x.2.2.2.2.2.2.2]
def sendOk (x:NetD) (p:PkD):Prop:=packetOk x.1.1 x.1.2.1 p∧((x.2.2.2.2.2.1.getD p.2.1.toNat []).length:Int)+p.2.2.2.2≤60
instance (x:NetD) (p:PkD):Decidable (sendOk x p):=inferInstanceAs (Decidable (_∧_))
theorem Z3 {w h:Int} {p:PkD} (g:packetOk w h p):((flitsOf w h p).length:Int)=p.2.2.2.2:=by
 unfold flitsOf;rw [if_pos g]
 have:=g.2.2.2.2.2;unfold inR at this;simp;omega
theorem Ey {w h:Int} {p:PkD} (g:¬packetOk w h p):flitsOf w h p=[]:=if_neg g
theorem Qbs {v:NetV} {x:NetD} {p:PkD} {id:Nat} {e:TypeId} {tail:List Value} (hr:H[id]? = some ⟨netCells v x++tail,0,e⟩) (o:dNet.Ow H v x) (nd:(dNet.ids v).Nodup) (hf:∀i∈dNet.ids v,frz≤i) (hid:id∉dNet.ids v) (hN:(x.2.2.2.2.2.1.length:Int)=cnt x.1.1 x.1.2.1) (hs:∀l∈x.2.2.2.2.2.1,l.length≤60) :
 wp (vcall C frz 33 [.pointer (some ⟨id,0,some 0⟩),pkV p] H) (fun r H'=>r=.bool (decide (sendOk x p))∧
  if sendOk x p then ∃hs':List Value,dNet.Ow H' (putSrc v (v.2.2.2.2.2.1.1,hs')) (sendNet x p)∧(dNet.ids (putSrc v (v.2.2.2.2.2.1.1,hs'))).Nodup∧(∀i∈dNet.ids (putSrc v (v.2.2.2.2.2.1.1,hs')),i∈dNet.ids v∨H.length≤i)∧Chg H H' (dSS.ids v.2.2.2.2.2.1) else Chg H H' []):=by
 have ones:=Qk o
 have fo:=fun F H=>qk (frz:=F) (H:=H) x.1.1 x.1.2.1 p
 rw [Qa (fn:=Tryz.f33) Tryz.func33 rfl (by kernel_rfl) rfl]
 have hlt:=Qu hr
 unfold netCells at hr
 simp only [List.cons_append,List.nil_append] at hr
 obtain ⟨q1,q2,q3,q4,q5⟩:=p
 unfold pkV at fo ⊢
 simp only at fo
 have hr1:=fun r=>Qn hr [r]
 simp
 rw [Qf (h:=by kernel_rfl)]
 simp [VM.look,VM.vnil,hr1]
 refine Qd (fo _ _) ?_
 rintro y K ⟨oy,ny,c1⟩
 have hr2:=Qb (hr1 _) c1 (by simp)
 have b3:K[H.length]? = some ⟨[.int .i64 q1,.int .i64 q2,.int .i64 q3,.int .i64 q4,.int .i64 q5],0,73⟩:=Qb (by simp) c1 (by simp)
 have cH:Chg H K []:=(Chg.app _).trans c1
 have on:=Dt.chg (T:=dNet) o cH (by simp)
 have ly:=oy.rd.len (P:=Tryz.prog) (ty:=109) (by simp)
 simp
 rw [Qf (h:=by kernel_rfl)]
 by_cases g0:packetOk x.1.1 x.1.2.1 (q1,q2,q3,q4,q5)
 rotate_left
 ·have hso:¬sendOk x (q1,q2,q3,q4,q5):=fun k=>g0 k.1
  rw [Ey g0] at ly
  simp [ly,hso]
  exact cH
 have hfl:=Z3 g0
 have hto:=g0.2.1
 unfold isN at hto
 simp only at hfl hto
 obtain ⟨m,rfl⟩:∃m:Nat,q2=m:=⟨q2.toNat,by omega⟩
 have hml:m<x.2.2.2.2.2.1.length:=by omega
 have hgd:x.2.2.2.2.2.1.getD m []=x.2.2.2.2.2.1[m]:=by simp [List.getD_eq_getElem?_getD,List.getElem?_eq_getElem hml]
 have hsm:=hs _ (List.getElem_mem hml)
 have hln:=g0.2.2.2.2.2
 unfold inR at hln
 simp only at hln
 have hfn:¬q5=0:=by omega
 obtain ⟨o1,o2,o3,o4,o5,o6,o7,_⟩:=on
 obtain ⟨a,a1,a2,a3,a4⟩:=Xi o6.1.rd (ty:=36) (e:=109) (by simp) (by simp) hml
 have la:=a4.len (P:=Tryz.prog) (ty:=109) (by simp)
 have e1:=@w6 ((x.2.2.2.2.2.1[m].length:Int)+q5) (by omega)
 simp [VM.look,VM.vnil,ly,hfn,hr2,b3,a2,a3,la,hfl,e1]
 refine Qc ?_ ?_<;>intro g1
 ·have hso:¬sendOk x (q1,(m:Int),q3,q4,q5):=fun k=>by have:=k.2;simp only [Int.toNat_natCast,hgd] at this;omega
  simp [hso]
  exact cH
 have hso:sendOk x (q1,(m:Int),q3,q4,q5):=⟨g0,by simp only [Int.toNat_natCast,hgd];omega⟩
 simp
 have liv:=Xa o6.1.1
 have qa:VM.one a=true∧a.cells=#[a]:=⟨a4.one',a4.cells⟩
 have hml':m<v.2.2.2.2.2.1.2.length:=by rw [o6.1.2.1];exact hml
 have ea:v.2.2.2.2.2.1.2[m]=a:=by rw [List.getElem?_eq_getElem hml'] at a1;exact Option.some.inj a1
 have oa:Ow flF 144 K a x.2.2.2.2.2.1[m]:=o6.1.2.2 m a _ a1 (by simp [hml])
 have h6:=Zk (n:=v)
 have ha6:∀i∈ids a,i∈dSS.ids v.2.2.2.2.2.1:=fun i hi=>U1 a1 hi
 have nd6:=M0 nd
 have lt6:∀i∈dSS.ids v.2.2.2.2.2.1,i<H.length:=fun i hi=>dNet.lt o i (h6 i hi)
 obtain ⟨a',K3,hap,oa',c3,na'⟩:=oa.append (P:=Tryz.prog) (frz:=frz) (ty:=109) oy.rd (by simp) (T4 _) (by omega) (fun i hi=>hf i (h6 i (ha6 i hi)))
 have c3':Chg K K3 (ids v.2.2.2.2.2.1.2[m]):=by rw [ea];exact c3
 obtain ⟨K4,hst,oL,c4,ndL,idL,l4⟩:=R9 (frz:=frz) (et:=109) (ag:=false) o6.1 nd6 hml' c3' oa' (by rw [ea];exact na') (fun i hi=>hf i (h6 i hi)) (by simp)
 have b33:=Qb b3 c3 (fun hh=>by have:=lt6 _ (ha6 _ hh);omega)
 have b35:=Qb hr2 c3 (fun hh=>hid (h6 _ (ha6 _ hh)))
 have dav:∀i∈ids v.2.2.2.2.2.1.1,i∉ids a:=fun i hi hh=>(List.nodup_append.1 nd6).2.2 i hi i (List.mem_flatMap.2 ⟨a,List.mem_of_getElem? a1,hh⟩) rfl
 have ol3:=o6.1.1.chg c3 dav
 have liv3:=Xa ol3
 have hsl:=o6.1.2.1
 have ix3:=ol3.rd.idx (P:=Tryz.prog) (ty:=36) (e:=109) (by simp) (i:=(m:Int)) (by omega) (by omega)
 have b43:=Qb b3 c4 (fun hh=>by have:=lt6 _ hh;omega)
 have b45:=Qb hr2 c4 (fun hh=>hid (h6 _ hh))
 have liv4:=Xa oL.1
 have qa':VM.one a'=true∧a'.cells=#[a']:=⟨oa'.rd.one',oa'.rd.cells⟩
 simp only [Int.toNat_natCast,Nat.mul_one,show Fl.val.n=1 from rfl] at ix3
 rw [Tl (fl:=([3,5],[17])) (h:=⟨by kernel_rfl,by kernel_rfl,by kernel_rfl,by kernel_rfl⟩)]
 simp [emps,empOp,empB,-Qp,-Q6,VM.look,VM.vnil,hr2,b3,a2,a3,hap,hst,b33,b35,ix3,liv,liv3,b43,b45,liv4,ones,qa',hso]
 have en:sendNet x (q1,m,q3,q4,q5)=withSrc x (x.2.2.2.2.2.1.set m (x.2.2.2.2.2.1[m]++flitsOf x.1.1 x.1.2.1 (q1,m,q3,q4,q5))):=by
  unfold sendNet
  simp only [Int.toNat_natCast,hgd]
 rw [en]
 have on2:dNet.Ow K v x:=⟨o1,o2,o3,o4,o5,o6,o7,trivial⟩
 have lK:=cH.1
 obtain ⟨p1,p2,p3⟩:=P8 (u:=(v.2.2.2.2.2.1.1,v.2.2.2.2.2.1.2.set m a')) on2 nd c4 (Lu oL o6.2.1 o6.2.2 (by simp;omega)) ndL idL
 refine ⟨_,p1,p2,fun i hi=>?_,(cH.mono (fun _ h=>by cases h)).trans c4⟩
 rcases p3 i hi with g|g
 ·exact .inl g
 ·exact .inr (by omega)
abbrev dPk:Dt Value (List PkD):=dFlat pkF 73 1073741824
abbrev ChipD:=NetD×List PkD
abbrev ChipV:=NetV×Value
def dChip:Dt ChipV ChipD:={ dAnd dNet dPk with val:=fun v a=>.agg #[.int .i64 a.1.1.1,.int .i64 a.1.1.2.1,v.1.1,v.1.2.1.1,v.1.2.1.2,v.1.2.2.1.1,v.1.2.2.2.1,v.1.2.2.2.2.1,v.1.2.2.2.2.2.1.1,v.1.2.2.2.2.2.2.1.1,.int .i64 a.1.2.2.2.2.2.2.2,v.2] }
def sendP (x:NetD) (p:PkD):NetD:=if netOk x∧sendOk x p then sendNet x p else x
def missOk (x:NetD) (list:List PkD):Prop:=netOk x∧∀p∈list,packetOk x.1.1 x.1.2.1 p
instance (x:NetD) (list:List PkD):Decidable (missOk x list):=inferInstanceAs (Decidable (_∧_))
abbrev pk0:PkD:=(0,0,0,0,0)
def sentOk (w h:Int) (list:List PkD):Prop:=∀i,i<list.length→packetOk w h (list.getD i pk0)∧(list.getD i pk0).1=(i:Int)+1
instance (w h:Int) (list:List PkD):Decidable (sentOk w h list):=inferInstanceAs (Decidable (∀i,i<_→_))
def chipOk (a:ChipD):Prop:=netOk a.1∧a.2.length≤200∧sentOk a.1.1.1 a.1.1.2.1 a.2∧keepsOk a.1 a.2
instance (a:ChipD):Decidable (chipOk a):=inferInstanceAs (Decidable (_∧_))
def sendsOk (a:ChipD) (p:PkD):Prop:=chipOk a∧a.2.length≠200∧sendOk a.1 p
instance (a:ChipD) (p:PkD):Decidable (sendsOk a p):=inferInstanceAs (Decidable (_∧_))
def nextP (a:ChipD) (q2 q3 q4 q5:Int):PkD:=((a.2.length:Int)+1,q2,q3,q4,q5)
def chipSend (a:ChipD) (q2 q3 q4 q5:Int):ChipD:=if sendsOk a (nextP a q2 q3 q4 q5) then (sendNet a.1 (nextP a q2 q3 q4 q5),a.2++[nextP a q2 q3 q4 q5]) else a
end Go.Proofs.YtaldglgobgjeaaaGreat.V
set_option linter.all false
namespace Go.Proofs.YtaldglgobgjeaaaGreat.V
open Go Go.VM Go.Proofs
set_option maxRecDepth 10000
def itN (g:Int→Int):Nat→Int→Int
 | 0,a=>a
 | n+1,a=>g (itN g n a)
theorem Qz (g:Int→Int):∀n a,itN g (n+1) a=itN g n (g a)
 | 0,a=>rfl
 | n+1,a=>by show g (itN g (n+1) a)=g (itN g n (g a));rw [Qz g n a]
theorem Tn (g:Int→Int) (m:Nat):∀n a,itN g (n+m) a=itN g n (itN g m a)
 | 0,a=>by rw [Nat.zero_add];rfl
 | n+1,a=>by rw [Nat.add_right_comm];show g (itN g (n+m) a)=g (itN g n (itN g m a));rw [Tn g m n a]
def nuT (w h:Int) (T:List Int) (to a:Int):Int:=next w h a (portOf w h T a to)
theorem Rk (w h:Int) (b T:List Int) (to:Int):∀F a out,walkN w h b T to F a out≠[]→∃L,itN (nuT w h T to) L a=to∧∀n,n<L→stepOk w h b T (itN (nuT w h T to) n a) to
 | 0,a,out,hne=>by
  unfold walkN at hne
  by_cases e:portOf w h T a to=4
  ·rw [if_pos e] at hne
   by_cases e2:a=to
   ·exact ⟨0,e2,fun n h=>by omega⟩
   ·rw [if_neg e2] at hne;exact absurd rfl hne
  ·rw [if_neg e] at hne;exact absurd rfl hne
 | F+1,a,out,hne=>by
  unfold walkN at hne
  by_cases e:portOf w h T a to=4
  ·rw [if_pos e] at hne
   by_cases e2:a=to
   ·exact ⟨0,e2,fun n h=>by omega⟩
   ·rw [if_neg e2] at hne;exact absurd rfl hne
  ·rw [if_neg e] at hne
   by_cases e2:stepOk w h b T a to
   ·rw [if_pos e2] at hne
    obtain ⟨L,h1,h2⟩:=Rk w h b T to F _ _ hne
    refine ⟨L+1,by rw [Qz];exact h1,fun n hn=>?_⟩
    cases n with
    | zero=>exact e2
    | succ n=>rw [Qz];exact h2 n (by omega)
   ·rw [if_neg e2] at hne;exact absurd rfl hne
theorem Im (w h:Int) (b T:List Int) (to:Int) (h4:portOf w h T to to=4):∀L F a out,L≤F→itN (nuT w h T to) L a=to→(∀n,n<L→stepOk w h b T (itN (nuT w h T to) n a) to)→(walkN w h b T to F a out).length=out.length+L
 | 0,F,a,out,_,e,_=>by
  have e:a=to:=e
  subst e
  cases F with
  | zero=>unfold walkN;rw [if_pos h4,if_pos rfl];rfl
  | succ F=>unfold walkN;rw [if_pos h4,if_pos rfl];rfl
 | L+1,F,a,out,hF,e,hs=>by
  have s0:stepOk w h b T a to:=hs 0 (by omega)
  have hne:¬portOf w h T a to=4:=fun k=>by have:=s0.1;unfold inR at this;omega
  cases F with
  | zero=>omega
  | succ F=>
   unfold walkN
   rw [if_neg hne,if_pos s0]
   rw [Im w h b T to h4 L F _ _ (by omega) (by have:=e;rw [Qz] at this;exact this) fun n hn=>by have:=hs (n+1) (by omega);rw [Qz] at this;exact this]
   simp;omega
theorem Up (w h:Int) (b T:List Int) (to:Int):∀F a out,walkN w h b T to F a out≠[]→∃L,L≤F∧itN (nuT w h T to) L a=to∧∀n,n<L→stepOk w h b T (itN (nuT w h T to) n a) to
 | 0,a,out,hne=>by
  unfold walkN at hne
  by_cases e:portOf w h T a to=4
  ·rw [if_pos e] at hne
   by_cases e2:a=to
   ·exact ⟨0,by omega,e2,fun n h=>by omega⟩
   ·rw [if_neg e2] at hne;exact absurd rfl hne
  ·rw [if_neg e] at hne;exact absurd rfl hne
 | F+1,a,out,hne=>by
  unfold walkN at hne
  by_cases e:portOf w h T a to=4
  ·rw [if_pos e] at hne
   by_cases e2:a=to
   ·exact ⟨0,by omega,e2,fun n h=>by omega⟩
   ·rw [if_neg e2] at hne;exact absurd rfl hne
  ·rw [if_neg e] at hne
   by_cases e2:stepOk w h b T a to
   ·rw [if_pos e2] at hne
    obtain ⟨L,h0,h1,h2⟩:=Up w h b T to F _ _ hne
    refine ⟨L+1,by omega,by rw [Qz];exact h1,fun n hn=>?_⟩
    cases n with
    | zero=>exact e2
    | succ n=>rw [Qz];exact h2 n (by omega)
   ·rw [if_neg e2] at hne;exact absurd rfl hne
structure Route (x:NetD) (s t c:Nat) (R:Nat→Nat) (L:Nat):Prop where
 r0:R 0=10*s+8+c
 rt:R L/10=t
 rs:∀n,n<L→∃p:Nat,p<4∧pO x (R n/10) c t=(p:Int)∧R (n+1)=tgt x (R n/10) p c∧hasP x (R n/10) p
 r4:pO x t c t=4
 ij:∀m n,m≤L→n≤L→R m/10=R n/10→m=n
 md:∀n,n≤L→R n%2=c
 lt:∀n,n≤L→R n<10*nC x
theorem Route.inj {x:NetD} {s t c:Nat} {R:Nat→Nat} {L:Nat} (r:Route x s t c R L):∀m n,m≤L→n≤L→R m=R n→m=n:=fun m n hm hn e=>r.ij m n hm hn (by rw [e])
def tabsOk (x:NetD):Prop:=∀c,c<2→tableOk x.1.1 x.1.2.1 x.1.2.2 (tabC x c)
theorem W9 {x:NetD} (h:classesOk x.1.1 x.1.2.1 x.1.2.2 x.2.1.1 x.2.1.2):tabsOk x:=fun c _=>by
 unfold tabC;split
 ·exact h.2
 ·exact h.1
theorem Sj {x:NetD} (h:tabsOk x) {t c:Nat} (ht:t<nC x) (hc:c<2):pO x t c t=4:=((h c hc).2 t ht t ht).1 rfl
theorem mg {x:NetD} (h:tabsOk x) {a t c:Nat} (ha:a<nC x) (ht:t<nC x) (hc:c<2) (e:pO x a c t=4):a=t:=by
 by_cases g:a=t
 ·exact g
 ·have:=((h c hc).2 a ha t ht).2 g
  have e':portOf x.1.1 x.1.2.1 (tabC x c) a t=4:=e
  unfold walk at this
  exfalso
  apply this
  cases hk:(cnt x.1.1 x.1.2.1).toNat with
  | zero=>unfold walkN;rw [if_pos e',if_neg (by omega)]
  | succ n=>unfold walkN;rw [if_pos e',if_neg (by omega)]
theorem Zg {x:NetD} (h:tabsOk x) {s t c:Nat} (hs:s<nC x) (ht:t<nC x) (hc:c<2):∃R L,Route x s t c R L:=by
 have hn:=Yj x
 have h4:=Sj h ht hc
 have key:∃L,itN (nuT x.1.1 x.1.2.1 (tabC x c) t) L s=t∧∀n,n<L→stepOk x.1.1 x.1.2.1 x.1.2.2 (tabC x c) (itN (nuT x.1.1 x.1.2.1 (tabC x c) t) n s) t:=by
  by_cases e:s=t
  ·exact ⟨0,by show (s:Int)=t;rw [e],fun n hn=>by omega⟩
  ·exact Rk _ _ _ _ _ _ _ _ (((h c hc).2 s hs t ht).2 e)
 obtain ⟨L,h1,h2⟩:=key
 generalize hg:nuT x.1.1 x.1.2.1 (tabC x c) t=g at *
 have hN:∀n,n≤L→0≤itN g n s∧itN g n s<nC x:=fun n hn'=>by
  cases n with
  | zero=>show 0≤(s:Int)∧(s:Int)<nC x;omega
  | succ n=>
   obtain ⟨k1,k2⟩:=h2 n (by omega)
   obtain ⟨_,_,k3,k4⟩:=Xl k1 k2
   have e:itN g (n+1) s=next x.1.1 x.1.2.1 (itN g n s) (portOf x.1.1 x.1.2.1 (tabC x c) (itN g n s) t):=by
    show g (itN g n s)=_
    rw [← hg];rfl
   rw [e];exact ⟨k3,by omega⟩
 have hne:∀n,n<L→itN g n s≠t:=fun n hn' e=>by
  have k1:=(h2 n hn').1
  rw [e] at k1
  have h4':portOf x.1.1 x.1.2.1 (tabC x c) t t=4:=h4
  rw [h4'] at k1
  unfold inR at k1;omega
 have hinj:∀m n,m<n→n≤L→itN g m s≠itN g n s:=fun m n hm hn' e=>by
  have e1:itN g (L-n+m) s=itN g (L-n+n) s:=by rw [Tn g m,Tn g n,e]
  rw [show L-n+n=L by omega,h1] at e1
  exact hne (L-n+m) (by omega) e1
 -- the buffers
 have hR:∃R:Nat→Nat,R 0=10*s+8+c∧∀n,R (n+1)=(10*itN g (n+1) s+2*opp (portOf x.1.1 x.1.2.1 (tabC x c) (itN g n s) t)+c).toNat:=
  ⟨fun n=>match n with|0=>10*s+8+c|n+1=>(10*itN g (n+1) s+2*opp (portOf x.1.1 x.1.2.1 (tabC x c) (itN g n s) t)+c).toNat,rfl,fun n=>rfl⟩
 obtain ⟨R,R0,RS⟩:=hR
 have hopp:∀n,n<L→0≤opp (portOf x.1.1 x.1.2.1 (tabC x c) (itN g n s) t)∧opp (portOf x.1.1 x.1.2.1 (tabC x c) (itN g n s) t)<4:=fun n hn'=>by
  have k1:=(h2 n hn').1
  unfold inR at k1
  unfold opp
  rw [if_neg (by omega),if_pos (by omega)]
  omega
 have hdiv:∀n,n≤L→((R n/10:Nat):Int)=itN g n s∧R n%2=c∧R n<10*nC x:=fun n hn'=>by
  cases n with
  | zero=>
   rw [R0]
   have:itN g 0 s=(s:Int):=rfl
   rw [this];omega
  | succ n=>
   rw [RS]
   have k1:=hopp n (by omega)
   have k2:=hN (n+1) hn'
   generalize opp (portOf x.1.1 x.1.2.1 (tabC x c) (itN g n s) t)=Op at *
   generalize itN g (n+1) s=N at *
   omega
 refine ⟨R,L,R0,?_,fun n hn'=>?_,h4,fun m n hm hn' e=>?_,fun n hn'=>(hdiv n hn').2.1,fun n hn'=>(hdiv n hn').2.2⟩
 ·have:=(hdiv L (by omega)).1
  rw [h1] at this;omega
 ·obtain ⟨k1,k2⟩:=h2 n hn'
  have e:=(hdiv n (by omega)).1
  unfold inR at k1
  refine ⟨(portOf x.1.1 x.1.2.1 (tabC x c) (itN g n s) t).toNat,by omega,?_,?_⟩
  ·unfold pO;rw [e];omega
  ·rw [RS]
   unfold tgt
   have e2:(((portOf x.1.1 x.1.2.1 (tabC x c) (itN g n s) t).toNat:Nat):Int)=portOf x.1.1 x.1.2.1 (tabC x c) (itN g n s) t:=by omega
   rw [e,e2]
   have e3:itN g (n+1) s=next x.1.1 x.1.2.1 (itN g n s) (portOf x.1.1 x.1.2.1 (tabC x c) (itN g n s) t):=by
    show g (itN g n s)=_
    rw [← hg];rfl
   refine ⟨by rw [e3],?_⟩
   unfold hasP;rw [e,e2];exact k2
 ·have a1:=(hdiv m hm).1
  have a2:=(hdiv n hn').1
  rw [e,a2] at a1
  rcases Nat.lt_trichotomy m n with k|k|k
  ·exact absurd a1.symm (hinj m n k hn')
  ·exact k
  ·exact absurd a1 (hinj n m k hm)
def cat (g:Nat→List FlitD):Nat→List FlitD
 | 0=>g 0
 | n+1=>g (n+1)++cat g n
theorem Zd {g g':Nat→List FlitD}:∀L,(∀n,n≤L→g' n=g n)→cat g' L=cat g L
 | 0,h=>h 0 (by omega)
 | L+1,h=>by unfold cat;rw [h (L+1) (by omega),Zd L (fun n hn=>h n (by omega))]
theorem Bb {g g':Nat→List FlitD} {y:FlitD}:∀n,g n=y::g' n→(∀m,m<n→g' m=g m)→cat g n=y::cat g' n
 | 0,h,_=>h
 | n+1,h,k=>by unfold cat;rw [h,Zd n (fun m hm=>k m (by omega))];rfl
theorem Ch {g g':Nat→List FlitD} {y:FlitD} (h:g' 0=g 0++[y]):∀L,(∀m,0<m→m≤L→g' m=g m)→cat g' L=cat g L++[y]
 | 0,_=>h
 | L+1,k=>by unfold cat;rw [k (L+1) (by omega) (by omega),Ch h L (fun m hm hl=>k m hm (by omega)),List.append_assoc]
theorem It {g g':Nat→List FlitD} {y:FlitD} {n:Nat} (h1:g n=y::g' n) (h2:g' (n+1)=g (n+1)++[y]):∀L,n<L→(∀m,m≤L→m≠n→m≠n+1→g' m=g m)→cat g' L=cat g L
 | 0,h,_=>by omega
 | L+1,h,k=>by
  by_cases e:L=n
  ·subst e
   have:=Bb (g:=g) (g':=g') L h1 (fun m hm=>k m (by omega) (by omega) (by omega))
   unfold cat
   rw [h2,this,List.append_assoc];rfl
  ·unfold cat
   rw [k (L+1) (by omega) (by omega) (by omega),It h1 h2 L (by omega) (fun m hm=>k m (by omega))]
def inF (list:List PkD) (s t c:Nat) (y:FlitD):Bool:=decide (sentP list y.1 s t c)
def flowFl (x:NetD) (list:List PkD) (s t c:Nat):List FlitD:=(list.filter fun p=>isFlow s t c p).flatMap (flitsOf x.1.1 x.1.2.1)
def Gen (list:List PkD) (y:FlitD):Prop:=∃p∈list,p.1=y.1∧p.2.2.1=y.2.1∧p.2.2.2.1=y.2.2.1
def Uniq (list:List PkD):Prop:=∀p∈list,∀q∈list,p.1=q.1→p=q
theorem Dj {list:List PkD} (u:Uniq list) {y:FlitD} (g:Gen list y) {s t c:Nat} (h:inF list s t c y=true):y.2.1=(t:Int)∧y.2.2.1=(c:Int):=by
 obtain ⟨p,hp,e1,e2,e3⟩:=g
 have h:sentP list y.1 s t c:=by simpa [inF] using h
 obtain ⟨q,hq,f1,f2,f3,f4⟩:=h
 have:=u p hp q hq (e1.trans f1.symm)
 subst this
 exact ⟨e2.symm.trans f3,e3.symm.trans f4⟩
structure Flow (x:NetD) (list:List PkD) (B A S:SSD) (s t c:Nat) (R:Nat→Nat) (L:Nat):Prop where
 z1:(A.getD t []).filter (inF list s t c)++(cat (fun n=>(B.getD (R n) []).filter (inF list s t c)) L++(S.getD s []).filter (inF list s t c))=flowFl x list s t c
 z2:∀j y,y∈B.getD j []→inF list s t c y=true→∃n,n≤L∧j=R n
 z3:∀k y,y∈S.getD k []→inF list s t c y=true→k=s
theorem C9 {B:SSD} {j:Nat} {y:FlitD} {r:List FlitD} (hj:B.getD j []=y::r):j<B.length:=by
 by_cases h:j<B.length
 ·exact h
 ·simp [List.getD_eq_getElem?_getD,List.getElem?_eq_none (Nat.le_of_not_lt h)] at hj
theorem O6 {B:SSD} {j:Nat} {y:FlitD} {r:List FlitD} {P:FlitD→Bool} (hj:B.getD j []=y::r) (hP:P y=false) (j':Nat):((upd B j (List.drop 1)).getD j' []).filter P=(B.getD j' []).filter P:=by
 by_cases e:j=j'
 ·subst e;rw [Wn _ (C9 hj),hj];simp [hP]
 ·rw [Qy _ e]
theorem Sy {P:FlitD→Bool} {y:FlitD} (hP:P y=false) (B:SSD) (j j':Nat):((upd B j (·++[y])).getD j' []).filter P=(B.getD j' []).filter P:=by
 by_cases e:j=j'
 ·subst e
  by_cases hl:j<B.length
  ·rw [Wn _ hl];simp [hP]
  ·unfold upd;rw [List.set_eq_of_length_le (Nat.le_of_not_lt hl)]
 ·rw [Qy _ e]
theorem W8 {B:SSD} {j j':Nat} {z:FlitD} (h:z∈(upd B j (List.drop 1)).getD j' []):z∈B.getD j' []:=by
 by_cases e:j=j'
 ·subst e
  by_cases hl:j<B.length
  ·rw [Wn _ hl] at h;exact List.mem_of_mem_drop h
  ·unfold upd at h;rwa [List.set_eq_of_length_le (Nat.le_of_not_lt hl)] at h
 ·rwa [Qy _ e] at h
theorem W4 {B:SSD} {j j':Nat} {y z:FlitD} (h:z∈(upd B j (·++[y])).getD j' []):z∈B.getD j' []∨(j'=j∧z=y):=by
 by_cases e:j=j'
 ·subst e
  by_cases hl:j<B.length
  ·rw [Wn _ hl] at h
   rcases List.mem_append.1 h with h|h
   ·exact .inl h
   ·exact .inr ⟨rfl,List.mem_singleton.1 h⟩
  ·unfold upd at h;rw [List.set_eq_of_length_le (Nat.le_of_not_lt hl)] at h;exact .inl h
 ·rw [Qy _ e] at h;exact .inl h
theorem Flow.move {x:NetD} {list:List PkD} {B A S:SSD} {O:List Int} {s t c:Nat} {R:Nat→Nat} {L:Nat} (z:Flow x list B A S s t c R L) (rt:Route x s t c R L) (hl:B.length=10*nC x) (hA:A.length=nC x)
 (u:Uniq list) (gB:∀j y,y∈B.getD j []→Gen list y) {a p i:Nat} {y:FlitD} {r:List FlitD} (k:Can x B O a p i y r) (hport:pO x a (i%2) y.2.1=(p:Int)) :
 Flow x list (mvB x B a p i y) (mvA A a p y) S s t c R L:=by
 obtain ⟨ha,hp,hi,hj,hd,bd,room⟩:=k
 by_cases hP:inF list s t c y=true
 ·obtain ⟨e1,e2⟩:=Dj u (gB _ y (by rw [hj];exact List.mem_cons_self ..)) hP
  obtain ⟨n,hn,en⟩:=z.z2 _ y (by rw [hj];exact List.mem_cons_self ..) hP
  have m1:=rt.md n hn
  have ea:R n/10=a:=by omega
  have ec:i%2=c:=by omega
  subst ec
  rw [e1] at hport
  have hlt:=rt.lt n hn
  rw [en] at hj
  rcases Nat.lt_or_ge n L with hL|hL
  ·obtain ⟨p',p1,p2,p3,_⟩:=rt.rs n hL
   rw [ea] at p2 p3
   have:p'=p:=by have:=p2.symm.trans hport;omega
   subst this
   have h4:¬p'=4:=by omega
   have hne:R n≠R (n+1):=fun e=>by have:=rt.inj n (n+1) hn (by omega) e;omega
   have hlt2:=rt.lt (n+1) (by omega)
   unfold mvB mvA
   rw [if_neg h4,if_neg h4,en,← p3]
   refine ⟨?_,fun j w hw hF=>?_,z.z3⟩
   ·rw [← z.z1]
    congr 2
    refine It (n:=n) (y:=y) ?_ ?_ L hL fun m hm m1 m2=>?_
    ·show (B.getD (R n) []).filter _=y::(((upd (upd B (R n) (List.drop 1)) (R (n+1)) (·++[y])).getD (R n) []).filter _)
     rw [Qy _ (fun e=>hne e.symm),Wn _ (by omega),hj,List.filter_cons_of_pos hP];rfl
    ·show (((upd (upd B (R n) (List.drop 1)) (R (n+1)) (·++[y])).getD (R (n+1)) []).filter _)=(B.getD (R (n+1)) []).filter _++[y]
     rw [Wn _ (by rw [Z8];omega),Qy _ hne,List.filter_append,List.filter_cons_of_pos hP];rfl
    ·show (((upd (upd B (R n) (List.drop 1)) (R (n+1)) (·++[y])).getD (R m) []).filter _)=(B.getD (R m) []).filter _
     rw [Qy _ (fun e=>m2 (rt.inj (n+1) m (by omega) hm e).symm),Qy _ (fun e=>m1 (rt.inj n m hn hm e).symm)]
   ·rcases W4 hw with hw|⟨rfl,rfl⟩
    ·exact z.z2 j w (W8 hw) hF
    ·exact ⟨n+1,by omega,rfl⟩
  ·have eL:n=L:=by omega
   subst eL
   have et:=rt.rt
   rw [ea] at et
   subst et
   have h4:p=4:=by have:=rt.r4;rw [this] at hport;omega
   subst h4
   unfold mvB mvA
   rw [if_pos rfl,if_pos rfl,en]
   refine ⟨?_,fun j w hw hF=>z.z2 j w (W8 hw) hF,z.z3⟩
   rw [← z.z1,Wn _ (by omega),List.filter_append,List.filter_cons_of_pos hP]
   have ct:=Bb (g:=fun m=>(B.getD (R m) []).filter (inF list s a (i%2))) (g':=fun m=>((upd B (R n) (List.drop 1)).getD (R m) []).filter (inF list s a (i%2))) (y:=y) n ?_ fun m hm=>?_
   ·rw [ct];simp
   ·show (B.getD (R n) []).filter _=y::(((upd B (R n) (List.drop 1)).getD (R n) []).filter _)
    rw [Wn _ (by omega),hj,List.filter_cons_of_pos hP];rfl
   ·show (((upd B (R n) (List.drop 1)).getD (R m) []).filter _)=(B.getD (R m) []).filter _
    rw [Qy _ (fun e=>by have:=rt.inj n m hn (by omega) e;omega)]
 ·have hP:inF list s t c y=false:=by simpa using hP
  have eB:∀j,((mvB x B a p i y).getD j []).filter (inF list s t c)=(B.getD j []).filter (inF list s t c):=fun j=>by
   unfold mvB;split
   ·exact O6 hj hP j
   ·rw [Sy hP,O6 hj hP]
  have eA:((mvA A a p y).getD t []).filter (inF list s t c)=(A.getD t []).filter (inF list s t c):=by
   unfold mvA;split
   ·exact Sy hP A a t
   ·rfl
  refine ⟨?_,fun j w hw hF=>?_,z.z3⟩
  ·rw [eA,← z.z1]
   congr 2
   exact Zd L fun m _=>eB (R m)
  ·unfold mvB at hw
   split at hw
   ·exact z.z2 j w (W8 hw) hF
   ·rcases W4 hw with hw|⟨rfl,rfl⟩
    ·exact z.z2 j w (W8 hw) hF
    ·rw [hP] at hF;exact absurd hF (by simp)
theorem Flow.enter {x:NetD} {list:List PkD} {B A S:SSD} {s t c:Nat} {R:Nat→Nat} {L:Nat} (z:Flow x list B A S s t c R L) (rt:Route x s t c R L) (hl:B.length=10*nC x)
 (u:Uniq list) (gS:∀j y,y∈S.getD j []→Gen list y) {k c0:Nat} {y:FlitD} {r:List FlitD} (hk:k<nC x) (hc:c0<2) (ec:y.2.2.1=(c0:Int)) (hj:S.getD k []=y::r) :
 Flow x list (upd B (10*k+8+c0) (·++[y])) A (upd S k (List.drop 1)) s t c R L:=by
 by_cases hP:inF list s t c y=true
 ·obtain ⟨e1,e2⟩:=Dj u (gS _ y (by rw [hj];exact List.mem_cons_self ..)) hP
  have es:=z.z3 k y (by rw [hj];exact List.mem_cons_self ..) hP
  subst es
  have:c0=c:=by omega
  subst this
  have l0:=rt.lt 0 (by omega)
  rw [← rt.r0]
  refine ⟨?_,fun j w hw hF=>?_,fun j w hw hF=>z.z3 j w (W8 hw) hF⟩
  ·rw [← z.z1,Wn _ (C9 hj),hj,List.filter_cons_of_pos hP]
   rw [Ch (g:=fun m=>(B.getD (R m) []).filter (inF list k t c0)) (y:=y) ?_ L fun m hm hl'=>?_]
   ·simp
   ·show (((upd B (R 0) (·++[y])).getD (R 0) []).filter _)=(B.getD (R 0) []).filter _++[y]
    rw [Wn _ (by omega),List.filter_append,List.filter_cons_of_pos hP];rfl
   ·show (((upd B (R 0) (·++[y])).getD (R m) []).filter _)=(B.getD (R m) []).filter _
    rw [Qy _ (fun e=>by have:=rt.inj 0 m (by omega) hl' e;omega)]
  ·rcases W4 hw with hw|⟨rfl,rfl⟩
   ·exact z.z2 j w hw hF
   ·exact ⟨0,by omega,rfl⟩
 ·have hP:inF list s t c y=false:=by simpa using hP
  refine ⟨?_,fun j w hw hF=>?_,fun j w hw hF=>z.z3 j w (W8 hw) hF⟩
  ·rw [← z.z1,O6 hj hP]
   congr 2
   exact Zd L fun m _=>Sy hP B _ (R m)
  ·rcases W4 hw with hw|⟨rfl,rfl⟩
   ·exact z.z2 j w hw hF
   ·rw [hP] at hF;exact absurd hF (by simp)
def Src (x:NetD) (j:Nat):Prop:=(∃a p c,a<nC x∧p<4∧c<2∧hasP x a p∧j=tgt x a p c)∨∃k c,k<nC x∧c<2∧j=10*k+8+c
structure Pos (x:NetD) (list:List PkD) (fr sr:Nat→Option Key):Prop where
 gf:∀j (k:Key),fr j=some k→∃p∈list,p.1=k.1∧p.2.2.1=k.2.1∧p.2.2.2.1=k.2.2
 gs:∀j (k:Key),sr j=some k→∃p∈list,p.1=k.1∧p.2.2.1=k.2.1∧p.2.2.2.1=k.2.2
 pf:∀(s t c:Nat) R L,s<nC x→t<nC x→c<2→Route x s t c R L→∀j (k:Key),fr j=some k→sentP list k.1 s t c→∃n,n≤L∧j=R n
 ps:∀(s t c:Nat),s<nC x→t<nC x→c<2→∀j (k:Key),sr j=some k→sentP list k.1 s t c→j=s
structure Good (x:NetD) (list:List PkD) (B:SSD) (O:List Int) (A S:SSD):Prop where
 lB:B.length=10*nC x
 lO:O.length=10*nC x
 lA:A.length=nC x
 lS:S.length=nC x
 cl:allP (fun j y=>y.2.2.1=(j:Int)%2) B
 gB:∀j y,y∈B.getD j []→Gen list y
 gS:∀j y,y∈S.getD j []→Gen list y
 gA:∀(t:Nat) y,y∈A.getD t []→Gen list y∧y.2.1=(t:Int)
 rc:∀j,B.getD j []≠[]→Src x j
 wf:∃st fr sr,Wf x B O A S st fr sr∧Pos x list fr sr
 fl:∀s t c R L,s<nC x→t<nC x→c<2→Route x s t c R L→Flow x list B A S s t c R L
structure Sent (x:NetD) (list:List PkD):Prop where
 u:Uniq list
 ok:∀p∈list,packetOk x.1.1 x.1.2.1 p
theorem Lk {x:NetD} {list:List PkD} (h:Sent x list) {y:FlitD} (g:Gen list y):∃t c:Nat,t<nC x∧c<2∧y.2.1=(t:Int)∧y.2.2.1=(c:Int):=by
 obtain ⟨p,hp,_,e2,e3⟩:=g
 obtain ⟨_,_,⟨k1,k2⟩,_,k3,_⟩:=h.ok p hp
 have:=Yj x
 unfold inR at k3
 exact ⟨p.2.2.1.toNat,p.2.2.2.1.toNat,by omega,by omega,by omega,by omega⟩
theorem Good.move {x:NetD} {list:List PkD} {B:SSD} {O:List Int} {A S:SSD} (g:Good x list B O A S) (h:Sent x list) (tk:tabsOk x) {a p i:Nat} {y:FlitD} {r:List FlitD} (k:Can x B O a p i y r) :
 Good x list (mvB x B a p i y) (mvO O a p i y) (mvA A a p y) S:=by
 obtain ⟨st,fr,sr,w,ps⟩:=g.wf
 have hj:=k.hj
 have hm:y∈B.getD (10*a+i) []:=by rw [hj];exact List.mem_cons_self ..
 have hs:∃u,Str (fr (10*a+i)) (y::r) u:=by
  rcases g.rc (10*a+i) (by rw [hj];simp) with ⟨a',p',c',h1,h2,h3,h4,e⟩|⟨k',c',h1,h2,e⟩
  ·have:=w.w4 a' p' c' h1 h2 h3 h4
   rw [← e,hj] at this;exact ⟨_,this⟩
  ·have:=w.w5 k' c' h1 h2
   rw [← e,hj] at this;exact ⟨_,this⟩
 obtain ⟨hport,w'⟩:=w.move g.lB g.lO g.lA g.cl k hs
 have pos':Pos x list (setF fr (10*a+i) (nx y)) sr:=by
  refine ⟨fun j q e=>?_,ps.gs,fun s t c R L h1 h2 h3 rt j q e hq=>?_,ps.ps⟩
  ·by_cases ej:j=10*a+i
   ·subst ej
    rw [Xc] at e
    obtain ⟨_,rfl⟩:=Y1 e
    exact g.gB _ y hm
   ·rw [Wx _ _ ej] at e;exact ps.gf j q e
  ·by_cases ej:j=10*a+i
   ·subst ej
    rw [Xc] at e
    obtain ⟨_,rfl⟩:=Y1 e
    exact (g.fl s t c R L h1 h2 h3 rt).z2 _ y hm (by unfold inF;rw [decide_eq_true_eq];exact hq)
   ·rw [Wx _ _ ej] at e;exact ps.pf s t c R L h1 h2 h3 rt j q e hq
 obtain ⟨t0,c0,ht,hc0,et,ec⟩:=Lk h (g.gB _ y hm)
 have ci:=g.cl _ y hm
 have ha:=k.ha
 have hi:=k.hi
 have hp:=k.hp
 have hA:p=4→y.2.1=(a:Int):=fun e=>by
  subst e
  rw [et] at hport
  have:=mg tk ha ht (by omega) hport
  omega
 refine ⟨?_,?_,?_,g.lS,fun j z hz=>?_,fun j z hz=>?_,g.gS,fun t z hz=>?_,fun j hne=>?_,⟨_,_,sr,w',pos'⟩,fun s t c R L h1 h2 h3 rt=>(g.fl s t c R L h1 h2 h3 rt).move rt g.lB g.lA h.u g.gB k hport⟩
 ·unfold mvB;split<;>simp [g.lB]
 ·unfold mvO;simp [g.lO]
 ·unfold mvA;split<;>simp [g.lA]
 ·unfold mvB at hz
  split at hz
  ·exact g.cl j z (W8 hz)
  ·rename_i h4
   rcases W4 hz with hz|⟨rfl,rfl⟩
   ·exact g.cl j z (W8 hz)
   ·have:=(Y9 (c:=i%2) (k.room.resolve_left h4) (by omega) (by omega)).2.1
    rw [ci];omega
 ·unfold mvB at hz
  split at hz
  ·exact g.gB j z (W8 hz)
  ·rcases W4 hz with hz|⟨rfl,rfl⟩
   ·exact g.gB j z (W8 hz)
   ·exact g.gB _ _ hm
 ·unfold mvA at hz
  split at hz
  ·rename_i h4
   rcases W4 hz with hz|⟨rfl,rfl⟩
   ·exact g.gA t z hz
   ·exact ⟨g.gB _ _ hm,hA h4⟩
  ·exact g.gA t z hz
 ·obtain ⟨z,hz⟩:=List.exists_mem_of_ne_nil _ hne
  unfold mvB at hz
  split at hz
  ·exact g.rc j (List.ne_nil_of_mem (W8 hz))
  ·rename_i h4
   rcases W4 hz with hz|⟨rfl,rfl⟩
   ·exact g.rc j (List.ne_nil_of_mem (W8 hz))
   ·exact .inl ⟨a,p,i%2,ha,by omega,by omega,k.room.resolve_left h4,rfl⟩
theorem Good.enter {x:NetD} {list:List PkD} {B:SSD} {O:List Int} {A S:SSD} (g:Good x list B O A S) (h:Sent x list) (tk:tabsOk x) {k c:Nat} {y:FlitD} {r:List FlitD} (hk:k<nC x) (hc:c<2) (ec:y.2.2.1=(c:Int)) (hj:S.getD k []=y::r) :
 Good x list (upd B (10*k+8+c) (·++[y])) O A (upd S k (List.drop 1)):=by
 obtain ⟨st,fr,sr,w,ps⟩:=g.wf
 have w':=w.enter g.lB g.lS hk hc ec hj
 have hm:y∈S.getD k []:=by rw [hj];exact List.mem_cons_self ..
 have tk:tabsOk x:=tk
 have pos':Pos x list fr (setF sr k (nx y)):=by
  refine ⟨ps.gf,fun j q e=>?_,ps.pf,fun s t c' h1 h2 h3 j q e hq=>?_⟩
  ·by_cases ej:j=k
   ·subst ej
    rw [Xc] at e
    obtain ⟨_,rfl⟩:=Y1 e
    exact g.gS _ y hm
   ·rw [Wx _ _ ej] at e;exact ps.gs j q e
  ·by_cases ej:j=k
   ·subst ej
    rw [Xc] at e
    obtain ⟨_,rfl⟩:=Y1 e
    obtain ⟨R,L,rt⟩:=Zg tk h1 h2 h3
    exact (g.fl s t c' R L h1 h2 h3 rt).z3 _ y hm (by unfold inF;rw [decide_eq_true_eq];exact hq)
   ·rw [Wx _ _ ej] at e;exact ps.ps s t c' h1 h2 h3 j q e hq
 refine ⟨by simp [g.lB],g.lO,g.lA,by simp [g.lS],fun j z hz=>?_,fun j z hz=>?_,fun j z hz=>g.gS j z (W8 hz),g.gA,fun j hne=>?_,⟨_,_,_,w',pos'⟩,fun s t c' R L h1 h2 h3 rt=>(g.fl s t c' R L h1 h2 h3 rt).enter rt g.lB h.u g.gS hk hc ec hj⟩
 ·rcases W4 hz with hz|⟨rfl,rfl⟩
  ·exact g.cl j z hz
  ·rw [ec];omega
 ·rcases W4 hz with hz|⟨rfl,rfl⟩
  ·exact g.gB j z hz
  ·exact g.gS _ _ hm
 ·obtain ⟨z,hz⟩:=List.exists_mem_of_ne_nil _ hne
  rcases W4 hz with hz|⟨rfl,rfl⟩
  ·exact g.rc j (List.ne_nil_of_mem hz)
  ·exact .inr ⟨k,c,hk,hc,rfl⟩
def stat (x:NetD):NetD:=(x.1,x.2.1,[],[],[],[],[],0)
theorem X1 {l:List FlitD} (h:l≠[]):l=headL l::l.drop 1:=by
 cases l with
 | nil=>exact absurd rfl h
 | cons a l=>rfl
def Fits (x:NetD) (B:SSD) (O:List Int) (g:GrD):Prop:=B.getD (frm g) []≠[]∧headL (B.getD (frm g) [])=headOf x (frm g)∧O.getD (outAt g.1 g.2.1 (g.2.2%2)) 0=x.2.2.2.1.getD (outAt g.1 g.2.1 (g.2.2%2)) 0
theorem F7 {x:NetD} {B:SSD} {O:List Int} {g:GrD} (hg:g.1<nC x∧g.2.1<5∧g.2.2<10∧reqN x g.1 g.2.2 g.2.1) (f:Fits x B O g):Can (stat x) B O g.1 g.2.1 g.2.2 (headOf x (frm g)) ((B.getD (frm g) []).drop 1):=by
 obtain ⟨h1,h2,h3,r1,r2,r3⟩:=hg
 obtain ⟨f1,f2,f3⟩:=f
 have hB:=X1 f1
 rw [f2] at hB
 rw [r3] at f3
 have hne:x.2.2.1.getD (10*g.1+g.2.2) []≠[]:=fun e=>by
  unfold wantedN at r1;rw [if_pos e] at r1;omega
 refine ⟨h1,h2,h3,hB,fun e=>?_,fun e=>?_,?_⟩
 ·have e':(headOf x (10*g.1+g.2.2)).2.2.2.1=true:=e
  unfold wantedN at r1
  rw [if_neg hne,if_pos e'] at r1
  rw [if_pos e'] at f3
  exact ⟨r1,f3⟩
 ·have e':(headOf x (10*g.1+g.2.2)).2.2.2.1=false:=e
  rw [if_neg (by simp [e'])] at f3
  exact f3
 ·rcases r2 with e|⟨e,_⟩
  ·exact .inl e
  ·exact .inr e
theorem Lj (x:NetD) (B:SSD) (g:GrD):bothS x B g=mvB (stat x) B g.1 g.2.1 g.2.2 (headOf x (frm g)):=by
 unfold bothS pushS mvB popS
 split<;>rfl
theorem yj (x:NetD) (A:SSD) (g:GrD):arrS x A g=mvA A g.1 g.2.1 (headOf x (frm g)):=rfl
theorem zj (x:NetD) (O:List Int) (g:GrD):ownS x O g=mvO O g.1 g.2.1 g.2.2 (headOf x (frm g)):=rfl
theorem Ri {B:SSD} {j k:Nat} {y:FlitD} (h:B.getD j []≠[]):(upd B k (·++[y])).getD j []≠[]∧headL ((upd B k (·++[y])).getD j [])=headL (B.getD j []):=by
 by_cases e:k=j
 ·subst e
  by_cases hl:k<B.length
  ·rw [Wn _ hl]
   cases hh:B.getD k [] with
   | nil=>exact absurd hh h
   | cons a l=>exact ⟨by simp,rfl⟩
  ·unfold upd;rw [List.set_eq_of_length_le (Nat.le_of_not_lt hl)];exact ⟨h,rfl⟩
 ·rw [Qy _ e];exact ⟨h,rfl⟩
theorem Good.grants {x:NetD} {list:List PkD} (h:Sent (stat x) list) (tk:tabsOk (stat x)):∀(l:List GrD) {B:SSD} {O:List Int} {A S:SSD},Good (stat x) list B O A S→(l.map frm).Nodup→(l.map key).Nodup→(∀g∈l,(g.1<nC x∧g.2.1<5∧g.2.2<10∧reqN x g.1 g.2.2 g.2.1)∧Fits x B O g)→
 Good (stat x) list (l.foldl (bothS x) B) (l.foldl (ownS x) O) (l.foldl (arrS x) A) S
 | [],B,O,A,S,g,_,_,_=>g
 | a::l,B,O,A,S,g,n1,n2,hf=>by
  obtain ⟨p1,p2⟩:=List.nodup_cons.1 n1
  obtain ⟨q1,q2⟩:=List.nodup_cons.1 n2
  obtain ⟨ha,fa⟩:=hf a (List.mem_cons_self ..)
  have g':=g.move h tk (F7 ha fa)
  rw [← Lj,← zj,← yj] at g'
  simp only [List.foldl_cons]
  refine Good.grants h tk l g' p2 q2 fun b hb=>?_
  obtain ⟨hb1,f1,f2,f3⟩:=hf b (List.mem_cons_of_mem _ hb)
  have e1:frm a≠frm b:=fun e=>p1 (e▸List.mem_map_of_mem hb)
  have e2:key a≠key b:=fun e=>q1 (e▸List.mem_map_of_mem hb)
  refine ⟨hb1,?_⟩
  have k1:(popS B a).getD (frm b) []=B.getD (frm b) []:=Qy _ e1
  have k2:(ownS x O a).getD (outAt b.1 b.2.1 (b.2.2%2)) 0=O.getD (outAt b.1 b.2.1 (b.2.2%2)) 0:=by
   have hne:outAt a.1 a.2.1 (a.2.2%2)≠outAt b.1 b.2.1 (b.2.2%2):=fun e=>by
    obtain ⟨c1,c2,_⟩:=T1 ha.2.1 hb1.2.1 (by omega) (by omega) e
    exact e2 (by unfold key;rw [c1,c2])
   unfold ownS
   simp only [List.getD_eq_getElem?_getD]
   rw [List.getElem?_set_ne hne]
  have k3:(bothS x B a).getD (frm b) []≠[]∧headL ((bothS x B a).getD (frm b) [])=headL (B.getD (frm b) []):=by
   unfold bothS pushS
   split
   ·rw [k1];exact ⟨f1,rfl⟩
   ·have:=Ri (B:=popS B a) (j:=frm b) (k:=tgt x a.1 a.2.1 (a.2.2%2)) (y:=headOf x (frm a)) (by rw [k1];exact f1)
    rw [k1] at this;exact this
  exact ⟨k3.1,k3.2.trans f2,k2.trans f3⟩
theorem Good.enters {x:NetD} {list:List PkD} (h:Sent (stat x) list) (tk:tabsOk (stat x)):∀(l:List Nat) {B:SSD} {O:List Int} {A S:SSD},Good (stat x) list B O A S→l.Nodup→(∀k∈l,k<nC x∧S.getD k []≠[]∧headL (S.getD k [])=srcHead x k)→
 Good (stat x) list (l.foldl (entS x) B) O A (l.foldl srcS S)
 | [],B,O,A,S,g,_,_=>g
 | k::l,B,O,A,S,g,n,hf=>by
  obtain ⟨p1,p2⟩:=List.nodup_cons.1 n
  obtain ⟨hk,f1,f2⟩:=hf k (List.mem_cons_self ..)
  have hS:=X1 f1
  rw [f2] at hS
  obtain ⟨t,c,_,hc,_,ec⟩:=Lk h (g.gS k (srcHead x k) (by rw [hS];exact List.mem_cons_self ..))
  have g':=g.enter h tk (k:=k) (c:=c) hk hc ec hS
  have e1:entAt x k=10*k+8+c:=by unfold entAt;rw [ec];omega
  have e2:entS x B k=upd B (10*k+8+c) (·++[srcHead x k]):=by unfold entS;rw [e1]
  have e3:srcS S k=upd S k (List.drop 1):=rfl
  rw [← e2,← e3] at g'
  simp only [List.foldl_cons]
  refine Good.enters h tk l g' p2 fun j hj=>?_
  obtain ⟨c1,c2,c3⟩:=hf j (List.mem_cons_of_mem _ hj)
  have hne:k≠j:=fun e=>p1 (e▸hj)
  refine ⟨c1,?_⟩
  have:(srcS S k).getD j []=S.getD j []:=Qy _ hne
  rw [this];exact ⟨c2,c3⟩
def GoodN (x:NetD) (list:List PkD):Prop:=Good (stat x) list x.2.2.1 x.2.2.2.1 x.2.2.2.2.2.2.1 x.2.2.2.2.2.1
theorem Aa {x:NetD} {list:List PkD} (hc:classesOk x.1.1 x.1.2.1 x.1.2.2 x.2.1.1 x.2.1.2) (h:Sent (stat x) list) (g:GoodN x list):GoodN (stepN x) list:=by
 have tk:tabsOk (stat x):=W9 (x:=stat x) hc
 have hg:∀a∈allN x,a.1<nC x∧a.2.1<5∧a.2.2<10∧reqN x a.1 a.2.2 a.2.1:=fun a ha=>by
  obtain ⟨h1,h2⟩:=Yl ha
  have:=Yj x
  exact ⟨by omega,h2⟩
 have k1:Good (stat x) list ((allN x).foldl (bothS x) x.2.2.1) ((allN x).foldl (ownS x) x.2.2.2.1) ((allN x).foldl (arrS x) x.2.2.2.2.2.2.1) x.2.2.2.2.2.1:=
  Good.grants h tk (allN x) g (Zu x) (Yx x _) fun a ha=>⟨hg a ha,Td (hg a ha).2.2.2,rfl,rfl⟩
 rw [L3 x (allN x) x.2.2.1 (Zu x) fun a ha=>Td (hg a ha).2.2.2] at k1
 exact Good.enters h tk (enterN x) k1 (Vi x) fun k hk=>by
  obtain ⟨h1,h2⟩:=Xe hk
  have:=Yj x
  exact ⟨by omega,h2.1,rfl⟩
theorem Zl {x:NetD} {list:List PkD} (hc:classesOk x.1.1 x.1.2.1 x.1.2.2 x.2.1.1 x.2.1.2) (h:Sent (stat x) list) (g:GoodN x list):∀k,(stat (runN x k)=stat x)∧GoodN (runN x k) list
 | 0=>⟨rfl,g⟩
 | k+1=>by
  obtain ⟨e,ih⟩:=Zl hc h g k
  have e1':(stat (runN x k)).1=(stat x).1:=by rw [e]
  have e2':(stat (runN x k)).2.1=(stat x).2.1:=by rw [e]
  have e1:(runN x k).1=x.1:=e1'
  have e2:(runN x k).2.1=x.2.1:=e2'
  refine ⟨e,Aa (x:=runN x k) (by rw [e1,e2];exact hc) (by rw [e];exact h) ih⟩
end Go.Proofs.YtaldglgobgjeaaaGreat.V
set_option linter.all false
namespace Go.Proofs.YtaldglgobgjeaaaGreat.V
open Go Go.VM Go.Proofs
set_option maxRecDepth 10000
variable {frz:Nat} {H:Heap}
def fresh (x:NetD) (m:MeshD) (t:ClassesD):NetD:=(m,t,x.2.2.1,List.replicate x.2.2.2.1.length (-1),List.replicate x.2.2.2.2.1.length 0,x.2.2.2.2.2.1,x.2.2.2.2.2.2.1,x.2.2.2.2.2.2.2)
theorem Ce {xs:List Int} {z:Int} {i:Nat} (h:i<xs.length):(List.replicate i z++xs.drop i).set i z=List.replicate (i+1) z++xs.drop (i+1):=by
 rw [List.set_append_right _ _ (by simp),List.length_replicate,Nat.sub_self,List.drop_eq_getElem_cons h,List.set_cons_zero,List.replicate_succ']
 simp
theorem Fk {v:NetV} {x:NetD} {vm:Value} {w' h':Int} {b':List Int} {vc:Value×Value} {c':ClassesD} (o:dNet.Ow H v x) (om:dMesh.Ow H vm (w',h',b')) (oc:dClasses.Ow H vc c') :
 wp (vcall C frz 38 [dNet.val v x,.agg #[.int .i64 w',.int .i64 h',vm],.agg #[vc.1,vc.2]] H) (dNet.Made H (fresh x (w',h',b') c')):=by
 have ones:=Qk o
 have onem:=Xb om
 have onec:=Q5 oc
 have ecopy:=fun L=>Vr (frz:=H.length) (H:=H++L) (v:=v) (x:=x) (Dt.app (T:=dNet) o)
 obtain ⟨u2,⟨u3,u4⟩,⟨u5,h5⟩,u6,u7,⟨u8,h8⟩,⟨u9,h9⟩,_⟩:=v
 obtain ⟨⟨w,h,b⟩,⟨A,B⟩,buf,own,turn,src,arr,tm⟩:=x
 simp only at ones
 simp only [Ql] at ecopy ⊢
 rw [Qa (fn:=Tryz.f38) Tryz.func38 rfl (by kernel_rfl) rfl]
 simp [ones,onem,onec]
 refine Qd (ecopy _) ?_
 rintro _ K1 ⟨n,rfl,o1,c1,m1,d1⟩
 clear ecopy
 have bM:K1[H.length+1]? = some ⟨[.int .i64 w',.int .i64 h',vm],0,28⟩:=Qb (by simp) c1 (by simp)
 have bC:K1[H.length+2]? = some ⟨[vc.1,vc.2],0,32⟩:=Qb (by simp) c1 (by simp)
 have bR:K1[H.length+3]? = some ⟨[.int .i64 0,.int .i64 0,.slice none 0 0,.slice none 0 0,.slice none 0 0,.slice none 0 0,.slice none 0 0,.slice none 0 0,.slice none 0 0,.slice none 0 0,.int .i64 0],0,38⟩:=Qb (by simp) c1 (by simp)
 have cH:Chg H K1 []:=(Chg.app []).trans c1
 have lc1:=c1.1
 simp at lc1 m1
 have q:=Qk o1
 have lt1:=dNet.lt o1
 obtain ⟨n1,n2,n3,n4,n5,n6,n7,nz⟩:=n
 obtain ⟨y1,y2,y3,y4,y5,y6,y7,_⟩:=o1
 simp only at y1 y2 y3 y4 y5 y6 y7 q
 have eid:dNet.ids (n1,n2,n3,n4,n5,n6,n7,nz)=dMesh.ids n1++(dClasses.ids n2++(dSS.ids n3++(dIntS.ids n4++(dIntS.ids n5++(dSS.ids n6++(dSS.ids n7++[])))))):=rfl
 rw [eid] at m1 d1 lt1
 obtain ⟨d11,d12,_⟩:=List.nodup_append.1 d1
 obtain ⟨d21,d22,_⟩:=List.nodup_append.1 d12
 have mr:∀i∈dSS.ids n3++(dIntS.ids n4++(dIntS.ids n5++(dSS.ids n6++(dSS.ids n7++[])))),H.length+4≤i∧i<K1.length:=fun i hi=>⟨m1 i (List.mem_append.2 (.inr (List.mem_append.2 (.inr hi)))),lt1 i (List.mem_append.2 (.inr (List.mem_append.2 (.inr hi))))⟩
 have ml:∀i∈dMesh.ids n1,H.length+4≤i∧i<K1.length:=fun i hi=>⟨m1 i (List.mem_append.2 (.inl hi)),lt1 i (List.mem_append.2 (.inl hi))⟩
 have mk:∀i∈dClasses.ids n2,H.length+4≤i∧i<K1.length:=fun i hi=>⟨m1 i (List.mem_append.2 (.inr (List.mem_append.2 (.inl hi)))),lt1 i (List.mem_append.2 (.inr (List.mem_append.2 (.inl hi))))⟩
 clear m1 d1 lt1 eid d11 d12 d21
 obtain ⟨d31,d32,d33⟩:=List.nodup_append.1 d22
 obtain ⟨d41,d42,d43⟩:=List.nodup_append.1 d32
 obtain ⟨d51,d52,d53⟩:=List.nodup_append.1 d42
 have in3:∀i∈dSS.ids n3,H.length+4≤i∧i<K1.length:=fun i hi=>mr i (List.mem_append.2 (.inl hi))
 have in4:∀i∈dIntS.ids n4,H.length+4≤i∧i<K1.length:=fun i hi=>mr i (List.mem_append.2 (.inr (List.mem_append.2 (.inl hi))))
 have in5:∀i∈dIntS.ids n5,H.length+4≤i∧i<K1.length:=fun i hi=>mr i (List.mem_append.2 (.inr (List.mem_append.2 (.inr (List.mem_append.2 (.inl hi))))))
 have in6:∀i∈dSS.ids n6,H.length+4≤i∧i<K1.length:=fun i hi=>mr i (List.mem_append.2 (.inr (List.mem_append.2 (.inr (List.mem_append.2 (.inr (List.mem_append.2 (.inl hi))))))))
 have in7:∀i∈dSS.ids n7,H.length+4≤i∧i<K1.length:=fun i hi=>mr i (List.mem_append.2 (.inr (List.mem_append.2 (.inr (List.mem_append.2 (.inr (List.mem_append.2 (.inr (List.mem_append.2 (.inl hi))))))))))
 have x43:∀i∈dIntS.ids n4,i∉dSS.ids n3:=fun i hi hh=>d33 i hh i (List.mem_append.2 (.inl hi)) rfl
 have x53:∀i∈dIntS.ids n5,i∉dSS.ids n3:=fun i hi hh=>d33 i hh i (List.mem_append.2 (.inr (List.mem_append.2 (.inl hi)))) rfl
 have x54:∀i∈dIntS.ids n5,i∉dIntS.ids n4:=fun i hi hh=>d43 i hh i (List.mem_append.2 (.inl hi)) rfl
 have x64:∀i∈dSS.ids n6,i∉dIntS.ids n4:=fun i hi hh=>d43 i hh i (List.mem_append.2 (.inr (List.mem_append.2 (.inl hi)))) rfl
 have x74:∀i∈dSS.ids n7,i∉dIntS.ids n4:=fun i hi hh=>d43 i hh i (List.mem_append.2 (.inr (List.mem_append.2 (.inr (List.mem_append.2 (.inl hi)))))) rfl
 have x65:∀i∈dSS.ids n6,i∉dIntS.ids n5:=fun i hi hh=>d53 i hh i (List.mem_append.2 (.inl hi)) rfl
 have x75:∀i∈dSS.ids n7,i∉dIntS.ids n5:=fun i hi hh=>d53 i hh i (List.mem_append.2 (.inr (List.mem_append.2 (.inl hi)))) rfl
 have hF1:H.length≤K1.length:=by omega
 simp [Ql,VM.look,bM,bC,q,onem,onec,hF1]
 rw [Qf (h:=by kernel_rfl)]
 simp [VM.look,bM,bC,q,onem,onec,hF1]
 obtain ⟨G1,hG1⟩:∃G,G=K1++[⟨[.int .i64 w,.int .i64 h,n1,n2.1,n2.2,n3.1,n4,n5,n6.1,n7.1,.int .i64 tm],0,38⟩]:=⟨_,rfl⟩
 have bO:G1[K1.length]? = some ⟨[.int .i64 w,.int .i64 h,n1,n2.1,n2.2,n3.1,n4,n5,n6.1,n7.1,.int .i64 tm],0,38⟩:=by rw [hG1];simp
 have aG:Chg K1 G1 []:=by rw [hG1];exact Chg.app []
 have gl:K1.length+1≤G1.length:=by rw [hG1];simp
 try rw [← hG1]
 clear hG1
 have bM:=Qb bM aG (by simp)
 have bC:=Qb bC aG (by simp)
 have bR:=Qb bR aG (by simp)
 have cH:=cH.trans aG
 have y3:=Dt.chg0 (T:=dSS) y3 aG
 have y4:=Dt.chg0 (T:=dIntS) y4 aG
 have y5:=Dt.chg0 (T:=dIntS) y5 aG
 have y6:=Dt.chg0 (T:=dSS) y6 aG
 have y7:=Dt.chg0 (T:=dSS) y7 aG
 try simp [VM.look,bM,onem]
 refine Qd (Zw w' h' vm b' (Rd.isI (om.1.rd.chg cH (by simp))) om.2) ?_
 rintro _ G2 ⟨m1,rfl,om1,c2,mm1,dm1⟩
 have qm:=Xb om1
 have lm:=dMesh.lt om1
 have bM:=Qb bM c2 (by simp)
 have bC:=Qb bC c2 (by simp)
 have bR:=Qb bR c2 (by simp)
 have bO:=Qb bO c2 (by simp)
 have cH:=cH.trans c2
 have gl2:=c2.1
 have y3:=Dt.chg0 (T:=dSS) y3 c2
 have y4:=Dt.chg0 (T:=dIntS) y4 c2
 have y5:=Dt.chg0 (T:=dIntS) y5 c2
 have y6:=Dt.chg0 (T:=dSS) y6 c2
 have y7:=Dt.chg0 (T:=dSS) y7 c2
 simp [W1,VM.look,bC,onec]
 refine Qd (Za vc.1 vc.2 c'.1 c'.2 (Rd.isI (oc.1.1.rd.chg cH (by simp))) (Rd.isI (oc.2.1.rd.chg cH (by simp))) oc.1.2 oc.2.2) ?_
 rintro _ G3 ⟨m2,rfl,om2,c3,mm2,dm2⟩
 have qc:=Q5 om2
 have lc:=dClasses.lt om2
 have bR:=Qb bR c3 (by simp)
 have bO:=Qb bO c3 (by simp)
 have cH:=cH.trans c3
 have gl3:=c3.1
 have om1:=Dt.chg0 (T:=dMesh) om1 c3
 have y3:=Dt.chg0 (T:=dSS) y3 c3
 have y4:=Dt.chg0 (T:=dIntS) y4 c3
 have y5:=Dt.chg0 (T:=dIntS) y5 c3
 have y6:=Dt.chg0 (T:=dSS) y6 c3
 have y7:=Dt.chg0 (T:=dSS) y7 c3
 have bO1:=Qo (r':=⟨[.int .i64 w',.int .i64 h',m1,n2.1,n2.2,n3.1,n4,n5,n6.1,n7.1,.int .i64 tm],0,38⟩) bO
 have bO2:=Qo (r':=⟨[.int .i64 w',.int .i64 h',m1,m2.1,m2.2,n3.1,n4,n5,n6.1,n7.1,.int .i64 tm],0,38⟩) bO
 have eO:Chg G3 (G3.set K1.length ⟨[.int .i64 w',.int .i64 h',m1,m2.1,m2.2,n3.1,n4,n5,n6.1,n7.1,.int .i64 tm],0,38⟩) [K1.length]:=Qh _ _
 have bR:=Qb bR eO (by simp;omega)
 have cH:=cH.trans' eO (fun i hi=>.inr (by simp at hi;omega))
 have om1:=Dt.chg (T:=dMesh) om1 eO (fun i hi hh=>by have:=mm1 i hi;simp at hh;omega)
 have om2:=Dt.chg (T:=dClasses) om2 eO (fun i hi hh=>by have:=mm2 i hi;simp at hh;omega)
 have y3:=Dt.chg (T:=dSS) y3 eO (fun i hi hh=>by have:=in3 i hi;simp at hh;omega)
 have y4:=Dt.chg (T:=dIntS) y4 eO (fun i hi hh=>by have:=in4 i hi;simp at hh;omega)
 have y5:=Dt.chg (T:=dIntS) y5 eO (fun i hi hh=>by have:=in5 i hi;simp at hh;omega)
 have y6:=Dt.chg (T:=dSS) y6 eO (fun i hi hh=>by have:=in6 i hi;simp at hh;omega)
 have y7:=Dt.chg (T:=dSS) y7 eO (fun i hi hh=>by have:=in7 i hi;simp at hh;omega)
 have gl4:(G3.set K1.length ⟨[.int .i64 w',.int .i64 h',m1,m2.1,m2.2,n3.1,n4,n5,n6.1,n7.1,.int .i64 tm],0,38⟩).length=G3.length:=by simp
 simp [W1,Xd,VM.look,bO,bO1,q,qm,qc,hF1]
 generalize G3.set K1.length ⟨[.int .i64 w',.int .i64 h',m1,m2.1,m2.2,n3.1,n4,n5,n6.1,n7.1,.int .i64 tm],0,38⟩=G4 at *
 have bO:=bO2
 clear bO2 bM bC aG c2 c3 eO y1 y2
 have hb4:=y4.2
 have hb5:=y5.2
 have l4:=y4.1.rd.len (P:=Tryz.prog) (ty:=26) (by simp)
 try simp [VM.look,bO,q,qm,qc,l4]
 refine Qg (fun m t H'=>∃i:Nat,m=own.length-i∧i≤own.length∧t 6=.pointer (some ⟨H.length+3,0,some 0⟩)∧t 7=.pointer (some ⟨K1.length,0,some 0⟩)∧t 20=.int .i64 own.length∧t 21=.int .i64 i∧Chg G4 H' (dIntS.ids n4)∧Ow Fl.int 3 H' n4 (List.replicate i (-1)++own.drop i)) ?_ (n:=own.length)
  ⟨0,rfl,by omega,by simp,by simp,by simp,by simp,Chg.refl _,by simpa using y4.1⟩
 rintro m t H' ⟨i,rfl,hi,t6,t7,t20,t21,c4,o4⟩ ih
 have bO':=Qb bO c4 (fun hh=>by have:=in4 _ hh;omega)
 have hll:(List.replicate i (-1:Int)++own.drop i).length=own.length:=by simp;omega
 have l4':=o4.rd.len (P:=Tryz.prog) (ty:=26) (by simp)
 rw [hll] at l4'
 simp [t6,t7,t20,t21,VM.look,bO',q,l4']
 refine Qc ?_ ?_<;>intro g
 ·have hi':i<own.length:=by omega
  have q1:=o4.rd.isI.idx (P:=Tryz.prog) (ty:=26) (e:=3) (by simp) (i:=(i:Int)) (by omega) (by omega)
  simp only [Int.toNat_natCast] at q1
  obtain ⟨H5,s5,o5,c5,l5⟩:=o4.put1 (P:=Tryz.prog) (frz:=H.length) rfl (et:=3) (ag:=false) (x:=.int .i64 (-1)) (by simp) (j:=i) (y:=-1) (by omega) rfl rfl rfl (fun j hj=>by have:=in4 j hj;omega)
  rw [Ce hi'] at o5
  simp [t6,t7,t20,t21,VM.look,bO',q,q1,s5]
  refine ih (own.length-(i+1)) _ _ ⟨i+1,rfl,by omega,by simp [t6],by simp [t7],by simp [t20],?_,c4.trans c5,o5⟩ (by omega)
  simp;rw [w64 (by omega) (by omega)]
 have:i=own.length:=by omega
 subst this
 clear ih
 have bR:=Qb bR c4 (fun hh=>by have:=in4 _ hh;omega)
 have bO:=bO'
 have cH:=cH.trans' c4 (fun j hj=>.inr (by have:=in4 j hj;omega))
 have gl5:=c4.1
 have om1:=Dt.chg (T:=dMesh) om1 c4 (fun j hj hh=>by have:=mm1 j hj;have:=in4 j hh;omega)
 have om2:=Dt.chg (T:=dClasses) om2 c4 (fun j hj hh=>by have:=mm2 j hj;have:=in4 j hh;omega)
 have y3:=Dt.chg (T:=dSS) y3 c4 (fun j hj hh=>x43 j hh hj)
 have y5:=Dt.chg (T:=dIntS) y5 c4 x54
 have y6:=Dt.chg (T:=dSS) y6 c4 x64
 have y7:=Dt.chg (T:=dSS) y7 c4 x74
 have o4:Ow Fl.int 3 H' n4 (List.replicate own.length (-1)):=by simpa using o4
 have b4:=y4.2
 have b5:=y5.2
 clear y4 c4 bO' g l4' hll hi
 have l5:=y5.1.rd.len (P:=Tryz.prog) (ty:=26) (by simp)
 simp [t6,t7,t20,t21,VM.look,bO,q,l5]
 refine Qg (fun m t H2=>∃i:Nat,m=turn.length-i∧i≤turn.length∧t 6=.pointer (some ⟨H.length+3,0,some 0⟩)∧t 7=.pointer (some ⟨K1.length,0,some 0⟩)∧t 31=.int .i64 turn.length∧t 32=.int .i64 i∧Chg H' H2 (dIntS.ids n5)∧Ow Fl.int 3 H2 n5 (List.replicate i 0++turn.drop i)) ?_ (n:=turn.length)
  ⟨0,rfl,by omega,by simp [t6],by simp [t7],by simp,by simp,Chg.refl _,by simpa using y5.1⟩
 clear t6 t7 t20 t21
 rintro m t H2 ⟨i,rfl,hi,t6,t7,t31,t32,c5,o5⟩ ih
 have bO':=Qb bO c5 (fun hh=>by have:=in5 _ hh;omega)
 have hll:(List.replicate i (0:Int)++turn.drop i).length=turn.length:=by simp;omega
 simp [t6,t7,t31,t32]
 refine Qc ?_ ?_<;>intro g
 ·have hi':i<turn.length:=by omega
  have q1:=o5.rd.isI.idx (P:=Tryz.prog) (ty:=26) (e:=3) (by simp) (i:=(i:Int)) (by omega) (by omega)
  simp only [Int.toNat_natCast] at q1
  obtain ⟨H5,s5,o5',c5',l5'⟩:=o5.put1 (P:=Tryz.prog) (frz:=H.length) rfl (et:=3) (ag:=false) (x:=.int .i64 0) (by simp) (j:=i) (y:=0) (by omega) rfl rfl rfl (fun j hj=>by have:=in5 j hj;omega)
  rw [Ce hi'] at o5'
  simp [t6,t7,t31,t32,VM.look,bO',q,q1,s5]
  refine ih (turn.length-(i+1)) _ _ ⟨i+1,rfl,by omega,by simp [t6],by simp [t7],by simp [t31],?_,c5.trans c5',o5'⟩ (by omega)
  simp;rw [w64 (by omega) (by omega)]
 have:i=turn.length:=by omega
 subst this
 clear ih
 have bR:=Qb bR c5 (fun hh=>by have:=in5 _ hh;omega)
 have bO:=bO'
 have cH:=cH.trans' c5 (fun j hj=>.inr (by have:=in5 j hj;omega))
 have om1:=Dt.chg (T:=dMesh) om1 c5 (fun j hj hh=>by have:=mm1 j hj;have:=in5 j hh;omega)
 have om2:=Dt.chg (T:=dClasses) om2 c5 (fun j hj hh=>by have:=mm2 j hj;have:=in5 j hh;omega)
 have y3:=Dt.chg (T:=dSS) y3 c5 (fun j hj hh=>x53 j hh hj)
 have o4:=o4.chg c5 (fun j hj hh=>x54 j hh hj)
 have y6:=Dt.chg (T:=dSS) y6 c5 x65
 have y7:=Dt.chg (T:=dSS) y7 c5 x75
 have o5:Ow Fl.int 3 H2 n5 (List.replicate turn.length 0):=by simpa using o5
 have gR:=Qo (r':=⟨[.int .i64 w',.int .i64 h',m1,m2.1,m2.2,n3.1,n4,n5,n6.1,n7.1,.int .i64 tm],0,38⟩) bR
 have hF3:H.length≤H.length+3:=by omega
 have eR:Chg H2 (H2.set (H.length+3) ⟨[.int .i64 w',.int .i64 h',m1,m2.1,m2.2,n3.1,n4,n5,n6.1,n7.1,.int .i64 tm],0,38⟩) [H.length+3]:=Qh _ _
 simp [t6,t7,t31,t32,VM.look,bO,bR,q,qm,qc,gR,hF3]
 refine ⟨(m1,m2,n3,n4,n5,n6,n7,()),rfl,⟨Dt.chg (T:=dMesh) om1 eR (fun j hj hh=>by have:=mm1 j hj;simp at hh;omega),Dt.chg (T:=dClasses) om2 eR (fun j hj hh=>by have:=mm2 j hj;simp at hh;omega),Dt.chg (T:=dSS) y3 eR (fun j hj hh=>by have:=in3 j hj;simp at hh;omega),
  ⟨o4.chg eR (fun j hj hh=>by have:=in4 j hj;simp at hh;omega),by show (List.replicate own.length (-1)).length≤_;simpa using b4⟩,⟨o5.chg eR (fun j hj hh=>by have:=in5 j hj;simp at hh;omega),by show (List.replicate turn.length 0).length≤_;simpa using b5⟩,Dt.chg (T:=dSS) y6 eR (fun j hj hh=>by have:=in6 j hj;simp at hh;omega),Dt.chg (T:=dSS) y7 eR (fun j hj hh=>by have:=in7 j hj;simp at hh;omega),trivial⟩,
  cH.trans' eR (fun j hj=>.inr (by simp at hj;omega)),fun j hj=>?_,?_⟩
 ·rcases List.mem_append.1 hj with hj|hj
  ·have:=mm1 j hj;omega
  rcases List.mem_append.1 hj with hj|hj
  ·have:=mm2 j hj;omega
  ·have:=mr j hj;omega
 ·refine List.nodup_append.2 ⟨dm1,List.nodup_append.2 ⟨dm2,d22,fun a ha b hb e=>by have:=mm2 a ha;have:=mr b hb;omega⟩,fun a ha b hb e=>?_⟩
  rcases List.mem_append.1 hb with hb|hb
  ·have:=lm a ha;have:=mm2 b hb;omega
  ·have:=mm1 a ha;have:=mr b hb;omega
theorem Pc (p:Int):vcall C frz 132 [.int .i64 p] H=some (.int .i64 (opp p),H):=by
 rw [Qa (fn:=Tryz.f132) Tryz.func132 rfl (by kernel_rfl) rfl]
 simp
 refine Q0 _ ?_ ?_<;>intro h1<;>simp [h1,opp,Qm]
 refine Q0 _ ?_ ?_<;>intro h2
 ·obtain ⟨h3,h4⟩:=h2
  simp [h3,h4]
  rw [w64 (by omega) (by omega),Int.tmod_eq_emod_of_nonneg (by omega)]
 ·have h3:¬(0≤p∧p≤3):=h2
  simp [h3]
theorem Aj (p:Int) : -1≤opp p∧opp p≤4:=by unfold opp;split<;>(try split)<;>omega
theorem Ex (w h c:Int) : -1≤endC w h c∧endC w h c<16:=Db _ _ _ _
theorem je {w h c:Int}:IntKind.i64.wrap (4*endC w h c)=4*endC w h c∧IntKind.i64.wrap (4*endC w h c+opp (c%4))=backC w h c:=by
 have h1:=Ex w h c
 have h2:=Aj (c%4)
 exact ⟨w64 (by omega) (by omega),by unfold backC;exact w64 (by omega) (by omega)⟩
theorem Qa5 (w h:Int) (v:Value) (b:List Int) (c:Int) (hI:IsI H v b) (h0:leads w h c) :
 vcall C frz 178 [.agg #[.int .i64 w,.int .i64 h,v],.int .i64 c] H=some (.int .i64 (backC w h c),H):=by
 rw [Qa (fn:=Tryz.f178) Tryz.func178 rfl (by kernel_rfl) rfl]
 obtain ⟨e1,e2⟩:=Pm h0.1
 obtain ⟨e3,e4⟩:=je (w:=w) (h:=h) (c:=c)
 have e5:next w h (c/4) (c%4)=endC w h c:=rfl
 simp [hI.one',hI.cells,Sa _ _ _ _ _ (hI.app _) h0,e2,Pc,e3,e4,e5]
theorem Iq (w h:Int) (v:Value) (b:List Int) (c:Int) (hI:IsI H v b) (hl:b.length≤1073741824) :
 vcall C frz 146 [.agg #[.int .i64 w,.int .i64 h,v],.int .i64 c] H=some (.bool (decide (meshOk w h b∧link w h b c)),H):=by
 rw [Qa (fn:=Tryz.f146) Tryz.func146 rfl (by kernel_rfl) rfl]
 simp [hI.one',hI.cells]
 rw [Qf (h:=by kernel_rfl)]
 simp [hI.one',hI.cells,Xu _ _ _ _ _ (hI.app _) hl,-Bool.decide_and]
 refine W2 _ _ ?_ ?_<;>intro h1
 ·simp [h1,hI.one',hI.cells,Qa5 _ _ _ _ _ (hI.app _) h1.2.1,Xu _ _ _ _ _ (hI.app _) hl,link]
 ·have h2:¬(meshOk w h b∧link w h b c):=fun hh=>h1 ⟨hh.1,hh.2.1⟩
  simp [h1]
  exact fun a b=>h2 ⟨a,b⟩
theorem u64w {x:Int} (h1:0≤x) (h2:x≤18446744073709551615):IntKind.u64.wrap x=x:=by
 have:IntKind.u64.wrap x=x%18446744073709551616:=by
  simp [IntKind.wrap,IntKind.bits,IntKind.signed]
 rw [this];omega
theorem Sr (m:Nat) (h:m<4294967296):iand .u64 (m:Int) 4294967295=m:=by
 have:=jn m 4294967295 (by omega) (by omega) .u64 rfl
 have e:((4294967295:Nat):Int)=4294967295:=rfl
 rw [e] at this
 unfold iand
 rw [this,show (4294967295:Nat)=2 ^ 32-1 from rfl,Nat.and_two_pow_sub_one_eq_mod,u64w (by omega) (by omega)]
 omega
theorem ishr32 (m:Nat) (h:m<4294967296):ishr .u64 (m:Int) 32=0:=by
 have:=Iu .u64 m 32 (by decide)
 have e:((32:Nat):Int)=32:=rfl
 rw [e] at this
 rw [this];omega
theorem ku (n:Nat) (h:n<4294967296):vcall C frz 196 [.int .u64 1,.int .u64 n] H=some (.tuple #[.int .u64 0,.int .u64 n],H):=by
 rw [Qa (fn:=Tryz.f196) Tryz.func196 rfl (by kernel_rfl) rfl]
 have a1:=Sr 1 (by omega)
 have a0:=Sr 0 (by omega)
 have s1:=ishr32 1 (by omega)
 have s0:=ishr32 0 (by omega)
 have an:=Sr n h
 have sn:=ishr32 n h
 simp only [Int.natCast_zero,Int.natCast_one] at a1 a0 s1 s0
 have w0:IntKind.u64.wrap 0=0:=by decide
 have wn:IntKind.u64.wrap (n:Int)=n:=u64w (by omega) (by omega)
 simp [a1,s1,an,sn,wn,w0,a0,s0]
theorem Qep (n:Nat) (h:n<4294967296):vcall C frz 181 [.int .u64 1,.int .u64 n] H=some (.tuple #[.int .u64 0,.int .u64 n],H):=by
 rw [Qa (fn:=Tryz.f181) Tryz.func181 rfl (by kernel_rfl) rfl]
 simp [ku n h]
theorem Pj (c z:Value) (k m:Nat) (j:Nat) (h:j≤m):VM.splice (List.replicate k c++List.replicate m z) k (List.replicate j c)=List.replicate (k+j) c++List.replicate (m-j) z:=by
 unfold VM.splice
 rw [List.take_left' (by simp),List.drop_append,List.drop_of_length_le (by simp)]
 simp only [List.length_replicate,Nat.add_sub_cancel_left,List.nil_append,List.drop_replicate]
 rw [List.replicate_append_replicate]
theorem G9 (id:Nat) (c:Int) (n:Nat) (hr:H[id]? = some ⟨[.int .i64 c],0,3⟩) (h1:1≤n) (h2:n≤536870912) :
 vcall C frz 154 [.slice (some ⟨id,0,some 0⟩) 1 0,.int .i64 n] H=some (.slice (some ⟨H.length,0,some 0⟩) n 0,H++[⟨List.replicate n (.int .i64 c),0,3⟩]):=by
 rw [Qa (fn:=Tryz.f154) Tryz.func154 rfl (by kernel_rfl) rfl]
 have e0:¬(n:Int)<0:=by omega
 have e1:IntKind.u64.wrap (n:Int)=n:=u64w (by omega) (by omega)
 have e2:IntKind.u64.wrap 1=1:=by decide
 have e3:IntKind.i64.wrap (n:Int)=n:=w64 (by omega) (by omega)
 have e4:¬(9223372036854775807:Int)<n:=by omega
 simp [VM.look,hr,e0,e1,e2,e3,e4,Qep n (by omega)]
 refine Xf (by omega) ?_
 have lk:∀L,(H++L)[id]? = some ⟨[.int .i64 c],0,3⟩:=fun L=>by rw [List.getElem?_append_left (List.getElem?_eq_some_iff.1 hr).1,hr]
 have er:VM.splice (List.replicate n (Value.int .i64 0)) 0 [.int .i64 c]=List.replicate 1 (.int .i64 c)++List.replicate (n-1) (.int .i64 0):=by
  have:=Pj (.int .i64 c) (.int .i64 0) 0 n 1 h1
  simpa using this
 have m1:Nat.min 1 n=1:=Nat.min_eq_left h1
 simp [VM.look,lk,m1,er]
 refine Z7 (fun m t H'=>∃k:Nat,m=n-k∧1≤k∧k≤n∧t 7=.slice (some ⟨H.length,0,some 0⟩) n 0∧t 8=.int .i64 k∧H'=H++[⟨List.replicate k (.int .i64 c)++List.replicate (n-k) (.int .i64 0),0,3⟩]) ?_ (n:=n-1) ⟨1,by simp [e3];exact h1⟩
 rintro m t H' ⟨k,rfl,hk1,hk,h7,h8,rfl⟩ ih
 simp [h7,h8]
 refine Q0 _ ?_ ?_<;>intro hkn
 ·simp [h7,h8]
  rw [Qf (h:=by kernel_rfl)]
  simp [h7,h8]
  have hmin:k.min (n-k)=min k (n-k):=rfl
  have hrep:=Pj (.int .i64 c) (.int .i64 0) k (n-k) (min k (n-k)) (Nat.min_le_right _ _)
  have hones:ones (List.replicate k (Value.int .i64 c))=true:=by simp [ones,VM.one]
  refine Xf hk (Xf hk (Xf hones ?_))
  refine ih (n-(k+min k (n-k))) _ _ ⟨k+min k (n-k),rfl,by omega,by omega,by simp [h7],?_,?_⟩ (by omega)
  ·simp [hmin];rw [w64 (by omega) (by omega)]
  ·rw [hrep];congr 3;congr 1;congr 1;omega
 ·have:k=n:=by omega
  subst this
  simp [h7,h8]
theorem As {α:Type} {D:Fl α} {e:TypeId} {L H':Heap} {xs:List α} {r:Value} (h:Made D e (H++L) xs r H'):Made D e H xs r H':=by
 obtain ⟨M,rfl,o,n⟩:=h
 exact ⟨L++M,by simp,by simpa using o,fun i hi=>by have:=n i hi;simp at this;omega⟩
theorem Iz (v:Value) (P:List Int) (a b:Int) (hI:IsI H v P) (hl:P.length≤536870911) :
 wp (vcall C frz 109 [v,.int .i64 a,.int .i64 b] H) (Made Fl.int 3 H (treeNodes P a b)):=by
 rw [Qa (fn:=Tryz.f109) Tryz.func109 rfl (by kernel_rfl) rfl]
 simp [jl _ _ _ _ hI (by omega)]
 refine Qc ?_ ?_<;>intro h0
 ·simp [treeNodes,h0]
  exact ⟨[],by simp,.inl ⟨rfl,rfl⟩,by simp⟩
 ·simp
  refine Qd (C8 v P a hI (by omega)) ?_
  rintro va _ ⟨L1,rfl,oa,na⟩
  simp
  refine Qd (C8 v P b (hI.app _) (by omega)) ?_
  rintro vb _ ⟨L2,rfl,ob,nb⟩
  have ltA:=oa.lt
  have oa:=oa.app (L:=L2)
  have hla:=Ry P a
  have hlb:=Ry P b
  simp only [List.append_assoc] at oa ob
  obtain ⟨ma,mb⟩:=Ua (P:=P) (a:=a) (b:=b) (by omega)
  have ia:=List.idxOf_lt_length_iff.2 ma
  have ib:=List.idxOf_lt_length_iff.2 mb
  simp
  rw [Qf (h:=by kernel_rfl)]
  have e1:IntKind.i64.wrap (((anc P a).idxOf (common P a b):Int)+1)=(((anc P a).idxOf (common P a b)+1:Nat):Int):=by rw [w64 (by omega) (by omega)];omega
  obtain ⟨va',s1,oa',ida⟩:=oa.slice (P:=Tryz.prog) (ty:=26) (by simp) (lo:=none) (hi:=some (.int .i64 (((anc P a).idxOf (common P a b)+1:Nat):Int))) (l:=0) (u:=(anc P a).idxOf (common P a b)+1) rfl rfl (by omega) (by omega)
  obtain ⟨vb',s2,ob',idb⟩:=ob.slice (P:=Tryz.prog) (ty:=26) (by simp) (lo:=none) (hi:=some (.int .i64 ((anc P b).idxOf (common P a b):Int))) (l:=0) (u:=(anc P b).idxOf (common P a b)) rfl rfl (by omega) (by omega)
  rw [List.drop_zero,Nat.sub_zero] at oa' ob'
  have e0:place (anc P a) (common P a b)=((anc P a).idxOf (common P a b):Int):=if_pos ma
  have e00:place (anc P b) (common P a b)=((anc P b).idxOf (common P a b):Int):=if_pos mb
  rw [e1.symm] at s1
  simp [Lq _ _ _ oa.rd.isI (by omega),e0]
  simp only [s1]
  simp [Lq _ _ _ ob.rd.isI (by omega),e00]
  simp only [s2]
  simp
  rw [ida.symm] at na ltA
  rw [idb.symm] at nb
  refine Qd (A9 vb' _ 3 ob' (by simp;omega) (fun i hi=>by have:=nb i hi;simp at this;omega)) ?_
  rintro _ H3 ⟨ob3,c3,l3⟩
  have oa3:=oa'.chg c3 (fun i hi hh=>by have h1:=ltA i hi;have h2:=nb i hh;omega)
  obtain ⟨M,rfl⟩:∃M,H3=H++M:=((Chg.app (H:=H) (L:=L1++L2) []).trans' c3 (fun i hi=>.inr (by have:=nb i hi;simp at this;omega))).ex (by simp)
  simp
  simp [oa3.rd.one',oa3.rd.cells,ob3.rd.one',ob3.rd.cells]
  refine Qd (Q':=Made Fl.int 3 H (treeNodes P a b)) ?_ ?_
  ·refine (Jc (H:=H++(M++[⟨[va',vb'],0,26⟩])) (za (H:=H++(M++[⟨[va',vb'],0,26⟩])) (H.length+M.length) va' vb' ((anc P a).take ((anc P a).idxOf (common P a b)+1)) ((anc P b).take ((anc P b).idxOf (common P a b))).reverse (by simp) ?_ ?_ (by simp;omega))).mono ?_
   ·have:=oa3.rd.isI.app [⟨[va',vb'],0,26⟩];simpa using this
   ·have:=ob3.rd.isI.app [⟨[va',vb'],0,26⟩];simpa using this
   ·intro r H4 h4
    rw [treeNodes,if_neg h0]
    exact As h4
  ·intro r H4 h4
   simp
   exact h4
theorem rowget {xs:List Int} {x:Int} (h0:0≤x) (h1:x<xs.length):(xs.map (Value.int .i64))[x.toNat]? = some (.int .i64 (rd xs x)):=by
 obtain ⟨i,rfl⟩:=Int.eq_ofNat_of_zero_le h0
 rw [Y0 (by omega)];simp
theorem qy {xs:List Int} {x:Int} (h0:0≤x) (h1:x<xs.length):xs[x.toNat]'(by omega)=rd xs x:=by
 obtain ⟨i,rfl⟩:=Int.eq_ofNat_of_zero_le h0
 rw [Y0 (by omega)];rfl
theorem rowset {xs:List Int} {x c:Int} (h0:0≤x) (h1:x<xs.length):VM.splice (xs.map (Value.int .i64)) x.toNat [.int .i64 c]=(xs.set x.toNat c).map (.int .i64):=by
 unfold VM.splice
 rw [List.set_eq_take_append_cons_drop,if_pos (by omega)]
 simp
theorem wr1:IntKind.i64.wrap 1=1:=by decide
theorem xu {w h:Int} {b s rest nx r:List Int} {d:Int} (R:Run w h b s rest nx d r) (i:Inv w h s rest nx d):(rest=[]∧nx=[]∧s=r)∨
 ∃a rest' nx' d',rest++nx=a::(rest'++nx')∧Inv w h s (a::rest') nx' d'∧Run w h b (vis w h b a d' (s,nx')).1 rest' (vis w h b a d' (s,nx')).2 d' r:=by
 cases R with
 | done=>exact .inl ⟨rfl,rfl,rfl⟩
 | level R=>
  cases R with
  | node R=>exact .inr ⟨_,_,[],_,by simp,i.level,R⟩
 | node R=>exact .inr ⟨_,_,_,_,by simp,i,R⟩
theorem Z9 (w h:Int) (v:Value) (b:List Int) (root:Int) (hI:IsI H v b) (hl:b.length≤1073741824) :
 wp (vcall C frz 145 [.agg #[.int .i64 w,.int .i64 h,v],.int .i64 root] H) (Made Fl.int 3 H (depths w h b root)):=by
 rw [Qa (fn:=Tryz.f145) Tryz.func145 rfl (by kernel_rfl) rfl]
 have one:=And.intro hI.one' hI.cells
 simp [one,Fe _ _ _ _ _ (hI.app _) hl,-Bool.decide_and]
 refine Qc ?_ ?_<;>intro hR
 ·have R:=Yv hR
  have hc:=Qe w h
  obtain ⟨hm,hr⟩:=hR
  obtain ⟨i0,hq0⟩:=X0 hr
  obtain ⟨r0,r1⟩:=hr
  have hn1:1≤(cnt w h).toNat:=by omega
  have ecn:((cnt w h).toNat:Int)=cnt w h:=by omega
  have rep:=fun F L (hr:(H++⟨[.int .i64 w,.int .i64 h,v],0,28⟩::L)[H.length+1]? = some ⟨[.int .i64 (-1)],0,3⟩)=>G9 (frz:=F) (H:=H++⟨[.int .i64 w,.int .i64 h,v],0,28⟩::L) (H.length+1) (-1) (cnt w h).toNat hr hn1 (by omega)
  rw [ecn] at rep
  simp [one,Q7]
  rw [rep _ _ (by simp)]
  have er:List.replicate (cnt w h).toNat (Value.int .i64 (-1))=(List.replicate (cnt w h).toNat (-1:Int)).map (.int .i64):=by simp
  have es:=rowset (xs:=List.replicate (cnt w h).toNat (-1:Int)) (c:=0) r0 (by simp;omega)
  rw [er]
  simp only [wi]
  have hrl:root<((cnt w h).toNat:Int):=by omega
  simp [r0,r1,hrl,-List.map_replicate,es,-List.map_set]
  refine Xx (by omega) (Xx (by omega) ?_)
  have est:(List.replicate (cnt w h).toNat (-1:Int)).set root.toNat 0=start w h root:=rfl
  rw [est]
  have hlm:b.length≤1073741824:=hl
  refine Qg (fun n t H'=>∃(s don rest nx q:List Int) (d:Int) (g:Nat) (G:Heap),n=(cnt w h).toNat-don.length∧q=don++(rest++nx)∧
   t 2=.pointer (some ⟨H.length,0,some 0⟩)∧t 5=.slice (some ⟨H.length+2,0,some 0⟩) s.length 0∧t 6=.slice (some ⟨H.length+3,0,some g⟩) q.length 0∧t 7=.int .i64 don.length∧
   H'=H++⟨[.int .i64 w,.int .i64 h,v],0,28⟩::⟨[.int .i64 (-1)],0,3⟩::⟨s.map (.int .i64),0,3⟩::⟨q.map (.int .i64),g,3⟩::G∧
   Run w h b s rest nx d (depths w h b root)∧Inv w h s rest nx d∧((don.length+rest.length+nx.length+neg s:Nat):Int)=cnt w h) ?_
   (n:=(cnt w h).toNat) ⟨start w h root,[],[root],[],[root],1,0,[],by simp,by simp,by simp,by simp [start],by simp,by simp,by simp,R,i0,by simp;omega⟩
  clear R i0 hq0 rep
  rintro n t H' ⟨s,don,rest,nx,q,d,g,G,rfl,hqe,h2,h5,h6,h7,rfl,R,i,hq⟩ ih
  have hql:=congrArg List.length hqe
  simp at hql
  simp [h2,h5,h6,h7]
  rcases xu R i with ⟨rfl,rfl,rfl⟩|⟨a,rest',nx',d',hcat,i',R'⟩
  ·have hlt:¬don.length<q.length:=by simp at hql;omega
   simp [h2,h5,h6,h7,hlt]
   exact ⟨_,rfl,Ow.new (k:=2) rfl (Q8 _).symm (by simp) rfl,by simp⟩
  ·have hlc:=congrArg List.length hcat
   simp at hlc
   have hlt:don.length<q.length:=by omega
   have hget:q[don.length]? = some a:=by rw [hqe,hcat];simp
   have hgv:q[don.length]=a:=by have:=List.getElem?_eq_getElem hlt;rw [hget] at this;exact (Option.some.inj this).symm
   obtain ⟨ha,hda⟩:=i'.fr a (by simp)
   have ha1:=(Uc ha)
   have h1d:=i'.one
   have hsd:=i'.sum
   simp [h2,h5,h6,h7,hlt,hgv]
   refine Qg (fun n t H'=>∃(x:List Int×List Int) (p g:Nat) (G:Heap),n=4-p∧p≤4∧x=(List.range p).foldl (vst w h b a d') (s,q)∧BExt w h d' (s,q) x∧
    t 2=.pointer (some ⟨H.length,0,some 0⟩)∧t 5=.slice (some ⟨H.length+2,0,some 0⟩) x.1.length 0∧t 6=.slice (some ⟨H.length+3,0,some g⟩) x.2.length 0∧t 7=.int .i64 don.length∧
    t 8=.int .i64 a∧t 9=.int .i64 p∧
    H'=H++⟨[.int .i64 w,.int .i64 h,v],0,28⟩::⟨[.int .i64 (-1)],0,3⟩::⟨x.1.map (.int .i64),0,3⟩::⟨x.2.map (.int .i64),g,3⟩::G) ?_
    (n:=4) ⟨(s,q),0,g,G,by simp,by simp,by simp,BExt.rfl',by simp [h2],by simp [h5],by simp [h6],by simp [h7],by simp,by simp,by simp⟩
   clear h2 h5 h6 h7
   rintro n t H' ⟨x,p,g,G,rfl,hp,hx,E,h2,h5,h6,h7,h8,h9,rfl⟩ ih2
   have hlen:(x.1.length:Int)=cnt w h:=by rw [E.len];exact i.len
   have hxq:x.2.length≤16:=by have:=E.sum;simp at this;omega
   simp [h2,h5,h6,h7,h8,h9]
   refine Qc ?_ ?_<;>intro hp4
   ·have hp4':p<4:=by omega
    have e1:IntKind.i64.wrap (4*a)=4*a:=w64 (by omega) (by omega)
    have e2:IntKind.i64.wrap (4*a+p)=4*a+p:=w64 (by omega) (by omega)
    have nxt:=fun (x':List Int×List Int) (t':Env) (g':Nat) (G' H':Heap) (hH:H'=H++⟨[.int .i64 w,.int .i64 h,v],0,28⟩::⟨[.int .i64 (-1)],0,3⟩::⟨x'.1.map (.int .i64),0,3⟩::⟨x'.2.map (.int .i64),g',3⟩::G') (hx':x'=vst w h b a d' x p) (k2:t' 2=.pointer (some ⟨H.length,0,some 0⟩)) (k5:t' 5=.slice (some ⟨H.length+2,0,some 0⟩) x'.1.length 0) (k6:t' 6=.slice (some ⟨H.length+3,0,some g'⟩) x'.2.length 0) (k7:t' 7=.int .i64 don.length) (k8:t' 8=.int .i64 a) (k9:t' 9=.int .i64 (p+1:Nat))=>
     ih2 (4-(p+1)) t' H'
      ⟨x',p+1,g',G',rfl,by omega,by rw [List.range_succ,List.foldl_append,← hx];exact hx',by rw [hx'];exact E.trans (by omega) (Kg hp4' (by omega)),k2,k5,k6,k7,k8,k9,hH⟩ (by omega)
    have w9:IntKind.i64.wrap ((p:Int)+1)=((p+1:Nat):Int):=by rw [w64 (by omega) (by omega)];omega
    simp [h2,h5,h6,h7,h8,h9,one,e1,e2,Iq _ _ _ _ _ (hI.app _) hl,hm]
    refine Qc ?_ ?_<;>intro hlk
    ·obtain ⟨_,hn,he⟩:=Wd hp4' hlk
     have hend:=fun F L=>(congrArg (fun z=>some (Value.int .i64 z,H++L)) he)▸Sa (frz:=F) w h v b (4*a+(p:Int)) (hI.app L) hlk.1.1
     have hn1:=hn.1
     have hn2:next w h a p<(x.1.length:Int):=by have:=hn.2;omega
     have hg:=rowget (xs:=x.1) hn1 hn2
     have hr1:=qy hn1 hn2
     have hra:rd x.1 a=d'-1:=by rw [E.old a ha.1 (show 0≤rd s a by omega)];exact hda
     have ha2:a<(x.1.length:Int):=by have:=ha.2;omega
     have hr2:=qy ha.1 ha2
     simp [h2,h5,h6,h7,h8,h9,one,e1,e2,hend,hn1,hn2,hr1]
     refine Qc ?_ ?_<;>intro hz
     ·have hset:=rowset (c:=d') hn1 hn2
      have ev:vst w h b a d' x p=(x.1.set (next w h a p).toNat d',x.2++[next w h a p]):=by unfold vst;rw [if_pos ⟨hlk,hz⟩]
      have wd:IntKind.i64.wrap d'=d':=w64 (by omega) (by omega)
      have ha0:=ha.1
      simp [h2,h5,h6,h7,h8,h9,hn1,hn2,ha0,ha2,hr2,hra,wd]
      refine Xx (by omega) (Xx (by omega) ?_)
      rw [hset]
      refine nxt (x.1.set (next w h a p).toNat d',x.2++[next w h a p]) _ (g+1) (G++[⟨[.int .i64 (next w h a p)],0,3⟩]) _ (by simp) ev.symm (by simp [h2]) (by simp [h5]) (by simp) (by simp [h7]) (by simp [h8]) (by simp [w9])
     ·simp [h2,h5,h6,h7,h8,h9,hz]
      have ev:x=vst w h b a d' x p:=by unfold vst;rw [if_neg (fun hh=>hz hh.2)]
      refine nxt x _ g G _ (by simp) ev (by simp [h2]) (by simp [h5]) (by simp [h6]) (by simp [h7]) (by simp [h8]) (by simp [w9])
    ·simp [h2,h5,h6,h7,h8,h9,hlk]
     have ev:x=vst w h b a d' x p:=by unfold vst;rw [if_neg (fun hh=>hlk hh.1)]
     refine nxt x _ g G _ (by simp) ev (by simp [h2]) (by simp [h5]) (by simp [h6]) (by simp [h7]) (by simp [h8]) (by simp [w9])
   ·have:p=4:=by omega
    subst this
    have e2:x=((vis w h b a d' (s,nx')).1,(don++a::rest')++(vis w h b a d' (s,nx')).2):=by
     rw [hx,hqe,hcat];exact D8 (don++a::rest') s nx' |> fun hh=>by simpa [vis] using hh
    simp [h2,h5,h6,h7,h8,h9]
    have hs1:=(R5 (w:=w) (h:=h) (b:=b) (a:=a) (d:=d') (by omega) (s,nx')).sum
    simp only at hs1
    refine ih ((cnt w h).toNat-(don++[a]).length) _ _ ⟨(vis w h b a d' (s,nx')).1,don++[a],rest',(vis w h b a d' (s,nx')).2,x.2,d',g,G,rfl,?_,by simp [h2],?_,by simp [h6],?_,?_,R',i'.node,?_⟩ (by simp;omega)
    ·rw [e2];simp
    ·simp [h5,e2]
    ·simp;rw [w64 (by omega) (by omega)]
    ·rw [e2]
    ·simp;omega
 ·rw [Zh hR]
  simp
  exact ⟨_,rfl,.inl ⟨rfl,rfl⟩,by simp⟩
def pF (w h:Int) (b d:List Int) (i:Int):Nat→Int
 | 0=>-1
 | j+1=>if toRoot w h b d i (3-j) then next w h i (3-j:Nat) else pF w h b d i j
theorem Qch {w h:Int} {b d:List Int} {i:Int} (h0:rd d i>0):pF w h b d i 4=par w h b d i:=by
 simp only [par,pF,if_pos h0]
theorem Nz (w h:Int) (v:Value) (b:List Int) (root:Int) (hI:IsI H v b) (hl:b.length≤1073741824) :
 wp (vcall C frz 107 [.agg #[.int .i64 w,.int .i64 h,v],.int .i64 root] H) (Made Fl.int 3 H (parents w h b root)):=by
 rw [Qa (fn:=Tryz.f107) Tryz.func107 rfl (by kernel_rfl) rfl]
 have one:=And.intro hI.one' hI.cells
 have hc:=Qe w h
 simp [one]
 refine Qd (Z9 w h v b root (hI.app _) hl) ?_
 rintro vd _ ⟨L,rfl,od,nd⟩
 have od:=od.rd.isI
 simp only [List.append_assoc,List.singleton_append] at od
 have hdl:=Vw w h b root
 have dm:=fun v (hv:v∈depths w h b root)=>D0 hv
 have dv:(depths w h b root)≠[]→rootOk w h b root∧((depths w h b root).length:Int)=cnt w h:=fun hne=>by
  by_cases hR:rootOk w h b root
  ·exact ⟨hR,(Wb hR).1⟩
  ·exact absurd (Zh hR) hne
 unfold parents pars
 generalize depths w h b root=D at *
 have fD:=fun L'=>od.app L'
 simp only [List.append_assoc,List.cons_append,List.nil_append] at fD
 have lD:=fun L'=>(fD L').len (P:=Tryz.prog) (ty:=26) (by simp)
 simp [lD]
 refine Qg (fun n t H'=>∃(i g:Nat) (G:Heap) (o:List Int),n=D.length-i∧i≤D.length∧o=(List.range i).map (fun i:Nat=>par w h b D (i:Int))∧
  t 2=.pointer (some ⟨H.length,0,some 0⟩)∧t 5=vd∧t 6=.slice (some ⟨H.length+(L.length+1),0,some g⟩) o.length 0∧t 16=vd∧t 17=.int .i64 D.length∧t 18=.int .i64 i∧
  H'=H++⟨[.int .i64 w,.int .i64 h,v],0,28⟩::(L++⟨o.map (.int .i64),g,3⟩::G)) ?_ (n:=D.length) ⟨0,0,[],[],by simp⟩
 rintro n t H' ⟨i,g,G,o,rfl,hi,ho,h2,h5,h6,h16,h17,h18,rfl⟩ ih
 simp [h2,h5,h6,h16,h17,h18]
 have hol:o.length=i:=by rw [ho];simp
 refine Qc ?_ ?_<;>intro hid
 ·obtain ⟨⟨hm,hr⟩,hlc⟩:=dv (fun hh=>by rw [hh] at hid;simp at hid)
  have hid':i<D.length:=by omega
  have xD:=fun L'=>(fD L').idx (P:=Tryz.prog) (ty:=26) (e:=3) (by simp) (i:=(i:Int)) (by omega) (by omega)
  have rD:=fun L'=>((fD L').load (P:=Tryz.prog) (e:=3) (by simp) hid').trans (by rw [Qx _ _ hid',← Y0 hid'])
  simp only [Int.toNat_natCast] at xD
  have hd:=dm _ (Ux (s:=D) (k:=(i:Int)) (by omega) (by omega))
  have w3:IntKind.i64.wrap (rd D i-1)=rd D i-1:=w64 (by omega) (by omega)
  simp [h2,h5,h6,h16,h17,h18,xD,rD]
  refine Qg (fun n t H'=>∃(j:Nat),n=4-j∧j≤4∧(rd D i>0∨j=0)∧
   t 2=.pointer (some ⟨H.length,0,some 0⟩)∧t 5=vd∧t 6=.slice (some ⟨H.length+(L.length+1),0,some g⟩) o.length 0∧t 16=vd∧t 17=.int .i64 D.length∧t 18=.int .i64 i∧
   t 7=.int .i64 i∧t 8=.int .i64 (rd D i)∧t 9=.int .i64 (pF w h b D i j)∧t 10=.int .i64 (3-j:Int)∧
   H'=H++⟨[.int .i64 w,.int .i64 h,v],0,28⟩::(L++⟨o.map (.int .i64),g,3⟩::G)) ?_ (n:=4) ⟨0,by simp [h2,h5,h6,h16,h17,h18,pF]⟩
  clear h2 h5 h6 h16 h17 h18
  rintro n t H' ⟨j,rfl,hj,hpos,h2,h5,h6,h16,h17,h18,h7,h8,h9,h10,rfl⟩ ih2
  simp [h2,h5,h6,h16,h17,h18,h7,h8,h9,h10]
  refine Qv ?_ ?_<;>intro hj3
  ·have hj4:j<4:=by omega
   simp [h2,h5,h6,h16,h17,h18,h7,h8,h9,h10,hj3]
   refine Qc ?_ ?_<;>intro hp0
   ·have ep:(3-(j:Int))=((3-j:Nat):Int):=by omega
    have hp4:3-j<4:=by omega
    have e1:IntKind.i64.wrap (4*(i:Int))=4*i:=w64 (by omega) (by omega)
    have e2:IntKind.i64.wrap (4*(i:Int)+(3-j:Nat))=4*i+(3-j:Nat):=w64 (by omega) (by omega)
    have nxt:=fun (t':Env) (k2:t' 2=.pointer (some ⟨H.length,0,some 0⟩)) (k5:t' 5=vd) (k6:t' 6=.slice (some ⟨H.length+(L.length+1),0,some g⟩) o.length 0) (k16:t' 16=vd) (k17:t' 17=.int .i64 D.length) (k18:t' 18=.int .i64 i) (k7:t' 7=.int .i64 i) (k8:t' 8=.int .i64 (rd D i)) (k9:t' 9=.int .i64 (pF w h b D i (j+1))) (k10:t' 10=.int .i64 (IntKind.i64.wrap (((3-j:Nat):Int)-1)))=>
     ih2 (4-(j+1)) t' (H++⟨[.int .i64 w,.int .i64 h,v],0,28⟩::(L++⟨o.map (.int .i64),g,3⟩::G)) ⟨j+1,rfl,by omega,.inl hp0,k2,k5,k6,k16,k17,k18,k7,k8,k9,by rw [k10,w64 (by omega) (by omega)];congr 1;omega,rfl⟩ (by omega)
    rw [ep] at h10
    simp [h2,h5,h6,h16,h17,h18,h7,h8,h9,h10,e1,e2,one,Iq _ _ _ _ _ (hI.app _) hl,hm]
    refine Qv ?_ ?_<;>intro hlk
    ·obtain ⟨_,hn,he⟩:=Wd hp4 hlk
     have hend:=fun F L=>(congrArg (fun z=>some (Value.int .i64 z,H++L)) he)▸Sa (frz:=F) w h v b (4*(i:Int)+(3-j:Nat)) (hI.app L) hlk.1.1
     have xE:=fun L'=>(fD L').idx (P:=Tryz.prog) (ty:=26) (e:=3) (by simp) hn.1 (by have:=hn.2;omega)
     have rE:=fun L'=>((fD L').load (P:=Tryz.prog) (e:=3) (by simp) (j:=(next w h i (3-j:Nat)).toNat) (by have:=hn.1;have:=hn.2;omega))
     have rE':D.getD (next w h i (3-j:Nat)).toNat 0=rd D (next w h i (3-j:Nat)):=rfl
     rw [rE'] at rE
     simp [h2,h5,h6,h16,h17,h18,h7,h8,h9,h10,e1,e2,one,hlk,hend,xE,rE,w3]
     refine Qc ?_ ?_<;>intro hdd
     ·simp [h2,h5,h6,h16,h17,h18,h7,h8,h9,h10,e1,e2,one,hlk,hend]
      refine nxt _ (by simp [h2]) (by simp [h5]) (by simp [h6]) (by simp [h16]) (by simp [h17]) (by simp [h18]) (by simp [h7]) (by simp [h8]) ?_ (by simp [h10])
      simp [pF,toRoot,hlk,hdd]
     ·simp [h2,h5,h6,h16,h17,h18,h7,h8,h9,h10,hdd]
      refine nxt _ (by simp [h2]) (by simp [h5]) (by simp [h6]) (by simp [h16]) (by simp [h17]) (by simp [h18]) (by simp [h7]) (by simp [h8]) ?_ (by simp [h10])
      simp [pF,toRoot,hdd,h9]
    ·simp [h2,h5,h6,h16,h17,h18,h7,h8,h9,h10,hlk]
     refine nxt _ (by simp [h2]) (by simp [h5]) (by simp [h6]) (by simp [h16]) (by simp [h17]) (by simp [h18]) (by simp [h7]) (by simp [h8]) ?_ (by simp [h10])
     simp [pF,toRoot,hlk,h9]
   ·have hj0:j=0:=by omega
    subst hj0
    have he:pF w h b D i 0=par w h b D i:=by unfold par;rw [if_neg hp0];rfl
    rw [he] at h9
    simp [h2,h5,h6,h16,h17,h18,h7,h8,h9,h10,hp0]
    refine Xx (by omega) ?_
    refine ih (D.length-(i+1)) _ _ ⟨i+1,g+1,G++[⟨[.int .i64 (par w h b D i)],0,3⟩],o++[par w h b D i],rfl,by omega,by rw [List.range_succ,List.map_append,← ho];rfl,by simp [h2],by simp [h5],by simp,by simp [h16],by simp [h17],?_,by simp⟩ (by omega)
    simp;rw [w64 (by omega) (by omega)]
  ·have hj4:j=4:=by omega
   subst hj4
   have he:pF w h b D i 4=par w h b D i:=Qch (by omega)
   rw [he] at h9
   simp [h2,h5,h6,h16,h17,h18,h7,h8,h9,h10]
   refine Xx (by omega) ?_
   refine ih (D.length-(i+1)) _ _ ⟨i+1,g+1,G++[⟨[.int .i64 (par w h b D i)],0,3⟩],o++[par w h b D i],rfl,by omega,by rw [List.range_succ,List.map_append,← ho];rfl,by simp [h2],by simp [h5],by simp,by simp [h16],by simp [h17],?_,by simp⟩ (by omega)
   simp;rw [w64 (by omega) (by omega)]
 ·have:i=D.length:=by omega
  subst this
  simp [h2,h5,h6,h16,h17,h18]
  rw [← ho]
  exact ⟨_,rfl,Ow.new (k:=L.length+1) (by simp) (Q8 _).symm (by simp) rfl,by simp⟩
theorem Qab (a b:Int):(if a<b then b else a)=max a b:=by omega
theorem U6 {xs:List Int} {a:Int} {i:Nat} (h:i<xs.length):(xs.take (i+1)).foldl max a=max ((xs.take i).foldl max a) xs[i]:=by
 rw [List.take_succ_eq_append_getElem h,List.foldl_append];rfl
theorem Qfk (v:Value) (xs:List Int) (hI:IsI H v xs) (h0:0<xs.length) (hl:xs.length≤1073741824) (hm:∀x∈xs,-1≤x) :
 vcall C frz 152 [v] H=some (.int .i64 (xs.foldl max (-1)),H):=by
 rw [Qa (fn:=Tryz.f152) Tryz.func152 rfl (by kernel_rfl) rfl]
 have q0:=hI.idx (P:=Tryz.prog) (ty:=26) (e:=3) (by simp) (i:=0) (by omega) (by omega)
 have r0:=(hI.load (P:=Tryz.prog) (e:=3) (by simp) h0).trans (by rw [Qx _ _ h0])
 have n0:¬(xs.length:Int)<1:=by omega
 have e0:xs≠[]:=fun hh=>by rw [hh] at h0;simp at h0
 simp [hI.len,e0,n0,q0,r0]
 refine Z7 (fun n t H'=>∃i:Nat,n=xs.length-i∧1≤i∧i≤xs.length∧t 0=v∧t 3=.int .i64 ((xs.take i).foldl max (-1))∧t 4=.int .i64 i∧H'=H) ?_ (n:=xs.length-1) ⟨1,rfl,by omega,by omega,by simp,?_,by simp,rfl⟩
 ·rintro n t H' ⟨i,rfl,h1,hi,k0,k3,k4,rfl⟩ ih
  simp [k0,k3,k4,hI.len]
  refine Q0 _ ?_ ?_<;>intro h5
  ·have q1:=hI.idx (P:=Tryz.prog) (ty:=26) (e:=3) (by simp) (i:=(i:Int)) (by omega) (by omega)
   have r1:=(hI.load (P:=Tryz.prog) (e:=3) (by simp) h5).trans (by rw [Qx _ _ h5])
   simp only [Int.toNat_natCast] at q1
   simp [k0,k3,k4,q1,r1]
   refine ih (xs.length-(i+1)) _ _ ⟨i+1,rfl,by omega,by omega,by simp [k0],?_,?_,rfl⟩ (by omega)
   ·simp [U6 h5,Qab]
   ·simp;rw [w64 (by omega) (by omega)]
  ·have:i=xs.length:=by omega
   subst this
   simp [k0,k3,k4]
 ·have:=hm _ (List.getElem_mem h0)
  rw [show (1:Nat)=0+1 from rfl,U6 h0]
  simp;omega
theorem Nt (w h:Int) (v:Value) (b:List Int) (root:Int) (hI:IsI H v b) (hl:b.length≤1073741824) :
 vcall C frz 110 [.agg #[.int .i64 w,.int .i64 h,v],.int .i64 root] H=some (.int .i64 (depthOf w h b root),H):=by
 refine wp.exact (by simp) ?_ rfl
 rw [Qa (fn:=Tryz.f110) Tryz.func110 rfl (by kernel_rfl) rfl]
 have one:=And.intro hI.one' hI.cells
 simp [one,Fe _ _ _ _ _ (hI.app _) hl,-Bool.decide_and]
 refine Qc ?_ ?_<;>intro hR
 ·simp [one]
  refine Qd (Z9 w h v b root (hI.app _) hl) ?_
  rintro vd _ ⟨L,rfl,od,nd⟩
  have hc:=Qe w h
  have i:=Wb hR
  have hn:=Uc hR.2
  have hp:=hR.2.2
  have hq:=hR.2.1
  have od:=od.rd.isI
  simp only [List.append_assoc,List.singleton_append] at od
  simp [Qfk _ _ od (by omega) (by omega) (fun x hx=>(i.2 x hx).1),depthOf]
 ·have hd:depths w h b root=[]:=Zh hR
  simp [depthOf,hd]
theorem X8 (w h:Int) (v:Value) (b:List Int) (hI:IsI H v b) (hl:b.length≤1073741824) :
 vcall C frz 106 [.agg #[.int .i64 w,.int .i64 h,v]] H=some (.bool (decide (conn w h b)),H):=by
 refine wp.exact (by simp) ?_ rfl
 rw [Qa (fn:=Tryz.f106) Tryz.func106 rfl (by kernel_rfl) rfl]
 have one:=And.intro hI.one' hI.cells
 simp [one,Zf _ _ _ _ (hI.app _) hl]
 refine Qv ?_ ?_<;>intro hm
 ·simp [one,hm]
  refine Qd (Z9 w h v b 0 (hI.app _) hl) ?_
  rintro vd _ ⟨L,rfl,od,nd⟩
  have hl16:=Vw w h b 0
  have od:=od.rd.isI
  simp only [List.append_assoc,List.singleton_append] at od
  simp [hm,Zt _ _ _ od (by omega),conn]
 ·simp [conn,hm]
theorem Du (w h:Int) (v:Value) (b:List Int) (hI:IsI H v b) (hl:b.length≤1073741824) :
 vcall C frz 73 [.agg #[.int .i64 w,.int .i64 h,v]] H=some (.int .i64 (bestRoot w h b),H):=by
 refine wp.exact (by simp) ?_ rfl
 rw [Qa (fn:=Tryz.f73) Tryz.func73 rfl (by kernel_rfl) rfl]
 have one:=And.intro hI.one' hI.cells
 have hc:=Qe w h
 simp [one,X8 _ _ _ _ (hI.app _) hl]
 refine Qc ?_ ?_<;>intro hcn
 ·simp [one,Q7]
  refine Qg (fun n t H'=>∃i:Nat,n=(cnt w h).toNat-i∧i≤(cnt w h).toNat∧t 1=.pointer (some ⟨H.length,0,some 0⟩)∧t 3=.int .i64 ((List.range i).foldl (better w h b) 0)∧t 10=.int .i64 (cnt w h)∧t 11=.int .i64 i∧H'=H++[⟨[.int .i64 w,.int .i64 h,v],0,28⟩]) ?_ (n:=(cnt w h).toNat) ⟨0,by simp⟩
  rintro n t H' ⟨i,rfl,hi,k1,k3,k10,k11,rfl⟩ ih
  simp [k1,k3,k10,k11]
  refine Qc ?_ ?_<;>intro h5
  ·simp [k1,k3,k10,k11]
   rw [Qf (h:=by kernel_rfl)]
   simp [k1,k3,k10,k11,one,Nt _ _ _ _ _ (hI.app _) hl]
   have e:(List.range (i+1)).foldl (better w h b) 0=better w h b ((List.range i).foldl (better w h b) 0) i:=by rw [List.range_succ,List.foldl_append];rfl
   refine Qc ?_ ?_<;>intro h6
   ·simp [k1,k3,k10,k11,h6]
    refine ih ((cnt w h).toNat-(i+1)) _ _ ⟨i+1,rfl,by omega,by simp [k1],?_,by simp [k10],?_,rfl⟩ (by omega)
    ·simp [e,better,h6]
    ·simp;rw [w64 (by omega) (by omega)]
   ·simp [k1,k3,k10,k11,h6]
    refine ih ((cnt w h).toNat-(i+1)) _ _ ⟨i+1,rfl,by omega,by simp [k1],?_,by simp [k10],?_,rfl⟩ (by omega)
    ·simp [e,better,h6,k3]
    ·simp;rw [w64 (by omega) (by omega)]
  ·have:i=(cnt w h).toNat:=by omega
   subst this
   simp [k1,k3,k10,k11,bestRoot,hcn]
 ·simp [bestRoot,hcn]
end Go.Proofs.YtaldglgobgjeaaaGreat.V
set_option linter.all false
namespace Go.Proofs.YtaldglgobgjeaaaGreat.V
open Go Go.VM Go.Proofs
set_option maxRecDepth 10000
variable {frz:Nat} {H H':Heap} {vb:Value} {code:List Int} {r:Nat}
theorem iand255 (a:Int):0≤iand .i64 a 255∧iand .i64 a 255<256:=by
 unfold iand
 have h1:(BitVec.ofInt IntKind.i64.bits a&&& BitVec.ofInt IntKind.i64.bits 255).toNat≤255:=by
  rw [BitVec.toNat_and]
  exact Nat.le_trans Nat.and_le_right (by decide)
 rw [w64 (by omega) (by omega)]
 omega
def Cur (H:Heap) (r:Nat) (vb:Value) (code:List Int):Prop:=
 ∃(i:Nat) (h:Int),i≤code.length∧H[r]? = some ⟨[vb,.int .i64 i,.int .i64 h],0,101⟩∧Rd Fl.u8 H vb code∧r∉ids vb∧code.length≤1073741824
theorem Cur.lt (h:Cur H r vb code):r<H.length:=by obtain ⟨_,_,_,h2,_⟩:=h;exact Qu h2
theorem Cur.chg {is:List Nat} (h:Cur H r vb code) (c:Chg H H' is) (k:r∉is) (k':∀i∈ids vb,i∉is):Cur H' r vb code:=by
 obtain ⟨i,x,h1,h2,h3,h4,h5⟩:=h
 exact ⟨i,x,h1,Qb h2 c k,h3.chg c k',h4,h5⟩
theorem Js (vb:Value) (code:List Int) (hb:Rd Fl.u8 H vb code) (hl:code.length≤1073741824) :
 wp (vcall C frz 22 [vb] H) (fun u H'=>∃r,u=.pointer (some ⟨r,0,some 0⟩)∧H.length≤r∧Cur H' r vb code∧Chg H H' []):=by
 rw [Qa (fn:=Tryz.f22) Tryz.func22 rfl (by kernel_rfl) rfl]
 simp [hb.len]
 refine xd (F:=?F) (k:=?k) (o:=?o) (Q:=?Q) (fun t H'=>H'=H∧t 0=vb∧∃h,t 3=.int .i64 h) ?main ?rest
 case main=>
  intro rest
  refine Qg (fun n t H'=>∃i:Nat,n=code.length-i∧i≤code.length∧t 0=vb∧t 4=.int .i64 i∧(∃h,t 3=.int .i64 h)∧H=H') ?_ (n:=code.length)
   ⟨0,rfl,by omega,by simp,by simp,⟨_,by simp;rfl⟩,rfl⟩
  rintro n t _ ⟨i,rfl,hi,t0,t4,⟨h,t3⟩,rfl⟩ ih
  simp [t0,t3,t4,hb.len]
  refine Qv ?_ ?_<;>intro g1
  ·simp [t0,t3,t4,g1]
   refine Qc ?_ ?_<;>intro g2
   ·have q1:=hb.idx (P:=Tryz.prog) (ty:=22) (e:=5) (by simp) (i:=(i:Int)) (by omega) (by omega)
    have r1:=hb.cell1 (P:=Tryz.prog) (e:=5) rfl (by simp) g1
    simp at q1 r1
    simp [t0,t3,t4,q1,r1]
    refine ih (code.length-(i+1)) _ _ ⟨i+1,rfl,by omega,by simp [t0],?_,⟨_,by simp;rfl⟩,rfl⟩ (by omega)
    simp;rw [w64 (by omega) (by omega)]
   ·simp [t0,t3,t4,-Rt]
    refine rest _ _ ?_
    exact ⟨rfl,by simp [t0],h,by simp [t3]⟩
  ·simp [t0,t3,t4,g1,-Rt]
   refine rest _ _ ?_
   exact ⟨rfl,by simp [t0],h,by simp [t3]⟩
 case rest=>
  rintro t H' ⟨hH,t0,h,t3⟩
  rw [hH]
  simp [t0,t3,hb.one',hb.cells]
  exact ⟨⟨0,h,by omega,by simp,hb.app,fun hh=>by have:=hb.lt _ hh;omega,hl⟩,Chg.app _⟩
theorem Zr (c:Cur H r vb code) (hf:frz≤r):wp (vcall C frz 56 [.pointer (some ⟨r,0,some 0⟩)] H) (fun u H'=>(∃x:Nat,u=.int .i64 x∧x<256)∧Chg H H' [r]∧Cur H' r vb code):=by
 obtain ⟨i,h,hi,hr,hb,hn,hl⟩:=c
 have lt:=Qu hr
 rw [Qa (fn:=Tryz.f56) Tryz.func56 rfl (by kernel_rfl) rfl]
 simp [vnil,VM.look,hr,hf]
 generalize IntKind.i64.wrap (IntKind.i64.wrap (h*6364136223846793005)+1442695040888963407)=h1
 have hr1:=Qo (r':=⟨[vb,.int .i64 i,.int .i64 h1],0,101⟩) hr
 have c1:Chg H (H.set r ⟨[vb,.int .i64 i,.int .i64 h1],0,101⟩) [r]:=Qh _ _
 generalize H.set r ⟨[vb,.int .i64 i,.int .i64 h1],0,101⟩=H1 at *
 have hb1:=hb.chg c1 (fun j hj hh=>by have:=List.mem_singleton.1 hh;subst this;exact hn hj)
 rw [Qf (h:=by kernel_rfl)]
 simp [vnil,VM.look,hr1]
 obtain ⟨x,hx⟩:∃x:Nat,iand .i64 (ixor .i64 (ishr .i64 h1 33) (ishr .i64 h1 45)) 255=x:=⟨_,(Int.toNat_of_nonneg (iand255 _).1).symm⟩
 have hx2:=(iand255 (ixor .i64 (ishr .i64 h1 33) (ishr .i64 h1 45))).2
 rw [hx] at hx2
 simp [hx]
 rw [Qf (h:=by kernel_rfl)]
 simp [vnil,VM.look,hr1,hb1.len]
 refine Qc ?_ ?_<;>intro g1
 ·have q1:=hb1.idx (P:=Tryz.prog) (ty:=22) (e:=5) (by simp) (i:=(i:Int)) (by omega) (by omega)
  have r1:=hb1.cell1 (P:=Tryz.prog) (e:=5) rfl (by simp) g1
  simp at q1 r1
  simp
  rw [Qf (h:=by kernel_rfl)]
  have e1:IntKind.i64.wrap ((i:Int)+1)=((i+1:Nat):Int):=by rw [w64 (by omega) (by omega)];omega
  simp only [vnil,VM.look,hr1,q1,r1]
  simp [vnil,VM.look,hr1,q1,r1,hf]
  generalize hz:IntKind.i64.wrap ((x:Int)+IntKind.i64.wrap code[i])=z
  obtain ⟨y,hy⟩:∃y:Nat,iand .i64 z 255=y:=⟨_,(Int.toNat_of_nonneg (iand255 _).1).symm⟩
  have hy2:=(iand255 z).2
  rw [hy] at hy2
  rw [hy,e1]
  have hr2:=Qo (r':=⟨[vb,.int .i64 (i+1:Nat),.int .i64 h1],0,101⟩) hr1
  have c2:Chg H1 (H1.set r ⟨[vb,.int .i64 (i+1:Nat),.int .i64 h1],0,101⟩) [r]:=Qh _ _
  exact ⟨⟨y,rfl,by omega⟩,c1.trans c2,i+1,h1,by omega,hr2,hb1.chg c2 (fun j hj hh=>by have:=List.mem_singleton.1 hh;subst this;exact hn hj),hn,hl⟩
 ·simp
  exact ⟨⟨x,rfl,by omega⟩,c1,i,h1,hi,hr1,hb1,hn,hl⟩
theorem Oe {x n:Nat} (hn:0<n):(x:Int).tmod (n:Int)=((x%n:Nat):Int):=by rw [Int.tmod_eq_emod_of_nonneg (by omega)];rfl
theorem Wu (c:Cur H r vb code) (hf:frz≤r) (n:Nat) (hn:0<n) (hn2:n<2147483648):wp (vcall C frz 25 [.pointer (some ⟨r,0,some 0⟩),.int .i64 n] H) (fun u H'=>(∃x:Nat,u=.int .i64 x∧x<n)∧Chg H H' [r]∧Cur H' r vb code):=by
 have hn0:¬(n:Int)≤0:=by omega
 have hn1:¬n=0:=by omega
 rw [Qa (fn:=Tryz.f25) Tryz.func25 rfl (by kernel_rfl) rfl]
 simp [hn0,hn1]
 refine Qc ?_ ?_<;>intro g1
 ·simp
  refine Qd (Zr c hf) ?_
  rintro _ H1 ⟨⟨x,rfl,hx⟩,c1,d1⟩
  have hm:x%n<n:=Nat.mod_lt _ hn
  have e1:IntKind.i64.wrap ((x%n:Nat):Int)=((x%n:Nat):Int):=w64 (by omega) (by omega)
  simp [hn1,Oe hn,e1]
  exact ⟨⟨x%n,by simp,hm⟩,c1,d1⟩
 ·simp
  refine Qd (Zr c hf) ?_
  rintro _ H1 ⟨⟨x,rfl,hx⟩,c1,d1⟩
  simp
  refine Qd (Zr d1 hf) ?_
  rintro _ H2 ⟨⟨y,rfl,hy⟩,c2,d2⟩
  simp
  refine Qd (Zr d2 hf) ?_
  rintro _ H3 ⟨⟨z,rfl,hz⟩,c3,d3⟩
  simp
  refine Qd (Zr d3 hf) ?_
  rintro _ H4 ⟨⟨w,rfl,hw⟩,c4,d4⟩
  obtain ⟨q,hq⟩:∃q:Nat,q=x*16777216+y*65536+z*256+w:=⟨_,rfl⟩
  have e1:IntKind.i64.wrap (IntKind.i64.wrap (IntKind.i64.wrap (IntKind.i64.wrap ((x:Int)*16777216)+IntKind.i64.wrap ((y:Int)*65536))+IntKind.i64.wrap ((z:Int)*256))+(w:Int))=(q:Int):=by
   rw [w64 (x:=(x:Int)*16777216) (by omega) (by omega),w64 (x:=(y:Int)*65536) (by omega) (by omega),w64 (x:=(z:Int)*256) (by omega) (by omega),w64 (x:=(x:Int)*16777216+(y:Int)*65536) (by omega) (by omega),w64 (x:=(x:Int)*16777216+(y:Int)*65536+(z:Int)*256) (by omega) (by omega),w64 (by omega) (by omega)]
   omega
  have hm:q%n<n:=Nat.mod_lt _ hn
  have e2:IntKind.i64.wrap ((q%n:Nat):Int)=((q%n:Nat):Int):=w64 (by omega) (by omega)
  simp [hn1,e1,Oe hn,e2]
  exact ⟨⟨q%n,by simp,hm⟩,c1.trans (c2.trans (c3.trans c4)),d4⟩
theorem Ti (c:Cur H r vb code) (hf:frz≤r) (v:Value) (xs:List Int) (hI:IsI H v xs) (hv:r∉ids v) (h0:0<xs.length) (hl:xs.length<2147483648) :
 wp (vcall C frz 92 [.pointer (some ⟨r,0,some 0⟩),v] H) (fun u H'=>(∃x,u=.int .i64 x∧x∈xs)∧Chg H H' [r]∧Cur H' r vb code):=by
 rw [Qa (fn:=Tryz.f92) Tryz.func92 rfl (by kernel_rfl) rfl]
 simp [hI.len]
 refine Qd (Wu c hf xs.length h0 hl) ?_
 rintro _ H1 ⟨⟨x,rfl,hx⟩,c1,d1⟩
 have hI1:=(hI.rd.chg c1 (fun i hi hh=>by have:=List.mem_singleton.1 hh;subst this;exact hv hi)).isI
 have q1:=hI1.idx (P:=Tryz.prog) (ty:=26) (e:=3) (by simp) (i:=(x:Int)) (by omega) (by omega)
 have r1:=(hI1.load (P:=Tryz.prog) (e:=3) (by simp) hx).trans (by rw [Qx _ _ hx])
 simp only [Int.toNat_natCast] at q1
 simp [q1,r1]
 exact ⟨c1,d1⟩
theorem qw (c:Cur H r vb code) (hf:frz≤r):wp (vcall C frz 54 [.pointer (some ⟨r,0,some 0⟩)] H) (fun u H'=>(∃w h,u=.agg #[.int .i64 w,.int .i64 h]∧okG w h)∧Chg H H' [r]∧Cur H' r vb code):=by
 have lt:=c.lt
 have nb:∀(L:Heap),Cur (H++L) r vb code:=fun L=>by
  obtain ⟨i,x,h1,h2,h3,h4,h5⟩:=c
  exact ⟨i,x,h1,Qn h2 L,h3.app,h4,h5⟩
 rw [Qa (fn:=Tryz.f54) Tryz.func54 rfl (by kernel_rfl) rfl]
 simp
 have i1:=IsI.at (H:=H) (L:=[⟨[.int .i64 0,.int .i64 0],0,25⟩,⟨[.int .i64 1,.int .i64 2,.int .i64 2,.int .i64 3,.int .i64 3,.int .i64 4],0,3⟩]) (k:=1) (xs:=[1,2,2,3,3,4]) rfl
 refine Qd (Ti (nb _) hf _ [1,2,2,3,3,4] i1 (by simp;omega) (by simp) (by simp)) ?_
 rintro _ H1 ⟨⟨w,rfl,hw⟩,c1,d1⟩
 have cH:Chg H H1 [r]:=(Chg.app [r]).trans c1
 have l0:=cH.1
 have b0:H1[H.length]? = some ⟨[.int .i64 0,.int .i64 0],0,25⟩:=Qb (by simp) c1 (by simp;omega)
 have lt1:=d1.lt
 have nb1:∀(L:Heap),Cur (H1++L) r vb code:=fun L=>by
  obtain ⟨i,x,h1,h2,h3,h4,h5⟩:=d1
  exact ⟨i,x,h1,Qn h2 L,h3.app,h4,h5⟩
 simp
 have i2:=IsI.at0 (H:=H1) (L:=[⟨[.int .i64 1,.int .i64 2,.int .i64 2,.int .i64 3,.int .i64 3,.int .i64 4],0,3⟩]) (xs:=[1,2,2,3,3,4]) rfl
 refine Qd (Ti (nb1 _) hf _ [1,2,2,3,3,4] i2 (by simp;omega) (by simp) (by simp)) ?_
 rintro _ H2 ⟨⟨h,rfl,hh⟩,c2,d2⟩
 have b2:H2[H.length]? = some ⟨[.int .i64 0,.int .i64 0],0,25⟩:=Qb (Qn b0 _) c2 (by simp;omega)
 have g2:=Qo (r':=⟨[.int .i64 w,.int .i64 h],0,25⟩) b2
 have hF:frz≤H.length:=by omega
 simp [VM.look,b2,g2,hF]
 have hwr:1≤w∧w≤4:=by simp at hw;omega
 have hhr:1≤h∧h≤4:=by simp at hh;omega
 have c3:Chg H2 (H2.set H.length ⟨[.int .i64 w,.int .i64 h],0,25⟩) [H.length]:=Qh _ _
 refine ⟨⟨w,h,⟨rfl,rfl⟩,hwr,hhr⟩,(cH.trans ((Chg.app [r]).trans c2)).trans' c3 (fun i hi=>.inr (by simp at hi;omega)),?_⟩
 obtain ⟨i,x,h1,h2,h3,h4,h5⟩:=d2
 have vlt:=fun i (hi:i∈ids vb)=>(show i<H.length by obtain ⟨_,_,_,_,k3,_⟩:=c;exact k3.lt i hi)
 exact ⟨i,x,h1,Qb h2 c3 (by simp;omega),h3.chg c3 (fun j hj hh=>by have:=vlt j hj;simp at hh;omega),h4,h5⟩
theorem Cur.app (c:Cur H r vb code) (L:Heap):Cur (H++L) r vb code:=by
 obtain ⟨i,x,h1,h2,h3,h4,h5⟩:=c
 exact ⟨i,x,h1,Qn h2 L,h3.app,h4,h5⟩
theorem Cur.vlt (c:Cur H r vb code):∀i∈ids vb,i<H.length:=by
 obtain ⟨_,_,_,_,k3,_⟩:=c;exact k3.lt
theorem Kk (vb:Value) (code:List Int) (hb:Rd Fl.u8 H vb code) (hl:code.length≤1073741824) :
 wp (vcall C frz 10 [vb] H) (fun u H'=>∃xs:List Int,Ow Fl.int 3 H' u xs∧xs.length=12∧(∀x∈xs,0≤x∧x<10000)∧(∀i∈ids u,H.length≤i)∧Chg H H' []):=by
 rw [Qa (fn:=Tryz.f10) Tryz.func10 rfl (by kernel_rfl) rfl]
 simp
 refine Qd (Js vb code hb hl) ?_
 rintro _ H1 ⟨r,rfl,hr,c1,ch1⟩
 have lt1:=c1.lt
 have vlt:=hb.lt
 simp
 refine Qg (fun n t H'=>∃(i:Nat) (u:Value) (xs:List Int),n=12-i∧i≤12∧t 3=.pointer (some ⟨r,0,some 0⟩)∧t 4=u∧t 5=.int .i64 i∧Cur H' r vb code∧Ow Fl.int 3 H' u xs∧xs.length=i∧(∀x∈xs,0≤x∧x<10000)∧(∀j∈ids u,H.length≤j∧j≠r)∧Chg H H' []) ?_ (n:=12)
  ⟨0,.slice (some ⟨H1.length,0,some 0⟩) 0 0,[],rfl,by omega,by simp,by simp,by simp,c1.app _,Ow.new0 (D:=Fl.int) (xs:=[]) rfl rfl rfl rfl,rfl,by simp,by have:=ch1.1;simp;omega,ch1.trans (Chg.app [])⟩
 rintro n t H' ⟨i,u,xs,rfl,hi,t3,t4,t5,c,o,hx,hr2,nu,ch⟩ ih
 simp [t3,t4,t5]
 refine Qc ?_ ?_<;>intro g1
 ·simp [t3,t4,t5]
  have bl:=Wu (frz:=H.length) c hr 10000 (by decide) (by decide)
  refine Qd (by simpa using bl) ?_
  rintro _ H2 ⟨⟨x,rfl,hx2⟩,c2,d2⟩
  have o2:=o.chg c2 (fun j hj hh=>(nu j hj).2 (List.mem_singleton.1 hh))
  obtain ⟨u',H3,hap,o3,c3,n3⟩:=o2.push (P:=Tryz.prog) (frz:=H.length) (ty:=26) (a:=(x:Int)) (by simp) rfl (by omega) (fun j hj=>(nu j hj).1)
  simp only [Fl.int_f] at hap
  have l2:=ch.1
  have l3:=c2.1
  have ltr:=d2.lt
  simp [t3,t4,t5,hap]
  refine ih (12-(i+1)) _ _ ⟨i+1,u',xs++[(x:Int)],rfl,by omega,by simp [t3],by simp,?_,d2.chg c3 (fun hh=>(nu _ hh).2 rfl) (fun j hj hh=>by have:=(nu j hh).1;have:=vlt j hj;omega),o3,by simp [hx],fun y hy=>?_,fun j hj=>?_,(ch.trans' c2 (fun j hj=>.inr (by simp at hj;omega))).trans' c3 (fun j hj=>.inr ((nu j hj).1))⟩ (by omega)
  ·simp;rw [w64 (by omega) (by omega)]
  ·rcases List.mem_append.1 hy with hy|hy
   ·exact hr2 y hy
   ·rw [List.mem_singleton.1 hy];omega
  ·rcases n3 j hj with h1|h1
   ·exact nu j h1
   ·omega
 ·simp [t4]
  exact ⟨xs,o,by omega,hr2,fun j hj=>(nu j hj).1,ch⟩
theorem Qe1 (v:Value) (code:List Int) (hb:Rd Fl.u8 H v code):vcall C frz 5 [v] H=some (.bool (decide ((1048576:Int)<code.length)),H):=by
 rw [Qa (fn:=Tryz.f5) Tryz.func5 rfl (by kernel_rfl) rfl]
 simp [hb.len]
end Go.Proofs.YtaldglgobgjeaaaGreat.V
set_option linter.all false
namespace Go.Proofs.YtaldglgobgjeaaaGreat.V
open Go Go.VM Go.Proofs
theorem Pw:∀xs:List Int,cellsOf Fl.u8 xs=xs.map (.int .u8)
 | []=>rfl
 | a::l=>by rw [Wa,Pw l];rfl
theorem A2 {H:Heap} {v:Value} {xs:List Int} (h:IsS (Kn.int .u8) H v xs):Rd Fl.u8 H v xs:=by
 rcases h with h|⟨id,off,r,h1,h2,h3,h4⟩
 ·exact .inl h
 ·have hs:(Kn.int .u8).sz=1:=rfl
  rw [hs] at h3 h4
  have e0:cellsOf Fl.u8 xs=xs.map (.int .u8):=Pw xs
  refine .inr ⟨id,off,r,h1,h2,?_,by simpa using h3⟩
  rw [e0]
  refine List.ext_getElem? fun j=>?_
  by_cases hj:j<xs.length
  ·have:=h4 j xs[j] (by simp [hj])
   have e:(r.cells.drop (off+j*1)).take 1=[.int .u8 xs[j]]:=this
   have e2:=congrArg (·[0]?) e
   simp at e2
   rw [List.getElem?_take,if_pos (by simpa using hj),List.getElem?_drop]
   simp [e2,hj]
  ·rw [List.getElem?_take,if_neg (by simpa using hj),List.getElem?_eq_none (by rw [List.length_map];omega)]
end Go.Proofs.YtaldglgobgjeaaaGreat.V
set_option linter.all false
namespace Go.Proofs.YtaldglgobgjeaaaGreat.V
open Go Go.VM Go.Proofs
set_option maxRecDepth 10000
variable {frz:Nat} {H:Heap}
def net0:NetD:=((0,0,[]),([],[]),[],[],[],[],[],0)
def netNew (m:MeshD) (t:ClassesD):NetD:=
 if classesOk m.1 m.2.1 m.2.2 t.1 t.2 then (m,t,List.replicate (10*(cnt m.1 m.2.1).toNat) [],List.replicate (10*(cnt m.1 m.2.1).toNat) (-1),List.replicate (5*(cnt m.1 m.2.1).toNat) 0,List.replicate (cnt m.1 m.2.1).toNat [],List.replicate (cnt m.1 m.2.1).toNat [],0) else net0
theorem emptyS {id n:Nat} (h:H[id]? = some ⟨List.replicate n (.slice none 0 0),0,109⟩) (hn:n≤2097152):dSS.Ow H (.slice (some ⟨id,0,some 0⟩) n 0,List.replicate n (.slice none 0 0)) (List.replicate n []):=by
 refine ⟨⟨.inr ⟨id,0,_,by simp,h,?_,by simp,rfl,?_⟩,by simp,fun j a xs ha hx=>?_⟩,by simpa using hn,fun xs hx=>?_⟩
 ·simp [cellsOf,Fl.val]
 ·simp [ones]
 ·rw [List.getElem?_replicate] at ha hx
  split at ha
  ·cases ha;rename_i hj;rw [if_pos hj] at hx;cases hx;exact .inl ⟨rfl,rfl⟩
  ·cases ha
 ·have:=List.eq_of_mem_replicate hx;subst this;simp
theorem zeroI {id n:Nat} (h:H[id]? = some ⟨List.replicate n (.int .i64 0),0,3⟩) (hn:n≤1073741824):dIntS.Ow H (.slice (some ⟨id,0,some 0⟩) n 0) (List.replicate n 0):=by
 refine ⟨.inr ⟨id,0,_,by simp,h,?_,by simp,rfl,?_⟩,by simpa using hn⟩
 ·rw [Q8];simp
 ·simp [ones]
theorem ssIds (id n m:Nat):dSS.ids (.slice (some ⟨id,0,some 0⟩) n 0,List.replicate m (.slice none 0 0))=[id]:=by
 show idsL _ _=_
 have:∀m,(List.replicate m (Value.slice none 0 0)).flatMap ids=[]:=fun m=>by
  induction m with
  | zero=>rfl
  | succ m ih=>rw [List.replicate_succ,List.flatMap_cons,ih];rfl
 unfold idsL;rw [this];rfl
def nV0:NetV:=(.slice none 0 0,(.slice none 0 0,.slice none 0 0),(.slice none 0 0,[]),.slice none 0 0,.slice none 0 0,(.slice none 0 0,[]),(.slice none 0 0,[]),())
theorem Cy:dNet.ids nV0=[]:=by simp [nV0,dNet,dNet0,dAnd,dSS,dMesh,dClasses,dIntS,dTable,dFlat,dNone,idsL,ids]
theorem gw (K:Heap):dNet.Ow K nV0 net0:=by
 have e1:dIntS.Ow K (.slice none 0 0) []:=⟨.inl ⟨rfl,rfl⟩,by simp⟩
 have e2:dSS.Ow K (.slice none 0 0,[]) []:=⟨⟨.inl ⟨rfl,rfl⟩,rfl,by simp⟩,by simp,by simp⟩
 exact ⟨e1,⟨e1,e1⟩,e2,e1,e1,e2,e2,trivial⟩
theorem Bl {K:Heap} (c:Chg H K []):dNet.Made H net0 (.agg #[.int .i64 0,.int .i64 0,.slice none 0 0,.slice none 0 0,.slice none 0 0,.slice none 0 0,.slice none 0 0,.slice none 0 0,.slice none 0 0,.slice none 0 0,.int .i64 0]) K:=
 ⟨nV0,rfl,gw K,c,by rw [Cy];simp,by rw [Cy];simp⟩
theorem wo {vm:Value} {m:MeshD} {vc:Value×Value} {t:ClassesD} (om:dMesh.Ow H vm m) (oc:dClasses.Ow H vc t) :
 wp (vcall C frz 7 [dMesh.val vm m,dClasses.val vc t] H) (Made2 dNet H (netNew m t) (decide (classesOk m.1 m.2.1 m.2.2 t.1 t.2))):=by
 obtain ⟨w,h,b⟩:=m
 obtain ⟨A,B⟩:=t
 have onem:=Xb om
 have onec:=Q5 oc
 obtain ⟨u1,u2⟩:=vc
 rw [W1,Xd]
 simp only at onem onec ⊢
 rw [Qa (fn:=Tryz.f7) Tryz.func7 rfl (by kernel_rfl) rfl]
 have ck:=fun F L=>Y2 (frz:=F) (H:=H++L) w h vm u1 u2 b A B (Rd.isI om.1.rd.app) (Rd.isI oc.1.1.rd.app) (Rd.isI oc.2.1.rd.app) om.2
 simp [onem,onec,ck]
 by_cases g0:classesOk w h b A B
 rotate_left
 ·simp [g0]
  have e:netNew (w,h,b) (A,B)=net0:=if_neg g0
  rw [e]
  exact ⟨_,rfl,Bl (Chg.app _)⟩
 obtain ⟨N,hN⟩:∃N:Nat,cnt w h=N:=⟨(cnt w h).toNat,by have:=Qe w h;omega⟩
 have hNr:=Qe w h
 have eN:(cnt w h).toNat=N:=by rw [hN];simp
 simp [g0,Q7]
 obtain ⟨G0,hG0⟩:∃G,G=H++[⟨[.int .i64 w,.int .i64 h,vm],0,28⟩,⟨[u1,u2],0,32⟩,⟨[.int .i64 0,.int .i64 0,.slice none 0 0,.slice none 0 0,.slice none 0 0,.slice none 0 0,.slice none 0 0,.slice none 0 0,.slice none 0 0,.slice none 0 0,.int .i64 0],0,38⟩]:=⟨_,rfl⟩
 have b0:G0[H.length]? = some ⟨[.int .i64 w,.int .i64 h,vm],0,28⟩:=by rw [hG0];simp
 have b1:G0[H.length+1]? = some ⟨[u1,u2],0,32⟩:=by rw [hG0];simp
 have bR:G0[H.length+2]? = some ⟨[.int .i64 0,.int .i64 0,.slice none 0 0,.slice none 0 0,.slice none 0 0,.slice none 0 0,.slice none 0 0,.slice none 0 0,.slice none 0 0,.slice none 0 0,.int .i64 0],0,38⟩:=by rw [hG0];simp
 have cH:Chg H G0 []:=by rw [hG0];exact Chg.app []
 have lH:G0.length=H.length+3:=by rw [hG0];simp
 rw [← hG0]
 clear hG0
 rw [Qf (h:=by kernel_rfl)]
 simp [VM.look,b0,onem,hN]
 have om0:dMesh.Ow G0 vm (w,h,b):=Dt.chg0 om cH
 have oc0:dClasses.Ow G0 (u1,u2) (A,B):=Dt.chg0 oc cH
 refine Qd (Zw w h vm b om0.1.rd.isI om0.2) ?_
 rintro _ G1 ⟨n1,rfl,o1,c1,m1,d1⟩
 have oc1:=Dt.chg0 oc0 c1
 have b1:=Qb b1 c1 (by simp)
 have bR:=Qb bR c1 (by simp)
 have onen:=Xb o1
 simp [VM.look,b1,onec]
 refine Qd (Za u1 u2 A B oc1.1.1.rd.isI oc1.2.1.rd.isI oc1.1.2 oc1.2.2) ?_
 rintro _ G2 ⟨⟨n2,n3⟩,rfl,o2,c2,m2,d2⟩
 have lt1:=dMesh.lt o1
 have ltc:=dClasses.lt o2
 have o1:=Dt.chg0 o1 c2
 have bR:=Qb bR c2 (by simp)
 have onen2:=Q5 o2
 obtain ⟨K5,hK5⟩:∃K,K=5*N:=⟨_,rfl⟩
 obtain ⟨K10,hK10⟩:∃K,K=10*N:=⟨_,rfl⟩
 have e5:∀[Inhabited Unit],IntKind.i64.wrap (5*(N:Int))=(K5:Int):=by intro _;rw [w64 (by omega) (by omega)];omega
 have e10:∀[Inhabited Unit],IntKind.i64.wrap (10*(N:Int))=(K10:Int):=by intro _;rw [w64 (by omega) (by omega)];omega
 have hk5:(K5:Int)≤1073741824:=by omega
 have hk10:(K10:Int)≤1073741824:=by omega
 have hk1:(N:Int)≤1073741824:=by omega
 have cH2:Chg H G2 []:=(cH.trans c1).trans c2
 have l2:=cH2.1
 have l01:=c1.1
 have l12:=c2.1
 have hz:H.length≤G2.length+1:=by omega
 have hz4:H.length≤G2.length+4:=by omega
 simp [W1,Xd,onen,onen2,e5,e10,hk5,hk10,hk1,hz,hz4]
 rw [Tl (fl:=([4,6],[12])) (h:=⟨by kernel_rfl,by kernel_rfl,by kernel_rfl,by kernel_rfl⟩)]
 simp [emps,empOp,empB,e10,hk10,hk1,VM.look,hz,List.set_append]
 obtain ⟨G4,hG4⟩:∃G,G=G2++[⟨List.replicate K5 (.int .i64 0),0,3⟩,⟨[.int .i64 w,.int .i64 h,n1,n2,n3,.slice (some ⟨G2.length+2,0,some 0⟩) K10 0,.slice none 0 0,.slice (some ⟨G2.length,0,some 0⟩) K5 0,.slice (some ⟨G2.length+3,0,some 0⟩) N 0,.slice (some ⟨G2.length+4,0,some 0⟩) N 0,.int .i64 0],0,38⟩,⟨List.replicate K10 (.slice none 0 0),0,109⟩,⟨List.replicate N (.slice none 0 0),0,109⟩,⟨List.replicate N (.slice none 0 0),0,109⟩]:=⟨_,rfl⟩
 have e4:G2++[⟨List.replicate K5 (.int .i64 0),0,3⟩,⟨[.int .i64 w,.int .i64 h,n1,n2,n3,.slice (some ⟨G2.length+2,0,some 0⟩) K10 0,.slice none 0 0,.slice (some ⟨G2.length,0,some 0⟩) K5 0,.slice (some ⟨G2.length+3,0,some 0⟩) N 0,.slice (some ⟨G2.length+4,0,some 0⟩) N 0,.int .i64 0],0,38⟩,⟨List.replicate K10 (.slice none 0 0),0,109⟩,⟨List.replicate N (.slice none 0 0),0,109⟩,⟨List.replicate N (.slice none 0 0),0,109⟩]=G4:=hG4.symm
 rw [e4]
 have l4:G4.length=G2.length+5:=by rw [hG4];simp
 have c4:Chg G2 G4 []:=by rw [hG4];exact Chg.app _
 have bN:G4[G2.length+1]? = some ⟨[.int .i64 w,.int .i64 h,n1,n2,n3,.slice (some ⟨G2.length+2,0,some 0⟩) K10 0,.slice none 0 0,.slice (some ⟨G2.length,0,some 0⟩) K5 0,.slice (some ⟨G2.length+3,0,some 0⟩) N 0,.slice (some ⟨G2.length+4,0,some 0⟩) N 0,.int .i64 0],0,38⟩:=by rw [hG4];simp
 have bR:G4[H.length+2]? = some ⟨[.int .i64 0,.int .i64 0,.slice none 0 0,.slice none 0 0,.slice none 0 0,.slice none 0 0,.slice none 0 0,.slice none 0 0,.slice none 0 0,.slice none 0 0,.int .i64 0],0,38⟩:=Qb bR c4 (by simp)
 have o1:=Dt.chg0 o1 c4
 have o2:=Dt.chg0 o2 c4
 have y3:dSS.Ow G4 (.slice (some ⟨G2.length+2,0,some 0⟩) K10 0,List.replicate K10 (.slice none 0 0)) (List.replicate K10 []):=emptyS (by rw [hG4];simp) (by omega)
 have y5:dIntS.Ow G4 (.slice (some ⟨G2.length,0,some 0⟩) K5 0) (List.replicate K5 0):=zeroI (by rw [hG4];simp) (by omega)
 have y6:dSS.Ow G4 (.slice (some ⟨G2.length+3,0,some 0⟩) N 0,List.replicate N (.slice none 0 0)) (List.replicate N []):=emptyS (by rw [hG4];simp) (by omega)
 have y7:dSS.Ow G4 (.slice (some ⟨G2.length+4,0,some 0⟩) N 0,List.replicate N (.slice none 0 0)) (List.replicate N []):=emptyS (by rw [hG4];simp) (by omega)
 clear hG4 e4
 refine Qg (fun n t G=>∃(i:Nat) (own:Value),n=K10-i∧i≤K10∧t 4=.pointer (some ⟨H.length+2,0,some 0⟩)∧t 7=.pointer (some ⟨G2.length+1,0,some 0⟩)∧t 35=.int .i64 K10∧t 36=.int .i64 i∧Chg G4 G [G2.length+1]∧G[G2.length+1]? = some ⟨[.int .i64 w,.int .i64 h,n1,n2,n3,.slice (some ⟨G2.length+2,0,some 0⟩) K10 0,own,.slice (some ⟨G2.length,0,some 0⟩) K5 0,.slice (some ⟨G2.length+3,0,some 0⟩) N 0,.slice (some ⟨G2.length+4,0,some 0⟩) N 0,.int .i64 0],0,38⟩∧Ow Fl.int 3 G own (List.replicate i (-1))∧(∀j∈ids own,G4.length≤j)) ?_ (n:=K10)
  ⟨0,.slice none 0 0,rfl,by omega,by simp,by simp,by simp,by simp,Chg.refl _,bN,.inl ⟨rfl,rfl⟩,by simp⟩
 rintro n t G ⟨i,own,rfl,hi,t4,t7,t35,t36,ch,bb,oo,no⟩ ih
 have hF:H.length≤G2.length+1:=by omega
 simp [t4,t7,t35,t36]
 refine Qc ?_ ?_<;>intro g
 ·obtain ⟨r',H2,hap,ow,cw,nw⟩:=oo.push (P:=Tryz.prog) (frz:=H.length) (ty:=26) (a:=-1) (by simp) rfl (by simp;omega) (fun j hj=>by have:=no j hj;omega)
  simp only [Fl.int_f] at hap
  have hlt:=Qu bb
  have bb1:=fun r=>Qn bb [r]
  have bb2:=Qb bb cw (fun hh=>by have:=no _ hh;omega)
  have h9:VM.one r'=true:=ow.rd.one'
  have h10:r'.cells=#[r']:=ow.rd.cells
  simp [-Qp,-Q6,t4,t7,t35,t36,VM.look,bb,bb1,bb2,hap,hF,h9,h10]
  have gR:=Qo (r':=⟨[.int .i64 w,.int .i64 h,n1,n2,n3,.slice (some ⟨G2.length+2,0,some 0⟩) K10 0,r',.slice (some ⟨G2.length,0,some 0⟩) K5 0,.slice (some ⟨G2.length+3,0,some 0⟩) N 0,.slice (some ⟨G2.length+4,0,some 0⟩) N 0,.int .i64 0],0,38⟩) bb2
  refine ih (K10-(i+1)) _ _ ⟨i+1,r',rfl,by omega,by simp [t4],by simp [t7],by simp [t35],?_,?_,gR,?_,fun j hj=>?_⟩ (by omega)
  ·simp [t36];rw [w64 (by omega) (by omega)]
  ·exact (ch.trans' cw (fun j hj=>.inr (no j hj))).trans' (Qh _ _) (fun j hj=>.inl (by simpa using hj))
  ·rw [List.replicate_succ'];exact ow.chg (Qh _ _) (fun j hj hh=>by
    simp at hh;subst hh
    rcases nw _ hj with h1|h1
    ·have:=no _ h1;omega
    ·have:=ch.1;omega)
  ·rcases nw j hj with h1|h1
   ·exact no j h1
   ·have:=ch.1;omega
 ·have hiK:i=K10:=by omega
  rw [hiK] at oo
  have gR:=Qb bR ch (by simp;omega)
  have hne:H.length≤H.length+2:=by omega
  have on1:=Dt.chg (T:=dMesh) o1 ch (fun j hj hh=>by have:=lt1 j hj;simp at hh;omega)
  have on2:=Dt.chg (T:=dClasses) o2 ch (fun j hj hh=>by have:=ltc j hj;simp at hh;omega)
  have on3:=Dt.chg (T:=dSS) y3 ch (fun j hj hh=>by rw [ssIds] at hj;simp at hj hh;omega)
  have on5:=Dt.chg (T:=dIntS) y5 ch (fun j hj hh=>by simp [dIntS,dFlat] at hj hh;omega)
  have on6:=Dt.chg (T:=dSS) y6 ch (fun j hj hh=>by rw [ssIds] at hj;simp at hj hh;omega)
  have on7:=Dt.chg (T:=dSS) y7 ch (fun j hj hh=>by rw [ssIds] at hj;simp at hj hh;omega)
  have on4:dIntS.Ow G own (List.replicate K10 (-1)):=⟨oo,by simp;omega⟩
  have q4:=Zm on4
  have hio:ids own=[]∨∃x,ids own=[x]∧G4.length≤x:=by
   rcases oo with ⟨e,_⟩|⟨x,off,r,e,_⟩
   ·left;rw [e];rfl
   ·right;exact ⟨x,by rw [e];rfl,no x (by rw [e];simp [ids])⟩
  have gR2:=Qo (r':=⟨[.int .i64 w,.int .i64 h,n1,n2,n3,.slice (some ⟨G2.length+2,0,some 0⟩) K10 0,own,.slice (some ⟨G2.length,0,some 0⟩) K5 0,.slice (some ⟨G2.length+3,0,some 0⟩) N 0,.slice (some ⟨G2.length+4,0,some 0⟩) N 0,.int .i64 0],0,38⟩) gR
  have hF2:H.length≤H.length+2:=by omega
  simp [t4,t7,t35,t36,VM.look,bb,gR,onen,onen2,q4,hF2,gR2]
  have eR:Chg G (G.set (H.length+2) ⟨[.int .i64 w,.int .i64 h,n1,n2,n3,.slice (some ⟨G2.length+2,0,some 0⟩) K10 0,own,.slice (some ⟨G2.length,0,some 0⟩) K5 0,.slice (some ⟨G2.length+3,0,some 0⟩) N 0,.slice (some ⟨G2.length+4,0,some 0⟩) N 0,.int .i64 0],0,38⟩) [H.length+2]:=Qh _ _
  have on1:=Dt.chg (T:=dMesh) on1 eR (fun j hj hh=>by have:=m1 j hj;simp at hh;omega)
  have on2:=Dt.chg (T:=dClasses) on2 eR (fun j hj hh=>by have:=m2 j hj;simp at hh;omega)
  have on3:=Dt.chg (T:=dSS) on3 eR (fun j hj hh=>by rw [ssIds] at hj;simp at hj hh;omega)
  have on4:=Dt.chg (T:=dIntS) on4 eR (fun j hj hh=>by have:=no j hj;simp at hh;omega)
  have on5:=Dt.chg (T:=dIntS) on5 eR (fun j hj hh=>by simp [dIntS,dFlat] at hj hh;omega)
  have on6:=Dt.chg (T:=dSS) on6 eR (fun j hj hh=>by rw [ssIds] at hj;simp at hj hh;omega)
  have on7:=Dt.chg (T:=dSS) on7 eR (fun j hj hh=>by rw [ssIds] at hj;simp at hj hh;omega)
  have e:netNew (w,h,b) (A,B)=((w,h,b),(A,B),List.replicate K10 [],List.replicate K10 (-1),List.replicate K5 0,List.replicate N [],List.replicate N [],0):=by
   unfold netNew;rw [if_pos g0];simp only [eN,hK5,hK10]
  have rest:∀l,dSS.ids (.slice (some ⟨G2.length+2,0,some 0⟩) K10 0,List.replicate K10 (.slice none 0 0))++(dIntS.ids own++(dIntS.ids (.slice (some ⟨G2.length,0,some 0⟩) K5 0)++(dSS.ids (.slice (some ⟨G2.length+3,0,some 0⟩) N 0,List.replicate N (.slice none 0 0))++(dSS.ids (.slice (some ⟨G2.length+4,0,some 0⟩) N 0,List.replicate N (.slice none 0 0))++[]))))=l→l.Nodup∧∀i∈l,G2.length≤i:=by
   intro l hl
   rw [ssIds,ssIds,ssIds,show dIntS.ids own=ids own from rfl] at hl
   rcases hio with hx|⟨x,hx,hx2⟩<;>rw [hx] at hl<;>simp [dIntS,dFlat] at hl<;>subst hl
   ·refine ⟨by simp,fun i hi=>?_⟩
    simp at hi;omega
   ·refine ⟨by simp;omega,fun i hi=>?_⟩
    simp at hi;omega
  obtain ⟨r1,r2⟩:=rest _ rfl
  refine ⟨_,rfl,(n1,(n2,n3),(.slice (some ⟨G2.length+2,0,some 0⟩) K10 0,List.replicate K10 (.slice none 0 0)),own,.slice (some ⟨G2.length,0,some 0⟩) K5 0,(.slice (some ⟨G2.length+3,0,some 0⟩) N 0,List.replicate N (.slice none 0 0)),(.slice (some ⟨G2.length+4,0,some 0⟩) N 0,List.replicate N (.slice none 0 0)),()),?_,?_,?_,fun i hi=>?_,?_⟩
  ·rw [e];rfl
  ·rw [e];exact ⟨on1,on2,on3,on4,on5,on6,on7,trivial⟩
  ·exact ((cH2.trans c4).trans' ch (fun j hj=>.inr (by simp at hj;omega))).trans' eR (fun j hj=>.inr (by simp at hj;omega))
  ·rcases List.mem_append.1 hi with hi|hi
   ·have:=m1 i hi;omega
   rcases List.mem_append.1 hi with hi|hi
   ·have:=m2 i hi;omega
   have:=r2 i hi;omega
  ·refine Z5 d1 (Z5 d2 r1 ltc r2) lt1 (fun i hi=>?_)
   rcases List.mem_append.1 hi with hi|hi
   ·exact m2 i hi
   ·have:=r2 i hi;omega
end Go.Proofs.YtaldglgobgjeaaaGreat.V
set_option linter.all false
namespace Go.Proofs.YtaldglgobgjeaaaGreat.V
open Go Go.VM Go.Proofs
variable {frz:Nat} {H:Heap}
end Go.Proofs.YtaldglgobgjeaaaGreat.V
set_option linter.all false
namespace Go.Proofs.YtaldglgobgjeaaaGreat.V
open Go Go.VM Go.Proofs
set_option maxRecDepth 10000
variable {frz:Nat} {H:Heap}
def firstPort (w h a u:Int):Int:=if next w h a 0=u then 0 else if next w h a 1=u then 1 else if next w h a 2=u then 2 else if next w h a 3=u then 3 else 4
theorem Ty {w h a u:Int} {p:Nat} (hp:p<4) (h1:next w h a p=u) (h2:∀q<p,next w h a (q:Nat)≠u):firstPort w h a u=p:=by
 unfold firstPort
 have:p=0∨p=1∨p=2∨p=3:=by omega
 have g:∀q:Nat,q<p→∀z:Int,z=q→¬next w h a z=u:=fun q hq z hz=>by rw [hz];exact h2 q hq
 rcases this with rfl|rfl|rfl|rfl
 ·rw [if_pos (by exact_mod_cast h1)];rfl
 ·rw [if_neg (g 0 (by omega) 0 rfl),if_pos (by exact_mod_cast h1)];rfl
 ·rw [if_neg (g 0 (by omega) 0 rfl),if_neg (g 1 (by omega) 1 rfl),if_pos (by exact_mod_cast h1)];rfl
 ·rw [if_neg (g 0 (by omega) 0 rfl),if_neg (g 1 (by omega) 1 rfl),if_neg (g 2 (by omega) 2 rfl),if_pos (by exact_mod_cast h1)];rfl
theorem yc (w h a u:Int) (p:Nat) (hp:p<4) (h1:next w h a p=u) :
 vcall C frz 108 [.agg #[.int .i64 w,.int .i64 h],.int .i64 a,.int .i64 u] H=some (.int .i64 (firstPort w h a u),H):=by
 rw [Qa (fn:=Tryz.f108) Tryz.func108 rfl (by kernel_rfl) rfl]
 simp
 refine Z7 (fun n t H'=>∃k:Nat,n=p-k∧k≤p∧t 1=.int .i64 a∧t 2=.int .i64 u∧t 3=.pointer (some ⟨H.length,0,some 0⟩)∧t 7=.int .i64 k∧H'=H++[⟨[.int .i64 w,.int .i64 h],0,25⟩]∧∀q<k,next w h a (q:Nat)≠u) ?_ (n:=p) ⟨0,by simp⟩
 rintro n t H' ⟨k,rfl,hk,k1,k2,k3,k7,rfl,hq⟩ ih
 simp [k1,k2,k3,k7,V4]
 refine Q0 _ ?_ ?_<;>intro h5
 ·simp [k1,k2,k3,k7]
  exact (Ty (by omega) h5 hq).symm
 ·have hkp:k≠p:=fun hh=>h5 (by rw [hh];exact h1)
  simp [k1,k2,k3,k7,h5]
  refine ih (p-(k+1)) _ _ ⟨k+1,rfl,by omega,by simp [k1],by simp [k2],by simp [k3],?_,rfl,fun q hq'=>?_⟩ (by omega)
  ·simp;rw [w64 (by omega) (by omega)]
  ·by_cases hqk:q<k
   ·exact hq q hqk
   ·have:q=k:=by omega
    rw [this];exact h5
noncomputable def treePort (w h:Int) (P:List Int) (n i:Nat):Int:=if i/n=i%n then 4 else firstPort w h (i/n:Nat) ((treeNodes P (i/n:Nat) (i%n:Nat)).getD 1 0)
noncomputable def treeTab (w h:Int) (b:List Int) (r:Int):List Int:=(List.range ((cnt w h).toNat*(cnt w h).toNat)).map (treePort w h (parents w h b r) (cnt w h).toNat)
def treeOk (w h:Int) (b:List Int) (r:Int):Prop:=conn w h b∧isN w h r
noncomputable instance (w h:Int) (b:List Int) (r:Int):Decidable (treeOk w h b r):=inferInstanceAs (Decidable (_∧_))
noncomputable def treeTable (w h:Int) (b:List Int) (r:Int):List Int:=if treeOk w h b r then treeTab w h b r else []
theorem I5 (w h:Int) (b:List Int) (r:Int):(treeTab w h b r).length≤256:=by
 have:=Qe w h
 unfold treeTab
 rw [List.length_map,List.length_range]
 have:(cnt w h).toNat*(cnt w h).toNat≤16*16:=Nat.mul_le_mul (by omega) (by omega)
 omega
theorem Nu (w h:Int) (b:List Int) (r:Int):(treeTable w h b r).length≤256:=by
 unfold treeTable;split
 ·exact I5 w h b r
 ·simp
theorem Gw (w h:Int) (v:Value) (b:List Int) (root:Int) (hI:IsI H v b) (hl:b.length≤1073741824) :
 wp (vcall C frz 72 [.agg #[.int .i64 w,.int .i64 h,v],.int .i64 root] H) (Made2 dTable H (treeTable w h b root) (decide (treeOk w h b root))):=by
 rw [Qa (fn:=Tryz.f72) Tryz.func72 rfl (by kernel_rfl) rfl]
 have one:=And.intro hI.one' hI.cells
 have hc:=Qe w h
 have no:∀(L:Heap),¬treeOk w h b root→Made2 dTable H (treeTable w h b root) (decide (treeOk w h b root)) (.tuple #[.agg #[.slice none 0 0],.bool false]) (H++L):=fun L hh=>by
  refine ⟨.agg #[.slice none 0 0],by simp [hh],.slice none 0 0,rfl,⟨.inl ⟨rfl,by simp [treeTable,hh]⟩,?_⟩,Chg.app _,by simp [dTable],by simp [dTable]⟩
  simp [treeTable,hh]
 by_cases hcn:conn w h b
 ·by_cases hr:isN w h root
  ·have hok:treeOk w h b root:=⟨hcn,hr⟩
   simp [one,X8 _ _ _ _ (hI.app _) hl,hcn,Wz,hr]
   refine Qd (Nz w h v b root (hI.app _) hl) ?_
   rintro vp H1 ⟨L,hH1,op,np⟩
   have hpl:=Fh hcn hr
   have tn:=fun {a c:Int} (ha:isN w h a) (hc:isN w h c) (hne:a≠c)=>yp hcn hr ha hc hne
   have ett:treeTable w h b root=(List.range ((cnt w h).toNat*(cnt w h).toNat)).map (treePort w h (parents w h b root) (cnt w h).toNat):=if_pos hok
   have hcc:(cnt w h).toNat≤16:=by omega
   have hlt2:(cnt w h).toNat*(cnt w h).toNat≤256:=Nat.mul_le_mul hcc hcc
   rw [ett]
   generalize parents w h b root=P at *
   have c1:Chg H H1 []:=by rw [hH1];exact (Chg.app []).trans (Chg.app [])
   have b2:H1[H.length]? = some ⟨[.int .i64 w,.int .i64 h,v],0,28⟩:=by rw [hH1];simp
   have b4:H1[H.length+1]? = some ⟨[.slice none 0 0],0,30⟩:=by rw [hH1];simp
   rw [← hH1] at op
   simp at np
   have lp:=op.lt
   have l1:H.length+2≤H1.length:=by rw [hH1];simp
   clear hH1 L
   have lp1:=op.lt
   generalize hB6:H1.length=B6 at *
   have hPl:P.length=(cnt w h).toNat:=by omega
   simp [VM.look,b2,one,hB6,(op.app (L:=[⟨[.slice none 0 0],0,30⟩])).rd.len]
   refine Xx (by omega) ?_
   refine Qg (fun n t H'=>∃(i:Nat) (vo:Value) (o:List Int),n=(cnt w h).toNat-i∧i≤(cnt w h).toNat∧o=(List.range (i*(cnt w h).toNat)).map (treePort w h P (cnt w h).toNat)∧
   t 2=.pointer (some ⟨H.length,0,some 0⟩)∧t 4=.pointer (some ⟨H.length+1,0,some 0⟩)∧t 6=.pointer (some ⟨B6,0,some 0⟩)∧t 7=vp∧t 27=.int .i64 P.length∧t 28=.int .i64 i∧
   Chg H H' []∧H'[H.length]? = some ⟨[.int .i64 w,.int .i64 h,v],0,28⟩∧H'[H.length+1]? = some ⟨[.slice none 0 0],0,30⟩∧H'[B6]? = some ⟨[vo],0,30⟩∧
   Ow Fl.int 3 H' vp P∧Ow Fl.int 3 H' vo o∧(∀i∈ids vo,B6<i)) ?_ (n:=(cnt w h).toNat)
    ⟨0,.slice none 0 0,[],by simp,by omega,by simp,by simp,by simp,by simp,by simp,by simp,by simp,c1.trans (Chg.app []),Qn b2 _,Qn b4 _,by rw [← hB6];simp,op.app,.inl ⟨rfl,rfl⟩,by simp⟩
   clear b2 b4 op
   rintro n t H' ⟨i,vo,o,rfl,hi,ho,h2,h4,h6,h7,h27,h28,c0,b2,b4,b6,op,oo,no⟩ ih
   simp [h2,h4,h6,h7,h27,h28]
   refine Qc ?_ ?_<;>intro hin
   ·have hin':i<(cnt w h).toNat:=by omega
    simp [h2,h4,h6,h7,h27,h28,op.rd.len]
    refine Qg (fun n t H'=>∃(j:Nat) (vo:Value) (o:List Int),n=(cnt w h).toNat-j∧j≤(cnt w h).toNat∧o=(List.range (i*(cnt w h).toNat+j)).map (treePort w h P (cnt w h).toNat)∧
     t 2=.pointer (some ⟨H.length,0,some 0⟩)∧t 4=.pointer (some ⟨H.length+1,0,some 0⟩)∧t 6=.pointer (some ⟨B6,0,some 0⟩)∧t 7=vp∧t 27=.int .i64 P.length∧t 28=.int .i64 i∧
     t 8=.int .i64 i∧t 32=.int .i64 P.length∧t 33=.int .i64 j∧
     Chg H H' []∧H'[H.length]? = some ⟨[.int .i64 w,.int .i64 h,v],0,28⟩∧H'[H.length+1]? = some ⟨[.slice none 0 0],0,30⟩∧H'[B6]? = some ⟨[vo],0,30⟩∧
   Ow Fl.int 3 H' vp P∧Ow Fl.int 3 H' vo o∧(∀i∈ids vo,B6<i)) ?_ (n:=(cnt w h).toNat) ⟨0,vo,o,by simp,by omega,by simpa using ho,by simp [h2],by simp [h4],by simp [h6],by simp [h7],by simp [h27],by simp [h28],by simp,by simp,by simp,c0,b2,b4,b6,op,oo,no⟩
    clear h2 h4 h6 h7 h27 h28 c0 b2 b4 b6 op oo no ho
    rintro n t H' ⟨j,vo,o,rfl,hj,ho,h2,h4,h6,h7,h27,h28,h8,h32,h33,c0,b2,b4,b6,op,oo,no⟩ ih2
    simp [h2,h4,h6,h7,h27,h28,h8,h32,h33]
    refine Qc ?_ ?_<;>intro hjn
    ·have hjn':j<(cnt w h).toNat:=by omega
     have hol:o.length=i*(cnt w h).toNat+j:=by rw [ho];simp
     have hsm:i*(cnt w h).toNat+j<(cnt w h).toNat*(cnt w h).toNat:=by
      have:=Nat.mul_le_mul_right (cnt w h).toNat (show i+1≤(cnt w h).toNat by omega)
      rw [Nat.succ_mul] at this;omega
     have hdv:(i*(cnt w h).toNat+j)/(cnt w h).toNat=i:=by rw [Nat.mul_comm,Nat.mul_add_div (by omega),Nat.div_eq_of_lt hjn'];omega
     have hmd:(i*(cnt w h).toNat+j)%(cnt w h).toNat=j:=by rw [Nat.mul_comm,Nat.mul_add_mod,Nat.mod_eq_of_lt hjn']
     simp [h2,h4,h6,h7,h27,h28,h8,h32,h33]
     refine Qc ?_ ?_<;>intro hij
     ·have hx:treePort w h P (cnt w h).toNat (i*(cnt w h).toNat+j)=4:=by unfold treePort;rw [hdv,hmd,if_pos (by omega)]
      simp [VM.look,b6,h2,h4,h6,h7,h27,h28,h8,h32,h33]
      obtain ⟨vo',H3,e3,oo3,c3,n3⟩:=oo.push (P:=Tryz.prog) (frz:=H.length) (ty:=26) (a:=4) (by simp) rfl (by omega) (fun i hi=>by have:=no i hi;omega)
      simp only [Fl.int_f] at e3
      have lc:=Qu b6
      have b2:=Qb b2 c3 (fun hh=>by have:=no _ hh;omega)
      have b4:=Qb b4 c3 (fun hh=>by have:=no _ hh;omega)
      have b6:=Qb b6 c3 (fun hh=>by have:=no _ hh;omega)
      have op:=op.chg c3 (fun i hi hh=>by have:=lp i hi;have:=no _ hh;omega)
      have no3:∀i∈ids vo',B6<i:=fun i hi=>by rcases n3 i hi with h|h;exact no i h;omega
      have one3:=And.intro oo3.rd.one' oo3.rd.cells
      simp [e3,VM.look,b6,one3,h2,h4,h6,h7,h27,h28,h8,h32,h33]
      refine Xx (by omega) ?_
      refine ih2 ((cnt w h).toNat-(j+1)) _ _ ⟨j+1,vo',o++[4],rfl,by omega,?_,by simp [h2],by simp [h4],by simp [h6],by simp [h7],by simp [h27],by simp [h28],by simp [h8],by simp [h32],?_,
       (c0.trans' c3 (fun i hi=>.inr (by have:=no i hi;omega))).trans' (Qh _ _) (fun i hi=>.inr (by simp at hi;omega)),Qb b2 (Qh _ _) (by simp;omega),Qb b4 (Qh _ _) (by simp;omega),Qo b6,
       op.chg (Qh _ _) (fun i hi hh=>by have:=lp i hi;simp at hh;omega),oo3.chg (Qh _ _) (fun i hi hh=>by have:=no3 i hi;simp at hh;omega),no3⟩ (by omega)
      ·rw [← Nat.add_assoc,List.range_succ,List.map_append,← ho];simp [hx]
      ·simp;rw [w64 (by omega) (by omega)]
     ·rw [Qf (h:=by kernel_rfl)]
      simp [h2,h4,h6,h7,h27,h28,h8,h32,h33,VM.look,b2]
      obtain ⟨p,hp,htl,htg,hn0⟩:=tn (Q9 hin') (Q9 hjn') (by omega:(i:Int)≠(j:Int))
      refine Qd (Iz vp P i j op.rd.isI (by omega)) ?_
      rintro vt H2 ⟨L2,hH2,ot,nt⟩
      have c2:Chg H' H2 []:=by rw [hH2];exact Chg.app []
      rw [← hH2] at ot
      clear hH2 L2
      have b2:=Qb b2 c2 (by simp)
      have b4:=Qb b4 c2 (by simp)
      have b6:=Qb b6 c2 (by simp)
      have op:=op.chg c2 (by simp)
      have oo:=oo.chg c2 (by simp)
      have c0:=c0.trans c2
      have q1:=ot.rd.isI.idx (P:=Tryz.prog) (ty:=26) (e:=3) (by simp) (i:=1) (by omega) (by omega)
      have q2:=ot.rd.isI.load (P:=Tryz.prog) (e:=3) (by simp) htl
      have etn:(treeNodes P (i:Int) (j:Int)).getD 1 0=next w h i p:=by rw [List.getD_eq_getElem?_getD,htg];rfl
      have hpt:=fun F L=>yc (frz:=F) (H:=L) w h i _ p hp etn.symm
      have hx:treePort w h P (cnt w h).toNat (i*(cnt w h).toNat+j)=firstPort w h i ((treeNodes P i j).getD 1 0):=by unfold treePort;rw [hdv,hmd,if_neg (by omega)]
      have q1':vindexAddr Tryz.prog H2 26 vt (.int .i64 1)=some (elp vt 1):=q1
      generalize (treeNodes P (i:Int) (j:Int)).getD 1 0=u at *
      generalize firstPort w h (i:Int) u=y at *
      simp [q1',q2,hpt,h2,h4,h6,h7,h27,h28,h8,h32,h33]
      simp [VM.look,b6,h2,h4,h6,h7,h27,h28,h8,h32,h33]
      obtain ⟨vo',H3,e3,oo3,c3,n3⟩:=oo.push (P:=Tryz.prog) (frz:=H.length) (ty:=26) (a:=y) (by simp) rfl (by omega) (fun i hi=>by have:=no i hi;omega)
      simp only [Fl.int_f] at e3
      have lc:=Qu b6
      have b2:=Qb b2 c3 (fun hh=>by have:=no _ hh;omega)
      have b4:=Qb b4 c3 (fun hh=>by have:=no _ hh;omega)
      have b6:=Qb b6 c3 (fun hh=>by have:=no _ hh;omega)
      have op:=op.chg c3 (fun i hi hh=>by have:=lp i hi;have:=no _ hh;omega)
      have no3:∀i∈ids vo',B6<i:=fun i hi=>by rcases n3 i hi with h|h;exact no i h;omega
      have one3:=And.intro oo3.rd.one' oo3.rd.cells
      simp [e3,VM.look,b6,one3,h2,h4,h6,h7,h27,h28,h8,h32,h33]
      refine Xx (by omega) ?_
      refine ih2 ((cnt w h).toNat-(j+1)) _ _ ⟨j+1,vo',o++[y],rfl,by omega,?_,by simp [h2],by simp [h4],by simp [h6],by simp [h7],by simp [h27],by simp [h28],by simp [h8],by simp [h32],?_,
       (c0.trans' c3 (fun i hi=>.inr (by have:=no i hi;omega))).trans' (Qh _ _) (fun i hi=>.inr (by simp at hi;omega)),Qb b2 (Qh _ _) (by simp;omega),Qb b4 (Qh _ _) (by simp;omega),Qo b6,
       op.chg (Qh _ _) (fun i hi hh=>by have:=lp i hi;simp at hh;omega),oo3.chg (Qh _ _) (fun i hi hh=>by have:=no3 i hi;simp at hh;omega),no3⟩ (by omega)
      ·rw [← Nat.add_assoc,List.range_succ,List.map_append,← ho];simp [hx]
      ·simp;rw [w64 (by omega) (by omega)]
    ·have hjn2:j=(cnt w h).toNat:=by omega
     have hjn':¬j<P.length:=by omega
     simp [h2,h4,h6,h7,h27,h28,h8,h32,h33]
     refine ih ((cnt w h).toNat-(i+1)) _ _ ⟨i+1,vo,o,rfl,by omega,by rw [ho,hjn2,Nat.succ_mul],by simp [h2],by simp [h4],by simp [h6],by simp [h7],by simp [h27],?_,c0,b2,b4,b6,op,oo,no⟩ (by omega)
     simp;rw [w64 (by omega) (by omega)]
   ·have hi2:i=(cnt w h).toNat:=by omega
    have l4:=Qu b4
    rw [hi2] at ho
    rw [ho] at oo
    have l5:∀i∈ids vo,i∉[H.length+1]:=fun i hi hh=>by have:=no i hi;simp at hh;omega
    have g4:=Qo (r':=⟨[vo],0,30⟩) b4
    simp [h2,h4,h6,h7,h27,h28,VM.look,b4,b6,oo.rd.one',oo.rd.cells,g4]
    refine ⟨.agg #[vo],by simp [hok],vo,rfl,⟨oo.chg (Qh _ _) l5,by simp;omega⟩,c0.trans' (Qh _ _) (fun i hi=>.inr (by simp at hi;omega)),fun i hi=>by have:=no i hi;omega,Wk vo⟩
  ·simp [one,X8 _ _ _ _ (hI.app _) hl,hcn,Wz,hr]
   exact no _ (fun hh=>hr hh.2)
 ·simp [one,X8 _ _ _ _ (hI.app _) hl,hcn]
  exact no _ (fun hh=>hcn hh.1)
def alongP (x g:Int):Int:=if x<g then 1 else if g<x then 3 else -1
def acrossP (y g:Int):Int:=if y<g then 2 else if g<y then 0 else -1
def stdPort (w r a to:Int):Int:=
 if a=to then 4 else
 if acrossP (a/w) (to/w)<0∨(0≤alongP (a%w) (to%w)∧((if r=4 then 1+to%2 else r)=1∨((if r=4 then 1+to%2 else r)=3∧alongP (a%w) (to%w)=3))) then alongP (a%w) (to%w) else acrossP (a/w) (to/w)
def stdTab (w r:Int) (n:Nat):List Int:=(List.range (n*n)).map fun i=>stdPort w r (i/n:Nat) (i%n:Nat)
theorem O7 (w r:Int) (n:Nat):(stdTab w r n).length=n*n:=by simp [stdTab]
theorem gh (w r a to:Int) (hw:1≤w) (ha:0≤a) (ht:0≤to) (hne:a≠to) (R:Int) (hR:R=if r=4 then 1+to%2 else r) :
 stdPort w r a to=(if (if R=2 then a/w=to/w else if R=3 then to%w<a%w∨a/w=to/w else a%w≠to%w) then (if to%w<a%w then 3 else 1) else (if to/w<a/w then 0 else 2))∨¬(1≤R∧R≤3):=by
 have h1:=Int.emod_add_mul_ediv a w
 have h2:=Int.emod_add_mul_ediv to w
 have h3:¬(a%w=to%w∧a/w=to/w):=fun ⟨e1,e2⟩=>hne (by rw [← h1,← h2,e1,e2])
 unfold stdPort
 rw [if_neg hne,← hR]
 generalize a%w=X at *
 generalize to%w=U at *
 generalize a/w=Y at *
 generalize to/w=V at *
 by_cases hr:1≤R∧R≤3
 rotate_left
 ·exact .inr hr
 left
 unfold alongP acrossP
 obtain rfl|rfl|rfl:R=1∨R=2∨R=3:=by omega
 all_goals simp
 all_goals (repeat' split)<;>first|rfl|omega
theorem Wj (x g:Int):vcall C frz 93 [.int .i64 x,.int .i64 g] H=some (.int .i64 (if g<x then 3 else 1),H):=by
 rw [Qa (fn:=Tryz.f93) Tryz.func93 rfl (by kernel_rfl) rfl]
 simp
 refine Q0 _ ?_ ?_<;>intro h1<;>simp [h1]
theorem W6 (x g:Int):vcall C frz 94 [.int .i64 x,.int .i64 g] H=some (.int .i64 (if g<x then 0 else 2),H):=by
 rw [Qa (fn:=Tryz.f94) Tryz.func94 rfl (by kernel_rfl) rfl]
 simp
 refine Q0 _ ?_ ?_<;>intro h1<;>simp [h1]
theorem Bs (w h r a to:Int) (hr:1≤r∧r≤4) (ha:isN w h a) (hto:isN w h to) :
 vcall C frz 55 [.agg #[.int .i64 w,.int .i64 h],.int .i64 r,.int .i64 a,.int .i64 to] H=some (.int .i64 (stdPort w r a to),H):=by
 rw [Qa (fn:=Tryz.f55) Tryz.func55 rfl (by kernel_rfl) rfl]
 obtain ⟨hg,a0,_,a1⟩:=Uc ha
 obtain ⟨_,t0,_,t1⟩:=Uc hto
 have hw:=hg.1
 have wz:¬w=0:=by omega
 have e1:a.tmod w=a%w:=Int.tmod_eq_emod_of_nonneg a0
 have e2:to.tmod w=to%w:=Int.tmod_eq_emod_of_nonneg t0
 have e3:a.tdiv w=a/w:=Int.tdiv_eq_ediv_of_nonneg a0
 have e4:to.tdiv w=to/w:=Int.tdiv_eq_ediv_of_nonneg t0
 have e5:to.tmod 2=to%2:=Int.tmod_eq_emod_of_nonneg t0
 have d1:0≤a/w∧a/w≤a:=⟨Int.ediv_nonneg a0 (by omega),Int.ediv_le_self _ a0⟩
 have d2:0≤to/w∧to/w≤to:=⟨Int.ediv_nonneg t0 (by omega),Int.ediv_le_self _ t0⟩
 have f3:=@w6 (a/w) (by omega)
 have f4:=@w6 (to/w) (by omega)
 have f5:=@w6 (1+to%2) (by omega)
 have key:a≠to→∀R,(R=if r=4 then 1+to%2 else r)→1≤R→R≤3→stdPort w r a to=if (if R=2 then a/w=to/w else if R=3 then to%w<a%w∨a/w=to/w else a%w≠to%w) then (if to%w<a%w then 3 else 1) else (if to/w<a/w then 0 else 2):=fun hne R hR r1 r2=>by
  rcases gh w r a to hw.1 a0 t0 hne R hR with h|h
  ·exact h
  ·exact absurd ⟨r1,r2⟩ h
 simp [VM.look,wz,e1,e2,e3,e4,f3,f4]
 by_cases h4:a=to
 ·subst h4;simp [stdPort]
 have key:=key h4
 clear e1 e2 e3 e4 f3 f4
 generalize a%w=X at *
 generalize to%w=U at *
 generalize a/w=Y at *
 generalize to/w=V at *
 generalize stdPort w r a to=Z at *
 simp [h4]
 have k1:∀[Inhabited Unit],IntKind.i64.wrap 1=1:=by intro _;exact w64 (by omega) (by omega)
 have k2:∀[Inhabited Unit],IntKind.i64.wrap 2=2:=by intro _;exact w64 (by omega) (by omega)
 by_cases r4:r=4
 ·have key:=key _ (if_pos r4).symm (by omega) (by omega)
  have m2:to%2=0∨to%2=1:=by omega
  rcases m2 with m2|m2<;>simp only [m2] at key f5
  ·simp [r4,e5,m2,f5,Wj,W6,k1,k2]
   by_cases h5:X=U<;>simp [h5] at key<;>simp [h5,key,Wj,W6,k1,k2]
  ·simp [r4,e5,m2,f5,Wj,W6,k1,k2]
   by_cases h5:Y=V<;>simp [h5] at key<;>simp [h5,key,Wj,W6,k1,k2]
 ·have key:=key _ (if_neg r4).symm (by omega) (by omega)
  obtain rfl|rfl|rfl:r=1∨r=2∨r=3:=by omega
  ·simp [Wj,W6,k1,k2]
   by_cases h5:X=U<;>simp [h5] at key<;>simp [h5,key,Wj,W6,k1,k2]
  ·simp [Wj,W6,k1,k2]
   by_cases h5:Y=V<;>simp [h5] at key<;>simp [h5,key,Wj,W6,k1,k2]
  ·simp [Wj,W6,k1,k2]
   by_cases h5:U<X
   ·simp [h5] at key;simp [h5,key,Wj,W6,k1,k2]
   ·by_cases h6:Y=V<;>simp [h5,h6] at key<;>simp [h5,h6,key,Wj,W6,k1,k2]
end Go.Proofs.YtaldglgobgjeaaaGreat.V
set_option linter.all false
namespace Go.Proofs.YtaldglgobgjeaaaGreat.V
open Go Go.VM Go.Proofs
set_option maxRecDepth 100000
abbrev rPort (r w a to:Int):Int:=stdPort w r a to
def walkR (r w h to:Int):Nat→Int→List Int→List Int
 | 0,a,out=>if rPort r w a to=4 then (if a=to then out else []) else []
 | f+1,a,out=>if rPort r w a to=4 then (if a=to then out else []) else
  if inR 0 (rPort r w a to) 3∧leads w h (4*a+rPort r w a to) then walkR r w h to f (next w h a (rPort r w a to)) (out++[4*a+rPort r w a to]) else []
theorem Uv {r w h a to:Int} {n:Nat} (hn:cnt w h=n) (ha:isN w h a) (hto:isN w h to):portOf w h (stdTab w r n) a to=rPort r w a to:=by
 obtain ⟨i,rfl⟩:=Int.eq_ofNat_of_zero_le ha.1
 obtain ⟨j,rfl⟩:=Int.eq_ofNat_of_zero_le hto.1
 have h1:=ha.2
 have h2:=hto.2
 unfold portOf rd
 have hj:j<n:=by omega
 have hi:i<n:=by omega
 have hsm:i*n+j<n*n:=by
  have:=Nat.mul_le_mul_right n (show i+1≤n by omega)
  rw [Nat.succ_mul] at this;omega
 have hdv:(i*n+j)/n=i:=by rw [Nat.mul_comm,Nat.mul_add_div (by omega),Nat.div_eq_of_lt hj];omega
 have hmd:(i*n+j)%n=j:=by rw [Nat.mul_comm,Nat.mul_add_mod,Nat.mod_eq_of_lt hj]
 rw [hn,show ((i:Int)*(n:Int)+(j:Int)).toNat=i*n+j by rw [← Int.natCast_mul,← Int.natCast_add];rfl]
 rw [stdTab,List.getD_eq_getElem?_getD,List.getElem?_map,List.getElem?_range hsm]
 simp only [Option.map_some,Option.getD_some,hdv,hmd]
theorem D4 {r w h to:Int} {n:Nat} (hn:cnt w h=n) (hg:okG w h) (hto:isN w h to):∀f a out,isN w h a→walkN w h [] (stdTab w r n) to f a out=walkR r w h to f a out
 | 0,a,out,ha=>by simp only [walkN,walkR,Uv hn ha hto]
 | f+1,a,out,ha=>by
  simp only [walkN,walkR,Uv hn ha hto,stepOk]
  have e:(inR 0 (rPort r w a to) 3∧has w h [] (4*a+rPort r w a to))↔(inR 0 (rPort r w a to) 3∧leads w h (4*a+rPort r w a to)):=by simp [has]
  by_cases h1:rPort r w a to=4
  ·simp [h1]
  ·simp only [h1,if_false]
   by_cases h2:inR 0 (rPort r w a to) 3∧leads w h (4*a+rPort r w a to)
   ·rw [if_pos (e.2 h2),if_pos h2]
    obtain ⟨h3,h4⟩:=e.2 h2
    exact D4 hn hg hto f _ _ (Xl h3 h4).2.2
   ·rw [if_neg (fun k=>h2 (e.1 k)),if_neg h2]
def wkR (r w h:Int) (n:Nat) (a to:Int):List Int:=walkR r w h to n a []
theorem xb {r w h a to:Int} {n:Nat} (hn:cnt w h=n) (hg:okG w h) (ha:isN w h a) (hto:isN w h to):walk w h [] (stdTab w r n) a to=wkR r w h n a to:=by
 unfold walk wkR
 rw [D4 hn hg hto _ _ _ ha,hn];rfl
def chkR1 (r w h:Int) (n:Nat) (a to:Int):Bool:=decide (a=to) || !(wkR r w h n a to).isEmpty
def chkR (r w h n:Nat):Bool:=(List.range n).all fun a=>(List.range n).all fun to=>chkR1 r w h n a to
theorem zm:((List.range 4).all fun r=>(List.range 4).all fun w=>(List.range 4).all fun h=>chkR (r+1) (w+1) (h+1) ((w+1)*(h+1)))=true:=by kernel_rfl
theorem gy {r w h a to:Int} {n:Nat} (hr:1≤r∧r≤4) (hg:okG w h) (hn:cnt w h=n) (ha:isN w h a) (hto:isN w h to):chkR1 r w h n a to=true:=by
 obtain ⟨⟨w0,w1⟩,h0,h1⟩:=hg
 obtain ⟨i,hi⟩:∃i:Nat,w=((i+1:Nat):Int):=⟨(w-1).toNat,by omega⟩
 obtain ⟨j,hj⟩:∃j:Nat,h=((j+1:Nat):Int):=⟨(h-1).toNat,by omega⟩
 obtain ⟨q,hq⟩:∃j:Nat,r=((j+1:Nat):Int):=⟨(r-1).toNat,by omega⟩
 obtain ⟨k,rfl⟩:=Int.eq_ofNat_of_zero_le ha.1
 obtain ⟨l,rfl⟩:=Int.eq_ofNat_of_zero_le hto.1
 have e9:=zm
 rw [List.all_eq_true] at e9
 have e0:=e9 q (List.mem_range.2 (by omega))
 rw [List.all_eq_true] at e0
 have e1:=e0 i (List.mem_range.2 (by omega))
 rw [List.all_eq_true] at e1
 have e2:=e1 j (List.mem_range.2 (by omega))
 have hk:=ha.2
 have hl:=hto.2
 have hnn:n=(i+1)*(j+1):=by
  rw [cnt,if_pos ⟨⟨w0,w1⟩,h0,h1⟩,hi,hj,← Int.natCast_mul] at hn;omega
 rw [chkR,List.all_eq_true] at e2
 have e3:=e2 k (List.mem_range.2 (by omega))
 rw [List.all_eq_true] at e3
 have e4:=e3 l (List.mem_range.2 (by omega))
 rw [hi,hj,hq,hnn];exact e4
theorem V6 {r w h:Int} {n:Nat} (hr:1≤r∧r≤4) (hg:okG w h) (hn:cnt w h=n):tableOk w h [] (stdTab w r n):=by
 refine ⟨⟨⟨by simp,hg⟩,by rw [O7,hn,Int.natCast_mul]⟩,fun a ha c hc=>⟨fun e=>?_,fun e=>?_⟩⟩
 ·subst e
  rw [Uv hn (Q9 ha) (Q9 ha)];simp [stdPort]
 ·rw [xb hn hg (Q9 ha) (Q9 hc)]
  have c:=gy hr hg hn (Q9 ha) (Q9 hc)
  rw [chkR1] at c
  simp at c
  rcases c with c|c
  ·omega
  ·exact c
end Go.Proofs.YtaldglgobgjeaaaGreat.V
set_option linter.all false
namespace Go.Proofs.YtaldglgobgjeaaaGreat.V
open Go Go.VM Go.Proofs
set_option maxRecDepth 10000
variable {frz:Nat} {H:Heap}
theorem M9 (w h r:Int) (n:Nat) (hr:1≤r∧r≤4) (hg:okG w h) (hn:cnt w h=n) :
 wp (vcall C frz 24 [.agg #[.int .i64 w,.int .i64 h],.int .i64 r] H) (dTable.Made H (stdTab w r n)):=by
 rw [Qa (fn:=Tryz.f24) Tryz.func24 rfl (by kernel_rfl) rfl]
 have hc:=Qe w h
 have hn2:n*n≤256:=Nat.mul_le_mul (show n≤16 by omega) (show n≤16 by omega)
 have hn2':(n:Int)*(n:Int)≤256:=by
  have:((n*n:Nat):Int)≤256:=by omega
  rwa [Int.natCast_mul] at this
 obtain ⟨M,hM⟩:∃M:Nat,M=n*n:=⟨_,rfl⟩
 have eM:∀[Inhabited Unit],IntKind.i64.wrap ((n:Int)*n)=(M:Int):=by intro _;rw [hM,Int.natCast_mul];exact w64 (by have:=Int.natCast_nonneg (n*n);rw [Int.natCast_mul] at this;omega) (by omega)
 simp [Zx,hn]
 refine Qg (fun m t H'=>∃(i:Nat) (vo:Value) (o:List Int),m=M-i∧i≤M∧o=(List.range i).map (fun i=>stdPort w r (i/n:Nat) (i%n:Nat))∧
  t 1=.int .i64 r∧t 2=.pointer (some ⟨H.length,0,some 0⟩)∧t 4=.pointer (some ⟨H.length+1,0,some 0⟩)∧t 5=.pointer (some ⟨H.length+2,0,some 0⟩)∧t 6=.int .i64 n∧t 7=.int .i64 i∧
  Chg H H' []∧H'[H.length]? = some ⟨[.int .i64 w,.int .i64 h],0,25⟩∧H'[H.length+1]? = some ⟨[.slice none 0 0],0,30⟩∧H'[H.length+2]? = some ⟨[vo],0,30⟩∧
  Ow Fl.int 3 H' vo o∧(∀i∈ids vo,H.length+2<i)) ?_ (n:=M) ⟨0,.slice none 0 0,[],by simp,by omega,by simp,by simp,by simp,by simp,by simp,by simp,by simp,Chg.app _,by simp,by simp,by simp,.inl ⟨rfl,rfl⟩,by simp⟩
 rintro m t H' ⟨i,vo,o,rfl,hi,ho,h1,h2,h4,h5,h6,h7,c0,b2,b4,b6,oo,no⟩ ih
 simp [h1,h2,h4,h5,h6,h7,eM]
 refine Qc ?_ ?_<;>intro hin
 ·have hin':i<M:=by omega
  have hn0:0<n:=by
   rcases Nat.eq_zero_or_pos n with h0|h0
   ·rw [h0] at hM;omega
   ·exact h0
  have hol:o.length=i:=by rw [ho];simp
  have q1:i/n<n:=by rw [Nat.div_lt_iff_lt_mul hn0];omega
  have q2:i%n<n:=Nat.mod_lt _ hn0
  have d1:∀[Inhabited Unit],IntKind.i64.wrap ((i:Int)/(n:Int))=((i/n:Nat):Int):=by intro _;rw [← Int.natCast_ediv];exact w64 (by have:=Int.natCast_nonneg (i/n);omega) (by have:=Int.ofNat_lt.2 q1;omega)
  have d2:(i:Int).tmod n=((i%n:Nat):Int):=by rw [Int.tmod_eq_emod_of_nonneg (by omega)];rfl
  have d3:(i:Int).tdiv n=(i:Int)/n:=Int.tdiv_eq_ediv_of_nonneg (by omega)
  have nz:¬(n:Int)=0:=by omega
  have nz':¬n=0:=by omega
  have sp:=fun F=>Bs (frz:=F) (H:=H') w h r ((i/n:Nat):Int) ((i%n:Nat):Int) hr ⟨Int.natCast_nonneg _,by rw [hn];exact Int.ofNat_lt.2 q1⟩ ⟨Int.natCast_nonneg _,by rw [hn];exact Int.ofNat_lt.2 q2⟩
  obtain ⟨X,hX⟩:∃X,X=((i/n:Nat):Int):=⟨_,rfl⟩
  obtain ⟨Y,hY⟩:∃Y,Y=((i%n:Nat):Int):=⟨_,rfl⟩
  rw [← hX] at d1
  rw [← hY] at d2
  rw [← hX,← hY] at sp
  simp
  rw [Qf (h:=by kernel_rfl)]
  obtain ⟨vo',H3,e3,oo3,c3,n3⟩:=oo.push (P:=Tryz.prog) (frz:=H.length) (ty:=26) (a:=stdPort w r X Y) (by simp) rfl (by omega) (fun i hi=>by have:=no i hi;omega)
  simp only [Fl.int_f] at e3
  have lc:=Qu b6
  have b2':=Qb b2 c3 (fun hh=>by have:=no _ hh;omega)
  have b4':=Qb b4 c3 (fun hh=>by have:=no _ hh;omega)
  have b6':=Qb b6 c3 (fun hh=>by have:=no _ hh;omega)
  have no3:∀i∈ids vo',H.length+2<i:=fun i hi=>by rcases n3 i hi with h|h;exact no i h;omega
  have one:=And.intro oo.rd.one' oo.rd.cells
  have one3:=And.intro oo3.rd.one' oo3.rd.cells
  have hF:H.length≤H.length+2:=by omega
  simp [-Qp,-Q6,VM.look,b2,b6,sp,one,e3,b6',one3,h1,h2,h4,h5,h6,h7,d1,d2,d3,nz,nz',hF]
  refine ih (M-(i+1)) _ _ ⟨i+1,vo',o++[stdPort w r X Y],rfl,by omega,?_,by simp [h1],by simp [h2],by simp [h4],by simp [h5],by simp [h6],?_,
   (c0.trans' c3 (fun i hi=>.inr (by have:=no i hi;omega))).trans' (Qh _ _) (fun i hi=>.inr (by simp at hi;omega)),Qb b2' (Qh _ _) (by simp),Qb b4' (Qh _ _) (by simp),Qo b6',
   oo3.chg (Qh _ _) (fun i hi hh=>by have:=no3 i hi;simp at hh;omega),no3⟩ (by omega)
  ·rw [List.range_succ,List.map_append,← ho];simp only [List.map_cons,List.map_nil,hX,hY]
  ·simp [h7];rw [w64 (by omega) (by omega)]
 ·have:i=M:=by omega
  subst this
  have lc:=Qu b6
  have one:=And.intro oo.rd.one' oo.rd.cells
  have g4:=Qo (r':=⟨[vo],0,30⟩) b4
  have hol:o.length=i:=by rw [ho];simp
  have hF:H.length≤H.length+1:=by omega
  simp [h1,h2,h4,h5,h6,h7,VM.look,b6,b4,one,g4,hF]
  exact ⟨vo,rfl,⟨(by rw [show stdTab w r n=o from by rw [ho,hM];rfl];exact oo.chg (Qh _ _) (fun i hi hh=>by have:=no i hi;simp at hh;omega)),by rw [O7];omega⟩,c0.trans' (Qh _ _) (fun i hi=>.inr (by simp at hi;omega)),fun i hi=>by have:=no i hi;omega,Wk vo⟩
def splitT (w h:Int):ClassesD:=if okG w h then (stdTab w 1 (cnt w h).toNat,stdTab w 2 (cnt w h).toNat) else ([],[])
theorem front {K:Heap} {u:Value} {xs:List FlitD} (rd:Rd flF K u xs) (h:xs≠[]) :
 vindexAddr Tryz.prog K 109 u (.int .i64 0)=some (elp u 0)∧vfieldAddr Tryz.prog K 144 1 (elp u 0)=some (elp u 1)∧vfieldAddr Tryz.prog K 144 2 (elp u 0)=some (elp u 2)∧
 vfieldAddr Tryz.prog K 144 3 (elp u 0)=some (elp u 3)∧vload Tryz.prog K 3 (elp u 1)=some (.int .i64 (headL xs).2.1)∧vload Tryz.prog K 3 (elp u 2)=some (.int .i64 (headL xs).2.2.1)∧
 vload Tryz.prog K 4 (elp u 3)=some (.bool (headL xs).2.2.2.1)∧vload Tryz.prog K 144 (elp u 0)=some (.agg (flF.f (headL xs)).toArray):=by
 have h0:0<xs.length:=List.length_pos_iff.2 h
 have z0:=rd.idx (P:=Tryz.prog) (ty:=109) (e:=144) (by simp) (i:=0) (by omega) (by omega)
 have f1:=rd.field (P:=Tryz.prog) (s:=144) (f:=1) (o:=1) (n:=1) (ag:=false) (by simp) (j:=0) h0
 have f2:=rd.field (P:=Tryz.prog) (s:=144) (f:=2) (o:=2) (n:=1) (ag:=false) (by simp) (j:=0) h0
 have f3:=rd.field (P:=Tryz.prog) (s:=144) (f:=3) (o:=3) (n:=1) (ag:=false) (by simp) (j:=0) h0
 have c1:=rd.cell (P:=Tryz.prog) (e:=3) (by simp) h0 (c:=1) (by decide)
 have c2:=rd.cell (P:=Tryz.prog) (e:=3) (by simp) h0 (c:=2) (by decide)
 have c3:=rd.cell (P:=Tryz.prog) (e:=4) (by simp) h0 (c:=3) (by decide)
 have q2:=rd.load (P:=Tryz.prog) (e:=144) (by simp) h0
 have e:headL xs=xs[0]:=by cases xs with
  | nil=>exact absurd rfl h
  | cons a l=>rfl
 rw [e]
 simp only [Int.toNat_natCast,Fd,Int.toNat_zero,Nat.zero_mul,Nat.zero_add,Nat.add_zero] at z0 f1 f2 f3 c1 c2 c3 q2
 simp only [Yu] at c1 c2 c3
 simp at c1 c2 c3
 exact ⟨z0,f1,f2,f3,c1,c2,c3,q2⟩
theorem Ni {P:Nat→Bool} {n p:Nat} (hp:p<n) (h:P p=true) (hn:∀q,q<p→P q=false):(List.range n).find? P=some p:=by
 rw [List.find?_eq_some_iff_append]
 refine ⟨h,List.range p,(List.range' (p+1) (n-(p+1))),?_,fun q hq=>by simpa using hn q (List.mem_range.1 hq)⟩
 rw [List.range_eq_range',List.range_eq_range']
 have e:n=p+(1+(n-(p+1))):=by omega
 conv=>lhs;rw [e,← List.range'_append_1]
 rw [Nat.add_comm 1,List.range'_succ];simp
theorem Uf {P:Nat→Bool} {n:Nat} (hn:∀q,q<n→P q=false):(List.range n).find? P=none:=by
 rw [List.find?_eq_none];intro q hq;simp [hn q (List.mem_range.1 hq)]
theorem Ub (n p c:Int):vcall C frz 101 [.int .i64 n,.int .i64 p,.int .i64 c] H=some (.int .i64 (if inR 0 n 15∧inR 0 p 4∧inR 0 c 1 then 10*n+2*p+c else -1),H):=by
 rw [Qa (fn:=Tryz.f101) Tryz.func101 rfl (by kernel_rfl) rfl]
 by_cases h1:inR 0 n 15
 ·by_cases h2:inR 0 p 4
  ·by_cases h3:inR 0 c 1
   ·simp [Qm,h1,h2,h3]
    unfold inR at h1 h2 h3
    have e1:=@w6 (5*n) (by omega)
    have e2:=@w6 (5*n+p) (by omega)
    have e3:∀[Inhabited Unit],IntKind.i64.wrap ((5*n+p)*2)=10*n+2*p:=by intro _;rw [w64 (by omega) (by omega)];omega
    have e4:=@w6 (10*n+2*p+c) (by omega)
    simp [e1,e2,e3,e4]
   ·simp [Qm,h1,h2,h3]
  ·simp [Qm,h1,h2]
 ·simp [Qm,h1]
theorem Th {n p c:Nat} (h1:n<16) (h2:p<5) (h3:c<2):vcall C frz 101 [.int .i64 (n:Int),.int .i64 (p:Int),.int .i64 (c:Int)] H=some (.int .i64 (outAt n p c:Nat),H):=by
 rw [Ub,if_pos ⟨⟨by omega,by omega⟩,⟨by omega,by omega⟩,⟨by omega,by omega⟩⟩]
 congr 3
theorem Qcm (w h:Int) (v:Value) (b:List Int) (c:Int) (hI:IsI H v b) (hl:b.length≤1073741824) :
 vcall C frz 131 [.agg #[.int .i64 w,.int .i64 h,v],.int .i64 c] H=some (.bool (decide (has w h b c)),H):=by
 rw [Qa (fn:=Tryz.f131) Tryz.func131 rfl (by kernel_rfl) rfl]
 simp [hI.one',hI.cells,Ln]
 refine W2 _ _ ?_ ?_<;>intro h2<;>simp [h2,has,Zt _ _ _ (hI.app _) hl,-Bool.decide_and]
theorem Kz {v:NetV} {x:NetD} {id a p c:Nat} {e:TypeId} {tail:List Value} (hr:H[id]? = some ⟨netCells v x++tail,0,e⟩) (o:dNet.Ow H v x) (ha:(a:Int)<cnt x.1.1 x.1.2.1) (hp:p<5) (hc:c<2) :
 vcall C frz 100 [.pointer (some ⟨id,0,some 0⟩),.int .i64 a,.int .i64 p,.int .i64 c] H=some (.int .i64 (if p≠4∧has x.1.1 x.1.2.1 x.1.2.2 (4*(a:Int)+p) then (tgt x a p c:Int) else -1),H):=by
 have ones:=Qk o
 have hl:=o.1.2
 have hI:=Rd.isI o.1.1.rd
 have cr:=Qe x.1.1 x.1.2.1
 rw [Qa (fn:=Tryz.f100) Tryz.func100 rfl (by kernel_rfl) rfl]
 unfold netCells at hr
 simp only [List.cons_append,List.nil_append] at hr
 have e1:=@w6 (4*(a:Int)) (by omega)
 have e2:∀[Inhabited Unit],IntKind.i64.wrap (4*(a:Int)+(p:Int))=4*(a:Int)+p:=by intro _;exact w64 (by omega) (by omega)
 have lv:=fun F=>Qcm (frz:=F) (H:=H) x.1.1 x.1.2.1 v.1 x.1.2.2 (4*(a:Int)+p) hI hl
 by_cases h4:p=4
 ·subst h4;simp
 have h4':¬(p:Int)=4:=by omega
 by_cases hh:has x.1.1 x.1.2.1 x.1.2.2 (4*(a:Int)+p)
 ·obtain ⟨t1,t2⟩:=Xl (w:=x.1.1) (h:=x.1.2.1) (a:=a) (p:=p) (b:=x.1.2.2) ⟨by omega,by omega⟩ hh
  obtain ⟨t2,t3⟩:=t2
  obtain ⟨u1,u2,u3⟩:=Ym (c:=c) hh (by omega) hc
  obtain ⟨s1,s2,s3⟩:=Sq (c:=c) hh (by omega)
  have en:=fun F=>Sa (frz:=F) (H:=H) x.1.1 x.1.2.1 v.1 x.1.2.2 (4*(a:Int)+p) hI hh.1
  rw [t1,t2] at en
  have ex:(10*next x.1.1 x.1.2.1 a p+2*opp p+c)=(tgt x a p c:Int):=u1.symm
  have hin:inR 0 (next x.1.1 x.1.2.1 a p) 15∧inR 0 (opp p) 4∧inR 0 (c:Int) 1:=⟨⟨s1.1,by have:=s1.2;omega⟩,⟨s2,by omega⟩,⟨by omega,by omega⟩⟩
  simp [VM.look,VM.vnil,hr,ones,e1,e2,lv,hh,h4,h4',en,Pc,Ub,hin,ex]
 ·simp [VM.look,VM.vnil,hr,ones,e1,e2,lv,hh,h4,h4']
theorem Ay {v:NetV} {x:NetD} {id a p c:Nat} {e:TypeId} {tail:List Value} (hr:H[id]? = some ⟨netCells v x++tail,0,e⟩) (o:dNet.Ow H v x) (hx:runOk x) (ha:(a:Int)<cnt x.1.1 x.1.2.1) (hp:p<5) (hc:c<2) :
 vcall C frz 204 [.pointer (some ⟨id,0,some 0⟩),.int .i64 a,.int .i64 p,.int .i64 c] H=some (.bool (decide (roomN x a p c)),H):=by
 have ones:=Qk o
 have bh:=fun F=>Kz (frz:=F) hr o ha hp hc
 rw [Qa (fn:=Tryz.f204) Tryz.func204 rfl (by kernel_rfl) rfl]
 unfold netCells at hr
 simp only [List.cons_append,List.nil_append] at hr
 by_cases h4:p=4
 ·subst h4;simp [roomN]
 have h4':¬(p:Int)=4:=by omega
 by_cases hh:has x.1.1 x.1.2.1 x.1.2.2 (4*(a:Int)+p)
 ·obtain ⟨u1,u2,u3⟩:=Ym (c:=c) hh (by omega) hc
  have hl:tgt x a p c<x.2.2.1.length:=by have:=hx.2.1.1;omega
  obtain ⟨u,a1,a2,a3,a4⟩:=Xi o.2.2.1.1.rd (ty:=36) (e:=109) (by simp) (by simp) hl
  have la:=a4.len (P:=Tryz.prog) (ty:=109) (by simp)
  have hgd:x.2.2.1[tgt x a p c]?.getD []=x.2.2.1[tgt x a p c]:=by simp [hl]
  simp [VM.look,VM.vnil,hr,ones,h4,h4',bh,hh,a2,a3,la,roomN,hgd]
  try omega
 ·simp [VM.look,VM.vnil,hr,ones,h4,h4',bh,hh,roomN]
theorem Gv (u1 u2:Value) (A B:List Int) (c:Int) (h1:IsI H u1 A) (h2:IsI H u2 B) :
 wp (vcall C frz 217 [.agg #[u1,u2],.int .i64 c] H) (fun r H'=>r=.agg #[if c=1 then u2 else u1]∧∃L,H'=H++L):=by
 rw [Qa (fn:=Tryz.f217) Tryz.func217 rfl (by kernel_rfl) rfl]
 have one:=And.intro (And.intro h1.one' h1.cells) (And.intro h2.one' h2.cells)
 simp [one]
 refine Qc ?_ ?_<;>intro g<;>simp [g,one]
theorem wk {v:NetV} {x:NetD} {id a i:Nat} {e:TypeId} {tail:List Value} (hr:H[id]? = some ⟨netCells v x++tail,0,e⟩) (o:dNet.Ow H v x) (hx:runOk x) (ha:(a:Int)<cnt x.1.1 x.1.2.1) (hi:i<10) :
 vcall C frz 203 [.pointer (some ⟨id,0,some 0⟩),.int .i64 a,.int .i64 i] H=some (.int .i64 (wantedN x a i),H):=by
 refine wp.exact (by simp) ?_ rfl
 have ones:=Qk o
 have cr:=Qe x.1.1 x.1.2.1
 rw [Qa (fn:=Tryz.f203) Tryz.func203 rfl (by kernel_rfl) rfl]
 unfold netCells at hr
 simp only [List.cons_append,List.nil_append] at hr
 obtain ⟨d,hd⟩:∃d,d=10*a+i:=⟨_,rfl⟩
 obtain ⟨c,hc⟩:∃c,c=i%2:=⟨_,rfl⟩
 obtain ⟨q,hq⟩:∃q,q=i/2:=⟨_,rfl⟩
 generalize hY:wantedN x a i=Y
 unfold wantedN at hY
 rw [← hd,← hc,← hq] at hY
 have e1:=@w6 (10*(a:Int)) (by omega)
 have e2:∀[Inhabited Unit],IntKind.i64.wrap (10*(a:Int)+(i:Int))=(d:Int):=by intro _;rw [w64 (by omega) (by omega)];omega
 have e3:∀[Inhabited Unit],(i:Int).tmod 2=(c:Int):=by intro _;rw [tmod2];omega
 have e4:∀[Inhabited Unit],IntKind.i64.wrap ((i:Int)/2)=(q:Int):=by intro _;rw [w64 (by omega) (by omega)];omega
 have hl:d<x.2.2.1.length:=by have:=hx.2.1.1;omega
 obtain ⟨u,a1,a2,a3,a4⟩:=Xi o.2.2.1.1.rd (ty:=36) (e:=109) (by simp) (by simp) hl
 have la:=a4.len (P:=Tryz.prog) (ty:=109) (by simp)
 have hgd:x.2.2.1.getD d []=x.2.2.1[d]:=by simp [List.getD_eq_getElem?_getD,hl]
 have hho:headOf x d=headL x.2.2.1[d]:=by unfold headOf;rw [hgd]
 have qa:VM.one u=true∧u.cells=#[u]:=⟨a4.one',a4.cells⟩
 simp [VM.look,VM.vnil,hr,ones,e1,e2,a2,a3,la]
 rw [hgd,hho] at hY
 by_cases g0:x.2.2.1[d]=[]
 ·rw [if_pos g0] at hY
  simp [g0,hY]
 rw [if_neg g0] at hY
 have g0':¬(x.2.2.1[d].length:Int)=0:=by
  have:=List.length_pos_iff.2 g0;omega
 have g0n:¬x.2.2.1[d].length=0:=by omega
 have fr:=fun L=>front (a4.app (L:=L)) g0
 have zL:=fun L=>(fr L).1
 have fL:=fun L=>(fr L).2.1
 have cL:=fun L=>(fr L).2.2.2.2.1
 clear fr
 obtain ⟨z0,f1,f2,f3,c1,c2,c3,_⟩:=front a4 g0
 obtain ⟨k1,k2⟩:=hx.2.2.1 d _ (by rw [hgd];exact S4 g0)
 generalize headL x.2.2.1[d]=f at *
 simp [-vfieldAddr,Vk,g0',g0n,g0,z0,f3,c3]
 by_cases g1:f.2.2.2.1=true
 ·rw [if_pos g1] at hY
  simp only [g1]
  simp
  rw [Qf (h:=by kernel_rfl)]
  have hcl:f.2.2.1=(c:Int):=by rw [k1];omega
  have hi1:IsI H v.2.1.1 x.2.1.1:=Rd.isI o.2.1.1.1.rd
  have hi2:IsI H v.2.1.2 x.2.1.2:=Rd.isI o.2.1.2.1.rd
  simp [-vfieldAddr,Vk,VM.look,VM.vnil,hr,ones,z0,f1,f2,c1,c2,hcl]
  refine Qd (Gv v.2.1.1 v.2.1.2 x.2.1.1 x.2.1.2 (c:Int) hi1 hi2) ?_
  rintro _ K ⟨rfl,L,rfl⟩
  have hT:IsI H (if (c:Int)=1 then v.2.1.2 else v.2.1.1) (if c=1 then x.2.1.2 else x.2.1.1):=by
   by_cases h1:c=1
   ·simp [h1,hi2]
   ·rw [if_neg (by omega),if_neg h1];exact hi1
  have hok:tableOk x.1.1 x.1.2.1 x.1.2.2 (if c=1 then x.2.1.2 else x.2.1.1):=by split;exact hx.1.2;exact hx.1.1
  have hin:=Cj hok (a:=a) (c:=f.2.1) ⟨by omega,ha⟩ k2.1
  generalize (if (c:Int)=1 then v.2.1.2 else v.2.1.1)=uT at *
  generalize (if c=1 then x.2.1.2 else x.2.1.1)=T at *
  have pt:=fun F=>Gp (frz:=F) (H:=H++L) x.1.1 x.1.2.1 v.1 uT x.1.2.2 T a f.2.1 (Rd.isI o.1.1.rd.app) (hT.app _) o.1.2 hok.1 ⟨by omega,ha⟩ k2.1
  rw [hY,if_pos (hY▸hin)] at pt
  simp [-vfieldAddr,Vk,ones,hT.one',hT.cells,pt,zL,fL,cL]
 ·rw [if_neg g1] at hY
  simp only [g1]
  simp
  refine Qg (fun n t H'=>∃p:Nat,n=5-p∧p≤5∧t 0=.pointer (some ⟨id,0,some 0⟩)∧t 1=.int .i64 a∧t 2=.int .i64 i∧t 8=.int .i64 p∧H'=H∧∀r,r<p→decide (x.2.2.2.1.getD (outAt a r c) 0=(q:Int))=false) ?_ (n:=5) ⟨0,by simp,by omega,by simp,by simp,by simp,by simp,rfl,by omega⟩
  rintro n t H' ⟨p,rfl,hp,t0,t1,t2,t8,rfl,hk⟩ ih
  simp [t0,t1,t2,t8]
  refine Qc ?_ ?_<;>intro g
  ·have hp':p<5:=by omega
   have bA:=fun F=>Th (frz:=F) (H:=H') (n:=a) (p:=p) (c:=c) (by omega) hp' (by omega)
   have hz:outAt a p c<x.2.2.2.1.length:=by have:=hx.2.1.2.1;unfold outAt;omega
   have hgo:x.2.2.2.1.getD (outAt a p c) 0=x.2.2.2.1[outAt a p c]:=by simp [List.getD_eq_getElem?_getD,hz]
   have hk2:=hk
   generalize hzz:outAt a p c=z at *
   have rd:=Rd.isI o.2.2.2.1.1.rd
   have q1:=rd.idx (P:=Tryz.prog) (ty:=26) (e:=3) (by simp) (i:=(z:Int)) (by omega) (by omega)
   have q2:=rd.load (P:=Tryz.prog) (e:=3) (by simp) hz
   simp only [Int.toNat_natCast] at q1 q2
   rw [hgo] at q2
   simp [t0,t1,t2,t8]
   rw [Qf (h:=by kernel_rfl)]
   simp [VM.look,VM.vnil,hr,ones,t0,t1,t2,t8,e3,e4,bA,q1,q2]
   refine Qc ?_ ?_<;>intro g2
   ·simp [t0,t1,t2,t8]
    rw [Ni hp' (by rw [hzz,hgo];exact decide_eq_true g2) hk] at hY
    exact hY
   ·simp [t0,t1,t2,t8]
    refine ih (5-(p+1)) _ _ ⟨p+1,rfl,by omega,by simp [t0],by simp [t1],by simp [t2],?_,rfl,fun r hr'=>?_⟩ (by omega)
    ·simp;rw [w64 (by omega) (by omega)]
    ·by_cases hrp:r<p
     ·exact hk r hrp
     ·have:r=p:=by omega
      subst this
      rw [hzz,hgo];exact decide_eq_false g2
  ·have:p=5:=by omega
   subst this
   rw [Uf hk] at hY
   simp [t0,t1,t2,t8,hY]
theorem Gf {v:NetV} {x:NetD} {id a i p:Nat} {e:TypeId} {tail:List Value} (hr:H[id]? = some ⟨netCells v x++tail,0,e⟩) (o:dNet.Ow H v x) (hx:runOk x) (ha:(a:Int)<cnt x.1.1 x.1.2.1) (hi:i<10) (hp:p<5) :
 vcall C frz 193 [.pointer (some ⟨id,0,some 0⟩),.int .i64 a,.int .i64 i,.int .i64 p] H=some (.bool (decide (reqN x a i p)),H):=by
 refine wp.exact (by simp) ?_ rfl
 have ones:=Qk o
 have cr:=Qe x.1.1 x.1.2.1
 obtain ⟨d,hd⟩:∃d,d=10*a+i:=⟨_,rfl⟩
 obtain ⟨c,hc⟩:∃c,c=i%2:=⟨_,rfl⟩
 obtain ⟨q,hq⟩:∃q,q=i/2:=⟨_,rfl⟩
 have wn:=fun F=>wk (frz:=F) hr o hx ha hi
 have rm:=fun F=>Ay (frz:=F) (c:=c) hr o hx ha hp (by omega)
 have bA:=fun F=>Th (frz:=F) (H:=H) (n:=a) (p:=p) (c:=c) (by omega) hp (by omega)
 rw [Qa (fn:=Tryz.f193) Tryz.func193 rfl (by kernel_rfl) rfl]
 unfold netCells at hr
 simp only [List.cons_append,List.nil_append] at hr
 generalize hY:decide (reqN x a i p)=Y
 have no:¬reqN x a i p→Y=false:=fun hh=>by rw [← hY];exact decide_eq_false hh
 have e0:¬(p:Int)<0:=by omega
 have e1:=@w6 (10*(a:Int)) (by omega)
 have e2:∀[Inhabited Unit],IntKind.i64.wrap (10*(a:Int)+(i:Int))=(d:Int):=by intro _;rw [w64 (by omega) (by omega)];omega
 have e3:∀[Inhabited Unit],(i:Int).tmod 2=(c:Int):=by intro _;rw [tmod2];omega
 have e4:∀[Inhabited Unit],IntKind.i64.wrap ((i:Int)/2)=(q:Int):=by intro _;rw [w64 (by omega) (by omega)];omega
 by_cases g1:wantedN x a i=(p:Int)
 rotate_left
 ·simp [e0,wn,g1];exact no (fun k=>g1 k.1)
 by_cases g2:roomN x a p c
 rotate_left
 ·simp [e0,wn,g1,e3,rm,g2];exact no (fun k=>g2 (hc▸k.2.1))
 have hl:d<x.2.2.1.length:=by have:=hx.2.1.1;omega
 obtain ⟨u,a1,a2,a3,a4⟩:=Xi o.2.2.1.1.rd (ty:=36) (e:=109) (by simp) (by simp) hl
 have hgd:x.2.2.1.getD d []=x.2.2.1[d]:=by simp [List.getD_eq_getElem?_getD,hl]
 have hho:headOf x d=headL x.2.2.1[d]:=by unfold headOf;rw [hgd]
 have g0:x.2.2.1[d]≠[]:=fun hh=>by
  unfold wantedN at g1
  rw [← hd,hgd,if_pos hh] at g1
  omega
 obtain ⟨z0,f1,f2,f3,c1,c2,c3,_⟩:=front a4 g0
 have hz:outAt a p c<x.2.2.2.1.length:=by have:=hx.2.1.2.1;unfold outAt;omega
 have hgo:x.2.2.2.1.getD (outAt a p c) 0=x.2.2.2.1[outAt a p c]:=by simp [List.getD_eq_getElem?_getD,hz]
 have key:reqN x a i p↔x.2.2.2.1[outAt a p c]=if (headL x.2.2.1[d]).2.2.2.1 then -1 else (q:Int):=by
  unfold reqN;rw [← hd,← hc,← hq,hgo,hho]
  exact ⟨fun k=>k.2.2,fun k=>⟨g1,g2,k⟩⟩
 generalize hzz:outAt a p c=z at *
 generalize headL x.2.2.1[d]=f at *
 have rd:=Rd.isI o.2.2.2.1.1.rd
 have q1:=rd.idx (P:=Tryz.prog) (ty:=26) (e:=3) (by simp) (i:=(z:Int)) (by omega) (by omega)
 have q2:=rd.load (P:=Tryz.prog) (e:=3) (by simp) hz
 simp only [Int.toNat_natCast] at q1 q2
 rw [hgo] at q2
 have qa:VM.one u=true∧u.cells=#[u]:=⟨a4.one',a4.cells⟩
 simp [e0,wn,g1,e3,rm,g2]
 rw [Qf (h:=by kernel_rfl)]
 simp [VM.look,VM.vnil,hr,ones,e3,bA,q1,q2]
 simp [-vfieldAddr,Vk,VM.look,VM.vnil,hr,ones,e1,e2,a2,a3,z0,f3,c3]
 by_cases g3:f.2.2.2.1=true
 ·simp only [g3,if_true] at key ⊢
  simp [e4]
  rw [← hY];simp only [key]
 ·simp only [g3,if_false] at key ⊢
  simp [e4]
  rw [← hY];simp only [key]
  try simp
theorem Fs {v:NetV} {x:NetD} {id a p:Nat} {e:TypeId} {tail:List Value} (hr:H[id]? = some ⟨netCells v x++tail,0,e⟩) (o:dNet.Ow H v x) (hx:runOk x) (ha:(a:Int)<cnt x.1.1 x.1.2.1) (hp:p<5) :
 wp (vcall C frz 169 [.pointer (some ⟨id,0,some 0⟩),.int .i64 a,.int .i64 p] H) (fun r H'=>Ow Fl.int 3 H' r ((reqsN x a p).map Int.ofNat)∧(∀i∈ids r,H.length≤i)∧Chg H H' []):=by
 rw [Qa (fn:=Tryz.f169) Tryz.func169 rfl (by kernel_rfl) rfl]
 simp
 refine Qg (fun n t H'=>∃(i:Nat) (r:Value),n=10-i∧i≤10∧t 0=.pointer (some ⟨id,0,some 0⟩)∧t 1=.int .i64 a∧t 2=.int .i64 p∧t 7=r∧t 10=.int .i64 i∧Chg H H' []∧Ow Fl.int 3 H' r (((List.range i).filter fun i=>reqN x a i p).map Int.ofNat)∧(∀j∈ids r,H.length≤j)) ?_ (n:=10)
  ⟨0,.slice (some ⟨H.length,0,some 0⟩) 0 0,rfl,by omega,by simp,by simp,by simp,by simp,by simp,Chg.app _,Ow.new0 (D:=Fl.int) (xs:=[]) rfl rfl rfl rfl,by simp⟩
 rintro n t H' ⟨i,r,rfl,hi,t0,t1,t2,t7,t10,ch,oo,nr⟩ ih
 simp [t0,t1,t2,t7,t10]
 refine Qc ?_ ?_<;>intro g
 ·have hi':i<10:=by omega
  have rq:=fun F=>Gf (frz:=F) (i:=i) (Qb hr ch (by simp)) (Dt.chg (T:=dNet) o ch (by simp)) hx ha hi' hp
  have hfl:=List.length_filter_le (fun i=>decide (reqN x a i p)) (List.range i)
  rw [List.length_range] at hfl
  simp [t0,t1,t2,t7,t10,rq]
  refine Qc ?_ ?_<;>intro g1
  ·obtain ⟨r',H2,hap,o2,c2,n2⟩:=oo.push (P:=Tryz.prog) (frz:=H.length) (ty:=26) (a:=(i:Int)) (by simp) rfl (by simp;omega) nr
   simp only [Fl.int_f] at hap
   have l0:=ch.1
   simp [t0,t1,t2,t7,t10,hap]
   refine ih (10-(i+1)) _ _ ⟨i+1,r',rfl,by omega,by simp [t0],by simp [t1],by simp [t2],by simp,?_,ch.trans' c2 (fun j hj=>.inr (nr j hj)),?_,fun j hj=>?_⟩ (by omega)
   ·simp [t10];rw [w64 (by omega) (by omega)]
   ·rw [List.range_succ,List.filter_append,List.map_append];simpa [g1] using o2
   ·rcases n2 j hj with h1|h1
    ·exact nr j h1
    ·have:=ch.1;omega
  ·simp [t0,t1,t2,t7,t10]
   refine ih (10-(i+1)) _ _ ⟨i+1,r,rfl,by omega,by simp [t0],by simp [t1],by simp [t2],by simp [t7],?_,ch,?_,nr⟩ (by omega)
   ·simp [t10];rw [w64 (by omega) (by omega)]
   ·rw [List.range_succ,List.filter_append,List.map_append];simpa [g1] using oo
 ·have:i=10:=by omega
  subst this
  simp [t0,t1,t2,t7,t10]
  exact ⟨oo,nr,ch⟩
theorem Gc {y t:Int} (h1:inR 0 y 9) (h2:inR 0 t 9):∀[Inhabited Unit],(IntKind.i64.wrap (IntKind.i64.wrap (y-t)+10)).tmod 10=(y-t+10)%10:=by
 intro _
 unfold inR at h1 h2
 rw [w64 (x:=y-t) (by omega) (by omega),w64 (by omega) (by omega),Int.tmod_eq_emod_of_nonneg (by omega)]
def firstTo (t:Int) (l:List Int) (i:Nat):Int:=firstF t (l.take i)
theorem Lo (t:Int) {l:List Int} {i:Nat} (h:i<l.length):firstTo t l (i+1)=if firstTo t l i<0∨(l[i]-t+10)%10<(firstTo t l i-t+10)%10 then l[i] else firstTo t l i:=by
 unfold firstTo firstF
 rw [List.take_succ_eq_append_getElem h,List.foldl_append];rfl
theorem Fx {t:Int} {l:List Int} {i:Nat} (h:∀y∈l,inR 0 y 9):firstTo t l i=-1∨inR 0 (firstTo t l i) 9:=by
 rcases Va t (l.take i) (-1) with g|g
 ·exact .inl g
 ·exact .inr (h _ (List.mem_of_mem_take g))
theorem Gl (v:Value) (l:List Int) (k:Int) (hI:IsI H v l) (hl:l.length≤1073741824) (h1:∀y∈l,inR 0 y 9) (h2:inR 0 k 9) :
 vcall C frz 171 [v,.int .i64 k] H=some (.int .i64 (firstF k l),H):=by
 refine wp.exact (by simp) ?_ rfl
 rw [Qa (fn:=Tryz.f171) Tryz.func171 rfl (by kernel_rfl) rfl]
 have ai:∀F,vcall C F 44 [v,.int .i64 0,.int .i64 9] H=some (.bool true,H):=fun F=>by rw [Y4 v l 0 9 hI hl,decide_eq_true h1]
 simp [ai,Qm,h1,h2,hI.len]
 refine Qg (fun n t H'=>∃i:Nat,n=l.length-i∧i≤l.length∧t 1=.int .i64 k∧t 5=.int .i64 (firstTo k l i)∧t 16=v∧t 17=.int .i64 l.length∧t 18=.int .i64 i∧H'=H) ?_ (n:=l.length)
  ⟨0,rfl,by omega,by simp,by simp [firstTo,firstF],by simp,by simp,by simp,rfl⟩
 rintro n t H' ⟨i,rfl,hi,t1,t5,t16,t17,t18,rfl⟩ ih
 simp [t1,t5,t16,t17,t18]
 refine Qc ?_ ?_<;>intro g
 ·have hi':i<l.length:=by omega
  have hs:=Lo k hi'
  have hy:=h1 _ (List.getElem_mem hi')
  have tv:=Gc hy h2
  simp [t1,t5,t16,t17,t18,hI.idx,hI.load,Qx,hi']
  rcases Fx (t:=k) (i:=i) h1 with g1|g1
  ·rw [g1] at hs
   simp [g1] at hs
   simp [t1,t5,t16,t17,t18,g1]
   refine ih (l.length-(i+1)) _ _ ⟨i+1,rfl,by omega,by simp [t1],by simp [hs],by simp [t16],by simp [t17],?_,rfl⟩ (by omega)
   simp [t18];rw [w64 (by omega) (by omega)]
  ·have tb:=Gc g1 h2
   have g2:¬firstTo k l i<0:=by unfold inR at g1;omega
   simp [t1,t5,t16,t17,t18,g2,tv,tb]
   refine Qc ?_ ?_<;>intro g3
   ·rw [if_pos (.inr (by omega))] at hs
    simp [t1,t5,t16,t17,t18]
    refine ih (l.length-(i+1)) _ _ ⟨i+1,rfl,by omega,by simp [t1],by simp [hs],by simp [t16],by simp [t17],?_,rfl⟩ (by omega)
    simp [t18];rw [w64 (by omega) (by omega)]
   ·rw [if_neg (by omega)] at hs
    simp [t1,t5,t16,t17,t18]
    refine ih (l.length-(i+1)) _ _ ⟨i+1,rfl,by omega,by simp [t1],by simp [hs,t5],by simp [t16],by simp [t17],?_,rfl⟩ (by omega)
    simp [t18];rw [w64 (by omega) (by omega)]
 ·have:i=l.length:=by omega
  subst this
  simp [t1,t5,t16,t17,t18,firstTo]
end Go.Proofs.YtaldglgobgjeaaaGreat.V
set_option linter.all false
namespace Go.Proofs.YtaldglgobgjeaaaGreat.V
open Go Go.VM Go.Proofs
def G (xs:List Int) (i:Nat):Int:=xs.getD i 0
theorem Wr {xs:List Int} {i:Nat} (h:i<xs.length):G xs i=xs[i]:=by simp [G,List.getD_eq_getElem?_getD,h]
def swp (xs:List Int) (i j:Nat):List Int:=(xs.set i (G xs j)).set j (G xs i)
@[simp] theorem nm (xs:List Int) (i j:Nat):(swp xs i j).length=xs.length:=by simp [swp]
theorem Xr {xs:List Int} {i j:Nat} (hi:i<xs.length) (hj:j<xs.length) (k:Nat):G (swp xs i j) k=if k=j then G xs i else if k=i then G xs j else G xs k:=by
 unfold swp
 by_cases hk:k<xs.length
 ·rw [Wr (by simpa using hk),List.getElem_set,List.getElem_set]
  by_cases h1:k=j
  ·rw [if_pos h1.symm,if_pos h1]
  ·rw [if_neg (Ne.symm h1),if_neg h1]
   by_cases h2:k=i
   ·rw [if_pos h2.symm,if_pos h2]
   ·rw [if_neg (Ne.symm h2),if_neg h2,Wr hk]
 ·rw [if_neg (by omega),if_neg (by omega)]
  simp [G,List.getD_eq_getElem?_getD,hk]
theorem ym {xs:List Int} {i j:Nat} (hi:i<xs.length) (hj:j<xs.length):(swp xs i j).Perm xs:=by
 unfold swp
 rw [Wr hi,Wr hj]
 exact List.set_set_perm hi hj
inductive Sw (a b:Nat) (xs:List Int):List Int→Prop
 | refl:Sw a b xs xs
 | step {ys:List Int} (i j:Nat) (h:Sw a b xs ys) (hi:a≤i∧i<b) (hj:a≤j∧j<b):Sw a b xs (swp ys i j)
variable {a b c d:Nat} {xs ys zs:List Int}
theorem Sw.len (h:Sw a b xs ys):ys.length=xs.length:=by
 induction h with
 | refl=>rfl
 | step i j _ _ _ ih=>rw [nm,ih]
theorem Sw.trans (h:Sw a b xs ys) (h':Sw a b ys zs):Sw a b xs zs:=by
 induction h' with
 | refl=>exact h
 | step i j _ hi hj ih=>exact .step i j ih hi hj
theorem Sw.mono (h:Sw a b xs ys) (ha:c≤a) (hb:b≤d):Sw c d xs ys:=by
 induction h with
 | refl=>exact .refl
 | step i j _ hi hj ih=>exact .step i j ih (by omega) (by omega)
theorem Sw.perm (h:Sw a b xs ys) (hb:b≤xs.length):ys.Perm xs:=by
 induction h with
 | refl=>exact List.Perm.refl _
 | step i j g hi hj ih=>exact (ym (by rw [g.len];omega) (by rw [g.len];omega)).trans ih
theorem Sw.out (h:Sw a b xs ys) (hb:b≤xs.length) {k:Nat} (hk:k<a∨b≤k):G ys k=G xs k:=by
 induction h with
 | refl=>rfl
 | step i j g hi hj ih=>rw [Xr (by rw [g.len];omega) (by rw [g.len];omega),if_neg (by omega),if_neg (by omega),ih]
theorem Sw.all (h:Sw a b xs ys) (hb:b≤xs.length) {p:Int→Prop} (hp:∀k,a≤k→k<b→p (G xs k)):∀k,a≤k→k<b→p (G ys k):=by
 induction h with
 | refl=>exact hp
 | step i j g hi hj ih=>
  intro k h1 h2
  rw [Xr (by rw [g.len];omega) (by rw [g.len];omega)]
  split
  ·exact ih i hi.1 hi.2
  ·split
   ·exact ih j hj.1 hj.2
   ·exact ih k h1 h2
theorem Sw.all' (h:Sw a b xs ys) (hb:b≤xs.length) {p:Int→Prop} (hc:c≤a) (hd:b≤d) (hp:∀k,c≤k→k<d→p (G xs k)):∀k,c≤k→k<d→p (G ys k):=by
 intro k h1 h2
 by_cases hk:a≤k∧k<b
 ·exact h.all hb (fun q g1 g2=>hp q (by omega) (by omega)) k hk.1 hk.2
 ·rw [h.out hb (by omega)];exact hp k h1 h2
def Srt (ys:List Int) (a b:Nat):Prop:=∀p q,a≤p→p<q→q<b→G ys p≤G ys q
theorem Srt.short (h:b≤a+1):Srt ys a b:=fun p q h1 h2 h3=>by omega
theorem Srt.frame (h:Srt ys a b) (he:∀k,a≤k→k<b→G zs k=G ys k):Srt zs a b:=fun p q h1 h2 h3=>by
 rw [he p h1 (by omega),he q (by omega) h3];exact h p q h1 h2 h3
theorem Srt.join (h1:Srt ys a b) (h2:Srt ys b c) (h:∀p q,a≤p→p<b→b≤q→q<c→G ys p≤G ys q):Srt ys a c:=fun p q h3 h4 h5=>by
 by_cases hq:q<b
 ·exact h1 p q h3 h4 hq
 ·by_cases hp:p<b
  ·exact h p q h3 hp (by omega) h5
  ·exact h2 p q (by omega) h4 h5
theorem Srt.pairwise (h:Srt ys 0 ys.length):ys.Pairwise (·≤·):=by
 rw [List.pairwise_iff_getElem]
 intro i j hi hj hij
 have:=h i j (Nat.zero_le _) hij hj
 rwa [Wr hi,Wr hj] at this
def Ins (ys:List Int) (a i j:Nat):Prop:=∀p q,a≤p→p<q→q≤i→q≠j→G ys p≤G ys q
theorem Ins.start (h:Srt ys a b):Ins ys a b b:=fun p q h1 h2 h3 h4=>h p q h1 h2 (by omega)
theorem Ins.step {i j:Nat} (h:Ins ys a i j) (hi:i<ys.length) (ha:a<j) (hj:j≤i) (hlt:G ys j<G ys (j-1)):Ins (swp ys j (j-1)) a i (j-1):=by
 intro p q h1 h2 h3 h4
 rw [Xr (by omega) (by omega),Xr (by omega) (by omega)]
 rw [if_neg h4]
 by_cases hp:p=j-1
 ·rw [if_pos hp]
  by_cases hq:q=j
  ·rw [if_pos hq];omega
  ·rw [if_neg hq];have:=h (j-1) q (by omega) (by omega) h3 hq;omega
 ·rw [if_neg hp]
  by_cases hpj:p=j
  ·rw [if_pos hpj]
   rw [if_neg (by omega)]
   exact h (j-1) q (by omega) (by omega) h3 (by omega)
  ·rw [if_neg hpj]
   by_cases hq:q=j
   ·rw [if_pos hq];exact h p (j-1) h1 (by omega) (by omega) (by omega)
   ·rw [if_neg hq];exact h p q h1 h2 h3 hq
theorem Ins.done {i j:Nat} (h:Ins ys a i j) (hj:j=a∨(a<j∧G ys (j-1)≤G ys j)):Srt ys a (i+1):=by
 intro p q h1 h2 h3
 by_cases hq:q=j
 ·subst hq
  rcases hj with hj|⟨hj,hle⟩
  ·omega
  ·by_cases hp:p=q-1
   ·rw [hp];exact hle
   ·have:=h p (q-1) h1 (by omega) (by omega) (by omega);omega
 ·exact h p q h1 h2 (by omega) hq
def Hp (ys:List Int) (f lo n:Nat):Prop:=∀r c,lo≤r→(c=2*r+1∨c=2*r+2)→c<n→G ys (f+c)≤G ys (f+r)
def HpB (ys:List Int) (f lo n r:Nat):Prop:=
 (∀s c,lo≤s→s≠r→(c=2*s+1∨c=2*s+2)→c<n→G ys (f+c)≤G ys (f+s))∧
 (∀s c,lo≤s→(r=2*s+1∨r=2*s+2)→(c=2*r+1∨c=2*r+2)→c<n→G ys (f+c)≤G ys (f+s))
theorem HpB.start {f lo n:Nat} (h:Hp ys f (lo+1) n):HpB ys f lo n lo:=
 ⟨fun s c h1 h2 h3 h4=>h s c (by omega) h3 h4,fun s c h1 h2=>by omega⟩
theorem HpB.done {f lo n r:Nat} (h:HpB ys f lo n r) (hd:∀c,(c=2*r+1∨c=2*r+2)→c<n→G ys (f+c)≤G ys (f+r)):Hp ys f lo n:=fun s c h1 h2 h3=>by
 by_cases hs:s=r
 ·subst hs;exact hd c h2 h3
 ·exact h.1 s c h1 hs h2 h3
theorem HpB.step {f lo n r c:Nat} (h:HpB ys f lo n r) (hl:f+n≤ys.length) (hlo:lo≤r) (hc:c=2*r+1∨c=2*r+2) (hn:c<n) (hlt:G ys (f+r)<G ys (f+c))
 (hbig:∀q,(q=2*r+1∨q=2*r+2)→q<n→G ys (f+q)≤G ys (f+c)):HpB (swp ys (f+r) (f+c)) f lo n c:=by
 have gc:G (swp ys (f+r) (f+c)) (f+c)=G ys (f+r):=by rw [Xr (by omega) (by omega),if_pos rfl]
 have gr:G (swp ys (f+r) (f+c)) (f+r)=G ys (f+c):=by rw [Xr (by omega) (by omega),if_neg (by omega),if_pos rfl]
 have go:∀k,k≠c→k≠r→G (swp ys (f+r) (f+c)) (f+k)=G ys (f+k):=fun k h1 h2=>by rw [Xr (by omega) (by omega),if_neg (by omega),if_neg (by omega)]
 refine ⟨fun s q h1 h2 h3 h4=>?_,fun s q h1 h2 h3 h4=>?_⟩
 ·by_cases hq:q=c
  ·have hs:s=r:=by omega
   subst hq hs
   rw [gc,gr];omega
  ·by_cases hs:s=r
   ·subst hs
    rw [gr,go q hq (by omega)]
    exact hbig q h3 h4
   ·by_cases hqr:q=r
    ·subst hqr
     rw [gr,go s h2 hs]
     exact h.2 s c h1 h3 hc hn
    ·rw [go q hq hqr,go s h2 hs];exact h.1 s q h1 hs h3 h4
 ·have hs:s=r:=by omega
  subst hs
  rw [gr,go q (by omega) (by omega)]
  exact h.1 c q (by omega) (by omega) h3 h4
theorem Hp.top {f n:Nat} (h:Hp ys f 0 n):∀c,c<n→G ys (f+c)≤G ys f:=by
 intro c
 induction c using Nat.strongRecOn with
 | _ c ih=>
  intro hc
  by_cases h0:c=0
  ·subst h0;exact Int.le_refl _
  ·have h1:=h ((c-1)/2) c (by omega) (by omega) hc
   have h2:=ih ((c-1)/2) (by omega) (by omega)
   omega
theorem Hp.frame {f lo n:Nat} (h:Hp ys f lo n) (he:∀k,lo≤k→k<n→G zs (f+k)=G ys (f+k)):Hp zs f lo n:=fun r c h1 h2 h3=>by
 rw [he c (by omega) h3,he r h1 (by omega)];exact h r c h1 h2 h3
end Go.Proofs.YtaldglgobgjeaaaGreat.V
set_option linter.all false
namespace Go.Proofs.YtaldglgobgjeaaaGreat.V
open Go Go.VM Go.Proofs
set_option maxRecDepth 10000
variable {frz:Nat} {H:Heap} {v:Value} {xs:List Int} {e:TypeId}
theorem Qs (o:Ow Fl.int e H v xs) {i:Nat} (h1:i<xs.length):vindexAddr Tryz.prog H 26 v (.int .i64 i)=some (elp v i):=by
 have:=o.rd.isI.idx (P:=Tryz.prog) (ty:=26) (e:=3) (by simp) (i:=(i:Int)) (by omega) (by omega)
 simpa using this
theorem Qt (o:Ow Fl.int e H v xs) {i:Nat} (h1:i<xs.length):vload Tryz.prog H 3 (elp v i)=some (.int .i64 (G xs i)):=
 o.rd.isI.load (P:=Tryz.prog) (e:=3) (by simp) h1
theorem Wv (o:Ow Fl.int e H v xs) {i j:Nat} (hi:i<xs.length) (hj:j<xs.length) (hf:∀i∈ids v,frz≤i) :
 ∃H1 H2,vstore Tryz.prog frz H 3 (.int .i64 (G xs j)) (elp v i)=some H1∧(∀k:Nat,k<xs.length→vindexAddr Tryz.prog H1 26 v (.int .i64 k)=some (elp v k))∧
  vstore Tryz.prog frz H1 3 (.int .i64 (G xs i)) (elp v j)=some H2∧Ow Fl.int e H2 v (swp xs i j)∧Chg H H2 (ids v)∧H2.length=H.length:=by
 obtain ⟨H1,s1,o1,c1,l1⟩:=o.put1 (P:=Tryz.prog) (frz:=frz) rfl (et:=3) (ag:=false) (by simp) hi (x:=.int .i64 (G xs j)) (y:=G xs j) rfl rfl rfl hf
 obtain ⟨H2,s2,o2,c2,l2⟩:=o1.put1 (P:=Tryz.prog) (frz:=frz) rfl (et:=3) (ag:=false) (by simp) (j:=j) (by simpa using hj) (x:=.int .i64 (G xs i)) (y:=G xs i) rfl rfl rfl hf
 exact ⟨H1,H2,s1,fun k hk=>Qs o1 (by simpa using hk),s2,o2,c1.trans c2,by omega⟩
def Swd (H:Heap) (v:Value) (xs:List Int) (e:TypeId) (a b:Nat) (K:List Int→Prop) (H':Heap):Prop:=
 ∃ys,Sw a b xs ys∧K ys∧Ow Fl.int e H' v ys∧Chg H H' (ids v)∧H'.length=H.length
theorem Xp (a b:Int):vcall C frz 140 [.int .i64 a,.int .i64 b] H=some (.bool (decide (a<b)),H):=by
 have nan:=fun (F:Nat) (H:Heap) (a:Int)=>show vcall C F 177 [.int .i64 a] H=some (.bool false,H) by
  rw [Qa (fn:=Tryz.f177) Tryz.func177 rfl (by kernel_rfl) rfl]
  simp
 rw [Qa (fn:=Tryz.f140) Tryz.func140 rfl (by kernel_rfl) rfl]
 simp [nan]
theorem B9 (v:Value) (xs:List Int) (e:TypeId) (a b:Nat) (h:Ow Fl.int e H v xs) (hab:a≤b) (hb:b≤xs.length) (hl:xs.length≤1073741824) (hf:∀i∈ids v,frz≤i) :
 wp (vcall C frz 134 [v,.int .i64 a,.int .i64 b] H) (fun _ H'=>Swd H v xs e a b (fun ys=>Srt ys a b) H'):=by
 rw [Qa (fn:=Tryz.f134) Tryz.func134 rfl (by kernel_rfl) rfl]
 simp
 refine Qg (fun n t H'=>∃i:Nat,n=b-i∧t 0=v∧t 1=.int .i64 a∧t 2=.int .i64 b∧t 6=.int .i64 i∧a+1≤i∧i≤max (a+1) b∧Swd H v xs e a b (fun ys=>Srt ys a i) H') ?_ (n:=b-(a+1))
  ⟨a+1,by simp,by simp,by simp,by simp,by simp;exact w64 (by omega) (by omega),by omega,by omega,xs,.refl,Srt.short (by omega),h,Chg.refl _,rfl⟩
 rintro n t H' ⟨i,rfl,h0,h1,h2,h6,ha,hi,ys,sw,sr,o,c,l⟩ ih
 simp [h0,h1,h2,h6]
 refine Qc ?_ ?_<;>intro hib
 ·simp [h0,h1,h2,h6]
  refine Qg (fun n t H'=>∃j:Nat,n=j∧t 0=v∧t 1=.int .i64 a∧t 2=.int .i64 b∧t 6=.int .i64 i∧t 7=.int .i64 j∧a≤j∧j≤i∧Swd H v xs e a b (fun ys=>Ins ys a i j) H') ?_ (n:=i)
   ⟨i,rfl,by simp [h0],by simp [h1],by simp [h2],by simp [h6],by simp,by omega,by omega,ys,sw,Ins.start sr,o,c,l⟩
  rintro j t H' ⟨_,rfl,h0,h1,h2,h6,h7,haj,hji,ys,sw,ins,o,c,l⟩ ih2
  have len:=sw.len
  simp [h0,h1,h2,h6,h7]
  rw [Qf (h:=by kernel_rfl)]
  simp [h0,h1,h2,h6,h7]
  refine Qv ?_ ?_<;>intro hja
  ·have e1:IntKind.i64.wrap ((j:Int)-1)=((j-1:Nat):Int):=by rw [w64 (by omega) (by omega)];omega
   have p1:j<ys.length:=by omega
   have p2:j-1<ys.length:=by omega
   simp [h0,h1,h2,h6,h7,hja,e1,Qs o p1,Qs o p2,Qt o p1,Qt o p2,Xp]
   have out:∀t':Env,t' 0=v→t' 1=.int .i64 a→t' 2=.int .i64 b→t' 6=.int .i64 (IntKind.i64.wrap ((i:Int)+1))→(j=a∨(a<j∧G ys (j-1)≤G ys j))→
    ∃i':Nat,b-(i+1)=b-i'∧t' 0=v∧t' 1=.int .i64 a∧t' 2=.int .i64 b∧t' 6=.int .i64 i'∧a+1≤i'∧i'≤max (a+1) b∧Swd H v xs e a b (fun ys=>Srt ys a i') H':=by
    intro t' g0 g1 g2 g6 hj
    exact ⟨i+1,rfl,g0,g1,g2,by rw [g6,w64 (by omega) (by omega)];simp,by omega,by omega,ys,sw,ins.done hj,o,c,l⟩
   refine Qc ?_ ?_<;>intro hlt
   ·simp [h0,h1,h2,h6,h7]
    rw [Qf (h:=by kernel_rfl)]
    obtain ⟨H1,H2,s1,ix,s2,o2,c2,l2⟩:=Wv o p1 p2 hf
    simp [h0,h1,h2,h6,h7,e1,Qs o p1,Qs o p2,Qt o p1,Qt o p2,s1,ix _ p1,ix _ p2,s2]
    refine ih2 (j-1) _ _ ⟨j-1,rfl,by simp [h0],by simp [h1],by simp [h2],by simp [h6],by simp [e1],by omega,by omega,_,sw.step j (j-1) (by omega) (by omega),?_,o2,c.trans c2,by omega⟩ (by omega)
    exact ins.step (by omega) hja hji hlt
   ·simp [h0,h1,h2,h6,h7]
    refine ih (b-(i+1)) _ _ (out _ ?_ ?_ ?_ ?_ (.inr ⟨hja,by omega⟩)) (by omega)<;>simp [h0,h1,h2]
  ·simp [h0,h1,h2,h6,h7,hja]
   refine ih (b-(i+1)) _ _ ⟨i+1,rfl,by simp [h0],by simp [h1],by simp [h2],?_,by omega,by omega,ys,sw,ins.done (.inl (by omega)),o,c,l⟩ (by omega)
   simp;exact w64 (by omega) (by omega)
 ·have:i=max (a+1) b:=by omega
  simp
  exact ⟨ys,sw,fun p q h1 h2 h3=>sr p q h1 h2 (by omega),o,c,l⟩
theorem Nb (v:Value) (xs:List Int) (e:TypeId) (lo n f:Nat) (h:Ow Fl.int e H v xs) (hp:Hp xs f (lo+1) n) (hlo:lo≤n) (hn:f+n≤xs.length) (hl:xs.length≤1073741824) (hf:∀i∈ids v,frz≤i) :
 wp (vcall C frz 172 [v,.int .i64 lo,.int .i64 n,.int .i64 f] H) (fun _ H'=>Swd H v xs e (f+lo) (f+n) (fun ys=>Hp ys f lo n) H'):=by
 rw [Qa (fn:=Tryz.f172) Tryz.func172 rfl (by kernel_rfl) rfl]
 simp
 refine Qg (fun m t H'=>∃r:Nat,m=n-r∧t 0=v∧t 2=.int .i64 n∧t 3=.int .i64 f∧t 8=.int .i64 r∧lo≤r∧r≤n∧Swd H v xs e (f+lo) (f+n) (fun ys=>HpB ys f lo n r) H') ?_ (n:=n-lo)
  ⟨lo,rfl,by simp,by simp,by simp,by simp,by omega,by omega,xs,.refl,HpB.start hp,h,Chg.refl _,rfl⟩
 rintro m t H' ⟨r,rfl,h0,h2,h3,h8,hlr,hrn,ys,sw,hb,o,c,l⟩ ih
 have len:=sw.len
 obtain ⟨c1,hc1⟩:∃c1,c1=2*r+1:=⟨_,rfl⟩
 obtain ⟨c2,hc2⟩:∃c2,c2=2*r+2:=⟨_,rfl⟩
 obtain ⟨d0,hd0⟩:∃d0,d0=f+r:=⟨_,rfl⟩
 obtain ⟨d1,hd1⟩:∃d1,d1=f+c1:=⟨_,rfl⟩
 obtain ⟨d2,hd2⟩:∃d2,d2=f+c2:=⟨_,rfl⟩
 have e1:IntKind.i64.wrap (IntKind.i64.wrap (2*(r:Int))+1)=(c1:Int):=by rw [w64 (x:=2*(r:Int)) (by omega) (by omega),w64 (by omega) (by omega)];omega
 simp [h0,h2,h3,h8,e1]
 refine Qc ?_ ?_<;>intro hc
 ·simp
  exact ⟨ys,sw,hb.done (fun q h1 h2=>by omega),o,c,l⟩
 ·have e2:IntKind.i64.wrap ((c1:Int)+1)=(c2:Int):=by rw [w64 (by omega) (by omega)];omega
  have e3:IntKind.i64.wrap ((f:Int)+(c1:Int))=(d1:Int):=by rw [w64 (by omega) (by omega)];omega
  have e4:IntKind.i64.wrap ((d1:Int)+1)=(d2:Int):=by rw [w64 (by omega) (by omega)];omega
  have e5:IntKind.i64.wrap ((f:Int)+(r:Int))=(d0:Int):=by rw [w64 (by omega) (by omega)];omega
  have p0:d0<ys.length:=by omega
  have p1:d1<ys.length:=by omega
  refine (fun (rest:∀(q:Nat) (t':Env),(q=2*r+1∨q=2*r+2)→q<n→(∀p,(p=2*r+1∨p=2*r+2)→p<n→G ys (f+p)≤G ys (f+q))→
   t' 0=v→t' 2=.int .i64 n→t' 3=.int .i64 f→t' 8=.int .i64 r→t' 9=.int .i64 q→wp (go ?F ?k .normal t' H') ?Q)=>?main) ?rest
  case main=>
   simp [h0,h2,h3,h8,hc,e2]
   rw [Qf (h:=by kernel_rfl)]
   simp [h0,h2,h3,h8,e2]
   refine Qv ?_ ?_<;>intro g1
   ·have p2:d2<ys.length:=by omega
    simp [h0,h2,h3,h8,e2,g1,e3,e4,Qs o p1,Qs o p2,Qt o p1,Qt o p2,Xp]
    refine Qc ?_ ?_<;>intro g2<;>simp [e2]
    ·refine rest c2 _ (.inr hc2) g1 (fun p g3 g4=>?_) ?_ ?_ ?_ ?_ ?_<;>try simp [h0,h2,h3,h8]
     rw [← hd2]
     rcases g3 with g3|g3
     ·rw [g3,← hc1,← hd1];omega
     ·rw [g3,← hc2,← hd2];omega
    ·refine rest c1 _ (.inl hc1) (by omega) (fun p g3 g4=>?_) ?_ ?_ ?_ ?_ ?_<;>try simp [h0,h2,h3,h8]
     rw [← hd1]
     rcases g3 with g3|g3
     ·rw [g3,← hc1,← hd1];omega
     ·rw [g3,← hc2,← hd2];omega
   ·simp [h0,h2,h3,h8,e2,g1]
    refine rest c1 _ (.inl hc1) (by omega) (fun p g3 g4=>?_) ?_ ?_ ?_ ?_ ?_<;>try simp [h0,h2,h3,h8]
    have:p=c1:=by omega
    rw [this];omega
  case rest=>
   intro q t hq hqn hbig h0 h2 h3 h8 h9
   obtain ⟨dq,hdq⟩:∃dq,dq=f+q:=⟨_,rfl⟩
   have e6:IntKind.i64.wrap ((f:Int)+(q:Int))=(dq:Int):=by rw [w64 (by omega) (by omega)];omega
   have pq:dq<ys.length:=by omega
   rw [← hdq] at hbig
   rw [Qf (h:=by kernel_rfl)]
   simp [h0,h2,h3,h8,h9,e5,e6,Qs o p0,Qs o pq,Qt o p0,Qt o pq,Xp]
   refine Qc ?_ ?_<;>intro g1
   ·simp [h0,h2,h3,h8,h9]
    rw [Qf (h:=by kernel_rfl)]
    obtain ⟨H1,H2,s1,ix,s2,o2,c3,l2⟩:=Wv o p0 pq hf
    simp [h0,h2,h3,h8,h9,e5,e6,Qs o p0,Qs o pq,Qt o p0,Qt o pq,s1,ix _ p0,ix _ pq,s2]
    refine ih (n-q) _ _ ⟨q,rfl,by simp [h0],by simp [h2],by simp [h3],by simp,by omega,by omega,_,sw.step d0 dq (by omega) (by omega),?_,o2,c.trans c3,by omega⟩ (by omega)
    subst hd0 hdq
    exact hb.step (by omega) hlr hq hqn g1 hbig
   ·simp
    subst hd0 hdq
    exact ⟨ys,sw,hb.done (fun p g3 g4=>by have:=hbig p g3 g4;omega),o,c,l⟩
theorem Et (v:Value) (xs:List Int) (e:TypeId) (a b:Nat) (h:Ow Fl.int e H v xs) (hab:a<b) (hb:b≤xs.length) (hl:xs.length≤1073741824) (hf:∀i∈ids v,frz≤i) :
 wp (vcall C frz 135 [v,.int .i64 a,.int .i64 b] H) (fun _ H'=>Swd H v xs e a b (fun ys=>Srt ys a b) H'):=by
 rw [Qa (fn:=Tryz.f135) Tryz.func135 rfl (by kernel_rfl) rfl]
 obtain ⟨n,hn⟩:∃n,n=b-a:=⟨_,rfl⟩
 have e1:IntKind.i64.wrap ((b:Int)-a)=(n:Int):=by rw [w64 (by omega) (by omega)];omega
 have e2:IntKind.i64.wrap ((n:Int)-1)=((n-1:Nat):Int):=by rw [w64 (by omega) (by omega)];omega
 have e3:IntKind.i64.wrap (((n-1:Nat):Int)/2)=(((n-1)/2+1:Nat):Int)-1:=by rw [w64 (by omega) (by omega)];omega
 have e4:((n:Int)-1)=((n-1:Nat):Int):=by omega
 have hbn:a+n=b:=by omega
 simp [e1,e2,e3]
 refine Qg (fun m t H'=>∃k:Nat,m=k∧t 0=v∧t 6=.int .i64 a∧t 7=.int .i64 0∧t 8=.int .i64 n∧t 9=.int .i64 ((k:Int)-1)∧k≤n∧Swd H v xs e a b (fun ys=>Hp ys a k n) H') ?_ (n:=(n-1)/2+1)
  ⟨(n-1)/2+1,rfl,by simp,by simp,by simp,by simp,by simp,by omega,xs,.refl,fun r c h1 h2 h3=>by omega,h,Chg.refl _,rfl⟩
 rintro k t H' ⟨_,rfl,h0,h6,h7,h8,h9,hkn,ys,sw,hp,o,c,l⟩ ih
 have len:=sw.len
 simp [h0,h6,h7,h8,h9]
 refine Qc ?_ ?_<;>intro hk
 ·obtain ⟨k,rfl⟩:∃k',k=k'+1:=⟨k-1,by omega⟩
  have e5:((k+1:Nat):Int)-1=(k:Int):=by omega
  rw [e5] at h9
  simp [h0,h6,h7,h8,h9]
  refine Qd (Nb v ys e k n a o hp (by omega) (by omega) (by omega) hf) ?_
  rintro _ H1 ⟨zs,sw1,hp1,o1,c1,l1⟩
  simp [h0,h6,h7,h8,h9]
  refine ih k _ _ ⟨k,rfl,by simp [h0],by simp [h6],by simp [h7],by simp [h8],?_,by omega,zs,sw.trans (sw1.mono (by omega) (by omega)),hp1,o1,c.trans c1,by omega⟩ (by omega)
  simp;rw [w64 (by omega) (by omega)]
 ·obtain rfl:k=0:=by omega
  simp [h0,h6,h7,h8,h9,e2]
  refine Qg (fun m t H'=>∃k:Nat,m=k∧t 0=v∧t 6=.int .i64 a∧t 7=.int .i64 0∧t 10=.int .i64 ((k:Int)-1)∧k≤n∧
   Swd H v xs e a b (fun ys=>Hp ys a 0 k∧Srt ys (a+k) b∧∀p q,a≤p→p<a+k→a+k≤q→q<b→G ys p≤G ys q) H') ?_ (n:=n)
   ⟨n,rfl,by simp [h0],by simp [h6],by simp [h7],by simp [e4],by omega,ys,sw,⟨hp,Srt.short (by omega),fun p q h1 h2 h3 h4=>by omega⟩,o,c,l⟩
  clear ih h0 h6 h7 h8 h9 o c l hp sw len
  rintro k t H' ⟨_,rfl,h0,h6,h7,h10,hkn,ys,sw,⟨hp,hs,hle⟩,o,c,l⟩ ih
  have len:=sw.len
  simp [h0,h6,h7,h10]
  refine Qc ?_ ?_<;>intro hk
  ·obtain ⟨k,rfl⟩:∃k',k=k'+1:=⟨k-1,by omega⟩
   have e5:((k+1:Nat):Int)-1=(k:Int):=by omega
   rw [e5] at h10
   obtain ⟨d,hd⟩:∃d,d=a+k:=⟨_,rfl⟩
   have e6:IntKind.i64.wrap ((a:Int)+(k:Int))=(d:Int):=by rw [w64 (by omega) (by omega)];omega
   have p0:a<ys.length:=by omega
   have p1:d<ys.length:=by omega
   obtain ⟨H1,H2,s1,ix,s2,o2,c2,l2⟩:=Wv o p0 p1 hf
   simp [h0,h6,h7,h10]
   rw [Qf (h:=by kernel_rfl)]
   simp [h0,h6,h7,h10,e6,Qs o p0,Qs o p1,Qt o p0,Qt o p1,s1,ix _ p0,ix _ p1,s2]
   have gs:=fun q=>Xr (xs:=ys) p0 p1 q
   refine Qd (Nb v _ e 0 k a o2 (fun r q h1 h2 h3=>?_) (by omega) (by simp;omega) (by simp;omega) hf) ?_
   ·rw [gs,gs,if_neg (by omega),if_neg (by omega),if_neg (by omega),if_neg (by omega)]
    exact hp r q (by omega) h2 (by omega)
   ·rintro _ H3 ⟨zs,sw1,hp1,o3,c3,l3⟩
    simp only [Nat.add_zero] at sw1
    have hlz:a+k≤(swp ys a d).length:=by simp;omega
    have top:=hp.top
    have hz:∀q,q<a∨a+k≤q→G zs q=G (swp ys a d) q:=fun q hq=>sw1.out hlz hq
    have zd:G zs d=G ys a:=by rw [hz d (by omega),gs,if_pos rfl]
    have zo:∀q,d<q→q<b→G zs q=G ys q:=fun q h1 h2=>by rw [hz q (by omega),gs,if_neg (by omega),if_neg (by omega)]
    have zlo:∀p,a≤p→p<a+k→G zs p≤G ys a∧∀q,d<q→q<b→G zs p≤G ys q:=sw1.all (p:=fun x=>x≤G ys a∧∀q,d<q→q<b→x≤G ys q) hlz (fun p h1 h2=>by
     rw [gs,if_neg (by omega)]
     split
     ·have:=top k (by omega);rw [← hd] at this
      exact ⟨this,fun q g1 g2=>hle d q (by omega) (by omega) (by omega) g2⟩
     ·have:=top (p-a) (by omega);rw [show a+(p-a)=p by omega] at this
      exact ⟨this,fun q g1 g2=>hle p q (by omega) (by omega) (by omega) g2⟩)
    simp [h0,h6,h7,h10]
    refine ih k _ _ ⟨k,rfl,by simp [h0],by simp [h6],by simp [h7],?_,by omega,zs,(sw.step a d (by omega) (by omega)).trans (sw1.mono (by omega) (by omega)),⟨hp1,fun p q h1 h2 h3=>?_,fun p q h1 h2 h3 h4=>?_⟩,o3,c.trans (c2.trans c3),by omega⟩ (by omega)
    ·simp;rw [w64 (by omega) (by omega)]
    ·rw [zo q (by omega) h3]
     by_cases hpd:p=d
     ·rw [hpd,zd];exact hle a q (by omega) (by omega) (by omega) h3
     ·rw [zo p (by omega) (by omega)];exact hs p q (by omega) h2 h3
    ·by_cases hq:q=d
     ·rw [hq,zd];exact (zlo p h1 h2).1
     ·rw [zo q (by omega) h4];exact (zlo p h1 h2).2 q (by omega) h4
  ·obtain rfl:k=0:=by omega
   simp
   exact ⟨ys,sw,hs,o,c,l⟩
theorem Dq (v:Value) (xs:List Int) (e:TypeId) (a b:Nat) (h:Ow Fl.int e H v xs) (hab:a<b) (hb:b≤xs.length) (hl:xs.length≤1073741824) (hf:∀i∈ids v,frz≤i) :
 wp (vcall C frz 138 [v,.int .i64 a,.int .i64 b] H) (fun _ H'=>Swd H v xs e a b (fun ys=>True) H'):=by
 rw [Qa (fn:=Tryz.f138) Tryz.func138 rfl (by kernel_rfl) rfl]
 have e1:IntKind.i64.wrap ((b:Int)-1)=((b-1:Nat):Int):=by rw [w64 (by omega) (by omega)];omega
 simp [e1]
 refine Qg (fun m t H'=>∃i j:Nat,m=j-i∧t 0=v∧t 6=.int .i64 i∧t 7=.int .i64 j∧a≤i∧j<b∧i≤j+1∧Swd H v xs e a b (fun ys=>True) H') ?_ (n:=b-1-a)
  ⟨a,b-1,rfl,by simp,by simp,by simp,by omega,by omega,by omega,xs,.refl,trivial,h,Chg.refl _,rfl⟩
 rintro m t H' ⟨i,j,rfl,h0,h6,h7,hi,hj,hij,ys,sw,_,o,c,l⟩ ih
 have len:=sw.len
 simp [h0,h6,h7]
 refine Qc ?_ ?_<;>intro hk
 ·have p0:i<ys.length:=by omega
  have p1:j<ys.length:=by omega
  obtain ⟨H1,H2,s1,ix,s2,o2,c2,l2⟩:=Wv o p0 p1 hf
  simp [h0,h6,h7]
  rw [Qf (h:=by kernel_rfl)]
  simp [h0,h6,h7,Qs o p0,Qs o p1,Qt o p0,Qt o p1,s1,ix _ p0,ix _ p1,s2]
  refine ih (j-1-(i+1)) _ _ ⟨i+1,j-1,rfl,by simp [h0],?_,?_,by omega,by omega,by omega,_,sw.step i j (by omega) (by omega),trivial,o2,c.trans c2,by omega⟩ (by omega)
  ·simp;rw [w64 (by omega) (by omega)]
  ·simp;rw [w64 (by omega) (by omega)];omega
 ·simp
  exact ⟨ys,sw,trivial,o,c,l⟩
def BoxI (H:Heap) (r:Nat):Prop:=∃s,H[r]? = some ⟨[.int .i64 s],0,3⟩
theorem Ph (v:Value) (xs:List Int) (e:TypeId) (a b r:Nat) (h:Ow Fl.int e H v xs) (ha:a<xs.length) (hb:b<xs.length) (hr:BoxI H r) (hf:frz≤r) :
 wp (vcall C frz 194 [v,.int .i64 a,.int .i64 b,.pointer (some ⟨r,0,some 0⟩)] H)
  (fun u H'=>(∃a' b':Nat,u=.tuple #[.int .i64 a',.int .i64 b']∧((a'=a∧b'=b)∨(a'=b∧b'=a)))∧Chg H H' [r]∧BoxI H' r):=by
 obtain ⟨s,hs⟩:=hr
 rw [Qa (fn:=Tryz.f194) Tryz.func194 rfl (by kernel_rfl) rfl]
 simp
 rw [Qf (h:=by kernel_rfl)]
 simp [Qs h ha,Qs h hb,Qt h ha,Qt h hb,Xp]
 refine Qc ?_ ?_<;>intro g1
 ·simp [vnil,VM.look,hs,hf]
  exact ⟨⟨b,a,⟨rfl,rfl⟩,.inr ⟨rfl,rfl⟩⟩,Qh _ _,_,Qo hs⟩
 ·simp
  exact ⟨⟨a,b,⟨rfl,rfl⟩,.inl ⟨rfl,rfl⟩⟩,Chg.refl _,_,hs⟩
theorem Ky (v:Value) (xs:List Int) (e:TypeId) (a b c r:Nat) (h:Ow Fl.int e H v xs) (ha:a<xs.length) (hb:b<xs.length) (hc:c<xs.length) (hr:BoxI H r) (hf:frz≤r) (hn:r∉ids v) :
 wp (vcall C frz 176 [v,.int .i64 a,.int .i64 b,.int .i64 c,.pointer (some ⟨r,0,some 0⟩)] H)
  (fun u H'=>(∃m:Nat,u=.int .i64 m∧(m=a∨m=b∨m=c))∧Chg H H' [r]∧BoxI H' r):=by
 rw [Qa (fn:=Tryz.f176) Tryz.func176 rfl (by kernel_rfl) rfl]
 simp
 refine Qd (Ph v xs e a b r h ha hb hr hf) ?_
 rintro _ H1 ⟨⟨a1,b1,rfl,h1⟩,c1,r1⟩
 have o1:=h.chg c1 (fun i hi hh=>by simp at hh;subst hh;exact hn hi)
 simp
 refine Qd (Ph v xs e b1 c r o1 (by omega) hc r1 hf) ?_
 rintro _ H2 ⟨⟨b2,c2,rfl,h2⟩,c2',r2⟩
 have o2:=o1.chg c2' (fun i hi hh=>by simp at hh;subst hh;exact hn hi)
 simp
 refine Qd (Ph v xs e a1 b2 r o2 (by omega) (by omega) r2 hf) ?_
 rintro _ H3 ⟨⟨a3,b3,rfl,h3⟩,c3,r3⟩
 simp
 exact ⟨⟨b3,rfl,by omega⟩,c1.trans (c2'.trans c3),r3⟩
theorem Us (v:Value) (xs:List Int) (e:TypeId) (a r:Nat) (h:Ow Fl.int e H v xs) (h0:0<a) (ha:a+1<xs.length) (hl:xs.length≤1073741824) (hr:BoxI H r) (hf:frz≤r) (hn:r∉ids v) :
 wp (vcall C frz 175 [v,.int .i64 a,.pointer (some ⟨r,0,some 0⟩)] H)
  (fun u H'=>(∃m:Nat,u=.int .i64 m∧(m+1=a∨m=a∨m=a+1))∧Chg H H' [r]∧BoxI H' r):=by
 rw [Qa (fn:=Tryz.f175) Tryz.func175 rfl (by kernel_rfl) rfl]
 have e1:IntKind.i64.wrap ((a:Int)-1)=((a-1:Nat):Int):=by rw [w64 (by omega) (by omega)];omega
 have e2:IntKind.i64.wrap ((a:Int)+1)=((a+1:Nat):Int):=by rw [w64 (by omega) (by omega)];omega
 simp [e1]
 rw [e2]
 refine Qd (Ky v xs e (a-1) a (a+1) r h (by omega) (by omega) ha hr hf hn) ?_
 rintro _ H1 ⟨⟨m,rfl,hm⟩,c1,r1⟩
 simp
 exact ⟨⟨m,rfl,by omega⟩,c1,r1⟩
theorem Nv (v:Value) (xs:List Int) (e:TypeId) (a b:Nat) (h:Ow Fl.int e H v xs) (hab:a+8≤b) (hb:b≤xs.length) (hl:xs.length≤1073741824) (hf:frz≤H.length) :
 wp (vcall C frz 137 [v,.int .i64 a,.int .i64 b] H)
  (fun u H'=>(∃(m:Nat) (k:Int),u=.tuple #[.int .i64 m,.int .i64 k]∧a≤m∧m<b)∧Chg H H' []):=by
 rw [Qa (fn:=Tryz.f137) Tryz.func137 rfl (by kernel_rfl) rfl]
 obtain ⟨n,hn⟩:∃n,n=b-a:=⟨_,rfl⟩
 have e1:∀[Inhabited Unit],IntKind.i64.wrap ((b:Int)-a)=(n:Int):=by intro _;rw [w64 (by omega) (by omega)];omega
 obtain ⟨q,hq⟩:∃q,q=n/4:=⟨_,rfl⟩
 have e2:∀[Inhabited Unit],IntKind.i64.wrap ((n:Int)/4)=(q:Int):=by intro _;rw [w64 (by omega) (by omega)];omega
 obtain ⟨q2,hq2⟩:∃q2,q2=q*2:=⟨_,rfl⟩
 obtain ⟨q3,hq3⟩:∃q3,q3=q*3:=⟨_,rfl⟩
 obtain ⟨i0,hi0⟩:∃i0,i0=a+q:=⟨_,rfl⟩
 obtain ⟨i1,hi1⟩:∃i1,i1=a+q2:=⟨_,rfl⟩
 obtain ⟨i2,hi2⟩:∃i2,i2=a+q3:=⟨_,rfl⟩
 have e3:∀[Inhabited Unit],IntKind.i64.wrap (q:Int)=(q:Int):=by intro _;rw [w64 (by omega) (by omega)]
 have e4:∀[Inhabited Unit],IntKind.i64.wrap ((q:Int)*2)=(q2:Int):=by intro _;rw [w64 (by omega) (by omega)];omega
 have e5:∀[Inhabited Unit],IntKind.i64.wrap ((q:Int)*3)=(q3:Int):=by intro _;rw [w64 (by omega) (by omega)];omega
 have e6:∀[Inhabited Unit],IntKind.i64.wrap ((a:Int)+q)=(i0:Int):=by intro _;rw [w64 (by omega) (by omega)];omega
 have e7:∀[Inhabited Unit],IntKind.i64.wrap ((a:Int)+q2)=(i1:Int):=by intro _;rw [w64 (by omega) (by omega)];omega
 have e8:∀[Inhabited Unit],IntKind.i64.wrap ((a:Int)+q3)=(i2:Int):=by intro _;rw [w64 (by omega) (by omega)];omega
 have g8:(8:Int)≤n:=by omega
 have lt:=h.lt
 have nin:H.length∉ids v:=fun hh=>by have:=lt _ hh;omega
 simp [e1,e2,e3,e4,e5,e6,e7,e8,g8]
 have b0:BoxI (H++[⟨[.int .i64 0],0,3⟩]) H.length:=⟨0,by simp⟩
 have o0:Ow Fl.int e (H++[⟨[.int .i64 0],0,3⟩]) v xs:=h.app
 refine Zi (F:=?F) (k:=?k) (d:=?d) (Q:=?Q) (fun r t=>∃(i0 i1 i2:Nat) (H1:Heap),r=vcall C frz 176 [v,.int .i64 i0,.int .i64 i1,.int .i64 i2,.pointer (some ⟨H.length,0,some 0⟩)] H1∧
  (a≤i0∧i0<b)∧(a≤i1∧i1<b)∧(a≤i2∧i2<b)∧t 9=.pointer (some ⟨H.length,0,some 0⟩)∧
  Chg (H++[⟨[.int .i64 0],0,3⟩]) H1 [H.length]∧BoxI H1 H.length) ?main ?rest
 case main=>
  intro rest
  refine Qc ?_ ?_<;>intro g1
  ·simp [e6,e7,e8]
   refine Qd (Us v xs e i0 H.length o0 (by omega) (by omega) hl b0 hf nin) ?_
   rintro _ H1 ⟨⟨j0,rfl,hj0⟩,c1,r1⟩
   have o1:=o0.chg c1 (fun i hi hh=>by simp at hh;subst hh;exact nin hi)
   simp [e6,e7,e8]
   refine Qd (Us v xs e i1 H.length o1 (by omega) (by omega) hl r1 hf nin) ?_
   rintro _ H2 ⟨⟨j1,rfl,hj1⟩,c2,r2⟩
   have o2:=o1.chg c2 (fun i hi hh=>by simp at hh;subst hh;exact nin hi)
   simp [e6,e7,e8]
   refine Qd (Us v xs e i2 H.length o2 (by omega) (by omega) hl r2 hf nin) ?_
   rintro _ H3 ⟨⟨j2,rfl,hj2⟩,c3,r3⟩
   simp [e6,e7,e8]
   refine rest _ _ ?_
   exact ⟨j0,j1,j2,H3,rfl,by omega,by omega,by omega,by simp,c1.trans (c2.trans c3),r3⟩
  ·simp [e6,e7,e8]
   refine rest _ _ ?_
   exact ⟨i0,i1,i2,_,rfl,by omega,by omega,by omega,by simp,Chg.refl _,b0⟩
 case rest=>
  rintro _ t ⟨i0,i1,i2,H1,rfl,h0,h1,h2,t9,c1,r1⟩
  have o1:=o0.chg c1 (fun i hi hh=>by simp at hh;subst hh;exact nin hi)
  refine Qd (Ky v xs e i0 i1 i2 H.length o1 (by omega) (by omega) (by omega) r1 hf nin) ?_
  rintro _ H2 ⟨⟨m,rfl,hm⟩,c2,s,hs⟩
  have cc:Chg H H2 []:=(Chg.app (L:=[⟨[.int .i64 0],0,3⟩]) []).trans' (c1.trans c2) (fun i hi=>by simp at hi;subst hi;right;simp)
  simp [t9,VM.look,hs]
  refine Qc ?_ ?_<;>intro g2<;>simp
  ·exact ⟨⟨m,rfl,by omega⟩,cc⟩
  ·refine Qc ?_ ?_<;>intro g3<;>simp
   ·exact ⟨⟨m,rfl,by omega⟩,cc⟩
   ·exact ⟨⟨m,rfl,by omega⟩,cc⟩
def blen (y:Nat):Nat:=if y=0 then 0 else y.log2+1
def tabOk (T:ByteArray):Bool:=(List.range 256).all fun y=>match T[y]? with|some b=>b.toNat == blen y|none=>false
theorem Vd {y:Nat} (h:y<256):y<2 ^ blen y∧(2 ^ blen y≤2*y∨y=0)∧blen y≤8:=by
 have:∀y:Fin 256,y.val<2 ^ blen y.val∧(2 ^ blen y.val≤2*y.val∨y.val=0)∧blen y.val≤8:=by decide +kernel
 exact this ⟨y,h⟩
theorem Lm {x z s n:Nat} (hz:z=x/2 ^ s) (h1:z<2 ^ n) (h2:2 ^ n≤2*z∨z=0) (h0:0<z):x<2 ^ (n+s)∧(2 ^ (n+s)≤2*x∨x=0):=by
 have hp:0<2 ^ s:=Nat.pow_pos (by decide)
 rw [Nat.pow_add]
 subst hz
 refine ⟨(Nat.div_lt_iff_lt_mul hp).1 h1,.inl ?_⟩
 have h3:x/2 ^ s*2 ^ s≤x:=Nat.div_mul_le_self _ _
 have h4:2 ^ n*2 ^ s≤2*(x/2 ^ s)*2 ^ s:=Nat.mul_le_mul_right _ (by omega)
 rw [Nat.mul_assoc] at h4
 omega
theorem Z4 {T:ByteArray} {y:Nat} (hy:y<256) (h:tabOk T=true):vindex Tryz.prog 9 (.string T) (.int .u8 (IntKind.u8.wrap (y:Int)))=some (.int .u8 (blen y)):=by
 have e1:IntKind.u8.wrap (y:Int)=(y:Int):=by show (y:Int)%256=y;omega
 have:=List.all_eq_true.1 h y (by simpa using hy)
 have hn:(0:Int)≤y:=by omega
 rw [e1]
 simp only [vindex,und9,hn,if_true,Int.toNat_natCast]
 cases hT:T[y]? with
 | none=>rw [hT] at this;simp at this
 | some b=>rw [hT] at this;simp at this;simp [this]
theorem Kl (x j:Nat) (hj:j≤64):ishr .u64 (x:Int) (j:Int)=((x/2 ^ j:Nat):Int):=Iu .u64 x j hj
theorem mf (x:Nat) (hx:x<2147483648) :
 wp (vcall C frz 144 [.int .u64 x] H) (fun r H'=>H'=H∧∃n:Nat,r=.int .i64 n∧x<2 ^ n∧(2 ^ n≤2*x∨x=0)∧n≤32):=by
 rw [Qa (fn:=Tryz.f144) Tryz.func144 rfl (by kernel_rfl) rfl]
 have g1:¬(4294967296:Int)≤x:=by omega
 have e8:IntKind.i64.wrap 8=8:=rfl
 have e16:IntKind.i64.wrap 16=16:=rfl
 have e24:IntKind.i64.wrap 24=24:=rfl
 simp [g1]
 refine Qc ?_ ?_<;>intro g2
 ·obtain ⟨y,hy⟩:∃y,y=x/65536:=⟨_,rfl⟩
  have s16:ishr .u64 (x:Int) 16=(y:Int):=by rw [hy];exact Kl x 16 (by decide)
  simp [s16]
  refine Qc ?_ ?_<;>intro g3
  ·obtain ⟨z,hz⟩:∃z,z=y/256:=⟨_,rfl⟩
   have s8:ishr .u64 (y:Int) 8=(z:Int):=by rw [hz];exact Kl y 8 (by decide)
   simp [s8]
   rw [Z4 (y:=z) (by omega) (by decide +kernel)]
   obtain ⟨q1,q2,q3⟩:=Vd (y:=z) (by omega)
   have w8:IntKind.i64.wrap (blen z:Int)=(blen z:Int):=w64 (by omega) (by omega)
   simp [w8,e8,e16,e24]
   refine ⟨blen z+24,?_,?_⟩
   ·rw [w64 (by omega) (by omega)];omega
   ·have:=Lm (x:=x) (z:=z) (s:=24) (by omega) q1 q2 (by omega);omega
  ·simp
   rw [Z4 (y:=y) (by omega) (by decide +kernel)]
   obtain ⟨q1,q2,q3⟩:=Vd (y:=y) (by omega)
   have w8:IntKind.i64.wrap (blen y:Int)=(blen y:Int):=w64 (by omega) (by omega)
   simp [w8,e8,e16,e24]
   refine ⟨blen y+16,?_,?_⟩
   ·rw [w64 (by omega) (by omega)];omega
   ·have:=Lm (x:=x) (z:=y) (s:=16) (by omega) q1 q2 (by omega);omega
 ·simp
  refine Qc ?_ ?_<;>intro g3
  ·obtain ⟨z,hz⟩:∃z,z=x/256:=⟨_,rfl⟩
   have s8:ishr .u64 (x:Int) 8=(z:Int):=by rw [hz];exact Kl x 8 (by decide)
   simp [s8]
   rw [Z4 (y:=z) (by omega) (by decide +kernel)]
   obtain ⟨q1,q2,q3⟩:=Vd (y:=z) (by omega)
   have w8:IntKind.i64.wrap (blen z:Int)=(blen z:Int):=w64 (by omega) (by omega)
   simp [w8,e8,e16,e24]
   refine ⟨blen z+8,?_,?_⟩
   ·rw [w64 (by omega) (by omega)];omega
   ·have:=Lm (x:=x) (z:=z) (s:=8) (by omega) q1 q2 (by omega);omega
  ·simp
   rw [Z4 (y:=x) (by omega) (by decide +kernel)]
   obtain ⟨q1,q2,q3⟩:=Vd (y:=x) (by omega)
   have w8:IntKind.i64.wrap (blen x:Int)=(blen x:Int):=w64 (by omega) (by omega)
   simp [w8,e8,e16,e24]
   exact ⟨blen x,rfl,q1,q2,by omega⟩
theorem zi (x:Nat) (hx:x<2147483648) :
 wp (vcall C frz 105 [.int .u64 x] H) (fun r H'=>H'=H∧∃n:Nat,r=.int .i64 n∧x<2 ^ n∧(2 ^ n≤2*x∨x=0)∧n≤32):=by
 rw [Qa (fn:=Tryz.f105) Tryz.func105 rfl (by kernel_rfl) rfl]
 simp
 refine Qd (mf x hx) ?_
 rintro _ _ ⟨rfl,n,rfl,h⟩
 simp
 exact ⟨n,rfl,h⟩
theorem w64u {x:Int} (h0:0≤x) (h1:x<18446744073709551616):IntKind.u64.wrap x=x:=by show x%18446744073709551616=x;omega
theorem wu (x:Nat) (hx:x<2147483648) :
 wp (vcall C frz 173 [.int .i64 x] H) (fun r H'=>H'=H∧∃m:Nat,r=.int .u64 m∧x<m∧(m≤2*x∨x=0)∧m≤4294967296):=by
 rw [Qa (fn:=Tryz.f173) Tryz.func173 rfl (by kernel_rfl) rfl]
 have e1:IntKind.u64.wrap (x:Int)=(x:Int):=w64u (by omega) (by omega)
 simp [e1]
 refine Qd (zi x hx) ?_
 rintro _ _ ⟨rfl,n,rfl,h1,h2,h3⟩
 have hm:2 ^ n≤2 ^ 32:=Nat.pow_le_pow_right (by decide) h3
 have e2:ishl .u64 1 (n:Int)=((2 ^ n:Nat):Int):=by
  unfold ishl
  rw [Int.toNat_natCast,Nat.min_eq_left (show n≤IntKind.u64.bits by show n≤64;omega),Int.one_mul,w64u (Int.le_of_lt (Int.pow_pos (by decide))) (by
   have:((2:Int) ^ n)=((2 ^ n:Nat):Int):=by simp
   rw [this];omega)]
  simp
 have hn:(0:Int)≤n:=by omega
 simp [vneed,hn,e2]
 exact ⟨2 ^ n,by simp,h1,h2,by omega⟩
def BoxX (H:Heap) (r:Nat):Prop:=∃s,H[r]? = some ⟨[.int .u64 s],0,208⟩
theorem Cv (r:Nat) (hr:BoxX H r) (hf:frz≤r) :
 wp (vcall C frz 174 [.pointer (some ⟨r,0,some 0⟩)] H) (fun u H'=>(∃z,u=.int .u64 z)∧Chg H H' [r]∧BoxX H' r):=by
 obtain ⟨s,hs⟩:=hr
 rw [Qa (fn:=Tryz.f174) Tryz.func174 rfl (by kernel_rfl) rfl]
 simp
 rw [Qf (h:=by kernel_rfl)]
 simp [vnil,VM.look,hs,hf]
 have l:=Qu hs
 rw [Qf (h:=by kernel_rfl)]
 simp [vnil,VM.look,hs,hf,l]
 rw [Qf (h:=by kernel_rfl)]
 simp [vnil,VM.look,hs,hf,l]
 exact ⟨Qh _ _,_,by simp [l];rfl⟩
theorem Cw (a:Int) (b:Nat) (hb:b<18446744073709551616):0≤iand .u64 a b∧iand .u64 a b≤b:=by
 unfold iand
 have h1:(BitVec.ofInt IntKind.u64.bits a&&& BitVec.ofInt IntKind.u64.bits (b:Int)).toNat≤b:=by
  rw [BitVec.toNat_and]
  refine Nat.le_trans Nat.and_le_right ?_
  rw [BitVec.toNat_ofInt]
  have:IntKind.u64.bits=64:=rfl
  rw [this];omega
 rw [w64u (by omega) (by omega)]
 omega
theorem Ei (v:Value) (xs:List Int) (e:TypeId) (a b:Nat) (h:Ow Fl.int e H v xs) (hab:a≤b) (hb:b≤xs.length) (hl:xs.length≤1073741824) (hf:∀i∈ids v,frz≤i) (hF:frz≤H.length) :
 wp (vcall C frz 136 [v,.int .i64 a,.int .i64 b] H) (fun _ H'=>∃ys,Sw a b xs ys∧Ow Fl.int e H' v ys∧Chg H H' (ids v)):=by
 rw [Qa (fn:=Tryz.f136) Tryz.func136 rfl (by kernel_rfl) rfl]
 obtain ⟨n,hn⟩:∃n,n=b-a:=⟨_,rfl⟩
 have e1:∀[Inhabited Unit],IntKind.i64.wrap ((b:Int)-a)=(n:Int):=by intro _;rw [w64 (by omega) (by omega)];omega
 simp [e1]
 refine Qc ?_ ?_<;>intro g1
 ·have lt:=h.lt
  have nin:H.length∉ids v:=fun hh=>by have:=lt _ hh;omega
  have e2:∀[Inhabited Unit],IntKind.u64.wrap (n:Int)=(n:Int):=by intro _;exact w64u (by omega) (by omega)
  have e3:∀[Inhabited Unit],IntKind.i64.wrap (n:Int)=(n:Int):=by intro _;exact w64 (by omega) (by omega)
  simp [e1,e2,VM.look,hF]
  refine Qd (wu n (by omega)) ?_
  rintro _ _ ⟨rfl,m,rfl,m1,m2,m3⟩
  obtain ⟨q,hq⟩:∃q,q=n/4:=⟨_,rfl⟩
  obtain ⟨q2,hq2⟩:∃q2,q2=q*2:=⟨_,rfl⟩
  obtain ⟨s,hs⟩:∃s,s=a+q2:=⟨_,rfl⟩
  have e4:∀[Inhabited Unit],IntKind.i64.wrap ((n:Int)/4)=(q:Int):=by intro _;rw [w64 (by omega) (by omega)];omega
  have e5:∀[Inhabited Unit],IntKind.i64.wrap ((q:Int)*2)=(q2:Int):=by intro _;rw [w64 (by omega) (by omega)];omega
  have e6:∀[Inhabited Unit],IntKind.i64.wrap ((a:Int)+q2)=(s:Int):=by intro _;rw [w64 (by omega) (by omega)];omega
  have e7:∀[Inhabited Unit],IntKind.i64.wrap ((s:Int)-1)=((s-1:Nat):Int):=by intro _;rw [w64 (by omega) (by omega)];omega
  have e8:∀[Inhabited Unit],IntKind.i64.wrap ((s:Int)+1)=((s+1:Nat):Int):=by intro _;rw [w64 (by omega) (by omega)];omega
  have e9:∀[Inhabited Unit],IntKind.u64.wrap ((m:Int)-1)=((m-1:Nat):Int):=by intro _;rw [w64u (by omega) (by omega)];omega
  simp [e1,e2,e3,e4,e5,e6,e7]
  refine Qg (fun c t H'=>∃i:Nat,c=s+2-i∧s≤i+1∧i≤s+2∧t 0=v∧t 1=.int .i64 a∧t 6=.int .i64 n∧t 7=.pointer (some ⟨H.length,0,some 0⟩)∧t 8=.int .u64 m∧t 9=.int .i64 i∧
   BoxX H' H.length∧Chg (H++[⟨[.int .u64 n],0,208⟩]) H' (H.length::ids v)∧∃ys,Sw a b xs ys∧Ow Fl.int e H' v ys) ?_ (n:=s+2-(s-1))
   ⟨s-1,rfl,by omega,by omega,by simp,by simp,by simp,by simp,by simp,by simp,⟨n,by simp⟩,Chg.refl _,xs,.refl,h.app⟩
  rintro c t H1 ⟨i,rfl,hi1,hi2,t0,t1,t6,t7,t8,t9,bx,ch,ys,sw,o⟩ ih
  have len:=sw.len
  simp [t0,t1,t6,t7,t8,t9,e4,e5,e6,e8]
  refine Qc ?_ ?_<;>intro g2
  ·have p0:i<ys.length:=by omega
   simp [t0,t1,t6,t7,t8,t9]
   refine Qd (Cv H.length bx hF) ?_
   rintro _ H2 ⟨⟨z,rfl⟩,c2,bx2⟩
   have o2:=o.chg c2 (fun i hi hh=>by simp at hh;subst hh;exact nin hi)
   obtain ⟨k,hk⟩:∃k:Nat,iand .u64 z ((m-1:Nat):Int)=k:=⟨_,(Int.toNat_of_nonneg (Cw z (m-1) (by omega)).1).symm⟩
   have hk2:=(Cw z (m-1) (by omega)).2
   rw [hk] at hk2
   have e10:∀[Inhabited Unit],IntKind.i64.wrap (k:Int)=(k:Int):=by intro _;exact w64 (by omega) (by omega)
   have hk':∀[Inhabited Unit],iand .u64 z ((m-1:Nat):Int)=k:=by intro _;exact hk
   clear hk
   simp [t0,t1,t6,t7,t8,t9,e9,hk',e10]
   refine W3 (F:=?F) (k:=?k) (Q:=?Q) (fun t H'=>∃d:Nat,d<n∧H'=H2∧t 0=v∧t 1=.int .i64 a∧t 6=.int .i64 n∧t 7=.pointer (some ⟨H.length,0,some 0⟩)∧t 8=.int .u64 m∧t 9=.int .i64 i∧t 10=.int .i64 d) ?main ?rest
   case main=>
    intro rest
    refine Qc ?_ ?_<;>intro g3
    ·have e11:∀[Inhabited Unit],IntKind.i64.wrap ((k:Int)-n)=((k-n:Nat):Int):=by intro _;rw [w64 (by omega) (by omega)];omega
     simp [t0,t1,t6,t7,t8,t9,e9,hk',e10,e11]
     refine rest _ _ ?_
     exact ⟨k-n,by omega,rfl,by simp [t0],by simp [t1],by simp [t6],by simp [t7],by simp [t8],by simp [t9],by simp⟩
    ·simp
     refine rest _ _ ?_
     exact ⟨k,by omega,rfl,by simp [t0],by simp [t1],by simp [t6],by simp [t7],by simp [t8],by simp [t9],by simp⟩
   case rest=>
    rintro t _ ⟨d,hd,rfl,t0,t1,t6,t7,t8,t9,t10⟩
    obtain ⟨j,hj⟩:∃j,j=a+d:=⟨_,rfl⟩
    have e12:∀[Inhabited Unit],IntKind.i64.wrap ((a:Int)+d)=(j:Int):=by intro _;rw [w64 (by omega) (by omega)];omega
    have p1:j<ys.length:=by omega
    obtain ⟨H3,H4,s1,ix,s2,o4,c4,l4⟩:=Wv o2 p0 p1 hf
    rw [Qf (h:=by kernel_rfl)]
    simp [t0,t1,t6,t7,t8,t9,t10,e12,Qs o2 p0,Qs o2 p1,Qt o2 p0,Qt o2 p1,s1,ix _ p0,ix _ p1,s2]
    obtain ⟨sx,hsx⟩:=bx2
    have bx4:BoxX H4 H.length:=⟨sx,Qb hsx c4 nin⟩
    refine ih (s+2-(i+1)) _ _ ⟨i+1,rfl,by omega,by omega,by simp [t0],by simp [t1],by simp [t6],by simp [t7],by simp [t8],?_,bx4,?_,_,sw.step i j (by omega) (by omega),o4⟩ (by omega)
    ·simp;rw [w64 (by omega) (by omega)]
    ·exact ch.trans ((c2.mono (by simp)).trans (c4.mono (fun q hq=>by simp [hq])))
  ·simp
   exact ⟨ys,sw,o,(Chg.app (ids v)).trans' ch (fun q hq=>by
    rcases List.mem_cons.1 hq with hq|hq
    ·right;simp [hq]
    ·exact .inl hq)⟩
 ·simp
  exact ⟨xs,.refl,h,Chg.refl _⟩
end Go.Proofs.YtaldglgobgjeaaaGreat.V
