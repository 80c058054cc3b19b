/- Texts of a proof, joined. -/
import Derived.Test.YtlhaeingdonaeaaGreatKM0
import Derived.Test.YtlhaeingdonaeaaGreatKM1
import Derived.Test.YtlhaeingdonaeaaGreatKFnExactRunActs0
set_option linter.all false
namespace Go.Proofs.YtlhaeingdonaeaaGreat.V
open Go Go.VM Go.Proofs
set_option maxRecDepth 10000
variable {frz:Nat} {H:Qd}
theorem Qc7 {v:Wo} {a:Qu} {k:Int} (h:Qe.Ow H v a) (hd:(Qe.ids v).Nodup) (hk:0≤k∧k≤1152921504606846976) (hf:∀i∈Qe.ids v,frz≤i) :
 wp (Qh C frz 40 [Qe.val v a,.int .i64 k] H) (Marks 4503599627370496 Qe 42 H v a k):=by
 have ones:=Qr h
 obtain ⟨v1,v2,v3,v4,v5,v6,v7,v8⟩:=v
 obtain ⟨⟨w,g,b⟩,a2,a3,a4,a5,a6,a7,tm⟩:=a
 obtain ⟨h1,h2,h3,h4,h5,h6,h7,_⟩:=h
 simp only at h1 h2 h3 h4 h5 h6 h7 ones
 rw [Qk]
 rw [Qb (fn:=Tryz.f40) Tryz.func40 rfl (by kernel_rfl) rfl]
 have Qbs:Qe.ids (v1,v2,v3,v4,v5,v6,v7,v8)=Qx.ids v1++(Qi.ids v2++(Qt.ids v3++(Qf.ids v4++(Qf.ids v5++(Qt.ids v6++(Qt.ids v7++[])))))):=rfl
 rw [Qbs] at hd hf
 obtain ⟨d1,r1,x1⟩:=List.nodup_append.1 hd
 obtain ⟨d2,r2,x2⟩:=List.nodup_append.1 r1
 obtain ⟨d3,r3,x3⟩:=List.nodup_append.1 r2
 obtain ⟨d4,r4,x4⟩:=List.nodup_append.1 r3
 obtain ⟨d5,r5,x5⟩:=List.nodup_append.1 r4
 obtain ⟨d6,r6,x6⟩:=List.nodup_append.1 r5
 obtain ⟨d7,r7,x7⟩:=List.nodup_append.1 r6
 have in1:∀i∈Qx.ids v1,i∈Qx.ids v1++(Qi.ids v2++(Qt.ids v3++(Qf.ids v4++(Qf.ids v5++(Qt.ids v6++(Qt.ids v7++[])))))):=fun i hi=>List.mem_append.2 (.inl hi)
 have in2:∀i∈Qi.ids v2,i∈Qx.ids v1++(Qi.ids v2++(Qt.ids v3++(Qf.ids v4++(Qf.ids v5++(Qt.ids v6++(Qt.ids v7++[])))))):=fun i hi=>List.mem_append.2 (.inr (List.mem_append.2 (.inl hi)))
 have in3:∀i∈Qt.ids v3,i∈Qx.ids v1++(Qi.ids v2++(Qt.ids v3++(Qf.ids v4++(Qf.ids v5++(Qt.ids v6++(Qt.ids v7++[])))))):=fun i hi=>List.mem_append.2 (.inr (List.mem_append.2 (.inr (List.mem_append.2 (.inl hi)))))
 have in4:∀i∈Qf.ids v4,i∈Qx.ids v1++(Qi.ids v2++(Qt.ids v3++(Qf.ids v4++(Qf.ids v5++(Qt.ids v6++(Qt.ids v7++[])))))):=fun i hi=>List.mem_append.2 (.inr (List.mem_append.2 (.inr (List.mem_append.2 (.inr (List.mem_append.2 (.inl hi)))))))
 have in5:∀i∈Qf.ids v5,i∈Qx.ids v1++(Qi.ids v2++(Qt.ids v3++(Qf.ids v4++(Qf.ids v5++(Qt.ids v6++(Qt.ids v7++[])))))):=fun i hi=>List.mem_append.2 (.inr (List.mem_append.2 (.inr (List.mem_append.2 (.inr (List.mem_append.2 (.inr (List.mem_append.2 (.inl hi)))))))))
 have in6:∀i∈Qt.ids v6,i∈Qx.ids v1++(Qi.ids v2++(Qt.ids v3++(Qf.ids v4++(Qf.ids v5++(Qt.ids v6++(Qt.ids v7++[])))))):=fun i hi=>List.mem_append.2 (.inr (List.mem_append.2 (.inr (List.mem_append.2 (.inr (List.mem_append.2 (.inr (List.mem_append.2 (.inr (List.mem_append.2 (.inl hi)))))))))))
 have in7:∀i∈Qt.ids v7,i∈Qx.ids v1++(Qi.ids v2++(Qt.ids v3++(Qf.ids v4++(Qf.ids v5++(Qt.ids v6++(Qt.ids v7++[])))))):=fun i hi=>List.mem_append.2 (.inr (List.mem_append.2 (.inr (List.mem_append.2 (.inr (List.mem_append.2 (.inr (List.mem_append.2 (.inr (List.mem_append.2 (.inr (List.mem_append.2 (.inl hi)))))))))))))
 have lt1:=Qx.lt h1
 have lt2:=Qi.lt h2
 have lt3:=Qt.lt h3
 have lt4:=Qf.lt h4
 have lt5:=Qf.lt h5
 have lt6:=Qt.lt h6
 have lt7:=Qt.lt h7
 have z2_1:∀i∈Qi.ids v2,i∉Qx.ids v1:=fun i hi hh=>x1 i hh i (List.mem_append.2 (.inl hi)) rfl
 have z1_2:∀i∈Qx.ids v1,i∉Qi.ids v2:=fun i hh hi=>x1 i hh i (List.mem_append.2 (.inl hi)) rfl
 have z3_1:∀i∈Qt.ids v3,i∉Qx.ids v1:=fun i hi hh=>x1 i hh i (List.mem_append.2 (.inr (List.mem_append.2 (.inl hi)))) rfl
 have z1_3:∀i∈Qx.ids v1,i∉Qt.ids v3:=fun i hh hi=>x1 i hh i (List.mem_append.2 (.inr (List.mem_append.2 (.inl hi)))) rfl
 have z4_1:∀i∈Qf.ids v4,i∉Qx.ids v1:=fun i hi hh=>x1 i hh i (List.mem_append.2 (.inr (List.mem_append.2 (.inr (List.mem_append.2 (.inl hi)))))) rfl
 have z1_4:∀i∈Qx.ids v1,i∉Qf.ids v4:=fun i hh hi=>x1 i hh i (List.mem_append.2 (.inr (List.mem_append.2 (.inr (List.mem_append.2 (.inl hi)))))) rfl
 have z5_1:∀i∈Qf.ids v5,i∉Qx.ids v1:=fun i hi hh=>x1 i hh i (List.mem_append.2 (.inr (List.mem_append.2 (.inr (List.mem_append.2 (.inr (List.mem_append.2 (.inl hi)))))))) rfl
 have z1_5:∀i∈Qx.ids v1,i∉Qf.ids v5:=fun i hh hi=>x1 i hh i (List.mem_append.2 (.inr (List.mem_append.2 (.inr (List.mem_append.2 (.inr (List.mem_append.2 (.inl hi)))))))) rfl
 have z6_1:∀i∈Qt.ids v6,i∉Qx.ids v1:=fun i hi hh=>x1 i hh i (List.mem_append.2 (.inr (List.mem_append.2 (.inr (List.mem_append.2 (.inr (List.mem_append.2 (.inr (List.mem_append.2 (.inl hi)))))))))) rfl
 have z1_6:∀i∈Qx.ids v1,i∉Qt.ids v6:=fun i hh hi=>x1 i hh i (List.mem_append.2 (.inr (List.mem_append.2 (.inr (List.mem_append.2 (.inr (List.mem_append.2 (.inr (List.mem_append.2 (.inl hi)))))))))) rfl
 have z7_1:∀i∈Qt.ids v7,i∉Qx.ids v1:=fun i hi hh=>x1 i hh i (List.mem_append.2 (.inr (List.mem_append.2 (.inr (List.mem_append.2 (.inr (List.mem_append.2 (.inr (List.mem_append.2 (.inr (List.mem_append.2 (.inl hi)))))))))))) rfl
 have z1_7:∀i∈Qx.ids v1,i∉Qt.ids v7:=fun i hh hi=>x1 i hh i (List.mem_append.2 (.inr (List.mem_append.2 (.inr (List.mem_append.2 (.inr (List.mem_append.2 (.inr (List.mem_append.2 (.inr (List.mem_append.2 (.inl hi)))))))))))) rfl
 have z3_2:∀i∈Qt.ids v3,i∉Qi.ids v2:=fun i hi hh=>x2 i hh i (List.mem_append.2 (.inl hi)) rfl
 have z2_3:∀i∈Qi.ids v2,i∉Qt.ids v3:=fun i hh hi=>x2 i hh i (List.mem_append.2 (.inl hi)) rfl
 have z4_2:∀i∈Qf.ids v4,i∉Qi.ids v2:=fun i hi hh=>x2 i hh i (List.mem_append.2 (.inr (List.mem_append.2 (.inl hi)))) rfl
 have z2_4:∀i∈Qi.ids v2,i∉Qf.ids v4:=fun i hh hi=>x2 i hh i (List.mem_append.2 (.inr (List.mem_append.2 (.inl hi)))) rfl
 have z5_2:∀i∈Qf.ids v5,i∉Qi.ids v2:=fun i hi hh=>x2 i hh i (List.mem_append.2 (.inr (List.mem_append.2 (.inr (List.mem_append.2 (.inl hi)))))) rfl
 have z2_5:∀i∈Qi.ids v2,i∉Qf.ids v5:=fun i hh hi=>x2 i hh i (List.mem_append.2 (.inr (List.mem_append.2 (.inr (List.mem_append.2 (.inl hi)))))) rfl
 have z6_2:∀i∈Qt.ids v6,i∉Qi.ids v2:=fun i hi hh=>x2 i hh i (List.mem_append.2 (.inr (List.mem_append.2 (.inr (List.mem_append.2 (.inr (List.mem_append.2 (.inl hi)))))))) rfl
 have z2_6:∀i∈Qi.ids v2,i∉Qt.ids v6:=fun i hh hi=>x2 i hh i (List.mem_append.2 (.inr (List.mem_append.2 (.inr (List.mem_append.2 (.inr (List.mem_append.2 (.inl hi)))))))) rfl
 have z7_2:∀i∈Qt.ids v7,i∉Qi.ids v2:=fun i hi hh=>x2 i hh i (List.mem_append.2 (.inr (List.mem_append.2 (.inr (List.mem_append.2 (.inr (List.mem_append.2 (.inr (List.mem_append.2 (.inl hi)))))))))) rfl
 have z2_7:∀i∈Qi.ids v2,i∉Qt.ids v7:=fun i hh hi=>x2 i hh i (List.mem_append.2 (.inr (List.mem_append.2 (.inr (List.mem_append.2 (.inr (List.mem_append.2 (.inr (List.mem_append.2 (.inl hi)))))))))) rfl
 have z4_3:∀i∈Qf.ids v4,i∉Qt.ids v3:=fun i hi hh=>x3 i hh i (List.mem_append.2 (.inl hi)) rfl
 have z3_4:∀i∈Qt.ids v3,i∉Qf.ids v4:=fun i hh hi=>x3 i hh i (List.mem_append.2 (.inl hi)) rfl
 have z5_3:∀i∈Qf.ids v5,i∉Qt.ids v3:=fun i hi hh=>x3 i hh i (List.mem_append.2 (.inr (List.mem_append.2 (.inl hi)))) rfl
 have z3_5:∀i∈Qt.ids v3,i∉Qf.ids v5:=fun i hh hi=>x3 i hh i (List.mem_append.2 (.inr (List.mem_append.2 (.inl hi)))) rfl
 have z6_3:∀i∈Qt.ids v6,i∉Qt.ids v3:=fun i hi hh=>x3 i hh i (List.mem_append.2 (.inr (List.mem_append.2 (.inr (List.mem_append.2 (.inl hi)))))) rfl
 have z3_6:∀i∈Qt.ids v3,i∉Qt.ids v6:=fun i hh hi=>x3 i hh i (List.mem_append.2 (.inr (List.mem_append.2 (.inr (List.mem_append.2 (.inl hi)))))) rfl
 have z7_3:∀i∈Qt.ids v7,i∉Qt.ids v3:=fun i hi hh=>x3 i hh i (List.mem_append.2 (.inr (List.mem_append.2 (.inr (List.mem_append.2 (.inr (List.mem_append.2 (.inl hi)))))))) rfl
 have z3_7:∀i∈Qt.ids v3,i∉Qt.ids v7:=fun i hh hi=>x3 i hh i (List.mem_append.2 (.inr (List.mem_append.2 (.inr (List.mem_append.2 (.inr (List.mem_append.2 (.inl hi)))))))) rfl
 have z5_4:∀i∈Qf.ids v5,i∉Qf.ids v4:=fun i hi hh=>x4 i hh i (List.mem_append.2 (.inl hi)) rfl
 have z4_5:∀i∈Qf.ids v4,i∉Qf.ids v5:=fun i hh hi=>x4 i hh i (List.mem_append.2 (.inl hi)) rfl
 have z6_4:∀i∈Qt.ids v6,i∉Qf.ids v4:=fun i hi hh=>x4 i hh i (List.mem_append.2 (.inr (List.mem_append.2 (.inl hi)))) rfl
 have z4_6:∀i∈Qf.ids v4,i∉Qt.ids v6:=fun i hh hi=>x4 i hh i (List.mem_append.2 (.inr (List.mem_append.2 (.inl hi)))) rfl
 have z7_4:∀i∈Qt.ids v7,i∉Qf.ids v4:=fun i hi hh=>x4 i hh i (List.mem_append.2 (.inr (List.mem_append.2 (.inr (List.mem_append.2 (.inl hi)))))) rfl
 have z4_7:∀i∈Qf.ids v4,i∉Qt.ids v7:=fun i hh hi=>x4 i hh i (List.mem_append.2 (.inr (List.mem_append.2 (.inr (List.mem_append.2 (.inl hi)))))) rfl
 have z6_5:∀i∈Qt.ids v6,i∉Qf.ids v5:=fun i hi hh=>x5 i hh i (List.mem_append.2 (.inl hi)) rfl
 have z5_6:∀i∈Qf.ids v5,i∉Qt.ids v6:=fun i hh hi=>x5 i hh i (List.mem_append.2 (.inl hi)) rfl
 have z7_5:∀i∈Qt.ids v7,i∉Qf.ids v5:=fun i hi hh=>x5 i hh i (List.mem_append.2 (.inr (List.mem_append.2 (.inl hi)))) rfl
 have z5_7:∀i∈Qf.ids v5,i∉Qt.ids v7:=fun i hh hi=>x5 i hh i (List.mem_append.2 (.inr (List.mem_append.2 (.inl hi)))) rfl
 have z7_6:∀i∈Qt.ids v7,i∉Qt.ids v6:=fun i hi hh=>x6 i hh i (List.mem_append.2 (.inl hi)) rfl
 have z6_7:∀i∈Qt.ids v6,i∉Qt.ids v7:=fun i hh hi=>x6 i hh i (List.mem_append.2 (.inl hi)) rfl
 clear Qbs
 simp [ones]
 obtain ⟨G0,hG0⟩:∃G,G=H++[⟨[.int .i64 w,.int .i64 g,v1,v2.1,v2.2,v3.1,v4,v5,v6.1,v7.1,.int .i64 tm],0,48⟩]:=⟨_,rfl⟩
 have b0:G0[H.length]? = some ⟨[.int .i64 w,.int .i64 g,v1,v2.1,v2.2,v3.1,v4,v5,v6.1,v7.1,.int .i64 tm],0,48⟩:=by rw [hG0];simp
 have cH:Qp H G0 (Qe.ids (v1,v2,v3,v4,v5,v6,v7,v8)):=by rw [hG0];exact Qp.app _
 have h1:=(by rw [hG0];exact Dt.app (T:=Qx) h1:Qx.Ow G0 v1 (w,g,b))
 have h2:=(by rw [hG0];exact Dt.app (T:=Qi) h2:Qi.Ow G0 v2 a2)
 have h3:=(by rw [hG0];exact Dt.app (T:=Qt) h3:Qt.Ow G0 v3 a3)
 have h4:=(by rw [hG0];exact Dt.app (T:=Qf) h4:Qf.Ow G0 v4 a4)
 have h5:=(by rw [hG0];exact Dt.app (T:=Qf) h5:Qf.Ow G0 v5 a5)
 have h6:=(by rw [hG0];exact Dt.app (T:=Qt) h6:Qt.Ow G0 v6 a6)
 have h7:=(by rw [hG0];exact Dt.app (T:=Qt) h7:Qt.Ow G0 v7 a7)
 rw [← hG0]
 clear hG0
 have m1:=kz (frz:=frz) (k:=k) h1 d1 (by omega) (fun i hi=>hf i (in1 i hi))
 simp only [W5] at m1
 try simp [VM.look,b0,ones]
 refine Ql m1 ?_
 rintro _ G1 ⟨n1,a1',rfl,hn1,hv1,o1,c1,he1⟩
 clear m1
 have b0:=Qa b0 c1 (fun hh=>by have:=lt1 _ hh;omega)
 have h2:=Dt.chg (T:=Qi) h2 c1 z2_1
 have h3:=Dt.chg (T:=Qt) h3 c1 z3_1
 have h4:=Dt.chg (T:=Qf) h4 c1 z4_1
 have h5:=Dt.chg (T:=Qf) h5 c1 z5_1
 have h6:=Dt.chg (T:=Qt) h6 c1 z6_1
 have h7:=Dt.chg (T:=Qt) h7 c1 z7_1
 have cH:=cH.trans (c1.mono in1)
 have m2:=Dv (frz:=frz) (k:=k+n1) h2 d2 (by omega) (fun i hi=>hf i (in2 i hi))
 simp only [Wz] at m2
 simp [VM.look,b0,ones]
 refine Ql m2 ?_
 rintro _ G2 ⟨n2,a2',rfl,hn2,hv2,o2,c2,he2⟩
 clear m2
 have b0:=Qa b0 c2 (fun hh=>by have:=lt2 _ hh;omega)
 have o1:=Dt.chg (T:=Qx) o1 c2 z1_2
 have h3:=Dt.chg (T:=Qt) h3 c2 z3_2
 have h4:=Dt.chg (T:=Qf) h4 c2 z4_2
 have h5:=Dt.chg (T:=Qf) h5 c2 z5_2
 have h6:=Dt.chg (T:=Qt) h6 c2 z6_2
 have h7:=Dt.chg (T:=Qt) h7 c2 z7_2
 have cH:=cH.trans (c2.mono in2)
 have m3:=P8 (frz:=frz) (k:=k+n1+n2) h3 d3 (by omega) (fun i hi=>hf i (in3 i hi))
 simp [VM.look,b0,ones]
 refine Ql m3 ?_
 rintro _ G3 ⟨n3,a3',rfl,hn3,hv3,o3,c3,he3⟩
 clear m3
 have b0:=Qa b0 c3 (fun hh=>by have:=lt3 _ hh;omega)
 have o1:=Dt.chg (T:=Qx) o1 c3 z1_3
 have o2:=Dt.chg (T:=Qi) o2 c3 z2_3
 have h4:=Dt.chg (T:=Qf) h4 c3 z4_3
 have h5:=Dt.chg (T:=Qf) h5 c3 z5_3
 have h6:=Dt.chg (T:=Qt) h6 c3 z6_3
 have h7:=Dt.chg (T:=Qt) h7 c3 z7_3
 have cH:=cH.trans (c3.mono in3)
 have m4:=S9 (frz:=frz) (k:=k+n1+n2+n3) h4 d4 (by omega) (fun i hi=>hf i (in4 i hi))
 simp [VM.look,b0,ones]
 refine Ql m4 ?_
 rintro _ G4 ⟨n4,a4',rfl,hn4,hv4,o4,c4,he4⟩
 clear m4
 have b0:=Qa b0 c4 (fun hh=>by have:=lt4 _ hh;omega)
 have o1:=Dt.chg (T:=Qx) o1 c4 z1_4
 have o2:=Dt.chg (T:=Qi) o2 c4 z2_4
 have o3:=Dt.chg (T:=Qt) o3 c4 z3_4
 have h5:=Dt.chg (T:=Qf) h5 c4 z5_4
 have h6:=Dt.chg (T:=Qt) h6 c4 z6_4
 have h7:=Dt.chg (T:=Qt) h7 c4 z7_4
 have cH:=cH.trans (c4.mono in4)
 have m5:=S9 (frz:=frz) (k:=k+n1+n2+n3+n4) h5 d5 (by omega) (fun i hi=>hf i (in5 i hi))
 simp [VM.look,b0,ones]
 refine Ql m5 ?_
 rintro _ G5 ⟨n5,a5',rfl,hn5,hv5,o5,c5,he5⟩
 clear m5
 have b0:=Qa b0 c5 (fun hh=>by have:=lt5 _ hh;omega)
 have o1:=Dt.chg (T:=Qx) o1 c5 z1_5
 have o2:=Dt.chg (T:=Qi) o2 c5 z2_5
 have o3:=Dt.chg (T:=Qt) o3 c5 z3_5
 have o4:=Dt.chg (T:=Qf) o4 c5 z4_5
 have h6:=Dt.chg (T:=Qt) h6 c5 z6_5
 have h7:=Dt.chg (T:=Qt) h7 c5 z7_5
 have cH:=cH.trans (c5.mono in5)
 have m6:=P8 (frz:=frz) (k:=k+n1+n2+n3+n4+n5) h6 d6 (by omega) (fun i hi=>hf i (in6 i hi))
 simp [VM.look,b0,ones]
 refine Ql m6 ?_
 rintro _ G6 ⟨n6,a6',rfl,hn6,hv6,o6,c6,he6⟩
 clear m6
 have b0:=Qa b0 c6 (fun hh=>by have:=lt6 _ hh;omega)
 have o1:=Dt.chg (T:=Qx) o1 c6 z1_6
 have o2:=Dt.chg (T:=Qi) o2 c6 z2_6
 have o3:=Dt.chg (T:=Qt) o3 c6 z3_6
 have o4:=Dt.chg (T:=Qf) o4 c6 z4_6
 have o5:=Dt.chg (T:=Qf) o5 c6 z5_6
 have h7:=Dt.chg (T:=Qt) h7 c6 z7_6
 have cH:=cH.trans (c6.mono in6)
 have m7:=P8 (frz:=frz) (k:=k+n1+n2+n3+n4+n5+n6) h7 d7 (by omega) (fun i hi=>hf i (in7 i hi))
 simp [VM.look,b0,ones]
 refine Ql m7 ?_
 rintro _ G7 ⟨n7,a7',rfl,hn7,hv7,o7,c7,he7⟩
 clear m7
 have b0:=Qa b0 c7 (fun hh=>by have:=lt7 _ hh;omega)
 have o1:=Dt.chg (T:=Qx) o1 c7 z1_7
 have o2:=Dt.chg (T:=Qi) o2 c7 z2_7
 have o3:=Dt.chg (T:=Qt) o3 c7 z3_7
 have o4:=Dt.chg (T:=Qf) o4 c7 z4_7
 have o5:=Dt.chg (T:=Qf) o5 c7 z5_7
 have o6:=Dt.chg (T:=Qt) o6 c7 z6_7
 have cH:=cH.trans (c7.mono in7)
 try simp
 obtain ⟨e1,e2⟩:a1'.1=w∧a1'.2.1=g:=by simpa [W5] using hv1
 refine ⟨n1+n2+n3+n4+n5+n6+n7,(a1',a2',a3',a4',a5',a6',a7',tm),by congr 1;omega,by omega,by rw [Qk,Qk];simp [e1,e2],⟨o1,o2,o3,o4,o5,o6,o7,trivial⟩,cH,fun F H3 q=>?_⟩
 obtain ⟨p1,p2,p3,p4,p5,p6,p7,_⟩:=q
 simp only at p1 p2 p3 p4 p5 p6 p7
 rw [Qk]
 simp only [e1,e2]
 rw [Qb (fn:=Tryz.f42) Tryz.func42 rfl (by kernel_rfl) rfl]
 have y1:=fun F=>he1 F (H3++[⟨[.int .i64 w,.int .i64 g,v1,v2.1,v2.2,v3.1,v4,v5,v6.1,v7.1,.int .i64 tm],0,48⟩]) (Dt.app (T:=Qx) p1)
 simp only [W5,e1,e2] at y1
 have f1:¬k+n1<0:=by omega
 have y2:=fun F=>he2 F (H3++[⟨[.int .i64 w,.int .i64 g,v1,v2.1,v2.2,v3.1,v4,v5,v6.1,v7.1,.int .i64 tm],0,48⟩]) (Dt.app (T:=Qi) p2)
 simp only [Wz] at y2
 have f2:¬k+n1+n2<0:=by omega
 have y3:=fun F=>he3 F (H3++[⟨[.int .i64 w,.int .i64 g,v1,v2.1,v2.2,v3.1,v4,v5,v6.1,v7.1,.int .i64 tm],0,48⟩]) (Dt.app (T:=Qt) p3)
 simp only [show ∀(v:I5) (a:X9),Qt.val v a=v.1 from fun _ _=>rfl] at y3
 have f3:¬k+n1+n2+n3<0:=by omega
 have y4:=fun F=>he4 F (H3++[⟨[.int .i64 w,.int .i64 g,v1,v2.1,v2.2,v3.1,v4,v5,v6.1,v7.1,.int .i64 tm],0,48⟩]) (Dt.app (T:=Qf) p4)
 simp only [Wl] at y4
 have f4:¬k+n1+n2+n3+n4<0:=by omega
 have y5:=fun F=>he5 F (H3++[⟨[.int .i64 w,.int .i64 g,v1,v2.1,v2.2,v3.1,v4,v5,v6.1,v7.1,.int .i64 tm],0,48⟩]) (Dt.app (T:=Qf) p5)
 simp only [Wl] at y5
 have f5:¬k+n1+n2+n3+n4+n5<0:=by omega
 have y6:=fun F=>he6 F (H3++[⟨[.int .i64 w,.int .i64 g,v1,v2.1,v2.2,v3.1,v4,v5,v6.1,v7.1,.int .i64 tm],0,48⟩]) (Dt.app (T:=Qt) p6)
 simp only [show ∀(v:I5) (a:X9),Qt.val v a=v.1 from fun _ _=>rfl] at y6
 have f6:¬k+n1+n2+n3+n4+n5+n6<0:=by omega
 have y7:=fun F=>he7 F (H3++[⟨[.int .i64 w,.int .i64 g,v1,v2.1,v2.2,v3.1,v4,v5,v6.1,v7.1,.int .i64 tm],0,48⟩]) (Dt.app (T:=Qt) p7)
 simp only [show ∀(v:I5) (a:X9),Qt.val v a=v.1 from fun _ _=>rfl] at y7
 have f7:¬k+n1+n2+n3+n4+n5+n6+n7<0:=by omega
 simp [ones,y1,f1]
 simp [ones,y2,f2]
 simp [ones,y3,f3]
 simp [ones,y4,f4]
 simp [ones,y5,f5]
 simp [ones,y6,f6]
 simp [ones,y7,f7]
 omega
theorem Nx (v:Value) (xs:List Int) (hI:Rd Fl.int H v xs) (hl:xs.length≤1073741824):∃r L,Y5 Tryz.prog frz H 24 24 (.slice none 0 0) v=some (r,H++L)∧Qf.Ow (H++L) r xs∧(∀i∈ids r,H.length≤i):=by
 have hs:=hI.src
 simp only [Fl.int_n] at hs
 by_cases h0:xs=[]
 ·subst h0
  refine ⟨.slice none 0 0,[],?_,⟨.inl ⟨rfl,rfl⟩,by simp⟩,by simp⟩
  simp [hs]
 ·refine ⟨.slice (some ⟨H.length,0,some 0⟩) xs.length 0,[⟨cellsOf Fl.int xs,0,3⟩],?_,⟨Ow.new0 rfl rfl (Pj xs) rfl,hl⟩,by simp⟩
  have:xs.length≠0:=fun hh=>h0 (List.length_eq_zero_iff.1 hh)
  simp [hs,h0,hl,Pj]
theorem Nh (v:Value) (hs:List Value) (xss:X9) (hI:To Yh H v hs xss) (hb:xss.length≤2097152) (hb2:∀xs∈xss,xs.length≤67108864) :
 wp (Qh C frz 128 [v] H) (Qt.Made H xss):=by
 rw [Qb (fn:=Tryz.f128) Tryz.func128 rfl (by kernel_rfl) rfl]
 have hl:=hI.2.1
 simp [(hI.app).1.len (P:=Tryz.prog) (ty:=46) (by simp),hl]
 refine Qw (fun n t H'=>∃(i:Nat) (out:Value) (gs:List Value),n=xss.length-i∧i≤xss.length∧t 7=v∧t 8=.int .i64 xss.length∧t 9=.int .i64 i∧t 3=out∧gs.length=i∧Ow Fl.val 145 H' out gs∧Qp H H' []∧
  (∀(j:Nat) (a:Value) (xs:List Q9),gs[j]? = some a→xss[j]? = some xs→Ow Yh 148 H' a xs)∧(∀x∈T5 out gs,H.length≤x∧x<H'.length)∧(T5 out gs).Nodup) ?_ (n:=xss.length)
  ⟨0,.slice (some ⟨H.length,0,some 0⟩) 0 0,[],rfl,by omega,by simp,by simp,by simp,by simp,rfl,Ow.new0 (D:=Fl.val) (xs:=[]) rfl rfl rfl rfl,Qp.app _,by simp,by simp [T5],by simp [T5]⟩
 rintro n t H' ⟨i,out,gs,rfl,hi,t7,t8,t9,t3,hgl,o,c,hin,hids,hnd⟩ ih
 have rd:=hI.chg c (by simp)
 have l0:=c.1
 simp [t7,t8,t9,t3,rd.1.len (P:=Tryz.prog) (ty:=46) (by simp),hl]
 refine Qm ?_ ?_<;>intro h
 ·have h':i<xss.length:=by omega
  obtain ⟨u,a1,a2,a3,a4⟩:=Xi rd (ty:=46) (e:=145) (by simp) (by simp) h'
  have hm:=hb2 _ (List.getElem_mem h')
  have a2':Q6 Tryz.prog (H'++[⟨[],0,148⟩]) 46 v (.int .i64 i)=some (Yi v i):=by
   obtain ⟨_,_,q,_,_⟩:=Xi (rd.app (L:=[⟨[],0,148⟩])) (ty:=46) (e:=145) (by simp) (by simp) h';exact q
  have a3':Xh Tryz.prog (H'++[⟨[],0,148⟩]) 145 (Yi v i)=some u:=by
   obtain ⟨u',q1,_,q,_⟩:=Xi (rd.app (L:=[⟨[],0,148⟩])) (ty:=46) (e:=145) (by simp) (by simp) h'
   rw [a1] at q1;cases q1;exact q
  have o0:Ow Yh 148 (H'++[⟨[],0,148⟩]) (.slice (some ⟨H'.length,0,some 0⟩) 0 0) []:=Ow.new0 (D:=Yh) (xs:=[]) rfl rfl rfl rfl
  obtain ⟨r,H2,hap,or_,c1,n1⟩:=o0.append (P:=Tryz.prog) (frz:=H.length) (ty:=145) (a4.app (L:=[⟨[],0,148⟩])) (by simp) (Re _) (by simp;omega) (by simp;omega)
  rw [List.nil_append] at or_
  have l1:=c1.1
  simp at l1
  have cc1:Qp H' H2 []:=(Qp.app []).trans' c1 (fun x hx=>.inr (by simp at hx;omega))
  have nr:∀x∈ids r,H'.length≤x:=fun x hx=>by
   rcases n1 x hx with h1|h1
   ·simp at h1;omega
   ·simp at h1;omega
  have oo:=o.chg cc1 (by simp)
  have hout:∀x∈ids out,H.length≤x∧x<H'.length:=fun x hx=>hids x (List.mem_append.2 (.inl hx))
  obtain ⟨out',H4,ky,o4,c4,n4⟩:=oo.push (P:=Tryz.prog) (frz:=H.length) (ty:=46) (a:=r) (by simp) (by simp [or_.rd.one']) (by omega) (fun x hx=>(hout x hx).1)
  simp only [Fl.val_f] at ky
  have l4:=c4.1
  have one:=And.intro or_.rd.one' or_.rd.cells
  have rlt:=or_.lt
  have o4lt:=o4.lt
  simp [-Wm,t7,t8,t9,t3,a2,a3,a2',a3',hap,ky,one]
  refine ih (xss.length-(i+1)) _ _ ⟨i+1,out',gs++[r],rfl,by omega,by simp [t7],by simp [t8],?_,by simp,by simp [hgl],o4,(c.trans cc1).trans' c4 (fun x hx=>.inr (hout x hx).1),fun j a xs ha hx=>?_,fun x hx=>?_,?_⟩ (by omega)
  ·simp;rw [Q0 (by omega) (by omega)]
  ·by_cases hj:j<gs.length
   ·rw [List.getElem?_append_left hj] at ha
    refine ((hin j a xs ha hx).chg cc1 (by simp)).chg c4 (fun y hy hh=>?_)
    exact (List.nodup_append.1 hnd).2.2 y hh y (List.mem_flatMap.2 ⟨a,List.mem_of_getElem? ha,hy⟩) rfl
   ·rw [List.getElem?_append_right (by omega)] at ha
    have hj2:=(List.getElem?_eq_some_iff.1 ha).1
    simp at hj2
    have:j=i:=by omega
    subst this
    rw [show j-gs.length=0 by omega] at ha
    simp at ha
    subst ha
    rw [List.getElem?_eq_getElem h'] at hx
    cases hx
    exact or_.chg c4 (fun y hy hh=>by have:=nr y hy;have:=(hout y hh).2;omega)
  ·rcases List.mem_append.1 hx with hx|hx
   ·have h2:=o4lt x hx
    rcases n4 x hx with h1|h1
    ·exact ⟨(hout x h1).1,h2⟩
    ·exact ⟨by omega,h2⟩
   ·rw [List.flatMap_append] at hx
    rcases List.mem_append.1 hx with hx|hx
    ·have:=hids x (List.mem_append.2 (.inr hx));omega
    ·simp at hx
     have:=nr x hx;have:=rlt x hx;omega
  ·obtain ⟨d1,d2,d3⟩:=List.nodup_append.1 hnd
   have kd:∀x∈gs.flatMap ids,x<H'.length:=fun x hx=>(hids x (List.mem_append.2 (.inr hx))).2
   refine List.nodup_append.2 ⟨Wa _,?_,fun a ha b hb e=>?_⟩
   ·rw [List.flatMap_append]
    exact Yr d2 (by simpa using Wa r) (n:=H'.length) kd (fun x hx=>by simp at hx;exact nr x hx)
   ·subst e
    rw [List.flatMap_append] at hb
    rcases n4 a ha with h1|h1
    ·rcases List.mem_append.1 hb with hb|hb
     ·exact d3 a h1 a hb rfl
     ·simp at hb
      have:=nr a hb;have:=(hout a h1).2;omega
    ·rcases List.mem_append.1 hb with hb|hb
     ·have:=kd a hb;omega
     ·simp at hb
      have:=rlt a hb;omega
 ·have:i=xss.length:=by omega
  subst this
  simp [t7,t8,t9,t3]
  exact ⟨(out,gs),rfl,⟨⟨o,hgl,hin⟩,hb,hb2⟩,c,fun x hx=>(hids x hx).1,hnd⟩
theorem Lg (v:Value) (hs:List Value) (xss:X9) (hI:To Yh H v hs xss) (hb:xss.length≤2097152) (hb2:∀xs∈xss,xs.length≤67108864) :
 wp (Qh C frz 101 [v] H) (Qt.Made H xss):=by
 rw [Qb (fn:=Tryz.f101) Tryz.func101 rfl (by kernel_rfl) rfl]
 have hl:=hI.2.1
 simp [(hI.app).1.len (P:=Tryz.prog) (ty:=46) (by simp),hl]
 refine Qw (fun n t H'=>∃(i:Nat) (out:Value) (gs:List Value),n=xss.length-i∧i≤xss.length∧t 0=v∧t 4=.int .i64 i∧t 3=out∧gs.length=i∧Ow Fl.val 145 H' out gs∧Qp H H' []∧
  (∀(j:Nat) (a:Value) (xs:List Q9),gs[j]? = some a→xss[j]? = some xs→Ow Yh 148 H' a xs)∧(∀x∈T5 out gs,H.length≤x∧x<H'.length)∧(T5 out gs).Nodup) ?_ (n:=xss.length)
  ⟨0,.slice (some ⟨H.length,0,some 0⟩) 0 0,[],rfl,by omega,by simp,by simp,by simp,rfl,Ow.new0 (D:=Fl.val) (xs:=[]) rfl rfl rfl rfl,Qp.app _,by simp,by simp [T5],by simp [T5]⟩
 rintro n t H' ⟨i,out,gs,rfl,hi,t0,t4,t3,hgl,o,c,hin,hids,hnd⟩ ih
 have rd:=hI.chg c (by simp)
 have l0:=c.1
 simp [t0,t4,t3,rd.1.len (P:=Tryz.prog) (ty:=46) (by simp),hl]
 refine Qm ?_ ?_<;>intro h
 ·have h':i<xss.length:=by omega
  obtain ⟨u,a1,a2,a3,a4⟩:=Xi rd (ty:=46) (e:=145) (by simp) (by simp) h'
  have hm:=hb2 _ (List.getElem_mem h')
  have a2':Q6 Tryz.prog (H'++[⟨[],0,148⟩]) 46 v (.int .i64 i)=some (Yi v i):=by
   obtain ⟨_,_,q,_,_⟩:=Xi (rd.app (L:=[⟨[],0,148⟩])) (ty:=46) (e:=145) (by simp) (by simp) h';exact q
  have a3':Xh Tryz.prog (H'++[⟨[],0,148⟩]) 145 (Yi v i)=some u:=by
   obtain ⟨u',q1,_,q,_⟩:=Xi (rd.app (L:=[⟨[],0,148⟩])) (ty:=46) (e:=145) (by simp) (by simp) h'
   rw [a1] at q1;cases q1;exact q
  have o0:Ow Yh 148 (H'++[⟨[],0,148⟩]) (.slice (some ⟨H'.length,0,some 0⟩) 0 0) []:=Ow.new0 (D:=Yh) (xs:=[]) rfl rfl rfl rfl
  obtain ⟨r,H2,hap,or_,c1,n1⟩:=o0.append (P:=Tryz.prog) (frz:=H.length) (ty:=145) (a4.app (L:=[⟨[],0,148⟩])) (by simp) (Re _) (by simp;omega) (by simp;omega)
  rw [List.nil_append] at or_
  have l1:=c1.1
  simp at l1
  have cc1:Qp H' H2 []:=(Qp.app []).trans' c1 (fun x hx=>.inr (by simp at hx;omega))
  have nr:∀x∈ids r,H'.length≤x:=fun x hx=>by
   rcases n1 x hx with h1|h1
   ·simp at h1;omega
   ·simp at h1;omega
  have oo:=o.chg cc1 (by simp)
  have hout:∀x∈ids out,H.length≤x∧x<H'.length:=fun x hx=>hids x (List.mem_append.2 (.inl hx))
  obtain ⟨out',H4,ky,o4,c4,n4⟩:=oo.push (P:=Tryz.prog) (frz:=H.length) (ty:=46) (a:=r) (by simp) (by simp [or_.rd.one']) (by omega) (fun x hx=>(hout x hx).1)
  simp only [Fl.val_f] at ky
  have l4:=c4.1
  have one:=And.intro or_.rd.one' or_.rd.cells
  have rlt:=or_.lt
  have o4lt:=o4.lt
  simp [-Wm,t0,t4,t3,a2,a3,a2',a3',hap,ky,one]
  refine ih (xss.length-(i+1)) _ _ ⟨i+1,out',gs++[r],rfl,by omega,by simp [t0],?_,by simp,by simp [hgl],o4,(c.trans cc1).trans' c4 (fun x hx=>.inr (hout x hx).1),fun j a xs ha hx=>?_,fun x hx=>?_,?_⟩ (by omega)
  ·simp;rw [Q0 (by omega) (by omega)]
  ·by_cases hj:j<gs.length
   ·rw [List.getElem?_append_left hj] at ha
    refine ((hin j a xs ha hx).chg cc1 (by simp)).chg c4 (fun y hy hh=>?_)
    exact (List.nodup_append.1 hnd).2.2 y hh y (List.mem_flatMap.2 ⟨a,List.mem_of_getElem? ha,hy⟩) rfl
   ·rw [List.getElem?_append_right (by omega)] at ha
    have hj2:=(List.getElem?_eq_some_iff.1 ha).1
    simp at hj2
    have:j=i:=by omega
    subst this
    rw [show j-gs.length=0 by omega] at ha
    simp at ha
    subst ha
    rw [List.getElem?_eq_getElem h'] at hx
    cases hx
    exact or_.chg c4 (fun y hy hh=>by have:=nr y hy;have:=(hout y hh).2;omega)
  ·rcases List.mem_append.1 hx with hx|hx
   ·have h2:=o4lt x hx
    rcases n4 x hx with h1|h1
    ·exact ⟨(hout x h1).1,h2⟩
    ·exact ⟨by omega,h2⟩
   ·rw [List.flatMap_append] at hx
    rcases List.mem_append.1 hx with hx|hx
    ·have:=hids x (List.mem_append.2 (.inr hx));omega
    ·simp at hx
     have:=nr x hx;have:=rlt x hx;omega
  ·obtain ⟨d1,d2,d3⟩:=List.nodup_append.1 hnd
   have kd:∀x∈gs.flatMap ids,x<H'.length:=fun x hx=>(hids x (List.mem_append.2 (.inr hx))).2
   refine List.nodup_append.2 ⟨Wa _,?_,fun a ha b hb e=>?_⟩
   ·rw [List.flatMap_append]
    exact Yr d2 (by simpa using Wa r) (n:=H'.length) kd (fun x hx=>by simp at hx;exact nr x hx)
   ·subst e
    rw [List.flatMap_append] at hb
    rcases n4 a ha with h1|h1
    ·rcases List.mem_append.1 hb with hb|hb
     ·exact d3 a h1 a hb rfl
     ·simp at hb
      have:=nr a hb;have:=(hout a h1).2;omega
    ·rcases List.mem_append.1 hb with hb|hb
     ·have:=kd a hb;omega
     ·simp at hb
      have:=rlt a hb;omega
 ·have:i=xss.length:=by omega
  subst this
  simp [t0,t4,t3]
  exact ⟨(out,gs),rfl,⟨⟨o,hgl,hin⟩,hb,hb2⟩,c,fun x hx=>(hids x hx).1,hnd⟩
theorem Mk (v1 v2:Value) (A B:List Int) (h1:W7 H v1 A) (h2:W7 H v2 B) (l1:A.length≤1073741824) (l2:B.length≤1073741824) :
 wp (Qh C frz 127 [.agg #[v1,v2]] H) (Qi.Made H (A,B)):=by
 rw [Qb (fn:=Tryz.f127) Tryz.func127 rfl (by kernel_rfl) rfl]
 have one:=And.intro (And.intro h1.one' h1.cells) (And.intro h2.one' h2.cells)
 simp [one]
 try rw [Qv (h:=by kernel_rfl)]
 simp [one]
 refine Ql (Nn v1 A (h1.app _) l1) ?_
 rintro _ H1 ⟨u1,rfl,o1,c1,n1,d1⟩
 have b0:H1[H.length]? = some ⟨[v1,v2],0,45⟩:=Qa (by simp) c1 (by simp)
 have bR:H1[H.length+1]? = some ⟨[.slice none 0 0,.slice none 0 0],0,45⟩:=Qa (by simp) c1 (by simp)
 have cH1:Qp H H1 []:=(Qp.app []).trans c1
 have lc:=c1.1
 simp at n1 lc
 have onu:=Xc o1
 have lt1:=Wu.lt o1
 simp [Wx,VM.look,b0,one]
 refine Ql (Nn v2 B (Rd.isI (h2.rd.chg cH1 (by simp))) l2) ?_
 rintro _ H2 ⟨u2,rfl,o2,c2,n2,d2⟩
 have bR:=Qa bR c2 (by simp)
 have o1:=Dt.chg0 (T:=Wu) o1 c2
 have Qcb:=Xc o2
 have gR:=Qq (r':=⟨[u1,u2],0,45⟩) bR
 have hF:H.length≤H.length+1:=by omega
 have eR:Qp H2 (H2.set (H.length+1) ⟨[u1,u2],0,45⟩) [H.length+1]:=Qn _ _
 simp [Wx,VM.look,bR,onu,Qcb,gR,hF]
 refine ⟨(u1,u2),rfl,⟨Dt.chg (T:=Wu) o1 eR (fun i hi hh=>by have:=n1 i hi;simp at hh;omega),Dt.chg (T:=Wu) o2 eR (fun i hi hh=>by have:=n2 i hi;simp at hh;omega)⟩,(cH1.trans c2).trans' eR (fun i hi=>.inr (by simp at hi;omega)),fun i hi=>?_,?_⟩
 ·rcases List.mem_append.1 hi with hi|hi
  ·have:=n1 i hi;omega
  ·have:=n2 i hi;omega
 ·exact List.nodup_append.2 ⟨d1,d2,fun a ha b hb e=>by have:=lt1 a ha;have:=n2 b hb;omega⟩
theorem Kv (v1 v2:Value) (A B:List Int) (h1:W7 H v1 A) (h2:W7 H v2 B) (l1:A.length≤1073741824) (l2:B.length≤1073741824) :
 wp (Qh C frz 100 [.agg #[v1,v2]] H) (Qi.Made H (A,B)):=by
 rw [Qb (fn:=Tryz.f100) Tryz.func100 rfl (by kernel_rfl) rfl]
 have one:=And.intro (And.intro h1.one' h1.cells) (And.intro h2.one' h2.cells)
 simp [one]
 try rw [Qv (h:=by kernel_rfl)]
 simp [one]
 refine Ql (Jf v1 A (h1.app _) l1) ?_
 rintro _ H1 ⟨u1,rfl,o1,c1,n1,d1⟩
 have b0:H1[H.length]? = some ⟨[v1,v2],0,45⟩:=Qa (by simp) c1 (by simp)
 have bR:H1[H.length+1]? = some ⟨[.slice none 0 0,.slice none 0 0],0,45⟩:=Qa (by simp) c1 (by simp)
 have cH1:Qp H H1 []:=(Qp.app []).trans c1
 have lc:=c1.1
 simp at n1 lc
 have onu:=Xc o1
 have lt1:=Wu.lt o1
 simp [Wx,VM.look,b0,one]
 refine Ql (Jf v2 B (Rd.isI (h2.rd.chg cH1 (by simp))) l2) ?_
 rintro _ H2 ⟨u2,rfl,o2,c2,n2,d2⟩
 have bR:=Qa bR c2 (by simp)
 have o1:=Dt.chg0 (T:=Wu) o1 c2
 have Qcb:=Xc o2
 have gR:=Qq (r':=⟨[u1,u2],0,45⟩) bR
 have hF:H.length≤H.length+1:=by omega
 have eR:Qp H2 (H2.set (H.length+1) ⟨[u1,u2],0,45⟩) [H.length+1]:=Qn _ _
 simp [Wx,VM.look,bR,onu,Qcb,gR,hF]
 refine ⟨(u1,u2),rfl,⟨Dt.chg (T:=Wu) o1 eR (fun i hi hh=>by have:=n1 i hi;simp at hh;omega),Dt.chg (T:=Wu) o2 eR (fun i hi hh=>by have:=n2 i hi;simp at hh;omega)⟩,(cH1.trans c2).trans' eR (fun i hi=>.inr (by simp at hi;omega)),fun i hi=>?_,?_⟩
 ·rcases List.mem_append.1 hi with hi|hi
  ·have:=n1 i hi;omega
  ·have:=n2 i hi;omega
 ·exact List.nodup_append.2 ⟨d1,d2,fun a ha b hb e=>by have:=lt1 a ha;have:=n2 b hb;omega⟩
theorem Sp {v:Wo} {x:Qu} (o:Qe.Ow H v x):wp (Qh C frz 75 [Qe.val v x] H) (Qe.Made H x):=by
 have ones:=Qr o
 obtain ⟨u2,⟨u3,u4⟩,⟨u5,h5⟩,u6,u7,⟨u8,h8⟩,⟨u9,h9⟩,_⟩:=v
 obtain ⟨⟨w,h,b⟩,⟨A,B⟩,buf,own,turn,src,arr,tm⟩:=x
 obtain ⟨y1,y2,y3,y4,y5,y6,y7,_⟩:=o
 simp only at y1 y2 y3 y4 y5 y6 y7 ones
 rw [Qk]
 rw [Qb (fn:=Tryz.f75) Tryz.func75 rfl (by kernel_rfl) rfl]
 have hF:H.length≤H.length+1:=by omega
 simp [ones]
 rw [S0 (h:=⟨by kernel_rfl,by kernel_rfl⟩)]
 obtain ⟨G0,hG0⟩:∃G,G=H++[⟨[.int .i64 w,.int .i64 h,u2,u3,u4,u5,u6,u7,u8,u9,.int .i64 tm],0,48⟩,⟨[.int .i64 0,.int .i64 0,.slice none 0 0,.slice none 0 0,.slice none 0 0,.slice none 0 0,.slice none 0 0,.slice none 0 0,.slice none 0 0,.slice none 0 0,.int .i64 0],0,48⟩]:=⟨_,rfl⟩
 have b0:G0[H.length]? = some ⟨[.int .i64 w,.int .i64 h,u2,u3,u4,u5,u6,u7,u8,u9,.int .i64 tm],0,48⟩:=by rw [hG0];simp
 have bR:G0[H.length+1]? = some ⟨[.int .i64 0,.int .i64 0,.slice none 0 0,.slice none 0 0,.slice none 0 0,.slice none 0 0,.slice none 0 0,.slice none 0 0,.slice none 0 0,.slice none 0 0,.int .i64 0],0,48⟩:=by rw [hG0];simp
 have cH:Qp H G0 []:=by rw [hG0];exact Qp.app []
 have lH:H.length+2≤G0.length:=by rw [hG0];simp
 rw [← hG0]
 clear hG0
 have z1:Qx.Ow G0 u2 (w,h,b):=Dt.chg0 y1 cH
 have z2:Qi.Ow G0 (u3,u4) (A,B):=Dt.chg0 y2 cH
 have z3:Qt.Ow G0 (u5,h5) buf:=Dt.chg0 y3 cH
 have z4:Qf.Ow G0 u6 own:=Dt.chg0 y4 cH
 have z5:Qf.Ow G0 u7 turn:=Dt.chg0 y5 cH
 have z6:Qt.Ow G0 (u8,h8) src:=Dt.chg0 y6 cH
 have z7:Qt.Ow G0 (u9,h9) arr:=Dt.chg0 y7 cH
 clear y1 y2 y3 y4 y5 y6 y7
 simp [Sd,Zi,Vs,VM.look,b0,ones]
 refine Ql (Lc w h u2 b z1.1.rd.isI z1.2) ?_
 rintro _ G1 ⟨n1,rfl,o1,c1,m1,d1⟩
 have q1:=Zs o1
 have lt1:=Qx.lt o1
 have lc1:=c1.1
 have b0:=Qa b0 c1 (by simp)
 have bR:=Qa bR c1 (by simp)
 have cH:=cH.trans c1
 have z2:=Dt.chg0 (T:=Qi) z2 c1
 have z3:=Dt.chg0 (T:=Qt) z3 c1
 have z4:=Dt.chg0 (T:=Qf) z4 c1
 have z5:=Dt.chg0 (T:=Qf) z5 c1
 have z6:=Dt.chg0 (T:=Qt) z6 c1
 have z7:=Dt.chg0 (T:=Qt) z7 c1
 try simp [-Q5,W5,VM.look,b0,ones]
 refine Ql (Mk u3 u4 A B z2.1.1.rd.isI z2.2.1.rd.isI z2.1.2 z2.2.2) ?_
 rintro _ G2 ⟨n2,rfl,o2,c2,m2,d2⟩
 have q2:=W6 o2
 have lt2:=Qi.lt o2
 have lc2:=c2.1
 have b0:=Qa b0 c2 (by simp)
 have bR:=Qa bR c2 (by simp)
 have cH:=cH.trans c2
 have z3:=Dt.chg0 (T:=Qt) z3 c2
 have z4:=Dt.chg0 (T:=Qf) z4 c2
 have z5:=Dt.chg0 (T:=Qf) z5 c2
 have z6:=Dt.chg0 (T:=Qt) z6 c2
 have z7:=Dt.chg0 (T:=Qt) z7 c2
 have o1:=Dt.chg0 (T:=Qx) o1 c2
 try simp [-Q5,Wz,VM.look,b0,ones]
 refine Ql (Nh u5 h5 buf z3.1.rd z3.2.1 z3.2.2) ?_
 rintro _ G3 ⟨n3,rfl,o3,c3,m3,d3⟩
 have q3:=Va o3
 have lt3:=Qt.lt o3
 have lc3:=c3.1
 have b0:=Qa b0 c3 (by simp)
 have bR:=Qa bR c3 (by simp)
 have cH:=cH.trans c3
 have z4:=Dt.chg0 (T:=Qf) z4 c3
 have z5:=Dt.chg0 (T:=Qf) z5 c3
 have z6:=Dt.chg0 (T:=Qt) z6 c3
 have z7:=Dt.chg0 (T:=Qt) z7 c3
 have o1:=Dt.chg0 (T:=Qx) o1 c3
 have o2:=Dt.chg0 (T:=Qi) o2 c3
 try simp [-Q5,show Qt.val n3 buf=n3.1 from rfl,VM.look,b0,ones]
 obtain ⟨n4,L4,Qka,o4,m4⟩:=Nx (frz:=H.length) u6 own z4.1.rd z4.2
 have c4:Qp G3 (G3++L4) []:=Qp.app _
 have d4:=Wa n4
 have q4:=Zt o4
 simp [-Q5,Qka,VM.look]
 generalize G3++L4=G4 at *
 have lt4:=Qf.lt o4
 have lc4:=c4.1
 have b0:=Qa b0 c4 (by simp)
 have bR:=Qa bR c4 (by simp)
 have cH:=cH.trans c4
 have z5:=Dt.chg0 (T:=Qf) z5 c4
 have z6:=Dt.chg0 (T:=Qt) z6 c4
 have z7:=Dt.chg0 (T:=Qt) z7 c4
 have o1:=Dt.chg0 (T:=Qx) o1 c4
 have o2:=Dt.chg0 (T:=Qi) o2 c4
 have o3:=Dt.chg0 (T:=Qt) o3 c4
 try simp [-Q5,VM.look,b0,ones]
 obtain ⟨n5,L5,Qke,o5,m5⟩:=Nx (frz:=H.length) u7 turn z5.1.rd z5.2
 have c5:Qp G4 (G4++L5) []:=Qp.app _
 have d5:=Wa n5
 have q5:=Zt o5
 simp [-Q5,Qke,VM.look]
 generalize G4++L5=G5 at *
 have lt5:=Qf.lt o5
 have lc5:=c5.1
 have b0:=Qa b0 c5 (by simp)
 have bR:=Qa bR c5 (by simp)
 have cH:=cH.trans c5
 have z6:=Dt.chg0 (T:=Qt) z6 c5
 have z7:=Dt.chg0 (T:=Qt) z7 c5
 have o1:=Dt.chg0 (T:=Qx) o1 c5
 have o2:=Dt.chg0 (T:=Qi) o2 c5
 have o3:=Dt.chg0 (T:=Qt) o3 c5
 have o4:=Dt.chg0 (T:=Qf) o4 c5
 try simp [-Q5,VM.look,b0,ones]
 refine Ql (Nh u8 h8 src z6.1.rd z6.2.1 z6.2.2) ?_
 rintro _ G6 ⟨n6,rfl,o6,c6,m6,d6⟩
 have q6:=Va o6
 have lt6:=Qt.lt o6
 have lc6:=c6.1
 have b0:=Qa b0 c6 (by simp)
 have bR:=Qa bR c6 (by simp)
 have cH:=cH.trans c6
 have z7:=Dt.chg0 (T:=Qt) z7 c6
 have o1:=Dt.chg0 (T:=Qx) o1 c6
 have o2:=Dt.chg0 (T:=Qi) o2 c6
 have o3:=Dt.chg0 (T:=Qt) o3 c6
 have o4:=Dt.chg0 (T:=Qf) o4 c6
 have o5:=Dt.chg0 (T:=Qf) o5 c6
 try simp [-Q5,show Qt.val n6 src=n6.1 from rfl,VM.look,b0,ones]
 refine Ql (Nh u9 h9 arr z7.1.rd z7.2.1 z7.2.2) ?_
 rintro _ G7 ⟨n7,rfl,o7,c7,m7,d7⟩
 have q7:=Va o7
 have lt7:=Qt.lt o7
 have lc7:=c7.1
 have b0:=Qa b0 c7 (by simp)
 have bR:=Qa bR c7 (by simp)
 have cH:=cH.trans c7
 have o1:=Dt.chg0 (T:=Qx) o1 c7
 have o2:=Dt.chg0 (T:=Qi) o2 c7
 have o3:=Dt.chg0 (T:=Qt) o3 c7
 have o4:=Dt.chg0 (T:=Qf) o4 c7
 have o5:=Dt.chg0 (T:=Qf) o5 c7
 have o6:=Dt.chg0 (T:=Qt) o6 c7
 have gR:=Qq (r':=⟨[.int .i64 w,.int .i64 h,n1,n2.1,n2.2,n3.1,n4,n5,n6.1,n7.1,.int .i64 tm],0,48⟩) bR
 have eR:Qp G7 (G7.set (H.length+1) ⟨[.int .i64 w,.int .i64 h,n1,n2.1,n2.2,n3.1,n4,n5,n6.1,n7.1,.int .i64 tm],0,48⟩) [H.length+1]:=Qn _ _
 have o1:=Dt.chg (T:=Qx) o1 eR (fun i hi hh=>by have:=m1 i hi;simp at hh;omega)
 have o2:=Dt.chg (T:=Qi) o2 eR (fun i hi hh=>by have:=m2 i hi;simp at hh;omega)
 have o3:=Dt.chg (T:=Qt) o3 eR (fun i hi hh=>by have:=m3 i hi;simp at hh;omega)
 have o4:=Dt.chg (T:=Qf) o4 eR (fun i hi hh=>by have:=m4 i hi;simp at hh;omega)
 have o5:=Dt.chg (T:=Qf) o5 eR (fun i hi hh=>by have:=m5 i hi;simp at hh;omega)
 have o6:=Dt.chg (T:=Qt) o6 eR (fun i hi hh=>by have:=m6 i hi;simp at hh;omega)
 have o7:=Dt.chg (T:=Qt) o7 eR (fun i hi hh=>by have:=m7 i hi;simp at hh;omega)
 have cH:=cH.trans' eR (fun i hi=>.inr (by simp at hi;omega))
 simp [show Qt.val n7 arr=n7.1 from rfl,VM.look,b0,bR,gR,hF,q1,q2,q3,q4,q5,q6,q7]
 refine ⟨(n1,n2,n3,n4,n5,n6,n7,()),rfl,⟨o1,o2,o3,o4,o5,o6,o7,trivial⟩,cH,fun i hi=>?_,?_⟩
 ·rcases List.mem_append.1 hi with hi|hi
  ·have:=m1 i hi;omega
  rcases List.mem_append.1 hi with hi|hi
  ·have:=m2 i hi;omega
  rcases List.mem_append.1 hi with hi|hi
  ·have:=m3 i hi;omega
  rcases List.mem_append.1 hi with hi|hi
  ·have:=m4 i hi;omega
  rcases List.mem_append.1 hi with hi|hi
  ·have:=m5 i hi;omega
  rcases List.mem_append.1 hi with hi|hi
  ·have:=m6 i hi;omega
  rcases List.mem_append.1 hi with hi|hi
  ·have:=m7 i hi;omega
  ·simp [Qbk] at hi
 ·have z7:(Qt.ids n7++[]).Nodup∧∀i∈Qt.ids n7++[],G6.length≤i:=⟨by simpa using d7,fun i hi=>by simp at hi;have:=m7 i hi;omega⟩
  have z6:(Qt.ids n6++(Qt.ids n7++[])).Nodup∧∀i∈Qt.ids n6++(Qt.ids n7++[]),G5.length≤i:=⟨Yr d6 z7.1 lt6 z7.2,fun i hi=>by rcases List.mem_append.1 hi with hi|hi;(have:=m6 i hi;omega);(have:=z7.2 i hi;omega)⟩
  have z5:(Qf.ids n5++(Qt.ids n6++(Qt.ids n7++[]))).Nodup∧∀i∈Qf.ids n5++(Qt.ids n6++(Qt.ids n7++[])),G4.length≤i:=⟨Yr d5 z6.1 lt5 z6.2,fun i hi=>by rcases List.mem_append.1 hi with hi|hi;(have:=m5 i hi;omega);(have:=z6.2 i hi;omega)⟩
  have z4:(Qf.ids n4++(Qf.ids n5++(Qt.ids n6++(Qt.ids n7++[])))).Nodup∧∀i∈Qf.ids n4++(Qf.ids n5++(Qt.ids n6++(Qt.ids n7++[]))),G3.length≤i:=⟨Yr d4 z5.1 lt4 z5.2,fun i hi=>by rcases List.mem_append.1 hi with hi|hi;(have:=m4 i hi;omega);(have:=z5.2 i hi;omega)⟩
  have z3:(Qt.ids n3++(Qf.ids n4++(Qf.ids n5++(Qt.ids n6++(Qt.ids n7++[]))))).Nodup∧∀i∈Qt.ids n3++(Qf.ids n4++(Qf.ids n5++(Qt.ids n6++(Qt.ids n7++[])))),G2.length≤i:=⟨Yr d3 z4.1 lt3 z4.2,fun i hi=>by rcases List.mem_append.1 hi with hi|hi;(have:=m3 i hi;omega);(have:=z4.2 i hi;omega)⟩
  have z2:(Qi.ids n2++(Qt.ids n3++(Qf.ids n4++(Qf.ids n5++(Qt.ids n6++(Qt.ids n7++[])))))).Nodup∧∀i∈Qi.ids n2++(Qt.ids n3++(Qf.ids n4++(Qf.ids n5++(Qt.ids n6++(Qt.ids n7++[]))))),G1.length≤i:=⟨Yr d2 z3.1 lt2 z3.2,fun i hi=>by rcases List.mem_append.1 hi with hi|hi;(have:=m2 i hi;omega);(have:=z3.2 i hi;omega)⟩
  exact Yr d1 z2.1 lt1 z2.2
theorem U4 {v:Wo} {x:Qu} (o:Qe.Ow H v x):wp (Qh C frz 56 [Qe.val v x] H) (Qe.Made H x):=by
 have ones:=Qr o
 obtain ⟨u2,⟨u3,u4⟩,⟨u5,h5⟩,u6,u7,⟨u8,h8⟩,⟨u9,h9⟩,_⟩:=v
 obtain ⟨⟨w,h,b⟩,⟨A,B⟩,buf,own,turn,src,arr,tm⟩:=x
 obtain ⟨y1,y2,y3,y4,y5,y6,y7,_⟩:=o
 simp only at y1 y2 y3 y4 y5 y6 y7 ones
 rw [Qk]
 rw [Qb (fn:=Tryz.f56) Tryz.func56 rfl (by kernel_rfl) rfl]
 have hF:H.length≤H.length+1:=by omega
 simp [ones]
 rw [S0 (h:=⟨by kernel_rfl,by kernel_rfl⟩)]
 obtain ⟨G0,hG0⟩:∃G,G=H++[⟨[.int .i64 w,.int .i64 h,u2,u3,u4,u5,u6,u7,u8,u9,.int .i64 tm],0,48⟩,⟨[.int .i64 0,.int .i64 0,.slice none 0 0,.slice none 0 0,.slice none 0 0,.slice none 0 0,.slice none 0 0,.slice none 0 0,.slice none 0 0,.slice none 0 0,.int .i64 0],0,48⟩]:=⟨_,rfl⟩
 have b0:G0[H.length]? = some ⟨[.int .i64 w,.int .i64 h,u2,u3,u4,u5,u6,u7,u8,u9,.int .i64 tm],0,48⟩:=by rw [hG0];simp
 have bR:G0[H.length+1]? = some ⟨[.int .i64 0,.int .i64 0,.slice none 0 0,.slice none 0 0,.slice none 0 0,.slice none 0 0,.slice none 0 0,.slice none 0 0,.slice none 0 0,.slice none 0 0,.int .i64 0],0,48⟩:=by rw [hG0];simp
 have cH:Qp H G0 []:=by rw [hG0];exact Qp.app []
 have lH:H.length+2≤G0.length:=by rw [hG0];simp
 rw [← hG0]
 clear hG0
 have z1:Qx.Ow G0 u2 (w,h,b):=Dt.chg0 y1 cH
 have z2:Qi.Ow G0 (u3,u4) (A,B):=Dt.chg0 y2 cH
 have z3:Qt.Ow G0 (u5,h5) buf:=Dt.chg0 y3 cH
 have z4:Qf.Ow G0 u6 own:=Dt.chg0 y4 cH
 have z5:Qf.Ow G0 u7 turn:=Dt.chg0 y5 cH
 have z6:Qt.Ow G0 (u8,h8) src:=Dt.chg0 y6 cH
 have z7:Qt.Ow G0 (u9,h9) arr:=Dt.chg0 y7 cH
 clear y1 y2 y3 y4 y5 y6 y7
 simp [Sd,Zi,Vs,VM.look,b0,ones]
 refine Ql (J9 w h u2 b z1.1.rd.isI z1.2) ?_
 rintro _ G1 ⟨n1,rfl,o1,c1,m1,d1⟩
 have q1:=Zs o1
 have lt1:=Qx.lt o1
 have lc1:=c1.1
 have b0:=Qa b0 c1 (by simp)
 have bR:=Qa bR c1 (by simp)
 have cH:=cH.trans c1
 have z2:=Dt.chg0 (T:=Qi) z2 c1
 have z3:=Dt.chg0 (T:=Qt) z3 c1
 have z4:=Dt.chg0 (T:=Qf) z4 c1
 have z5:=Dt.chg0 (T:=Qf) z5 c1
 have z6:=Dt.chg0 (T:=Qt) z6 c1
 have z7:=Dt.chg0 (T:=Qt) z7 c1
 try simp [-Q5,W5,VM.look,b0,ones]
 refine Ql (Kv u3 u4 A B z2.1.1.rd.isI z2.2.1.rd.isI z2.1.2 z2.2.2) ?_
 rintro _ G2 ⟨n2,rfl,o2,c2,m2,d2⟩
 have q2:=W6 o2
 have lt2:=Qi.lt o2
 have lc2:=c2.1
 have b0:=Qa b0 c2 (by simp)
 have bR:=Qa bR c2 (by simp)
 have cH:=cH.trans c2
 have z3:=Dt.chg0 (T:=Qt) z3 c2
 have z4:=Dt.chg0 (T:=Qf) z4 c2
 have z5:=Dt.chg0 (T:=Qf) z5 c2
 have z6:=Dt.chg0 (T:=Qt) z6 c2
 have z7:=Dt.chg0 (T:=Qt) z7 c2
 have o1:=Dt.chg0 (T:=Qx) o1 c2
 try simp [-Q5,Wz,VM.look,b0,ones]
 refine Ql (Lg u5 h5 buf z3.1.rd z3.2.1 z3.2.2) ?_
 rintro _ G3 ⟨n3,rfl,o3,c3,m3,d3⟩
 have q3:=Va o3
 have lt3:=Qt.lt o3
 have lc3:=c3.1
 have b0:=Qa b0 c3 (by simp)
 have bR:=Qa bR c3 (by simp)
 have cH:=cH.trans c3
 have z4:=Dt.chg0 (T:=Qf) z4 c3
 have z5:=Dt.chg0 (T:=Qf) z5 c3
 have z6:=Dt.chg0 (T:=Qt) z6 c3
 have z7:=Dt.chg0 (T:=Qt) z7 c3
 have o1:=Dt.chg0 (T:=Qx) o1 c3
 have o2:=Dt.chg0 (T:=Qi) o2 c3
 try simp [-Q5,show Qt.val n3 buf=n3.1 from rfl,VM.look,b0,ones]
 obtain ⟨n4,L4,Qka,o4,m4⟩:=Nx (frz:=H.length) u6 own z4.1.rd z4.2
 have c4:Qp G3 (G3++L4) []:=Qp.app _
 have d4:=Wa n4
 have q4:=Zt o4
 simp [-Q5,Qka,VM.look]
 generalize G3++L4=G4 at *
 have lt4:=Qf.lt o4
 have lc4:=c4.1
 have b0:=Qa b0 c4 (by simp)
 have bR:=Qa bR c4 (by simp)
 have cH:=cH.trans c4
 have z5:=Dt.chg0 (T:=Qf) z5 c4
 have z6:=Dt.chg0 (T:=Qt) z6 c4
 have z7:=Dt.chg0 (T:=Qt) z7 c4
 have o1:=Dt.chg0 (T:=Qx) o1 c4
 have o2:=Dt.chg0 (T:=Qi) o2 c4
 have o3:=Dt.chg0 (T:=Qt) o3 c4
 try simp [-Q5,VM.look,b0,ones]
 obtain ⟨n5,L5,Qke,o5,m5⟩:=Nx (frz:=H.length) u7 turn z5.1.rd z5.2
 have c5:Qp G4 (G4++L5) []:=Qp.app _
 have d5:=Wa n5
 have q5:=Zt o5
 simp [-Q5,Qke,VM.look]
 generalize G4++L5=G5 at *
 have lt5:=Qf.lt o5
 have lc5:=c5.1
 have b0:=Qa b0 c5 (by simp)
 have bR:=Qa bR c5 (by simp)
 have cH:=cH.trans c5
 have z6:=Dt.chg0 (T:=Qt) z6 c5
 have z7:=Dt.chg0 (T:=Qt) z7 c5
 have o1:=Dt.chg0 (T:=Qx) o1 c5
 have o2:=Dt.chg0 (T:=Qi) o2 c5
 have o3:=Dt.chg0 (T:=Qt) o3 c5
 have o4:=Dt.chg0 (T:=Qf) o4 c5
 try simp [-Q5,VM.look,b0,ones]
 refine Ql (Lg u8 h8 src z6.1.rd z6.2.1 z6.2.2) ?_
 rintro _ G6 ⟨n6,rfl,o6,c6,m6,d6⟩
 have q6:=Va o6
 have lt6:=Qt.lt o6
 have lc6:=c6.1
 have b0:=Qa b0 c6 (by simp)
 have bR:=Qa bR c6 (by simp)
 have cH:=cH.trans c6
 have z7:=Dt.chg0 (T:=Qt) z7 c6
 have o1:=Dt.chg0 (T:=Qx) o1 c6
 have o2:=Dt.chg0 (T:=Qi) o2 c6
 have o3:=Dt.chg0 (T:=Qt) o3 c6
 have o4:=Dt.chg0 (T:=Qf) o4 c6
 have o5:=Dt.chg0 (T:=Qf) o5 c6
 try simp [-Q5,show Qt.val n6 src=n6.1 from rfl,VM.look,b0,ones]
 refine Ql (Lg u9 h9 arr z7.1.rd z7.2.1 z7.2.2) ?_
 rintro _ G7 ⟨n7,rfl,o7,c7,m7,d7⟩
 have q7:=Va o7
 have lt7:=Qt.lt o7
 have lc7:=c7.1
 have b0:=Qa b0 c7 (by simp)
 have bR:=Qa bR c7 (by simp)
 have cH:=cH.trans c7
 have o1:=Dt.chg0 (T:=Qx) o1 c7
 have o2:=Dt.chg0 (T:=Qi) o2 c7
 have o3:=Dt.chg0 (T:=Qt) o3 c7
 have o4:=Dt.chg0 (T:=Qf) o4 c7
 have o5:=Dt.chg0 (T:=Qf) o5 c7
 have o6:=Dt.chg0 (T:=Qt) o6 c7
 have gR:=Qq (r':=⟨[.int .i64 w,.int .i64 h,n1,n2.1,n2.2,n3.1,n4,n5,n6.1,n7.1,.int .i64 tm],0,48⟩) bR
 have eR:Qp G7 (G7.set (H.length+1) ⟨[.int .i64 w,.int .i64 h,n1,n2.1,n2.2,n3.1,n4,n5,n6.1,n7.1,.int .i64 tm],0,48⟩) [H.length+1]:=Qn _ _
 have o1:=Dt.chg (T:=Qx) o1 eR (fun i hi hh=>by have:=m1 i hi;simp at hh;omega)
 have o2:=Dt.chg (T:=Qi) o2 eR (fun i hi hh=>by have:=m2 i hi;simp at hh;omega)
 have o3:=Dt.chg (T:=Qt) o3 eR (fun i hi hh=>by have:=m3 i hi;simp at hh;omega)
 have o4:=Dt.chg (T:=Qf) o4 eR (fun i hi hh=>by have:=m4 i hi;simp at hh;omega)
 have o5:=Dt.chg (T:=Qf) o5 eR (fun i hi hh=>by have:=m5 i hi;simp at hh;omega)
 have o6:=Dt.chg (T:=Qt) o6 eR (fun i hi hh=>by have:=m6 i hi;simp at hh;omega)
 have o7:=Dt.chg (T:=Qt) o7 eR (fun i hi hh=>by have:=m7 i hi;simp at hh;omega)
 have cH:=cH.trans' eR (fun i hi=>.inr (by simp at hi;omega))
 simp [show Qt.val n7 arr=n7.1 from rfl,VM.look,b0,bR,gR,hF,q1,q2,q3,q4,q5,q6,q7]
 refine ⟨(n1,n2,n3,n4,n5,n6,n7,()),rfl,⟨o1,o2,o3,o4,o5,o6,o7,trivial⟩,cH,fun i hi=>?_,?_⟩
 ·rcases List.mem_append.1 hi with hi|hi
  ·have:=m1 i hi;omega
  rcases List.mem_append.1 hi with hi|hi
  ·have:=m2 i hi;omega
  rcases List.mem_append.1 hi with hi|hi
  ·have:=m3 i hi;omega
  rcases List.mem_append.1 hi with hi|hi
  ·have:=m4 i hi;omega
  rcases List.mem_append.1 hi with hi|hi
  ·have:=m5 i hi;omega
  rcases List.mem_append.1 hi with hi|hi
  ·have:=m6 i hi;omega
  rcases List.mem_append.1 hi with hi|hi
  ·have:=m7 i hi;omega
  ·simp [Qbk] at hi
 ·have z7:(Qt.ids n7++[]).Nodup∧∀i∈Qt.ids n7++[],G6.length≤i:=⟨by simpa using d7,fun i hi=>by simp at hi;have:=m7 i hi;omega⟩
  have z6:(Qt.ids n6++(Qt.ids n7++[])).Nodup∧∀i∈Qt.ids n6++(Qt.ids n7++[]),G5.length≤i:=⟨Yr d6 z7.1 lt6 z7.2,fun i hi=>by rcases List.mem_append.1 hi with hi|hi;(have:=m6 i hi;omega);(have:=z7.2 i hi;omega)⟩
  have z5:(Qf.ids n5++(Qt.ids n6++(Qt.ids n7++[]))).Nodup∧∀i∈Qf.ids n5++(Qt.ids n6++(Qt.ids n7++[])),G4.length≤i:=⟨Yr d5 z6.1 lt5 z6.2,fun i hi=>by rcases List.mem_append.1 hi with hi|hi;(have:=m5 i hi;omega);(have:=z6.2 i hi;omega)⟩
  have z4:(Qf.ids n4++(Qf.ids n5++(Qt.ids n6++(Qt.ids n7++[])))).Nodup∧∀i∈Qf.ids n4++(Qf.ids n5++(Qt.ids n6++(Qt.ids n7++[]))),G3.length≤i:=⟨Yr d4 z5.1 lt4 z5.2,fun i hi=>by rcases List.mem_append.1 hi with hi|hi;(have:=m4 i hi;omega);(have:=z5.2 i hi;omega)⟩
  have z3:(Qt.ids n3++(Qf.ids n4++(Qf.ids n5++(Qt.ids n6++(Qt.ids n7++[]))))).Nodup∧∀i∈Qt.ids n3++(Qf.ids n4++(Qf.ids n5++(Qt.ids n6++(Qt.ids n7++[])))),G2.length≤i:=⟨Yr d3 z4.1 lt3 z4.2,fun i hi=>by rcases List.mem_append.1 hi with hi|hi;(have:=m3 i hi;omega);(have:=z4.2 i hi;omega)⟩
  have z2:(Qi.ids n2++(Qt.ids n3++(Qf.ids n4++(Qf.ids n5++(Qt.ids n6++(Qt.ids n7++[])))))).Nodup∧∀i∈Qi.ids n2++(Qt.ids n3++(Qf.ids n4++(Qf.ids n5++(Qt.ids n6++(Qt.ids n7++[]))))),G1.length≤i:=⟨Yr d2 z3.1 lt2 z3.2,fun i hi=>by rcases List.mem_append.1 hi with hi|hi;(have:=m2 i hi;omega);(have:=z3.2 i hi;omega)⟩
  exact Yr d1 z2.1 lt1 z2.2
theorem Ee {l:List Q9} {c:Int}:(l.filter fun f=>f.2.2.1=c).length=l.length↔∀f∈l,f.2.2.1=c:=by
 rw [List.length_filter_eq_length_iff];simp
theorem Mj (i:Nat):(i:Int).tmod 2=(i:Int)%2:=Int.tmod_eq_emod_of_nonneg (by omega)
theorem Vc {α:Type} {l:List α} {d:α} {i:Nat} (h:i<l.length):l.getD i d=l[i]:=by simp [List.getD_eq_getElem?_getD,h]
theorem Ue {α:Type} {l:List α} {i:Nat} (h:i<l.length) {x:α} (hx:x∈l.take (i+1)):x∈l.take i∨x=l[i]:=by
 rw [List.take_succ_eq_append_getElem h] at hx
 rcases List.mem_append.1 hx with hx|hx
 ·exact .inl hx
 ·exact .inr (List.mem_singleton.1 hx)
theorem Gh {v:Wo} {x:Qu} (o:Qe.Ow H v x):Qh C frz 76 [Qe.val v x] H=some (.bool (decide (W9 x)),H):=by
 have oo:=Qr o
 obtain ⟨u2,⟨u3,u4⟩,⟨u5,h5⟩,u6,u7,⟨u8,h8⟩,⟨u9,h9⟩,_⟩:=v
 obtain ⟨⟨w,h,b⟩,⟨A,B⟩,buf,own,turn,src,arr,tm⟩:=x
 obtain ⟨o2,o3,o5,o6,o7,o8,o9,_⟩:=o
 simp only at o2 o3 o5 o6 o7 o8 o9
 obtain ⟨p2,p3,p4,p5,p6,p7,p8,p9⟩:=oo
 simp only at p2 p3 p4 p5 p6 p7 p8 p9
 rw [Qk]
 refine wp.exact (by simp) ?_ rfl
 rw [Qb (fn:=Tryz.f76) Tryz.func76 rfl (by kernel_rfl) rfl]
 generalize hY:decide (W9 ((w,h,b),(A,B),buf,own,turn,src,arr,tm))=Y
 obtain ⟨N,hN⟩:∃N:Nat,cnt w h=N:=⟨(cnt w h).toNat,by have:=Qz w h;omega⟩
 have hN2:N≤16:=by have:=Qz w h;omega
 have w10:=@w6 (10*(N:Int)) (by omega)
 have w5:=@w6 (5*(N:Int)) (by omega)
 have cok:=fun F L=>I2 (frz:=F) (H:=H++L) w h u2 u3 u4 b A B (Rd.isI o2.1.rd.app) (Rd.isI o3.1.1.rd.app) (Rd.isI o3.2.1.rd.app) o2.2
 have ln5:=fun (L:Qd)=>(To.app (L:=L) o5.1.rd).1.len (P:=Tryz.prog) (ty:=46) (by simp)
 have ln8:=fun (L:Qd)=>(To.app (L:=L) o8.1.rd).1.len (P:=Tryz.prog) (ty:=46) (by simp)
 have ln9:=fun (L:Qd)=>(To.app (L:=L) o9.1.rd).1.len (P:=Tryz.prog) (ty:=46) (by simp)
 have ln6:=fun (L:Qd)=>(Rd.app (L:=L) o6.1.rd).len (P:=Tryz.prog) (ty:=24) (by simp)
 have ln7:=fun (L:Qd)=>(Rd.app (L:=L) o7.1.rd).len (P:=Tryz.prog) (ty:=24) (by simp)
 have hl5:=o5.1.rd.2.1
 have hl8:=o8.1.rd.2.1
 have hl9:=o9.1.rd.2.1
 have hb5:=o5.2.1
 have hb8:=o8.2.1
 simp only at ln5 ln8 ln9 ln6 ln7 hl5 hl8 hl9 hb5 hb8
 have no:¬W9 ((w,h,b),(A,B),buf,own,turn,src,arr,tm)→false=Y:=fun hh=>by rw [← hY];exact (decide_eq_false hh).symm
 have no':¬W9 ((w,h,b),(A,B),buf,own,turn,src,arr,tm)→Y=false:=fun hh=>(no hh).symm
 have ones:=And.intro p2 (And.intro p3 (And.intro p4 (And.intro p5 (And.intro p6 (And.intro p7 (And.intro p8 p9))))))
 simp [ones,Xx,hN,cok,w10,w5]
 by_cases c1:Y9 w h b A B
 rotate_left
 ·simp [c1];exact no' (fun k=>c1 k.1)
 by_cases c2:(buf.length:Int)=10*N
 rotate_left
 ·simp [c1,c2,ones,ln5,hl5,w10];exact no' (fun k=>c2 (by have:=k.2.1.1;simp only [hN] at this;exact this))
 by_cases c3:(own.length:Int)=10*N
 rotate_left
 ·simp [c1,c2,c3,ones,ln5,hl5,ln6,w10];exact no' (fun k=>c3 (by have:=k.2.1.2.1;simp only [hN] at this;exact this))
 by_cases c4:(turn.length:Int)=5*N
 rotate_left
 ·simp [c1,c2,c3,c4,ones,ln5,hl5,ln6,ln7,w10,w5];exact no' (fun k=>c4 (by have:=k.2.1.2.2.1;simp only [hN] at this;exact this))
 by_cases c5:(src.length:Int)=N
 rotate_left
 ·simp [c1,c2,c3,c4,c5,ones,ln5,hl5,ln6,ln7,ln8,hl8,w10,w5];exact no' (fun k=>c5 (by have:=k.2.1.2.2.2.1;simp only [hN] at this;exact this))
 by_cases c6:(arr.length:Int)=N
 rotate_left
 ·simp [c1,c2,c3,c4,c5,c6,ones,ln5,hl5,ln6,ln7,ln8,hl8,ln9,hl9,w10,w5];exact no' (fun k=>c6 (by have:=k.2.1.2.2.2.2;simp only [hN] at this;exact this))
 have hsz:P4 ((w,h,b),(A,B),buf,own,turn,src,arr,tm):=by unfold P4;simp only [hN];exact ⟨c2,c3,c4,c5,c6⟩
 simp [c1,c2,c3,c4,c5,c6,ones,ln5,hl5,ln6,ln7,ln8,hl8,ln9,hl9,w10,w5]
 refine Qw (fun n t H'=>∃i:Nat,n=buf.length-i∧i≤buf.length∧t 1=.pointer (some ⟨H.length,0,some 0⟩)∧t 57=u5∧t 58=.int .i64 buf.length∧t 59=.int .i64 i∧Qp H H' []∧
  H'[H.length]? = some ⟨[.int .i64 w,.int .i64 h,u2,u3,u4,u5,u6,u7,u8,u9,.int .i64 tm],0,48⟩∧∀j,j<i→Bp w h (buf.getD j []) ((j:Int)%2)) ?_ (n:=buf.length)
  ⟨0,rfl,by omega,by simp,by simp,by simp [c2],by simp,Qp.app _,by simp,by omega⟩
 rintro n t H' ⟨i,rfl,hi,t1,t57,t58,t59,ch,b0,hk⟩ ih
 simp [t1,t57,t58,t59]
 refine Qm ?_ ?_<;>intro g
 ·have hi':i<buf.length:=by omega
  have rl:=o5.1.rd.chg ch (by simp)
  obtain ⟨u,_,a2,a3,a4⟩:=Xi rl (ty:=46) (e:=145) (by simp) (by simp) hi'
  have hlen:=o5.2.2 _ (List.getElem_mem hi')
  simp only at a2 a3 a4 hlen
  have lu:=a4.len (P:=Tryz.prog) (ty:=145) (by simp)
  have hbg:buf.getD i []=buf[i]:=Vc hi'
  have bad:¬Bp w h buf[i] ((i:Int)%2)→Y=false:=fun hh=>no' (fun k=>hh (by have:=k.2.2.1 i hi';simp only [hbg] at this;exact this))
  obtain ⟨l,hl⟩:∃l,l=buf[i]:=⟨_,rfl⟩
  rw [← hl] at a4 lu hlen bad hbg
  simp [t1,t57,t58,t59,a2,a3,lu]
  by_cases g1:l.length≤3
  rotate_left
  ·have g1':(3:Int)<l.length:=by omega
   simp [g1'];exact bad (fun k=>g1 k.1)
  have g1':¬(3:Int)<l.length:=by omega
  simp [g1',t1,t57,t58,t59,Mj]
  refine Ql (Ix u l ((i:Int)%2) a4 (by omega)) ?_
  rintro r H2 ⟨orr,nr,cc⟩
  have b0:=Qa b0 cc (by simp)
  have lr:=orr.rd.len (P:=Tryz.prog) (ty:=145) (by simp)
  have lu2:=(a4.chg cc (by simp)).len (P:=Tryz.prog) (ty:=145) (by simp)
  have hfl:=Ee (l:=l) (c:=(i:Int)%2)
  generalize (l.filter fun f=>f.2.2.1=(i:Int)%2).length=q at *
  simp [t1,t57,t58,t59,lr,lu2]
  by_cases g2:q=l.length
  rotate_left
  ·have g2':¬(q:Int)=l.length:=by omega
   simp [g2'];exact bad (fun k=>g2 (hfl.2 k.2.1))
  have af:=fun F=>Fs (frz:=F) (H:=H2) w h u l (a4.chg cc (by simp)) (by omega)
  simp [g2,t1,t57,t58,t59,VM.look,b0,af]
  by_cases g3:U1 w h l
  rotate_left
  ·simp [g3];exact bad (fun k=>g3 k.2.2)
  simp [g3,t1,t57,t58,t59]
  refine ih (buf.length-(i+1)) _ _ ⟨i+1,rfl,by omega,by simp [t1],by simp [t57],by simp [t58],?_,ch.trans cc,b0,fun j hj=>?_⟩ (by omega)
  ·simp;rw [Q0 (by omega) (by omega)]
  ·by_cases hji:j<i
   ·exact hk j hji
   ·have:j=i:=by omega
    subst this
    rw [hbg];exact ⟨g1,hfl.1 g2,g3⟩
 ·have:i=buf.length:=by omega
  subst this
  clear ih
  have l8:=(o8.1.rd.chg ch (by simp)).1.len (P:=Tryz.prog) (ty:=46) (by simp)
  simp only at l8
  simp [t1,t57,t58,t59,VM.look,b0,ones,l8,hl8]
  refine Qw (fun n t H2=>∃i:Nat,n=src.length-i∧i≤src.length∧t 1=.pointer (some ⟨H.length,0,some 0⟩)∧t 87=u8∧t 88=.int .i64 src.length∧t 89=.int .i64 i∧H2=H'∧∀l∈src.take i,Bk w h l) ?_ (n:=src.length)
   ⟨0,rfl,by omega,by simp [t1],by simp,by simp,by simp,rfl,by simp⟩
  clear t1 t57 t58 t59
  rintro n t H2 ⟨i,rfl,hi,t1,t87,t88,t89,rfl,hk2⟩ ih
  simp [t1,t87,t88,t89]
  refine Qm ?_ ?_<;>intro g
  ·have hi':i<src.length:=by omega
   have rl:=o8.1.rd.chg ch (by simp)
   obtain ⟨u,_,a2,a3,a4⟩:=Xi rl (ty:=46) (e:=145) (by simp) (by simp) hi'
   have hlen:=o8.2.2 _ (List.getElem_mem hi')
   simp only at a2 a3 a4 hlen
   have lu:=a4.len (P:=Tryz.prog) (ty:=145) (by simp)
   have bad:¬Bk w h src[i]→Y=false:=fun hh=>no' (fun k=>hh (k.2.2.2.1 _ (List.getElem_mem hi')))
   have hst:=fun {x} (hx:x∈src.take (i+1))=>Ue hi' hx
   obtain ⟨l,hl⟩:∃l,l=src[i]:=⟨_,rfl⟩
   rw [← hl] at a4 lu hlen bad hst
   simp [t1,t87,t88,t89,a2,a3,lu]
   by_cases g1:l.length≤60
   rotate_left
   ·have g1':(60:Int)<l.length:=by omega
    simp [g1'];exact bad (fun k=>g1 k.1)
   have g1':¬(60:Int)<l.length:=by omega
   have af:=fun F=>Fs (frz:=F) (H:=H2) w h u l a4 (by omega)
   simp [g1',t1,t87,t88,t89,VM.look,b0,af]
   by_cases g3:U1 w h l
   rotate_left
   ·simp [g3];exact bad (fun k=>g3 k.2)
   simp [g3,t1,t87,t88,t89]
   refine ih (src.length-(i+1)) _ _ ⟨i+1,rfl,by omega,by simp [t1],by simp [t87],by simp [t88],?_,rfl,fun x hx=>?_⟩ (by omega)
   ·simp;rw [Q0 (by omega) (by omega)]
   ·rcases hst hx with hx|rfl
    ·exact hk2 x hx
    ·exact ⟨g1,g3⟩
  ·have:i=src.length:=by omega
   subst this
   rw [List.take_length] at hk2
   have ai:=fun F=>O7 (frz:=F) (H:=H2) u6 own (-1) 4 (Rd.isI (o6.1.rd.chg ch (by simp))) (by have:=o6.2;omega)
   have ai2:=fun F=>O7 (frz:=F) (H:=H2) u7 turn 0 9 (Rd.isI (o7.1.rd.chg ch (by simp))) (by have:=o7.2;omega)
   have ai3:=fun F=>Wd (frz:=F) (H:=H2) tm 0 1000000
   have hiff:W9 ((w,h,b),(A,B),buf,own,turn,src,arr,tm)↔(∀x∈own,Xa (-1) x 4)∧(∀x∈turn,Xa 0 x 9)∧Xa 0 tm 1000000:=
    ⟨fun k=>k.2.2.2.2,fun k=>⟨c1,hsz,hk,hk2,k⟩⟩
   have hY2:Y=(decide (∀x∈own,Xa (-1) x 4)&&decide (∀x∈turn,Xa 0 x 9)&&decide (Xa 0 tm 1000000)):=by
    rw [← hY,Bool.eq_iff_iff];simp only [decide_eq_true_eq,Bool.and_eq_true,and_assoc];exact hiff
   generalize decide (∀x∈own,Xa (-1) x 4)=P1 at *
   generalize decide (∀x∈turn,Xa 0 x 9)=P2 at *
   generalize decide (Xa 0 tm 1000000)=P3 at *
   simp [t1,t87,t88,t89,VM.look,b0,ones,ai,ai2,ai3,hY2]
   cases P1<;>cases P2<;>cases P3<;>simp [t1,VM.look,b0,ones,ai2,ai3]
theorem T1 {v:Wo} {x:Qu} (o:Qe.Ow H v x):Qh C frz 57 [Qe.val v x] H=some (.bool (decide (W9 x)),H):=by
 have oo:=Qr o
 obtain ⟨u2,⟨u3,u4⟩,⟨u5,h5⟩,u6,u7,⟨u8,h8⟩,⟨u9,h9⟩,_⟩:=v
 obtain ⟨⟨w,h,b⟩,⟨A,B⟩,buf,own,turn,src,arr,tm⟩:=x
 obtain ⟨o2,o3,o5,o6,o7,o8,o9,_⟩:=o
 simp only at o2 o3 o5 o6 o7 o8 o9
 obtain ⟨p2,p3,p4,p5,p6,p7,p8,p9⟩:=oo
 simp only at p2 p3 p4 p5 p6 p7 p8 p9
 rw [Qk]
 refine wp.exact (by simp) ?_ rfl
 rw [Qb (fn:=Tryz.f57) Tryz.func57 rfl (by kernel_rfl) rfl]
 generalize hY:decide (W9 ((w,h,b),(A,B),buf,own,turn,src,arr,tm))=Y
 obtain ⟨N,hN⟩:∃N:Nat,cnt w h=N:=⟨(cnt w h).toNat,by have:=Qz w h;omega⟩
 have hN2:N≤16:=by have:=Qz w h;omega
 have w10:=@w6 (10*(N:Int)) (by omega)
 have w5:=@w6 (5*(N:Int)) (by omega)
 have cok:=fun F L=>L9 (frz:=F) (H:=H++L) w h u2 u3 u4 b A B (Rd.isI o2.1.rd.app) (Rd.isI o3.1.1.rd.app) (Rd.isI o3.2.1.rd.app) o2.2
 have ln5:=fun (L:Qd)=>(To.app (L:=L) o5.1.rd).1.len (P:=Tryz.prog) (ty:=46) (by simp)
 have ln8:=fun (L:Qd)=>(To.app (L:=L) o8.1.rd).1.len (P:=Tryz.prog) (ty:=46) (by simp)
 have ln9:=fun (L:Qd)=>(To.app (L:=L) o9.1.rd).1.len (P:=Tryz.prog) (ty:=46) (by simp)
 have ln6:=fun (L:Qd)=>(Rd.app (L:=L) o6.1.rd).len (P:=Tryz.prog) (ty:=24) (by simp)
 have ln7:=fun (L:Qd)=>(Rd.app (L:=L) o7.1.rd).len (P:=Tryz.prog) (ty:=24) (by simp)
 have hl5:=o5.1.rd.2.1
 have hl8:=o8.1.rd.2.1
 have hl9:=o9.1.rd.2.1
 have hb5:=o5.2.1
 have hb8:=o8.2.1
 simp only at ln5 ln8 ln9 ln6 ln7 hl5 hl8 hl9 hb5 hb8
 have no:¬W9 ((w,h,b),(A,B),buf,own,turn,src,arr,tm)→false=Y:=fun hh=>by rw [← hY];exact (decide_eq_false hh).symm
 have no':¬W9 ((w,h,b),(A,B),buf,own,turn,src,arr,tm)→Y=false:=fun hh=>(no hh).symm
 have ones:=And.intro p2 (And.intro p3 (And.intro p4 (And.intro p5 (And.intro p6 (And.intro p7 (And.intro p8 p9))))))
 simp [ones,W8,hN,cok,w10,w5]
 by_cases c1:Y9 w h b A B
 rotate_left
 ·simp [c1];exact no' (fun k=>c1 k.1)
 by_cases c2:(buf.length:Int)=10*N
 rotate_left
 ·simp [c1,c2,ones,ln5,hl5,w10];exact no' (fun k=>c2 (by have:=k.2.1.1;simp only [hN] at this;exact this))
 by_cases c3:(own.length:Int)=10*N
 rotate_left
 ·simp [c1,c2,c3,ones,ln5,hl5,ln6,w10];exact no' (fun k=>c3 (by have:=k.2.1.2.1;simp only [hN] at this;exact this))
 by_cases c4:(turn.length:Int)=5*N
 rotate_left
 ·simp [c1,c2,c3,c4,ones,ln5,hl5,ln6,ln7,w10,w5];exact no' (fun k=>c4 (by have:=k.2.1.2.2.1;simp only [hN] at this;exact this))
 by_cases c5:(src.length:Int)=N
 rotate_left
 ·simp [c1,c2,c3,c4,c5,ones,ln5,hl5,ln6,ln7,ln8,hl8,w10,w5];exact no' (fun k=>c5 (by have:=k.2.1.2.2.2.1;simp only [hN] at this;exact this))
 by_cases c6:(arr.length:Int)=N
 rotate_left
 ·simp [c1,c2,c3,c4,c5,c6,ones,ln5,hl5,ln6,ln7,ln8,hl8,ln9,hl9,w10,w5];exact no' (fun k=>c6 (by have:=k.2.1.2.2.2.2;simp only [hN] at this;exact this))
 by_cases c7:Xa 0 tm 1000000
 rotate_left
 ·simp [c1,c2,c3,c4,c5,c6,c7,Ws,ones,ln5,hl5,ln6,ln7,ln8,hl8,ln9,hl9,w10,w5];exact no' (fun k=>c7 k.2.2.2.2.2.2)
 have hsz:P4 ((w,h,b),(A,B),buf,own,turn,src,arr,tm):=by unfold P4;simp only [hN];exact ⟨c2,c3,c4,c5,c6⟩
 simp [c1,c2,c3,c4,c5,c6,c7,Ws,ones,ln5,hl5,ln6,ln7,ln8,hl8,ln9,hl9,w10,w5]
 have hbl:buf.length=10*N:=by omega
 have hol:own.length=10*N:=by omega
 have htl:turn.length=5*N:=by omega
 have hsl:src.length=N:=by omega
 obtain ⟨G,hG⟩:∃G,G=H++[⟨[.int .i64 w,.int .i64 h,u2,u3,u4,u5,u6,u7,u8,u9,.int .i64 tm],0,48⟩]:=⟨_,rfl⟩
 rw [← hG]
 have b0:G[H.length]? = some ⟨[.int .i64 w,.int .i64 h,u2,u3,u4,u5,u6,u7,u8,u9,.int .i64 tm],0,48⟩:=by rw [hG];simp
 have ch:Qp H G []:=by rw [hG];exact Qp.app _
 clear hG
 have i6:W7 G u6 own:=Rd.isI (o6.1.rd.chg ch (by simp))
 have i7:W7 G u7 turn:=Rd.isI (o7.1.rd.chg ch (by simp))
 refine Qw (fun n t H'=>∃i:Nat,n=10*N-i∧i≤10*N∧t 1=.pointer (some ⟨H.length,0,some 0⟩)∧t 3=.int .i64 N∧t 4=.int .i64 i∧H'=G∧
  ∀j,j<i→Bp w h (buf.getD j []) ((j:Int)%2)∧Xa (-1) (own.getD j 0) 4) ?_ (n:=10*N)
  ⟨0,rfl,by omega,by simp,by simp,by simp,rfl,by omega⟩
 rintro n t H' ⟨i,rfl,hi,t1,t3,t4,rfl,hk⟩ ih
 simp [t1,t3,t4,w10]
 refine Qm ?_ ?_<;>intro g
 ·have hi':i<buf.length:=by omega
  have hio:i<own.length:=by omega
  have rl:=o5.1.rd.chg ch (by simp)
  obtain ⟨u,_,a2,a3,a4⟩:=Xi rl (ty:=46) (e:=145) (by simp) (by simp) hi'
  have hlen:=o5.2.2 _ (List.getElem_mem hi')
  simp only at a2 a3 a4 hlen
  have lu:=a4.len (P:=Tryz.prog) (ty:=145) (by simp)
  have hbg:buf.getD i []=buf[i]:=Vc hi'
  have bad:¬Bp w h buf[i] ((i:Int)%2)→Y=false:=fun hh=>no' (fun k=>hh (by have:=k.2.2.1 i hi';simp only [hbg] at this;exact this))
  obtain ⟨l,hl⟩:∃l,l=buf[i]:=⟨_,rfl⟩
  rw [← hl] at a4 lu hlen bad hbg
  have q1:=i6.idx (P:=Tryz.prog) (ty:=24) (e:=3) (by simp) (i:=(i:Int)) (by omega) (by omega)
  have q2:=i6.load (P:=Tryz.prog) (e:=3) (by simp) hio
  simp only [Int.toNat_natCast,Vc hio] at q1 q2
  simp [t1,t3,t4,VM.look,b0,ones,a2,a3,lu]
  by_cases g1:l.length≤3
  rotate_left
  ·have g1':(3:Int)<l.length:=by omega
   simp [g1'];exact bad (fun k=>g1 k.1)
  have g1':¬(3:Int)<l.length:=by omega
  have af:=fun F=>Ep (frz:=F) (H:=H') w h u l a4 (by omega)
  simp [g1',t1,t3,t4,VM.look,b0,ones,af]
  by_cases g3:U1 w h l
  rotate_left
  ·simp [g3];exact bad (fun k=>g3 k.2.2)
  simp [g3,t1,t3,t4,VM.look,b0,ones,q1,q2,Ws]
  by_cases g4:Xa (-1) own[i] 4
  rotate_left
  ·simp [g4];exact no' (fun k=>g4 (k.2.2.2.2.1 _ (List.getElem_mem hio)))
  simp [g4,t1,t3,t4]
  refine Qw (fun n t H2=>∃c:Nat,n=l.length-c∧c≤l.length∧t 1=.pointer (some ⟨H.length,0,some 0⟩)∧t 3=.int .i64 N∧t 4=.int .i64 i∧t 5=u∧t 6=.int .i64 c∧H2=H'∧∀f∈l.take c,f.2.2.1=(i:Int)%2) ?_ (n:=l.length)
   ⟨0,rfl,by omega,by simp [t1],by simp [t3],by simp [t4],by simp,by simp,rfl,by simp⟩
  clear t1 t3 t4
  rintro n t H2 ⟨c,rfl,hc,t1,t3,t4,t5,t6,rfl,hk3⟩ ih2
  simp [t1,t3,t4,t5,t6,lu]
  refine Qm ?_ ?_<;>intro g5
  ·have hc':c<l.length:=by omega
   have r1:=a4.idx (P:=Tryz.prog) (ty:=145) (e:=148) (by simp) (i:=(c:Int)) (by omega) (by omega)
   have r2:=a4.cell (P:=Tryz.prog) (e:=3) (by simp) hc' (c:=2) (by decide)
   have r3:=a4.field (P:=Tryz.prog) (s:=148) (f:=2) (o:=2) (n:=1) (ag:=false) (by simp) (j:=c*5) (by omega)
   simp only [Int.toNat_natCast,Ty,Xp] at r1 r2
   simp at r2
   simp [-Qy,Wr,t1,t3,t4,t5,t6,r1,r2,r3,Mj]
   refine Qm ?_ ?_<;>intro g6
   ·simp [t1,t3,t4,t5,t6]
    refine ih2 (l.length-(c+1)) _ _ ⟨c+1,rfl,by omega,by simp [t1],by simp [t3],by simp [t4],by simp [t5],?_,rfl,fun f hf=>?_⟩ (by omega)
    ·simp;rw [Q0 (by omega) (by omega)]
    ·rcases Ue hc' hf with hf|rfl
     ·exact hk3 f hf
     ·exact g6
   ·simp [t1,t3,t4,t5,t6]
    exact bad (fun k=>g6 (k.2.1 _ (List.getElem_mem hc')))
  ·have:c=l.length:=by omega
   subst this
   rw [List.take_length] at hk3
   simp [t1,t3,t4,t5,t6]
   refine ih (10*N-(i+1)) _ _ ⟨i+1,rfl,by omega,by simp [t1],by simp [t3],?_,rfl,fun j hj=>?_⟩ (by omega)
   ·simp;rw [Q0 (by omega) (by omega)]
   ·by_cases hji:j<i
    ·exact hk j hji
    ·have:j=i:=by omega
     subst this
     rw [hbg,Vc hio];exact ⟨⟨g1,hk3,g3⟩,g4⟩
 ·have:i=10*N:=by omega
  subst this
  clear ih
  simp [t1,t3,t4]
  refine Qw (fun n t H2=>∃i:Nat,n=5*N-i∧i≤5*N∧t 1=.pointer (some ⟨H.length,0,some 0⟩)∧t 3=.int .i64 N∧t 7=.int .i64 i∧H2=H'∧∀x∈turn.take i,Xa 0 x 9) ?_ (n:=5*N)
   ⟨0,rfl,by omega,by simp [t1],by simp [t3],by simp,rfl,by simp⟩
  clear t1 t3 t4
  rintro n t H2 ⟨i,rfl,hi,t1,t3,t7,rfl,hk2⟩ ih
  simp [t1,t3,t7,w5]
  refine Qm ?_ ?_<;>intro g
  ·have hit:i<turn.length:=by omega
   have q1:=i7.idx (P:=Tryz.prog) (ty:=24) (e:=3) (by simp) (i:=(i:Int)) (by omega) (by omega)
   have q2:=i7.load (P:=Tryz.prog) (e:=3) (by simp) hit
   simp only [Int.toNat_natCast,Vc hit] at q1 q2
   simp [t1,t3,t7,VM.look,b0,ones,q1,q2,Ws]
   by_cases g4:Xa 0 turn[i] 9
   rotate_left
   ·simp [g4];exact no' (fun k=>g4 (k.2.2.2.2.2.1 _ (List.getElem_mem hit)))
   simp [g4,t1,t3,t7]
   refine ih (5*N-(i+1)) _ _ ⟨i+1,rfl,by omega,by simp [t1],by simp [t3],?_,rfl,fun x hx=>?_⟩ (by omega)
   ·simp;rw [Q0 (by omega) (by omega)]
   ·rcases Ue hit hx with hx|rfl
    ·exact hk2 x hx
    ·exact g4
  ·have:i=5*N:=by omega
   subst this
   clear ih
   simp [t1,t3,t7]
   refine Qw (fun n t H'=>∃i:Nat,n=N-i∧i≤N∧t 1=.pointer (some ⟨H.length,0,some 0⟩)∧t 3=.int .i64 N∧t 8=.int .i64 i∧H'=H2∧∀l∈src.take i,Bk w h l) ?_ (n:=N)
    ⟨0,rfl,by omega,by simp [t1],by simp [t3],by simp,rfl,by simp⟩
   clear t1 t3 t7
   rintro n t H' ⟨i,rfl,hi,t1,t3,t8,rfl,hk4⟩ ih
   simp [t1,t3,t8]
   refine Qm ?_ ?_<;>intro g
   ·have hi':i<src.length:=by omega
    have rl:=o8.1.rd.chg ch (by simp)
    obtain ⟨u,_,a2,a3,a4⟩:=Xi rl (ty:=46) (e:=145) (by simp) (by simp) hi'
    have hlen:=o8.2.2 _ (List.getElem_mem hi')
    simp only at a2 a3 a4 hlen
    have lu:=a4.len (P:=Tryz.prog) (ty:=145) (by simp)
    have bad:¬Bk w h src[i]→Y=false:=fun hh=>no' (fun k=>hh (k.2.2.2.1 _ (List.getElem_mem hi')))
    have hst:=fun {x} (hx:x∈src.take (i+1))=>Ue hi' hx
    obtain ⟨l,hl⟩:∃l,l=src[i]:=⟨_,rfl⟩
    rw [← hl] at a4 lu hlen bad hst
    simp [t1,t3,t8]
    rw [Qv (h:=by kernel_rfl)]
    simp [t1,t3,t8,VM.look,b0,ones,a2,a3,lu]
    by_cases g1:l.length≤60
    rotate_left
    ·have g1':(60:Int)<l.length:=by omega
     simp [g1'];exact bad (fun k=>g1 k.1)
    have g1':¬(60:Int)<l.length:=by omega
    have af:=fun F=>Ep (frz:=F) (H:=H') w h u l a4 (by omega)
    simp [g1',t1,t3,t8,VM.look,b0,ones,a2,a3,af]
    by_cases g3:U1 w h l
    rotate_left
    ·simp [g3];exact bad (fun k=>g3 k.2)
    simp [g3,t1,t3,t8]
    refine ih (N-(i+1)) _ _ ⟨i+1,rfl,by omega,by simp [t1],by simp [t3],?_,rfl,fun x hx=>?_⟩ (by omega)
    ·simp;rw [Q0 (by omega) (by omega)]
    ·rcases hst hx with hx|rfl
     ·exact hk4 x hx
     ·exact ⟨g1,g3⟩
   ·have:i=N:=by omega
    subst this
    simp [t1,t3,t8]
    rw [← hsl,List.take_length] at hk4
    rw [← htl,List.take_length] at hk2
    rw [← hY]
    refine (decide_eq_true ⟨c1,hsz,fun j hj=>(hk j (by simp only at hj;omega)).1,hk4,fun x hx=>?_,hk2,c7⟩)
    obtain ⟨j,hj,rfl⟩:=List.mem_iff_getElem.1 hx
    have:=(hk j (by simp only at hj;omega)).2
    rw [Vc hj] at this;exact this
def Xo (a:X9):Nat:=ahead a a.length
theorem K8 (a:X9) (h1:a.length≤2097152) (h2:∀xs∈a,xs.length≤67108864):Xo a≤140737488355328:=by
 have:=Su a h2 a.length (Nat.le_refl _)
 unfold Xo;omega
def idle (x:Qu):Prop:=Xo x.2.2.1=0∧Xo x.2.2.2.2.2.1=0
instance (x:Qu):Decidable (idle x):=inferInstanceAs (Decidable (_∧_))
def Tm (x:Qu):Prop:=W9 x∧idle x
instance (x:Qu):Decidable (Tm x):=inferInstanceAs (Decidable (_∧_))
theorem Mb {v:I5} {a:X9} (h:Qt.Ow H v a):Qh C frz 143 [v.1] H=some (.int .i64 (Xo a),H):=by
 refine wp.exact (by simp) ?_ rfl
 rw [Qb (fn:=Tryz.f143) Tryz.func143 rfl (by kernel_rfl) rfl]
 obtain ⟨ho,h1,h2⟩:=h
 have rd:=ho.rd
 have ll:=rd.1.len (P:=Tryz.prog) (ty:=46) (by simp)
 have el:=rd.2.1
 rw [el] at ll
 simp [ll]
 refine Qw (fun m t H'=>∃i:Nat,m=a.length-i∧i≤a.length∧t 3=.int .i64 (ahead a i)∧t 6=v.1∧t 7=.int .i64 a.length∧t 8=.int .i64 i∧H'=H) ?_ (n:=a.length) ⟨0,rfl,by omega,by simp [ahead],by simp,by simp,by simp,rfl⟩
 rintro m t H' ⟨i,rfl,hi,t3,t6,t7,t8,rfl⟩ ih
 simp [t3,t6,t7,t8]
 refine Qm ?_ ?_<;>intro g
 ·have hi':i<a.length:=by omega
  obtain ⟨u,_,a2,a3,a4⟩:=Xi rd (ty:=46) (e:=145) (by simp) (by simp) hi'
  have lu:=a4.len (P:=Tryz.prog) (ty:=145) (by simp)
  have al:=Su a h2 i (by omega)
  have asx:=Rc a hi'
  have hm:=h2 _ (List.getElem_mem hi')
  have hg:a.getD i []=a[i]:=by simp [List.getD_eq_getElem?_getD,hi']
  rw [hg] at asx
  have w1:∀[Inhabited Unit],IntKind.i64.wrap ((ahead a i:Int)+(a[i].length:Int))=((ahead a (i+1):Nat):Int):=by intro _;rw [Q0 (by omega) (by omega),asx];omega
  simp [t3,t6,t7,t8,a2,a3,lu,w1]
  refine ih (a.length-(i+1)) _ _ ⟨i+1,rfl,by omega,by simp,by simp [t6],by simp [t7],?_,rfl⟩ (by omega)
  simp;rw [Q0 (by omega) (by omega)]
 ·have:i=a.length:=by omega
  subst this
  simp [t3,t6,t7,t8,Xo]
theorem xh {id:Nat} {w h tm:Int} {u2 u3 u4 u6 u7 u9:Value} {v5 v8:I5} {buf src:X9} (hr:H[id]? = some ⟨[.int .i64 w,.int .i64 h,u2,u3,u4,v5.1,u6,u7,v8.1,u9,.int .i64 tm],0,48⟩)
 (h5:Qt.Ow H v5 buf) (h8:Qt.Ow H v8 src):Qh C frz 177 [.pointer (some ⟨id,0,some 0⟩)] H=some (.bool (decide (Xo buf=0∧Xo src=0)),H):=by
 rw [Qb (fn:=Tryz.f177) Tryz.func177 rfl (by kernel_rfl) rfl]
 have e1:=fun F=>Mb (frz:=F) h5
 have e2:=fun F=>Mb (frz:=F) h8
 by_cases g:Xo buf=0
 ·simp [VM.vnil,VM.look,hr,e1,e2,g]
 ·simp [VM.vnil,VM.look,hr,e1,e2,g]
theorem ze {v:Wo} {x:Qu} (o:Qe.Ow H v x):Qh C frz 181 [Qe.val v x] H=some (.bool (decide (Tm x)),H):=by
 have nk:=fun F L=>Gh (frz:=F) (H:=H++L) (v:=v) (x:=x) (Dt.app (T:=Qe) o)
 have ones:=Qr o
 obtain ⟨u2,⟨u3,u4⟩,⟨u5,h5⟩,u6,u7,⟨u8,h8⟩,⟨u9,h9⟩,_⟩:=v
 obtain ⟨⟨w,h,b⟩,⟨A,B⟩,buf,own,turn,src,arr,tm⟩:=x
 obtain ⟨o2,o3,o5,o6,o7,o8,o9,_⟩:=o
 simp only at o2 o3 o5 o6 o7 o8 o9 ones
 rw [Qk]
 simp only [Qk] at nk
 refine wp.exact (by simp) ?_ rfl
 rw [Qb (fn:=Tryz.f181) Tryz.func181 rfl (by kernel_rfl) rfl]
 have ii:=fun F=>xh (frz:=F) (H:=H++[⟨[.int .i64 w,.int .i64 h,u2,u3,u4,u5,u6,u7,u8,u9,.int .i64 tm],0,48⟩]) (id:=H.length) (w:=w) (h:=h) (tm:=tm) (u2:=u2) (u3:=u3) (u4:=u4) (u6:=u6) (u7:=u7) (u9:=u9) (v5:=(u5,h5)) (v8:=(u8,h8)) (by simp) (Dt.app o5) (Dt.app o8)
 have hY:decide (Tm ((w,h,b),(A,B),buf,own,turn,src,arr,tm))=(decide (W9 ((w,h,b),(A,B),buf,own,turn,src,arr,tm))&&decide (Xo buf=0∧Xo src=0)):=by
  rw [Bool.eq_iff_iff,Bool.and_eq_true,decide_eq_true_eq,decide_eq_true_eq,decide_eq_true_eq];exact Iff.rfl
 generalize decide (Tm ((w,h,b),(A,B),buf,own,turn,src,arr,tm))=Y at *
 generalize decide (W9 ((w,h,b),(A,B),buf,own,turn,src,arr,tm))=P1 at *
 generalize decide (Xo buf=0∧Xo src=0)=P2 at *
 simp [ones,nk]
 cases P1<;>simp [ones,ii,hY]
theorem Ls {v:I5} {a:X9} (h:Qt.Ow H v a):Qh C frz 112 [v.1] H=some (.int .i64 (Xo a),H):=by
 refine wp.exact (by simp) ?_ rfl
 rw [Qb (fn:=Tryz.f112) Tryz.func112 rfl (by kernel_rfl) rfl]
 obtain ⟨ho,h1,h2⟩:=h
 have rd:=ho.rd
 have ll:=rd.1.len (P:=Tryz.prog) (ty:=46) (by simp)
 have el:=rd.2.1
 rw [el] at ll
 simp
 refine Qw (fun m t H'=>∃i:Nat,m=a.length-i∧i≤a.length∧t 0=v.1∧t 3=.int .i64 (ahead a i)∧t 4=.int .i64 i∧H'=H) ?_ (n:=a.length) ⟨0,rfl,by omega,by simp,by simp [ahead],by simp,rfl⟩
 rintro m t H' ⟨i,rfl,hi,t0,t3,t4,rfl⟩ ih
 simp [t0,t3,t4,ll]
 refine Qm ?_ ?_<;>intro g
 ·have hi':i<a.length:=by omega
  obtain ⟨u,_,a2,a3,a4⟩:=Xi rd (ty:=46) (e:=145) (by simp) (by simp) hi'
  have lu:=a4.len (P:=Tryz.prog) (ty:=145) (by simp)
  have al:=Su a h2 i (by omega)
  have asx:=Rc a hi'
  have hm:=h2 _ (List.getElem_mem hi')
  have hg:a.getD i []=a[i]:=by simp [List.getD_eq_getElem?_getD,hi']
  rw [hg] at asx
  have w1:∀[Inhabited Unit],IntKind.i64.wrap ((ahead a i:Int)+(a[i].length:Int))=((ahead a (i+1):Nat):Int):=by intro _;rw [Q0 (by omega) (by omega),asx];omega
  simp [t0,t3,t4,a2,a3,lu,w1]
  refine ih (a.length-(i+1)) _ _ ⟨i+1,rfl,by omega,by simp [t0],by simp,?_,rfl⟩ (by omega)
  simp;rw [Q0 (by omega) (by omega)]
 ·have:i=a.length:=by omega
  subst this
  simp [t0,t3,t4,Xo]
theorem Jm {v:Wo} {x:Qu} (o:Qe.Ow H v x):Qh C frz 113 [Qe.val v x] H=some (.bool (decide (idle x)),H):=by
 have ones:=Qr o
 obtain ⟨o2,o3,o5,o6,o7,o8,o9,_⟩:=o
 rw [Qk]
 rw [Qb (fn:=Tryz.f113) Tryz.func113 rfl (by kernel_rfl) rfl]
 have e1:=fun F L=>Ls (frz:=F) (H:=H++L) (Dt.app o5)
 have e2:=fun F L=>Ls (frz:=F) (H:=H++L) (Dt.app o8)
 have hi:idle x↔Xo x.2.2.1=0∧Xo x.2.2.2.2.2.1=0:=Iff.rfl
 by_cases g:Xo x.2.2.1=0
 ·simp [ones,e1,e2,g,hi]
 ·simp [ones,e1,e2,g,hi]
theorem Cz {v:Wo} {x:Qu} (o:Qe.Ow H v x):Qh C frz 118 [Qe.val v x] H=some (.bool (decide (Tm x)),H):=by
 have nk:=fun F L=>T1 (frz:=F) (H:=H++L) (v:=v) (x:=x) (Dt.app (T:=Qe) o)
 have ii:=fun F L=>Jm (frz:=F) (H:=H++L) (v:=v) (x:=x) (Dt.app (T:=Qe) o)
 have ones:=Qr o
 rw [Qk]
 simp only [Qk] at nk ii
 refine wp.exact (by simp) ?_ rfl
 rw [Qb (fn:=Tryz.f118) Tryz.func118 rfl (by kernel_rfl) rfl]
 have hY:decide (Tm x)=(decide (W9 x)&&decide (idle x)):=by
  rw [Bool.eq_iff_iff,Bool.and_eq_true,decide_eq_true_eq,decide_eq_true_eq,decide_eq_true_eq];exact Iff.rfl
 generalize decide (Tm x)=Y at *
 generalize decide (W9 x)=P1 at *
 generalize decide (idle x)=P2 at *
 simp [ones,nk]
 cases P1<;>simp [ones,ii,hY]
end Go.Proofs.YtlhaeingdonaeaaGreat.V
set_option linter.all false
namespace Go.Proofs.YtlhaeingdonaeaaGreat.V
open Go Go.VM Go.Proofs
set_option maxRecDepth 10000
theorem Kr {α β:Type} {f:α→β} {l:List α} (nd:(l.map f).Nodup) {i:Nat} (h:i<l.length):f l[i]∉(l.take i).map f:=fun hh=>by
 have e:(l.take i).map f++(l.drop i).map f=l.map f:=by rw [← List.map_append,List.take_append_drop]
 rw [← e] at nd
 have hm:f l[i]∈(l.drop i).map f:=List.mem_map_of_mem (by rw [List.drop_eq_getElem_cons h];exact List.mem_cons_self ..)
 exact (List.nodup_append.1 nd).2.2 _ hh _ hm rfl
theorem Qbm:∀(l:List Pi) (s:X9) (j:Nat),j∉l.map S1→(l.foldl Te s).getD j []=s.getD j []
 | [],s,j,_=>rfl
 | g::l,s,j,h=>by
  rw [List.foldl_cons,Qbm l _ j (fun hh=>h (List.mem_cons_of_mem _ hh)),Te,Vi]
  exact fun e=>h (e▸List.mem_cons_self ..)
theorem wb:∀(l:List Nat) (s:X9) (j:Nat),j∉l→(l.foldl jn s).getD j []=s.getD j []
 | [],s,j,_=>rfl
 | g::l,s,j,h=>by
  rw [List.foldl_cons,wb l _ j (fun hh=>h (List.mem_cons_of_mem _ hh)),jn,Vi]
  exact fun e=>h (e▸List.mem_cons_self ..)
theorem Qil {x:Qu} {s:X9} {g:Pi} {j:Nat} (h:s.getD j []≠[]):(Xv x s g).getD j []≠[]:=by
 unfold Xv
 split
 ·exact h
 ·by_cases e:Mf x g.1 g.2.1 (g.2.2%2)=j
  ·by_cases hl:j<s.length
   ·rw [← e] at hl ⊢;rw [O8 _ hl];simp
   ·simp [List.getD_eq_getElem?_getD,List.getElem?_eq_none (Nat.le_of_not_lt hl)] at h
  ·rw [Vi _ e];exact h
theorem Qbl (x:Qu):∀(l:List Pi) (s:X9) (j:Nat),j∉l.map S1→s.getD j []≠[]→(l.foldl (Ij x) s).getD j []≠[]
 | [],s,j,_,h=>h
 | g::l,s,j,h,hs=>by
  rw [List.foldl_cons]
  refine Qbl x l _ j (fun hh=>h (List.mem_cons_of_mem _ hh)) ?_
  refine Qil ?_
  rw [Te,Vi]
  ·exact hs
  ·exact fun e=>h (e▸List.mem_cons_self ..)
theorem Vq {x:Qu} (h:W9 x):Zq x:=by
 obtain ⟨h1,h2,h3,h4,h5,h6,h7⟩:=h
 refine ⟨h1,h2,fun j f hf=>?_,fun j f hf=>?_,h6⟩
 ·by_cases hl:j<x.2.2.1.length
  ·obtain ⟨_,k2,k3⟩:=h3 j hl
   exact ⟨k2 f hf,k3 f hf⟩
  ·simp [List.getD_eq_getElem?_getD,List.getElem?_eq_none (Nat.le_of_not_lt hl)] at hf
 ·by_cases hl:j<x.2.2.2.2.2.1.length
  ·exact (h4 _ (Km hl)).2 f hf
  ·simp [List.getD_eq_getElem?_getD,List.getElem?_eq_none (Nat.le_of_not_lt hl)] at hf
theorem Qhr {w h:Int} {b T:List Int} (k:U3 w h b T) {a c:Int} (ha:Y6 w h a) (hc:Y6 w h c):Xa 0 (Xm w h T a c) 4:=by
 obtain ⟨h1,h2⟩:=k
 have ha':=ha
 have hc':=hc
 obtain ⟨a1,a2⟩:=ha'
 obtain ⟨c1,c2⟩:=hc'
 have e1:((a.toNat:Nat):Int)=a:=by omega
 have e2:((c.toNat:Nat):Int)=c:=by omega
 obtain ⟨g1,g2⟩:=h2 a.toNat (by omega) c.toNat (by omega)
 rw [e1] at g1 g2
 rw [e2] at g2
 by_cases e:a=c
 ·subst e;rw [g1 rfl];exact ⟨by omega,by omega⟩
 ·have hw:=g2 (fun hh=>e (by omega))
  by_cases so:Dj w h b T a c
  ·exact ⟨so.1.1,by have:=so.1.2;omega⟩
  ·exfalso
   apply hw
   obtain ⟨f,hf⟩:∃f,(cnt w h).toNat=f+1:=⟨(cnt w h).toNat-1,by omega⟩
   unfold walk
   rw [hf]
   simp only [Rs]
   rw [if_neg so]
   split
   ·first|rfl|rw [if_neg e]
   ·rfl
def older (x:Qu) (k:Int):Qu:=(x.1,x.2.1,x.2.2.1,x.2.2.2.1,x.2.2.2.2.1,x.2.2.2.2.2.1,x.2.2.2.2.2.2.1,x.2.2.2.2.2.2.2+k)
theorem F0 {s:X9} (h:Xo s=0) (j:Nat):s.getD j []=[]:=by
 by_cases hl:j<s.length
 ·have:=Fe s _ (Km hl)
  unfold Xo ahead at h
  rw [List.take_length] at h
  exact List.length_eq_zero_iff.1 (by omega)
 ·simp [List.getD_eq_getElem?_getD,List.getElem?_eq_none (Nat.le_of_not_lt hl)]
theorem Qdk {x:Qu} (h:idle x):Ud x=older x 1:=by
 have e1:Wf x=[]:=List.eq_nil_iff_forall_not_mem.2 fun g hg=>Ia (Tq hg).2.2.2 (F0 h.1 _)
 have e2:Wk x=[]:=List.eq_nil_iff_forall_not_mem.2 fun k hk=>(Vo hk).2.1 (F0 h.2 _)
 unfold Ud
 rw [e1,e2]
 rfl
noncomputable def runN (x:Qu):Nat→Qu
 | 0=>x
 | k+1=>Ud (runN x k)
theorem yq {x:Qu} (h:idle x):∀k,runN x k=older x k
 | 0=>by show x=older x (0:Nat);simp [older]
 | k+1=>by
  show Ud (runN x k)=_
  rw [yq h k,Qdk (x:=older x k) h]
  show (x.1,x.2.1,x.2.2.1,x.2.2.2.1,x.2.2.2.2.1,x.2.2.2.2.2.1,x.2.2.2.2.2.2.1,x.2.2.2.2.2.2.2+(k:Int)+1)=(x.1,x.2.1,x.2.2.1,x.2.2.2.1,x.2.2.2.2.1,x.2.2.2.2.2.1,x.2.2.2.2.2.2.1,x.2.2.2.2.2.2.2+((k+1:Nat):Int))
  rw [show x.2.2.2.2.2.2.2+(k:Int)+1=x.2.2.2.2.2.2.2+((k+1:Nat):Int) by omega]
theorem A6 (x:Qu) (i:Nat):∀k,runN x (i+k)=runN (runN x i) k
 | 0=>rfl
 | k+1=>by show Ud (runN x (i+k))=Ud (runN (runN x i) k);rw [A6 x i k]
theorem Qe5 {x:Qu} (h:Zq x):∀k,Zq (runN x k)
 | 0=>h
 | k+1=>Fy (Qe5 h k)
theorem E5 {x:Qu} {L:Nat} (h1:Xf L x.2.2.1) (h2:Xf L x.2.2.2.2.2.2.1):∀k,Xf (L+96*k) (runN x k).2.2.1∧Xf (L+96*k) (runN x k).2.2.2.2.2.2.1
 | 0=>⟨h1,h2⟩
 | k+1=>by
  obtain ⟨a,b⟩:=E5 h1 h2 k
  exact Qdd (x:=runN x k) a b
theorem Gv (x:Qu):∀k:Nat,(runN x k).2.2.2.2.2.2.2=x.2.2.2.2.2.2.2+(k:Int)
 | 0=>by simp [runN]
 | k+1=>by
  show (runN x k).2.2.2.2.2.2.2+1=_
  rw [Gv x k];omega
end Go.Proofs.YtlhaeingdonaeaaGreat.V
set_option linter.all false
namespace Go.Proofs.YtlhaeingdonaeaaGreat.V
open Go Go.VM Go.Proofs
set_option maxRecDepth 10000
variable {frz:Nat} {H:Qd}
theorem Xy {α:Type} {D:Fl α} {e:TypeId} {v:Value} {xs:List α} (h:Ow D e H v xs):VM.live H v:=by
 rcases h with ⟨rfl,_⟩|⟨id,off,r,rfl,h2,_⟩
 ·trivial
 ·show VM.look H ⟨id,off,some r.gen⟩≠none
  simp [VM.look,h2]
theorem zr {hs:List Value} {k:Nat} (hk:k<hs.length) (a':Value):(hs.set k a').flatMap ids=(hs.take k).flatMap ids++(ids a'++(hs.drop (k+1)).flatMap ids):=by
 rw [List.set_eq_take_append_cons_drop,if_pos hk,List.flatMap_append,List.flatMap_cons]
theorem Qh7 {hs:List Value} {k:Nat} (hk:k<hs.length):hs.flatMap ids=(hs.take k).flatMap ids++(ids hs[k]++(hs.drop (k+1)).flatMap ids):=by
 have:=zr hk hs[k]
 rwa [List.set_getElem_self] at this
theorem Lw {α:Type} {D:Fl α} {e oe:TypeId} {H H1:Qd} {v a':Value} {hs:List Value} {xss:List (List α)} {k:Nat} {ys:List α} {frz:Nat} {et:TypeId} {ag:Bool} (h:Cp D e oe H v hs xss) (nd:(T5 v hs).Nodup) (hk:k<hs.length)
 (c:Qp H H1 (ids hs[k])) (o:Ow D e H1 a' ys) (hi:∀i∈ids a',i∈ids hs[k]∨H.length≤i) (hf:∀i∈T5 v hs,frz≤i) (he:tsz Tryz.prog et=some (ag,1)) :
 ∃H2,Zu Tryz.prog frz H1 et a' (Yi v k)=some H2∧Cp D e oe H2 v (hs.set k a') (xss.set k ys)∧Qp H H2 (T5 v hs)∧(T5 v (hs.set k a')).Nodup∧(∀i∈T5 v (hs.set k a'),i∈T5 v hs∨H.length≤i)∧H2.length=H1.length:=by
 have hlt:=h.lt
 have hfa:=Qh7 hk
 have hfs:=zr hk a'
 unfold T5 at nd hf hlt ⊢
 rw [hfa] at nd hf hlt ⊢
 rw [hfs]
 obtain ⟨n1,n2,n3⟩:=List.nodup_append.1 nd
 obtain ⟨m1,m2,m3⟩:=List.nodup_append.1 n2
 obtain ⟨p1,p2,p3⟩:=List.nodup_append.1 m2
 have dv:∀i∈ids v,i∉ids hs[k]:=fun i hi hh=>n3 i hi i (List.mem_append_right _ (List.mem_append_left _ hh)) rfl
 have o1:Ow Fl.val oe H1 v hs:=h.1.chg c dv
 have q:VM.one a'=true∧a'.cells=#[a']:=⟨o.rd.one',o.rd.cells⟩
 obtain ⟨H2,s1,s2,s3,s4⟩:=o1.put1 (P:=Tryz.prog) (frz:=frz) rfl (et:=et) (ag:=ag) he (j:=k) (x:=a') (y:=a') hk q.2 q.1 rfl (fun i hi=>hf i (List.mem_append_left _ hi))
 have hlen:∀i,i<H.length→i<H1.length:=fun i hi=>Nat.lt_of_lt_of_le hi c.1
 have dva:∀i∈ids a',i∉ids v:=fun i hi' hh=>by
  rcases hi i hi' with g|g
  ·exact dv i hh g
  ·have:=hlt i (List.mem_append_left _ hh);omega
 refine ⟨H2,s1,⟨s2,by simpa using h.2.1,fun j b zs hb hz=>?_⟩,?_,?_,fun i hi'=>?_,s4⟩
 ·by_cases hjk:k=j
  ·subst hjk
   rw [List.getElem?_set_self hk] at hb
   have hkx:k<xss.length:=h.2.1▸hk
   rw [List.getElem?_set_self hkx] at hz
   cases hb;cases hz
   exact o.chg s3 dva
  ·rw [List.getElem?_set_ne hjk] at hb hz
   have hb':=h.2.2 j b zs hb hz
   have hfl:=Pu hs (by rw [hfa];exact n2) (fun e=>hjk e.symm) hb (List.getElem?_eq_getElem hk)
   refine (hb'.chg c hfl).chg s3 (fun i hi' hh=>?_)
   have hm:i∈hs.flatMap ids:=List.mem_flatMap.2 ⟨b,List.mem_of_getElem? hb,hi'⟩
   rw [hfa] at hm
   exact n3 i hh i hm rfl
 ·exact (c.mono (fun i hi=>List.mem_append_right _ (List.mem_append_right _ (List.mem_append_left _ hi)))).trans (s3.mono (fun i hi=>List.mem_append_left _ hi))
 ·refine List.nodup_append.2 ⟨n1,List.nodup_append.2 ⟨m1,List.nodup_append.2 ⟨Wa a',p2,fun x hx y hy e=>?_⟩,fun x hx y hy e=>?_⟩,fun x hx y hy e=>?_⟩
  ·subst e
   rcases hi x hx with g|g
   ·exact p3 x g x hy rfl
   ·have:=hlt x (List.mem_append_right _ (List.mem_append_right _ (List.mem_append_right _ hy)));omega
  ·subst e
   rcases List.mem_append.1 hy with hy|hy
   ·rcases hi x hy with g|g
    ·exact m3 x hx x (List.mem_append_left _ g) rfl
    ·have:=hlt x (List.mem_append_right _ (List.mem_append_left _ hx));omega
   ·exact m3 x hx x (List.mem_append_right _ hy) rfl
  ·subst e
   rcases List.mem_append.1 hy with hy|hy
   ·exact n3 x hx x (List.mem_append_left _ hy) rfl
   ·rcases List.mem_append.1 hy with hy|hy
    ·exact dva x hy hx
    ·exact n3 x hx x (List.mem_append_right _ (List.mem_append_right _ hy)) rfl
 ·rcases List.mem_append.1 hi' with hi'|hi'
  ·exact .inl (List.mem_append_left _ hi')
  rcases List.mem_append.1 hi' with hi'|hi'
  ·exact .inl (List.mem_append_right _ (List.mem_append_left _ hi'))
  rcases List.mem_append.1 hi' with hi'|hi'
  ·rcases hi i hi' with g|g
   ·exact .inl (List.mem_append_right _ (List.mem_append_right _ (List.mem_append_left _ g)))
   ·exact .inr g
  ·exact .inl (List.mem_append_right _ (List.mem_append_right _ (List.mem_append_right _ hi')))
def Zl (w h:Int) (p:Yy):List Q9:=if Wq w h p then (List.range p.2.2.2.2.toNat).map fun i:Nat=>(p.1,p.2.2.1,p.2.2.2.1,decide ((i:Int)=0),decide ((i:Int)=p.2.2.2.2-1)) else []
theorem Qcy (w h:Int) (p:Yy) :
 wp (Qh C frz 203 [.agg #[.int .i64 w,.int .i64 h],Ja p] H) (fun r H'=>Ow Yh 148 H' r (Zl w h p)∧(∀i∈ids r,H.length≤i)∧Qp H H' []):=by
 rw [Qb (fn:=Tryz.f203) Tryz.func203 rfl (by kernel_rfl) rfl]
 have pk:=fun F H=>Dm (frz:=F) (H:=H) w h p
 obtain ⟨q1,q2,q3,q4,q5⟩:=p
 unfold Ja at pk ⊢
 simp only at pk
 have cG:Qp H (H++[⟨[.int .i64 w,.int .i64 h],0,40⟩,⟨[.int .i64 q1,.int .i64 q2,.int .i64 q3,.int .i64 q4,.int .i64 q5],0,104⟩,⟨[],0,148⟩]) []:=Qp.app _
 have o0:Ow Yh 148 (H++[⟨[.int .i64 w,.int .i64 h],0,40⟩,⟨[.int .i64 q1,.int .i64 q2,.int .i64 q3,.int .i64 q4,.int .i64 q5],0,104⟩,⟨[],0,148⟩]) (.slice (some ⟨H.length+2,0,some 0⟩) 0 0) []:=Ow.new (D:=Yh) (xs:=[]) (k:=2) rfl rfl rfl rfl
 simp [VM.look,pk]
 by_cases g:Wq w h (q1,q2,q3,q4,q5)
 rotate_left
 ·have e:Zl w h (q1,q2,q3,q4,q5)=[]:=if_neg g
  rw [e]
  simp [g]
  first|exact ⟨o0,by simp,cG⟩|exact ⟨o0,by simp,cG.2⟩|exact ⟨o0,cG⟩
 obtain ⟨n,hn⟩:∃n:Nat,q5=n:=⟨q5.toNat,by have:=g.2.2.2.2.2;unfold Xa at this;simp only at this;omega⟩
 have hn5:n≤5:=by have:=g.2.2.2.2.2;unfold Xa at this;simp only at this;omega
 subst hn
 have hfl:Zl w h (q1,q2,q3,q4,(n:Int))=(List.range n).map fun i:Nat=>(q1,q3,q4,decide ((i:Int)=0),decide ((i:Int)=(n:Int)-1)):=by
  unfold Zl;rw [if_pos g];simp only [Int.toNat_natCast]
 simp [g,VM.look]
 refine Qw (fun m t H'=>∃(i:Nat) (out:Value),m=n-i∧i≤n∧t 3=.pointer (some ⟨H.length+1,0,some 0⟩)∧t 5=out∧t 14=.int .i64 (n:Int)∧t 15=.int .i64 i∧Qp H H' []∧H'[H.length]? = some ⟨[.int .i64 w,.int .i64 h],0,40⟩∧H'[H.length+1]? = some ⟨[.int .i64 q1,.int .i64 q2,.int .i64 q3,.int .i64 q4,.int .i64 (n:Int)],0,104⟩∧Ow Yh 148 H' out ((List.range i).map fun i:Nat=>(q1,q3,q4,decide ((i:Int)=0),decide ((i:Int)=(n:Int)-1)))∧(∀j∈ids out,H.length+2≤j)) ?_ (n:=n)
  ⟨0,.slice (some ⟨H.length+2,0,some 0⟩) 0 0,rfl,by omega,by simp,by simp,by simp,by simp,cG,by simp,by simp,o0,by simp⟩
 rintro m t H' ⟨i,out,rfl,hi,t3,t5,t14,t15,ch,b0,b1,oo,no⟩ ih
 simp [t3,t5,t14,t15,VM.look,b0,b1]
 refine Qm ?_ ?_<;>intro g1
 ·
  have e5:=@w6 ((n:Int)-1) (by omega)
  obtain ⟨Bh,hBh⟩:∃B,B=decide ((i:Int)=0):=⟨_,rfl⟩
  obtain ⟨Bt,hBt⟩:∃B,B=decide ((i:Int)=(n:Int)-1):=⟨_,rfl⟩
  have z1:∀[Inhabited Unit],(decide (i=0))=Bh:=by intro _;rw [hBh];simp
  have z2:∀[Inhabited Unit],(decide ((i:Int)=(n:Int)-1))=Bt:=by intro _;rw [hBt]
  obtain ⟨r',H3,hap,o3,c3,n3⟩:=oo.push (P:=Tryz.prog) (frz:=H.length) (ty:=145) (a:=(q1,q3,q4,Bh,Bt)) (by simp) rfl (by simp;omega) (fun j hj=>by have:=no j hj;omega)
  simp only [Xp] at hap
  simp [-Q5,-Wm,t3,t5,t14,t15,VM.look,b0,b1,e5,z1,z2,hap]
  refine ih (n-(i+1)) _ _ ⟨i+1,r',rfl,by omega,by simp [t3],by simp,by simp [t14],?_,ch.trans' c3 (fun j hj=>.inr (by have:=no j hj;omega)),Qa b0 c3 (fun hh=>by have:=no _ hh;omega),Qa b1 c3 (fun hh=>by have:=no _ hh;omega),?_,fun j hj=>?_⟩ (by omega)
  ·simp [t15];rw [Q0 (by omega) (by omega)]
  ·rw [List.range_succ,List.map_append,List.map_cons,List.map_nil,← hBh,← hBt];exact o3
  ·rcases n3 j hj with h1|h1
   ·exact no j h1
   ·have:=Wj b1;omega
 ·have:i=n:=by omega
  subst this
  simp [t3,t5,t14,t15]
  exact ⟨by rw [hfl];exact oo,fun j hj=>by have:=no j hj;omega,ch⟩
theorem gu (w h:Int) (p:Yy) :
 wp (Qh C frz 189 [.agg #[.int .i64 w,.int .i64 h],Ja p] H) (fun r H'=>Ow Yh 148 H' r (Zl w h p)∧(∀i∈ids r,H.length≤i)∧Qp H H' []):=by
 rw [Qb (fn:=Tryz.f189) Tryz.func189 rfl (by kernel_rfl) rfl]
 have pk:=fun F H=>Nq (frz:=F) (H:=H) w h p
 obtain ⟨q1,q2,q3,q4,q5⟩:=p
 unfold Ja at pk ⊢
 simp only at pk
 have cG:Qp H (H++[⟨[.int .i64 w,.int .i64 h],0,40⟩,⟨[.int .i64 q1,.int .i64 q2,.int .i64 q3,.int .i64 q4,.int .i64 q5],0,104⟩,⟨[],0,148⟩]) []:=Qp.app _
 have o0:Ow Yh 148 (H++[⟨[.int .i64 w,.int .i64 h],0,40⟩,⟨[.int .i64 q1,.int .i64 q2,.int .i64 q3,.int .i64 q4,.int .i64 q5],0,104⟩,⟨[],0,148⟩]) (.slice (some ⟨H.length+2,0,some 0⟩) 0 0) []:=Ow.new (D:=Yh) (xs:=[]) (k:=2) rfl rfl rfl rfl
 simp [VM.look]
 by_cases g:Wq w h (q1,q2,q3,q4,q5)
 rotate_left
 ·have e:Zl w h (q1,q2,q3,q4,q5)=[]:=if_neg g
  rw [e]
  rw [Z4];by_cases g2:0<q5<;>simp [g,g2,VM.look,pk]
  all_goals first|exact ⟨o0,by simp,cG⟩|exact ⟨o0,by simp,cG.2⟩|exact ⟨o0,cG⟩
 obtain ⟨n,hn⟩:∃n:Nat,q5=n:=⟨q5.toNat,by have:=g.2.2.2.2.2;unfold Xa at this;simp only at this;omega⟩
 have hn5:n≤5:=by have:=g.2.2.2.2.2;unfold Xa at this;simp only at this;omega
 subst hn
 have hfl:Zl w h (q1,q2,q3,q4,(n:Int))=(List.range n).map fun i:Nat=>(q1,q3,q4,decide ((i:Int)=0),decide ((i:Int)=(n:Int)-1)):=by
  unfold Zl;rw [if_pos g];simp only [Int.toNat_natCast]
 refine Qw (fun m t H'=>∃(i:Nat) (out:Value),m=n-i∧i≤n∧t 2=.pointer (some ⟨H.length,0,some 0⟩)∧t 3=.pointer (some ⟨H.length+1,0,some 0⟩)∧t 5=out∧t 6=.int .i64 i∧Qp H H' []∧H'[H.length]? = some ⟨[.int .i64 w,.int .i64 h],0,40⟩∧H'[H.length+1]? = some ⟨[.int .i64 q1,.int .i64 q2,.int .i64 q3,.int .i64 q4,.int .i64 (n:Int)],0,104⟩∧Ow Yh 148 H' out ((List.range i).map fun i:Nat=>(q1,q3,q4,decide ((i:Int)=0),decide ((i:Int)=(n:Int)-1)))∧(∀j∈ids out,H.length+2≤j)) ?_ (n:=n)
  ⟨0,.slice (some ⟨H.length+2,0,some 0⟩) 0 0,rfl,by omega,by simp,by simp,by simp,by simp,cG,by simp,by simp,o0,by simp⟩
 rintro m t H' ⟨i,out,rfl,hi,t2,t3,t5,t6,ch,b0,b1,oo,no⟩ ih
 simp [t2,t3,t5,t6,VM.look,b0,b1]
 by_cases g1:i<n
 ·simp [t2,t3,t5,t6,g1,VM.look,b0,b1,pk,g]
  have e5:=@w6 ((n:Int)-1) (by omega)
  obtain ⟨Bh,hBh⟩:∃B,B=decide ((i:Int)=0):=⟨_,rfl⟩
  obtain ⟨Bt,hBt⟩:∃B,B=decide ((i:Int)=(n:Int)-1):=⟨_,rfl⟩
  have z1:∀[Inhabited Unit],(decide (i=0))=Bh:=by intro _;rw [hBh];simp
  have z2:∀[Inhabited Unit],(decide ((i:Int)=(n:Int)-1))=Bt:=by intro _;rw [hBt]
  obtain ⟨r',H3,hap,o3,c3,n3⟩:=oo.push (P:=Tryz.prog) (frz:=H.length) (ty:=145) (a:=(q1,q3,q4,Bh,Bt)) (by simp) rfl (by simp;omega) (fun j hj=>by have:=no j hj;omega)
  simp only [Xp] at hap
  simp [-Q5,-Wm,t2,t3,t5,t6,VM.look,b0,b1,e5,z1,z2,hap]
  refine ih (n-(i+1)) _ _ ⟨i+1,r',rfl,by omega,by simp [t2],by simp [t3],by simp,?_,ch.trans' c3 (fun j hj=>.inr (by have:=no j hj;omega)),Qa b0 c3 (fun hh=>by have:=no _ hh;omega),Qa b1 c3 (fun hh=>by have:=no _ hh;omega),?_,fun j hj=>?_⟩ (by omega)
  ·simp [t6];rw [Q0 (by omega) (by omega)]
  ·rw [List.range_succ,List.map_append,List.map_cons,List.map_nil,← hBh,← hBt];exact o3
  ·rcases n3 j hj with h1|h1
   ·exact no j h1
   ·have:=Wj b1;omega
 ·have:i=n:=by omega
  subst this
  simp [t2,t3,t5,t6,VM.look,b1]
  exact ⟨by rw [hfl];exact oo,fun j hj=>by have:=no j hj;omega,ch⟩
theorem Fo {P A S A':List Nat} {N:Nat} (nd:(P++(A++S)).Nodup) (lt:∀i∈P++(A++S),i<N) (na:A'.Nodup) (h:∀i∈A',i∈A∨N≤i):(P++(A'++S)).Nodup∧(∀i∈P++(A'++S),i∈P++(A++S)∨N≤i):=by
 obtain ⟨n1,n2,n3⟩:=List.nodup_append.1 nd
 obtain ⟨m1,m2,m3⟩:=List.nodup_append.1 n2
 refine ⟨List.nodup_append.2 ⟨n1,List.nodup_append.2 ⟨na,m2,fun a ha b hb e=>?_⟩,fun a ha b hb e=>?_⟩,fun i hi=>?_⟩
 ·subst e
  rcases h a ha with g|g
  ·exact m3 a g a hb rfl
  ·have:=lt a (List.mem_append_right _ (List.mem_append_right _ hb));omega
 ·subst e
  rcases List.mem_append.1 hb with hb|hb
  ·rcases h a hb with g|g
   ·exact n3 a ha a (List.mem_append_left _ g) rfl
   ·have:=lt a (List.mem_append_left _ ha);omega
  ·exact n3 a ha a (List.mem_append_right _ hb) rfl
 ·rcases List.mem_append.1 hi with hi|hi
  ·exact .inl (List.mem_append_left _ hi)
  rcases List.mem_append.1 hi with hi|hi
  ·rcases h i hi with g|g
   ·exact .inl (List.mem_append_right _ (List.mem_append_left _ g))
   ·exact .inr g
  ·exact .inl (List.mem_append_right _ (List.mem_append_right _ hi))
theorem Gx {P A S:List Nat} (nd:(P++(A++S)).Nodup):(∀i∈P,i∉A)∧(∀i∈S,i∉A):=by
 obtain ⟨n1,n2,n3⟩:=List.nodup_append.1 nd
 obtain ⟨m1,m2,m3⟩:=List.nodup_append.1 n2
 exact ⟨fun i hi hh=>n3 i hi i (List.mem_append_left _ hh) rfl,fun i hi hh=>m3 i hh i hi rfl⟩
def Yw (x:Qu) (s:X9):Qu:=(x.1,x.2.1,s,x.2.2.2.1,x.2.2.2.2.1,x.2.2.2.2.2.1,x.2.2.2.2.2.2.1,x.2.2.2.2.2.2.2)
def Ao (n:Wo) (u:I5):Wo:=(n.1,n.2.1,u,n.2.2.2.1,n.2.2.2.2.1,n.2.2.2.2.2.1,n.2.2.2.2.2.2.1,n.2.2.2.2.2.2.2)
theorem kt {K K':Qd} {n:Wo} {x:Qu} {u:I5} {s:X9} (on:Qe.Ow K n x) (nd:(Qe.ids n).Nodup) (c:Qp K K' (Qt.ids n.2.2.1)) (os:Qt.Ow K' u s) (na:(Qt.ids u).Nodup) (hi:∀i∈Qt.ids u,i∈Qt.ids n.2.2.1∨K.length≤i) :
 Qe.Ow K' (Ao n u) (Yw x s)∧(Qe.ids (Ao n u)).Nodup∧∀i∈Qe.ids (Ao n u),i∈Qe.ids n∨K.length≤i:=by
 have lt:=Qe.lt on
 have e:Qe.ids n=(Qx.ids n.1++Qi.ids n.2.1)++(Qt.ids n.2.2.1++(Qf.ids n.2.2.2.1++(Qf.ids n.2.2.2.2.1++(Qt.ids n.2.2.2.2.2.1++(Qt.ids n.2.2.2.2.2.2.1++[]))))):=by
  show Qx.ids n.1++(Qi.ids n.2.1++(Qt.ids n.2.2.1++(Qf.ids n.2.2.2.1++(Qf.ids n.2.2.2.2.1++(Qt.ids n.2.2.2.2.2.1++(Qt.ids n.2.2.2.2.2.2.1++[]))))))=_
  simp only [List.append_assoc]
 have e':Qe.ids (Ao n u)=(Qx.ids n.1++Qi.ids n.2.1)++(Qt.ids u++(Qf.ids n.2.2.2.1++(Qf.ids n.2.2.2.2.1++(Qt.ids n.2.2.2.2.2.1++(Qt.ids n.2.2.2.2.2.2.1++[]))))):=by
  show Qx.ids n.1++(Qi.ids n.2.1++(Qt.ids u++(Qf.ids n.2.2.2.1++(Qf.ids n.2.2.2.2.1++(Qt.ids n.2.2.2.2.2.1++(Qt.ids n.2.2.2.2.2.2.1++[]))))))=_
  simp only [List.append_assoc]
 rw [e] at nd lt ⊢
 rw [e']
 obtain ⟨m1,m2⟩:=Fo nd lt na hi
 obtain ⟨d1,d2⟩:=Gx nd
 obtain ⟨o1,o2,o3,o4,o5,o6,o7,_⟩:=on
 exact ⟨⟨Dt.chg (T:=Qx) o1 c (fun i hi=>d1 i (List.mem_append_left _ (hi))),Dt.chg (T:=Qi) o2 c (fun i hi=>d1 i (List.mem_append_right _ hi)),os,Dt.chg (T:=Qf) o4 c (fun i hi=>d2 i (List.mem_append_left _ hi)),Dt.chg (T:=Qf) o5 c (fun i hi=>d2 i (List.mem_append_right _ (List.mem_append_left _ hi))),Dt.chg (T:=Qt) o6 c (fun i hi=>d2 i (List.mem_append_right _ (List.mem_append_right _ (List.mem_append_left _ hi)))),Dt.chg (T:=Qt) o7 c (fun i hi=>d2 i (List.mem_append_right _ (List.mem_append_right _ (List.mem_append_right _ (List.mem_append_left _ hi))))),trivial⟩,m1,m2⟩
theorem Zn {n:Wo}:∀i∈Qt.ids n.2.2.1,i∈Qe.ids n:=fun i hi=>by
 show i∈Qx.ids n.1++(Qi.ids n.2.1++(Qt.ids n.2.2.1++(Qf.ids n.2.2.2.1++(Qf.ids n.2.2.2.2.1++(Qt.ids n.2.2.2.2.2.1++(Qt.ids n.2.2.2.2.2.2.1++[]))))))
 simp only [List.mem_append];right;right;left;exact hi
theorem So {n:Wo} (nd:(Qe.ids n).Nodup):(Qt.ids n.2.2.1).Nodup:=by
 have e:Qe.ids n=(Qx.ids n.1++Qi.ids n.2.1)++(Qt.ids n.2.2.1++(Qf.ids n.2.2.2.1++(Qf.ids n.2.2.2.2.1++(Qt.ids n.2.2.2.2.2.1++(Qt.ids n.2.2.2.2.2.2.1++[]))))):=by
  show Qx.ids n.1++(Qi.ids n.2.1++(Qt.ids n.2.2.1++(Qf.ids n.2.2.2.1++(Qf.ids n.2.2.2.2.1++(Qt.ids n.2.2.2.2.2.1++(Qt.ids n.2.2.2.2.2.2.1++[]))))))=_
  simp only [List.append_assoc]
 rw [e] at nd
 exact (List.nodup_append.1 (List.nodup_append.1 nd).2.1).1
def Tr (x:Qu) (s:List Int):Qu:=(x.1,x.2.1,x.2.2.1,s,x.2.2.2.2.1,x.2.2.2.2.2.1,x.2.2.2.2.2.2.1,x.2.2.2.2.2.2.2)
def Ac (n:Wo) (u:Value):Wo:=(n.1,n.2.1,n.2.2.1,u,n.2.2.2.2.1,n.2.2.2.2.2.1,n.2.2.2.2.2.2.1,n.2.2.2.2.2.2.2)
theorem my {K K':Qd} {n:Wo} {x:Qu} {u:Value} {s:List Int} (on:Qe.Ow K n x) (nd:(Qe.ids n).Nodup) (c:Qp K K' (Qf.ids n.2.2.2.1)) (os:Qf.Ow K' u s) (na:(Qf.ids u).Nodup) (hi:∀i∈Qf.ids u,i∈Qf.ids n.2.2.2.1∨K.length≤i) :
 Qe.Ow K' (Ac n u) (Tr x s)∧(Qe.ids (Ac n u)).Nodup∧∀i∈Qe.ids (Ac n u),i∈Qe.ids n∨K.length≤i:=by
 have lt:=Qe.lt on
 have e:Qe.ids n=((Qx.ids n.1++Qi.ids n.2.1)++Qt.ids n.2.2.1)++(Qf.ids n.2.2.2.1++(Qf.ids n.2.2.2.2.1++(Qt.ids n.2.2.2.2.2.1++(Qt.ids n.2.2.2.2.2.2.1++[])))):=by
  show Qx.ids n.1++(Qi.ids n.2.1++(Qt.ids n.2.2.1++(Qf.ids n.2.2.2.1++(Qf.ids n.2.2.2.2.1++(Qt.ids n.2.2.2.2.2.1++(Qt.ids n.2.2.2.2.2.2.1++[]))))))=_
  simp only [List.append_assoc]
 have e':Qe.ids (Ac n u)=((Qx.ids n.1++Qi.ids n.2.1)++Qt.ids n.2.2.1)++(Qf.ids u++(Qf.ids n.2.2.2.2.1++(Qt.ids n.2.2.2.2.2.1++(Qt.ids n.2.2.2.2.2.2.1++[])))):=by
  show Qx.ids n.1++(Qi.ids n.2.1++(Qt.ids n.2.2.1++(Qf.ids u++(Qf.ids n.2.2.2.2.1++(Qt.ids n.2.2.2.2.2.1++(Qt.ids n.2.2.2.2.2.2.1++[]))))))=_
  simp only [List.append_assoc]
 rw [e] at nd lt ⊢
 rw [e']
 obtain ⟨m1,m2⟩:=Fo nd lt na hi
 obtain ⟨d1,d2⟩:=Gx nd
 obtain ⟨o1,o2,o3,o4,o5,o6,o7,_⟩:=on
 exact ⟨⟨Dt.chg (T:=Qx) o1 c (fun i hi=>d1 i (List.mem_append_left _ (List.mem_append_left _ (hi)))),Dt.chg (T:=Qi) o2 c (fun i hi=>d1 i (List.mem_append_left _ (List.mem_append_right _ hi))),Dt.chg (T:=Qt) o3 c (fun i hi=>d1 i (List.mem_append_right _ hi)),os,Dt.chg (T:=Qf) o5 c (fun i hi=>d2 i (List.mem_append_left _ hi)),Dt.chg (T:=Qt) o6 c (fun i hi=>d2 i (List.mem_append_right _ (List.mem_append_left _ hi))),Dt.chg (T:=Qt) o7 c (fun i hi=>d2 i (List.mem_append_right _ (List.mem_append_right _ (List.mem_append_left _ hi)))),trivial⟩,m1,m2⟩
theorem J0 {n:Wo}:∀i∈Qf.ids n.2.2.2.1,i∈Qe.ids n:=fun i hi=>by
 show i∈Qx.ids n.1++(Qi.ids n.2.1++(Qt.ids n.2.2.1++(Qf.ids n.2.2.2.1++(Qf.ids n.2.2.2.2.1++(Qt.ids n.2.2.2.2.2.1++(Qt.ids n.2.2.2.2.2.2.1++[]))))))
 simp only [List.mem_append];right;right;right;left;exact hi
theorem Qdc {n:Wo} (nd:(Qe.ids n).Nodup):(Qf.ids n.2.2.2.1).Nodup:=by
 have e:Qe.ids n=((Qx.ids n.1++Qi.ids n.2.1)++Qt.ids n.2.2.1)++(Qf.ids n.2.2.2.1++(Qf.ids n.2.2.2.2.1++(Qt.ids n.2.2.2.2.2.1++(Qt.ids n.2.2.2.2.2.2.1++[])))):=by
  show Qx.ids n.1++(Qi.ids n.2.1++(Qt.ids n.2.2.1++(Qf.ids n.2.2.2.1++(Qf.ids n.2.2.2.2.1++(Qt.ids n.2.2.2.2.2.1++(Qt.ids n.2.2.2.2.2.2.1++[]))))))=_
  simp only [List.append_assoc]
 rw [e] at nd
 exact (List.nodup_append.1 (List.nodup_append.1 nd).2.1).1
def Lz (x:Qu) (s:List Int):Qu:=(x.1,x.2.1,x.2.2.1,x.2.2.2.1,s,x.2.2.2.2.2.1,x.2.2.2.2.2.2.1,x.2.2.2.2.2.2.2)
def Gk (n:Wo) (u:Value):Wo:=(n.1,n.2.1,n.2.2.1,n.2.2.2.1,u,n.2.2.2.2.2.1,n.2.2.2.2.2.2.1,n.2.2.2.2.2.2.2)
theorem kf {K K':Qd} {n:Wo} {x:Qu} {u:Value} {s:List Int} (on:Qe.Ow K n x) (nd:(Qe.ids n).Nodup) (c:Qp K K' (Qf.ids n.2.2.2.2.1)) (os:Qf.Ow K' u s) (na:(Qf.ids u).Nodup) (hi:∀i∈Qf.ids u,i∈Qf.ids n.2.2.2.2.1∨K.length≤i) :
 Qe.Ow K' (Gk n u) (Lz x s)∧(Qe.ids (Gk n u)).Nodup∧∀i∈Qe.ids (Gk n u),i∈Qe.ids n∨K.length≤i:=by
 have lt:=Qe.lt on
 have e:Qe.ids n=(((Qx.ids n.1++Qi.ids n.2.1)++Qt.ids n.2.2.1)++Qf.ids n.2.2.2.1)++(Qf.ids n.2.2.2.2.1++(Qt.ids n.2.2.2.2.2.1++(Qt.ids n.2.2.2.2.2.2.1++[]))):=by
  show Qx.ids n.1++(Qi.ids n.2.1++(Qt.ids n.2.2.1++(Qf.ids n.2.2.2.1++(Qf.ids n.2.2.2.2.1++(Qt.ids n.2.2.2.2.2.1++(Qt.ids n.2.2.2.2.2.2.1++[]))))))=_
  simp only [List.append_assoc]
 have e':Qe.ids (Gk n u)=(((Qx.ids n.1++Qi.ids n.2.1)++Qt.ids n.2.2.1)++Qf.ids n.2.2.2.1)++(Qf.ids u++(Qt.ids n.2.2.2.2.2.1++(Qt.ids n.2.2.2.2.2.2.1++[]))):=by
  show Qx.ids n.1++(Qi.ids n.2.1++(Qt.ids n.2.2.1++(Qf.ids n.2.2.2.1++(Qf.ids u++(Qt.ids n.2.2.2.2.2.1++(Qt.ids n.2.2.2.2.2.2.1++[]))))))=_
  simp only [List.append_assoc]
 rw [e] at nd lt ⊢
 rw [e']
 obtain ⟨m1,m2⟩:=Fo nd lt na hi
 obtain ⟨d1,d2⟩:=Gx nd
 obtain ⟨o1,o2,o3,o4,o5,o6,o7,_⟩:=on
 exact ⟨⟨Dt.chg (T:=Qx) o1 c (fun i hi=>d1 i (List.mem_append_left _ (List.mem_append_left _ (List.mem_append_left _ (hi))))),Dt.chg (T:=Qi) o2 c (fun i hi=>d1 i (List.mem_append_left _ (List.mem_append_left _ (List.mem_append_right _ hi)))),Dt.chg (T:=Qt) o3 c (fun i hi=>d1 i (List.mem_append_left _ (List.mem_append_right _ hi))),Dt.chg (T:=Qf) o4 c (fun i hi=>d1 i (List.mem_append_right _ hi)),os,Dt.chg (T:=Qt) o6 c (fun i hi=>d2 i (List.mem_append_left _ hi)),Dt.chg (T:=Qt) o7 c (fun i hi=>d2 i (List.mem_append_right _ (List.mem_append_left _ hi))),trivial⟩,m1,m2⟩
theorem Li {n:Wo}:∀i∈Qf.ids n.2.2.2.2.1,i∈Qe.ids n:=fun i hi=>by
 show i∈Qx.ids n.1++(Qi.ids n.2.1++(Qt.ids n.2.2.1++(Qf.ids n.2.2.2.1++(Qf.ids n.2.2.2.2.1++(Qt.ids n.2.2.2.2.2.1++(Qt.ids n.2.2.2.2.2.2.1++[]))))))
 simp only [List.mem_append];right;right;right;right;left;exact hi
theorem Qat {n:Wo} (nd:(Qe.ids n).Nodup):(Qf.ids n.2.2.2.2.1).Nodup:=by
 have e:Qe.ids n=(((Qx.ids n.1++Qi.ids n.2.1)++Qt.ids n.2.2.1)++Qf.ids n.2.2.2.1)++(Qf.ids n.2.2.2.2.1++(Qt.ids n.2.2.2.2.2.1++(Qt.ids n.2.2.2.2.2.2.1++[]))):=by
  show Qx.ids n.1++(Qi.ids n.2.1++(Qt.ids n.2.2.1++(Qf.ids n.2.2.2.1++(Qf.ids n.2.2.2.2.1++(Qt.ids n.2.2.2.2.2.1++(Qt.ids n.2.2.2.2.2.2.1++[]))))))=_
  simp only [List.append_assoc]
 rw [e] at nd
 exact (List.nodup_append.1 (List.nodup_append.1 nd).2.1).1
def Ps (x:Qu) (s:X9):Qu:=(x.1,x.2.1,x.2.2.1,x.2.2.2.1,x.2.2.2.2.1,s,x.2.2.2.2.2.2.1,x.2.2.2.2.2.2.2)
def Rb (n:Wo) (u:I5):Wo:=(n.1,n.2.1,n.2.2.1,n.2.2.2.1,n.2.2.2.2.1,u,n.2.2.2.2.2.2.1,n.2.2.2.2.2.2.2)
theorem Mv {K K':Qd} {n:Wo} {x:Qu} {u:I5} {s:X9} (on:Qe.Ow K n x) (nd:(Qe.ids n).Nodup) (c:Qp K K' (Qt.ids n.2.2.2.2.2.1)) (os:Qt.Ow K' u s) (na:(Qt.ids u).Nodup) (hi:∀i∈Qt.ids u,i∈Qt.ids n.2.2.2.2.2.1∨K.length≤i) :
 Qe.Ow K' (Rb n u) (Ps x s)∧(Qe.ids (Rb n u)).Nodup∧∀i∈Qe.ids (Rb n u),i∈Qe.ids n∨K.length≤i:=by
 have lt:=Qe.lt on
 have e:Qe.ids n=((((Qx.ids n.1++Qi.ids n.2.1)++Qt.ids n.2.2.1)++Qf.ids n.2.2.2.1)++Qf.ids n.2.2.2.2.1)++(Qt.ids n.2.2.2.2.2.1++(Qt.ids n.2.2.2.2.2.2.1++[])):=by
  show Qx.ids n.1++(Qi.ids n.2.1++(Qt.ids n.2.2.1++(Qf.ids n.2.2.2.1++(Qf.ids n.2.2.2.2.1++(Qt.ids n.2.2.2.2.2.1++(Qt.ids n.2.2.2.2.2.2.1++[]))))))=_
  simp only [List.append_assoc]
 have e':Qe.ids (Rb n u)=((((Qx.ids n.1++Qi.ids n.2.1)++Qt.ids n.2.2.1)++Qf.ids n.2.2.2.1)++Qf.ids n.2.2.2.2.1)++(Qt.ids u++(Qt.ids n.2.2.2.2.2.2.1++[])):=by
  show Qx.ids n.1++(Qi.ids n.2.1++(Qt.ids n.2.2.1++(Qf.ids n.2.2.2.1++(Qf.ids n.2.2.2.2.1++(Qt.ids u++(Qt.ids n.2.2.2.2.2.2.1++[]))))))=_
  simp only [List.append_assoc]
 rw [e] at nd lt ⊢
 rw [e']
 obtain ⟨m1,m2⟩:=Fo nd lt na hi
 obtain ⟨d1,d2⟩:=Gx nd
 obtain ⟨o1,o2,o3,o4,o5,o6,o7,_⟩:=on
 exact ⟨⟨Dt.chg (T:=Qx) o1 c (fun i hi=>d1 i (List.mem_append_left _ (List.mem_append_left _ (List.mem_append_left _ (List.mem_append_left _ (hi)))))),Dt.chg (T:=Qi) o2 c (fun i hi=>d1 i (List.mem_append_left _ (List.mem_append_left _ (List.mem_append_left _ (List.mem_append_right _ hi))))),Dt.chg (T:=Qt) o3 c (fun i hi=>d1 i (List.mem_append_left _ (List.mem_append_left _ (List.mem_append_right _ hi)))),Dt.chg (T:=Qf) o4 c (fun i hi=>d1 i (List.mem_append_left _ (List.mem_append_right _ hi))),Dt.chg (T:=Qf) o5 c (fun i hi=>d1 i (List.mem_append_right _ hi)),os,Dt.chg (T:=Qt) o7 c (fun i hi=>d2 i (List.mem_append_left _ hi)),trivial⟩,m1,m2⟩
theorem Sl {n:Wo}:∀i∈Qt.ids n.2.2.2.2.2.1,i∈Qe.ids n:=fun i hi=>by
 show i∈Qx.ids n.1++(Qi.ids n.2.1++(Qt.ids n.2.2.1++(Qf.ids n.2.2.2.1++(Qf.ids n.2.2.2.2.1++(Qt.ids n.2.2.2.2.2.1++(Qt.ids n.2.2.2.2.2.2.1++[]))))))
 simp only [List.mem_append];right;right;right;right;right;left;exact hi
theorem Je {n:Wo} (nd:(Qe.ids n).Nodup):(Qt.ids n.2.2.2.2.2.1).Nodup:=by
 have e:Qe.ids n=((((Qx.ids n.1++Qi.ids n.2.1)++Qt.ids n.2.2.1)++Qf.ids n.2.2.2.1)++Qf.ids n.2.2.2.2.1)++(Qt.ids n.2.2.2.2.2.1++(Qt.ids n.2.2.2.2.2.2.1++[])):=by
  show Qx.ids n.1++(Qi.ids n.2.1++(Qt.ids n.2.2.1++(Qf.ids n.2.2.2.1++(Qf.ids n.2.2.2.2.1++(Qt.ids n.2.2.2.2.2.1++(Qt.ids n.2.2.2.2.2.2.1++[]))))))=_
  simp only [List.append_assoc]
 rw [e] at nd
 exact (List.nodup_append.1 (List.nodup_append.1 nd).2.1).1
def Un (x:Qu) (s:X9):Qu:=(x.1,x.2.1,x.2.2.1,x.2.2.2.1,x.2.2.2.2.1,x.2.2.2.2.2.1,s,x.2.2.2.2.2.2.2)
def A7 (n:Wo) (u:I5):Wo:=(n.1,n.2.1,n.2.2.1,n.2.2.2.1,n.2.2.2.2.1,n.2.2.2.2.2.1,u,n.2.2.2.2.2.2.2)
theorem Qap {K K':Qd} {n:Wo} {x:Qu} {u:I5} {s:X9} (on:Qe.Ow K n x) (nd:(Qe.ids n).Nodup) (c:Qp K K' (Qt.ids n.2.2.2.2.2.2.1)) (os:Qt.Ow K' u s) (na:(Qt.ids u).Nodup) (hi:∀i∈Qt.ids u,i∈Qt.ids n.2.2.2.2.2.2.1∨K.length≤i) :
 Qe.Ow K' (A7 n u) (Un x s)∧(Qe.ids (A7 n u)).Nodup∧∀i∈Qe.ids (A7 n u),i∈Qe.ids n∨K.length≤i:=by
 have lt:=Qe.lt on
 have e:Qe.ids n=(((((Qx.ids n.1++Qi.ids n.2.1)++Qt.ids n.2.2.1)++Qf.ids n.2.2.2.1)++Qf.ids n.2.2.2.2.1)++Qt.ids n.2.2.2.2.2.1)++(Qt.ids n.2.2.2.2.2.2.1++[]):=by
  show Qx.ids n.1++(Qi.ids n.2.1++(Qt.ids n.2.2.1++(Qf.ids n.2.2.2.1++(Qf.ids n.2.2.2.2.1++(Qt.ids n.2.2.2.2.2.1++(Qt.ids n.2.2.2.2.2.2.1++[]))))))=_
  simp only [List.append_assoc]
 have e':Qe.ids (A7 n u)=(((((Qx.ids n.1++Qi.ids n.2.1)++Qt.ids n.2.2.1)++Qf.ids n.2.2.2.1)++Qf.ids n.2.2.2.2.1)++Qt.ids n.2.2.2.2.2.1)++(Qt.ids u++[]):=by
  show Qx.ids n.1++(Qi.ids n.2.1++(Qt.ids n.2.2.1++(Qf.ids n.2.2.2.1++(Qf.ids n.2.2.2.2.1++(Qt.ids n.2.2.2.2.2.1++(Qt.ids u++[]))))))=_
  simp only [List.append_assoc]
 rw [e] at nd lt ⊢
 rw [e']
 obtain ⟨m1,m2⟩:=Fo nd lt na hi
 obtain ⟨d1,d2⟩:=Gx nd
 obtain ⟨o1,o2,o3,o4,o5,o6,o7,_⟩:=on
 exact ⟨⟨Dt.chg (T:=Qx) o1 c (fun i hi=>d1 i (List.mem_append_left _ (List.mem_append_left _ (List.mem_append_left _ (List.mem_append_left _ (List.mem_append_left _ (hi))))))),Dt.chg (T:=Qi) o2 c (fun i hi=>d1 i (List.mem_append_left _ (List.mem_append_left _ (List.mem_append_left _ (List.mem_append_left _ (List.mem_append_right _ hi)))))),Dt.chg (T:=Qt) o3 c (fun i hi=>d1 i (List.mem_append_left _ (List.mem_append_left _ (List.mem_append_left _ (List.mem_append_right _ hi))))),Dt.chg (T:=Qf) o4 c (fun i hi=>d1 i (List.mem_append_left _ (List.mem_append_left _ (List.mem_append_right _ hi)))),Dt.chg (T:=Qf) o5 c (fun i hi=>d1 i (List.mem_append_left _ (List.mem_append_right _ hi))),Dt.chg (T:=Qt) o6 c (fun i hi=>d1 i (List.mem_append_right _ hi)),os,trivial⟩,m1,m2⟩
theorem Pf {n:Wo}:∀i∈Qt.ids n.2.2.2.2.2.2.1,i∈Qe.ids n:=fun i hi=>by
 show i∈Qx.ids n.1++(Qi.ids n.2.1++(Qt.ids n.2.2.1++(Qf.ids n.2.2.2.1++(Qf.ids n.2.2.2.2.1++(Qt.ids n.2.2.2.2.2.1++(Qt.ids n.2.2.2.2.2.2.1++[]))))))
 simp only [List.mem_append];right;right;right;right;right;right;left;exact hi
theorem Bl {n:Wo} (nd:(Qe.ids n).Nodup):(Qt.ids n.2.2.2.2.2.2.1).Nodup:=by
 have e:Qe.ids n=(((((Qx.ids n.1++Qi.ids n.2.1)++Qt.ids n.2.2.1)++Qf.ids n.2.2.2.1)++Qf.ids n.2.2.2.2.1)++Qt.ids n.2.2.2.2.2.1)++(Qt.ids n.2.2.2.2.2.2.1++[]):=by
  show Qx.ids n.1++(Qi.ids n.2.1++(Qt.ids n.2.2.1++(Qf.ids n.2.2.2.1++(Qf.ids n.2.2.2.2.1++(Qt.ids n.2.2.2.2.2.1++(Qt.ids n.2.2.2.2.2.2.1++[]))))))=_
  simp only [List.append_assoc]
 rw [e] at nd
 exact (List.nodup_append.1 (List.nodup_append.1 nd).2.1).1
def U2 (x:Qu) (p:Yy):Qu:=Ps x (x.2.2.2.2.2.1.set p.2.1.toNat (x.2.2.2.2.2.1.getD p.2.1.toNat []++Zl x.1.1 x.1.2.1 p))
theorem F7 {K:Qd} {u:Value} {hs:List Value} {xss:X9} {k:Nat} {ys:List Q9} (h:Cp Yh 148 145 K u hs (xss.set k ys)) (h1:xss.length≤2097152) (h2:∀xs∈xss,xs.length≤67108864) (h3:ys.length≤67108864):Qt.Ow K (u,hs) (xss.set k ys):=
 ⟨h,by simpa using h1,fun xs hx=>by
  rcases List.mem_or_eq_of_mem_set hx with hx|rfl
  ·exact h2 xs hx
  ·exact h3⟩
theorem yh (w h:Int) (p:Yy):(Zl w h p).length≤5:=by
 unfold Zl;split
 ·rename_i g
  have:=g.2.2.2.2.2;unfold Xa at this;simp;omega
 ·simp
theorem Qak {v:Wo} {x:Qu} {p:Yy} {m:Nat} (o:Qe.Ow H v x) (hm:p.2.1=m) (hml:m<x.2.2.2.2.2.1.length) (hs:(x.2.2.2.2.2.1[m]).length≤60) :
 wp (Qh C frz 159 [Qe.val v x,Ja p] H) (Qe.Made H (U2 x p)):=by
 have ones:=Qr o
 have ecopy:=fun L=>U4 (frz:=H.length) (H:=H++L) (v:=v) (x:=x) (Dt.app (T:=Qe) o)
 have fo:=fun F H=>gu (frz:=F) (H:=H) x.1.1 x.1.2.1 p
 obtain ⟨q1,q2,q3,q4,q5⟩:=p
 simp only at hm
 subst hm
 unfold Ja at fo ⊢
 simp only [Qk] at ecopy ⊢
 rw [Qb (fn:=Tryz.f159) Tryz.func159 rfl (by kernel_rfl) rfl]
 simp only at fo
 simp [ones]
 refine Ql (ecopy _) ?_
 rintro _ K ⟨n,rfl,on,cn,mn,dn⟩
 simp at mn
 have qn:=Qr on
 have lK:=cn.1
 simp at lK
 simp [Qk,qn,VM.look]
 have hF:H.length≤K.length:=by omega
 simp [hF]
 obtain ⟨K1,hK1⟩:∃K1,K1=K++[⟨[.int .i64 x.1.1,.int .i64 x.1.2.1,n.1,n.2.1.1,n.2.1.2,n.2.2.1.1,n.2.2.2.1,n.2.2.2.2.1,n.2.2.2.2.2.1.1,n.2.2.2.2.2.2.1.1,.int .i64 x.2.2.2.2.2.2.2],0,48⟩]:=⟨_,rfl⟩
 rw [← hK1]
 have cH:Qp H K []:=(Qp.app _).trans cn
 have c1:Qp K K1 []:=by rw [hK1];exact Qp.app _
 have l1:K1.length=K.length+1:=by rw [hK1];simp
 have b2:K1[H.length]? = some ⟨[.int .i64 x.1.1,.int .i64 x.1.2.1,v.1,v.2.1.1,v.2.1.2,v.2.2.1.1,v.2.2.2.1,v.2.2.2.2.1,v.2.2.2.2.2.1.1,v.2.2.2.2.2.2.1.1,.int .i64 x.2.2.2.2.2.2.2],0,48⟩:=Qa (Qa (by simp) cn (by simp)) c1 (by simp)
 have b3:K1[H.length+1]? = some ⟨[.int .i64 q1,.int .i64 m,.int .i64 q3,.int .i64 q4,.int .i64 q5],0,104⟩:=Qa (Qa (by simp) cn (by simp)) c1 (by simp)
 have bR:K1[H.length+2]? = some ⟨[.int .i64 0,.int .i64 0,.slice none 0 0,.slice none 0 0,.slice none 0 0,.slice none 0 0,.slice none 0 0,.slice none 0 0,.slice none 0 0,.slice none 0 0,.int .i64 0],0,48⟩:=Qa (Qa (by simp) cn (by simp)) c1 (by simp)
 have b5:K1[K.length]? = some ⟨[.int .i64 x.1.1,.int .i64 x.1.2.1,n.1,n.2.1.1,n.2.1.2,n.2.2.1.1,n.2.2.2.1,n.2.2.2.2.1,n.2.2.2.2.2.1.1,n.2.2.2.2.2.2.1.1,.int .i64 x.2.2.2.2.2.2.2],0,48⟩:=by rw [hK1];simp
 have on1:=Dt.chg (T:=Qe) on c1 (by simp)
 clear hK1
 obtain ⟨o1,o2,o3,o4,o5,o6,o7,_⟩:=on1
 obtain ⟨a,a1,a2,a3,a4⟩:=Xi o6.1.rd (ty:=46) (e:=145) (by simp) (by simp) hml
 rw [V8 (fl:=([1,3],[17])) (h:=⟨by kernel_rfl,by kernel_rfl,by kernel_rfl,by kernel_rfl⟩)]
 have lv:=fun H=>@Xy H
 have liv:=Xy o6.1.1
 have qa:VM.one a=true∧a.cells=#[a]:=⟨a4.one',a4.cells⟩
 simp [Sd,Zi,Vs,VM.look,b2,b3,b5,a2,a3,qn,liv]
 refine Qa5 (fo _ _) ?_
 rintro y K2 ⟨oy,ny,c2⟩
 have b2:=Qa b2 c2 (by simp)
 have b3:=Qa b3 c2 (by simp)
 have bR:=Qa bR c2 (by simp)
 have b5:=Qa b5 c2 (by simp)
 have o1:=Dt.chg (T:=Qx) o1 c2 (by simp)
 have o2:=Dt.chg (T:=Qi) o2 c2 (by simp)
 have o3:=Dt.chg (T:=Qt) o3 c2 (by simp)
 have o4:=Dt.chg (T:=Qf) o4 c2 (by simp)
 have o5:=Dt.chg (T:=Qf) o5 c2 (by simp)
 have o6:=Dt.chg (T:=Qt) o6 c2 (by simp)
 have o7:=Dt.chg (T:=Qt) o7 c2 (by simp)
 have Q1u:=Xy o6.1.1
 refine ⟨by simp [VM.look,b3,b5,qn,Q1u],?_⟩
 have hml':m<n.2.2.2.2.2.1.2.length:=by rw [o6.1.2.1];exact hml
 have ea:n.2.2.2.2.2.1.2[m]=a:=by rw [List.getElem?_eq_getElem hml'] at a1;exact Option.some.inj a1
 have oa:Ow Yh 148 K2 a x.2.2.2.2.2.1[m]:=o6.1.2.2 m a _ a1 (by simp [hml])
 have h6:∀i∈Qt.ids n.2.2.2.2.2.1,i∈Qe.ids n:=fun i hi=>List.mem_append_right _ (List.mem_append_right _ (List.mem_append_right _ (List.mem_append_right _ (List.mem_append_right _ (List.mem_append_left _ hi)))))
 have ha6:∀i∈ids a,i∈Qt.ids n.2.2.2.2.2.1:=fun i hi=>Up a1 hi
 have nd6:(Qt.ids n.2.2.2.2.2.1).Nodup:=by
  have:=(List.nodup_append.1 ((List.nodup_append.1 ((List.nodup_append.1 ((List.nodup_append.1 ((List.nodup_append.1 ((List.nodup_append.1 dn).2.1)).2.1)).2.1)).2.1)).2.1)).1
  exact this
 have hfl:=yh x.1.1 x.1.2.1 (q1,m,q3,q4,q5)
 obtain ⟨a',K3,hap,oa',c3,na'⟩:=oa.append (P:=Tryz.prog) (frz:=H.length) (ty:=145) oy.rd (by simp) (Re _) (by omega) (fun i hi=>by have:=mn i (h6 i (ha6 i hi));omega)
 have c3':Qp K2 K3 (ids n.2.2.2.2.2.1.2[m]):=by rw [ea];exact c3
 obtain ⟨K4,hst,oL,c4,ndL,idL,l4⟩:=Lw (frz:=H.length) (et:=145) (ag:=false) o6.1 nd6 hml' c3' oa' (by rw [ea];exact na') (fun i hi=>by have:=mn i (h6 i hi);omega) (by simp)
 have lt6:∀i∈Qt.ids n.2.2.2.2.2.1,i<K.length:=fun i hi=>Qe.lt on i (h6 i hi)
 have ida:∀i∈ids a,H.length+3≤i∧i<K.length:=fun i hi=>⟨by have:=mn i (h6 i (ha6 i hi));omega,lt6 i (ha6 i hi)⟩
 have b33:=Qa b3 c3 (fun hh=>by have:=ida _ hh;omega)
 have b35:=Qa b5 c3 (fun hh=>by have:=ida _ hh;omega)
 have dav:∀i∈ids n.2.2.2.2.2.1.1,i∉ids a:=fun i hi hh=>(List.nodup_append.1 nd6).2.2 i hi i (List.mem_flatMap.2 ⟨a,List.mem_of_getElem? a1,hh⟩) rfl
 have ol3:=o6.1.1.chg c3 dav
 have Qkv:=Xy ol3
 have hsl:=o6.1.2.1
 have ix3:=ol3.rd.idx (P:=Tryz.prog) (ty:=46) (e:=145) (by simp) (i:=(m:Int)) (by omega) (by omega)
 have i6:∀i∈T5 n.2.2.2.2.2.1.1 n.2.2.2.2.2.1.2,H.length+3≤i∧i<K.length:=fun i hi=>⟨by have:=mn i (h6 i hi);omega,lt6 i hi⟩
 have b43:=Qa b3 c4 (fun hh=>by have:=i6 _ hh;omega)
 have b45:=Qa b5 c4 (fun hh=>by have:=i6 _ hh;omega)
 have b4R:=Qa bR c4 (fun hh=>by have:=i6 _ hh;omega)
 have Qkn:=Xy oL.1
 have qa':VM.one a'=true∧a'.cells=#[a']:=⟨oa'.rd.one',oa'.rd.cells⟩
 simp only [Int.toNat_natCast,Nat.mul_one,show Fl.val.n=1 from rfl] at ix3
 have gR:=Qq (r':=⟨[.int .i64 x.1.1,.int .i64 x.1.2.1,n.1,n.2.1.1,n.2.1.2,n.2.2.1.1,n.2.2.2.1,n.2.2.2.2.1,n.2.2.2.2.2.1.1,n.2.2.2.2.2.2.1.1,.int .i64 x.2.2.2.2.2.2.2],0,48⟩) b4R
 have hF2:H.length≤H.length+2:=by omega
 simp [-Q5,-Wm,VM.look,hap,hst,b33,b35,ix3,Qkv,b43,b45,Qkn,qn,qa',b4R,gR,hF2]
 have e:U2 x (q1,m,q3,q4,q5)=Ps x (x.2.2.2.2.2.1.set m (x.2.2.2.2.2.1[m]++Zl x.1.1 x.1.2.1 (q1,m,q3,q4,q5))):=by
  unfold U2
  simp only [Int.toNat_natCast,List.getD_eq_getElem?_getD,List.getElem?_eq_getElem hml,Option.getD_some]
 rw [e]
 have on2:Qe.Ow K2 n x:=⟨o1,o2,o3,o4,o5,o6,o7,trivial⟩
 have l2:=c2.1
 obtain ⟨p1,p2,p3⟩:=Mv (u:=(n.2.2.2.2.2.1.1,n.2.2.2.2.2.1.2.set m a')) on2 dn c4 (F7 oL o6.2.1 o6.2.2 (by simp;omega)) ndL idL
 have eR:Qp K4 (K4.set (H.length+2) ⟨[.int .i64 x.1.1,.int .i64 x.1.2.1,n.1,n.2.1.1,n.2.1.2,n.2.2.1.1,n.2.2.2.1,n.2.2.2.2.1,n.2.2.2.2.2.1.1,n.2.2.2.2.2.2.1.1,.int .i64 x.2.2.2.2.2.2.2],0,48⟩) [H.length+2]:=Qn _ _
 have pm:∀i∈Qe.ids (Rb n (n.2.2.2.2.2.1.1,n.2.2.2.2.2.1.2.set m a')),H.length+3≤i:=fun i hi=>by
  rcases p3 i hi with g|g
  ·have:=mn i g;omega
  ·omega
 refine ⟨Rb n (n.2.2.2.2.2.1.1,n.2.2.2.2.2.1.2.set m a'),rfl,Dt.chg (T:=Qe) p1 eR (fun i hi hh=>by have:=pm i hi;simp at hh;omega),?_,fun i hi=>by have:=pm i hi;omega,p2⟩
 exact (((cH.trans c1).trans c2).trans' c4 (fun i hi=>.inr (by have:=i6 i hi;omega))).trans' eR (fun i hi=>.inr (by simp at hi;omega))
def Qc (v:Wo) (x:Qu):List Value:=[.int .i64 x.1.1,.int .i64 x.1.2.1,v.1,v.2.1.1,v.2.1.2,v.2.2.1.1,v.2.2.2.1,v.2.2.2.2.1,v.2.2.2.2.2.1.1,v.2.2.2.2.2.2.1.1,.int .i64 x.2.2.2.2.2.2.2]
def Ym (x:Qu) (p:Yy):Prop:=Wq x.1.1 x.1.2.1 p∧((x.2.2.2.2.2.1.getD p.2.1.toNat []).length:Int)+p.2.2.2.2≤60
instance (x:Qu) (p:Yy):Decidable (Ym x p):=inferInstanceAs (Decidable (_∧_))
theorem mj {w h:Int} {p:Yy} (g:Wq w h p):((Zl w h p).length:Int)=p.2.2.2.2:=by
 unfold Zl;rw [if_pos g]
 have:=g.2.2.2.2.2;unfold Xa at this;simp;omega
theorem nq {w h:Int} {p:Yy} (g:¬Wq w h p):Zl w h p=[]:=if_neg g
theorem Qkg {v:Wo} {x:Qu} {p:Yy} {id:Nat} {e:TypeId} {tail:List Value} (hr:H[id]? = some ⟨Qc v x++tail,0,e⟩) (o:Qe.Ow H v x) (nd:(Qe.ids v).Nodup) (hf:∀i∈Qe.ids v,frz≤i) (hid:id∉Qe.ids v) (hN:(x.2.2.2.2.2.1.length:Int)=cnt x.1.1 x.1.2.1) (hs:∀l∈x.2.2.2.2.2.1,l.length≤60) :
 wp (Qh C frz 174 [.pointer (some ⟨id,0,some 0⟩),Ja p] H) (fun r H'=>r=.bool (decide (Ym x p))∧
  if Ym x p then ∃hs':List Value,Qe.Ow H' (Rb v (v.2.2.2.2.2.1.1,hs')) (U2 x p)∧(Qe.ids (Rb v (v.2.2.2.2.2.1.1,hs'))).Nodup∧(∀i∈Qe.ids (Rb v (v.2.2.2.2.2.1.1,hs')),i∈Qe.ids v∨H.length≤i)∧Qp H H' (Qt.ids v.2.2.2.2.2.1) else Qp H H' []):=by
 have ones:=Qr o
 have fo:=fun F H=>Qcy (frz:=F) (H:=H) x.1.1 x.1.2.1 p
 rw [Qb (fn:=Tryz.f174) Tryz.func174 rfl (by kernel_rfl) rfl]
 have hlt:=Wj hr
 unfold Qc at hr
 simp only [List.cons_append,List.nil_append] at hr
 obtain ⟨q1,q2,q3,q4,q5⟩:=p
 unfold Ja at fo ⊢
 simp only at fo
 have hr1:=fun r=>Qj hr [r]
 simp
 rw [Qv (h:=by kernel_rfl)]
 simp [VM.look,VM.vnil,hr1]
 refine Ql (fo _ _) ?_
 rintro y K ⟨oy,ny,c1⟩
 have hr2:=Qa (hr1 _) c1 (by simp)
 have b3:K[H.length]? = some ⟨[.int .i64 q1,.int .i64 q2,.int .i64 q3,.int .i64 q4,.int .i64 q5],0,104⟩:=Qa (by simp) c1 (by simp)
 have cH:Qp H K []:=(Qp.app _).trans c1
 have on:=Dt.chg (T:=Qe) o cH (by simp)
 have ly:=oy.rd.len (P:=Tryz.prog) (ty:=145) (by simp)
 simp
 rw [Qv (h:=by kernel_rfl)]
 by_cases g0:Wq x.1.1 x.1.2.1 (q1,q2,q3,q4,q5)
 rotate_left
 ·have hso:¬Ym x (q1,q2,q3,q4,q5):=fun k=>g0 k.1
  rw [nq g0] at ly
  simp [ly,hso]
  exact cH
 have hfl:=mj g0
 have hto:=g0.2.1
 unfold Y6 at hto
 simp only at hfl hto
 obtain ⟨m,rfl⟩:∃m:Nat,q2=m:=⟨q2.toNat,by omega⟩
 have hml:m<x.2.2.2.2.2.1.length:=by omega
 have hgd:x.2.2.2.2.2.1.getD m []=x.2.2.2.2.2.1[m]:=by simp [List.getD_eq_getElem?_getD,List.getElem?_eq_getElem hml]
 have hsm:=hs _ (List.getElem_mem hml)
 have hln:=g0.2.2.2.2.2
 unfold Xa at hln
 simp only at hln
 have hfn:¬q5=0:=by omega
 obtain ⟨o1,o2,o3,o4,o5,o6,o7,_⟩:=on
 obtain ⟨a,a1,a2,a3,a4⟩:=Xi o6.1.rd (ty:=46) (e:=145) (by simp) (by simp) hml
 have la:=a4.len (P:=Tryz.prog) (ty:=145) (by simp)
 have e1:=@w6 ((x.2.2.2.2.2.1[m].length:Int)+q5) (by omega)
 simp [VM.look,VM.vnil,ly,hfn,hr2,b3,a2,a3,la,hfl,e1]
 refine Qm ?_ ?_<;>intro g1
 ·have hso:¬Ym x (q1,(m:Int),q3,q4,q5):=fun k=>by have:=k.2;simp only [Int.toNat_natCast,hgd] at this;omega
  simp [hso]
  exact cH
 have hso:Ym x (q1,(m:Int),q3,q4,q5):=⟨g0,by simp only [Int.toNat_natCast,hgd];omega⟩
 simp
 have liv:=Xy o6.1.1
 have qa:VM.one a=true∧a.cells=#[a]:=⟨a4.one',a4.cells⟩
 have hml':m<v.2.2.2.2.2.1.2.length:=by rw [o6.1.2.1];exact hml
 have ea:v.2.2.2.2.2.1.2[m]=a:=by rw [List.getElem?_eq_getElem hml'] at a1;exact Option.some.inj a1
 have oa:Ow Yh 148 K a x.2.2.2.2.2.1[m]:=o6.1.2.2 m a _ a1 (by simp [hml])
 have h6:=Sl (n:=v)
 have ha6:∀i∈ids a,i∈Qt.ids v.2.2.2.2.2.1:=fun i hi=>Up a1 hi
 have nd6:=Je nd
 have lt6:∀i∈Qt.ids v.2.2.2.2.2.1,i<H.length:=fun i hi=>Qe.lt o i (h6 i hi)
 obtain ⟨a',K3,hap,oa',c3,na'⟩:=oa.append (P:=Tryz.prog) (frz:=frz) (ty:=145) oy.rd (by simp) (Re _) (by omega) (fun i hi=>hf i (h6 i (ha6 i hi)))
 have c3':Qp K K3 (ids v.2.2.2.2.2.1.2[m]):=by rw [ea];exact c3
 obtain ⟨K4,hst,oL,c4,ndL,idL,l4⟩:=Lw (frz:=frz) (et:=145) (ag:=false) o6.1 nd6 hml' c3' oa' (by rw [ea];exact na') (fun i hi=>hf i (h6 i hi)) (by simp)
 have b33:=Qa b3 c3 (fun hh=>by have:=lt6 _ (ha6 _ hh);omega)
 have b35:=Qa hr2 c3 (fun hh=>hid (h6 _ (ha6 _ hh)))
 have dav:∀i∈ids v.2.2.2.2.2.1.1,i∉ids a:=fun i hi hh=>(List.nodup_append.1 nd6).2.2 i hi i (List.mem_flatMap.2 ⟨a,List.mem_of_getElem? a1,hh⟩) rfl
 have ol3:=o6.1.1.chg c3 dav
 have Qkv:=Xy ol3
 have hsl:=o6.1.2.1
 have ix3:=ol3.rd.idx (P:=Tryz.prog) (ty:=46) (e:=145) (by simp) (i:=(m:Int)) (by omega) (by omega)
 have b43:=Qa b3 c4 (fun hh=>by have:=lt6 _ hh;omega)
 have b45:=Qa hr2 c4 (fun hh=>hid (h6 _ hh))
 have Qkn:=Xy oL.1
 have qa':VM.one a'=true∧a'.cells=#[a']:=⟨oa'.rd.one',oa'.rd.cells⟩
 simp only [Int.toNat_natCast,Nat.mul_one,show Fl.val.n=1 from rfl] at ix3
 rw [V8 (fl:=([3,5],[17])) (h:=⟨by kernel_rfl,by kernel_rfl,by kernel_rfl,by kernel_rfl⟩)]
 simp [Sd,Zi,Vs,-Q5,-Wm,VM.look,VM.vnil,hr2,b3,a2,a3,hap,hst,b33,b35,ix3,liv,Qkv,b43,b45,Qkn,ones,qa',hso]
 have en:U2 x (q1,m,q3,q4,q5)=Ps x (x.2.2.2.2.2.1.set m (x.2.2.2.2.2.1[m]++Zl x.1.1 x.1.2.1 (q1,m,q3,q4,q5))):=by
  unfold U2
  simp only [Int.toNat_natCast,hgd]
 rw [en]
 have on2:Qe.Ow K v x:=⟨o1,o2,o3,o4,o5,o6,o7,trivial⟩
 have lK:=cH.1
 obtain ⟨p1,p2,p3⟩:=Mv (u:=(v.2.2.2.2.2.1.1,v.2.2.2.2.2.1.2.set m a')) on2 nd c4 (F7 oL o6.2.1 o6.2.2 (by simp;omega)) ndL idL
 refine ⟨_,p1,p2,fun i hi=>?_,(cH.mono (fun _ h=>by cases h)).trans c4⟩
 rcases p3 i hi with g|g
 ·exact .inl g
 ·exact .inr (by omega)
theorem De (p:Int):Qh C frz 226 [.int .i64 p] H=some (.int .i64 (Ml p),H):=by
 rw [Qb (fn:=Tryz.f226) Tryz.func226 rfl (by kernel_rfl) rfl]
 simp
 refine Q7 _ ?_ ?_<;>intro h1<;>simp [h1,Ml,Wd]
 refine Q7 _ ?_ ?_<;>intro h2
 ·obtain ⟨h3,h4⟩:=h2
  simp [h3,h4]
  rw [Q0 (by omega) (by omega),Int.tmod_eq_emod_of_nonneg (by omega)]
 ·have h3:¬(0≤p∧p≤3):=h2
  simp [h3]
theorem O3 (p:Int):Qh C frz 162 [.int .i64 p] H=some (.int .i64 (Ml p),H):=by
 rw [Qb (fn:=Tryz.f162) Tryz.func162 rfl (by kernel_rfl) rfl]
 simp
 refine Q7 _ ?_ ?_<;>intro h1<;>simp [h1,Ml,Ws]
 refine Q7 _ ?_ ?_<;>intro h2
 ·obtain ⟨h3,h4⟩:=h2
  simp [h3,h4]
  rw [Q0 (by omega) (by omega),Int.tmod_eq_emod_of_nonneg (by omega)]
 ·have h3:¬(0≤p∧p≤3):=h2
  simp [h3]
theorem Qcm (p:Int) : -1≤Ml p∧Ml p≤4:=by unfold Ml;split<;>(try split)<;>omega
theorem mo (w h c:Int) : -1≤Gq w h c∧Gq w h c<16:=mq _ _ _ _
theorem zb {w h c:Int}:IntKind.i64.wrap (4*Gq w h c)=4*Gq w h c∧IntKind.i64.wrap (4*Gq w h c+Ml (c%4))=In w h c:=by
 have h1:=mo w h c
 have h2:=Qcm (c%4)
 exact ⟨Q0 (by omega) (by omega),by unfold In;exact Q0 (by omega) (by omega)⟩
theorem Qlv (w h:Int) (v:Value) (b:List Int) (c:Int) (hI:W7 H v b) (h0:leads w h c) :
 Qh C frz 277 [.agg #[.int .i64 w,.int .i64 h,v],.int .i64 c] H=some (.int .i64 (In w h c),H):=by
 rw [Qb (fn:=Tryz.f277) Tryz.func277 rfl (by kernel_rfl) rfl]
 obtain ⟨e1,e2⟩:=O9 h0.1
 obtain ⟨e3,e4⟩:=zb (w:=w) (h:=h) (c:=c)
 have e5:next w h (c/4) (c%4)=Gq w h c:=rfl
 simp [hI.one',hI.cells,Kg _ _ _ _ _ (hI.app _) h0,e2,De,e3,e4,e5]
theorem xx (w h:Int) (v:Value) (b:List Int) (c:Int) (hI:W7 H v b) (hl:b.length≤1073741824) :
 Qh C frz 260 [.agg #[.int .i64 w,.int .i64 h,v],.int .i64 c] H=some (.bool (decide (Zo w h b∧link w h b c)),H):=by
 rw [Qb (fn:=Tryz.f260) Tryz.func260 rfl (by kernel_rfl) rfl]
 simp [hI.one',hI.cells]
 rw [Qv (h:=by kernel_rfl)]
 simp [hI.one',hI.cells,Si _ _ _ _ _ (hI.app _) hl,-Bool.decide_and]
 refine Xs _ _ ?_ ?_<;>intro h1
 ·simp [h1,hI.one',hI.cells,Qlv _ _ _ _ _ (hI.app _) h1.2.1,Si _ _ _ _ _ (hI.app _) hl,link]
 ·have h2:¬(Zo w h b∧link w h b c):=fun hh=>h1 ⟨hh.1,hh.2.1⟩
  simp [h1]
  exact fun a b=>h2 ⟨a,b⟩
theorem C6 (w h:Int) (v:Value) (b:List Int) (c:Int) (hI:W7 H v b) (hl:b.length≤1073741824) :
 Qh C frz 239 [.agg #[.int .i64 w,.int .i64 h,v],.int .i64 c] H=some (.bool (decide (link w h b c)),H):=by
 rw [Qb (fn:=Tryz.f239) Tryz.func239 rfl (by kernel_rfl) rfl]
 simp [hI.one',hI.cells,O2 _ _ _ _ _ (hI.app _) hl,-Bool.decide_and]
 refine Q7 _ ?_ ?_<;>intro h1
 ·obtain ⟨e1,e2⟩:=O9 h1.1.1
  obtain ⟨e3,e4⟩:=zb (w:=w) (h:=h) (c:=c)
  have e5:next w h (c/4) (c%4)=Gq w h c:=rfl
  simp
  rw [Qv (h:=by kernel_rfl)]
  simp [h1,hI.one',hI.cells,e1,e2,Zy,O3,e3,e4,e5,O2 _ _ _ _ _ (hI.app _) hl,link]
 ·simp [link,h1]
theorem front {K:Qd} {u:Value} {xs:List Q9} (rd:Rd Yh K u xs) (h:xs≠[]) :
 Q6 Tryz.prog K 145 u (.int .i64 0)=some (Yi u 0)∧Qy Tryz.prog K 148 1 (Yi u 0)=some (Yi u 1)∧Qy Tryz.prog K 148 2 (Yi u 0)=some (Yi u 2)∧
 Qy Tryz.prog K 148 3 (Yi u 0)=some (Yi u 3)∧Xh Tryz.prog K 3 (Yi u 1)=some (.int .i64 (Zx xs).2.1)∧Xh Tryz.prog K 3 (Yi u 2)=some (.int .i64 (Zx xs).2.2.1)∧
 Xh Tryz.prog K 4 (Yi u 3)=some (.bool (Zx xs).2.2.2.1)∧Xh Tryz.prog K 148 (Yi u 0)=some (.agg (Yh.f (Zx xs)).toArray):=by
 have h0:0<xs.length:=List.length_pos_iff.2 h
 have z0:=rd.idx (P:=Tryz.prog) (ty:=145) (e:=148) (by simp) (i:=0) (by omega) (by omega)
 have f1:=rd.field (P:=Tryz.prog) (s:=148) (f:=1) (o:=1) (n:=1) (ag:=false) (by simp) (j:=0) h0
 have f2:=rd.field (P:=Tryz.prog) (s:=148) (f:=2) (o:=2) (n:=1) (ag:=false) (by simp) (j:=0) h0
 have f3:=rd.field (P:=Tryz.prog) (s:=148) (f:=3) (o:=3) (n:=1) (ag:=false) (by simp) (j:=0) h0
 have c1:=rd.cell (P:=Tryz.prog) (e:=3) (by simp) h0 (c:=1) (by decide)
 have c2:=rd.cell (P:=Tryz.prog) (e:=3) (by simp) h0 (c:=2) (by decide)
 have c3:=rd.cell (P:=Tryz.prog) (e:=4) (by simp) h0 (c:=3) (by decide)
 have q2:=rd.load (P:=Tryz.prog) (e:=148) (by simp) h0
 have e:Zx xs=xs[0]:=by cases xs with
  | nil=>exact absurd rfl h
  | cons a l=>rfl
 rw [e]
 simp only [Int.toNat_natCast,Ty,Int.toNat_zero,Nat.zero_mul,Nat.zero_add,Nat.add_zero] at z0 f1 f2 f3 c1 c2 c3 q2
 simp only [Xp] at c1 c2 c3
 simp at c1 c2 c3
 exact ⟨z0,f1,f2,f3,c1,c2,c3,q2⟩
theorem Ms {P:Nat→Bool} {n p:Nat} (hp:p<n) (h:P p=true) (hn:∀q,q<p→P q=false):(List.range n).find? P=some p:=by
 rw [List.find?_eq_some_iff_append]
 refine ⟨h,List.range p,(List.range' (p+1) (n-(p+1))),?_,fun q hq=>by simpa using hn q (List.mem_range.1 hq)⟩
 rw [List.range_eq_range',List.range_eq_range']
 have e:n=p+(1+(n-(p+1))):=by omega
 conv=>lhs;rw [e,← List.range'_append_1]
 rw [Nat.add_comm 1,List.range'_succ];simp
theorem T3 {P:Nat→Bool} {n:Nat} (hn:∀q,q<n→P q=false):(List.range n).find? P=none:=by
 rw [List.find?_eq_none];intro q hq;simp [hn q (List.mem_range.1 hq)]
theorem P0 (n p c:Int):Qh C frz 207 [.int .i64 n,.int .i64 p,.int .i64 c] H=some (.int .i64 (if Xa 0 n 15∧Xa 0 p 4∧Xa 0 c 1 then 10*n+2*p+c else -1),H):=by
 rw [Qb (fn:=Tryz.f207) Tryz.func207 rfl (by kernel_rfl) rfl]
 by_cases h1:Xa 0 n 15
 ·by_cases h2:Xa 0 p 4
  ·by_cases h3:Xa 0 c 1
   ·simp [Wd,h1,h2,h3]
    unfold Xa at h1 h2 h3
    have e1:=@w6 (5*n) (by omega)
    have e2:=@w6 (5*n+p) (by omega)
    have e3:∀[Inhabited Unit],IntKind.i64.wrap ((5*n+p)*2)=10*n+2*p:=by intro _;rw [Q0 (by omega) (by omega)];omega
    have e4:=@w6 (10*n+2*p+c) (by omega)
    simp [e1,e2,e3,e4]
   ·simp [Wd,h1,h2,h3]
  ·simp [Wd,h1,h2]
 ·simp [Wd,h1]
theorem Mx {n p c:Nat} (h1:n<16) (h2:p<5) (h3:c<2):Qh C frz 207 [.int .i64 (n:Int),.int .i64 (p:Int),.int .i64 (c:Int)] H=some (.int .i64 (Yb n p c:Nat),H):=by
 rw [P0,if_pos ⟨⟨by omega,by omega⟩,⟨by omega,by omega⟩,⟨by omega,by omega⟩⟩]
 congr 3
theorem Qky (w h:Int) (v:Value) (b:List Int) (c:Int) (hI:W7 H v b) (hl:b.length≤1073741824) :
 Qh C frz 225 [.agg #[.int .i64 w,.int .i64 h,v],.int .i64 c] H=some (.bool (decide (has w h b c)),H):=by
 rw [Qb (fn:=Tryz.f225) Tryz.func225 rfl (by kernel_rfl) rfl]
 simp [hI.one',hI.cells,A2]
 refine Xs _ _ ?_ ?_<;>intro h2<;>simp [h2,has,Ob _ _ _ (hI.app _) hl,-Bool.decide_and]
theorem zv {v:Wo} {x:Qu} {id a p c:Nat} {e:TypeId} {tail:List Value} (hr:H[id]? = some ⟨Qc v x++tail,0,e⟩) (o:Qe.Ow H v x) (ha:(a:Int)<cnt x.1.1 x.1.2.1) (hp:p<5) (hc:c<2) :
 Qh C frz 206 [.pointer (some ⟨id,0,some 0⟩),.int .i64 a,.int .i64 p,.int .i64 c] H=some (.int .i64 (if p≠4∧has x.1.1 x.1.2.1 x.1.2.2 (4*(a:Int)+p) then (Mf x a p c:Int) else -1),H):=by
 have ones:=Qr o
 have hl:=o.1.2
 have hI:=Rd.isI o.1.1.rd
 have cr:=Qz x.1.1 x.1.2.1
 rw [Qb (fn:=Tryz.f206) Tryz.func206 rfl (by kernel_rfl) rfl]
 unfold Qc at hr
 simp only [List.cons_append,List.nil_append] at hr
 have e1:=@w6 (4*(a:Int)) (by omega)
 have e2:∀[Inhabited Unit],IntKind.i64.wrap (4*(a:Int)+(p:Int))=4*(a:Int)+p:=by intro _;exact Q0 (by omega) (by omega)
 have lv:=fun F=>Qky (frz:=F) (H:=H) x.1.1 x.1.2.1 v.1 x.1.2.2 (4*(a:Int)+p) hI hl
 by_cases h4:p=4
 ·subst h4;simp
 have h4':¬(p:Int)=4:=by omega
 by_cases hh:has x.1.1 x.1.2.1 x.1.2.2 (4*(a:Int)+p)
 ·obtain ⟨t1,t2⟩:=N4 (w:=x.1.1) (h:=x.1.2.1) (a:=a) (p:=p) (b:=x.1.2.2) ⟨by omega,by omega⟩ hh
  obtain ⟨t2,t3⟩:=t2
  obtain ⟨u1,u2,u3⟩:=Sh (c:=c) hh (by omega) hc
  obtain ⟨s1,s2,s3⟩:=My (c:=c) hh (by omega)
  have en:=fun F=>Kg (frz:=F) (H:=H) x.1.1 x.1.2.1 v.1 x.1.2.2 (4*(a:Int)+p) hI hh.1
  rw [t1,t2] at en
  have ex:(10*next x.1.1 x.1.2.1 a p+2*Ml p+c)=(Mf x a p c:Int):=u1.symm
  have hin:Xa 0 (next x.1.1 x.1.2.1 a p) 15∧Xa 0 (Ml p) 4∧Xa 0 (c:Int) 1:=⟨⟨s1.1,by have:=s1.2;omega⟩,⟨s2,by omega⟩,⟨by omega,by omega⟩⟩
  simp [VM.look,VM.vnil,hr,ones,e1,e2,lv,hh,h4,h4',en,De,P0,hin,ex]
 ·simp [VM.look,VM.vnil,hr,ones,e1,e2,lv,hh,h4,h4']
theorem Qc1 {v:Wo} {x:Qu} {id a p c:Nat} {e:TypeId} {tail:List Value} (hr:H[id]? = some ⟨Qc v x++tail,0,e⟩) (o:Qe.Ow H v x) (hx:Zq x) (ha:(a:Int)<cnt x.1.1 x.1.2.1) (hp:p<5) (hc:c<2) :
 Qh C frz 280 [.pointer (some ⟨id,0,some 0⟩),.int .i64 a,.int .i64 p,.int .i64 c] H=some (.bool (decide (Pd x a p c)),H):=by
 have ones:=Qr o
 have bh:=fun F=>zv (frz:=F) hr o ha hp hc
 rw [Qb (fn:=Tryz.f280) Tryz.func280 rfl (by kernel_rfl) rfl]
 unfold Qc at hr
 simp only [List.cons_append,List.nil_append] at hr
 by_cases h4:p=4
 ·subst h4;simp [Pd]
 have h4':¬(p:Int)=4:=by omega
 by_cases hh:has x.1.1 x.1.2.1 x.1.2.2 (4*(a:Int)+p)
 ·obtain ⟨u1,u2,u3⟩:=Sh (c:=c) hh (by omega) hc
  have hl:Mf x a p c<x.2.2.1.length:=by have:=hx.2.1.1;omega
  obtain ⟨u,a1,a2,a3,a4⟩:=Xi o.2.2.1.1.rd (ty:=46) (e:=145) (by simp) (by simp) hl
  have la:=a4.len (P:=Tryz.prog) (ty:=145) (by simp)
  have hgd:x.2.2.1[Mf x a p c]?.getD []=x.2.2.1[Mf x a p c]:=by simp [hl]
  simp [VM.look,VM.vnil,hr,ones,h4,h4',bh,hh,a2,a3,la,Pd,hgd]
  try omega
 ·simp [VM.look,VM.vnil,hr,ones,h4,h4',bh,hh,Pd]
theorem zg (u1 u2:Value) (A B:List Int) (c:Int) (h1:W7 H u1 A) (h2:W7 H u2 B) :
 wp (Qh C frz 283 [.agg #[u1,u2],.int .i64 c] H) (fun r H'=>r=.agg #[if c=1 then u2 else u1]∧∃L,H'=H++L):=by
 rw [Qb (fn:=Tryz.f283) Tryz.func283 rfl (by kernel_rfl) rfl]
 have one:=And.intro (And.intro h1.one' h1.cells) (And.intro h2.one' h2.cells)
 simp [one]
 refine Qm ?_ ?_<;>intro g<;>simp [g,one]
theorem Qga {v:Wo} {x:Qu} {id a i:Nat} {e:TypeId} {tail:List Value} (hr:H[id]? = some ⟨Qc v x++tail,0,e⟩) (o:Qe.Ow H v x) (hx:Zq x) (ha:(a:Int)<cnt x.1.1 x.1.2.1) (hi:i<10) :
 Qh C frz 279 [.pointer (some ⟨id,0,some 0⟩),.int .i64 a,.int .i64 i] H=some (.int .i64 (Vf x a i),H):=by
 refine wp.exact (by simp) ?_ rfl
 have ones:=Qr o
 have cr:=Qz x.1.1 x.1.2.1
 rw [Qb (fn:=Tryz.f279) Tryz.func279 rfl (by kernel_rfl) rfl]
 unfold Qc at hr
 simp only [List.cons_append,List.nil_append] at hr
 obtain ⟨d,hd⟩:∃d,d=10*a+i:=⟨_,rfl⟩
 obtain ⟨c,hc⟩:∃c,c=i%2:=⟨_,rfl⟩
 obtain ⟨q,hq⟩:∃q,q=i/2:=⟨_,rfl⟩
 generalize hY:Vf x a i=Y
 unfold Vf at hY
 rw [← hd,← hc,← hq] at hY
 have e1:=@w6 (10*(a:Int)) (by omega)
 have e2:∀[Inhabited Unit],IntKind.i64.wrap (10*(a:Int)+(i:Int))=(d:Int):=by intro _;rw [Q0 (by omega) (by omega)];omega
 have e3:∀[Inhabited Unit],(i:Int).tmod 2=(c:Int):=by intro _;rw [Mj];omega
 have e4:∀[Inhabited Unit],IntKind.i64.wrap ((i:Int)/2)=(q:Int):=by intro _;rw [Q0 (by omega) (by omega)];omega
 have hl:d<x.2.2.1.length:=by have:=hx.2.1.1;omega
 obtain ⟨u,a1,a2,a3,a4⟩:=Xi o.2.2.1.1.rd (ty:=46) (e:=145) (by simp) (by simp) hl
 have la:=a4.len (P:=Tryz.prog) (ty:=145) (by simp)
 have hgd:x.2.2.1.getD d []=x.2.2.1[d]:=by simp [List.getD_eq_getElem?_getD,hl]
 have hho:Yn x d=Zx x.2.2.1[d]:=by unfold Yn;rw [hgd]
 have qa:VM.one u=true∧u.cells=#[u]:=⟨a4.one',a4.cells⟩
 simp [VM.look,VM.vnil,hr,ones,e1,e2,a2,a3,la]
 rw [hgd,hho] at hY
 by_cases g0:x.2.2.1[d]=[]
 ·rw [if_pos g0] at hY
  simp [g0,hY]
 rw [if_neg g0] at hY
 have g0':¬(x.2.2.1[d].length:Int)=0:=by
  have:=List.length_pos_iff.2 g0;omega
 have g0n:¬x.2.2.1[d].length=0:=by omega
 have fr:=fun L=>front (a4.app (L:=L)) g0
 have zL:=fun L=>(fr L).1
 have fL:=fun L=>(fr L).2.1
 have cL:=fun L=>(fr L).2.2.2.2.1
 clear fr
 obtain ⟨z0,f1,f2,f3,c1,c2,c3,_⟩:=front a4 g0
 obtain ⟨k1,k2⟩:=hx.2.2.1 d _ (by rw [hgd];exact N0 g0)
 generalize Zx x.2.2.1[d]=f at *
 simp [-Qy,Wr,g0',g0n,g0,z0,f3,c3]
 by_cases g1:f.2.2.2.1=true
 ·rw [if_pos g1] at hY
  simp only [g1]
  simp
  rw [Qv (h:=by kernel_rfl)]
  have hcl:f.2.2.1=(c:Int):=by rw [k1];omega
  have hi1:W7 H v.2.1.1 x.2.1.1:=Rd.isI o.2.1.1.1.rd
  have hi2:W7 H v.2.1.2 x.2.1.2:=Rd.isI o.2.1.2.1.rd
  simp [-Qy,Wr,VM.look,VM.vnil,hr,ones,z0,f1,f2,c1,c2,hcl]
  refine Ql (zg v.2.1.1 v.2.1.2 x.2.1.1 x.2.1.2 (c:Int) hi1 hi2) ?_
  rintro _ K ⟨rfl,L,rfl⟩
  have hT:W7 H (if (c:Int)=1 then v.2.1.2 else v.2.1.1) (if c=1 then x.2.1.2 else x.2.1.1):=by
   by_cases h1:c=1
   ·simp [h1,hi2]
   ·rw [if_neg (by omega),if_neg h1];exact hi1
  have hok:U3 x.1.1 x.1.2.1 x.1.2.2 (if c=1 then x.2.1.2 else x.2.1.1):=by split;exact hx.1.2;exact hx.1.1
  have hin:=Qhr hok (a:=a) (c:=f.2.1) ⟨by omega,ha⟩ k2.1
  generalize (if (c:Int)=1 then v.2.1.2 else v.2.1.1)=uT at *
  generalize (if c=1 then x.2.1.2 else x.2.1.1)=T at *
  have pt:=fun F=>yw (frz:=F) (H:=H++L) x.1.1 x.1.2.1 v.1 uT x.1.2.2 T a f.2.1 (Rd.isI o.1.1.rd.app) (hT.app _) o.1.2 hok.1 ⟨by omega,ha⟩ k2.1
  rw [hY,if_pos (hY▸hin)] at pt
  simp [-Qy,Wr,ones,hT.one',hT.cells,pt,zL,fL,cL]
 ·rw [if_neg g1] at hY
  simp only [g1]
  simp
  refine Qw (fun n t H'=>∃p:Nat,n=5-p∧p≤5∧t 0=.pointer (some ⟨id,0,some 0⟩)∧t 1=.int .i64 a∧t 2=.int .i64 i∧t 8=.int .i64 p∧H'=H∧∀r,r<p→decide (x.2.2.2.1.getD (Yb a r c) 0=(q:Int))=false) ?_ (n:=5) ⟨0,by simp,by omega,by simp,by simp,by simp,by simp,rfl,by omega⟩
  rintro n t H' ⟨p,rfl,hp,t0,t1,t2,t8,rfl,hk⟩ ih
  simp [t0,t1,t2,t8]
  refine Qm ?_ ?_<;>intro g
  ·have hp':p<5:=by omega
   have bA:=fun F=>Mx (frz:=F) (H:=H') (n:=a) (p:=p) (c:=c) (by omega) hp' (by omega)
   have hz:Yb a p c<x.2.2.2.1.length:=by have:=hx.2.1.2.1;unfold Yb;omega
   have hgo:x.2.2.2.1.getD (Yb a p c) 0=x.2.2.2.1[Yb a p c]:=by simp [List.getD_eq_getElem?_getD,hz]
   have hk2:=hk
   generalize hzz:Yb a p c=z at *
   have rd:=Rd.isI o.2.2.2.1.1.rd
   have q1:=rd.idx (P:=Tryz.prog) (ty:=24) (e:=3) (by simp) (i:=(z:Int)) (by omega) (by omega)
   have q2:=rd.load (P:=Tryz.prog) (e:=3) (by simp) hz
   simp only [Int.toNat_natCast] at q1 q2
   rw [hgo] at q2
   simp [t0,t1,t2,t8]
   rw [Qv (h:=by kernel_rfl)]
   simp [VM.look,VM.vnil,hr,ones,t0,t1,t2,t8,e3,e4,bA,q1,q2]
   refine Qm ?_ ?_<;>intro g2
   ·simp [t0,t1,t2,t8]
    rw [Ms hp' (by rw [hzz,hgo];exact decide_eq_true g2) hk] at hY
    exact hY
   ·simp [t0,t1,t2,t8]
    refine ih (5-(p+1)) _ _ ⟨p+1,rfl,by omega,by simp [t0],by simp [t1],by simp [t2],?_,rfl,fun r hr'=>?_⟩ (by omega)
    ·simp;rw [Q0 (by omega) (by omega)]
    ·by_cases hrp:r<p
     ·exact hk r hrp
     ·have:r=p:=by omega
      subst this
      rw [hzz,hgo];exact decide_eq_false g2
  ·have:p=5:=by omega
   subst this
   rw [T3 hk] at hY
   simp [t0,t1,t2,t8,hY]
theorem yi {v:Wo} {x:Qu} {id a i p:Nat} {e:TypeId} {tail:List Value} (hr:H[id]? = some ⟨Qc v x++tail,0,e⟩) (o:Qe.Ow H v x) (hx:Zq x) (ha:(a:Int)<cnt x.1.1 x.1.2.1) (hi:i<10) (hp:p<5) :
 Qh C frz 269 [.pointer (some ⟨id,0,some 0⟩),.int .i64 a,.int .i64 i,.int .i64 p] H=some (.bool (decide (Tn x a i p)),H):=by
 refine wp.exact (by simp) ?_ rfl
 have ones:=Qr o
 have cr:=Qz x.1.1 x.1.2.1
 obtain ⟨d,hd⟩:∃d,d=10*a+i:=⟨_,rfl⟩
 obtain ⟨c,hc⟩:∃c,c=i%2:=⟨_,rfl⟩
 obtain ⟨q,hq⟩:∃q,q=i/2:=⟨_,rfl⟩
 have wn:=fun F=>Qga (frz:=F) hr o hx ha hi
 have rm:=fun F=>Qc1 (frz:=F) (c:=c) hr o hx ha hp (by omega)
 have bA:=fun F=>Mx (frz:=F) (H:=H) (n:=a) (p:=p) (c:=c) (by omega) hp (by omega)
 rw [Qb (fn:=Tryz.f269) Tryz.func269 rfl (by kernel_rfl) rfl]
 unfold Qc at hr
 simp only [List.cons_append,List.nil_append] at hr
 generalize hY:decide (Tn x a i p)=Y
 have no:¬Tn x a i p→Y=false:=fun hh=>by rw [← hY];exact decide_eq_false hh
 have e0:¬(p:Int)<0:=by omega
 have e1:=@w6 (10*(a:Int)) (by omega)
 have e2:∀[Inhabited Unit],IntKind.i64.wrap (10*(a:Int)+(i:Int))=(d:Int):=by intro _;rw [Q0 (by omega) (by omega)];omega
 have e3:∀[Inhabited Unit],(i:Int).tmod 2=(c:Int):=by intro _;rw [Mj];omega
 have e4:∀[Inhabited Unit],IntKind.i64.wrap ((i:Int)/2)=(q:Int):=by intro _;rw [Q0 (by omega) (by omega)];omega
 by_cases g1:Vf x a i=(p:Int)
 rotate_left
 ·simp [e0,wn,g1];exact no (fun k=>g1 k.1)
 by_cases g2:Pd x a p c
 rotate_left
 ·simp [e0,wn,g1,e3,rm,g2];exact no (fun k=>g2 (hc▸k.2.1))
 have hl:d<x.2.2.1.length:=by have:=hx.2.1.1;omega
 obtain ⟨u,a1,a2,a3,a4⟩:=Xi o.2.2.1.1.rd (ty:=46) (e:=145) (by simp) (by simp) hl
 have hgd:x.2.2.1.getD d []=x.2.2.1[d]:=by simp [List.getD_eq_getElem?_getD,hl]
 have hho:Yn x d=Zx x.2.2.1[d]:=by unfold Yn;rw [hgd]
 have g0:x.2.2.1[d]≠[]:=fun hh=>by
  unfold Vf at g1
  rw [← hd,hgd,if_pos hh] at g1
  omega
 obtain ⟨z0,f1,f2,f3,c1,c2,c3,_⟩:=front a4 g0
 have hz:Yb a p c<x.2.2.2.1.length:=by have:=hx.2.1.2.1;unfold Yb;omega
 have hgo:x.2.2.2.1.getD (Yb a p c) 0=x.2.2.2.1[Yb a p c]:=by simp [List.getD_eq_getElem?_getD,hz]
 have key:Tn x a i p↔x.2.2.2.1[Yb a p c]=if (Zx x.2.2.1[d]).2.2.2.1 then -1 else (q:Int):=by
  unfold Tn;rw [← hd,← hc,← hq,hgo,hho]
  exact ⟨fun k=>k.2.2,fun k=>⟨g1,g2,k⟩⟩
 generalize hzz:Yb a p c=z at *
 generalize Zx x.2.2.1[d]=f at *
 have rd:=Rd.isI o.2.2.2.1.1.rd
 have q1:=rd.idx (P:=Tryz.prog) (ty:=24) (e:=3) (by simp) (i:=(z:Int)) (by omega) (by omega)
 have q2:=rd.load (P:=Tryz.prog) (e:=3) (by simp) hz
 simp only [Int.toNat_natCast] at q1 q2
 rw [hgo] at q2
 have qa:VM.one u=true∧u.cells=#[u]:=⟨a4.one',a4.cells⟩
 simp [e0,wn,g1,e3,rm,g2]
 rw [Qv (h:=by kernel_rfl)]
 simp [VM.look,VM.vnil,hr,ones,e3,bA,q1,q2]
 simp [-Qy,Wr,VM.look,VM.vnil,hr,ones,e1,e2,a2,a3,z0,f3,c3]
 by_cases g3:f.2.2.2.1=true
 ·simp only [g3,if_true] at key ⊢
  simp [e4]
  rw [← hY];simp only [key]
 ·simp only [g3,if_false] at key ⊢
  simp [e4]
  rw [← hY];simp only [key]
  try simp
theorem Qaa {v:Wo} {x:Qu} {id a p:Nat} {e:TypeId} {tail:List Value} (hr:H[id]? = some ⟨Qc v x++tail,0,e⟩) (o:Qe.Ow H v x) (hx:Zq x) (ha:(a:Int)<cnt x.1.1 x.1.2.1) (hp:p<5) :
 wp (Qh C frz 244 [.pointer (some ⟨id,0,some 0⟩),.int .i64 a,.int .i64 p] H) (fun r H'=>Ow Fl.int 3 H' r ((Ih x a p).map Int.ofNat)∧(∀i∈ids r,H.length≤i)∧Qp H H' []):=by
 rw [Qb (fn:=Tryz.f244) Tryz.func244 rfl (by kernel_rfl) rfl]
 simp
 refine Qw (fun n t H'=>∃(i:Nat) (r:Value),n=10-i∧i≤10∧t 0=.pointer (some ⟨id,0,some 0⟩)∧t 1=.int .i64 a∧t 2=.int .i64 p∧t 7=r∧t 10=.int .i64 i∧Qp H H' []∧Ow Fl.int 3 H' r (((List.range i).filter fun i=>Tn x a i p).map Int.ofNat)∧(∀j∈ids r,H.length≤j)) ?_ (n:=10)
  ⟨0,.slice (some ⟨H.length,0,some 0⟩) 0 0,rfl,by omega,by simp,by simp,by simp,by simp,by simp,Qp.app _,Ow.new0 (D:=Fl.int) (xs:=[]) rfl rfl rfl rfl,by simp⟩
 rintro n t H' ⟨i,r,rfl,hi,t0,t1,t2,t7,t10,ch,oo,nr⟩ ih
 simp [t0,t1,t2,t7,t10]
 refine Qm ?_ ?_<;>intro g
 ·have hi':i<10:=by omega
  have rq:=fun F=>yi (frz:=F) (i:=i) (Qa hr ch (by simp)) (Dt.chg (T:=Qe) o ch (by simp)) hx ha hi' hp
  have hfl:=List.length_filter_le (fun i=>decide (Tn x a i p)) (List.range i)
  rw [List.length_range] at hfl
  simp [t0,t1,t2,t7,t10,rq]
  refine Qm ?_ ?_<;>intro g1
  ·obtain ⟨r',H2,hap,o2,c2,n2⟩:=oo.push (P:=Tryz.prog) (frz:=H.length) (ty:=24) (a:=(i:Int)) (by simp) rfl (by simp;omega) nr
   simp only [Fl.int_f] at hap
   have l0:=ch.1
   simp [t0,t1,t2,t7,t10,hap]
   refine ih (10-(i+1)) _ _ ⟨i+1,r',rfl,by omega,by simp [t0],by simp [t1],by simp [t2],by simp,?_,ch.trans' c2 (fun j hj=>.inr (nr j hj)),?_,fun j hj=>?_⟩ (by omega)
   ·simp [t10];rw [Q0 (by omega) (by omega)]
   ·rw [List.range_succ,List.filter_append,List.map_append];simpa [g1] using o2
   ·rcases n2 j hj with h1|h1
    ·exact nr j h1
    ·have:=ch.1;omega
  ·simp [t0,t1,t2,t7,t10]
   refine ih (10-(i+1)) _ _ ⟨i+1,r,rfl,by omega,by simp [t0],by simp [t1],by simp [t2],by simp [t7],?_,ch,?_,nr⟩ (by omega)
   ·simp [t10];rw [Q0 (by omega) (by omega)]
   ·rw [List.range_succ,List.filter_append,List.map_append];simpa [g1] using oo
 ·have:i=10:=by omega
  subst this
  simp [t0,t1,t2,t7,t10]
  exact ⟨oo,nr,ch⟩
theorem Ko {y t:Int} (h1:Xa 0 y 9) (h2:Xa 0 t 9):∀[Inhabited Unit],(IntKind.i64.wrap (IntKind.i64.wrap (y-t)+10)).tmod 10=(y-t+10)%10:=by
 intro _
 unfold Xa at h1 h2
 rw [Q0 (x:=y-t) (by omega) (by omega),Q0 (by omega) (by omega),Int.tmod_eq_emod_of_nonneg (by omega)]
def Z5 (t:Int) (l:List Int) (i:Nat):Int:=T7 t (l.take i)
theorem Kd (t:Int) {l:List Int} {i:Nat} (h:i<l.length):Z5 t l (i+1)=if Z5 t l i<0∨(l[i]-t+10)%10<(Z5 t l i-t+10)%10 then l[i] else Z5 t l i:=by
 unfold Z5 T7
 rw [List.take_succ_eq_append_getElem h,List.foldl_append];rfl
theorem Eo {t:Int} {l:List Int} {i:Nat} (h:∀y∈l,Xa 0 y 9):Z5 t l i=-1∨Xa 0 (Z5 t l i) 9:=by
 rcases Jt t (l.take i) (-1) with g|g
 ·exact .inl g
 ·exact .inr (h _ (List.mem_of_mem_take g))
theorem xf (v:Value) (l:List Int) (k:Int) (hI:W7 H v l) (hl:l.length≤1073741824) (h1:∀y∈l,Xa 0 y 9) (h2:Xa 0 k 9) :
 Qh C frz 246 [v,.int .i64 k] H=some (.int .i64 (T7 k l),H):=by
 refine wp.exact (by simp) ?_ rfl
 rw [Qb (fn:=Tryz.f246) Tryz.func246 rfl (by kernel_rfl) rfl]
 have ai:∀F,Qh C F 133 [v,.int .i64 0,.int .i64 9] H=some (.bool true,H):=fun F=>by rw [O7 v l 0 9 hI hl,decide_eq_true h1]
 simp [ai,Wd,h1,h2,hI.len]
 refine Qw (fun n t H'=>∃i:Nat,n=l.length-i∧i≤l.length∧t 1=.int .i64 k∧t 5=.int .i64 (Z5 k l i)∧t 16=v∧t 17=.int .i64 l.length∧t 18=.int .i64 i∧H'=H) ?_ (n:=l.length)
  ⟨0,rfl,by omega,by simp,by simp [Z5,T7],by simp,by simp,by simp,rfl⟩
 rintro n t H' ⟨i,rfl,hi,t1,t5,t16,t17,t18,rfl⟩ ih
 simp [t1,t5,t16,t17,t18]
 refine Qm ?_ ?_<;>intro g
 ·have hi':i<l.length:=by omega
  have hs:=Kd k hi'
  have hy:=h1 _ (List.getElem_mem hi')
  have tv:=Ko hy h2
  simp [t1,t5,t16,t17,t18,hI.idx,hI.load,Wh,hi']
  rcases Eo (t:=k) (i:=i) h1 with g1|g1
  ·rw [g1] at hs
   simp [g1] at hs
   simp [t1,t5,t16,t17,t18,g1]
   refine ih (l.length-(i+1)) _ _ ⟨i+1,rfl,by omega,by simp [t1],by simp [hs],by simp [t16],by simp [t17],?_,rfl⟩ (by omega)
   simp [t18];rw [Q0 (by omega) (by omega)]
  ·have tb:=Ko g1 h2
   have g2:¬Z5 k l i<0:=by unfold Xa at g1;omega
   simp [t1,t5,t16,t17,t18,g2,tv,tb]
   refine Qm ?_ ?_<;>intro g3
   ·rw [if_pos (.inr (by omega))] at hs
    simp [t1,t5,t16,t17,t18]
    refine ih (l.length-(i+1)) _ _ ⟨i+1,rfl,by omega,by simp [t1],by simp [hs],by simp [t16],by simp [t17],?_,rfl⟩ (by omega)
    simp [t18];rw [Q0 (by omega) (by omega)]
   ·rw [if_neg (by omega)] at hs
    simp [t1,t5,t16,t17,t18]
    refine ih (l.length-(i+1)) _ _ ⟨i+1,rfl,by omega,by simp [t1],by simp [hs,t5],by simp [t16],by simp [t17],?_,rfl⟩ (by omega)
    simp [t18];rw [Q0 (by omega) (by omega)]
 ·have:i=l.length:=by omega
  subst this
  simp [t1,t5,t16,t17,t18,Z5]
theorem Au (v:Value) (l:List Int) (k:Int) (hI:W7 H v l) (hl:l.length≤1073741824) (h1:∀y∈l,Xa 0 y 9) (h2:Xa 0 k 9) :
 Qh C frz 191 [v,.int .i64 k] H=some (.int .i64 (T7 k l),H):=by
 refine wp.exact (by simp) ?_ rfl
 rw [Qb (fn:=Tryz.f191) Tryz.func191 rfl (by kernel_rfl) rfl]
 simp
 refine Qw (fun n t H'=>∃i:Nat,n=l.length-i∧i≤l.length∧t 0=v∧t 1=.int .i64 k∧t 5=.int .i64 (Z5 k l i)∧t 6=.int .i64 i∧H'=H) ?_ (n:=l.length)
  ⟨0,rfl,by omega,by simp,by simp,by simp [Z5,T7],by simp,rfl⟩
 rintro n t H' ⟨i,rfl,hi,t0,t1,t5,t6,rfl⟩ ih
 simp [t0,t1,t5,t6,hI.len]
 refine Qm ?_ ?_<;>intro g
 ·have hi':i<l.length:=by omega
  have hs:=Kd k hi'
  have hy:=h1 _ (List.getElem_mem hi')
  have tv:=Ko hy h2
  simp [t0,t1,t5,t6,hI.idx,hI.load,Wh,hi',Ws,hy,h2]
  rcases Eo (t:=k) (i:=i) h1 with g1|g1
  ·rw [g1] at hs
   simp [g1] at hs
   simp [t0,t1,t5,t6,g1,hI.idx,hI.load,Wh,hi']
   refine ih (l.length-(i+1)) _ _ ⟨i+1,rfl,by omega,by simp [t0],by simp [t1],by simp [hs],?_,rfl⟩ (by omega)
   simp [t6];rw [Q0 (by omega) (by omega)]
  ·have tb:=Ko g1 h2
   have g2:¬Z5 k l i<0:=by unfold Xa at g1;omega
   simp [t0,t1,t5,t6,g2,tv,tb,hI.idx,hI.load,Wh,hi']
   refine Qm ?_ ?_<;>intro g3
   ·rw [if_pos (.inr (by omega))] at hs
    simp [t0,t1,t5,t6,hI.idx,hI.load,Wh,hi']
    refine ih (l.length-(i+1)) _ _ ⟨i+1,rfl,by omega,by simp [t0],by simp [t1],by simp [hs],?_,rfl⟩ (by omega)
    simp [t6];rw [Q0 (by omega) (by omega)]
   ·rw [if_neg (by omega)] at hs
    simp [t0,t1,t5,t6]
    refine ih (l.length-(i+1)) _ _ ⟨i+1,rfl,by omega,by simp [t0],by simp [t1],by simp [hs,t5],?_,rfl⟩ (by omega)
    simp [t6];rw [Q0 (by omega) (by omega)]
 ·have:i=l.length:=by omega
  subst this
  simp [t0,t1,t5,t6,Z5]
end Go.Proofs.YtlhaeingdonaeaaGreat.V
set_option linter.all false
namespace Go.Proofs.YtlhaeingdonaeaaGreat.V
open Go Go.VM Go.Proofs
def G (xs:List Int) (i:Nat):Int:=xs.getD i 0
theorem Iy {xs:List Int} {i:Nat} (h:i<xs.length):G xs i=xs[i]:=by simp [G,List.getD_eq_getElem?_getD,h]
def swp (xs:List Int) (i j:Nat):List Int:=(xs.set i (G xs j)).set j (G xs i)
@[simp] theorem Qi4 (xs:List Int) (i j:Nat):(swp xs i j).length=xs.length:=by simp [swp]
theorem Ro {xs:List Int} {i j:Nat} (hi:i<xs.length) (hj:j<xs.length) (k:Nat):G (swp xs i j) k=if k=j then G xs i else if k=i then G xs j else G xs k:=by
 unfold swp
 by_cases hk:k<xs.length
 ·rw [Iy (by simpa using hk),List.getElem_set,List.getElem_set]
  by_cases h1:k=j
  ·rw [if_pos h1.symm,if_pos h1]
  ·rw [if_neg (Ne.symm h1),if_neg h1]
   by_cases h2:k=i
   ·rw [if_pos h2.symm,if_pos h2]
   ·rw [if_neg (Ne.symm h2),if_neg h2,Iy hk]
 ·rw [if_neg (by omega),if_neg (by omega)]
  simp [G,List.getD_eq_getElem?_getD,hk]
theorem Qgw {xs:List Int} {i j:Nat} (hi:i<xs.length) (hj:j<xs.length):(swp xs i j).Perm xs:=by
 unfold swp
 rw [Iy hi,Iy hj]
 exact List.set_set_perm hi hj
inductive Sw (a b:Nat) (xs:List Int):List Int→Prop
 | refl:Sw a b xs xs
 | step {ys:List Int} (i j:Nat) (h:Sw a b xs ys) (hi:a≤i∧i<b) (hj:a≤j∧j<b):Sw a b xs (swp ys i j)
variable {a b c d:Nat} {xs ys zs:List Int}
theorem Sw.len (h:Sw a b xs ys):ys.length=xs.length:=by
 induction h with
 | refl=>rfl
 | step i j _ _ _ ih=>rw [Qi4,ih]
theorem Sw.trans (h:Sw a b xs ys) (h':Sw a b ys zs):Sw a b xs zs:=by
 induction h' with
 | refl=>exact h
 | step i j _ hi hj ih=>exact .step i j ih hi hj
theorem Sw.mono (h:Sw a b xs ys) (ha:c≤a) (hb:b≤d):Sw c d xs ys:=by
 induction h with
 | refl=>exact .refl
 | step i j _ hi hj ih=>exact .step i j ih (by omega) (by omega)
theorem Sw.perm (h:Sw a b xs ys) (hb:b≤xs.length):ys.Perm xs:=by
 induction h with
 | refl=>exact List.Perm.refl _
 | step i j g hi hj ih=>exact (Qgw (by rw [g.len];omega) (by rw [g.len];omega)).trans ih
theorem Sw.out (h:Sw a b xs ys) (hb:b≤xs.length) {k:Nat} (hk:k<a∨b≤k):G ys k=G xs k:=by
 induction h with
 | refl=>rfl
 | step i j g hi hj ih=>rw [Ro (by rw [g.len];omega) (by rw [g.len];omega),if_neg (by omega),if_neg (by omega),ih]
theorem Sw.all (h:Sw a b xs ys) (hb:b≤xs.length) {p:Int→Prop} (hp:∀k,a≤k→k<b→p (G xs k)):∀k,a≤k→k<b→p (G ys k):=by
 induction h with
 | refl=>exact hp
 | step i j g hi hj ih=>
  intro k h1 h2
  rw [Ro (by rw [g.len];omega) (by rw [g.len];omega)]
  split
  ·exact ih i hi.1 hi.2
  ·split
   ·exact ih j hj.1 hj.2
   ·exact ih k h1 h2
theorem Sw.all' (h:Sw a b xs ys) (hb:b≤xs.length) {p:Int→Prop} (hc:c≤a) (hd:b≤d) (hp:∀k,c≤k→k<d→p (G xs k)):∀k,c≤k→k<d→p (G ys k):=by
 intro k h1 h2
 by_cases hk:a≤k∧k<b
 ·exact h.all hb (fun q g1 g2=>hp q (by omega) (by omega)) k hk.1 hk.2
 ·rw [h.out hb (by omega)];exact hp k h1 h2
def Sn (ys:List Int) (a b:Nat):Prop:=∀p q,a≤p→p<q→q<b→G ys p≤G ys q
theorem Sn.short (h:b≤a+1):Sn ys a b:=fun p q h1 h2 h3=>by omega
theorem Sn.frame (h:Sn ys a b) (he:∀k,a≤k→k<b→G zs k=G ys k):Sn zs a b:=fun p q h1 h2 h3=>by
 rw [he p h1 (by omega),he q (by omega) h3];exact h p q h1 h2 h3
theorem Sn.join (h1:Sn ys a b) (h2:Sn ys b c) (h:∀p q,a≤p→p<b→b≤q→q<c→G ys p≤G ys q):Sn ys a c:=fun p q h3 h4 h5=>by
 by_cases hq:q<b
 ·exact h1 p q h3 h4 hq
 ·by_cases hp:p<b
  ·exact h p q h3 hp (by omega) h5
  ·exact h2 p q (by omega) h4 h5
theorem Sn.pairwise (h:Sn ys 0 ys.length):ys.Pairwise (·≤·):=by
 rw [List.pairwise_iff_getElem]
 intro i j hi hj hij
 have:=h i j (Nat.zero_le _) hij hj
 rwa [Iy hi,Iy hj] at this
def Ins (ys:List Int) (a i j:Nat):Prop:=∀p q,a≤p→p<q→q≤i→q≠j→G ys p≤G ys q
theorem Ins.start (h:Sn ys a b):Ins ys a b b:=fun p q h1 h2 h3 h4=>h p q h1 h2 (by omega)
theorem Ins.step {i j:Nat} (h:Ins ys a i j) (hi:i<ys.length) (ha:a<j) (hj:j≤i) (hlt:G ys j<G ys (j-1)):Ins (swp ys j (j-1)) a i (j-1):=by
 intro p q h1 h2 h3 h4
 rw [Ro (by omega) (by omega),Ro (by omega) (by omega)]
 rw [if_neg h4]
 by_cases hp:p=j-1
 ·rw [if_pos hp]
  by_cases hq:q=j
  ·rw [if_pos hq];omega
  ·rw [if_neg hq];have:=h (j-1) q (by omega) (by omega) h3 hq;omega
 ·rw [if_neg hp]
  by_cases hpj:p=j
  ·rw [if_pos hpj]
   rw [if_neg (by omega)]
   exact h (j-1) q (by omega) (by omega) h3 (by omega)
  ·rw [if_neg hpj]
   by_cases hq:q=j
   ·rw [if_pos hq];exact h p (j-1) h1 (by omega) (by omega) (by omega)
   ·rw [if_neg hq];exact h p q h1 h2 h3 hq
theorem Ins.done {i j:Nat} (h:Ins ys a i j) (hj:j=a∨(a<j∧G ys (j-1)≤G ys j)):Sn ys a (i+1):=by
 intro p q h1 h2 h3
 by_cases hq:q=j
 ·subst hq
  rcases hj with hj|⟨hj,hle⟩
  ·omega
  ·by_cases hp:p=q-1
   ·rw [hp];exact hle
   ·have:=h p (q-1) h1 (by omega) (by omega) (by omega);omega
 ·exact h p q h1 h2 (by omega) hq
def Hp (ys:List Int) (f lo n:Nat):Prop:=∀r c,lo≤r→(c=2*r+1∨c=2*r+2)→c<n→G ys (f+c)≤G ys (f+r)
def HpB (ys:List Int) (f lo n r:Nat):Prop:=
 (∀s c,lo≤s→s≠r→(c=2*s+1∨c=2*s+2)→c<n→G ys (f+c)≤G ys (f+s))∧
 (∀s c,lo≤s→(r=2*s+1∨r=2*s+2)→(c=2*r+1∨c=2*r+2)→c<n→G ys (f+c)≤G ys (f+s))
theorem HpB.start {f lo n:Nat} (h:Hp ys f (lo+1) n):HpB ys f lo n lo:=
 ⟨fun s c h1 h2 h3 h4=>h s c (by omega) h3 h4,fun s c h1 h2=>by omega⟩
theorem HpB.done {f lo n r:Nat} (h:HpB ys f lo n r) (hd:∀c,(c=2*r+1∨c=2*r+2)→c<n→G ys (f+c)≤G ys (f+r)):Hp ys f lo n:=fun s c h1 h2 h3=>by
 by_cases hs:s=r
 ·subst hs;exact hd c h2 h3
 ·exact h.1 s c h1 hs h2 h3
theorem HpB.step {f lo n r c:Nat} (h:HpB ys f lo n r) (hl:f+n≤ys.length) (hlo:lo≤r) (hc:c=2*r+1∨c=2*r+2) (hn:c<n) (hlt:G ys (f+r)<G ys (f+c))
 (hbig:∀q,(q=2*r+1∨q=2*r+2)→q<n→G ys (f+q)≤G ys (f+c)):HpB (swp ys (f+r) (f+c)) f lo n c:=by
 have gc:G (swp ys (f+r) (f+c)) (f+c)=G ys (f+r):=by rw [Ro (by omega) (by omega),if_pos rfl]
 have gr:G (swp ys (f+r) (f+c)) (f+r)=G ys (f+c):=by rw [Ro (by omega) (by omega),if_neg (by omega),if_pos rfl]
 have go:∀k,k≠c→k≠r→G (swp ys (f+r) (f+c)) (f+k)=G ys (f+k):=fun k h1 h2=>by rw [Ro (by omega) (by omega),if_neg (by omega),if_neg (by omega)]
 refine ⟨fun s q h1 h2 h3 h4=>?_,fun s q h1 h2 h3 h4=>?_⟩
 ·by_cases hq:q=c
  ·have hs:s=r:=by omega
   subst hq hs
   rw [gc,gr];omega
  ·by_cases hs:s=r
   ·subst hs
    rw [gr,go q hq (by omega)]
    exact hbig q h3 h4
   ·by_cases hqr:q=r
    ·subst hqr
     rw [gr,go s h2 hs]
     exact h.2 s c h1 h3 hc hn
    ·rw [go q hq hqr,go s h2 hs];exact h.1 s q h1 hs h3 h4
 ·have hs:s=r:=by omega
  subst hs
  rw [gr,go q (by omega) (by omega)]
  exact h.1 c q (by omega) (by omega) h3 h4
theorem Hp.top {f n:Nat} (h:Hp ys f 0 n):∀c,c<n→G ys (f+c)≤G ys f:=by
 intro c
 induction c using Nat.strongRecOn with
 | _ c ih=>
  intro hc
  by_cases h0:c=0
  ·subst h0;exact Int.le_refl _
  ·have h1:=h ((c-1)/2) c (by omega) (by omega) hc
   have h2:=ih ((c-1)/2) (by omega) (by omega)
   omega
theorem Hp.frame {f lo n:Nat} (h:Hp ys f lo n) (he:∀k,lo≤k→k<n→G zs (f+k)=G ys (f+k)):Hp zs f lo n:=fun r c h1 h2 h3=>by
 rw [he c (by omega) h3,he r h1 (by omega)];exact h r c h1 h2 h3
end Go.Proofs.YtlhaeingdonaeaaGreat.V
set_option linter.all false
namespace Go.Proofs.YtlhaeingdonaeaaGreat.V
open Go Go.VM Go.Proofs
set_option maxRecDepth 10000
variable {frz:Nat} {H:Qd} {v:Value} {xs:List Int} {e:TypeId}
theorem W0 (o:Ow Fl.int e H v xs) {i:Nat} (h1:i<xs.length):Q6 Tryz.prog H 24 v (.int .i64 i)=some (Yi v i):=by
 have:=o.rd.isI.idx (P:=Tryz.prog) (ty:=24) (e:=3) (by simp) (i:=(i:Int)) (by omega) (by omega)
 simpa using this
theorem W2 (o:Ow Fl.int e H v xs) {i:Nat} (h1:i<xs.length):Xh Tryz.prog H 3 (Yi v i)=some (.int .i64 (G xs i)):=
 o.rd.isI.load (P:=Tryz.prog) (e:=3) (by simp) h1
theorem Z0 (o:Ow Fl.int e H v xs) {i j:Nat} (hi:i<xs.length) (hj:j<xs.length) (hf:∀i∈ids v,frz≤i) :
 ∃H1 H2,Zu Tryz.prog frz H 3 (.int .i64 (G xs j)) (Yi v i)=some H1∧(∀k:Nat,k<xs.length→Q6 Tryz.prog H1 24 v (.int .i64 k)=some (Yi v k))∧
  Zu Tryz.prog frz H1 3 (.int .i64 (G xs i)) (Yi v j)=some H2∧Ow Fl.int e H2 v (swp xs i j)∧Qp H H2 (ids v)∧H2.length=H.length:=by
 obtain ⟨H1,s1,o1,c1,l1⟩:=o.put1 (P:=Tryz.prog) (frz:=frz) rfl (et:=3) (ag:=false) (by simp) hi (x:=.int .i64 (G xs j)) (y:=G xs j) rfl rfl rfl hf
 obtain ⟨H2,s2,o2,c2,l2⟩:=o1.put1 (P:=Tryz.prog) (frz:=frz) rfl (et:=3) (ag:=false) (by simp) (j:=j) (by simpa using hj) (x:=.int .i64 (G xs i)) (y:=G xs i) rfl rfl rfl hf
 exact ⟨H1,H2,s1,fun k hk=>W0 o1 (by simpa using hk),s2,o2,c1.trans c2,by omega⟩
def Dr (H:Qd) (v:Value) (xs:List Int) (e:TypeId) (a b:Nat) (K:List Int→Prop) (H':Qd):Prop:=
 ∃ys,Sw a b xs ys∧K ys∧Ow Fl.int e H' v ys∧Qp H H' (ids v)∧H'.length=H.length
theorem Td (a b:Int):Qh C frz 254 [.int .i64 a,.int .i64 b] H=some (.bool (decide (a<b)),H):=by
 have nan:=fun (F:Nat) (H:Qd) (a:Int)=>show Qh C F 275 [.int .i64 a] H=some (.bool false,H) by
  rw [Qb (fn:=Tryz.f275) Tryz.func275 rfl (by kernel_rfl) rfl]
  simp
 rw [Qb (fn:=Tryz.f254) Tryz.func254 rfl (by kernel_rfl) rfl]
 simp [nan]
theorem Qcw (v:Value) (xs:List Int) (e:TypeId) (a b:Nat) (h:Ow Fl.int e H v xs) (hab:a≤b) (hb:b≤xs.length) (hl:xs.length≤1073741824) (hf:∀i∈ids v,frz≤i) :
 wp (Qh C frz 248 [v,.int .i64 a,.int .i64 b] H) (fun _ H'=>Dr H v xs e a b (fun ys=>Sn ys a b) H'):=by
 rw [Qb (fn:=Tryz.f248) Tryz.func248 rfl (by kernel_rfl) rfl]
 simp
 refine Qw (fun n t H'=>∃i:Nat,n=b-i∧t 0=v∧t 1=.int .i64 a∧t 2=.int .i64 b∧t 6=.int .i64 i∧a+1≤i∧i≤max (a+1) b∧Dr H v xs e a b (fun ys=>Sn ys a i) H') ?_ (n:=b-(a+1))
  ⟨a+1,by simp,by simp,by simp,by simp,by simp;exact Q0 (by omega) (by omega),by omega,by omega,xs,.refl,Sn.short (by omega),h,Qp.refl _,rfl⟩
 rintro n t H' ⟨i,rfl,h0,h1,h2,h6,ha,hi,ys,sw,sr,o,c,l⟩ ih
 simp [h0,h1,h2,h6]
 refine Qm ?_ ?_<;>intro hib
 ·simp [h0,h1,h2,h6]
  refine Qw (fun n t H'=>∃j:Nat,n=j∧t 0=v∧t 1=.int .i64 a∧t 2=.int .i64 b∧t 6=.int .i64 i∧t 7=.int .i64 j∧a≤j∧j≤i∧Dr H v xs e a b (fun ys=>Ins ys a i j) H') ?_ (n:=i)
   ⟨i,rfl,by simp [h0],by simp [h1],by simp [h2],by simp [h6],by simp,by omega,by omega,ys,sw,Ins.start sr,o,c,l⟩
  rintro j t H' ⟨_,rfl,h0,h1,h2,h6,h7,haj,hji,ys,sw,ins,o,c,l⟩ ih2
  have len:=sw.len
  simp [h0,h1,h2,h6,h7]
  rw [Qv (h:=by kernel_rfl)]
  simp [h0,h1,h2,h6,h7]
  refine Yd ?_ ?_<;>intro hja
  ·have e1:IntKind.i64.wrap ((j:Int)-1)=((j-1:Nat):Int):=by rw [Q0 (by omega) (by omega)];omega
   have p1:j<ys.length:=by omega
   have p2:j-1<ys.length:=by omega
   simp [h0,h1,h2,h6,h7,hja,e1,W0 o p1,W0 o p2,W2 o p1,W2 o p2,Td]
   have out:∀t':Env,t' 0=v→t' 1=.int .i64 a→t' 2=.int .i64 b→t' 6=.int .i64 (IntKind.i64.wrap ((i:Int)+1))→(j=a∨(a<j∧G ys (j-1)≤G ys j))→
    ∃i':Nat,b-(i+1)=b-i'∧t' 0=v∧t' 1=.int .i64 a∧t' 2=.int .i64 b∧t' 6=.int .i64 i'∧a+1≤i'∧i'≤max (a+1) b∧Dr H v xs e a b (fun ys=>Sn ys a i') H':=by
    intro t' g0 g1 g2 g6 hj
    exact ⟨i+1,rfl,g0,g1,g2,by rw [g6,Q0 (by omega) (by omega)];simp,by omega,by omega,ys,sw,ins.done hj,o,c,l⟩
   refine Qm ?_ ?_<;>intro hlt
   ·simp [h0,h1,h2,h6,h7]
    rw [Qv (h:=by kernel_rfl)]
    obtain ⟨H1,H2,s1,ix,s2,o2,c2,l2⟩:=Z0 o p1 p2 hf
    simp [h0,h1,h2,h6,h7,e1,W0 o p1,W0 o p2,W2 o p1,W2 o p2,s1,ix _ p1,ix _ p2,s2]
    refine ih2 (j-1) _ _ ⟨j-1,rfl,by simp [h0],by simp [h1],by simp [h2],by simp [h6],by simp [e1],by omega,by omega,_,sw.step j (j-1) (by omega) (by omega),?_,o2,c.trans c2,by omega⟩ (by omega)
    exact ins.step (by omega) hja hji hlt
   ·simp [h0,h1,h2,h6,h7]
    refine ih (b-(i+1)) _ _ (out _ ?_ ?_ ?_ ?_ (.inr ⟨hja,by omega⟩)) (by omega)<;>simp [h0,h1,h2]
  ·simp [h0,h1,h2,h6,h7,hja]
   refine ih (b-(i+1)) _ _ ⟨i+1,rfl,by simp [h0],by simp [h1],by simp [h2],?_,by omega,by omega,ys,sw,ins.done (.inl (by omega)),o,c,l⟩ (by omega)
   simp;exact Q0 (by omega) (by omega)
 ·have:i=max (a+1) b:=by omega
  simp
  exact ⟨ys,sw,fun p q h1 h2 h3=>sr p q h1 h2 (by omega),o,c,l⟩
theorem Fb (v:Value) (xs:List Int) (e:TypeId) (lo n f:Nat) (h:Ow Fl.int e H v xs) (hp:Hp xs f (lo+1) n) (hlo:lo≤n) (hn:f+n≤xs.length) (hl:xs.length≤1073741824) (hf:∀i∈ids v,frz≤i) :
 wp (Qh C frz 270 [v,.int .i64 lo,.int .i64 n,.int .i64 f] H) (fun _ H'=>Dr H v xs e (f+lo) (f+n) (fun ys=>Hp ys f lo n) H'):=by
 rw [Qb (fn:=Tryz.f270) Tryz.func270 rfl (by kernel_rfl) rfl]
 simp
 refine Qw (fun m t H'=>∃r:Nat,m=n-r∧t 0=v∧t 2=.int .i64 n∧t 3=.int .i64 f∧t 8=.int .i64 r∧lo≤r∧r≤n∧Dr H v xs e (f+lo) (f+n) (fun ys=>HpB ys f lo n r) H') ?_ (n:=n-lo)
  ⟨lo,rfl,by simp,by simp,by simp,by simp,by omega,by omega,xs,.refl,HpB.start hp,h,Qp.refl _,rfl⟩
 rintro m t H' ⟨r,rfl,h0,h2,h3,h8,hlr,hrn,ys,sw,hb,o,c,l⟩ ih
 have len:=sw.len
 obtain ⟨c1,hc1⟩:∃c1,c1=2*r+1:=⟨_,rfl⟩
 obtain ⟨c2,hc2⟩:∃c2,c2=2*r+2:=⟨_,rfl⟩
 obtain ⟨d0,hd0⟩:∃d0,d0=f+r:=⟨_,rfl⟩
 obtain ⟨d1,hd1⟩:∃d1,d1=f+c1:=⟨_,rfl⟩
 obtain ⟨d2,hd2⟩:∃d2,d2=f+c2:=⟨_,rfl⟩
 have e1:IntKind.i64.wrap (IntKind.i64.wrap (2*(r:Int))+1)=(c1:Int):=by rw [Q0 (x:=2*(r:Int)) (by omega) (by omega),Q0 (by omega) (by omega)];omega
 simp [h0,h2,h3,h8,e1]
 refine Qm ?_ ?_<;>intro hc
 ·simp
  exact ⟨ys,sw,hb.done (fun q h1 h2=>by omega),o,c,l⟩
 ·have e2:IntKind.i64.wrap ((c1:Int)+1)=(c2:Int):=by rw [Q0 (by omega) (by omega)];omega
  have e3:IntKind.i64.wrap ((f:Int)+(c1:Int))=(d1:Int):=by rw [Q0 (by omega) (by omega)];omega
  have e4:IntKind.i64.wrap ((d1:Int)+1)=(d2:Int):=by rw [Q0 (by omega) (by omega)];omega
  have e5:IntKind.i64.wrap ((f:Int)+(r:Int))=(d0:Int):=by rw [Q0 (by omega) (by omega)];omega
  have p0:d0<ys.length:=by omega
  have p1:d1<ys.length:=by omega
  refine (fun (rest:∀(q:Nat) (t':Env),(q=2*r+1∨q=2*r+2)→q<n→(∀p,(p=2*r+1∨p=2*r+2)→p<n→G ys (f+p)≤G ys (f+q))→
   t' 0=v→t' 2=.int .i64 n→t' 3=.int .i64 f→t' 8=.int .i64 r→t' 9=.int .i64 q→wp (go ?F ?k .normal t' H') ?Q)=>?main) ?rest
  case main=>
   simp [h0,h2,h3,h8,hc,e2]
   rw [Qv (h:=by kernel_rfl)]
   simp [h0,h2,h3,h8,e2]
   refine Yd ?_ ?_<;>intro g1
   ·have p2:d2<ys.length:=by omega
    simp [h0,h2,h3,h8,e2,g1,e3,e4,W0 o p1,W0 o p2,W2 o p1,W2 o p2,Td]
    refine Qm ?_ ?_<;>intro g2<;>simp [e2]
    ·refine rest c2 _ (.inr hc2) g1 (fun p g3 g4=>?_) ?_ ?_ ?_ ?_ ?_<;>try simp [h0,h2,h3,h8]
     rw [← hd2]
     rcases g3 with g3|g3
     ·rw [g3,← hc1,← hd1];omega
     ·rw [g3,← hc2,← hd2];omega
    ·refine rest c1 _ (.inl hc1) (by omega) (fun p g3 g4=>?_) ?_ ?_ ?_ ?_ ?_<;>try simp [h0,h2,h3,h8]
     rw [← hd1]
     rcases g3 with g3|g3
     ·rw [g3,← hc1,← hd1];omega
     ·rw [g3,← hc2,← hd2];omega
   ·simp [h0,h2,h3,h8,e2,g1]
    refine rest c1 _ (.inl hc1) (by omega) (fun p g3 g4=>?_) ?_ ?_ ?_ ?_ ?_<;>try simp [h0,h2,h3,h8]
    have:p=c1:=by omega
    rw [this];omega
  case rest=>
   intro q t hq hqn hbig h0 h2 h3 h8 h9
   obtain ⟨dq,hdq⟩:∃dq,dq=f+q:=⟨_,rfl⟩
   have e6:IntKind.i64.wrap ((f:Int)+(q:Int))=(dq:Int):=by rw [Q0 (by omega) (by omega)];omega
   have pq:dq<ys.length:=by omega
   rw [← hdq] at hbig
   rw [Qv (h:=by kernel_rfl)]
   simp [h0,h2,h3,h8,h9,e5,e6,W0 o p0,W0 o pq,W2 o p0,W2 o pq,Td]
   refine Qm ?_ ?_<;>intro g1
   ·simp [h0,h2,h3,h8,h9]
    rw [Qv (h:=by kernel_rfl)]
    obtain ⟨H1,H2,s1,ix,s2,o2,c3,l2⟩:=Z0 o p0 pq hf
    simp [h0,h2,h3,h8,h9,e5,e6,W0 o p0,W0 o pq,W2 o p0,W2 o pq,s1,ix _ p0,ix _ pq,s2]
    refine ih (n-q) _ _ ⟨q,rfl,by simp [h0],by simp [h2],by simp [h3],by simp,by omega,by omega,_,sw.step d0 dq (by omega) (by omega),?_,o2,c.trans c3,by omega⟩ (by omega)
    subst hd0 hdq
    exact hb.step (by omega) hlr hq hqn g1 hbig
   ·simp
    subst hd0 hdq
    exact ⟨ys,sw,hb.done (fun p g3 g4=>by have:=hbig p g3 g4;omega),o,c,l⟩
theorem vl (v:Value) (xs:List Int) (e:TypeId) (a b:Nat) (h:Ow Fl.int e H v xs) (hab:a<b) (hb:b≤xs.length) (hl:xs.length≤1073741824) (hf:∀i∈ids v,frz≤i) :
 wp (Qh C frz 249 [v,.int .i64 a,.int .i64 b] H) (fun _ H'=>Dr H v xs e a b (fun ys=>Sn ys a b) H'):=by
 rw [Qb (fn:=Tryz.f249) Tryz.func249 rfl (by kernel_rfl) rfl]
 obtain ⟨n,hn⟩:∃n,n=b-a:=⟨_,rfl⟩
 have e1:IntKind.i64.wrap ((b:Int)-a)=(n:Int):=by rw [Q0 (by omega) (by omega)];omega
 have e2:IntKind.i64.wrap ((n:Int)-1)=((n-1:Nat):Int):=by rw [Q0 (by omega) (by omega)];omega
 have e3:IntKind.i64.wrap (((n-1:Nat):Int)/2)=(((n-1)/2+1:Nat):Int)-1:=by rw [Q0 (by omega) (by omega)];omega
 have e4:((n:Int)-1)=((n-1:Nat):Int):=by omega
 have hbn:a+n=b:=by omega
 simp [e1,e2,e3]
 refine Qw (fun m t H'=>∃k:Nat,m=k∧t 0=v∧t 6=.int .i64 a∧t 7=.int .i64 0∧t 8=.int .i64 n∧t 9=.int .i64 ((k:Int)-1)∧k≤n∧Dr H v xs e a b (fun ys=>Hp ys a k n) H') ?_ (n:=(n-1)/2+1)
  ⟨(n-1)/2+1,rfl,by simp,by simp,by simp,by simp,by simp,by omega,xs,.refl,fun r c h1 h2 h3=>by omega,h,Qp.refl _,rfl⟩
 rintro k t H' ⟨_,rfl,h0,h6,h7,h8,h9,hkn,ys,sw,hp,o,c,l⟩ ih
 have len:=sw.len
 simp [h0,h6,h7,h8,h9]
 refine Qm ?_ ?_<;>intro hk
 ·obtain ⟨k,rfl⟩:∃k',k=k'+1:=⟨k-1,by omega⟩
  have e5:((k+1:Nat):Int)-1=(k:Int):=by omega
  rw [e5] at h9
  simp [h0,h6,h7,h8,h9]
  refine Ql (Fb v ys e k n a o hp (by omega) (by omega) (by omega) hf) ?_
  rintro _ H1 ⟨zs,sw1,hp1,o1,c1,l1⟩
  simp [h0,h6,h7,h8,h9]
  refine ih k _ _ ⟨k,rfl,by simp [h0],by simp [h6],by simp [h7],by simp [h8],?_,by omega,zs,sw.trans (sw1.mono (by omega) (by omega)),hp1,o1,c.trans c1,by omega⟩ (by omega)
  simp;rw [Q0 (by omega) (by omega)]
 ·obtain rfl:k=0:=by omega
  simp [h0,h6,h7,h8,h9,e2]
  refine Qw (fun m t H'=>∃k:Nat,m=k∧t 0=v∧t 6=.int .i64 a∧t 7=.int .i64 0∧t 10=.int .i64 ((k:Int)-1)∧k≤n∧
   Dr H v xs e a b (fun ys=>Hp ys a 0 k∧Sn ys (a+k) b∧∀p q,a≤p→p<a+k→a+k≤q→q<b→G ys p≤G ys q) H') ?_ (n:=n)
   ⟨n,rfl,by simp [h0],by simp [h6],by simp [h7],by simp [e4],by omega,ys,sw,⟨hp,Sn.short (by omega),fun p q h1 h2 h3 h4=>by omega⟩,o,c,l⟩
  clear ih h0 h6 h7 h8 h9 o c l hp sw len
  rintro k t H' ⟨_,rfl,h0,h6,h7,h10,hkn,ys,sw,⟨hp,hs,hle⟩,o,c,l⟩ ih
  have len:=sw.len
  simp [h0,h6,h7,h10]
  refine Qm ?_ ?_<;>intro hk
  ·obtain ⟨k,rfl⟩:∃k',k=k'+1:=⟨k-1,by omega⟩
   have e5:((k+1:Nat):Int)-1=(k:Int):=by omega
   rw [e5] at h10
   obtain ⟨d,hd⟩:∃d,d=a+k:=⟨_,rfl⟩
   have e6:IntKind.i64.wrap ((a:Int)+(k:Int))=(d:Int):=by rw [Q0 (by omega) (by omega)];omega
   have p0:a<ys.length:=by omega
   have p1:d<ys.length:=by omega
   obtain ⟨H1,H2,s1,ix,s2,o2,c2,l2⟩:=Z0 o p0 p1 hf
   simp [h0,h6,h7,h10]
   rw [Qv (h:=by kernel_rfl)]
   simp [h0,h6,h7,h10,e6,W0 o p0,W0 o p1,W2 o p0,W2 o p1,s1,ix _ p0,ix _ p1,s2]
   have gs:=fun q=>Ro (xs:=ys) p0 p1 q
   refine Ql (Fb v _ e 0 k a o2 (fun r q h1 h2 h3=>?_) (by omega) (by simp;omega) (by simp;omega) hf) ?_
   ·rw [gs,gs,if_neg (by omega),if_neg (by omega),if_neg (by omega),if_neg (by omega)]
    exact hp r q (by omega) h2 (by omega)
   ·rintro _ H3 ⟨zs,sw1,hp1,o3,c3,l3⟩
    simp only [Nat.add_zero] at sw1
    have hlz:a+k≤(swp ys a d).length:=by simp;omega
    have top:=hp.top
    have hz:∀q,q<a∨a+k≤q→G zs q=G (swp ys a d) q:=fun q hq=>sw1.out hlz hq
    have zd:G zs d=G ys a:=by rw [hz d (by omega),gs,if_pos rfl]
    have zo:∀q,d<q→q<b→G zs q=G ys q:=fun q h1 h2=>by rw [hz q (by omega),gs,if_neg (by omega),if_neg (by omega)]
    have zlo:∀p,a≤p→p<a+k→G zs p≤G ys a∧∀q,d<q→q<b→G zs p≤G ys q:=sw1.all (p:=fun x=>x≤G ys a∧∀q,d<q→q<b→x≤G ys q) hlz (fun p h1 h2=>by
     rw [gs,if_neg (by omega)]
     split
     ·have:=top k (by omega);rw [← hd] at this
      exact ⟨this,fun q g1 g2=>hle d q (by omega) (by omega) (by omega) g2⟩
     ·have:=top (p-a) (by omega);rw [show a+(p-a)=p by omega] at this
      exact ⟨this,fun q g1 g2=>hle p q (by omega) (by omega) (by omega) g2⟩)
    simp [h0,h6,h7,h10]
    refine ih k _ _ ⟨k,rfl,by simp [h0],by simp [h6],by simp [h7],?_,by omega,zs,(sw.step a d (by omega) (by omega)).trans (sw1.mono (by omega) (by omega)),⟨hp1,fun p q h1 h2 h3=>?_,fun p q h1 h2 h3 h4=>?_⟩,o3,c.trans (c2.trans c3),by omega⟩ (by omega)
    ·simp;rw [Q0 (by omega) (by omega)]
    ·rw [zo q (by omega) h3]
     by_cases hpd:p=d
     ·rw [hpd,zd];exact hle a q (by omega) (by omega) (by omega) h3
     ·rw [zo p (by omega) (by omega)];exact hs p q (by omega) h2 h3
    ·by_cases hq:q=d
     ·rw [hq,zd];exact (zlo p h1 h2).1
     ·rw [zo q (by omega) h4];exact (zlo p h1 h2).2 q (by omega) h4
  ·obtain rfl:k=0:=by omega
   simp
   exact ⟨ys,sw,hs,o,c,l⟩
theorem mh (v:Value) (xs:List Int) (e:TypeId) (a b:Nat) (h:Ow Fl.int e H v xs) (hab:a<b) (hb:b≤xs.length) (hl:xs.length≤1073741824) (hf:∀i∈ids v,frz≤i) :
 wp (Qh C frz 252 [v,.int .i64 a,.int .i64 b] H) (fun _ H'=>Dr H v xs e a b (fun ys=>True) H'):=by
 rw [Qb (fn:=Tryz.f252) Tryz.func252 rfl (by kernel_rfl) rfl]
 have e1:IntKind.i64.wrap ((b:Int)-1)=((b-1:Nat):Int):=by rw [Q0 (by omega) (by omega)];omega
 simp [e1]
 refine Qw (fun m t H'=>∃i j:Nat,m=j-i∧t 0=v∧t 6=.int .i64 i∧t 7=.int .i64 j∧a≤i∧j<b∧i≤j+1∧Dr H v xs e a b (fun ys=>True) H') ?_ (n:=b-1-a)
  ⟨a,b-1,rfl,by simp,by simp,by simp,by omega,by omega,by omega,xs,.refl,trivial,h,Qp.refl _,rfl⟩
 rintro m t H' ⟨i,j,rfl,h0,h6,h7,hi,hj,hij,ys,sw,_,o,c,l⟩ ih
 have len:=sw.len
 simp [h0,h6,h7]
 refine Qm ?_ ?_<;>intro hk
 ·have p0:i<ys.length:=by omega
  have p1:j<ys.length:=by omega
  obtain ⟨H1,H2,s1,ix,s2,o2,c2,l2⟩:=Z0 o p0 p1 hf
  simp [h0,h6,h7]
  rw [Qv (h:=by kernel_rfl)]
  simp [h0,h6,h7,W0 o p0,W0 o p1,W2 o p0,W2 o p1,s1,ix _ p0,ix _ p1,s2]
  refine ih (j-1-(i+1)) _ _ ⟨i+1,j-1,rfl,by simp [h0],?_,?_,by omega,by omega,by omega,_,sw.step i j (by omega) (by omega),trivial,o2,c.trans c2,by omega⟩ (by omega)
  ·simp;rw [Q0 (by omega) (by omega)]
  ·simp;rw [Q0 (by omega) (by omega)];omega
 ·simp
  exact ⟨ys,sw,trivial,o,c,l⟩
def yj (H:Qd) (r:Nat):Prop:=∃s,H[r]? = some ⟨[.int .i64 s],0,3⟩
theorem Dp (v:Value) (xs:List Int) (e:TypeId) (a b r:Nat) (h:Ow Fl.int e H v xs) (ha:a<xs.length) (hb:b<xs.length) (hr:yj H r) (hf:frz≤r) :
 wp (Qh C frz 281 [v,.int .i64 a,.int .i64 b,.pointer (some ⟨r,0,some 0⟩)] H)
  (fun u H'=>(∃a' b':Nat,u=.tuple #[.int .i64 a',.int .i64 b']∧((a'=a∧b'=b)∨(a'=b∧b'=a)))∧Qp H H' [r]∧yj H' r):=by
 obtain ⟨s,hs⟩:=hr
 rw [Qb (fn:=Tryz.f281) Tryz.func281 rfl (by kernel_rfl) rfl]
 simp
 rw [Qv (h:=by kernel_rfl)]
 simp [W0 h ha,W0 h hb,W2 h ha,W2 h hb,Td]
 refine Qm ?_ ?_<;>intro g1
 ·simp [vnil,VM.look,hs,hf]
  exact ⟨⟨b,a,⟨rfl,rfl⟩,.inr ⟨rfl,rfl⟩⟩,Qn _ _,_,Qq hs⟩
 ·simp
  exact ⟨⟨a,b,⟨rfl,rfl⟩,.inl ⟨rfl,rfl⟩⟩,Qp.refl _,_,hs⟩
theorem yf (v:Value) (xs:List Int) (e:TypeId) (a b c r:Nat) (h:Ow Fl.int e H v xs) (ha:a<xs.length) (hb:b<xs.length) (hc:c<xs.length) (hr:yj H r) (hf:frz≤r) (hn:r∉ids v) :
 wp (Qh C frz 274 [v,.int .i64 a,.int .i64 b,.int .i64 c,.pointer (some ⟨r,0,some 0⟩)] H)
  (fun u H'=>(∃m:Nat,u=.int .i64 m∧(m=a∨m=b∨m=c))∧Qp H H' [r]∧yj H' r):=by
 rw [Qb (fn:=Tryz.f274) Tryz.func274 rfl (by kernel_rfl) rfl]
 simp
 refine Ql (Dp v xs e a b r h ha hb hr hf) ?_
 rintro _ H1 ⟨⟨a1,b1,rfl,h1⟩,c1,r1⟩
 have o1:=h.chg c1 (fun i hi hh=>by simp at hh;subst hh;exact hn hi)
 simp
 refine Ql (Dp v xs e b1 c r o1 (by omega) hc r1 hf) ?_
 rintro _ H2 ⟨⟨b2,c2,rfl,h2⟩,c2',r2⟩
 have o2:=o1.chg c2' (fun i hi hh=>by simp at hh;subst hh;exact hn hi)
 simp
 refine Ql (Dp v xs e a1 b2 r o2 (by omega) (by omega) r2 hf) ?_
 rintro _ H3 ⟨⟨a3,b3,rfl,h3⟩,c3,r3⟩
 simp
 exact ⟨⟨b3,rfl,by omega⟩,c1.trans (c2'.trans c3),r3⟩
theorem Nc (v:Value) (xs:List Int) (e:TypeId) (a r:Nat) (h:Ow Fl.int e H v xs) (h0:0<a) (ha:a+1<xs.length) (hl:xs.length≤1073741824) (hr:yj H r) (hf:frz≤r) (hn:r∉ids v) :
 wp (Qh C frz 273 [v,.int .i64 a,.pointer (some ⟨r,0,some 0⟩)] H)
  (fun u H'=>(∃m:Nat,u=.int .i64 m∧(m+1=a∨m=a∨m=a+1))∧Qp H H' [r]∧yj H' r):=by
 rw [Qb (fn:=Tryz.f273) Tryz.func273 rfl (by kernel_rfl) rfl]
 have e1:IntKind.i64.wrap ((a:Int)-1)=((a-1:Nat):Int):=by rw [Q0 (by omega) (by omega)];omega
 have e2:IntKind.i64.wrap ((a:Int)+1)=((a+1:Nat):Int):=by rw [Q0 (by omega) (by omega)];omega
 simp [e1]
 rw [e2]
 refine Ql (yf v xs e (a-1) a (a+1) r h (by omega) (by omega) ha hr hf hn) ?_
 rintro _ H1 ⟨⟨m,rfl,hm⟩,c1,r1⟩
 simp
 exact ⟨⟨m,rfl,by omega⟩,c1,r1⟩
theorem Dx (v:Value) (xs:List Int) (e:TypeId) (a b:Nat) (h:Ow Fl.int e H v xs) (hab:a+8≤b) (hb:b≤xs.length) (hl:xs.length≤1073741824) (hf:frz≤H.length) :
 wp (Qh C frz 251 [v,.int .i64 a,.int .i64 b] H)
  (fun u H'=>(∃(m:Nat) (k:Int),u=.tuple #[.int .i64 m,.int .i64 k]∧a≤m∧m<b)∧Qp H H' []):=by
 rw [Qb (fn:=Tryz.f251) Tryz.func251 rfl (by kernel_rfl) rfl]
 obtain ⟨n,hn⟩:∃n,n=b-a:=⟨_,rfl⟩
 have e1:∀[Inhabited Unit],IntKind.i64.wrap ((b:Int)-a)=(n:Int):=by intro _;rw [Q0 (by omega) (by omega)];omega
 obtain ⟨q,hq⟩:∃q,q=n/4:=⟨_,rfl⟩
 have e2:∀[Inhabited Unit],IntKind.i64.wrap ((n:Int)/4)=(q:Int):=by intro _;rw [Q0 (by omega) (by omega)];omega
 obtain ⟨q2,hq2⟩:∃q2,q2=q*2:=⟨_,rfl⟩
 obtain ⟨q3,hq3⟩:∃q3,q3=q*3:=⟨_,rfl⟩
 obtain ⟨i0,hi0⟩:∃i0,i0=a+q:=⟨_,rfl⟩
 obtain ⟨i1,hi1⟩:∃i1,i1=a+q2:=⟨_,rfl⟩
 obtain ⟨i2,hi2⟩:∃i2,i2=a+q3:=⟨_,rfl⟩
 have e3:∀[Inhabited Unit],IntKind.i64.wrap (q:Int)=(q:Int):=by intro _;rw [Q0 (by omega) (by omega)]
 have e4:∀[Inhabited Unit],IntKind.i64.wrap ((q:Int)*2)=(q2:Int):=by intro _;rw [Q0 (by omega) (by omega)];omega
 have e5:∀[Inhabited Unit],IntKind.i64.wrap ((q:Int)*3)=(q3:Int):=by intro _;rw [Q0 (by omega) (by omega)];omega
 have e6:∀[Inhabited Unit],IntKind.i64.wrap ((a:Int)+q)=(i0:Int):=by intro _;rw [Q0 (by omega) (by omega)];omega
 have e7:∀[Inhabited Unit],IntKind.i64.wrap ((a:Int)+q2)=(i1:Int):=by intro _;rw [Q0 (by omega) (by omega)];omega
 have e8:∀[Inhabited Unit],IntKind.i64.wrap ((a:Int)+q3)=(i2:Int):=by intro _;rw [Q0 (by omega) (by omega)];omega
 have g8:(8:Int)≤n:=by omega
 have lt:=h.lt
 have nin:H.length∉ids v:=fun hh=>by have:=lt _ hh;omega
 simp [e1,e2,e3,e4,e5,e6,e7,e8,g8]
 have b0:yj (H++[⟨[.int .i64 0],0,3⟩]) H.length:=⟨0,by simp⟩
 have o0:Ow Fl.int e (H++[⟨[.int .i64 0],0,3⟩]) v xs:=h.app
 refine Et (F:=?F) (k:=?k) (d:=?d) (Q:=?Q) (fun r t=>∃(i0 i1 i2:Nat) (H1:Qd),r=Qh C frz 274 [v,.int .i64 i0,.int .i64 i1,.int .i64 i2,.pointer (some ⟨H.length,0,some 0⟩)] H1∧
  (a≤i0∧i0<b)∧(a≤i1∧i1<b)∧(a≤i2∧i2<b)∧t 9=.pointer (some ⟨H.length,0,some 0⟩)∧
  Qp (H++[⟨[.int .i64 0],0,3⟩]) H1 [H.length]∧yj H1 H.length) ?main ?rest
 case main=>
  intro rest
  refine Qm ?_ ?_<;>intro g1
  ·simp [e6,e7,e8]
   refine Ql (Nc v xs e i0 H.length o0 (by omega) (by omega) hl b0 hf nin) ?_
   rintro _ H1 ⟨⟨j0,rfl,hj0⟩,c1,r1⟩
   have o1:=o0.chg c1 (fun i hi hh=>by simp at hh;subst hh;exact nin hi)
   simp [e6,e7,e8]
   refine Ql (Nc v xs e i1 H.length o1 (by omega) (by omega) hl r1 hf nin) ?_
   rintro _ H2 ⟨⟨j1,rfl,hj1⟩,c2,r2⟩
   have o2:=o1.chg c2 (fun i hi hh=>by simp at hh;subst hh;exact nin hi)
   simp [e6,e7,e8]
   refine Ql (Nc v xs e i2 H.length o2 (by omega) (by omega) hl r2 hf nin) ?_
   rintro _ H3 ⟨⟨j2,rfl,hj2⟩,c3,r3⟩
   simp [e6,e7,e8]
   refine rest _ _ ?_
   exact ⟨j0,j1,j2,H3,rfl,by omega,by omega,by omega,by simp,c1.trans (c2.trans c3),r3⟩
  ·simp [e6,e7,e8]
   refine rest _ _ ?_
   exact ⟨i0,i1,i2,_,rfl,by omega,by omega,by omega,by simp,Qp.refl _,b0⟩
 case rest=>
  rintro _ t ⟨i0,i1,i2,H1,rfl,h0,h1,h2,t9,c1,r1⟩
  have o1:=o0.chg c1 (fun i hi hh=>by simp at hh;subst hh;exact nin hi)
  refine Ql (yf v xs e i0 i1 i2 H.length o1 (by omega) (by omega) (by omega) r1 hf nin) ?_
  rintro _ H2 ⟨⟨m,rfl,hm⟩,c2,s,hs⟩
  have cc:Qp H H2 []:=(Qp.app (L:=[⟨[.int .i64 0],0,3⟩]) []).trans' (c1.trans c2) (fun i hi=>by simp at hi;subst hi;right;simp)
  simp [t9,VM.look,hs]
  refine Qm ?_ ?_<;>intro g2<;>simp
  ·exact ⟨⟨m,rfl,by omega⟩,cc⟩
  ·refine Qm ?_ ?_<;>intro g3<;>simp
   ·exact ⟨⟨m,rfl,by omega⟩,cc⟩
   ·exact ⟨⟨m,rfl,by omega⟩,cc⟩
def Pg (y:Nat):Nat:=if y=0 then 0 else y.log2+1
def Qo1 (T:ByteArray):Bool:=(List.range 256).all fun y=>match T[y]? with|some b=>b.toNat == Pg y|none=>false
theorem N7 {y:Nat} (h:y<256):y<2 ^ Pg y∧(2 ^ Pg y≤2*y∨y=0)∧Pg y≤8:=by
 have:∀y:Fin 256,y.val<2 ^ Pg y.val∧(2 ^ Pg y.val≤2*y.val∨y.val=0)∧Pg y.val≤8:=by decide +kernel
 exact this ⟨y,h⟩
theorem A8 {x z s n:Nat} (hz:z=x/2 ^ s) (h1:z<2 ^ n) (h2:2 ^ n≤2*z∨z=0) (h0:0<z):x<2 ^ (n+s)∧(2 ^ (n+s)≤2*x∨x=0):=by
 have hp:0<2 ^ s:=Nat.pow_pos (by decide)
 rw [Nat.pow_add]
 subst hz
 refine ⟨(Nat.div_lt_iff_lt_mul hp).1 h1,.inl ?_⟩
 have h3:x/2 ^ s*2 ^ s≤x:=Nat.div_mul_le_self _ _
 have h4:2 ^ n*2 ^ s≤2*(x/2 ^ s)*2 ^ s:=Nat.mul_le_mul_right _ (by omega)
 rw [Nat.mul_assoc] at h4
 omega
theorem Px {T:ByteArray} {y:Nat} (hy:y<256) (h:Qo1 T=true):Ie Tryz.prog 9 (.string T) (.int .u8 (IntKind.u8.wrap (y:Int)))=some (.int .u8 (Pg y)):=by
 have e1:IntKind.u8.wrap (y:Int)=(y:Int):=by show (y:Int)%256=y;omega
 have:=List.all_eq_true.1 h y (by simpa using hy)
 have hn:(0:Int)≤y:=by omega
 rw [e1]
 simp only [Ie,Q02,hn,if_true,Int.toNat_natCast]
 cases hT:T[y]? with
 | none=>rw [hT] at this;simp at this
 | some b=>rw [hT] at this;simp at this;simp [this]
theorem Al (x j:Nat) (hj:j≤64):Af .u64 (x:Int) (j:Int)=((x/2 ^ j:Nat):Int):=wu .u64 x j hj
theorem Qik (x:Nat) (hx:x<2147483648) :
 wp (Qh C frz 258 [.int .u64 x] H) (fun r H'=>H'=H∧∃n:Nat,r=.int .i64 n∧x<2 ^ n∧(2 ^ n≤2*x∨x=0)∧n≤32):=by
 rw [Qb (fn:=Tryz.f258) Tryz.func258 rfl (by kernel_rfl) rfl]
 have g1:¬(4294967296:Int)≤x:=by omega
 have e8:IntKind.i64.wrap 8=8:=rfl
 have e16:IntKind.i64.wrap 16=16:=rfl
 have e24:IntKind.i64.wrap 24=24:=rfl
 simp [g1]
 refine Qm ?_ ?_<;>intro g2
 ·obtain ⟨y,hy⟩:∃y,y=x/65536:=⟨_,rfl⟩
  have s16:Af .u64 (x:Int) 16=(y:Int):=by rw [hy];exact Al x 16 (by decide)
  simp [s16]
  refine Qm ?_ ?_<;>intro g3
  ·obtain ⟨z,hz⟩:∃z,z=y/256:=⟨_,rfl⟩
   have s8:Af .u64 (y:Int) 8=(z:Int):=by rw [hz];exact Al y 8 (by decide)
   simp [s8]
   rw [Px (y:=z) (by omega) (by decide +kernel)]
   obtain ⟨q1,q2,q3⟩:=N7 (y:=z) (by omega)
   have w8:IntKind.i64.wrap (Pg z:Int)=(Pg z:Int):=Q0 (by omega) (by omega)
   simp [w8,e8,e16,e24]
   refine ⟨Pg z+24,?_,?_⟩
   ·rw [Q0 (by omega) (by omega)];omega
   ·have:=A8 (x:=x) (z:=z) (s:=24) (by omega) q1 q2 (by omega);omega
  ·simp
   rw [Px (y:=y) (by omega) (by decide +kernel)]
   obtain ⟨q1,q2,q3⟩:=N7 (y:=y) (by omega)
   have w8:IntKind.i64.wrap (Pg y:Int)=(Pg y:Int):=Q0 (by omega) (by omega)
   simp [w8,e8,e16,e24]
   refine ⟨Pg y+16,?_,?_⟩
   ·rw [Q0 (by omega) (by omega)];omega
   ·have:=A8 (x:=x) (z:=y) (s:=16) (by omega) q1 q2 (by omega);omega
 ·simp
  refine Qm ?_ ?_<;>intro g3
  ·obtain ⟨z,hz⟩:∃z,z=x/256:=⟨_,rfl⟩
   have s8:Af .u64 (x:Int) 8=(z:Int):=by rw [hz];exact Al x 8 (by decide)
   simp [s8]
   rw [Px (y:=z) (by omega) (by decide +kernel)]
   obtain ⟨q1,q2,q3⟩:=N7 (y:=z) (by omega)
   have w8:IntKind.i64.wrap (Pg z:Int)=(Pg z:Int):=Q0 (by omega) (by omega)
   simp [w8,e8,e16,e24]
   refine ⟨Pg z+8,?_,?_⟩
   ·rw [Q0 (by omega) (by omega)];omega
   ·have:=A8 (x:=x) (z:=z) (s:=8) (by omega) q1 q2 (by omega);omega
  ·simp
   rw [Px (y:=x) (by omega) (by decide +kernel)]
   obtain ⟨q1,q2,q3⟩:=N7 (y:=x) (by omega)
   have w8:IntKind.i64.wrap (Pg x:Int)=(Pg x:Int):=Q0 (by omega) (by omega)
   simp [w8,e8,e16,e24]
   exact ⟨Pg x,rfl,q1,q2,by omega⟩
theorem Qjb (x:Nat) (hx:x<2147483648) :
 wp (Qh C frz 229 [.int .u64 x] H) (fun r H'=>H'=H∧∃n:Nat,r=.int .i64 n∧x<2 ^ n∧(2 ^ n≤2*x∨x=0)∧n≤32):=by
 rw [Qb (fn:=Tryz.f229) Tryz.func229 rfl (by kernel_rfl) rfl]
 simp
 refine Ql (Qik x hx) ?_
 rintro _ _ ⟨rfl,n,rfl,h⟩
 simp
 exact ⟨n,rfl,h⟩
theorem Qcq {x:Int} (h0:0≤x) (h1:x<18446744073709551616):IntKind.u64.wrap x=x:=by show x%18446744073709551616=x;omega
theorem Qlq (x:Nat) (hx:x<2147483648) :
 wp (Qh C frz 271 [.int .i64 x] H) (fun r H'=>H'=H∧∃m:Nat,r=.int .u64 m∧x<m∧(m≤2*x∨x=0)∧m≤4294967296):=by
 rw [Qb (fn:=Tryz.f271) Tryz.func271 rfl (by kernel_rfl) rfl]
 have e1:IntKind.u64.wrap (x:Int)=(x:Int):=Qcq (by omega) (by omega)
 simp [e1]
 refine Ql (Qjb x hx) ?_
 rintro _ _ ⟨rfl,n,rfl,h1,h2,h3⟩
 have hm:2 ^ n≤2 ^ 32:=Nat.pow_le_pow_right (by decide) h3
 have e2:Qhp .u64 1 (n:Int)=((2 ^ n:Nat):Int):=by
  unfold Qhp
  rw [Int.toNat_natCast,Nat.min_eq_left (show n≤IntKind.u64.bits by show n≤64;omega),Int.one_mul,Qcq (Int.le_of_lt (Int.pow_pos (by decide))) (by
   have:((2:Int) ^ n)=((2 ^ n:Nat):Int):=by simp
   rw [this];omega)]
  simp
 have hn:(0:Int)≤n:=by omega
 simp [Zp,hn,e2]
 exact ⟨2 ^ n,by simp,h1,h2,by omega⟩
def Qix (H:Qd) (r:Nat):Prop:=∃s,H[r]? = some ⟨[.int .u64 s],0,248⟩
theorem Qi0 (r:Nat) (hr:Qix H r) (hf:frz≤r) :
 wp (Qh C frz 272 [.pointer (some ⟨r,0,some 0⟩)] H) (fun u H'=>(∃z,u=.int .u64 z)∧Qp H H' [r]∧Qix H' r):=by
 obtain ⟨s,hs⟩:=hr
 rw [Qb (fn:=Tryz.f272) Tryz.func272 rfl (by kernel_rfl) rfl]
 simp
 rw [Qv (h:=by kernel_rfl)]
 simp [vnil,VM.look,hs,hf]
 have l:=Wj hs
 rw [Qv (h:=by kernel_rfl)]
 simp [vnil,VM.look,hs,hf,l]
 rw [Qv (h:=by kernel_rfl)]
 simp [vnil,VM.look,hs,hf,l]
 exact ⟨Qn _ _,_,by simp [l];rfl⟩
theorem Qbv (a:Int) (b:Nat) (hb:b<18446744073709551616):0≤qx .u64 a b∧qx .u64 a b≤b:=by
 unfold qx
 have h1:(BitVec.ofInt IntKind.u64.bits a&&& BitVec.ofInt IntKind.u64.bits (b:Int)).toNat≤b:=by
  rw [BitVec.toNat_and]
  refine Nat.le_trans Nat.and_le_right ?_
  rw [BitVec.toNat_ofInt]
  have:IntKind.u64.bits=64:=rfl
  rw [this];omega
 rw [Qcq (by omega) (by omega)]
 omega
theorem kx (v:Value) (xs:List Int) (e:TypeId) (a b:Nat) (h:Ow Fl.int e H v xs) (hab:a≤b) (hb:b≤xs.length) (hl:xs.length≤1073741824) (hf:∀i∈ids v,frz≤i) (hF:frz≤H.length) :
 wp (Qh C frz 250 [v,.int .i64 a,.int .i64 b] H) (fun _ H'=>∃ys,Sw a b xs ys∧Ow Fl.int e H' v ys∧Qp H H' (ids v)):=by
 rw [Qb (fn:=Tryz.f250) Tryz.func250 rfl (by kernel_rfl) rfl]
 obtain ⟨n,hn⟩:∃n,n=b-a:=⟨_,rfl⟩
 have e1:∀[Inhabited Unit],IntKind.i64.wrap ((b:Int)-a)=(n:Int):=by intro _;rw [Q0 (by omega) (by omega)];omega
 simp [e1]
 refine Qm ?_ ?_<;>intro g1
 ·have lt:=h.lt
  have nin:H.length∉ids v:=fun hh=>by have:=lt _ hh;omega
  have e2:∀[Inhabited Unit],IntKind.u64.wrap (n:Int)=(n:Int):=by intro _;exact Qcq (by omega) (by omega)
  have e3:∀[Inhabited Unit],IntKind.i64.wrap (n:Int)=(n:Int):=by intro _;exact Q0 (by omega) (by omega)
  simp [e1,e2,VM.look,hF]
  refine Ql (Qlq n (by omega)) ?_
  rintro _ _ ⟨rfl,m,rfl,m1,m2,m3⟩
  obtain ⟨q,hq⟩:∃q,q=n/4:=⟨_,rfl⟩
  obtain ⟨q2,hq2⟩:∃q2,q2=q*2:=⟨_,rfl⟩
  obtain ⟨s,hs⟩:∃s,s=a+q2:=⟨_,rfl⟩
  have e4:∀[Inhabited Unit],IntKind.i64.wrap ((n:Int)/4)=(q:Int):=by intro _;rw [Q0 (by omega) (by omega)];omega
  have e5:∀[Inhabited Unit],IntKind.i64.wrap ((q:Int)*2)=(q2:Int):=by intro _;rw [Q0 (by omega) (by omega)];omega
  have e6:∀[Inhabited Unit],IntKind.i64.wrap ((a:Int)+q2)=(s:Int):=by intro _;rw [Q0 (by omega) (by omega)];omega
  have e7:∀[Inhabited Unit],IntKind.i64.wrap ((s:Int)-1)=((s-1:Nat):Int):=by intro _;rw [Q0 (by omega) (by omega)];omega
  have e8:∀[Inhabited Unit],IntKind.i64.wrap ((s:Int)+1)=((s+1:Nat):Int):=by intro _;rw [Q0 (by omega) (by omega)];omega
  have e9:∀[Inhabited Unit],IntKind.u64.wrap ((m:Int)-1)=((m-1:Nat):Int):=by intro _;rw [Qcq (by omega) (by omega)];omega
  simp [e1,e2,e3,e4,e5,e6,e7]
  refine Qw (fun c t H'=>∃i:Nat,c=s+2-i∧s≤i+1∧i≤s+2∧t 0=v∧t 1=.int .i64 a∧t 6=.int .i64 n∧t 7=.pointer (some ⟨H.length,0,some 0⟩)∧t 8=.int .u64 m∧t 9=.int .i64 i∧
   Qix H' H.length∧Qp (H++[⟨[.int .u64 n],0,248⟩]) H' (H.length::ids v)∧∃ys,Sw a b xs ys∧Ow Fl.int e H' v ys) ?_ (n:=s+2-(s-1))
   ⟨s-1,rfl,by omega,by omega,by simp,by simp,by simp,by simp,by simp,by simp,⟨n,by simp⟩,Qp.refl _,xs,.refl,h.app⟩
  rintro c t H1 ⟨i,rfl,hi1,hi2,t0,t1,t6,t7,t8,t9,bx,ch,ys,sw,o⟩ ih
  have len:=sw.len
  simp [t0,t1,t6,t7,t8,t9,e4,e5,e6,e8]
  refine Qm ?_ ?_<;>intro g2
  ·have p0:i<ys.length:=by omega
   simp [t0,t1,t6,t7,t8,t9]
   refine Ql (Qi0 H.length bx hF) ?_
   rintro _ H2 ⟨⟨z,rfl⟩,c2,bx2⟩
   have o2:=o.chg c2 (fun i hi hh=>by simp at hh;subst hh;exact nin hi)
   obtain ⟨k,hk⟩:∃k:Nat,qx .u64 z ((m-1:Nat):Int)=k:=⟨_,(Int.toNat_of_nonneg (Qbv z (m-1) (by omega)).1).symm⟩
   have hk2:=(Qbv z (m-1) (by omega)).2
   rw [hk] at hk2
   have e10:∀[Inhabited Unit],IntKind.i64.wrap (k:Int)=(k:Int):=by intro _;exact Q0 (by omega) (by omega)
   have hk':∀[Inhabited Unit],qx .u64 z ((m-1:Nat):Int)=k:=by intro _;exact hk
   clear hk
   simp [t0,t1,t6,t7,t8,t9,e9,hk',e10]
   refine Rp (F:=?F) (k:=?k) (Q:=?Q) (fun t H'=>∃d:Nat,d<n∧H'=H2∧t 0=v∧t 1=.int .i64 a∧t 6=.int .i64 n∧t 7=.pointer (some ⟨H.length,0,some 0⟩)∧t 8=.int .u64 m∧t 9=.int .i64 i∧t 10=.int .i64 d) ?main ?rest
   case main=>
    intro rest
    refine Qm ?_ ?_<;>intro g3
    ·have e11:∀[Inhabited Unit],IntKind.i64.wrap ((k:Int)-n)=((k-n:Nat):Int):=by intro _;rw [Q0 (by omega) (by omega)];omega
     simp [t0,t1,t6,t7,t8,t9,e9,hk',e10,e11]
     refine rest _ _ ?_
     exact ⟨k-n,by omega,rfl,by simp [t0],by simp [t1],by simp [t6],by simp [t7],by simp [t8],by simp [t9],by simp⟩
    ·simp
     refine rest _ _ ?_
     exact ⟨k,by omega,rfl,by simp [t0],by simp [t1],by simp [t6],by simp [t7],by simp [t8],by simp [t9],by simp⟩
   case rest=>
    rintro t _ ⟨d,hd,rfl,t0,t1,t6,t7,t8,t9,t10⟩
    obtain ⟨j,hj⟩:∃j,j=a+d:=⟨_,rfl⟩
    have e12:∀[Inhabited Unit],IntKind.i64.wrap ((a:Int)+d)=(j:Int):=by intro _;rw [Q0 (by omega) (by omega)];omega
    have p1:j<ys.length:=by omega
    obtain ⟨H3,H4,s1,ix,s2,o4,c4,l4⟩:=Z0 o2 p0 p1 hf
    rw [Qv (h:=by kernel_rfl)]
    simp [t0,t1,t6,t7,t8,t9,t10,e12,W0 o2 p0,W0 o2 p1,W2 o2 p0,W2 o2 p1,s1,ix _ p0,ix _ p1,s2]
    obtain ⟨sx,hsx⟩:=bx2
    have bx4:Qix H4 H.length:=⟨sx,Qa hsx c4 nin⟩
    refine ih (s+2-(i+1)) _ _ ⟨i+1,rfl,by omega,by omega,by simp [t0],by simp [t1],by simp [t6],by simp [t7],by simp [t8],?_,bx4,?_,_,sw.step i j (by omega) (by omega),o4⟩ (by omega)
    ·simp;rw [Q0 (by omega) (by omega)]
    ·exact ch.trans ((c2.mono (by simp)).trans (c4.mono (fun q hq=>by simp [hq])))
  ·simp
   exact ⟨ys,sw,o,(Qp.app (ids v)).trans' ch (fun q hq=>by
    rcases List.mem_cons.1 hq with hq|hq
    ·right;simp [hq]
    ·exact .inl hq)⟩
 ·simp
  exact ⟨xs,.refl,h,Qp.refl _⟩
def Pt (ys:List Int) (a b:Nat) (x:Int) (P:Int→Prop) (i j:Nat):Prop:=G ys a=x∧(∀k,a<k→k<i→P (G ys k))∧∀k,j<k→k<b→¬P (G ys k)
section
variable {ys:List Int} {a b i j:Nat} {x:Int} {P:Int→Prop}
theorem Pt.incr (h:Pt ys a b x P i j) (ha:a<i) (hp:P (G ys i)):Pt ys a b x P (i+1) j:=⟨h.1,fun k h1 h2=>by
 by_cases hk:k=i
 ·rw [hk];exact hp
 ·exact h.2.1 k h1 (by omega),h.2.2⟩
theorem Pt.decr (h:Pt ys a b x P i j) (hj:0<j) (hp:¬P (G ys j)):Pt ys a b x P i (j-1):=⟨h.1,h.2.1,fun k h1 h2=>by
 by_cases hk:k=j
 ·rw [hk];exact hp
 ·exact h.2.2 k (by omega) h2⟩
theorem Pt.swap (h:Pt ys a b x P i j) (ha:a<i) (hij:i<j) (hj:j<b) (hb:b≤ys.length) (hi:¬P (G ys i)) (hp:P (G ys j)):Pt (swp ys i j) a b x P (i+1) (j-1):=by
 have g:=fun k=>Ro (xs:=ys) (i:=i) (j:=j) (by omega) (by omega) k
 refine ⟨?_,fun k h1 h2=>?_,fun k h1 h2=>?_⟩
 ·rw [g,if_neg (by omega),if_neg (by omega)];exact h.1
 ·rw [g,if_neg (by omega)]
  split
  ·exact hp
  ·exact h.2.1 k h1 (by omega)
 ·rw [g]
  split
  ·exact hi
  ·rw [if_neg (by omega)];exact h.2.2 k (by omega) h2
theorem Pt.fin (h:Pt ys a b x P i j) (hij:i=j+1) (ha:a<i) (hj:j<b) (hb:b≤ys.length):G (swp ys j a) j=x∧(∀k,a≤k→k<j→P (G (swp ys j a) k))∧∀k,j<k→k<b→¬P (G (swp ys j a) k):=by
 have g:=fun k=>Ro (xs:=ys) (i:=j) (j:=a) (by omega) (by omega) k
 refine ⟨?_,fun k h1 h2=>?_,fun k h1 h2=>?_⟩
 ·rw [g]
  split
  ·rename_i e;rw [e];exact h.1
  ·rw [if_pos rfl];exact h.1
 ·rw [g]
  split
  ·exact h.2.1 j (by omega) (by omega)
  ·rw [if_neg (by omega)];exact h.2.1 k (by omega) (by omega)
 ·rw [g,if_neg (by omega),if_neg (by omega)];exact h.2.2 k h1 h2
end
theorem Qfw (v:Value) (xs:List Int) (e:TypeId) (a b p:Nat) (h:Ow Fl.int e H v xs) (hp:a≤p∧p<b) (hb:b≤xs.length) (hl:xs.length≤1073741824) (hf:∀i∈ids v,frz≤i) :
 wp (Qh C frz 255 [v,.int .i64 a,.int .i64 b,.int .i64 p] H) (fun r H'=>∃m:Nat,r=.int .i64 m∧a<m∧m≤b∧
  Dr H v xs e a b (fun ys=>(∀k,a≤k→k<m→¬G xs p<G ys k)∧∀k,m≤k→k<b→G xs p<G ys k) H'):=by
 rw [Qb (fn:=Tryz.f255) Tryz.func255 rfl (by kernel_rfl) rfl]
 obtain ⟨x,hx⟩:∃x,x=G xs p:=⟨_,rfl⟩
 obtain ⟨i0,hi0⟩:∃i0,i0=a+1:=⟨_,rfl⟩
 obtain ⟨j0,hj0⟩:∃j0,j0=b-1:=⟨_,rfl⟩
 have e2:∀[Inhabited Unit],IntKind.i64.wrap ((a:Int)+1)=(i0:Int):=by intro _;rw [Q0 (by omega) (by omega)];omega
 have e3:∀[Inhabited Unit],IntKind.i64.wrap ((b:Int)-1)=(j0:Int):=by intro _;rw [Q0 (by omega) (by omega)];omega
 have p0:a<xs.length:=by omega
 have p1:p<xs.length:=by omega
 simp
 rw [Qv (h:=by kernel_rfl)]
 obtain ⟨H1,H2,s1,ix,s2,o2,c2,l2⟩:=Z0 h p0 p1 hf
 simp [W0 h p0,W0 h p1,W2 h p0,W2 h p1,s1,ix _ p0,ix _ p1,s2,e2,e3]
 have pt0:Pt (swp xs a p) a b x (fun y=>¬x<y) i0 j0:=by
  refine ⟨?_,fun k h1 h2=>by omega,fun k h1 h2=>by omega⟩
  rw [Ro p0 p1,hx]
  split
  ·rename_i e;rw [e]
  ·rw [if_pos rfl]
 have sw0:Sw a b xs (swp xs a p):=Sw.refl.step a p (by omega) (by omega)
 refine Qw (fun c t H'=>∃i j:Nat,c=j+1-i∧t 0=v∧t 1=.int .i64 a∧t 9=.int .i64 i∧t 10=.int .i64 j∧a<i∧i≤j+1∧j<b∧Dr H v xs e a b (fun ys=>Pt ys a b x (fun y=>¬x<y) i j) H') ?_ (n:=j0+1-i0)
  ⟨i0,j0,rfl,by simp,by simp,by simp,by simp,by omega,by omega,by omega,_,sw0,pt0,o2,c2,l2⟩
 rw [← hx]
 clear pt0 sw0 o2 s1 s2 ix c2 l2 p0 p1
 rintro c t H' ⟨i,j,rfl,h0,h1,hi,hj,hai,hij,hjb,ys,sw,pt,o,c,l⟩ ih
 have len:=sw.len
 have p0:a<ys.length:=by omega
 simp [h0,h1,hi,hj]
 obtain ⟨il,hil⟩:∃il,il=i:=⟨_,rfl⟩
 have hai':il≤i∧a<i:=⟨by omega,hai⟩
 refine Rp (F:=?F1) (k:=?k1) (Q:=?Q1) (fun t H1=>∃i:Nat,t 0=v∧t 1=.int .i64 a∧t 9=.int .i64 i∧t 10=.int .i64 j∧(il≤i∧a<i)∧i≤j+1∧(i=j+1∨(i≤j∧¬(fun y=>¬x<y) (G ys i)))∧H'=H1∧Pt ys a b x (fun y=>¬x<y) i j) ?main1 ?rest1
 case main1=>
  intro rest
  refine Qw (fun c t H1=>∃i:Nat,c=j+1-i∧t 0=v∧t 1=.int .i64 a∧t 9=.int .i64 i∧t 10=.int .i64 j∧(il≤i∧a<i)∧i≤j+1∧H'=H1∧Pt ys a b x (fun y=>¬x<y) i j) ?_ (n:=j+1-i)
   ⟨i,rfl,by simp [h0],by simp [h1],by simp [hi],by simp [hj],hai',hij,rfl,pt⟩
  rintro c t _ ⟨i,rfl,h0,h1,hi,hj,hai',hij,rfl,pt⟩ ih2
  have hai:=hai'.2
  simp [h0,h1,hi,hj]
  rw [Qv (h:=by kernel_rfl)]
  simp [h0,h1,hi,hj]
  refine Yd ?_ ?_<;>intro g1
  ·have p1:i<ys.length:=by omega
   simp [h0,h1,hi,hj,g1,W0 o p0,W0 o p1,W2 o p0,W2 o p1,Td]
   refine Qm ?_ ?_<;>intro g2
   ·simp [h0,h1,hi,hj]
    refine rest _ _ ?_
    exact ⟨i,by simp [h0],by simp [h1],by simp [hi],by simp [hj],hai',by omega,.inr ⟨by omega,by have:=pt.1;show ¬(¬x<G ys i);omega⟩,rfl,pt⟩
   ·simp [h0,h1,hi,hj]
    refine ih2 (j+1-(i+1)) _ _ ⟨i+1,rfl,by simp [h0],by simp [h1],?_,by simp [hj],by omega,by omega,rfl,pt.incr hai (by have:=pt.1;show ¬x<G ys i;omega)⟩ (by omega)
    simp;rw [Q0 (by omega) (by omega)]
  ·simp [h0,h1,hi,hj,g1]
   refine rest _ _ ?_
   exact ⟨i,by simp [h0],by simp [h1],by simp [hi],by simp [hj],hai',hij,.inl (by omega),rfl,pt⟩
 case rest1=>
  rintro t _ ⟨i,h0,h1,hi,hj,hai',hij,hex,rfl,pt⟩
  have hai:=hai'.2
  refine Qw (fun c t H1=>∃j':Nat,c=j'+1-i∧t 0=v∧t 1=.int .i64 a∧t 9=.int .i64 i∧t 10=.int .i64 j'∧j'≤j∧i≤j'+1∧H'=H1∧Pt ys a b x (fun y=>¬x<y) i j') ?_ (n:=j+1-i)
   ⟨j,rfl,by simp [h0],by simp [h1],by simp [hi],by simp [hj],Nat.le_refl _,hij,rfl,pt⟩
  have hex':i<j+1→¬(fun y=>¬x<y) (G ys i):=fun hh=>by rcases hex with hex|hex;omega;exact hex.2
  have Qp0:=hjb
  rintro c t _ ⟨j',rfl,h0,h1,hi,hj,hjj',hij,rfl,pt⟩ ih2
  have hjb:j'<b:=by omega
  simp [h0,h1,hi,hj]
  rw [Qv (h:=by kernel_rfl)]
  simp [h0,h1,hi,hj]
  refine Yd ?_ ?_<;>intro g1
  ·have p1:j'<ys.length:=by omega
   simp [h0,h1,hi,hj,g1,W0 o p0,W0 o p1,W2 o p0,W2 o p1,Td]
   refine Qm ?_ ?_<;>intro g2
   ·simp [h0,h1,hi,hj]
    refine ih2 (j'-1+1-i) _ _ ⟨j'-1,rfl,by simp [h0],by simp [h1],by simp [hi],?_,by omega,by omega,rfl,pt.decr (by omega) (by have:=pt.1;show ¬(¬x<G ys j');omega)⟩ (by omega)
    simp;rw [Q0 (by omega) (by omega)];omega
   ·simp [h0,h1,hi,hj]
    have hnj:¬j'<i:=by omega
    simp [hnj]
    have p2:i<ys.length:=by omega
    have hlo:(fun y=>¬x<y) (G ys j'):=by have:=pt.1;show ¬x<G ys j';omega
    rw [Qv (h:=by kernel_rfl)]
    obtain ⟨H3,H4,s3,ix3,s4,o4,c4,l4⟩:=Z0 o p2 p1 hf
    simp [h0,h1,hi,hj,W0 o p2,W0 o p1,W2 o p2,W2 o p1,s3,ix3 _ p2,ix3 _ p1,s4]
    have hlt:i<j':=by
     rcases Nat.lt_or_ge i j' with q|q
     ·exact q
     ·have q2:i=j':=by omega
      exact absurd (q2▸hlo) (hex' (by omega))
    refine ih (j'-1+1-(i+1)) _ _ ⟨i+1,j'-1,rfl,by simp [h0],by simp [h1],?_,?_,by omega,by omega,by omega,_,sw.step i j' (by omega) (by omega),pt.swap hai hlt hjb (by omega) (hex' (by omega)) hlo,o4,c.trans c4,by omega⟩ (by omega)
    ·simp;rw [Q0 (by omega) (by omega)]
    ·simp;rw [Q0 (by omega) (by omega)];omega
  ·have hij':i=j'+1:=by omega
   have hji:j'<i:=by omega
   simp [h0,h1,hi,hj,g1,hji]
   refine ⟨i,rfl,by omega,by omega,ys,sw,⟨fun k k1 k2=>?_,fun k k1 k2=>?_⟩,o,c,l⟩
   ·by_cases hk:k=a
    ·have:=pt.1;rw [hk];omega
    ·have q:¬x<G ys k:=pt.2.1 k (by omega) k2
     omega
   ·have q:¬¬x<G ys k:=pt.2.2 k (by omega) k2
    omega
theorem Qlx (v:Value) (xs:List Int) (e:TypeId) (a b p:Nat) (h:Ow Fl.int e H v xs) (hp:a≤p∧p<b) (hb:b≤xs.length) (hl:xs.length≤1073741824) (hf:∀i∈ids v,frz≤i) :
 wp (Qh C frz 256 [v,.int .i64 a,.int .i64 b,.int .i64 p] H) (fun r H'=>∃(m:Nat) (d:Bool),r=.tuple #[.int .i64 m,.bool d]∧a≤m∧m<b∧
  Dr H v xs e a b (fun ys=>(∀k,a≤k→k<m→G ys k<G ys m)∧∀k,m<k→k<b→G ys m≤G ys k) H'):=by
 rw [Qb (fn:=Tryz.f256) Tryz.func256 rfl (by kernel_rfl) rfl]
 obtain ⟨x,hx⟩:∃x,x=G xs p:=⟨_,rfl⟩
 obtain ⟨i0,hi0⟩:∃i0,i0=a+1:=⟨_,rfl⟩
 obtain ⟨j0,hj0⟩:∃j0,j0=b-1:=⟨_,rfl⟩
 have e2:∀[Inhabited Unit],IntKind.i64.wrap ((a:Int)+1)=(i0:Int):=by intro _;rw [Q0 (by omega) (by omega)];omega
 have e3:∀[Inhabited Unit],IntKind.i64.wrap ((b:Int)-1)=(j0:Int):=by intro _;rw [Q0 (by omega) (by omega)];omega
 have p0:a<xs.length:=by omega
 have p1:p<xs.length:=by omega
 simp
 rw [Qv (h:=by kernel_rfl)]
 obtain ⟨H1,H2,s1,ix,s2,o2,c2,l2⟩:=Z0 h p0 p1 hf
 simp [W0 h p0,W0 h p1,W2 h p0,W2 h p1,s1,ix _ p0,ix _ p1,s2,e2,e3]
 have pt0:Pt (swp xs a p) a b x (fun y=>y<x) i0 j0:=by
  refine ⟨?_,fun k h1 h2=>by omega,fun k h1 h2=>by omega⟩
  rw [Ro p0 p1,hx]
  split
  ·rename_i e;rw [e]
  ·rw [if_pos rfl]
 have sw0:Sw a b xs (swp xs a p):=Sw.refl.step a p (by omega) (by omega)
 obtain ⟨ys,sw,o,c,l,pt⟩:∃ys,Sw a b xs ys∧Ow Fl.int e H2 v ys∧Qp H H2 (ids v)∧H2.length=H.length∧Pt ys a b x (fun y=>y<x) i0 j0:=⟨_,sw0,o2,c2,l2,pt0⟩
 obtain ⟨i,hii⟩:∃i,i0=i:=⟨_,rfl⟩
 obtain ⟨j,hjj⟩:∃j,j0=j:=⟨_,rfl⟩
 rw [hii] at pt ⊢
 rw [hjj] at pt ⊢
 have hai:a<i:=by omega
 have hij:i≤j+1:=by omega
 have hjb:j<b:=by omega
 clear pt0 sw0 o2 s1 s2 ix c2 l2 p0 p1
 have len:=sw.len
 have p0:a<ys.length:=by omega
 refine Rp (F:=?F) (k:=?k) (Q:=?Q) (fun t H1=>H2=H1∧t 0=v∧t 1=.int .i64 a∧t 10=.int .i64 i∧t 11=.int .i64 j) ?main ?rest
 case main=>intro rest;refine rest _ _ ?_;exact ⟨rfl,by simp,by simp,by simp,by simp⟩
 case rest=>
  rintro t H' ⟨rfl,h0,h1,hi,hj⟩
  obtain ⟨H',hH⟩:∃H',H'=H2:=⟨_,rfl⟩
  subst hH
  obtain ⟨il,hil⟩:∃il,il=i:=⟨_,rfl⟩
  have hai':il≤i∧a<i:=⟨by omega,hai⟩
  refine Rp (F:=?F3) (k:=?k3) (Q:=?Q3) (fun t H1=>∃i:Nat,t 0=v∧t 1=.int .i64 a∧t 10=.int .i64 i∧t 11=.int .i64 j∧(il≤i∧a<i)∧i≤j+1∧(i=j+1∨(i≤j∧¬(fun y=>y<x) (G ys i)))∧H'=H1∧Pt ys a b x (fun y=>y<x) i j) ?main3 ?rest3
  case main3=>
   intro rest
   refine Qw (fun c t H1=>∃i:Nat,c=j+1-i∧t 0=v∧t 1=.int .i64 a∧t 10=.int .i64 i∧t 11=.int .i64 j∧(il≤i∧a<i)∧i≤j+1∧H'=H1∧Pt ys a b x (fun y=>y<x) i j) ?_ (n:=j+1-i)
    ⟨i,rfl,by simp [h0],by simp [h1],by simp [hi],by simp [hj],hai',hij,rfl,pt⟩
   rintro c t _ ⟨i,rfl,h0,h1,hi,hj,hai',hij,rfl,pt⟩ ih2
   have hai:=hai'.2
   simp [h0,h1,hi,hj]
   rw [Qv (h:=by kernel_rfl)]
   simp [h0,h1,hi,hj]
   refine Yd ?_ ?_<;>intro g1
   ·have p1:i<ys.length:=by omega
    simp [h0,h1,hi,hj,g1,W0 o p0,W0 o p1,W2 o p0,W2 o p1,Td]
    refine Qm ?_ ?_<;>intro g2
    ·simp [h0,h1,hi,hj]
     refine ih2 (j+1-(i+1)) _ _ ⟨i+1,rfl,by simp [h0],by simp [h1],?_,by simp [hj],by omega,by omega,rfl,pt.incr hai (by have:=pt.1;show G ys i<x;omega)⟩ (by omega)
     simp;rw [Q0 (by omega) (by omega)]
    ·simp [h0,h1,hi,hj]
     refine rest _ _ ?_
     exact ⟨i,by simp [h0],by simp [h1],by simp [hi],by simp [hj],hai',by omega,.inr ⟨by omega,by have:=pt.1;show ¬(G ys i<x);omega⟩,rfl,pt⟩
   ·simp [h0,h1,hi,hj,g1]
    refine rest _ _ ?_
    exact ⟨i,by simp [h0],by simp [h1],by simp [hi],by simp [hj],hai',hij,.inl (by omega),rfl,pt⟩
  case rest3=>
   rintro t _ ⟨i,h0,h1,hi,hj,hai',hij,hex,rfl,pt⟩
   have hai:=hai'.2
   refine Qw (fun c t H1=>∃j':Nat,c=j'+1-i∧t 0=v∧t 1=.int .i64 a∧t 10=.int .i64 i∧t 11=.int .i64 j'∧j'≤j∧i≤j'+1∧H'=H1∧Pt ys a b x (fun y=>y<x) i j') ?_ (n:=j+1-i)
    ⟨j,rfl,by simp [h0],by simp [h1],by simp [hi],by simp [hj],Nat.le_refl _,hij,rfl,pt⟩
   have hex':i<j+1→¬(fun y=>y<x) (G ys i):=fun hh=>by rcases hex with hex|hex;omega;exact hex.2
   have Qp0:=hjb
   rintro c t _ ⟨j',rfl,h0,h1,hi,hj,hjj',hij,rfl,pt⟩ ih2
   have hjb:j'<b:=by omega
   simp [h0,h1,hi,hj]
   rw [Qv (h:=by kernel_rfl)]
   simp [h0,h1,hi,hj]
   refine Yd ?_ ?_<;>intro g1
   ·have p1:j'<ys.length:=by omega
    simp [h0,h1,hi,hj,g1,W0 o p0,W0 o p1,W2 o p0,W2 o p1,Td]
    refine Qm ?_ ?_<;>intro g2
    ·simp [h0,h1,hi,hj]
     have hnj:¬j'<i:=by omega
     simp [hnj]
     have p2:i<ys.length:=by omega
     have hlo:(fun y=>y<x) (G ys j'):=by have:=pt.1;show G ys j'<x;omega
     rw [Qv (h:=by kernel_rfl)]
     obtain ⟨H3,H4,s3,ix3,s4,o4,c4,l4⟩:=Z0 o p2 p1 hf
     simp [h0,h1,hi,hj,W0 o p2,W0 o p1,W2 o p2,W2 o p1,s3,ix3 _ p2,ix3 _ p1,s4]
     have hlt:i<j':=by
      rcases Nat.lt_or_ge i j' with q|q
      ·exact q
      ·have q2:i=j':=by omega
       exact absurd (q2▸hlo) (hex' (by omega))
     refine Qw (fun c t H'=>∃i j:Nat,c=j+1-i∧t 0=v∧t 1=.int .i64 a∧t 10=.int .i64 i∧t 11=.int .i64 j∧a<i∧i≤j+1∧j<b∧Dr H v xs e a b (fun ys=>Pt ys a b x (fun y=>y<x) i j) H') ?_ (n:=j'-1+1-(i+1))
      ⟨i+1,j'-1,rfl,by simp [h0],by simp [h1],by simp;rw [Q0 (by omega) (by omega)],by simp;rw [Q0 (by omega) (by omega)];omega,by omega,by omega,by omega,_,sw.step i j' (by omega) (by omega),pt.swap hai hlt hjb (by omega) (hex' (by omega)) hlo,o4,c.trans c4,by omega⟩
     rintro c t H' ⟨i,j,rfl,h0,h1,hi,hj,hai,hij,hjb,ys,sw,pt,o,c,l⟩ ih
     have len:=sw.len
     have p0:a<ys.length:=by omega
     simp [h0,h1,hi,hj]
     obtain ⟨il,hil⟩:∃il,il=i:=⟨_,rfl⟩
     have hai':il≤i∧a<i:=⟨by omega,hai⟩
     refine Rp (F:=?F32) (k:=?k2) (Q:=?Q32) (fun t H1=>∃i:Nat,t 0=v∧t 1=.int .i64 a∧t 10=.int .i64 i∧t 11=.int .i64 j∧(il≤i∧a<i)∧i≤j+1∧(i=j+1∨(i≤j∧¬(fun y=>y<x) (G ys i)))∧H'=H1∧Pt ys a b x (fun y=>y<x) i j) ?main32 ?rest32
     case main32=>
      intro rest
      refine Qw (fun c t H1=>∃i:Nat,c=j+1-i∧t 0=v∧t 1=.int .i64 a∧t 10=.int .i64 i∧t 11=.int .i64 j∧(il≤i∧a<i)∧i≤j+1∧H'=H1∧Pt ys a b x (fun y=>y<x) i j) ?_ (n:=j+1-i)
       ⟨i,rfl,by simp [h0],by simp [h1],by simp [hi],by simp [hj],hai',hij,rfl,pt⟩
      rintro c t _ ⟨i,rfl,h0,h1,hi,hj,hai',hij,rfl,pt⟩ ih2
      have hai:=hai'.2
      simp [h0,h1,hi,hj]
      rw [Qv (h:=by kernel_rfl)]
      simp [h0,h1,hi,hj]
      refine Yd ?_ ?_<;>intro g1
      ·have p1:i<ys.length:=by omega
       simp [h0,h1,hi,hj,g1,W0 o p0,W0 o p1,W2 o p0,W2 o p1,Td]
       refine Qm ?_ ?_<;>intro g2
       ·simp [h0,h1,hi,hj]
        refine ih2 (j+1-(i+1)) _ _ ⟨i+1,rfl,by simp [h0],by simp [h1],?_,by simp [hj],by omega,by omega,rfl,pt.incr hai (by have:=pt.1;show G ys i<x;omega)⟩ (by omega)
        simp;rw [Q0 (by omega) (by omega)]
       ·simp [h0,h1,hi,hj]
        refine rest _ _ ?_
        exact ⟨i,by simp [h0],by simp [h1],by simp [hi],by simp [hj],hai',by omega,.inr ⟨by omega,by have:=pt.1;show ¬(G ys i<x);omega⟩,rfl,pt⟩
      ·simp [h0,h1,hi,hj,g1]
       refine rest _ _ ?_
       exact ⟨i,by simp [h0],by simp [h1],by simp [hi],by simp [hj],hai',hij,.inl (by omega),rfl,pt⟩
     case rest32=>
      rintro t _ ⟨i,h0,h1,hi,hj,hai',hij,hex,rfl,pt⟩
      have hai:=hai'.2
      refine Qw (fun c t H1=>∃j':Nat,c=j'+1-i∧t 0=v∧t 1=.int .i64 a∧t 10=.int .i64 i∧t 11=.int .i64 j'∧j'≤j∧i≤j'+1∧H'=H1∧Pt ys a b x (fun y=>y<x) i j') ?_ (n:=j+1-i)
       ⟨j,rfl,by simp [h0],by simp [h1],by simp [hi],by simp [hj],Nat.le_refl _,hij,rfl,pt⟩
      have hex':i<j+1→¬(fun y=>y<x) (G ys i):=fun hh=>by rcases hex with hex|hex;omega;exact hex.2
      have Qp0:=hjb
      rintro c t _ ⟨j',rfl,h0,h1,hi,hj,hjj',hij,rfl,pt⟩ ih2
      have hjb:j'<b:=by omega
      simp [h0,h1,hi,hj]
      rw [Qv (h:=by kernel_rfl)]
      simp [h0,h1,hi,hj]
      refine Yd ?_ ?_<;>intro g1
      ·have p1:j'<ys.length:=by omega
       simp [h0,h1,hi,hj,g1,W0 o p0,W0 o p1,W2 o p0,W2 o p1,Td]
       refine Qm ?_ ?_<;>intro g2
       ·simp [h0,h1,hi,hj]
        have hnj:¬j'<i:=by omega
        simp [hnj]
        have p2:i<ys.length:=by omega
        have hlo:(fun y=>y<x) (G ys j'):=by have:=pt.1;show G ys j'<x;omega
        rw [Qv (h:=by kernel_rfl)]
        obtain ⟨H3,H4,s3,ix3,s4,o4,c4,l4⟩:=Z0 o p2 p1 hf
        simp [h0,h1,hi,hj,W0 o p2,W0 o p1,W2 o p2,W2 o p1,s3,ix3 _ p2,ix3 _ p1,s4]
        have hlt:i<j':=by
         rcases Nat.lt_or_ge i j' with q|q
         ·exact q
         ·have q2:i=j':=by omega
          exact absurd (q2▸hlo) (hex' (by omega))
        refine ih (j'-1+1-(i+1)) _ _ ⟨i+1,j'-1,rfl,by simp [h0],by simp [h1],?_,?_,by omega,by omega,by omega,_,sw.step i j' (by omega) (by omega),pt.swap hai hlt hjb (by omega) (hex' (by omega)) hlo,o4,c.trans c4,by omega⟩ (by omega)
        ·simp;rw [Q0 (by omega) (by omega)]
        ·simp;rw [Q0 (by omega) (by omega)];omega
       ·simp [h0,h1,hi,hj]
        refine ih2 (j'-1+1-i) _ _ ⟨j'-1,rfl,by simp [h0],by simp [h1],by simp [hi],?_,by omega,by omega,rfl,pt.decr (by omega) (by have:=pt.1;show ¬(G ys j'<x);omega)⟩ (by omega)
        simp;rw [Q0 (by omega) (by omega)];omega
      ·have hij':i=j'+1:=by omega
       have hji:j'<i:=by omega
       simp [h0,h1,hi,hj,g1,hji]
       have p3:j'<ys.length:=by omega
       rw [Qv (h:=by kernel_rfl)]
       obtain ⟨H3,H4,s3,ix3,s4,o4,c4,l4⟩:=Z0 o p3 p0 hf
       simp [h0,h1,hi,hj,W0 o p3,W0 o p0,W2 o p3,W2 o p0,s3,ix3 _ p3,ix3 _ p0,s4]
       obtain ⟨f1,f2,f3⟩:=pt.fin hij' hai hjb (by omega)
       exact ⟨j',rfl,by omega,by omega,_,sw.step j' a (by omega) (by omega),⟨fun k k1 k2=>by have:=f2 k k1 k2;rw [f1];exact this,fun k k1 k2=>by have:=f3 k k1 k2;rw [f1];omega⟩,o4,c.trans c4,by omega⟩
    ·simp [h0,h1,hi,hj]
     refine ih2 (j'-1+1-i) _ _ ⟨j'-1,rfl,by simp [h0],by simp [h1],by simp [hi],?_,by omega,by omega,rfl,pt.decr (by omega) (by have:=pt.1;show ¬(G ys j'<x);omega)⟩ (by omega)
     simp;rw [Q0 (by omega) (by omega)];omega
   ·have hij':i=j'+1:=by omega
    have hji:j'<i:=by omega
    simp [h0,h1,hi,hj,g1,hji]
    have p3:j'<ys.length:=by omega
    rw [Qv (h:=by kernel_rfl)]
    obtain ⟨H3,H4,s3,ix3,s4,o4,c4,l4⟩:=Z0 o p3 p0 hf
    simp [h0,h1,hi,hj,W0 o p3,W0 o p0,W2 o p3,W2 o p0,s3,ix3 _ p3,ix3 _ p0,s4]
    obtain ⟨f1,f2,f3⟩:=pt.fin hij' hai hjb (by omega)
    exact ⟨j',rfl,by omega,by omega,_,sw.step j' a (by omega) (by omega),⟨fun k k1 k2=>by have:=f2 k k1 k2;rw [f1];exact this,fun k k1 k2=>by have:=f3 k k1 k2;rw [f1];omega⟩,o4,c.trans c4,by omega⟩
theorem Sn.snoc {ys:List Int} {a i:Nat} (h:Sn ys a i) (hi:a<i→G ys (i-1)≤G ys i):Sn ys a (i+1):=fun p q h1 h2 h3=>by
 by_cases hq:q=i
 ·rw [hq]
  have hlt:a<i:=by omega
  have:=hi hlt
  by_cases hp:p=i-1
  ·rw [hp];exact this
  ·have:=h p (i-1) h1 (by omega) (by omega);omega
 ·exact h p q h1 h2 (by omega)
theorem Qdr (v:Value) (xs:List Int) (e:TypeId) (a b:Nat) (h:Ow Fl.int e H v xs) (hab:a<b) (hb:b≤xs.length) (hl:xs.length≤1073741824) (hlo:0<a→∀k,a≤k→k<b→G xs (a-1)≤G xs k) (hf:∀i∈ids v,frz≤i) :
 wp (Qh C frz 253 [v,.int .i64 a,.int .i64 b] H) (fun r H'=>∃d:Bool,r=.bool d∧Dr H v xs e a b (fun ys=>d=true→Sn ys a b) H'):=by
 rw [Qb (fn:=Tryz.f253) Tryz.func253 rfl (by kernel_rfl) rfl]
 obtain ⟨i0,hi0⟩:∃i0,i0=a+1:=⟨_,rfl⟩
 have e2:∀[Inhabited Unit],IntKind.i64.wrap ((a:Int)+1)=(i0:Int):=by intro _;rw [Q0 (by omega) (by omega)];omega
 simp [e2]
 refine Qw (fun c t H'=>∃i s:Nat,c=5-s∧s≤5∧t 0=v∧t 1=.int .i64 a∧t 2=.int .i64 b∧t 7=.int .i64 i∧t 8=.int .i64 s∧a<i∧i≤b∧Dr H v xs e a b (fun ys=>Sn ys a i) H') ?_ (n:=5)
  ⟨i0,0,rfl,by omega,by simp,by simp,by simp,by simp,by simp,by omega,by omega,xs,.refl,Sn.short (by omega),h,Qp.refl _,rfl⟩
 rintro c t H' ⟨i,s,rfl,hs,h0,h1,h2,h7,h8,hai,hib,ys,sw,sr,o,c,l⟩ ih
 have len:=sw.len
 simp [h0,h1,h2,h7,h8]
 refine Qm ?_ ?_<;>intro g0
 ·simp [h0,h1,h2,h7,h8]
  refine Fv (F:=?F) (k1:=?k1) (k2:=?k2) (Q:=?Q) (fun c t H1=>∃i:Nat,c=.bool (decide ((i:Int)=b))∧H'=H1∧t 0=v∧t 1=.int .i64 a∧t 2=.int .i64 b∧t 7=.int .i64 i∧t 8=.int .i64 s∧a<i∧i≤b∧Sn ys a i) ?main ?rest
  case main=>
   intro rest
   refine Qw (fun c t H1=>∃i:Nat,c=b-i∧H'=H1∧t 0=v∧t 1=.int .i64 a∧t 2=.int .i64 b∧t 7=.int .i64 i∧t 8=.int .i64 s∧a<i∧i≤b∧Sn ys a i) ?_ (n:=b-i)
    ⟨i,rfl,rfl,by simp [h0],by simp [h1],by simp [h2],by simp [h7],by simp [h8],hai,hib,sr⟩
   rintro c t _ ⟨i,rfl,rfl,h0,h1,h2,h7,h8,hai,hib,sr⟩ ih2
   have e3:∀[Inhabited Unit],IntKind.i64.wrap ((i:Int)-1)=((i-1:Nat):Int):=by intro _;rw [Q0 (by omega) (by omega)];omega
   simp [h0,h1,h2,h7,h8]
   rw [Qv (h:=by kernel_rfl)]
   simp [h0,h1,h2,h7,h8]
   refine Yd ?_ ?_<;>intro g1
   ·have p1:i<ys.length:=by omega
    have p2:i-1<ys.length:=by omega
    simp [h0,h1,h2,h7,h8,g1,e3,W0 o p1,W0 o p2,W2 o p1,W2 o p2,Td]
    refine Qm ?_ ?_<;>intro g2
    ·simp [h0,h1,h2,h7,h8]
     refine rest _ _ _ ?_
     exact ⟨i,rfl,rfl,by simp [h0],by simp [h1],by simp [h2],by simp [h7],by simp [h8],hai,hib,sr⟩
    ·simp [h0,h1,h2,h7,h8]
     refine ih2 (b-(i+1)) _ _ ⟨i+1,rfl,rfl,by simp [h0],by simp [h1],by simp [h2],?_,by simp [h8],by omega,by omega,sr.snoc (fun _=>by omega)⟩ (by omega)
     simp;rw [Q0 (by omega) (by omega)]
   ·simp [h0,h1,h2,h7,h8,g1]
    refine rest _ _ _ ?_
    exact ⟨i,rfl,rfl,by simp [h0],by simp [h1],by simp [h2],by simp [h7],by simp [h8],hai,hib,sr⟩
  case rest=>
   rintro _ t _ ⟨i,rfl,rfl,h0,h1,h2,h7,h8,hai,hib,sr⟩
   obtain ⟨n,hn⟩:∃n,n=b-a:=⟨_,rfl⟩
   obtain ⟨m,hm⟩:∃m,m=i-a:=⟨_,rfl⟩
   obtain ⟨r,hr⟩:∃r,r=b-i:=⟨_,rfl⟩
   have e4:∀[Inhabited Unit],IntKind.i64.wrap ((b:Int)-a)=(n:Int):=by intro _;rw [Q0 (by omega) (by omega)];omega
   have e5:∀[Inhabited Unit],IntKind.i64.wrap ((i:Int)-a)=(m:Int):=by intro _;rw [Q0 (by omega) (by omega)];omega
   have e6:∀[Inhabited Unit],IntKind.i64.wrap ((b:Int)-i)=(r:Int):=by intro _;rw [Q0 (by omega) (by omega)];omega
   have e3:∀[Inhabited Unit],IntKind.i64.wrap ((i:Int)-1)=((i-1:Nat):Int):=by intro _;rw [Q0 (by omega) (by omega)];omega
   refine Qm ?_ ?_<;>intro g1
   ·simp
    have hib:i=b:=by omega
    exact ⟨ys,sw,hib▸sr,o,c,l⟩
   ·simp [h0,h1,h2,h7,h8,e4]
    refine Qm ?_ ?_<;>intro g2
    ·simp
     exact ⟨ys,sw,trivial,o,c,l⟩
    ·have p1:i<ys.length:=by omega
     have p2:i-1<ys.length:=by omega
     simp [h0,h1,h2,h7,h8]
     rw [Qv (h:=by kernel_rfl)]
     obtain ⟨H3,H4,s3,ix3,s4,o4,c4,l4⟩:=Z0 o p1 p2 hf
     simp [h0,h1,h2,h7,h8,e3,e5,W0 o p1,W0 o p2,W2 o p1,W2 o p2,s3,ix3 _ p1,ix3 _ p2,s4]
     have sw4:=sw.step i (i-1) (by omega) (by omega)
     have sr4:Sn (swp ys i (i-1)) a (i-1):=Sn.frame (fun p q q1 q2 q3=>sr p q q1 q2 (by omega)) (fun k k1 k2=>by rw [Ro p1 p2,if_neg (by omega),if_neg (by omega)])
     have c5:=c.trans c4
     have l5:H4.length=H.length:=by omega
     generalize swp ys i (i-1)=zs at *
     refine Fv (F:=?F2) (k1:=?k12) (k2:=?k22) (Q:=?Q2) (fun c t H1=>c=.bool (decide (2≤(r:Int)))∧t 0=v∧t 1=.int .i64 a∧t 2=.int .i64 b∧t 7=.int .i64 i∧t 8=.int .i64 s∧Dr H v xs e a b (fun ys=>Sn ys a i) H1) ?main2 ?rest2
     case main2=>
      intro rest2
      refine Qm ?_ ?_<;>intro g3
      ·simp [h0,h1,h2,h7,h8,e3]
       refine Qw (fun c t H1=>∃j:Nat,c=j∧t 0=v∧t 1=.int .i64 a∧t 2=.int .i64 b∧t 7=.int .i64 i∧t 8=.int .i64 s∧t 9=.int .i64 j∧a≤j∧j≤i-1∧Dr H v xs e a b (fun ys=>Ins ys a (i-1) j) H1) ?_ (n:=i-1)
        ⟨i-1,rfl,by simp [h0],by simp [h1],by simp [h2],by simp [h7],by simp [h8],by simp,by omega,by omega,zs,sw4,Ins.start sr4,o4,c5,l5⟩
       rintro j t H1 ⟨_,rfl,h0,h1,h2,h7,h8,h9,haj,hji,ws,sw,ins,o,c,l⟩ ih2
       have len:=sw.len
       have e7:∀[Inhabited Unit],IntKind.i64.wrap ((j:Int)-1)=((j-1:Nat):Int)∨j=0:=by
        intro _
        by_cases hj:j=0
        ·exact .inr hj
        ·left;rw [Q0 (by omega) (by omega)];omega
       simp [h0,h1,h2,h7,h8,h9]
       refine Qm ?_ ?_<;>intro g4
       ·have e7:∀[Inhabited Unit],IntKind.i64.wrap ((j:Int)-1)=((j-1:Nat):Int):=by intro _;rw [Q0 (by omega) (by omega)];omega
        have p3:j<ws.length:=by omega
        have p4:j-1<ws.length:=by omega
        simp [h0,h1,h2,h7,h8,h9]
        rw [Qv (h:=by kernel_rfl)]
        simp [h0,h1,h2,h7,h8,h9,e7,W0 o p3,W0 o p4,W2 o p3,W2 o p4,Td]
        have low:j=a→G ws (j-1)≤G ws j:=by
         intro hja
         have:=sw.all hb (p:=fun y=>G xs (a-1)≤y) (fun k k1 k2=>hlo (by omega) k k1 k2) j haj (by omega)
         rw [hja] at this ⊢
         rw [sw.out hb (k:=a-1) (by omega)];exact this
        refine Qm ?_ ?_<;>intro g5
        ·have Qxy:a<j:=by
          rcases Nat.lt_or_ge a j with q|q
          ·exact q
          ·have:=low (by omega);omega
         simp [h0,h1,h2,h7,h8,h9]
         rw [Qv (h:=by kernel_rfl)]
         obtain ⟨H5,H6,s5,ix5,s6,o6,c6,l6⟩:=Z0 o p3 p4 hf
         simp [h0,h1,h2,h7,h8,h9,e7,W0 o p3,W0 o p4,W2 o p3,W2 o p4,s5,ix5 _ p3,ix5 _ p4,s6]
         refine ih2 (j-1) _ _ ⟨j-1,rfl,by simp [h0],by simp [h1],by simp [h2],by simp [h7],by simp [h8],by simp [e7],by omega,by omega,_,sw.step j (j-1) (by omega) (by omega),ins.step (by omega) Qxy hji g5,o6,c.trans c6,by omega⟩ (by omega)
        ·have sr6:Sn ws a (i-1+1):=ins.done (by
          rcases Nat.lt_or_ge a j with q|q
          ·exact .inr ⟨q,by omega⟩
          ·exact .inl (by omega))
         rw [show i-1+1=i by omega] at sr6
         simp [h0,h1,h2,h7,h8,h9,e6]
         refine rest2 _ _ _ ?_
         exact ⟨rfl,by simp [h0],by simp [h1],by simp [h2],by simp [h7],by simp [h8],ws,sw,sr6,o,c,l⟩
       ·have sr6:Sn ws a (i-1+1):=ins.done (.inl (by omega))
        rw [show i-1+1=i by omega] at sr6
        simp [h0,h1,h2,h7,h8,h9,e6]
        refine rest2 _ _ _ ?_
        exact ⟨rfl,by simp [h0],by simp [h1],by simp [h2],by simp [h7],by simp [h8],ws,sw,sr6,o,c,l⟩
      ·simp [h0,h1,h2,h7,h8,e6]
       refine rest2 _ _ _ ?_
       exact ⟨rfl,by simp [h0],by simp [h1],by simp [h2],by simp [h7],by simp [h8],zs,sw4,Sn.short (by omega),o4,c5,l5⟩
     case rest2=>
      clear sw4 sr4 o4 c5 l5 s3 s4 ix3 c4 p1 p2
      rintro _ t H1 ⟨rfl,h0,h1,h2,h7,h8,ws,sw,sr,o,c,l⟩
      have fin:∀(t:Env) (H1:Qd),t 0=v→t 1=.int .i64 a→t 2=.int .i64 b→t 7=.int .i64 i→t 8=.int .i64 (IntKind.i64.wrap ((s:Int)+1))→Dr H v xs e a b (fun ys=>Sn ys a i) H1→
       ∃i s':Nat,5-(s+1)=5-s'∧s'≤5∧t 0=v∧t 1=.int .i64 a∧t 2=.int .i64 b∧t 7=.int .i64 i∧t 8=.int .i64 s'∧a<i∧i≤b∧Dr H v xs e a b (fun ys=>Sn ys a i) H1:=
       fun t H1 g0 g1 g2 g7 g8 gs=>⟨i,s+1,rfl,by omega,g0,g1,g2,g7,by rw [g8,Q0 (by omega) (by omega)];simp,hai,hib,gs⟩
      refine Qm ?_ ?_<;>intro g3
      ·have e8:∀[Inhabited Unit],IntKind.i64.wrap ((i:Int)+1)=((i+1:Nat):Int):=by intro _;rw [Q0 (by omega) (by omega)];omega
       obtain ⟨j0,hj0⟩:∃j0,j0=i+1:=⟨_,rfl⟩
       rw [← hj0] at e8
       simp [h0,h1,h2,h7,h8,e8]
       refine Qw (fun c t H1=>∃j:Nat,c=b-j∧t 0=v∧t 1=.int .i64 a∧t 2=.int .i64 b∧t 7=.int .i64 i∧t 8=.int .i64 s∧t 10=.int .i64 j∧i<j∧j≤b∧Dr H v xs e a b (fun ys=>Sn ys a i) H1) ?_ (n:=b-j0)
        ⟨j0,rfl,by simp [h0],by simp [h1],by simp [h2],by simp [h7],by simp [h8],by simp,by omega,by omega,ws,sw,sr,o,c,l⟩
       rintro _ t H1 ⟨j,rfl,h0,h1,h2,h7,h8,h10,hij,hjb,ws,sw,sr,o,c,l⟩ ih2
       have len:=sw.len
       simp [h0,h1,h2,h7,h8,h10]
       refine Qm ?_ ?_<;>intro g4
       ·have e7:∀[Inhabited Unit],IntKind.i64.wrap ((j:Int)-1)=((j-1:Nat):Int):=by intro _;rw [Q0 (by omega) (by omega)];omega
        have p3:j<ws.length:=by omega
        have p4:j-1<ws.length:=by omega
        simp [h0,h1,h2,h7,h8,h10]
        rw [Qv (h:=by kernel_rfl)]
        simp [h0,h1,h2,h7,h8,h10,e7,W0 o p3,W0 o p4,W2 o p3,W2 o p4,Td]
        refine Qm ?_ ?_<;>intro g5
        ·simp [h0,h1,h2,h7,h8,h10]
         rw [Qv (h:=by kernel_rfl)]
         obtain ⟨H5,H6,s5,ix5,s6,o6,c6,l6⟩:=Z0 o p3 p4 hf
         simp [h0,h1,h2,h7,h8,h10,e7,W0 o p3,W0 o p4,W2 o p3,W2 o p4,s5,ix5 _ p3,ix5 _ p4,s6]
         refine ih2 (b-(j+1)) _ _ ⟨j+1,rfl,by simp [h0],by simp [h1],by simp [h2],by simp [h7],by simp [h8],?_,by omega,by omega,_,sw.step j (j-1) (by omega) (by omega),Sn.frame sr (fun k k1 k2=>by rw [Ro p3 p4,if_neg (by omega),if_neg (by omega)]),o6,c.trans c6,by omega⟩ (by omega)
         simp;rw [Q0 (by omega) (by omega)]
        ·simp [h0,h1,h2,h7,h8,h10]
         refine ih (5-(s+1)) _ _ (fin _ _ ?_ ?_ ?_ ?_ ?_ ⟨ws,sw,sr,o,c,l⟩) (by omega)<;>simp [h0,h1,h2,h7,h8]
       ·simp [h0,h1,h2,h7,h8,h10]
        refine ih (5-(s+1)) _ _ (fin _ _ ?_ ?_ ?_ ?_ ?_ ⟨ws,sw,sr,o,c,l⟩) (by omega)<;>simp [h0,h1,h2,h7,h8]
      ·simp [h0,h1,h2,h7,h8]
       refine ih (5-(s+1)) _ _ (fin _ _ ?_ ?_ ?_ ?_ ?_ ⟨ws,sw,sr,o,c,l⟩) (by omega)<;>simp [h0,h1,h2,h7,h8]
 ·simp
  exact ⟨ys,sw,trivial,o,c,l⟩
structure Pq (ys:List Int) (A B a b:Nat):Prop where
 le:A≤a∧a≤b∧b≤B
 left:Sn ys A a
 right:Sn ys b B
 lo:∀p q,A≤p→p<a→a≤q→q<B→G ys p≤G ys q
 hi:∀p q,A≤p→p<b→b≤q→q<B→G ys p≤G ys q
 low:0<A→∀k,A≤k→k<B→G ys (A-1)≤G ys k
section
variable {ys zs:List Int} {A B a b m:Nat}
theorem Pq.below (h:Pq ys A B a b) (ha:0<a):∀k,a≤k→k<B→G ys (a-1)≤G ys k:=fun k h1 h2=>by
 obtain ⟨l1,l2,l3⟩:=h.le
 by_cases hA:a=A
 ·have:=h.low (by omega) k (by omega) h2;rw [hA];exact this
 ·exact h.lo (a-1) k (by omega) (by omega) h1 h2
theorem Pq.sw (h:Pq ys A B a b) (s:Sw a b ys zs) (hB:B≤ys.length):Pq zs A B a b:=by
 obtain ⟨l1,l2,l3⟩:=h.le
 have hb:b≤ys.length:=by omega
 have out:=fun k (hk:k<a∨b≤k)=>s.out hb hk
 refine ⟨h.le,h.left.frame (fun k h1 h2=>out k (.inl h2)),h.right.frame (fun k h1 h2=>out k (.inr h1)),fun p q h1 h2 h3 h4=>?_,fun p q h1 h2 h3 h4=>?_,fun h0 k h1 h2=>?_⟩
 ·rw [out p (.inl h2)]
  exact s.all' hb (p:=fun y=>G ys p≤y) (Nat.le_refl a) l3 (fun k k1 k2=>h.lo p k h1 h2 k1 k2) q h3 h4
 ·rw [out q (.inr h3)]
  exact s.all' hb (p:=fun y=>y≤G ys q) l1 (Nat.le_refl b) (fun k k1 k2=>h.hi k q k1 k2 h3 h4) p h1 h2
 ·rw [out (A-1) (.inl (by omega))]
  exact s.all' hb (p:=fun y=>G ys (A-1)≤y) l1 l3 (fun k k1 k2=>h.low h0 k k1 k2) k h1 h2
theorem Pq.done (h:Pq ys A B a b) (s:Sn ys a b):Sn ys A B:=by
 obtain ⟨l1,l2,l3⟩:=h.le
 exact (h.left.join (s.join h.right (fun p q h1 h2 h3 h4=>h.hi p q (by omega) h2 h3 h4)) h.lo)
theorem Pq.eq {x:Int} (h:Pq ys A B a b) (hm:a<m∧m≤b) (hx:∀k,a≤k→k<b→x≤G ys k) (h1:∀k,a≤k→k<m→¬x<G ys k) (h2:∀k,m≤k→k<b→x<G ys k):Pq ys A B m b:=by
 obtain ⟨l1,l2,l3⟩:=h.le
 refine ⟨by omega,h.left.join (fun p q q1 q2 q3=>?_) (fun p q q1 q2 q3 q4=>h.lo p q q1 q2 q3 (by omega)),h.right,fun p q q1 q2 q3 q4=>?_,h.hi,h.low⟩
 ·have:=h1 p q1 (by omega);have:=hx q (by omega) (by omega);omega
 ·by_cases hp:p<a
  ·exact h.lo p q q1 hp (by omega) q4
  ·by_cases hq:q<b
   ·have:=h1 p (by omega) q2;have:=h2 q q3 hq;omega
   ·exact h.hi p q q1 (by omega) (by omega) q4
theorem Pq.goRight (h:Pq ys A B a b) (hm:a≤m∧m<b) (s:Sn ys a m) (h1:∀k,a≤k→k<m→G ys k≤G ys m) (h2:∀k,m<k→k<b→G ys m≤G ys k):Pq ys A B (m+1) b:=by
 obtain ⟨l1,l2,l3⟩:=h.le
 refine ⟨by omega,h.left.join (fun p q q1 q2 q3=>?_) (fun p q q1 q2 q3 q4=>h.lo p q q1 q2 q3 (by omega)),h.right,fun p q q1 q2 q3 q4=>?_,h.hi,h.low⟩
 ·by_cases hq:q=m
  ·rw [hq];exact h1 p q1 (by omega)
  ·exact s p q q1 q2 (by omega)
 ·by_cases hp:p<a
  ·exact h.lo p q q1 hp (by omega) q4
  ·by_cases hq:q<b
   ·have:=h2 q (by omega) hq
    by_cases hpm:p=m
    ·rw [hpm];exact this
    ·have:=h1 p (by omega) (by omega);omega
   ·exact h.hi p q q1 (by omega) (by omega) q4
theorem Pq.goLeft (h:Pq ys A B a b) (hm:a≤m∧m<b) (s:Sn ys (m+1) b) (h1:∀k,a≤k→k<m→G ys k≤G ys m) (h2:∀k,m<k→k<b→G ys m≤G ys k):Pq ys A B a m:=by
 obtain ⟨l1,l2,l3⟩:=h.le
 refine ⟨by omega,h.left,Sn.join (b:=b) (fun p q q1 q2 q3=>?_) h.right (fun p q q1 q2 q3 q4=>h.hi p q (by omega) q2 q3 q4),h.lo,fun p q q1 q2 q3 q4=>?_,h.low⟩
 ·by_cases hp:p=m
  ·rw [hp];exact h2 q (by omega) q3
  ·exact s p q (by omega) q2 q3
 ·by_cases hq:q<b
  ·by_cases hp:p<a
   ·exact h.lo p q q1 hp (by omega) q4
   ·have:=h1 p (by omega) q2
    by_cases hqm:q=m
    ·rw [hqm];exact this
    ·have:=h2 q (by omega) hq;omega
  ·exact h.hi p q q1 (by omega) (by omega) q4
end
theorem Qq1:∀(n:Nat) (H:Qd) (v:Value) (xs:List Int) (e:TypeId) (A B:Nat) (L:Int) (h:Ow Fl.int e H v xs) (hn:B-A≤n) (hab:A≤B) (hb:B≤xs.length) (hl:xs.length≤1073741824)
 (hlo:0<A→∀k,A≤k→k<B→G xs (A-1)≤G xs k) (hf:∀i∈ids v,frz≤i) (hF:frz≤H.length),
 wp (Qh C frz 228 [v,.int .i64 A,.int .i64 B,.int .i64 L] H) (fun _ H'=>∃ys,Sw A B xs ys∧Sn ys A B∧Ow Fl.int e H' v ys∧Qp H H' (ids v)):=by
 intro n
 induction n using Nat.strongRecOn with
 | _ n IH=>
 intro H v xs e A B L h hn hab hb hl hlo hf hF
 rw [Qb (fn:=Tryz.f228) Tryz.func228 rfl (by kernel_rfl) rfl]
 simp
 refine Qw (fun c t H'=>∃(a b:Nat) (L:Int) (w1 w2:Bool),c=b-a∧t 0=v∧t 1=.int .i64 a∧t 2=.int .i64 b∧t 3=.int .i64 L∧t 8=.bool w1∧t 9=.bool w2∧
  ∃ys,Sw A B xs ys∧Pq ys A B a b∧Ow Fl.int e H' v ys∧Qp H H' (ids v)) ?_ (n:=B-A)
  ⟨A,B,L,true,true,rfl,by simp,by simp,by simp,by simp,by simp,by simp,xs,.refl,⟨by omega,Sn.short (by omega),Sn.short (by omega),fun p q h1 h2 h3 h4=>by omega,fun p q h1 h2 h3 h4=>by omega,hlo⟩,h,Qp.refl _⟩
 rintro c t H' ⟨a,b,L,w1,w2,rfl,h0,h1,h2,h3,h8,h9,ys,sw,pq,o,c⟩ ih
 have len:=sw.len
 obtain ⟨l1,l2,l3⟩:=pq.le
 obtain ⟨n1,hn1⟩:∃n1,n1=b-a:=⟨_,rfl⟩
 have e1:∀[Inhabited Unit],IntKind.i64.wrap ((b:Int)-a)=(n1:Int):=by intro _;rw [Q0 (by omega) (by omega)];omega
 simp [h0,h1,h2,h3,h8,h9,e1]
 refine Qm ?_ ?_<;>intro g1
 ·simp [h0,h1,h2,h3,h8,h9]
  refine Ql (Qcw v ys e a b o l2 (by omega) (by omega) hf) ?_
  rintro _ H1 ⟨zs,sw1,sr1,o1,c1,k1⟩
  simp
  exact ⟨zs,sw.trans (sw1.mono l1 l3),(pq.sw sw1 (by omega)).done sr1,o1,c.trans c1⟩
 ·simp [h0,h1,h2,h3,h8,h9]
  refine Qm ?_ ?_<;>intro g2
  ·simp [h0,h1,h2,h3,h8,h9]
   refine Ql (vl v ys e a b o (by omega) (by omega) (by omega) hf) ?_
   rintro _ H1 ⟨zs,sw1,sr1,o1,c1,k1⟩
   simp
   exact ⟨zs,sw.trans (sw1.mono l1 l3),(pq.sw sw1 (by omega)).done sr1,o1,c.trans c1⟩
  ·simp [h0,h1,h2,h3,h8,h9]
   refine Et (F:=?F1) (k:=?k1) (d:=?d1) (Q:=?Q1) (fun r t=>∃(L:Int) (zs:List Int) (H1:Qd),r=Qh C frz 251 [v,.int .i64 a,.int .i64 b] H1∧t 0=v∧t 1=.int .i64 a∧t 2=.int .i64 b∧t 3=.int .i64 L∧t 10=.int .i64 n1∧t 8=.bool w1∧t 9=.bool w2∧
    Sw A B xs zs∧Pq zs A B a b∧Ow Fl.int e H1 v zs∧Qp H H1 (ids v)) ?main1 ?rest1
   case main1=>
    intro rest
    have h10:=True.intro
    refine Qa2 ?_ ?_<;>intro g3
    ·simp [h0,h1,h2,h3,h8,h9]
     refine rest _ _ ?_
     exact ⟨L,ys,H',rfl,by simp [h0],by simp [h1],by simp [h2],by simp [h3],by simp [h10],by simp [h8],by simp [h9],sw,pq,o,c⟩
    ·simp [h0,h1,h2,h3,h8,h9]
     refine Ql (kx v ys e a b o l2 (by omega) (by omega) hf (by have:=c.1;omega)) ?_
     rintro _ H1 ⟨zs,sw1,o1,c1⟩
     simp [h0,h1,h2,h3,h8,h9]
     refine rest _ _ ?_
     exact ⟨IntKind.i64.wrap (L-1),zs,H1,rfl,by simp [h0],by simp [h1],by simp [h2],by simp,by simp,by simp [h8],by simp [h9],sw.trans (sw1.mono l1 l3),pq.sw sw1 (by omega),o1,c.trans c1⟩
   case rest1=>
    clear h0 h1 h2 h3 h8 h9 sw pq o c len
    rintro _ t ⟨L,ys,H',rfl,h0,h1,h2,h3,h10,h8,h9,sw,pq,o,c⟩
    have len:=sw.len
    refine Ql (Dx v ys e a b o (by omega) (by omega) (by omega) (by have:=c.1;omega)) ?_
    rintro _ H1 ⟨⟨p,k,rfl,hp1,hp2⟩,c1⟩
    have o1:=o.chg c1 (by simp)
    have cH1:=c.trans (c1.mono (by simp))
    simp [h0,h1,h2,h3,h8,h9]
    refine Qem (F:=?F2) (k:=?k2) (d:=?d2) (want:=?w2) (op:=?op2) (Q:=?Q2) (fun c t H1=>c=.bool w1∧∃(p:Nat) (k:Int) (zs:List Int),(a≤p∧p<b)∧t 0=v∧t 1=.int .i64 a∧t 2=.int .i64 b∧t 3=.int .i64 L∧t 10=.int .i64 n1∧t 8=.bool w1∧t 9=.bool w2∧t 11=.int .i64 p∧t 12=.int .i64 k∧t 62=.bool w1∧
     Sw A B xs zs∧Pq zs A B a b∧Ow Fl.int e H1 v zs∧Qp H H1 (ids v)) ?main2 ?rest2
    case main2=>
     intro rest
     refine Qm ?_ ?_<;>intro g3
     ·simp [h0,h1,h2,h3,h8,h9]
      refine Ql (mh v ys e a b o1 (by omega) (by omega) (by omega) hf) ?_
      rintro _ H2 ⟨zs,sw1,_,o2,c2,k2⟩
      obtain ⟨b1,hb1⟩:∃b1,b1=b-1:=⟨_,rfl⟩
      obtain ⟨p1,hp3⟩:∃p1,p1=p-a:=⟨_,rfl⟩
      obtain ⟨p2,hp4⟩:∃p2,p2=b1-p1:=⟨_,rfl⟩
      have e2:∀[Inhabited Unit],IntKind.i64.wrap ((b:Int)-1)=(b1:Int):=by intro _;rw [Q0 (by omega) (by omega)];omega
      have e3:∀[Inhabited Unit],IntKind.i64.wrap ((p:Int)-a)=(p1:Int):=by intro _;rw [Q0 (by omega) (by omega)];omega
      have e4:∀[Inhabited Unit],IntKind.i64.wrap ((b1:Int)-p1)=(p2:Int):=by intro _;rw [Q0 (by omega) (by omega)];omega
      simp [h0,h1,h2,h3,h8,h9,e2,e3,e4]
      refine rest _ _ _ ?_
      exact ⟨rfl,p2,1,zs,by omega,by simp [h0],by simp [h1],by simp [h2],by simp [h3],by simp [h10],by simp [h8],by simp [h9],by simp,by simp,by simp,sw.trans (sw1.mono l1 l3),pq.sw sw1 (by omega),o2,cH1.trans c2⟩
     ·simp [h0,h1,h2,h3,h8,h9]
      refine rest _ _ _ ?_
      exact ⟨rfl,p,k,ys,by omega,by simp [h0],by simp [h1],by simp [h2],by simp [h3],by simp [h10],by simp [h8],by simp [h9],by simp,by simp,by simp,sw,pq,o1,cH1⟩
    case rest2=>
     clear h0 h1 h2 h3 h8 h9 sw pq o c len o1 c1 cH1 hp1 hp2
     rintro _ t H1 ⟨rfl,p,k,ys,hp,h0,h1,h2,h3,h10,h8,h9,h11,h12,h62,sw,pq,o,c⟩
     have len:=sw.len
     refine Rp (F:=?F3) (k:=?k3) (Q:=?Q3) (fun t H1=>∃(zs:List Int),t 0=v∧t 1=.int .i64 a∧t 2=.int .i64 b∧t 3=.int .i64 L∧t 10=.int .i64 n1∧t 8=.bool w1∧t 9=.bool w2∧t 11=.int .i64 p∧
      Sw A B xs zs∧Pq zs A B a b∧Ow Fl.int e H1 v zs∧Qp H H1 (ids v)) ?main3 ?rest3
     case main3=>
      intro rest
      refine xp ?_ ?_<;>intro g3
      ·simp [h0,h1,h2,h3,h8,h9,h11,h12,h62,g3]
       refine xp ?_ ?_<;>intro g4
       ·simp [h0,h1,h2,h3,h8,h9,h11,h12,h62,g3,g4]
        refine Qm ?_ ?_<;>intro g5
        ·simp [h0,h1,h2,h3,h8,h9,h11,h12]
         refine Ql (Qdr v ys e a b o (by omega) (by omega) (by omega) (fun h0 k k1 k2=>pq.below h0 k k1 (by omega)) hf) ?_
         rintro _ H2 ⟨d,rfl,zs,sw1,sr1,o2,c2,k2⟩
         simp
         refine Qa2 ?_ ?_<;>intro g6
         ·simp
          exact ⟨zs,sw.trans (sw1.mono l1 l3),(pq.sw sw1 (by omega)).done (sr1 g6),o2,c.trans c2⟩
         ·simp
          refine rest _ _ ?_
          exact ⟨zs,by simp [h0],by simp [h1],by simp [h2],by simp [h3],by simp [h10],by simp [h8],by simp [h9],by simp [h11],sw.trans (sw1.mono l1 l3),pq.sw sw1 (by omega),o2,c.trans c2⟩
        ·simp
         refine rest _ _ ?_
         exact ⟨ys,by simp [h0],by simp [h1],by simp [h2],by simp [h3],by simp [h10],by simp [h8],by simp [h9],by simp [h11],sw,pq,o,c⟩
       ·simp [h0,h1,h2,h3,h8,h9,h11,h12,h62,g3,g4]
        refine rest _ _ ?_
        exact ⟨ys,by simp [h0],by simp [h1],by simp [h2],by simp [h3],by simp [h10],by simp [h8,g3],by simp [h9,g4],by simp [h11],sw,pq,o,c⟩
      ·simp [h0,h1,h2,h3,h8,h9,h11,h12,h62,g3]
       refine rest _ _ ?_
       exact ⟨ys,by simp [h0],by simp [h1],by simp [h2],by simp [h3],by simp [h10],by simp [h8,g3],by simp [h9],by simp [h11],sw,pq,o,c⟩
     case rest3=>
      clear h0 h1 h2 h3 h8 h9 h11 h12 sw pq o c len
      rintro t H1 ⟨ys,h0,h1,h2,h3,h10,h8,h9,h11,sw,pq,o,c⟩
      have len:=sw.len
      have q1:p<ys.length:=by omega
      rw [Qv (h:=by kernel_rfl)]
      simp [h0,h1,h2,h3,h8,h9,h11]
      refine Et (F:=?F4) (k:=?k4) (d:=?d4) (Q:=?Q4) (fun r t=>r=Qh C frz 256 [v,.int .i64 a,.int .i64 b,.int .i64 p] H1∧t 0=v∧t 1=.int .i64 a∧t 2=.int .i64 b∧t 3=.int .i64 L∧t 10=.int .i64 n1) ?main4 ?rest4
      case main4=>
       intro rest
       refine Yd ?_ ?_<;>intro g3
       ·have e5:∀[Inhabited Unit],IntKind.i64.wrap ((a:Int)-1)=((a-1:Nat):Int):=by intro _;rw [Q0 (by omega) (by omega)];omega
        have q2:a-1<ys.length:=by omega
        simp [h0,h1,h2,h3,h8,h9,h11,g3,e5,W0 o q1,W0 o q2,W2 o q1,W2 o q2,Td]
        refine Qm ?_ ?_<;>intro g4
        ·simp [h0,h1,h2,h3,h8,h9,h11]
         refine rest _ _ ?_
         exact ⟨rfl,by simp [h0],by simp [h1],by simp [h2],by simp [h3],by simp [h10]⟩
        ·simp [h0,h1,h2,h3,h8,h9,h11]
         refine Ql (Qfw v ys e a b p o hp (by omega) (by omega) hf) ?_
         rintro _ H2 ⟨m,rfl,m1,m2,zs,sw1,⟨f1,f2⟩,o2,c2,k2⟩
         simp [h0,h1,h2,h3,h8,h9,h11]
         have low:=(pq.sw sw1 (by omega)).below g3
         have out:=sw1.out (by omega) (k:=a-1) (by omega)
         refine ih (b-m) _ _ ⟨m,b,L,w1,w2,rfl,by simp [h0],by simp,by simp [h2],by simp [h3],by simp [h8],by simp [h9],zs,sw.trans (sw1.mono l1 l3),(pq.sw sw1 (by omega)).eq ⟨m1,m2⟩ (fun k k1 k2=>?_) f1 f2,o2,c.trans c2⟩ (by omega)
         have:=low k k1 (by omega);omega
       ·simp [h0,h1,h2,h3,h8,h9,h11,g3]
        refine rest _ _ ?_
        exact ⟨rfl,by simp [h0],by simp [h1],by simp [h2],by simp [h3],by simp [h10]⟩
      case rest4=>
       rintro _ t ⟨rfl,h0,h1,h2,h3,h10⟩
       refine Ql (Qlx v ys e a b p o hp (by omega) (by omega) hf) ?_
       rintro _ H2 ⟨m,d,rfl,m1,m2,zs,sw1,⟨f1,f2⟩,o2,c2,k2⟩
       have pq2:=pq.sw sw1 (by omega)
       have Q3h:=sw1.len
       obtain ⟨r1,hr1⟩:∃r1,r1=m-a:=⟨_,rfl⟩
       obtain ⟨r2,hr2⟩:∃r2,r2=b-m:=⟨_,rfl⟩
       obtain ⟨mm,hmm⟩:∃mm,mm=m+1:=⟨_,rfl⟩
       have e6:∀[Inhabited Unit],IntKind.i64.wrap ((m:Int)-a)=(r1:Int):=by intro _;rw [Q0 (by omega) (by omega)];omega
       have e7:∀[Inhabited Unit],IntKind.i64.wrap ((b:Int)-m)=(r2:Int):=by intro _;rw [Q0 (by omega) (by omega)];omega
       have e8:∀[Inhabited Unit],IntKind.i64.wrap ((m:Int)+1)=(mm:Int):=by intro _;rw [Q0 (by omega) (by omega)];omega
       have f1':∀k,a≤k→k<m→G zs k≤G zs m:=fun k k1 k2=>Int.le_of_lt (f1 k k1 k2)
       have cc:=c.trans c2
       have q8:∀[Inhabited Unit],IntKind.i64.wrap ((n1:Int)/8)=(n1/8:Nat):=by intro _;rw [Q0 (by omega) (by omega)];omega
       obtain ⟨n8,hn8⟩:∃n8,n8=n1/8:=⟨_,rfl⟩
       rw [← hn8] at q8
       simp [h0,h1,h2,h3,h10,e6,e7,e8,q8]
       refine Qm ?_ ?_<;>intro g7
       ·simp [h0,h1,h2,h3,h10]
        refine Ql (IH (m-a) (by omega) H2 v zs e a m L o2 (Nat.le_refl _) (by omega) (by omega) (by omega) (fun q0 k k1 k2=>pq2.below q0 k k1 (by omega)) hf (by have:=cc.1;omega)) ?_
        rintro _ H3 ⟨ws,sw3,sr3,o3,c3⟩
        simp [h0,h1,h2,h3,h10,e8]
        have hbz:m≤zs.length:=by omega
        have wm:G ws m=G zs m:=sw3.out hbz (.inr (Nat.le_refl _))
        refine ih (b-mm) _ _ ⟨mm,b,L,decide (n8≤r1),d,rfl,by simp [h0],by simp,by simp [h2],by simp [h3],by simp,by simp,ws,(sw.trans (sw1.mono l1 l3)).trans (sw3.mono l1 (by omega)),?_,o3,cc.trans c3⟩ (by omega)
        rw [hmm]
        refine (pq2.sw (sw3.mono (Nat.le_refl _) (by omega)) (by omega)).goRight ⟨m1,m2⟩ sr3 ?_ (fun k k1 k2=>?_)
        ·rw [wm];exact sw3.all hbz (p:=fun y=>y≤G zs m) f1'
        ·rw [wm,sw3.out hbz (.inr (by omega))];exact f2 k k1 k2
       ·simp [h0,h1,h2,h3,h10,e8]
        refine Ql (IH (b-mm) (by omega) H2 v zs e mm b L o2 (Nat.le_refl _) (by omega) (by omega) (by omega) (fun q0 k k1 k2=>by rw [show mm-1=m by omega];exact f2 k (by omega) k2) hf (by have:=cc.1;omega)) ?_
        rintro _ H3 ⟨ws,sw3,sr3,o3,c3⟩
        simp [h0,h1,h2,h3,h10,e8]
        have hbz:b≤zs.length:=by omega
        have wm:G ws m=G zs m:=sw3.out hbz (.inl (by omega))
        refine ih (m-a) _ _ ⟨a,m,L,decide (n8≤r2),d,rfl,by simp [h0],by simp [h1],by simp,by simp [h3],by simp,by simp,ws,(sw.trans (sw1.mono l1 l3)).trans (sw3.mono (by omega) l3),?_,o3,cc.trans c3⟩ (by omega)
        refine (pq2.sw (sw3.mono (by omega) (Nat.le_refl _)) (by omega)).goLeft ⟨m1,m2⟩ (hmm▸sr3) (fun k k1 k2=>?_) (fun k k1 k2=>?_)
        ·rw [wm,sw3.out hbz (.inl (by omega))];exact f1' k k1 k2
        ·rw [wm];exact sw3.all hbz (p:=fun y=>G zs m≤y) (fun k k1 k2=>f2 k (by omega) k2) k (by omega) k2
theorem Cj {xs ys:List Int} (h1:xs.Pairwise (·≤·)) (h2:ys.Pairwise (·≤·)) (h:xs.Perm ys):xs=ys:=
 List.Perm.eq_of_pairwise (le:=(·≤·)) (fun a b _ _ h1 h2=>Int.le_antisymm h1 h2) h1 h2 h
def Cv (xs:List Int):List Int:=xs.mergeSort (fun a b=>decide (a≤b))
theorem Lb (xs:List Int):(Cv xs).Perm xs:=List.mergeSort_perm xs _
theorem Lp (xs:List Int):(Cv xs).Pairwise (·≤·):=by
 have:=List.pairwise_mergeSort (le:=fun a b:Int=>decide (a≤b)) (fun a b c h1 h2=>by simp at *;omega) (fun a b=>by simp;omega) xs
 exact this.imp (fun h=>by simpa using h)
theorem Bq (xs:List Int):(Cv xs).length=xs.length:=(Lb xs).length_eq
theorem Qks (v:Value) (xs:List Int) (e:TypeId) (h:Ow Fl.int e H v xs) (hl:xs.length≤1073741824) (hf:∀i∈ids v,frz≤i) (hF:frz≤H.length) :
 wp (Qh C frz 209 [v] H) (fun _ H'=>Ow Fl.int e H' v (Cv xs)∧Qp H H' (ids v)):=by
 rw [Qb (fn:=Tryz.f209) Tryz.func209 rfl (by kernel_rfl) rfl]
 have e1:∀[Inhabited Unit],IntKind.u64.wrap (xs.length:Int)=(xs.length:Int):=by intro _;exact Qcq (by omega) (by omega)
 simp [h.rd.len,e1]
 refine Ql (Qjb xs.length (by omega)) ?_
 rintro _ H0 ⟨hH,n,rfl,_⟩
 rw [hH]
 simp
 have:=Qq1 (frz:=frz) xs.length H v xs e 0 xs.length n h (by omega) (by omega) (Nat.le_refl _) hl (fun h=>by omega) hf hF
 refine Ql (by simpa using this) ?_
 rintro _ H1 ⟨ys,sw,sr,o,c⟩
 simp
 have hys:ys=Cv xs:=by
  have hp:=sw.perm (Nat.le_refl _)
  rw [← sw.len] at sr
  exact Cj sr.pairwise (Lp xs) (hp.trans (Lb xs).symm)
 subst hys
 exact ⟨o,c⟩
end Go.Proofs.YtlhaeingdonaeaaGreat.V
set_option linter.all false
namespace Go.Proofs.YtlhaeingdonaeaaGreat.V
open Go Go.VM Go.Proofs
set_option maxRecDepth 10000
variable {frz:Nat} {H:Qd} {v:Value} {xs ys:List Int} {e:TypeId}
theorem Qiw (o:Ow Fl.int 3 H v xs) (h0:0<xs.length) {l:Nat} (hl:l≤xs.length):∃z,∀(H':Qd) (ys:List Int),Ow Fl.int 3 H' v ys→ys.length=xs.length→
 Vl Tryz.prog H' 24 (some (.int .i64 (l:Nat))) none v=some z∧Ow Fl.int 3 H' z (ys.drop l)∧ids z=ids v:=by
 rcases o with ⟨_,rfl⟩|⟨id,off,r,rfl,k2,k3,k4,k5,k6⟩
 ·simp at h0
 ·refine ⟨.slice (some ⟨id,off+l*1,some r.gen⟩) (xs.length-l) 0,fun H' ys o' hlen=>?_⟩
  obtain ⟨z',h1,h2,h3⟩:=o'.slice (P:=Tryz.prog) (ty:=24) (lo:=some (.int .i64 (l:Int))) (hi:=none) (l:=l) (u:=ys.length) (by simp) rfl rfl (by omega) (Nat.le_refl _)
  have e:(ys.drop l).take (ys.length-l)=ys.drop l:=List.take_of_length_le (by simp)
  rw [e] at h2
  have hz:z'=.slice (some ⟨id,off+l*1,some r.gen⟩) (xs.length-l) 0:=by
   rcases o' with ⟨hv,_⟩|⟨id',off',r',hv,q2,q3,q4,q5,q6⟩
   ·cases hv
   ·injection hv with hv1 hv2
    injection hv1 with hv1
    injection hv1 with i1 i2 i3
    injection i3 with i3
    subst i1 i2
    have hle:(l:Int)≤(xs.length:Int):=by omega
    simp [Vl,VM.look,q2,i3,Yc,q5,hle] at h1
    simp [← h1,i3]
  rw [← hz]
  exact ⟨h1,h2,h3⟩
theorem Qd9 (o:Ow Fl.int 3 H v ys) (h0:0<ys.length) {l:Nat} (hl:l≤ys.length) {z:Value} (hz:Vl Tryz.prog H 24 (some (.int .i64 (l:Nat))) none v=some z) (hf:∀i∈ids v,frz≤i) :
 ∃H' zs,Ln Tryz.prog frz H 24 z=some (undef,H')∧zs.length=ys.length∧zs.take l=ys.take l∧Ow Fl.int 3 H' v zs∧Qp H H' (ids v):=by
 rcases o with ⟨_,rfl⟩|⟨id,off,r,rfl,k2,k3,k4,k5,k6⟩
 ·simp at h0
 ·have hle:(l:Int)≤(ys.length:Int):=by omega
  simp [Vl,VM.look,k2,Yc,k5,hle] at hz
  subst hz
  have hfr:frz≤id:=hf id (by simp)
  have hn:Fl.int.n=1:=rfl
  rw [hn] at k3 k4
  have hroom:off+l+(ys.length-l)≤r.cells.length:=by omega
  refine ⟨H.set id { r with cells:=VM.splice r.cells (off+l) (List.replicate (ys.length-l) [Value.int .i64 0]).flatten },ys.take l++List.replicate (ys.length-l) 0,?_,by simp;omega,by rw [List.take_append_of_le_length (by simp;omega),List.take_take,Nat.min_self],?_,Qn _ _⟩
  ·simp [Ln,VM.look,k2,hfr,hroom,ones,VM.one]
  ·have hcl:((List.replicate (ys.length-l) [Value.int .i64 0]).flatten).length=ys.length-l:=by simp
   have hlt:id<H.length:=Wj k2
   have hzl:(ys.take l++List.replicate (ys.length-l) (0:Int)).length=ys.length:=by simp;omega
   refine .inr ⟨id,off,{ r with cells:=VM.splice r.cells (off+l) (List.replicate (ys.length-l) [Value.int .i64 0]).flatten },by rw [hzl],by simp [hlt],?_,?_,k5,Oz k6 (by simp [ones,VM.one])⟩
   ·rw [hzl,hn,Rx k3 k4 (by rw [hcl];omega),W1,W1]
    unfold VM.splice
    rw [hcl]
    have e1:(List.map (Value.int .i64) ys).drop (l+(ys.length-l))=[]:=by rw [List.drop_eq_nil_iff];simp;omega
    rw [e1,List.append_nil,List.map_append,List.map_take]
    simp
   ·rw [hzl,hn,Pw (by rw [hcl];omega)];exact k4
end Go.Proofs.YtlhaeingdonaeaaGreat.V
set_option linter.all false
namespace Go.Proofs.YtlhaeingdonaeaaGreat.V
open Go Go.VM Go.Proofs
set_option maxRecDepth 10000
variable {frz:Nat} {H:Qd}
def O6 (p:Int→Bool) (b:List Int):Int:=if b.any p then b.findIdx p else -1
theorem Qci {p:Int→Bool} {b:List Int} {i:Nat} (h:i<b.length) (h1:∀x∈b.take i,p x=false) (h2:p b[i]=true):O6 p b=i:=by
 unfold O6
 rw [if_pos (List.any_eq_true.2 ⟨b[i],List.getElem_mem h,h2⟩)]
 congr 1
 rw [List.findIdx_eq h]
 refine ⟨h2,fun j hj=>?_⟩
 refine Bool.eq_false_iff.1 ?_ |> fun hh=>by simpa using hh
 exact h1 _ (by rw [List.mem_take_iff_getElem];exact ⟨j,by omega,rfl⟩)
theorem zi (v f:Value) (p:Int→Bool) (b:List Int) (hI:W7 H v b) (hl:b.length≤1073741824)
 (hf:∀x∈b,yg (Qh C H.length) f [.int .i64 x] H=some (.bool (p x),H)) :
 Qh C frz 268 [v,f] H=some (.int .i64 (O6 p b),H):=by
 rw [Qb (fn:=Tryz.f268) Tryz.func268 rfl (by kernel_rfl) rfl]
 simp [hI.len]
 refine Z2 (fun n t H'=>∃i:Nat,n=b.length-i∧i≤b.length∧t 0=v∧t 1=f∧t 6=v∧t 7=.int .i64 b.length∧t 8=.int .i64 i∧H'=H∧∀x∈b.take i,p x=false) ?_ (n:=b.length) ⟨0,by simp⟩
 rintro n t H' ⟨i,rfl,hi,h0,h1,h2,h3,h4,rfl,hj⟩ ih
 simp [h0,h1,h2,h3,h4,hI.len]
 refine Q7 _ ?_ ?_<;>intro h5
 ·simp [h0,h1,h2,h3,h4,h5,hI.idx,hI.load,Wh,hf]
  refine Qqq _ ?_ ?_<;>intro h6<;>simp [h0,h1,h2,h3,h4,h6]
  ·rw [Qci h5 hj h6]
  ·refine ih (b.length-(i+1)) _ _ ⟨i+1,rfl,by omega,by simp [h0],by simp [h1],by simp [h2],by simp [h3],?_,rfl,?_⟩ (by omega)
   ·simp;rw [Q0 (by omega) (by omega)]
   ·rw [List.take_succ_eq_append_getElem h5]
    intro x hx
    rcases List.mem_append.1 hx with hx|hx
    ·exact hj x hx
    ·rw [List.mem_singleton.1 hx];exact h6
 ·have:i=b.length:=by omega
  subst this
  simp [h0,h1,h2,h3]
  rw [List.take_length] at hj
  rw [O6,if_neg]
  rw [List.any_eq_true]
  rintro ⟨x,hx,hp⟩
  rw [hj x hx] at hp;cases hp
end Go.Proofs.YtlhaeingdonaeaaGreat.V
