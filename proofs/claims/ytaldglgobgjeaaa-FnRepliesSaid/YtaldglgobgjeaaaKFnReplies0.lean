/- Texts of a proof, joined. -/
import Derived.Test.YtaldglgobgjeaaaProg
import Derived.KernelRfl
import Derived.Test.YtaldglgobgjeaaaKM0
import Derived.Test.YtaldglgobgjeaaaKM1
namespace Go.Proofs.Ytaldglgobgjeaaa.V
open Go Go.VM Go.Proofs
noncomputable def C:Ctx:={ P:=Try.prog,mode:=fun g=>if [10,20,21,23,24,26,31,32,40,41,42,45,49,55,66,67,68,69,70,71,72,73,77,79,80,81,82].contains g then 2 else if [5,6,9,11,13,14,15,19,25,30,48,60,61].contains g then 1 else 0,ext:=fun _=>none }
@[simp] theorem CP:C.P=Try.prog:=rfl
theorem drawn:DrawOk C:=T9 C (by kernel_rfl)
@[simp] theorem mode0:C.mode 0=0:=rfl
@[simp] theorem mode1:C.mode 1=0:=rfl
@[simp] theorem mode2:C.mode 2=0:=rfl
@[simp] theorem mode3:C.mode 3=0:=rfl
@[simp] theorem mode4:C.mode 4=0:=rfl
@[simp] theorem mode5:C.mode 5=1:=rfl
@[simp] theorem mode6:C.mode 6=1:=rfl
@[simp] theorem mode7:C.mode 7=0:=rfl
@[simp] theorem mode8:C.mode 8=0:=rfl
@[simp] theorem mode9:C.mode 9=1:=rfl
@[simp] theorem mode10:C.mode 10=2:=rfl
@[simp] theorem mode11:C.mode 11=1:=rfl
@[simp] theorem mode12:C.mode 12=0:=rfl
@[simp] theorem mode13:C.mode 13=1:=rfl
@[simp] theorem mode14:C.mode 14=1:=rfl
@[simp] theorem mode15:C.mode 15=1:=rfl
@[simp] theorem mode16:C.mode 16=0:=rfl
@[simp] theorem mode17:C.mode 17=0:=rfl
@[simp] theorem mode18:C.mode 18=0:=rfl
@[simp] theorem mode19:C.mode 19=1:=rfl
@[simp] theorem mode20:C.mode 20=2:=rfl
@[simp] theorem mode21:C.mode 21=2:=rfl
@[simp] theorem mode22:C.mode 22=0:=rfl
@[simp] theorem mode23:C.mode 23=2:=rfl
@[simp] theorem mode24:C.mode 24=2:=rfl
@[simp] theorem mode25:C.mode 25=1:=rfl
@[simp] theorem mode26:C.mode 26=2:=rfl
@[simp] theorem mode27:C.mode 27=0:=rfl
@[simp] theorem mode28:C.mode 28=0:=rfl
@[simp] theorem mode29:C.mode 29=0:=rfl
@[simp] theorem mode30:C.mode 30=1:=rfl
@[simp] theorem mode31:C.mode 31=2:=rfl
@[simp] theorem mode32:C.mode 32=2:=rfl
@[simp] theorem mode33:C.mode 33=0:=rfl
@[simp] theorem mode34:C.mode 34=0:=rfl
@[simp] theorem mode35:C.mode 35=0:=rfl
@[simp] theorem mode36:C.mode 36=0:=rfl
@[simp] theorem mode37:C.mode 37=0:=rfl
@[simp] theorem mode38:C.mode 38=0:=rfl
@[simp] theorem mode39:C.mode 39=0:=rfl
@[simp] theorem mode40:C.mode 40=2:=rfl
@[simp] theorem mode41:C.mode 41=2:=rfl
@[simp] theorem mode42:C.mode 42=2:=rfl
@[simp] theorem mode43:C.mode 43=0:=rfl
@[simp] theorem mode44:C.mode 44=0:=rfl
@[simp] theorem mode45:C.mode 45=2:=rfl
@[simp] theorem mode46:C.mode 46=0:=rfl
@[simp] theorem mode47:C.mode 47=0:=rfl
@[simp] theorem mode48:C.mode 48=1:=rfl
@[simp] theorem mode49:C.mode 49=2:=rfl
@[simp] theorem mode50:C.mode 50=0:=rfl
@[simp] theorem mode51:C.mode 51=0:=rfl
@[simp] theorem mode52:C.mode 52=0:=rfl
@[simp] theorem mode53:C.mode 53=0:=rfl
@[simp] theorem mode54:C.mode 54=0:=rfl
@[simp] theorem mode55:C.mode 55=2:=rfl
@[simp] theorem mode56:C.mode 56=0:=rfl
@[simp] theorem mode57:C.mode 57=0:=rfl
@[simp] theorem mode58:C.mode 58=0:=rfl
@[simp] theorem mode59:C.mode 59=0:=rfl
@[simp] theorem mode60:C.mode 60=1:=rfl
@[simp] theorem mode61:C.mode 61=1:=rfl
@[simp] theorem mode62:C.mode 62=0:=rfl
@[simp] theorem mode63:C.mode 63=0:=rfl
@[simp] theorem mode64:C.mode 64=0:=rfl
@[simp] theorem mode65:C.mode 65=0:=rfl
@[simp] theorem mode66:C.mode 66=2:=rfl
@[simp] theorem mode67:C.mode 67=2:=rfl
@[simp] theorem mode68:C.mode 68=2:=rfl
@[simp] theorem mode69:C.mode 69=2:=rfl
@[simp] theorem mode70:C.mode 70=2:=rfl
@[simp] theorem mode71:C.mode 71=2:=rfl
@[simp] theorem mode72:C.mode 72=2:=rfl
@[simp] theorem mode73:C.mode 73=2:=rfl
@[simp] theorem mode74:C.mode 74=0:=rfl
@[simp] theorem mode75:C.mode 75=0:=rfl
@[simp] theorem mode76:C.mode 76=0:=rfl
@[simp] theorem mode77:C.mode 77=2:=rfl
@[simp] theorem mode78:C.mode 78=0:=rfl
@[simp] theorem mode79:C.mode 79=2:=rfl
@[simp] theorem mode80:C.mode 80=2:=rfl
@[simp] theorem mode81:C.mode 81=2:=rfl
@[simp] theorem mode82:C.mode 82=2:=rfl
@[simp] theorem mode83:C.mode 83=0:=rfl
@[simp] theorem mode84:C.mode 84=0:=rfl
@[simp] theorem mode85:C.mode 85=0:=rfl
@[simp] theorem mode86:C.mode 86=0:=rfl
@[simp] theorem mode87:C.mode 87=0:=rfl
@[simp] theorem mode88:C.mode 88=0:=rfl
@[simp] theorem mode89:C.mode 89=0:=rfl
@[simp] theorem mode90:C.mode 90=0:=rfl
@[simp] theorem mode91:C.mode 91=0:=rfl
@[simp] theorem mode92:C.mode 92=0:=rfl
@[simp] theorem mode93:C.mode 93=0:=rfl
@[simp] theorem mode94:C.mode 94=0:=rfl
@[simp] theorem mode95:C.mode 95=0:=rfl
@[simp] theorem mode96:C.mode 96=0:=rfl
@[simp] theorem mode97:C.mode 97=0:=rfl
@[simp] theorem mode98:C.mode 98=0:=rfl
@[simp] theorem tsz3:tsz Try.prog 3=some (false,1):=by kernel_rfl
@[simp] theorem tzero3:tzero Try.prog 3=some [.int .i64 0]:=by kernel_rfl
@[simp] theorem tsz5:tsz Try.prog 5=some (false,1):=by kernel_rfl
@[simp] theorem und9:Try.prog.underlying 9=some .string:=by kernel_rfl
@[simp] theorem tsz22:tsz Try.prog 22=some (false,1):=by kernel_rfl
@[simp] theorem eltp22:eltp Try.prog 22=some (5,1):=by kernel_rfl
@[simp] theorem isSl22:isSl Try.prog 22=true:=by kernel_rfl
@[simp] theorem tsz25:tsz Try.prog 25=some (true,2):=by kernel_rfl
@[simp] theorem tzero25:tzero Try.prog 25=some [.int .i64 0,.int .i64 0]:=by kernel_rfl
@[simp] theorem Jy:finfo Try.prog 25 0=some (0,false,1):=by kernel_rfl
@[simp] theorem Ih:finfo Try.prog 25 1=some (1,false,1):=by kernel_rfl
@[simp] theorem bplaces25:bplaces Try.prog 25=some [(0,1),(1,1)]:=by kernel_rfl
@[simp] theorem tsz26:tsz Try.prog 26=some (false,1):=by kernel_rfl
@[simp] theorem eltp26:eltp Try.prog 26=some (3,1):=by kernel_rfl
@[simp] theorem isSl26:isSl Try.prog 26=true:=by kernel_rfl
@[simp] theorem tsz28:tsz Try.prog 28=some (true,3):=by kernel_rfl
@[simp] theorem tzero28:tzero Try.prog 28=some [.int .i64 0,.int .i64 0,.slice none 0 0]:=by kernel_rfl
@[simp] theorem J6:finfo Try.prog 28 0=some (0,true,2):=by kernel_rfl
@[simp] theorem Jv:finfo Try.prog 28 1=some (2,false,1):=by kernel_rfl
@[simp] theorem bplaces28:bplaces Try.prog 28=some [(0,2),(2,1)]:=by kernel_rfl
@[simp] theorem tsz30:tsz Try.prog 30=some (true,1):=by kernel_rfl
@[simp] theorem tzero30:tzero Try.prog 30=some [.slice none 0 0]:=by kernel_rfl
@[simp] theorem Ie:finfo Try.prog 30 0=some (0,false,1):=by kernel_rfl
@[simp] theorem bplaces30:bplaces Try.prog 30=some [(0,1)]:=by kernel_rfl
@[simp] theorem tsz32:tsz Try.prog 32=some (true,2):=by kernel_rfl
@[simp] theorem tzero32:tzero Try.prog 32=some [.slice none 0 0,.slice none 0 0]:=by kernel_rfl
@[simp] theorem Ir:finfo Try.prog 32 0=some (0,true,1):=by kernel_rfl
@[simp] theorem Ip:finfo Try.prog 32 1=some (1,true,1):=by kernel_rfl
@[simp] theorem bplaces32:bplaces Try.prog 32=some [(0,1),(1,1)]:=by kernel_rfl
@[simp] theorem tsz36:tsz Try.prog 36=some (true,3):=by kernel_rfl
@[simp] theorem tzero36:tzero Try.prog 36=some [.int .i64 0,.slice none 0 0,.slice none 0 0]:=by kernel_rfl
@[simp] theorem I2:finfo Try.prog 36 0=some (0,false,1):=by kernel_rfl
@[simp] theorem bplaces36:bplaces Try.prog 36=some [(0,1),(1,1),(2,1)]:=by kernel_rfl
@[simp] theorem tsz40:tsz Try.prog 40=some (false,1):=by kernel_rfl
@[simp] theorem tzero40:tzero Try.prog 40=some [.slice none 0 0]:=by kernel_rfl
@[simp] theorem eltp40:eltp Try.prog 40=some (52,2):=by kernel_rfl
@[simp] theorem isSl40:isSl Try.prog 40=true:=by kernel_rfl
@[simp] theorem tsz52:tsz Try.prog 52=some (true,2):=by kernel_rfl
@[simp] theorem tzero52:tzero Try.prog 52=some [.int .i64 0,.int .i64 0]:=by kernel_rfl
@[simp] theorem J0:finfo Try.prog 52 0=some (0,false,1):=by kernel_rfl
@[simp] theorem Ig:finfo Try.prog 52 1=some (1,false,1):=by kernel_rfl
@[simp] theorem flatN52:flatN Try.prog 52=some [0,0]:=by kernel_rfl
@[simp] theorem bplaces52:bplaces Try.prog 52=some [(0,1),(1,1)]:=by kernel_rfl
@[simp] theorem tzero64:tzero Try.prog 64=some [.slice none 0 0,.int .i64 0,.int .i64 0]:=by kernel_rfl
@[simp] theorem Jx:finfo Try.prog 64 0=some (0,false,1):=by kernel_rfl
@[simp] theorem It:finfo Try.prog 64 1=some (1,false,1):=by kernel_rfl
@[simp] theorem J2:finfo Try.prog 64 2=some (2,false,1):=by kernel_rfl
@[simp] theorem bplaces64:bplaces Try.prog 64=some [(0,1),(1,1),(2,1)]:=by kernel_rfl
@[simp] theorem tsz69:tsz Try.prog 69=some (false,1):=by kernel_rfl
@[simp] theorem tsz111:tsz Try.prog 111=some (false,1):=by kernel_rfl
@[simp] theorem tzero111:tzero Try.prog 111=some [.int .u64 0]:=by kernel_rfl
end Go.Proofs.Ytaldglgobgjeaaa.V
set_option linter.all false
namespace Go.Proofs.Ytaldglgobgjeaaa.V
open Go Go.VM
def rd (b:List Int) (j:Int):Int:=b.getD j.toNat 0
def inR (lo n hi:Int):Prop:=lo≤n∧n≤hi
instance (lo n hi:Int):Decidable (inR lo n hi):=inferInstanceAs (Decidable (_∧_))
def okG (w h:Int):Prop:=(1≤w∧w≤4)∧1≤h∧h≤4
instance (w h:Int):Decidable (okG w h):=inferInstanceAs (Decidable (_∧_))
def cnt (w h:Int):Int:=if okG w h then w*h else 0
def isN (w h n:Int):Prop:=0≤n∧n<cnt w h
instance (w h n:Int):Decidable (isN w h n):=inferInstanceAs (Decidable (_∧_))
def nodeAt (w h x y:Int):Int:=if okG w h∧(0≤x∧x<w)∧0≤y∧y<h then y*w+x else -1
def next (w h n p:Int):Int:=
 if isN w h n then
  (if p=0 then nodeAt w h (n%w) (n/w-1) else if p=1 then nodeAt w h (n%w+1) (n/w) else if p=2 then nodeAt w h (n%w) (n/w+1)
   else if p=3 then nodeAt w h (n%w-1) (n/w) else if p=4 then n else -1)
 else -1
def leads (w h c:Int):Prop:=(0≤c∧c<4*cnt w h)∧0≤next w h (c/4) (c%4)
instance (w h c:Int):Decidable (leads w h c):=inferInstanceAs (Decidable (_∧_))
def opp (p:Int):Int:=if p=4 then 4 else if 0≤p∧p≤3 then (p+2)%4 else -1
def goodAt (w h:Int) (b:List Int) (j:Nat):Prop:=leads w h (b.getD j 0)∧(0<j→b.getD (j-1) 0<b.getD j 0)
instance (w h:Int) (b:List Int) (j:Nat):Decidable (goodAt w h b j):=inferInstanceAs (Decidable (_∧_))
def meshOk (w h:Int) (b:List Int):Prop:=(∀j,j<b.length→goodAt w h b j)∧okG w h
instance (w h:Int) (b:List Int):Decidable (meshOk w h b):=inferInstanceAs (Decidable (_∧_))
def has (w h:Int) (b:List Int) (c:Int):Prop:=leads w h c∧c∉b
instance (w h:Int) (b:List Int) (c:Int):Decidable (has w h b c):=inferInstanceAs (Decidable (_∧_))
theorem Wp {w h:Int} (h1:okG w h):1≤w*h∧w*h≤16:=by
 obtain ⟨⟨a1,a2⟩,b1,b2⟩:=h1
 have c1:1*1≤w*h:=Int.mul_le_mul a1 b1 (by omega) (by omega)
 have c2:w*h≤4*4:=Int.mul_le_mul a2 b2 (by omega) (by omega)
 omega
theorem Qj (w h:Int):0≤cnt w h∧cnt w h≤16:=by
 unfold cnt;split
 ·rename_i h1;have:=Wp h1;omega
 ·omega
theorem T2 {w h n:Int} (h1:isN w h n):okG w h∧0≤n∧n<w*h∧n<16:=by
 obtain ⟨a,b⟩:=h1
 have:=Qj w h
 unfold cnt at b;split at b
 ·rename_i hg;have:=Wp hg;exact ⟨hg,a,b,by omega⟩
 ·omega
theorem w64 {x:Int} (h1 : -9223372036854775808≤x) (h2:x≤9223372036854775807):IntKind.i64.wrap x=x:=by rw [IntKind.wrap_i64];omega
theorem w6 (x:Int) (h : -9223372036854775808≤x∧x≤9223372036854775807):∀[Inhabited Unit],IntKind.i64.wrap x=x:=by intro _;exact w64 h.1 h.2
end Go.Proofs.Ytaldglgobgjeaaa.V
set_option linter.all false
namespace Go.Proofs.Ytaldglgobgjeaaa.V
open Go Go.VM Go.Proofs
set_option maxRecDepth 10000
variable {frz:Nat} {H:Heap}
theorem Qz (n lo hi:Int):vcall C frz 17 [.int .i64 n,.int .i64 lo,.int .i64 hi] H=some (.bool (decide (inR lo n hi)),H):=by
 rw [Qa (fn:=Try.f17) Try.func17 rfl (by kernel_rfl) rfl]
 simp
 repeat' (first|refine Wo _ _ ?_ ?_|refine Qw _ ?_ ?_)<;>intro h<;>simp [h,inR]
theorem Og (n lo hi:Int):vcall C frz 76 [.int .i64 n,.int .i64 lo,.int .i64 hi] H=some (.bool (decide (inR lo n hi)),H):=by
 rw [Qa (fn:=Try.f76) Try.func76 rfl (by kernel_rfl) rfl]
 simp
 repeat' (first|refine Wo _ _ ?_ ?_|refine Qw _ ?_ ?_)<;>intro h<;>simp [h,inR]
theorem Uh (w h:Int):vcall C frz 46 [.agg #[.int .i64 w,.int .i64 h]] H=some (.bool (decide (okG w h)),H):=by
 rw [Qa (fn:=Try.f46) Try.func46 rfl (by kernel_rfl) rfl]
 simp [Qz]
 refine Wo _ _ ?_ ?_<;>intro h1<;>simp [h1,Qz]
 ·have:okG w h↔inR 1 h 4:=⟨fun g=>g.2,fun g=>⟨h1,g⟩⟩
  simp [this]
 ·exact fun g=>h1 g.1
theorem Oy (w h:Int):vcall C frz 57 [.agg #[.int .i64 w,.int .i64 h]] H=some (.bool (decide (okG w h)),H):=by
 rw [Qa (fn:=Try.f57) Try.func57 rfl (by kernel_rfl) rfl]
 simp [Og]
 refine Wo _ _ ?_ ?_<;>intro h1<;>simp [h1,Og]
 ·have:okG w h↔inR 1 h 4:=⟨fun g=>g.2,fun g=>⟨h1,g⟩⟩
  simp [this]
 ·exact fun g=>h1 g.1
theorem Q0 (w h:Int):vcall C frz 27 [.agg #[.int .i64 w,.int .i64 h]] H=some (.int .i64 (cnt w h),H):=by
 rw [Qa (fn:=Try.f27) Try.func27 rfl (by kernel_rfl) rfl]
 simp [Uh]
 refine Qw _ ?_ ?_<;>intro h1<;>simp [h1,cnt]
 have:=Wp h1
 exact w64 (by omega) (by omega)
theorem To (w h:Int):vcall C frz 43 [.agg #[.int .i64 w,.int .i64 h]] H=some (.int .i64 (cnt w h),H):=by
 rw [Qa (fn:=Try.f43) Try.func43 rfl (by kernel_rfl) rfl]
 simp [Oy]
 refine Qw _ ?_ ?_<;>intro h1<;>simp [h1,cnt]
 have:=Wp h1
 exact w64 (by omega) (by omega)
theorem Od (w h n:Int):inR 0 n (IntKind.i64.wrap (cnt w h-1))↔isN w h n:=by
 have:=Qj w h
 rw [w64 (by omega) (by omega)]
 simp only [inR,isN];omega
theorem S9 (w h n:Int):vcall C frz 36 [.agg #[.int .i64 w,.int .i64 h],.int .i64 n] H=some (.bool (decide (isN w h n)),H):=by
 rw [Qa (fn:=Try.f36) Try.func36 rfl (by kernel_rfl) rfl]
 simp [Q0,Qz,Od]
theorem Jq (w h x y:Int) (h1:okG w h):(inR 0 x (IntKind.i64.wrap (w-1))↔0≤x∧x<w)∧(inR 0 y (IntKind.i64.wrap (h-1))↔0≤y∧y<h):=by
 obtain ⟨⟨a1,a2⟩,b1,b2⟩:=h1
 rw [w64 (by omega) (by omega),w64 (by omega) (by omega)]
 simp only [inR];omega
theorem Ji {w h x y:Int} (h1:okG w h) (h2:0≤x∧x<w) (h3:0≤y∧y<h):IntKind.i64.wrap (IntKind.i64.wrap (y*w)+x)=y*w+x:=by
 have hm:=Wp h1
 obtain ⟨⟨a1,a2⟩,b1,b2⟩:=h1
 have c1:0*0≤y*w:=Int.mul_le_mul h3.1 (by omega) (by omega) (by omega)
 have c2:y*w≤h*w:=Int.mul_le_mul_of_nonneg_right (by omega) (by omega)
 rw [Int.mul_comm h w] at c2
 rw [w64 (x:=y*w) (by omega) (by omega),w64 (by omega) (by omega)]
theorem X4 (w h x y:Int):vcall C frz 65 [.agg #[.int .i64 w,.int .i64 h],.int .i64 x,.int .i64 y] H=some (.int .i64 (nodeAt w h x y),H):=by
 rw [Qa (fn:=Try.f65) Try.func65 rfl (by kernel_rfl) rfl]
 simp [Uh]
 refine Wo _ _ ?_ ?_<;>intro h1<;>simp [h1,Qz,nodeAt]
 obtain ⟨e1,e2⟩:=Jq w h x y h1
 simp only [e1,e2]
 refine Wo _ _ ?_ ?_<;>intro h2<;>simp [h2,Qz]
 simp only [e2]
 refine Qw _ ?_ ?_<;>intro h3<;>simp [h3]
 exact Ji h1 h2 h3
theorem Ls {n w:Int} (h:0≤n) (h1:1≤w) (h2:n<16):IntKind.i64.wrap (n.tdiv w)=n/w:=by
 rw [Int.tdiv_eq_ediv_of_nonneg h]
 have h3:=Int.ediv_le_self w h
 have h4:=Int.ediv_nonneg h (by omega:0≤w)
 exact w64 (by omega) (by omega)
theorem My {n w:Int} (h:0≤n):n.tmod w=n%w:=Int.tmod_eq_emod_of_nonneg h
theorem Nc {n w:Int} (h:0≤n) (h1:1≤w) (h2:n<16):0≤n/w∧n/w<16:=⟨Int.ediv_nonneg h (by omega),by have:=Int.ediv_le_self w h;omega⟩
theorem O0 {n w:Int} (h1:1≤w) (h2:w≤4):0≤n%w∧n%w<4:=⟨Int.emod_nonneg _ (by omega),by have:=Int.emod_lt_of_pos n (by omega:0<w);omega⟩
theorem Vf (w h n p:Int):vcall C frz 54 [.agg #[.int .i64 w,.int .i64 h],.int .i64 n,.int .i64 p] H=some (.int .i64 (next w h n p),H):=by
 rw [Qa (fn:=Try.f54) Try.func54 rfl (by kernel_rfl) rfl]
 simp [S9]
 refine Qw _ ?_ ?_<;>intro h1<;>simp [h1,next]
 obtain ⟨⟨⟨a1,a2⟩,b1,b2⟩,g2,g3,g4⟩:=T2 h1
 rw [Qf (h:=by kernel_rfl)]
 simp
 refine W8 (by omega) ?_
 refine W8 (by omega) ?_
 obtain ⟨d1,d2⟩:=Nc g2 a1 g4
 obtain ⟨m1,m2⟩:=O0 (n:=n) a1 a2
 rw [Ls g2 a1 g4,My g2]
 refine Qw _ ?_ ?_<;>intro p0<;>simp [p0,X4]
 ·rw [w64 (by omega) (by omega)]
 refine Qw _ ?_ ?_<;>intro p1<;>simp [p1,X4]
 ·rw [w64 (by omega) (by omega)]
 refine Qw _ ?_ ?_<;>intro p2<;>simp [p2,X4]
 ·rw [w64 (by omega) (by omega)]
 refine Qw _ ?_ ?_<;>intro p3<;>simp [p3,X4]
 ·rw [w64 (by omega) (by omega)]
 refine Qw _ ?_ ?_<;>intro p4<;>simp [p4,X4]
theorem S1 (w h c:Int):inR 0 c (IntKind.i64.wrap (IntKind.i64.wrap (4*cnt w h)-1))↔0≤c∧c<4*cnt w h:=by
 have:=Qj w h
 rw [w64 (x:=4*cnt w h) (by omega) (by omega),w64 (by omega) (by omega)]
 simp only [inR];omega
theorem Rp {w h c:Int} (h1:0≤c∧c<4*cnt w h):IntKind.i64.wrap (c.tdiv 4)=c/4∧c.tmod 4=c%4:=by
 have:=Qj w h
 rw [Int.tdiv_eq_ediv_of_nonneg h1.1,Int.tmod_eq_emod_of_nonneg h1.1]
 exact ⟨w64 (by omega) (by omega),rfl⟩
theorem P4 (w h c:Int):vcall C frz 47 [.agg #[.int .i64 w,.int .i64 h],.int .i64 c] H=some (.bool (decide (leads w h c)),H):=by
 rw [Qa (fn:=Try.f47) Try.func47 rfl (by kernel_rfl) rfl]
 simp [Q0,Qz]
 refine Wo _ _ ?_ ?_<;>intro h1<;>simp [h1]
 ·rw [S1] at h1
  obtain ⟨e1,e2⟩:=Rp h1
  simp [e1,e2,Vf,leads,h1]
 ·rw [S1] at h1
  exact fun g=>h1 g.1
theorem Wu (xs:List Int) (i:Nat) (h:i<xs.length):xs.getD i 0=xs[i]:=by simp [List.getD_eq_getElem?_getD,h]
theorem Vb {w h:Int} {b:List Int} {i:Nat} (h5:i<b.length) (hg:¬goodAt w h b i):¬meshOk w h b:=fun hh=>hg (hh.1 i h5)
theorem S0 {w h:Int} {b:List Int} {i:Nat} (hj:∀j<i,goodAt w h b j) (hg:goodAt w h b i):∀j<i+1,goodAt w h b j:=fun j hh=>by
 by_cases hji:j<i
 ·exact hj j hji
 ·have:j=i:=by omega
  rw [this];exact hg
theorem Xw {w h:Int} {b:List Int} {i:Nat} (h5:i<b.length):goodAt w h b i↔leads w h b[i]∧(0<i→b[i-1]<b[i]):=by
 unfold goodAt
 rw [Wu _ _ h5]
 refine and_congr Iff.rfl ⟨fun g p=>?_,fun g p=>?_⟩
 ·have:=g p;rwa [Wu _ _ (by omega)] at this
 ·rw [Wu _ _ (by omega)];exact g p
theorem R6 {b:List Int} {c:Int} {i:Nat} (h:i<b.length) (h1:c∉b.take i) (h2:¬b[i]=c):c∉b.take (i+1):=by
 rw [List.take_succ_eq_append_getElem h]
 simp only [List.mem_append,List.mem_singleton,not_or]
 exact ⟨h1,fun hh=>h2 hh.symm⟩
def place (b:List Int) (c:Int):Int:=if c∈b then b.idxOf c else -1
theorem St (b:List Int) (c:Int) : -1≤place b c∧place b c<b.length∧(0≤place b c↔c∈b):=by
 unfold place
 split
 ·rename_i h
  have:=List.idxOf_lt_length_iff.2 h
  refine ⟨by omega,by omega,?_⟩
  simp [h]
 ·rename_i h
  refine ⟨by omega,by omega,?_⟩
  simp [h]
theorem Ny {b:List Int} {c:Int} {i:Nat} (h:i<b.length) (h1:c∉b.take i) (h2:b[i]=c):place b c=i:=by
 have hm:c∈b:=h2▸List.getElem_mem h
 unfold place
 rw [if_pos hm]
 have e:b=b.take i++b.drop i:=(List.take_append_drop i b).symm
 have e2:b.drop i=c::b.drop (i+1):=by rw [List.drop_eq_getElem_cons h,h2]
 rw [e,List.idxOf_append,if_neg h1,e2,List.idxOf_cons_self]
 simp;omega
theorem Ln (v:Value) (b:List Int) (c:Int) (hI:IsI H v b) (hl:b.length≤1073741824) :
 vcall C frz 64 [v,.int .i64 c] H=some (.int .i64 (place b c),H):=by
 rw [Qa (fn:=Try.f64) Try.func64 rfl (by kernel_rfl) rfl]
 simp [hI.len]
 refine Vh (fun n t H'=>∃i:Nat,n=b.length-i∧i≤b.length∧t 0=v∧t 1=.int .i64 c∧t 6=v∧t 7=.int .i64 b.length∧t 8=.int .i64 i∧H'=H∧c∉b.take i) ?_ (n:=b.length) ⟨0,by simp⟩
 rintro n t H' ⟨i,rfl,hi,h0,h1,h2,h3,h4,rfl,hj⟩ ih
 simp [h0,h1,h2,h3,h4,hI.len]
 refine Qw _ ?_ ?_<;>intro h5
 ·simp [h0,h1,h2,h3,h4,h5,hI.idx,hI.load,Wu]
  refine Qw _ ?_ ?_<;>intro h6<;>simp [h0,h1,h2,h3,h4,h6]
  ·rw [Ny (c:=b[i]) h5 (by first|exact hj|(rw [h6];exact hj)|(rw [← h6];exact hj)) rfl]
  ·refine ih (b.length-(i+1)) _ _ ⟨i+1,rfl,by omega,by simp [h0],by simp [h1],by simp [h2],by simp [h3],?_,rfl,R6 h5 hj (by omega)⟩ (by omega)
   simp;rw [w64 (by omega) (by omega)]
 ·have:i=b.length:=by omega
  subst this
  simp [h0,h1,h2,h3]
  rw [List.take_length] at hj
  rw [place,if_neg hj]
theorem R4 (v:Value) (b:List Int) (c:Int) (hI:IsI H v b) (hl:b.length≤1073741824) :
 vcall C frz 53 [v,.int .i64 c] H=some (.bool (decide (c∈b)),H):=by
 rw [Qa (fn:=Try.f53) Try.func53 rfl (by kernel_rfl) rfl]
 simp [Ln _ _ _ hI hl,St]
theorem M1 (w h:Int) (v:Value) (b:List Int) (c:Int) (hI:IsI H v b) (h0:leads w h c) :
 vcall C frz 39 [.agg #[.int .i64 w,.int .i64 h,v],.int .i64 c] H=some (.int .i64 (next w h (c/4) (c%4)),H):=by
 rw [Qa (fn:=Try.f39) Try.func39 rfl (by kernel_rfl) rfl]
 obtain ⟨e1,e2⟩:=Rp h0.1
 simp [hI.one',hI.cells,e1,e2,Vf]
theorem Y6 (w h:Int) (v:Value) (b:List Int) (hI:IsI H v b) (hl:b.length≤1073741824) :
 vcall C frz 28 [.agg #[.int .i64 w,.int .i64 h,v]] H=some (.bool (decide (meshOk w h b)),H):=by
 rw [Qa (fn:=Try.f28) Try.func28 rfl (by kernel_rfl) rfl]
 simp [hI.one',hI.cells,hI.lenA]
 refine Vh (fun n t H'=>∃i:Nat,n=b.length-i∧i≤b.length∧t 1=.pointer (some ⟨H.length,0,some 0⟩)∧t 6=v∧t 7=.int .i64 b.length∧t 8=.int .i64 i∧
  H'=H++[⟨[.int .i64 w,.int .i64 h,v],0,28⟩]∧∀j<i,goodAt w h b j) ?_ (n:=b.length) ⟨0,by simp⟩
 rintro n t H' ⟨i,rfl,hi,h1,h2,h3,h4,rfl,hj⟩ ih
 have next:=fun (t':Env) (e1:t' 1=.pointer (some ⟨H.length,0,some 0⟩)) (e2:t' 6=v) (e3:t' 7=.int .i64 b.length) (e4:t' 8=.int .i64 (i+1:Nat)) (e5:i<b.length) (e6:goodAt w h b i)=>
  ih (b.length-(i+1)) t' _ ⟨i+1,rfl,by omega,e1,e2,e3,e4,rfl,S0 hj e6⟩ (by omega)
 simp [h1,h2,h3,h4]
 refine Qw _ ?_ ?_<;>intro h5
 ·simp [h1,h2,h3,h4,h5,hI.idxA,hI.loadA,Wu,P4]
  refine Wo _ _ ?_ ?_<;>intro hL<;>simp [h1,h2,h3,h4,h5,hL]
  ·refine Wo _ _ ?_ ?_<;>intro h0
   ·have e:IntKind.i64.wrap ((i:Int)-1)=((i-1:Nat):Int):=by rw [w64 (by omega) (by omega)];omega
    have e':i-1<b.length:=by omega
    simp [h1,h2,h3,h4,h5,h0,hL,hI.idxA,hI.loadA,Wu,e,e']
    refine Qw _ ?_ ?_<;>intro h6
    ·simp [h1,h2,h3,h4,h5,h0,hL,h6]
     refine Vb h5 ?_
     rw [Xw h5]
     exact fun hh=>absurd (hh.2 h0) (by omega)
    ·simp [h1,h2,h3,h4,h5,h0,hL,h6]
     refine next _ (by simp [h1]) (by simp [h2]) (by simp [h3]) ?_ h5 ((Xw h5).2 ⟨hL,fun _=>by omega⟩)
     simp;rw [w64 (by omega) (by omega)]
   ·simp [h1,h2,h3,h4,h5,h0,hL]
    refine next _ (by simp [h1]) (by simp [h2]) (by simp [h3]) ?_ h5 ((Xw h5).2 ⟨hL,fun hh=>absurd hh h0⟩)
    simp;rw [w64 (by omega) (by omega)]
  ·refine Vb h5 ?_
   rw [Xw h5]
   exact fun hh=>hL hh.1
 ·have:i=b.length:=by omega
  subst this
  simp [h1,h2,h3,h4,Uh]
  exact ⟨fun hg=>⟨hj,hg⟩,fun hh=>hh.2⟩
theorem Tn (w h:Int) (v:Value) (b:List Int) (c:Int) (hI:IsI H v b) (hl:b.length≤1073741824) :
 vcall C frz 38 [.agg #[.int .i64 w,.int .i64 h,v],.int .i64 c] H=some (.bool (decide (meshOk w h b∧has w h b c)),H):=by
 rw [Qa (fn:=Try.f38) Try.func38 rfl (by kernel_rfl) rfl]
 simp [hI.one',hI.cells,Y6 _ _ _ _ (hI.app _) hl]
 refine Wo _ _ ?_ ?_<;>intro h1<;>simp [h1,P4,-Bool.decide_and]
 refine Wo _ _ ?_ ?_<;>intro h2<;>simp [h2,has,R4 _ _ _ (hI.app _) hl,-Bool.decide_and]
end Go.Proofs.Ytaldglgobgjeaaa.V
set_option linter.all false
namespace Go.Proofs.Ytaldglgobgjeaaa.V
open Go Go.VM Go.Proofs
set_option maxRecDepth 10000
def portOf (w h:Int) (T:List Int) (a to:Int):Int:=rd T (a*cnt w h+to)
def stepOk (w h:Int) (b T:List Int) (a to:Int):Prop:=inR 0 (portOf w h T a to) 3∧has w h b (4*a+portOf w h T a to)
instance (w h:Int) (b T:List Int) (a to:Int):Decidable (stepOk w h b T a to):=inferInstanceAs (Decidable (_∧_))
def walkN (w h:Int) (b T:List Int) (to:Int):Nat→Int→List Int→List Int
 | 0,a,out=>if portOf w h T a to=4 then (if a=to then out else []) else []
 | f+1,a,out=>if portOf w h T a to=4 then (if a=to then out else []) else
  if stepOk w h b T a to then walkN w h b T to f (next w h a (portOf w h T a to)) (out++[4*a+portOf w h T a to]) else []
def walk (w h:Int) (b T:List Int) (a to:Int):List Int:=walkN w h b T to (cnt w h).toNat a []
def tsized (w h:Int) (b T:List Int):Prop:=meshOk w h b∧(T.length:Int)=cnt w h*cnt w h
instance (w h:Int) (b T:List Int):Decidable (tsized w h b T):=inferInstanceAs (Decidable (_∧_))
def tableOk (w h:Int) (b T:List Int):Prop:=tsized w h b T∧∀a,a<(cnt w h).toNat→∀c,c<(cnt w h).toNat→(a=c→portOf w h T a a=4)∧(a≠c→walk w h b T a c≠[])
instance (w h:Int) (b T:List Int):Decidable (tableOk w h b T):=inferInstanceAs (Decidable (_∧_))
theorem Tb (w h:Int) (b T:List Int) (to:Int):∀f a out,(walkN w h b T to f a out).length≤out.length+f:=by
 intro f
 induction f with
 | zero=>
  intro a out;simp only [walkN];repeat' split
  all_goals simp
 | succ f ih=>
  intro a out;simp only [walkN];repeat' split
  ·omega
  ·simp
  ·have:=ih (next w h a (portOf w h T a to)) (out++[4*a+portOf w h T a to])
   simp at this;omega
  ·simp
theorem Xz {w h x y:Int} (hx:0≤nodeAt w h x y):isN w h (nodeAt w h x y):=by
 refine ⟨hx,?_⟩
 unfold nodeAt at hx ⊢
 split
 ·rename_i h1
  obtain ⟨h1,h2,h3⟩:=h1
  have hm:=Wp h1
  have c2:y*w≤(h-1)*w:=Int.mul_le_mul_of_nonneg_right (by omega) (by have:=h1.1.1;omega)
  rw [Int.sub_mul,Int.mul_comm h w] at c2
  rw [cnt,if_pos h1]
  omega
 ·rename_i h1;rw [if_neg h1] at hx;omega
theorem Ri {w h a p:Int} (hx:0≤next w h a p):isN w h (next w h a p):=by
 unfold next at hx ⊢
 by_cases h1:isN w h a
 ·rw [if_pos h1] at hx ⊢
  by_cases p0:p=0
  ·rw [if_pos p0] at hx ⊢;exact Xz hx
  rw [if_neg p0] at hx ⊢
  by_cases p1:p=1
  ·rw [if_pos p1] at hx ⊢;exact Xz hx
  rw [if_neg p1] at hx ⊢
  by_cases p2:p=2
  ·rw [if_pos p2] at hx ⊢;exact Xz hx
  rw [if_neg p2] at hx ⊢
  by_cases p3:p=3
  ·rw [if_pos p3] at hx ⊢;exact Xz hx
  rw [if_neg p3] at hx ⊢
  by_cases p4:p=4
  ·rw [if_pos p4] at hx ⊢;exact h1
  rw [if_neg p4] at hx;omega
 ·rw [if_neg h1] at hx;omega
theorem Zn {w h a p:Int} {b:List Int} (h0:inR 0 p 3) (h1:has w h b (4*a+p)):(4*a+p)/4=a∧(4*a+p)%4=p∧isN w h (next w h a p):=by
 obtain ⟨h2,h3⟩:=h0
 have e1:(4*a+p)/4=a:=by omega
 have e2:(4*a+p)%4=p:=by omega
 refine ⟨e1,e2,Ri ?_⟩
 have:=h1.1.2
 rwa [e1,e2] at this
theorem Ro {w h a to:Int} (h1:isN w h a) (h2:isN w h to):0≤a*cnt w h+to∧a*cnt w h+to<cnt w h*cnt w h∧a*cnt w h≤256∧0≤a*cnt w h:=by
 have hc:=Qj w h
 obtain ⟨a1,a2⟩:=h1
 obtain ⟨b1,b2⟩:=h2
 have c1:0*0≤a*cnt w h:=Int.mul_le_mul a1 hc.1 (by omega) (by omega)
 have c2:a*cnt w h≤(cnt w h-1)*cnt w h:=Int.mul_le_mul_of_nonneg_right (by omega) hc.1
 rw [Int.sub_mul] at c2
 have c3:cnt w h*cnt w h≤16*16:=Int.mul_le_mul hc.2 hc.2 hc.1 (by omega)
 omega
end Go.Proofs.Ytaldglgobgjeaaa.V
set_option linter.all false
namespace Go.Proofs.Ytaldglgobgjeaaa.V
open Go Go.VM
theorem Oa {s:List Int} {j:Nat} (h:j<s.length):rd s (j:Int)=s[j]:=by simp [rd,List.getD_eq_getElem?_getD,h]
theorem Ku {s:List Int} {k:Int} (h0:0≤k) (h1:k<s.length):rd s k∈s:=by
 obtain ⟨i,rfl⟩:=Int.eq_ofNat_of_zero_le h0
 rw [Oa (by omega)];exact List.getElem_mem _
def endC (w h c:Int):Int:=next w h (c/4) (c%4)
def backC (w h c:Int):Int:=4*endC w h c+opp (c%4)
def link (w h:Int) (b:List Int) (c:Int):Prop:=has w h b c∧has w h b (backC w h c)
instance (w h:Int) (b:List Int) (c:Int):Decidable (link w h b c):=inferInstanceAs (Decidable (_∧_))
def neg (s:List Int):Nat:=s.countP (· < 0)
theorem R9 {s:List Int} {k x v:Int} (h0:0≤k) (h1:k<s.length) (hx:0≤x):rd (s.set k.toNat v) x=if x=k then v else rd s x:=by
 obtain ⟨i,rfl⟩:=Int.eq_ofNat_of_zero_le h0
 obtain ⟨j,rfl⟩:=Int.eq_ofNat_of_zero_le hx
 simp only [Int.toNat_natCast]
 by_cases hj:j<s.length
 ·rw [Oa (by simpa using hj),Oa hj,List.getElem_set]
  by_cases e:i=j
  ·subst e;simp
  ·rw [if_neg e,if_neg (by omega)]
 ·rw [if_neg (by omega)]
  simp [rd,hj]
theorem Ou {s:List Int} {x:Int} (h0:0≤x) (h:rd s x<0):x<s.length:=by
 obtain ⟨j,rfl⟩:=Int.eq_ofNat_of_zero_le h0
 by_cases hj:j<s.length
 ·omega
 ·simp [rd,hj] at h
theorem P2 {s:List Int} {k v:Int} (h0:0≤k) (h1:k<s.length) (h:rd s k<0) (hv:0≤v):neg (s.set k.toNat v)+1=neg s:=by
 obtain ⟨i,rfl⟩:=Int.eq_ofNat_of_zero_le h0
 have hi:i<s.length:=by omega
 rw [Oa hi] at h
 unfold neg
 rw [Int.toNat_natCast,List.countP_set hi]
 have:0<s.countP (· < 0):=List.countP_pos_iff.2 ⟨_,List.getElem_mem hi,by simpa using h⟩
 rw [if_pos (by simpa using h),if_neg (by simp;omega)]
 omega
def vst (w h:Int) (b:List Int) (a d:Int) (x:List Int×List Int) (p:Nat):List Int×List Int:=
 if link w h b (4*a+p)∧rd x.1 (next w h a p)<0 then (x.1.set (next w h a p).toNat d,x.2++[next w h a p]) else x
def vis (w h:Int) (b:List Int) (a d:Int) (x:List Int×List Int):List Int×List Int:=(List.range 4).foldl (vst w h b a d) x
theorem Ov {w h:Int} {b:List Int} {a:Int} {p:Nat} (hp:p<4) (h1:link w h b (4*a+p)):isN w h a∧isN w h (next w h a p)∧endC w h (4*a+p)=next w h a p:=by
 obtain ⟨⟨⟨h2,h3⟩,_⟩,_⟩:=h1
 have e1:(4*a+(p:Int))/4=a:=by omega
 have e2:(4*a+(p:Int))%4=p:=by omega
 unfold endC
 rw [e1,e2] at h3 ⊢
 exact ⟨⟨by omega,by omega⟩,Ri h3,rfl⟩
structure BExt (w h:Int) (d:Int) (x y:List Int×List Int):Prop where
 len:y.1.length=x.1.length
 old:∀v,0≤v→0≤rd x.1 v→rd y.1 v=rd x.1 v
 new:∀v∈y.2,v∈x.2∨(isN w h v∧rd y.1 v=d)
 sum:neg y.1+y.2.length=neg x.1+x.2.length
 pre:∀v∈x.2,v∈y.2
 low:(∀v∈x.1,-1≤v∧v≤d)→∀v∈y.1,-1≤v∧v≤d
theorem BExt.rfl' {w h d:Int} {x:List Int×List Int}:BExt w h d x x:=⟨rfl,fun _ _ _=>rfl,fun _ h=>.inl h,rfl,fun _ h=>h,fun h=>h⟩
theorem BExt.trans {w h d:Int} {x y z:List Int×List Int} (hd:0≤d) (a:BExt w h d x y) (b:BExt w h d y z):BExt w h d x z where
 len:=b.len.trans a.len
 old v h0 h1:=by
  have e:=a.old v h0 h1
  rw [b.old v h0 (by omega),e]
 new v hv:=by
  rcases b.new v hv with h1|h1
  ·rcases a.new v h1 with h2|⟨h2,h3⟩
   ·exact .inl h2
   ·exact .inr ⟨h2,by rw [b.old v h2.1 (by omega),h3]⟩
  ·exact .inr h1
 sum:=b.sum.trans a.sum
 pre v h:=b.pre v (a.pre v h)
 low h:=b.low (a.low h)
theorem Lz {w h:Int} {b:List Int} {a d:Int} {x:List Int×List Int} {p:Nat} (hp:p<4) (hd:0≤d):BExt w h d x (vst w h b a d x p):=by
 unfold vst
 by_cases hc:link w h b (4*a+p)∧rd x.1 (next w h a p)<0
 ·rw [if_pos hc]
  obtain ⟨h1,h2,h3⟩:=Ov hp hc.1
  have h4:=Ou h2.1 hc.2
  have:=P2 h2.1 h4 hc.2 hd
  refine ⟨by simp,fun v h0 h5=>?_,fun v hv=>?_,by simp;omega,fun v hv=>by simp [hv],fun hl v hv=>?_⟩
  ·simp only
   rw [R9 h2.1 h4 h0,if_neg (by intro e;subst e;omega)]
  ·simp only [List.mem_append,List.mem_singleton] at hv
   rcases hv with hv|rfl
   ·exact .inl hv
   ·exact .inr ⟨h2,by simp only;rw [R9 h2.1 h4 h2.1,if_pos rfl]⟩
  ·rcases List.mem_or_eq_of_mem_set hv with h6|rfl
   ·exact hl v h6
   ·omega
 ·rw [if_neg hc];exact BExt.rfl'
theorem V2 {w h:Int} {b:List Int} {a d:Int} (hd:0≤d):∀(l:List Nat) (x:List Int×List Int),(∀p∈l,p<4)→BExt w h d x (l.foldl (vst w h b a d) x)
 | [],x,_=>BExt.rfl'
 | p::l,x,hp=>(Lz (hp p (by simp)) hd).trans hd (V2 hd l _ (fun q hq=>hp q (by simp [hq])))
theorem Tw {w h:Int} {b:List Int} {a d:Int} (hd:0≤d) (x:List Int×List Int):BExt w h d x (vis w h b a d x):=V2 hd _ _ (by simp)
theorem Lg {w h:Int} {b:List Int} {a d:Int} (s q q':List Int) (p:Nat):vst w h b a d (s,q++q') p=((vst w h b a d (s,q') p).1,q++(vst w h b a d (s,q') p).2):=by
 unfold vst
 simp only
 split<;>simp
theorem Ta {w h:Int} {b:List Int} {a d:Int} (q:List Int):∀(l:List Nat) (s q':List Int),l.foldl (vst w h b a d) (s,q++q')=((l.foldl (vst w h b a d) (s,q')).1,q++(l.foldl (vst w h b a d) (s,q')).2)
 | [],s,q'=>rfl
 | p::l,s,q'=>by
  rw [List.foldl_cons,List.foldl_cons,Lg]
  exact Ta q l _ _
theorem Lc {w h:Int} {b:List Int} {a d:Int} (q s q':List Int):vis w h b a d (s,q++q')=((vis w h b a d (s,q')).1,q++(vis w h b a d (s,q')).2):=Ta q _ _ _
inductive Run (w h:Int) (b:List Int):List Int→List Int→List Int→Int→List Int→Prop
 | done (s:List Int) (d:Int):Run w h b s [] [] d s
 | level {s:List Int} {x:Int} {nx:List Int} {d:Int} {r:List Int}:Run w h b s (x::nx) [] (d+1) r→Run w h b s [] (x::nx) d r
 | node {s:List Int} {a:Int} {rest nx:List Int} {d:Int} {r:List Int}:Run w h b (vis w h b a d (s,nx)).1 rest (vis w h b a d (s,nx)).2 d r→Run w h b s (a::rest) nx d r
structure Inv (w h:Int) (s rest nx:List Int) (d:Int):Prop where
 len:(s.length:Int)=cnt w h
 fr:∀v∈rest,isN w h v∧rd s v=d-1
 nw:∀v∈nx,isN w h v∧rd s v=d
 one:1≤d
 sum:d+neg s+nx.length≤cnt w h
 low:∀v∈s,-1≤v∧v≤d
theorem Inv.level {w h:Int} {s nx:List Int} {x d:Int} (i:Inv w h s [] (x::nx) d):Inv w h s (x::nx) [] (d+1):=
 ⟨i.len,fun v hv=>⟨(i.nw v hv).1,by have:=(i.nw v hv).2;omega⟩,by simp,by have:=i.one;omega,by have:=i.sum;simp at this ⊢;omega,fun v hv=>by have:=i.low v hv;omega⟩
theorem Inv.node {w h:Int} {b s rest nx:List Int} {a d:Int} (i:Inv w h s (a::rest) nx d):Inv w h (vis w h b a d (s,nx)).1 rest (vis w h b a d (s,nx)).2 d:=by
 have h1:=i.one
 have e:=Tw (w:=w) (h:=h) (b:=b) (a:=a) (d:=d) (by omega) (s,nx)
 refine ⟨by rw [e.len];exact i.len,fun v hv=>?_,fun v hv=>?_,h1,?_,e.low i.low⟩
 ·obtain ⟨h2,h3⟩:=i.fr v (by simp [hv])
  exact ⟨h2,by rw [e.old v h2.1 (by simp only;omega)];exact h3⟩
 ·rcases e.new v hv with h2|h2
  ·obtain ⟨h3,h4⟩:=i.nw v h2
   exact ⟨h3,by rw [e.old v h3.1 (by simp only;omega)];exact h4⟩
  ·exact h2
 ·have:=e.sum;have:=i.sum;simp only at *;omega
theorem Ja {w h:Int} {b:List Int}:∀(m:Nat) (s rest nx:List Int) (d:Int),3*neg s+2*nx.length+rest.length≤m→Inv w h s rest nx d→∃r,Run w h b s rest nx d r:=by
 intro m
 induction m with
 | zero=>
  intro s rest nx d hm i
  cases rest with
  | nil=>cases nx with
   | nil=>exact ⟨s,.done s d⟩
   | cons x nx=>simp at hm
  | cons a rest=>simp at hm
 | succ m ih=>
  intro s rest nx d hm i
  cases rest with
  | nil=>cases nx with
   | nil=>exact ⟨s,.done s d⟩
   | cons x nx=>
    obtain ⟨r,hr⟩:=ih s (x::nx) [] (d+1) (by simp at hm ⊢;omega) i.level
    exact ⟨r,.level hr⟩
  | cons a rest=>
   have e:=(Tw (w:=w) (h:=h) (b:=b) (a:=a) (d:=d) (by have:=i.one;omega) (s,nx)).sum
   have e2:=(Tw (w:=w) (h:=h) (b:=b) (a:=a) (d:=d) (by have:=i.one;omega) (s,nx))
   have h1:nx.length≤(vis w h b a d (s,nx)).2.length:=by
    have:=Lc (w:=w) (h:=h) (b:=b) (a:=a) (d:=d) nx s []
    rw [List.append_nil] at this;rw [this];simp
   simp only at e
   obtain ⟨r,hr⟩:=ih (vis w h b a d (s,nx)).1 rest (vis w h b a d (s,nx)).2 d (by simp at hm;omega) i.node
   exact ⟨r,.node hr⟩
def start (w h root:Int):List Int:=(List.replicate (cnt w h).toNat (-1)).set root.toNat 0
theorem Oq {w h root:Int} (hr:isN w h root):Inv w h (start w h root) [root] [] 1∧((neg (start w h root):Nat):Int)+1=cnt w h:=by
 have hc:=Qj w h
 have hl:root<((List.replicate (cnt w h).toNat (-1:Int)).length:Int):=by have:=hr.2;simp;omega
 have h0:rd (List.replicate (cnt w h).toNat (-1:Int)) root=-1:=by
  have:=Ku hr.1 hl
  exact List.eq_of_mem_replicate this
 have h1:=P2 (v:=0) hr.1 hl (by omega) (by omega)
 have h2:neg (List.replicate (cnt w h).toNat (-1:Int))=(cnt w h).toNat:=by unfold neg;simp [List.countP_replicate]
 rw [h2] at h1
 have h3:((neg (start w h root):Nat):Int)+1=cnt w h:=by unfold start;omega
 refine ⟨⟨by unfold start;simp;omega,fun v hv=>?_,by simp,by omega,by simp;omega,fun v hv=>?_⟩,h3⟩
 ·simp only [List.mem_singleton] at hv
  subst hv
  refine ⟨hr,?_⟩
  unfold start;rw [R9 hr.1 hl hr.1,if_pos rfl];omega
 ·rcases List.mem_or_eq_of_mem_set hv with h6|rfl
  ·have:=List.eq_of_mem_replicate h6;omega
  ·omega
def rootOk (w h:Int) (b:List Int) (root:Int):Prop:=meshOk w h b∧isN w h root
instance (w h:Int) (b:List Int) (root:Int):Decidable (rootOk w h b root):=inferInstanceAs (Decidable (_∧_))
theorem Nd {w h:Int} (b:List Int) {root:Int} (hr:isN w h root):∃r,Run w h b (start w h root) [root] [] 1 r:=Ja _ _ _ _ _ (Nat.le_refl _) (Oq hr).1
noncomputable def depths (w h:Int) (b:List Int) (root:Int):List Int:=if H:rootOk w h b root then Classical.choose (Nd b H.2) else []
def conn (w h:Int) (b:List Int):Prop:=meshOk w h b∧-1∉depths w h b 0
noncomputable instance (w h:Int) (b:List Int):Decidable (conn w h b):=inferInstanceAs (Decidable (_∧_))
def toRoot (w h:Int) (b d:List Int) (i:Int) (p:Nat):Prop:=link w h b (4*i+p)∧rd d (next w h i p)=rd d i-1
instance (w h:Int) (b d:List Int) (i:Int) (p:Nat):Decidable (toRoot w h b d i p):=inferInstanceAs (Decidable (_∧_))
def Hi (d:Int) (x:List Int×List Int):Prop:=∀v∈x.1,v<d∨(v=d∧x.2≠[])
theorem Jj {w h:Int} {b:List Int} {a d:Int} {x:List Int×List Int} {p:Nat} (hx:Hi d x):Hi d (vst w h b a d x p):=by
 unfold vst
 split
 ·intro v hv
  rcases List.mem_or_eq_of_mem_set hv with h6|rfl
  ·rcases hx v h6 with h7|h7
   ·exact .inl h7
   ·exact .inr ⟨h7.1,by simp⟩
  ·exact .inr ⟨rfl,by simp⟩
 ·exact hx
theorem Sq {w h:Int} {b:List Int} {a d:Int}:∀(l:List Nat) (x:List Int×List Int),Hi d x→Hi d (l.foldl (vst w h b a d) x)
 | [],x,hx=>hx
 | p::l,x,hx=>Sq l _ (Jj hx)
theorem Run.hi {w h:Int} {b s rest nx:List Int} {d:Int} {r:List Int} (R:Run w h b s rest nx d r):Inv w h s rest nx d→Hi d (s,nx)→∀v∈r,v<cnt w h:=by
 induction R with
 | done s d=>
  intro i hh v hv
  rcases hh v hv with h1|h1
  ·have:=i.sum;simp at this;omega
  ·exact absurd rfl h1.2
 | level _ ih=>
  exact fun i hh=>ih i.level (fun v hv=>by rcases hh v hv with h1|h1<;>exact .inl (by omega))
 | node _ ih=>exact fun i hh=>ih i.node (Sq _ _ hh)
def inP (P:List Int) (a:Int):Prop:=0≤a∧a<P.length
instance (P:List Int) (a:Int):Decidable (inP P a):=inferInstanceAs (Decidable (_∧_))
def chain (t:List Int):Nat→Int→List Int
 | 0,_=>[]
 | k+1,v=>if inP t v then v::chain t k (rd t v) else []
end Go.Proofs.Ytaldglgobgjeaaa.V
set_option linter.all false
namespace Go.Proofs.Ytaldglgobgjeaaa.V
open Go Go.VM Go.Proofs
set_option maxRecDepth 10000
variable {frz:Nat} {H:Heap}
theorem u64w {x:Int} (h1:0≤x) (h2:x≤18446744073709551615):IntKind.u64.wrap x=x:=by
 have:IntKind.u64.wrap x=x%18446744073709551616:=by
  simp [IntKind.wrap,IntKind.bits,IntKind.signed]
 rw [this];omega
theorem Zq (m:Nat) (h:m<4294967296):iand .u64 (m:Int) 4294967295=m:=by
 have:=Ma m 4294967295 (by omega) (by omega) .u64 rfl
 have e:((4294967295:Nat):Int)=4294967295:=rfl
 rw [e] at this
 unfold iand
 rw [this,show (4294967295:Nat)=2 ^ 32-1 from rfl,Nat.and_two_pow_sub_one_eq_mod,u64w (by omega) (by omega)]
 omega
theorem ishr32 (m:Nat) (h:m<4294967296):ishr .u64 (m:Int) 32=0:=by
 have:=Sj .u64 m 32 (by decide)
 have e:((32:Nat):Int)=32:=rfl
 rw [e] at this
 rw [this];omega
theorem Lv (n:Nat) (h:n<4294967296):vcall C frz 63 [.int .u64 1,.int .u64 n] H=some (.tuple #[.int .u64 0,.int .u64 n],H):=by
 rw [Qa (fn:=Try.f63) Try.func63 rfl (by kernel_rfl) rfl]
 have a1:=Zq 1 (by omega)
 have a0:=Zq 0 (by omega)
 have s1:=ishr32 1 (by omega)
 have s0:=ishr32 0 (by omega)
 have an:=Zq n h
 have sn:=ishr32 n h
 simp only [Int.natCast_zero,Int.natCast_one] at a1 a0 s1 s0
 have w0:IntKind.u64.wrap 0=0:=by decide
 have wn:IntKind.u64.wrap (n:Int)=n:=u64w (by omega) (by omega)
 simp [a1,s1,an,sn,wn,w0,a0,s0]
theorem Gd (n:Nat) (h:n<4294967296):vcall C frz 50 [.int .u64 1,.int .u64 n] H=some (.tuple #[.int .u64 0,.int .u64 n],H):=by
 rw [Qa (fn:=Try.f50) Try.func50 rfl (by kernel_rfl) rfl]
 simp [Lv n h]
theorem Vd (c z:Value) (k m:Nat) (j:Nat) (h:j≤m):VM.splice (List.replicate k c++List.replicate m z) k (List.replicate j c)=List.replicate (k+j) c++List.replicate (m-j) z:=by
 unfold VM.splice
 rw [List.take_left' (by simp),List.drop_append,List.drop_of_length_le (by simp)]
 simp only [List.length_replicate,Nat.add_sub_cancel_left,List.nil_append,List.drop_replicate]
 rw [List.replicate_append_replicate]
theorem Su (id:Nat) (c:Int) (n:Nat) (hr:H[id]? = some ⟨[.int .i64 c],0,3⟩) (h1:1≤n) (h2:n≤536870912) :
 vcall C frz 33 [.slice (some ⟨id,0,some 0⟩) 1 0,.int .i64 n] H=some (.slice (some ⟨H.length,0,some 0⟩) n 0,H++[⟨List.replicate n (.int .i64 c),0,3⟩]):=by
 rw [Qa (fn:=Try.f33) Try.func33 rfl (by kernel_rfl) rfl]
 have e0:¬(n:Int)<0:=by omega
 have e1:IntKind.u64.wrap (n:Int)=n:=u64w (by omega) (by omega)
 have e2:IntKind.u64.wrap 1=1:=by decide
 have e3:IntKind.i64.wrap (n:Int)=n:=w64 (by omega) (by omega)
 have e4:¬(9223372036854775807:Int)<n:=by omega
 simp [VM.look,hr,e0,e1,e2,e3,e4,Gd n (by omega)]
 refine W8 (by omega) ?_
 have lk:∀L,(H++L)[id]? = some ⟨[.int .i64 c],0,3⟩:=fun L=>by rw [List.getElem?_append_left (List.getElem?_eq_some_iff.1 hr).1,hr]
 have er:VM.splice (List.replicate n (Value.int .i64 0)) 0 [.int .i64 c]=List.replicate 1 (.int .i64 c)++List.replicate (n-1) (.int .i64 0):=by
  have:=Vd (.int .i64 c) (.int .i64 0) 0 n 1 h1
  simpa using this
 have m1:Nat.min 1 n=1:=Nat.min_eq_left h1
 simp [VM.look,lk,m1,er]
 refine Vh (fun m t H'=>∃k:Nat,m=n-k∧1≤k∧k≤n∧t 7=.slice (some ⟨H.length,0,some 0⟩) n 0∧t 8=.int .i64 k∧H'=H++[⟨List.replicate k (.int .i64 c)++List.replicate (n-k) (.int .i64 0),0,3⟩]) ?_ (n:=n-1) ⟨1,by simp [e3];exact h1⟩
 rintro m t H' ⟨k,rfl,hk1,hk,h7,h8,rfl⟩ ih
 simp [h7,h8]
 refine Qw _ ?_ ?_<;>intro hkn
 ·simp [h7,h8]
  rw [Qf (h:=by kernel_rfl)]
  simp [h7,h8]
  have hmin:k.min (n-k)=min k (n-k):=rfl
  have hrep:=Vd (.int .i64 c) (.int .i64 0) k (n-k) (min k (n-k)) (Nat.min_le_right _ _)
  have hones:ones (List.replicate k (Value.int .i64 c))=true:=by simp [ones,VM.one]
  refine W8 hk (W8 hk (W8 hones ?_))
  refine ih (n-(k+min k (n-k))) _ _ ⟨k+min k (n-k),rfl,by omega,by omega,by simp [h7],?_,?_⟩ (by omega)
  ·simp [hmin];rw [w64 (by omega) (by omega)]
  ·rw [hrep];congr 3;congr 1;congr 1;omega
 ·have:k=n:=by omega
  subst this
  simp [h7,h8]
end Go.Proofs.Ytaldglgobgjeaaa.V
set_option linter.all false
namespace Go.Proofs.Ytaldglgobgjeaaa.V
open Go Go.VM Go.Proofs
set_option maxRecDepth 10000
variable {frz:Nat} {H H':Heap} {vb:Value} {code:List Int} {r:Nat}
theorem iand255 (a:Int):0≤iand .i64 a 255∧iand .i64 a 255<256:=by
 unfold iand
 have h1:(BitVec.ofInt IntKind.i64.bits a&&& BitVec.ofInt IntKind.i64.bits 255).toNat≤255:=by
  rw [BitVec.toNat_and]
  exact Nat.le_trans Nat.and_le_right (by decide)
 rw [w64 (by omega) (by omega)]
 omega
def Cur (H:Heap) (r:Nat) (vb:Value) (code:List Int):Prop:=
 ∃(i:Nat) (h:Int),i≤code.length∧H[r]? = some ⟨[vb,.int .i64 i,.int .i64 h],0,64⟩∧Rd Fl.u8 H vb code∧r∉ids vb∧code.length≤1073741824
theorem Cur.lt (h:Cur H r vb code):r<H.length:=by obtain ⟨_,_,_,h2,_⟩:=h;exact Wk h2
theorem Cur.chg {is:List Nat} (h:Cur H r vb code) (c:Chg H H' is) (k:r∉is) (k':∀i∈ids vb,i∉is):Cur H' r vb code:=by
 obtain ⟨i,x,h1,h2,h3,h4,h5⟩:=h
 exact ⟨i,x,h1,Qb h2 c k,h3.chg c k',h4,h5⟩
theorem Nn (vb:Value) (code:List Int) (hb:Rd Fl.u8 H vb code) (hl:code.length≤1073741824) :
 wp (vcall C frz 11 [vb] H) (fun u H'=>∃r,u=.pointer (some ⟨r,0,some 0⟩)∧H.length≤r∧Cur H' r vb code∧Chg H H' []):=by
 rw [Qa (fn:=Try.f11) Try.func11 rfl (by kernel_rfl) rfl]
 simp [hb.len]
 refine Nx (F:=?F) (k:=?k) (o:=?o) (Q:=?Q) (fun t H'=>H'=H∧t 0=vb∧∃h,t 3=.int .i64 h) ?main ?rest
 case main=>
  intro rest
  refine Qk (fun n t H'=>∃i:Nat,n=code.length-i∧i≤code.length∧t 0=vb∧t 4=.int .i64 i∧(∃h,t 3=.int .i64 h)∧H=H') ?_ (n:=code.length)
   ⟨0,rfl,by omega,by simp,by simp,⟨_,by simp;rfl⟩,rfl⟩
  rintro n t _ ⟨i,rfl,hi,t0,t4,⟨h,t3⟩,rfl⟩ ih
  simp [t0,t3,t4,hb.len]
  refine Qu ?_ ?_<;>intro g1
  ·simp [t0,t3,t4,g1]
   refine Qc ?_ ?_<;>intro g2
   ·have q1:=hb.idx (P:=Try.prog) (ty:=22) (e:=5) (by simp) (i:=(i:Int)) (by omega) (by omega)
    have r1:=hb.cell1 (P:=Try.prog) (e:=5) rfl (by simp) g1
    simp at q1 r1
    simp [t0,t3,t4,q1,r1]
    refine ih (code.length-(i+1)) _ _ ⟨i+1,rfl,by omega,by simp [t0],?_,⟨_,by simp;rfl⟩,rfl⟩ (by omega)
    simp;rw [w64 (by omega) (by omega)]
   ·simp [t0,t3,t4,-Z5]
    refine rest _ _ ?_
    exact ⟨rfl,by simp [t0],h,by simp [t3]⟩
  ·simp [t0,t3,t4,g1,-Z5]
   refine rest _ _ ?_
   exact ⟨rfl,by simp [t0],h,by simp [t3]⟩
 case rest=>
  rintro t H' ⟨hH,t0,h,t3⟩
  rw [hH]
  simp [t0,t3,hb.one',hb.cells]
  exact ⟨⟨0,h,by omega,by simp,hb.app,fun hh=>by have:=hb.lt _ hh;omega,hl⟩,Chg.app _⟩
theorem Xj (c:Cur H r vb code) (hf:frz≤r):wp (vcall C frz 45 [.pointer (some ⟨r,0,some 0⟩)] H) (fun u H'=>(∃x:Nat,u=.int .i64 x∧x<256)∧Chg H H' [r]∧Cur H' r vb code):=by
 obtain ⟨i,h,hi,hr,hb,hn,hl⟩:=c
 have lt:=Wk hr
 rw [Qa (fn:=Try.f45) Try.func45 rfl (by kernel_rfl) rfl]
 simp [vnil,VM.look,hr,hf]
 generalize IntKind.i64.wrap (IntKind.i64.wrap (h*6364136223846793005)+1442695040888963407)=h1
 have hr1:=Qy (r':=⟨[vb,.int .i64 i,.int .i64 h1],0,64⟩) hr
 have c1:Chg H (H.set r ⟨[vb,.int .i64 i,.int .i64 h1],0,64⟩) [r]:=Qn _ _
 generalize H.set r ⟨[vb,.int .i64 i,.int .i64 h1],0,64⟩=H1 at *
 have hb1:=hb.chg c1 (fun j hj hh=>by have:=List.mem_singleton.1 hh;subst this;exact hn hj)
 rw [Qf (h:=by kernel_rfl)]
 simp [vnil,VM.look,hr1]
 obtain ⟨x,hx⟩:∃x:Nat,iand .i64 (ixor .i64 (ishr .i64 h1 33) (ishr .i64 h1 45)) 255=x:=⟨_,(Int.toNat_of_nonneg (iand255 _).1).symm⟩
 have hx2:=(iand255 (ixor .i64 (ishr .i64 h1 33) (ishr .i64 h1 45))).2
 rw [hx] at hx2
 simp [hx]
 rw [Qf (h:=by kernel_rfl)]
 simp [vnil,VM.look,hr1,hb1.len]
 refine Qc ?_ ?_<;>intro g1
 ·have q1:=hb1.idx (P:=Try.prog) (ty:=22) (e:=5) (by simp) (i:=(i:Int)) (by omega) (by omega)
  have r1:=hb1.cell1 (P:=Try.prog) (e:=5) rfl (by simp) g1
  simp at q1 r1
  simp
  rw [Qf (h:=by kernel_rfl)]
  have e1:IntKind.i64.wrap ((i:Int)+1)=((i+1:Nat):Int):=by rw [w64 (by omega) (by omega)];omega
  simp only [vnil,VM.look,hr1,q1,r1]
  simp [vnil,VM.look,hr1,q1,r1,hf]
  generalize hz:IntKind.i64.wrap ((x:Int)+IntKind.i64.wrap code[i])=z
  obtain ⟨y,hy⟩:∃y:Nat,iand .i64 z 255=y:=⟨_,(Int.toNat_of_nonneg (iand255 _).1).symm⟩
  have hy2:=(iand255 z).2
  rw [hy] at hy2
  rw [hy,e1]
  have hr2:=Qy (r':=⟨[vb,.int .i64 (i+1:Nat),.int .i64 h1],0,64⟩) hr1
  have c2:Chg H1 (H1.set r ⟨[vb,.int .i64 (i+1:Nat),.int .i64 h1],0,64⟩) [r]:=Qn _ _
  exact ⟨⟨y,rfl,by omega⟩,c1.trans c2,i+1,h1,by omega,hr2,hb1.chg c2 (fun j hj hh=>by have:=List.mem_singleton.1 hh;subst this;exact hn hj),hn,hl⟩
 ·simp
  exact ⟨⟨x,rfl,by omega⟩,c1,i,h1,hi,hr1,hb1,hn,hl⟩
theorem Sg {x n:Nat} (hn:0<n):(x:Int).tmod (n:Int)=((x%n:Nat):Int):=by rw [Int.tmod_eq_emod_of_nonneg (by omega)];rfl
theorem Yu (c:Cur H r vb code) (hf:frz≤r) (n:Nat) (hn:0<n) (hn2:n<2147483648):wp (vcall C frz 26 [.pointer (some ⟨r,0,some 0⟩),.int .i64 n] H) (fun u H'=>(∃x:Nat,u=.int .i64 x∧x<n)∧Chg H H' [r]∧Cur H' r vb code):=by
 have hn0:¬(n:Int)≤0:=by omega
 have hn1:¬n=0:=by omega
 rw [Qa (fn:=Try.f26) Try.func26 rfl (by kernel_rfl) rfl]
 simp [hn0,hn1]
 refine Qc ?_ ?_<;>intro g1
 ·simp
  refine Qe (Xj c hf) ?_
  rintro _ H1 ⟨⟨x,rfl,hx⟩,c1,d1⟩
  have hm:x%n<n:=Nat.mod_lt _ hn
  have e1:IntKind.i64.wrap ((x%n:Nat):Int)=((x%n:Nat):Int):=w64 (by omega) (by omega)
  simp [hn1,Sg hn,e1]
  exact ⟨⟨x%n,by simp,hm⟩,c1,d1⟩
 ·simp
  refine Qe (Xj c hf) ?_
  rintro _ H1 ⟨⟨x,rfl,hx⟩,c1,d1⟩
  simp
  refine Qe (Xj d1 hf) ?_
  rintro _ H2 ⟨⟨y,rfl,hy⟩,c2,d2⟩
  simp
  refine Qe (Xj d2 hf) ?_
  rintro _ H3 ⟨⟨z,rfl,hz⟩,c3,d3⟩
  simp
  refine Qe (Xj d3 hf) ?_
  rintro _ H4 ⟨⟨w,rfl,hw⟩,c4,d4⟩
  obtain ⟨q,hq⟩:∃q:Nat,q=x*16777216+y*65536+z*256+w:=⟨_,rfl⟩
  have e1:IntKind.i64.wrap (IntKind.i64.wrap (IntKind.i64.wrap (IntKind.i64.wrap ((x:Int)*16777216)+IntKind.i64.wrap ((y:Int)*65536))+IntKind.i64.wrap ((z:Int)*256))+(w:Int))=(q:Int):=by
   rw [w64 (x:=(x:Int)*16777216) (by omega) (by omega),w64 (x:=(y:Int)*65536) (by omega) (by omega),w64 (x:=(z:Int)*256) (by omega) (by omega),w64 (x:=(x:Int)*16777216+(y:Int)*65536) (by omega) (by omega),w64 (x:=(x:Int)*16777216+(y:Int)*65536+(z:Int)*256) (by omega) (by omega),w64 (by omega) (by omega)]
   omega
  have hm:q%n<n:=Nat.mod_lt _ hn
  have e2:IntKind.i64.wrap ((q%n:Nat):Int)=((q%n:Nat):Int):=w64 (by omega) (by omega)
  simp [hn1,e1,Sg hn,e2]
  exact ⟨⟨q%n,by simp,hm⟩,c1.trans (c2.trans (c3.trans c4)),d4⟩
theorem Y9 (c:Cur H r vb code) (hf:frz≤r) (v:Value) (xs:List Int) (hI:IsI H v xs) (hv:r∉ids v) (h0:0<xs.length) (hl:xs.length<2147483648) :
 wp (vcall C frz 42 [.pointer (some ⟨r,0,some 0⟩),v] H) (fun u H'=>(∃x,u=.int .i64 x∧x∈xs)∧Chg H H' [r]∧Cur H' r vb code):=by
 rw [Qa (fn:=Try.f42) Try.func42 rfl (by kernel_rfl) rfl]
 simp [hI.len]
 refine Qe (Yu c hf xs.length h0 hl) ?_
 rintro _ H1 ⟨⟨x,rfl,hx⟩,c1,d1⟩
 have hI1:=(hI.rd.chg c1 (fun i hi hh=>by have:=List.mem_singleton.1 hh;subst this;exact hv hi)).isI
 have q1:=hI1.idx (P:=Try.prog) (ty:=26) (e:=3) (by simp) (i:=(x:Int)) (by omega) (by omega)
 have r1:=(hI1.load (P:=Try.prog) (e:=3) (by simp) hx).trans (by rw [Wu _ _ hx])
 simp only [Int.toNat_natCast] at q1
 simp [q1,r1]
 exact ⟨c1,d1⟩
theorem O4 (c:Cur H r vb code) (hf:frz≤r):wp (vcall C frz 24 [.pointer (some ⟨r,0,some 0⟩)] H) (fun u H'=>(∃w h,u=.agg #[.int .i64 w,.int .i64 h]∧okG w h)∧Chg H H' [r]∧Cur H' r vb code):=by
 have lt:=c.lt
 have nb:∀(L:Heap),Cur (H++L) r vb code:=fun L=>by
  obtain ⟨i,x,h1,h2,h3,h4,h5⟩:=c
  exact ⟨i,x,h1,Wa h2 L,h3.app,h4,h5⟩
 rw [Qa (fn:=Try.f24) Try.func24 rfl (by kernel_rfl) rfl]
 simp
 have i1:=IsI.at (H:=H) (L:=[⟨[.int .i64 0,.int .i64 0],0,25⟩,⟨[.int .i64 1,.int .i64 2,.int .i64 2,.int .i64 3,.int .i64 3,.int .i64 4],0,3⟩]) (k:=1) (xs:=[1,2,2,3,3,4]) rfl
 refine Qe (Y9 (nb _) hf _ [1,2,2,3,3,4] i1 (by simp;omega) (by simp) (by simp)) ?_
 rintro _ H1 ⟨⟨w,rfl,hw⟩,c1,d1⟩
 have cH:Chg H H1 [r]:=(Chg.app [r]).trans c1
 have l0:=cH.1
 have b0:H1[H.length]? = some ⟨[.int .i64 0,.int .i64 0],0,25⟩:=Qb (by simp) c1 (by simp;omega)
 have lt1:=d1.lt
 have nb1:∀(L:Heap),Cur (H1++L) r vb code:=fun L=>by
  obtain ⟨i,x,h1,h2,h3,h4,h5⟩:=d1
  exact ⟨i,x,h1,Wa h2 L,h3.app,h4,h5⟩
 simp
 have i2:=IsI.at0 (H:=H1) (L:=[⟨[.int .i64 1,.int .i64 2,.int .i64 2,.int .i64 3,.int .i64 3,.int .i64 4],0,3⟩]) (xs:=[1,2,2,3,3,4]) rfl
 refine Qe (Y9 (nb1 _) hf _ [1,2,2,3,3,4] i2 (by simp;omega) (by simp) (by simp)) ?_
 rintro _ H2 ⟨⟨h,rfl,hh⟩,c2,d2⟩
 have b2:H2[H.length]? = some ⟨[.int .i64 0,.int .i64 0],0,25⟩:=Qb (Wa b0 _) c2 (by simp;omega)
 have g2:=Qy (r':=⟨[.int .i64 w,.int .i64 h],0,25⟩) b2
 have hF:frz≤H.length:=by omega
 simp [VM.look,b2,g2,hF]
 have hwr:1≤w∧w≤4:=by simp at hw;omega
 have hhr:1≤h∧h≤4:=by simp at hh;omega
 have c3:Chg H2 (H2.set H.length ⟨[.int .i64 w,.int .i64 h],0,25⟩) [H.length]:=Qn _ _
 refine ⟨⟨w,h,⟨rfl,rfl⟩,hwr,hhr⟩,(cH.trans ((Chg.app [r]).trans c2)).trans' c3 (fun i hi=>.inr (by simp at hi;omega)),?_⟩
 obtain ⟨i,x,h1,h2,h3,h4,h5⟩:=d2
 have vlt:=fun i (hi:i∈ids vb)=>(show i<H.length by obtain ⟨_,_,_,_,k3,_⟩:=c;exact k3.lt i hi)
 exact ⟨i,x,h1,Qb h2 c3 (by simp;omega),h3.chg c3 (fun j hj hh=>by have:=vlt j hj;simp at hh;omega),h4,h5⟩
theorem Cur.app (c:Cur H r vb code) (L:Heap):Cur (H++L) r vb code:=by
 obtain ⟨i,x,h1,h2,h3,h4,h5⟩:=c
 exact ⟨i,x,h1,Wa h2 L,h3.app,h4,h5⟩
theorem Cur.vlt (c:Cur H r vb code):∀i∈ids vb,i<H.length:=by
 obtain ⟨_,_,_,_,k3,_⟩:=c;exact k3.lt
theorem Gh (v:Value) (code:List Int) (hb:Rd Fl.u8 H v code):vcall C frz 4 [v] H=some (.bool (decide ((1048576:Int)<code.length)),H):=by
 rw [Qa (fn:=Try.f4) Try.func4 rfl (by kernel_rfl) rfl]
 simp [hb.len]
end Go.Proofs.Ytaldglgobgjeaaa.V
set_option linter.all false
namespace Go.Proofs.Ytaldglgobgjeaaa.V
open Go Go.VM Go.Proofs
theorem Un:∀xs:List Int,cellsOf Fl.u8 xs=xs.map (.int .u8)
 | []=>rfl
 | a::l=>by rw [Qv,Un l];rfl
theorem O7 {H:Heap} {v:Value} {xs:List Int} (h:IsS (Kn.int .u8) H v xs):Rd Fl.u8 H v xs:=by
 rcases h with h|⟨id,off,r,h1,h2,h3,h4⟩
 ·exact .inl h
 ·have hs:(Kn.int .u8).sz=1:=rfl
  rw [hs] at h3 h4
  have e0:cellsOf Fl.u8 xs=xs.map (.int .u8):=Un xs
  refine .inr ⟨id,off,r,h1,h2,?_,by simpa using h3⟩
  rw [e0]
  refine List.ext_getElem? fun j=>?_
  by_cases hj:j<xs.length
  ·have:=h4 j xs[j] (by simp [hj])
   have e:(r.cells.drop (off+j*1)).take 1=[.int .u8 xs[j]]:=this
   have e2:=congrArg (·[0]?) e
   simp at e2
   rw [List.getElem?_take,if_pos (by simpa using hj),List.getElem?_drop]
   simp [e2,hj]
  ·rw [List.getElem?_take,if_neg (by simpa using hj),List.getElem?_eq_none (by rw [List.length_map];omega)]
def G (xs:List Int) (i:Nat):Int:=xs.getD i 0
theorem Qo {xs:List Int} {i:Nat} (h:i<xs.length):G xs i=xs[i]:=by simp [G,List.getD_eq_getElem?_getD,h]
def swp (xs:List Int) (i j:Nat):List Int:=(xs.set i (G xs j)).set j (G xs i)
@[simp] theorem M7 (xs:List Int) (i j:Nat):(swp xs i j).length=xs.length:=by simp [swp]
theorem Xc {xs:List Int} {i j:Nat} (hi:i<xs.length) (hj:j<xs.length) (k:Nat):G (swp xs i j) k=if k=j then G xs i else if k=i then G xs j else G xs k:=by
 unfold swp
 by_cases hk:k<xs.length
 ·rw [Qo (by simpa using hk),List.getElem_set,List.getElem_set]
  by_cases h1:k=j
  ·rw [if_pos h1.symm,if_pos h1]
  ·rw [if_neg (Ne.symm h1),if_neg h1]
   by_cases h2:k=i
   ·rw [if_pos h2.symm,if_pos h2]
   ·rw [if_neg (Ne.symm h2),if_neg h2,Qo hk]
 ·rw [if_neg (by omega),if_neg (by omega)]
  simp [G,List.getD_eq_getElem?_getD,hk]
theorem N6 {xs:List Int} {i j:Nat} (hi:i<xs.length) (hj:j<xs.length):(swp xs i j).Perm xs:=by
 unfold swp
 rw [Qo hi,Qo hj]
 exact List.set_set_perm hi hj
inductive Sw (a b:Nat) (xs:List Int):List Int→Prop
 | refl:Sw a b xs xs
 | step {ys:List Int} (i j:Nat) (h:Sw a b xs ys) (hi:a≤i∧i<b) (hj:a≤j∧j<b):Sw a b xs (swp ys i j)
variable {a b c d:Nat} {xs ys zs:List Int}
theorem Sw.len (h:Sw a b xs ys):ys.length=xs.length:=by
 induction h with
 | refl=>rfl
 | step i j _ _ _ ih=>rw [M7,ih]
theorem Sw.trans (h:Sw a b xs ys) (h':Sw a b ys zs):Sw a b xs zs:=by
 induction h' with
 | refl=>exact h
 | step i j _ hi hj ih=>exact .step i j ih hi hj
theorem Sw.mono (h:Sw a b xs ys) (ha:c≤a) (hb:b≤d):Sw c d xs ys:=by
 induction h with
 | refl=>exact .refl
 | step i j _ hi hj ih=>exact .step i j ih (by omega) (by omega)
theorem Sw.perm (h:Sw a b xs ys) (hb:b≤xs.length):ys.Perm xs:=by
 induction h with
 | refl=>exact List.Perm.refl _
 | step i j g hi hj ih=>exact (N6 (by rw [g.len];omega) (by rw [g.len];omega)).trans ih
theorem Sw.out (h:Sw a b xs ys) (hb:b≤xs.length) {k:Nat} (hk:k<a∨b≤k):G ys k=G xs k:=by
 induction h with
 | refl=>rfl
 | step i j g hi hj ih=>rw [Xc (by rw [g.len];omega) (by rw [g.len];omega),if_neg (by omega),if_neg (by omega),ih]
theorem Sw.all (h:Sw a b xs ys) (hb:b≤xs.length) {p:Int→Prop} (hp:∀k,a≤k→k<b→p (G xs k)):∀k,a≤k→k<b→p (G ys k):=by
 induction h with
 | refl=>exact hp
 | step i j g hi hj ih=>
  intro k h1 h2
  rw [Xc (by rw [g.len];omega) (by rw [g.len];omega)]
  split
  ·exact ih i hi.1 hi.2
  ·split
   ·exact ih j hj.1 hj.2
   ·exact ih k h1 h2
theorem Sw.all' (h:Sw a b xs ys) (hb:b≤xs.length) {p:Int→Prop} (hc:c≤a) (hd:b≤d) (hp:∀k,c≤k→k<d→p (G xs k)):∀k,c≤k→k<d→p (G ys k):=by
 intro k h1 h2
 by_cases hk:a≤k∧k<b
 ·exact h.all hb (fun q g1 g2=>hp q (by omega) (by omega)) k hk.1 hk.2
 ·rw [h.out hb (by omega)];exact hp k h1 h2
def Srt (ys:List Int) (a b:Nat):Prop:=∀p q,a≤p→p<q→q<b→G ys p≤G ys q
theorem Srt.short (h:b≤a+1):Srt ys a b:=fun p q h1 h2 h3=>by omega
theorem Srt.frame (h:Srt ys a b) (he:∀k,a≤k→k<b→G zs k=G ys k):Srt zs a b:=fun p q h1 h2 h3=>by
 rw [he p h1 (by omega),he q (by omega) h3];exact h p q h1 h2 h3
theorem Srt.join (h1:Srt ys a b) (h2:Srt ys b c) (h:∀p q,a≤p→p<b→b≤q→q<c→G ys p≤G ys q):Srt ys a c:=fun p q h3 h4 h5=>by
 by_cases hq:q<b
 ·exact h1 p q h3 h4 hq
 ·by_cases hp:p<b
  ·exact h p q h3 hp (by omega) h5
  ·exact h2 p q (by omega) h4 h5
theorem Srt.pairwise (h:Srt ys 0 ys.length):ys.Pairwise (·≤·):=by
 rw [List.pairwise_iff_getElem]
 intro i j hi hj hij
 have:=h i j (Nat.zero_le _) hij hj
 rwa [Qo hi,Qo hj] at this
def Ins (ys:List Int) (a i j:Nat):Prop:=∀p q,a≤p→p<q→q≤i→q≠j→G ys p≤G ys q
theorem Ins.start (h:Srt ys a b):Ins ys a b b:=fun p q h1 h2 h3 h4=>h p q h1 h2 (by omega)
theorem Ins.step {i j:Nat} (h:Ins ys a i j) (hi:i<ys.length) (ha:a<j) (hj:j≤i) (hlt:G ys j<G ys (j-1)):Ins (swp ys j (j-1)) a i (j-1):=by
 intro p q h1 h2 h3 h4
 rw [Xc (by omega) (by omega),Xc (by omega) (by omega)]
 rw [if_neg h4]
 by_cases hp:p=j-1
 ·rw [if_pos hp]
  by_cases hq:q=j
  ·rw [if_pos hq];omega
  ·rw [if_neg hq];have:=h (j-1) q (by omega) (by omega) h3 hq;omega
 ·rw [if_neg hp]
  by_cases hpj:p=j
  ·rw [if_pos hpj]
   rw [if_neg (by omega)]
   exact h (j-1) q (by omega) (by omega) h3 (by omega)
  ·rw [if_neg hpj]
   by_cases hq:q=j
   ·rw [if_pos hq];exact h p (j-1) h1 (by omega) (by omega) (by omega)
   ·rw [if_neg hq];exact h p q h1 h2 h3 hq
theorem Ins.done {i j:Nat} (h:Ins ys a i j) (hj:j=a∨(a<j∧G ys (j-1)≤G ys j)):Srt ys a (i+1):=by
 intro p q h1 h2 h3
 by_cases hq:q=j
 ·subst hq
  rcases hj with hj|⟨hj,hle⟩
  ·omega
  ·by_cases hp:p=q-1
   ·rw [hp];exact hle
   ·have:=h p (q-1) h1 (by omega) (by omega) (by omega);omega
 ·exact h p q h1 h2 (by omega) hq
def Hp (ys:List Int) (f lo n:Nat):Prop:=∀r c,lo≤r→(c=2*r+1∨c=2*r+2)→c<n→G ys (f+c)≤G ys (f+r)
def HpB (ys:List Int) (f lo n r:Nat):Prop:=
 (∀s c,lo≤s→s≠r→(c=2*s+1∨c=2*s+2)→c<n→G ys (f+c)≤G ys (f+s))∧
 (∀s c,lo≤s→(r=2*s+1∨r=2*s+2)→(c=2*r+1∨c=2*r+2)→c<n→G ys (f+c)≤G ys (f+s))
theorem HpB.start {f lo n:Nat} (h:Hp ys f (lo+1) n):HpB ys f lo n lo:=
 ⟨fun s c h1 h2 h3 h4=>h s c (by omega) h3 h4,fun s c h1 h2=>by omega⟩
theorem HpB.done {f lo n r:Nat} (h:HpB ys f lo n r) (hd:∀c,(c=2*r+1∨c=2*r+2)→c<n→G ys (f+c)≤G ys (f+r)):Hp ys f lo n:=fun s c h1 h2 h3=>by
 by_cases hs:s=r
 ·subst hs;exact hd c h2 h3
 ·exact h.1 s c h1 hs h2 h3
theorem HpB.step {f lo n r c:Nat} (h:HpB ys f lo n r) (hl:f+n≤ys.length) (hlo:lo≤r) (hc:c=2*r+1∨c=2*r+2) (hn:c<n) (hlt:G ys (f+r)<G ys (f+c))
 (hbig:∀q,(q=2*r+1∨q=2*r+2)→q<n→G ys (f+q)≤G ys (f+c)):HpB (swp ys (f+r) (f+c)) f lo n c:=by
 have gc:G (swp ys (f+r) (f+c)) (f+c)=G ys (f+r):=by rw [Xc (by omega) (by omega),if_pos rfl]
 have gr:G (swp ys (f+r) (f+c)) (f+r)=G ys (f+c):=by rw [Xc (by omega) (by omega),if_neg (by omega),if_pos rfl]
 have go:∀k,k≠c→k≠r→G (swp ys (f+r) (f+c)) (f+k)=G ys (f+k):=fun k h1 h2=>by rw [Xc (by omega) (by omega),if_neg (by omega),if_neg (by omega)]
 refine ⟨fun s q h1 h2 h3 h4=>?_,fun s q h1 h2 h3 h4=>?_⟩
 ·by_cases hq:q=c
  ·have hs:s=r:=by omega
   subst hq hs
   rw [gc,gr];omega
  ·by_cases hs:s=r
   ·subst hs
    rw [gr,go q hq (by omega)]
    exact hbig q h3 h4
   ·by_cases hqr:q=r
    ·subst hqr
     rw [gr,go s h2 hs]
     exact h.2 s c h1 h3 hc hn
    ·rw [go q hq hqr,go s h2 hs];exact h.1 s q h1 hs h3 h4
 ·have hs:s=r:=by omega
  subst hs
  rw [gr,go q (by omega) (by omega)]
  exact h.1 c q (by omega) (by omega) h3 h4
theorem Hp.top {f n:Nat} (h:Hp ys f 0 n):∀c,c<n→G ys (f+c)≤G ys f:=by
 intro c
 induction c using Nat.strongRecOn with
 | _ c ih=>
  intro hc
  by_cases h0:c=0
  ·subst h0;exact Int.le_refl _
  ·have h1:=h ((c-1)/2) c (by omega) (by omega) hc
   have h2:=ih ((c-1)/2) (by omega) (by omega)
   omega
theorem Hp.frame {f lo n:Nat} (h:Hp ys f lo n) (he:∀k,lo≤k→k<n→G zs (f+k)=G ys (f+k)):Hp zs f lo n:=fun r c h1 h2 h3=>by
 rw [he c (by omega) h3,he r h1 (by omega)];exact h r c h1 h2 h3
end Go.Proofs.Ytaldglgobgjeaaa.V
set_option linter.all false
namespace Go.Proofs.Ytaldglgobgjeaaa.V
open Go Go.VM Go.Proofs
set_option maxRecDepth 10000
variable {frz:Nat} {H:Heap} {v:Value} {xs:List Int} {e:TypeId}
def blen (y:Nat):Nat:=if y=0 then 0 else y.log2+1
def tabOk (T:ByteArray):Bool:=(List.range 256).all fun y=>match T[y]? with|some b=>b.toNat == blen y|none=>false
theorem Ym {y:Nat} (h:y<256):y<2 ^ blen y∧(2 ^ blen y≤2*y∨y=0)∧blen y≤8:=by
 have:∀y:Fin 256,y.val<2 ^ blen y.val∧(2 ^ blen y.val≤2*y.val∨y.val=0)∧blen y.val≤8:=by decide +kernel
 exact this ⟨y,h⟩
theorem T4 {x z s n:Nat} (hz:z=x/2 ^ s) (h1:z<2 ^ n) (h2:2 ^ n≤2*z∨z=0) (h0:0<z):x<2 ^ (n+s)∧(2 ^ (n+s)≤2*x∨x=0):=by
 have hp:0<2 ^ s:=Nat.pow_pos (by decide)
 rw [Nat.pow_add]
 subst hz
 refine ⟨(Nat.div_lt_iff_lt_mul hp).1 h1,.inl ?_⟩
 have h3:x/2 ^ s*2 ^ s≤x:=Nat.div_mul_le_self _ _
 have h4:2 ^ n*2 ^ s≤2*(x/2 ^ s)*2 ^ s:=Nat.mul_le_mul_right _ (by omega)
 rw [Nat.mul_assoc] at h4
 omega
theorem Xo {T:ByteArray} {y:Nat} (hy:y<256) (h:tabOk T=true):vindex Try.prog 9 (.string T) (.int .u8 (IntKind.u8.wrap (y:Int)))=some (.int .u8 (blen y)):=by
 have e1:IntKind.u8.wrap (y:Int)=(y:Int):=by show (y:Int)%256=y;omega
 have:=List.all_eq_true.1 h y (by simpa using hy)
 have hn:(0:Int)≤y:=by omega
 rw [e1]
 simp only [vindex,und9,hn,if_true,Int.toNat_natCast]
 cases hT:T[y]? with
 | none=>rw [hT] at this;simp at this
 | some b=>rw [hT] at this;simp at this;simp [this]
theorem T5 (x j:Nat) (hj:j≤64):ishr .u64 (x:Int) (j:Int)=((x/2 ^ j:Nat):Int):=Sj .u64 x j hj
theorem Li (x:Nat) (hx:x<2147483648) :
 wp (vcall C frz 75 [.int .u64 x] H) (fun r H'=>H'=H∧∃n:Nat,r=.int .i64 n∧x<2 ^ n∧(2 ^ n≤2*x∨x=0)∧n≤32):=by
 rw [Qa (fn:=Try.f75) Try.func75 rfl (by kernel_rfl) rfl]
 have g1:¬(4294967296:Int)≤x:=by omega
 have e8:IntKind.i64.wrap 8=8:=rfl
 have e16:IntKind.i64.wrap 16=16:=rfl
 have e24:IntKind.i64.wrap 24=24:=rfl
 simp [g1]
 refine Qc ?_ ?_<;>intro g2
 ·obtain ⟨y,hy⟩:∃y,y=x/65536:=⟨_,rfl⟩
  have s16:ishr .u64 (x:Int) 16=(y:Int):=by rw [hy];exact T5 x 16 (by decide)
  simp [s16]
  refine Qc ?_ ?_<;>intro g3
  ·obtain ⟨z,hz⟩:∃z,z=y/256:=⟨_,rfl⟩
   have s8:ishr .u64 (y:Int) 8=(z:Int):=by rw [hz];exact T5 y 8 (by decide)
   simp [s8]
   rw [Xo (y:=z) (by omega) (by decide +kernel)]
   obtain ⟨q1,q2,q3⟩:=Ym (y:=z) (by omega)
   have w8:IntKind.i64.wrap (blen z:Int)=(blen z:Int):=w64 (by omega) (by omega)
   simp [w8,e8,e16,e24]
   refine ⟨blen z+24,?_,?_⟩
   ·rw [w64 (by omega) (by omega)];omega
   ·have:=T4 (x:=x) (z:=z) (s:=24) (by omega) q1 q2 (by omega);omega
  ·simp
   rw [Xo (y:=y) (by omega) (by decide +kernel)]
   obtain ⟨q1,q2,q3⟩:=Ym (y:=y) (by omega)
   have w8:IntKind.i64.wrap (blen y:Int)=(blen y:Int):=w64 (by omega) (by omega)
   simp [w8,e8,e16,e24]
   refine ⟨blen y+16,?_,?_⟩
   ·rw [w64 (by omega) (by omega)];omega
   ·have:=T4 (x:=x) (z:=y) (s:=16) (by omega) q1 q2 (by omega);omega
 ·simp
  refine Qc ?_ ?_<;>intro g3
  ·obtain ⟨z,hz⟩:∃z,z=x/256:=⟨_,rfl⟩
   have s8:ishr .u64 (x:Int) 8=(z:Int):=by rw [hz];exact T5 x 8 (by decide)
   simp [s8]
   rw [Xo (y:=z) (by omega) (by decide +kernel)]
   obtain ⟨q1,q2,q3⟩:=Ym (y:=z) (by omega)
   have w8:IntKind.i64.wrap (blen z:Int)=(blen z:Int):=w64 (by omega) (by omega)
   simp [w8,e8,e16,e24]
   refine ⟨blen z+8,?_,?_⟩
   ·rw [w64 (by omega) (by omega)];omega
   ·have:=T4 (x:=x) (z:=z) (s:=8) (by omega) q1 q2 (by omega);omega
  ·simp
   rw [Xo (y:=x) (by omega) (by decide +kernel)]
   obtain ⟨q1,q2,q3⟩:=Ym (y:=x) (by omega)
   have w8:IntKind.i64.wrap (blen x:Int)=(blen x:Int):=w64 (by omega) (by omega)
   simp [w8,e8,e16,e24]
   exact ⟨blen x,rfl,q1,q2,by omega⟩
theorem Ka (x:Nat) (hx:x<2147483648) :
 wp (vcall C frz 56 [.int .u64 x] H) (fun r H'=>H'=H∧∃n:Nat,r=.int .i64 n∧x<2 ^ n∧(2 ^ n≤2*x∨x=0)∧n≤32):=by
 rw [Qa (fn:=Try.f56) Try.func56 rfl (by kernel_rfl) rfl]
 simp
 refine Qe (Li x hx) ?_
 rintro _ _ ⟨rfl,n,rfl,h⟩
 simp
 exact ⟨n,rfl,h⟩
theorem w64u {x:Int} (h0:0≤x) (h1:x<18446744073709551616):IntKind.u64.wrap x=x:=by show x%18446744073709551616=x;omega
theorem Jh (x:Nat) (hx:x<2147483648) :
 wp (vcall C frz 78 [.int .i64 x] H) (fun r H'=>H'=H∧∃m:Nat,r=.int .u64 m∧x<m∧(m≤2*x∨x=0)∧m≤4294967296):=by
 rw [Qa (fn:=Try.f78) Try.func78 rfl (by kernel_rfl) rfl]
 have e1:IntKind.u64.wrap (x:Int)=(x:Int):=w64u (by omega) (by omega)
 simp [e1]
 refine Qe (Ka x hx) ?_
 rintro _ _ ⟨rfl,n,rfl,h1,h2,h3⟩
 have hm:2 ^ n≤2 ^ 32:=Nat.pow_le_pow_right (by decide) h3
 have e2:ishl .u64 1 (n:Int)=((2 ^ n:Nat):Int):=by
  unfold ishl
  rw [Int.toNat_natCast,Nat.min_eq_left (show n≤IntKind.u64.bits by show n≤64;omega),Int.one_mul,w64u (Int.le_of_lt (Int.pow_pos (by decide))) (by
   have:((2:Int) ^ n)=((2 ^ n:Nat):Int):=by simp
   rw [this];omega)]
  simp
 have hn:(0:Int)≤n:=by omega
 simp [vneed,hn,e2]
 exact ⟨2 ^ n,by simp,h1,h2,by omega⟩
def BoxX (H:Heap) (r:Nat):Prop:=∃s,H[r]? = some ⟨[.int .u64 s],0,111⟩
theorem La (r:Nat) (hr:BoxX H r) (hf:frz≤r) :
 wp (vcall C frz 79 [.pointer (some ⟨r,0,some 0⟩)] H) (fun u H'=>(∃z,u=.int .u64 z)∧Chg H H' [r]∧BoxX H' r):=by
 obtain ⟨s,hs⟩:=hr
 rw [Qa (fn:=Try.f79) Try.func79 rfl (by kernel_rfl) rfl]
 simp
 rw [Qf (h:=by kernel_rfl)]
 simp [vnil,VM.look,hs,hf]
 have l:=Wk hs
 rw [Qf (h:=by kernel_rfl)]
 simp [vnil,VM.look,hs,hf,l]
 rw [Qf (h:=by kernel_rfl)]
 simp [vnil,VM.look,hs,hf,l]
 exact ⟨Qn _ _,_,by simp [l];rfl⟩
def Pt (ys:List Int) (a b:Nat) (x:Int) (P:Int→Prop) (i j:Nat):Prop:=G ys a=x∧(∀k,a<k→k<i→P (G ys k))∧∀k,j<k→k<b→¬P (G ys k)
section
variable {ys:List Int} {a b i j:Nat} {x:Int} {P:Int→Prop}
theorem Pt.incr (h:Pt ys a b x P i j) (ha:a<i) (hp:P (G ys i)):Pt ys a b x P (i+1) j:=⟨h.1,fun k h1 h2=>by
 by_cases hk:k=i
 ·rw [hk];exact hp
 ·exact h.2.1 k h1 (by omega),h.2.2⟩
theorem Pt.decr (h:Pt ys a b x P i j) (hj:0<j) (hp:¬P (G ys j)):Pt ys a b x P i (j-1):=⟨h.1,h.2.1,fun k h1 h2=>by
 by_cases hk:k=j
 ·rw [hk];exact hp
 ·exact h.2.2 k (by omega) h2⟩
theorem Pt.swap (h:Pt ys a b x P i j) (ha:a<i) (hij:i<j) (hj:j<b) (hb:b≤ys.length) (hi:¬P (G ys i)) (hp:P (G ys j)):Pt (swp ys i j) a b x P (i+1) (j-1):=by
 have g:=fun k=>Xc (xs:=ys) (i:=i) (j:=j) (by omega) (by omega) k
 refine ⟨?_,fun k h1 h2=>?_,fun k h1 h2=>?_⟩
 ·rw [g,if_neg (by omega),if_neg (by omega)];exact h.1
 ·rw [g,if_neg (by omega)]
  split
  ·exact hp
  ·exact h.2.1 k h1 (by omega)
 ·rw [g]
  split
  ·exact hi
  ·rw [if_neg (by omega)];exact h.2.2 k (by omega) h2
theorem Pt.fin (h:Pt ys a b x P i j) (hij:i=j+1) (ha:a<i) (hj:j<b) (hb:b≤ys.length):G (swp ys j a) j=x∧(∀k,a≤k→k<j→P (G (swp ys j a) k))∧∀k,j<k→k<b→¬P (G (swp ys j a) k):=by
 have g:=fun k=>Xc (xs:=ys) (i:=j) (j:=a) (by omega) (by omega) k
 refine ⟨?_,fun k h1 h2=>?_,fun k h1 h2=>?_⟩
 ·rw [g]
  split
  ·rename_i e;rw [e];exact h.1
  ·rw [if_pos rfl];exact h.1
 ·rw [g]
  split
  ·exact h.2.1 j (by omega) (by omega)
  ·rw [if_neg (by omega)];exact h.2.1 k (by omega) (by omega)
 ·rw [g,if_neg (by omega),if_neg (by omega)];exact h.2.2 k h1 h2
end
theorem Srt.snoc {ys:List Int} {a i:Nat} (h:Srt ys a i) (hi:a<i→G ys (i-1)≤G ys i):Srt ys a (i+1):=fun p q h1 h2 h3=>by
 by_cases hq:q=i
 ·rw [hq]
  have hlt:a<i:=by omega
  have:=hi hlt
  by_cases hp:p=i-1
  ·rw [hp];exact this
  ·have:=h p (i-1) h1 (by omega) (by omega);omega
 ·exact h p q h1 h2 (by omega)
structure Pq (ys:List Int) (A B a b:Nat):Prop where
 le:A≤a∧a≤b∧b≤B
 left:Srt ys A a
 right:Srt ys b B
 lo:∀p q,A≤p→p<a→a≤q→q<B→G ys p≤G ys q
 hi:∀p q,A≤p→p<b→b≤q→q<B→G ys p≤G ys q
 low:0<A→∀k,A≤k→k<B→G ys (A-1)≤G ys k
section
variable {ys zs:List Int} {A B a b m:Nat}
theorem Pq.below (h:Pq ys A B a b) (ha:0<a):∀k,a≤k→k<B→G ys (a-1)≤G ys k:=fun k h1 h2=>by
 obtain ⟨l1,l2,l3⟩:=h.le
 by_cases hA:a=A
 ·have:=h.low (by omega) k (by omega) h2;rw [hA];exact this
 ·exact h.lo (a-1) k (by omega) (by omega) h1 h2
theorem Pq.sw (h:Pq ys A B a b) (s:Sw a b ys zs) (hB:B≤ys.length):Pq zs A B a b:=by
 obtain ⟨l1,l2,l3⟩:=h.le
 have hb:b≤ys.length:=by omega
 have out:=fun k (hk:k<a∨b≤k)=>s.out hb hk
 refine ⟨h.le,h.left.frame (fun k h1 h2=>out k (.inl h2)),h.right.frame (fun k h1 h2=>out k (.inr h1)),fun p q h1 h2 h3 h4=>?_,fun p q h1 h2 h3 h4=>?_,fun h0 k h1 h2=>?_⟩
 ·rw [out p (.inl h2)]
  exact s.all' hb (p:=fun y=>G ys p≤y) (Nat.le_refl a) l3 (fun k k1 k2=>h.lo p k h1 h2 k1 k2) q h3 h4
 ·rw [out q (.inr h3)]
  exact s.all' hb (p:=fun y=>y≤G ys q) l1 (Nat.le_refl b) (fun k k1 k2=>h.hi k q k1 k2 h3 h4) p h1 h2
 ·rw [out (A-1) (.inl (by omega))]
  exact s.all' hb (p:=fun y=>G ys (A-1)≤y) l1 l3 (fun k k1 k2=>h.low h0 k k1 k2) k h1 h2
theorem Pq.done (h:Pq ys A B a b) (s:Srt ys a b):Srt ys A B:=by
 obtain ⟨l1,l2,l3⟩:=h.le
 exact (h.left.join (s.join h.right (fun p q h1 h2 h3 h4=>h.hi p q (by omega) h2 h3 h4)) h.lo)
theorem Pq.eq {x:Int} (h:Pq ys A B a b) (hm:a<m∧m≤b) (hx:∀k,a≤k→k<b→x≤G ys k) (h1:∀k,a≤k→k<m→¬x<G ys k) (h2:∀k,m≤k→k<b→x<G ys k):Pq ys A B m b:=by
 obtain ⟨l1,l2,l3⟩:=h.le
 refine ⟨by omega,h.left.join (fun p q q1 q2 q3=>?_) (fun p q q1 q2 q3 q4=>h.lo p q q1 q2 q3 (by omega)),h.right,fun p q q1 q2 q3 q4=>?_,h.hi,h.low⟩
 ·have:=h1 p q1 (by omega);have:=hx q (by omega) (by omega);omega
 ·by_cases hp:p<a
  ·exact h.lo p q q1 hp (by omega) q4
  ·by_cases hq:q<b
   ·have:=h1 p (by omega) q2;have:=h2 q q3 hq;omega
   ·exact h.hi p q q1 (by omega) (by omega) q4
theorem Pq.goRight (h:Pq ys A B a b) (hm:a≤m∧m<b) (s:Srt ys a m) (h1:∀k,a≤k→k<m→G ys k≤G ys m) (h2:∀k,m<k→k<b→G ys m≤G ys k):Pq ys A B (m+1) b:=by
 obtain ⟨l1,l2,l3⟩:=h.le
 refine ⟨by omega,h.left.join (fun p q q1 q2 q3=>?_) (fun p q q1 q2 q3 q4=>h.lo p q q1 q2 q3 (by omega)),h.right,fun p q q1 q2 q3 q4=>?_,h.hi,h.low⟩
 ·by_cases hq:q=m
  ·rw [hq];exact h1 p q1 (by omega)
  ·exact s p q q1 q2 (by omega)
 ·by_cases hp:p<a
  ·exact h.lo p q q1 hp (by omega) q4
  ·by_cases hq:q<b
   ·have:=h2 q (by omega) hq
    by_cases hpm:p=m
    ·rw [hpm];exact this
    ·have:=h1 p (by omega) (by omega);omega
   ·exact h.hi p q q1 (by omega) (by omega) q4
theorem Pq.goLeft (h:Pq ys A B a b) (hm:a≤m∧m<b) (s:Srt ys (m+1) b) (h1:∀k,a≤k→k<m→G ys k≤G ys m) (h2:∀k,m<k→k<b→G ys m≤G ys k):Pq ys A B a m:=by
 obtain ⟨l1,l2,l3⟩:=h.le
 refine ⟨by omega,h.left,Srt.join (b:=b) (fun p q q1 q2 q3=>?_) h.right (fun p q q1 q2 q3 q4=>h.hi p q (by omega) q2 q3 q4),h.lo,fun p q q1 q2 q3 q4=>?_,h.low⟩
 ·by_cases hp:p=m
  ·rw [hp];exact h2 q (by omega) q3
  ·exact s p q (by omega) q2 q3
 ·by_cases hq:q<b
  ·by_cases hp:p<a
   ·exact h.lo p q q1 hp (by omega) q4
   ·have:=h1 p (by omega) q2
    by_cases hqm:q=m
    ·rw [hqm];exact this
    ·have:=h2 q (by omega) hq;omega
  ·exact h.hi p q q1 (by omega) (by omega) q4
end
end Go.Proofs.Ytaldglgobgjeaaa.V
set_option linter.all false
namespace Go.Proofs.Ytaldglgobgjeaaa.V
open Go Go.VM Go.Proofs
set_option maxRecDepth 10000
variable {frz:Nat} {H:Heap}
def big:Nat:=1073741824
abbrev dIntS:Dt Value (List Int):=dFlat Fl.int 3 1073741824
def dTable:Dt Value (List Int) where
 val v _:=.agg #[v]
 Ow H v a:=dIntS.Ow H v a
 ids:=VM.ids
 frame h k:=dIntS.frame h k
 lt h:=dIntS.lt h
theorem Vc (v:Value) (a:List Int):dTable.val v a=.agg #[v]:=rfl
theorem Uz {v:Value} {a:List Int} (h:dTable.Ow H v a):VM.one v=true∧v.cells=#[v]:=⟨h.1.rd.one',h.1.rd.cells⟩
end Go.Proofs.Ytaldglgobgjeaaa.V
set_option linter.all false
namespace Go.Proofs.Ytaldglgobgjeaaa.V
open Go Go.VM Go.Proofs
variable {frz:Nat} {H:Heap}
end Go.Proofs.Ytaldglgobgjeaaa.V
set_option linter.all false
namespace Go.Proofs.Ytaldglgobgjeaaa.V
open Go Go.VM
set_option maxRecDepth 100000
structure VOut (w h:Int) (b:List Int) (a d:Int) (l:List Nat) (x y:List Int×List Int):Prop where
 keep:∀v,0≤v→0≤rd x.1 v→rd y.1 v=rd x.1 v
 new:∀v,isN w h v→rd x.1 v<0→0≤rd y.1 v→rd y.1 v=d∧v∈y.2∧∃p:Nat,p<4∧link w h b (4*a+p)∧next w h a p=v
 all:∀p∈l,link w h b (4*a+(p:Nat))→0≤rd y.1 (next w h a p)
 pre:∀v∈x.2,v∈y.2
 len:y.1.length=x.1.length
structure Inv2 (w h:Int) (b:List Int) (root:Int) (s rest nx:List Int):Prop where
 cl:∀v,isN w h v→0≤rd s v→v∉rest→v∉nx→∀p:Nat,p<4→link w h b (4*v+p)→0≤rd s (next w h v p)
 pre:∀v,isN w h v→0<rd s v→∃u,isN w h u∧rd s u=rd s v-1∧∃q:Nat,q<4∧link w h b (4*u+q)∧next w h u q=v
 zero:rd s root=0∧∀v,isN w h v→rd s v=0→v=root
section
variable {w h r:Int} {b:List Int} (hc:conn w h b) (hr:isN w h r)
include hc hr
end
end Go.Proofs.Ytaldglgobgjeaaa.V
set_option linter.all false
namespace Go.Proofs.Ytaldglgobgjeaaa.V
open Go Go.VM Go.Proofs
set_option maxRecDepth 10000
variable {frz:Nat} {H:Heap}
theorem Mm (w h:Int) (v u:Value) (b T:List Int) (a to:Int) (hI:IsI H v b) (hT:IsI H u T) (hl:b.length≤1073741824) (hz:tsized w h b T) (ha:isN w h a) (hto:isN w h to) :
 vcall C frz 37 [.agg #[.int .i64 w,.int .i64 h,v],.agg #[u],.int .i64 a,.int .i64 to] H =
  some (.int .i64 (if inR 0 (portOf w h T a to) 4 then portOf w h T a to else -1),H):=by
 rw [Qa (fn:=Try.f37) Try.func37 rfl (by kernel_rfl) rfl]
 have hc:=Qj w h
 obtain ⟨k0,k1,k2,k3⟩:=Ro ha hto
 have hTl:=hz.2
 have hc2:cnt w h*cnt w h≤16*16:=Int.mul_le_mul hc.2 hc.2 hc.1 (by omega)
 have hc3:0*0≤cnt w h*cnt w h:=Int.mul_le_mul hc.1 hc.1 (by omega) hc.1
 have e0:IntKind.i64.wrap (cnt w h*cnt w h)=cnt w h*cnt w h:=w64 (by omega) (by omega)
 have e1:IntKind.i64.wrap (a*cnt w h)=a*cnt w h:=w64 (by omega) (by omega)
 have e2:IntKind.i64.wrap (a*cnt w h+to)=a*cnt w h+to:=w64 (by omega) (by have:=hto.2;omega)
 have q1:∀L,vindexAddr Try.prog (H++L) 26 u (.int .i64 (a*cnt w h+to))=some (elp u (a*cnt w h+to).toNat):=fun L=>hT.idxA (e:=3) (by simp) k0 (by omega)
 have q2:∀L,vload Try.prog (H++L) 3 (elp u (a*cnt w h+to).toNat)=some (.int .i64 (portOf w h T a to)):=fun L=>hT.loadA (by simp) (by omega)
 simp [hI.one',hI.cells,hT.one',hT.cells,Q0,Y6 _ _ _ _ (hI.app _) hl,hz.1,Qz,Od,ha,hto,e0,e1,e2,q1,q2,hT.lenA,hTl]
 try refine Qw _ ?_ ?_<;>intro hr<;>simp [hr,q1,q2,e1,e2]
def ret (H:Heap) (xs:List Int):Value×Heap:=if xs=[] then (.slice none 0 0,H) else (.slice (some ⟨H.length,0,some 0⟩) xs.length 0,H++[⟨xs.map (.int .i64),0,3⟩])
theorem Tx (w h:Int) (v u:Value) (b T:List Int) (a to:Int) (hI:IsI H v b) (hT:IsI H u T) (hl:b.length≤1073741824) (hz:tsized w h b T) (ha:isN w h a) (hto:isN w h to) (hne:a≠to) :
 vcall C frz 22 [.agg #[.int .i64 w,.int .i64 h,v],.agg #[u],.int .i64 a,.int .i64 to] H=some (ret H (walk w h b T a to)):=by
 rw [Qa (fn:=Try.f22) Try.func22 rfl (by kernel_rfl) rfl]
 have hc:=Qj w h
 simp [hI.one',hI.cells,hT.one',hT.cells,Q0,Y6 _ _ _ _ (hI.app _) hl,hz.1,S9,ha,hto,hne]
 refine Vh (fun n t H'=>∃(o:List Int) (g:Nat) (x:Int) (G:Heap),n=(cnt w h).toNat+1-o.length∧t 3=.int .i64 to∧t 4=.pointer (some ⟨H.length,0,some 0⟩)∧t 5=.pointer (some ⟨H.length+1,0,some 0⟩)∧
  t 9=.slice (some ⟨H.length+2,0,some g⟩) o.length 0∧t 10=.int .i64 x∧
  H'=H++⟨[.int .i64 w,.int .i64 h,v],0,28⟩::⟨[u],0,30⟩::⟨o.map (.int .i64),g,3⟩::G∧
  o.length≤(cnt w h).toNat∧isN w h x∧walkN w h b T to ((cnt w h).toNat-o.length) x o=walk w h b T a to∧(o=[]→x≠to)) ?_
  (n:=(cnt w h).toNat+1) ⟨[],0,a,[],by simp [ha,walk,hne]⟩
 rintro n t H' ⟨o,g,x,G,rfl,h3,h4,h5,h9,h10,rfl,ho1,hx,hw,hox⟩ ih
 have hpa:=fun F L=>Mm (frz:=F) (H:=H++L) w h v u b T x to (hI.app _) (hT.app _) hl hz hx hto
 have hw0:portOf w h T x to≠4→¬stepOk w h b T x to→walk w h b T a to=[]:=fun hp hh=>by
  rw [← hw];cases (cnt w h).toNat-o.length<;>simp [walkN,hp,hh]
 simp [h3,h4,h5,h9,h10,hI.one',hI.cells,hT.one',hT.cells,hpa]
 have hnil:walk w h b T a to=[]→(Value.slice none 0 0,H)=ret H (walk w h b T a to):=fun hh=>by rw [hh];rfl
 by_cases hr:inR 0 (portOf w h T x to) 4
 ·have hlt:¬portOf w h T x to<0:=by have:=hr.1;omega
  simp [hr,hlt]
  refine Qw _ ?_ ?_<;>intro hp
  ·have hw':walk w h b T a to=if x=to then o else []:=by
    rw [← hw];cases (cnt w h).toNat-o.length<;>simp [walkN,hp]
   simp [h3,h4,h5,h9,h10,hp]
   refine Qw _ ?_ ?_<;>intro hq
   ·have hon:o≠[]:=fun hh=>hox hh hq
    rw [if_pos hq] at hw'
    simp [h3,h4,h5,h9,h10,hq,hw',ret,hon]
   ·rw [if_neg hq] at hw'
    simp [h3,h4,h5,h9,h10,hq,hw',ret]
  ·have hr3:inR 0 (portOf w h T x to) 3:=⟨hr.1,by have:=hr.2;omega⟩
   have e3:IntKind.i64.wrap (4*x)=4*x:=w64 (by have:=hx.1;omega) (by have:=hx.2;omega)
   have e4:IntKind.i64.wrap (4*x+portOf w h T x to)=4*x+portOf w h T x to:=w64 (by have:=hx.1;have:=hr.1;omega) (by have:=hx.2;have:=hr.2;omega)
   simp [h3,h4,h5,h9,h10,hp,hI.one',hI.cells,e3,e4,Tn _ _ _ _ _ (hI.app _) hl,hz.1]
   refine Wo _ _ ?_ ?_<;>intro hh
   ·obtain ⟨s1,s2,s3⟩:=Zn hr3 hh
    have he:=fun F L=>M1 (frz:=F) (H:=H++L) w h v b (4*x+portOf w h T x to) (hI.app _) hh.1
    rw [s1,s2] at he
    simp [h3,h4,h5,h9,h10,hp,hh,hI.one',hI.cells,e3,e4,Q0]
    refine Qw _ ?_ ?_<;>intro hf
    ·have hwz:walk w h b T a to=[]:=by
      rw [show (cnt w h).toNat-o.length=0 by omega] at hw
      rw [← hw,walkN,if_neg hp]
     simp [h3,h4,h5,h9,h10,hp,hh,hf,hnil hwz]
    ·simp [h3,h4,h5,h9,h10,hp,hh,hf,hI.one',hI.cells,e3,e4]
     refine W8 (by omega) ?_
     simp [h3,h4,h5,h9,h10,hp,hh,hf,hI.one',hI.cells,e3,e4,he]
     refine ih ((cnt w h).toNat+1-(o.length+1)) _ _ ⟨o++[4*x+portOf w h T x to],g+1,next w h x (portOf w h T x to),_,by simp,by simp [h3],by simp [h4],by simp [h5],by simp,by simp,by simp;rfl,by simp;omega,s3,?_,by simp⟩ (by omega)
     rw [show (cnt w h).toNat-o.length=((cnt w h).toNat-(o++[4*x+portOf w h T x to]).length)+1 by simp;omega] at hw
     rw [← hw,walkN,if_neg hp,if_pos ⟨hr3,hh⟩]
   ·simp [h3,h4,h5,h9,h10,hp,hh]
    exact hnil (hw0 hp (fun hs=>hh hs.2))
 ·simp [hr]
  refine hnil (hw0 (fun hp=>hr ?_) fun hs=>hr ⟨hs.1.1,by have:=hs.1.2;omega⟩)
  rw [hp];exact ⟨by omega,by omega⟩
theorem Nw (w h:Int):IntKind.i64.wrap (cnt w h*cnt w h)=cnt w h*cnt w h:=by
 have hc:=Qj w h
 have hc2:cnt w h*cnt w h≤16*16:=Int.mul_le_mul hc.2 hc.2 hc.1 (by omega)
 have hc3:0*0≤cnt w h*cnt w h:=Int.mul_le_mul hc.1 hc.1 (by omega) hc.1
 exact w64 (by omega) (by omega)
theorem Qm {w h:Int} {a:Nat} (k:a<(cnt w h).toNat):isN w h a:=⟨by omega,by omega⟩
def rowPairs (n a m:Nat):List (Nat×Nat):=((List.range m).filter (fun c=>a≠c)).map fun c=>(a,c)
def allPairs (n m:Nat):List (Nat×Nat):=(List.range m).flatMap fun a=>rowPairs n a n
theorem Z3 (n a m:Nat) (h:a=m):rowPairs n a (m+1)=rowPairs n a m:=by
 simp [rowPairs,List.range_succ,h]
theorem Z7 (n a m:Nat) (h:a≠m):rowPairs n a (m+1)=rowPairs n a m++[(a,m)]:=by
 simp [rowPairs,List.range_succ,h]
theorem Xf (n m:Nat):allPairs n (m+1)=allPairs n m++rowPairs n m n:=by
 simp [allPairs,List.range_succ]
theorem We {n a c:Nat}:(a,c)∈allPairs n n↔a<n∧c<n∧a≠c:=by
 simp [allPairs,rowPairs]
theorem Lf (w h:Int) (f:Value) {Q:Value→Heap→Prop} (Inv:List (Nat×Nat)→Heap→Prop)
 (h0:Inv [] (H++[⟨[.int .i64 w,.int .i64 h],0,25⟩]))
 (hs:∀(done:List (Nat×Nat)) (a c:Nat) (H':Heap),a<(cnt w h).toNat→c<(cnt w h).toNat→a≠c→Inv done H'→wp (vclos (vcall C frz) f [.int .i64 a,.int .i64 c] H') fun r H''=>(r=.bool true∧Inv (done++[(a,c)]) H'')∨(r=.bool false∧Q (.bool false) H''))
 (he:∀H',Inv (allPairs (cnt w h).toNat (cnt w h).toNat) H'→Q (.bool true) H') :
 wp (vcall C frz 20 [.agg #[.int .i64 w,.int .i64 h],f] H) Q:=by
 rw [Qa (fn:=Try.f20) Try.func20 rfl (by kernel_rfl) rfl]
 have hc:=Qj w h
 simp [Q0]
 refine Qk (fun n t H'=>∃(i:Nat),n=(cnt w h).toNat-i∧i≤(cnt w h).toNat∧t 1=f∧t 5=.int .i64 (cnt w h)∧t 10=.int .i64 (cnt w h)∧t 11=.int .i64 i∧
  Inv (allPairs (cnt w h).toNat i) H') ?_ (n:=(cnt w h).toNat) ⟨0,by simp [allPairs,h0]⟩
 rintro n t H' ⟨i,rfl,hi,h1,h5,h10,h11,hk⟩ ih
 simp [h1,h5,h10,h11]
 refine Qc ?_ ?_<;>intro hlt
 ·simp [h1,h5,h10,h11,hlt]
  refine Qk (fun n t H'=>∃(j:Nat),n=(cnt w h).toNat-j∧j≤(cnt w h).toNat∧t 1=f∧t 5=.int .i64 (cnt w h)∧t 10=.int .i64 (cnt w h)∧t 11=.int .i64 i∧t 6=.int .i64 i∧t 14=.int .i64 (cnt w h)∧t 15=.int .i64 j∧
   Inv (allPairs (cnt w h).toNat i++rowPairs (cnt w h).toNat i j) H') ?_ (n:=(cnt w h).toNat) ⟨0,by simp [h1,h5,h10,h11,rowPairs,hk]⟩
  clear h1 h5 h10 h11 hk
  rintro n t H' ⟨j,rfl,hj,h1,h5,h10,h11,h6,h14,h15,hk⟩ ih2
  simp [h1,h5,h10,h11,h6,h14,h15]
  refine Qc ?_ ?_<;>intro hlj
  ·have ni:i<(cnt w h).toNat:=by omega
   have nj:j<(cnt w h).toNat:=by omega
   have yes:=fun (t':Env) (H':Heap) (x1:t' 1=f) (x5:t' 5=.int .i64 (cnt w h)) (x10:t' 10=.int .i64 (cnt w h)) (x11:t' 11=.int .i64 i) (x6:t' 6=.int .i64 i) (x14:t' 14=.int .i64 (cnt w h)) (x15:t' 15=.int .i64 (j+1:Nat)) (hg:Inv (allPairs (cnt w h).toNat i++rowPairs (cnt w h).toNat i (j+1)) H')=>
    ih2 ((cnt w h).toNat-(j+1)) t' H' ⟨j+1,rfl,by omega,x1,x5,x10,x11,x6,x14,x15,hg⟩ (by omega)
   simp [h1,h5,h10,h11,h6,h14,h15,hlj]
   refine Qu ?_ ?_<;>intro hij
   ·simp [h1,h5,h10,h11,h6,h14,h15,hlj,hij]
    refine yes _ _ (by simp [h1]) (by simp [h5]) (by simp [h10]) (by simp [h11]) (by simp [h6]) (by simp [h14]) ?_ (by rw [Z3 _ _ _ (by omega)];exact hk)
    simp;rw [w64 (by omega) (by omega)]
   ·simp [h1,h5,h10,h11,h6,h14,h15,hlj,hij]
    refine Qe (hs _ i j H' ni nj (by omega) hk) ?_
    rintro r H'' (⟨rfl,hq⟩|⟨rfl,hq⟩)
    ·simp [h1,h5,h10,h11,h6,h14,h15,hlj,hij]
     refine yes _ _ (by simp [h1]) (by simp [h5]) (by simp [h10]) (by simp [h11]) (by simp [h6]) (by simp [h14]) ?_ (by rw [Z7 _ _ _ (by omega),← List.append_assoc];exact hq)
     simp;rw [w64 (by omega) (by omega)]
    ·simp [h1,h5,h10,h11,h6,h14,h15,hlj,hij]
     exact hq
  ·have:j=(cnt w h).toNat:=by omega
   subst this
   simp [h1,h5,h10,h11,h6,h14,h15,hlj]
   refine ih ((cnt w h).toNat-(i+1)) _ _ ⟨i+1,rfl,by omega,by simp [h1],by simp [h5],by simp [h10],?_,by rw [Xf];exact hk⟩ (by omega)
   ·simp;rw [w64 (by omega) (by omega)]
 ·simp [h1,h5,h10,h11,hlt]
  have:i=(cnt w h).toNat:=by omega
  subst this
  exact he _ hk
theorem Pc (w h:Int) (v u:Value) (b T:List Int) (a c:Int) (r1 r2:Nat) (hI:IsI H v b) (hT:IsI H u T) (hl:b.length≤1073741824) (hz:tsized w h b T) (ha:isN w h a) (hto:isN w h c) (hne:a≠c)
 (g1:H[r1]? = some ⟨[.int .i64 w,.int .i64 h,v],0,28⟩) (g2:H[r2]? = some ⟨[u],0,30⟩) :
 vcall C frz 29 [.int .i64 a,.int .i64 c,.pointer (some ⟨r1,0,some 0⟩),.pointer (some ⟨r2,0,some 0⟩)] H=some (.bool (!decide (walk w h b T a c=[])),H):=by
 rw [Qa (fn:=Try.f29) Try.func29 rfl (by kernel_rfl) rfl]
 simp [VM.look,g1,g2,hI.one',hI.cells,hT.one',hT.cells,Tx _ _ _ _ _ _ _ _ hI hT hl hz ha hto hne]
 by_cases hw:walk w h b T a c=[]
 ·simp [ret,hw]
 ·have:0<(walk w h b T a c).length:=List.length_pos_iff.2 hw
  simp [ret,hw,this]
theorem Ol (w h:Int) (v u:Value) (b T:List Int) (hI:IsI H v b) (hT:IsI H u T) (hl:b.length≤1073741824) :
 wp (vcall C frz 12 [.agg #[.int .i64 w,.int .i64 h,v],.agg #[u]] H) (fun r _=>r=.bool (decide (tableOk w h b T))):=by
 rw [Qa (fn:=Try.f12) Try.func12 rfl (by kernel_rfl) rfl]
 simp [hI.one',hI.cells,hT.one',hT.cells,Q0,Y6 _ _ _ _ (hI.app _) hl]
 refine Qu ?_ ?_<;>intro hm
 ·simp [hm,hT.lenA,Nw]
  refine Qc ?_ ?_<;>intro hz
  ·simp [hz]
   have hs:tsized w h b T:=⟨hm,hz⟩
   have hc:=Qj w h
   refine Qk (fun n t H'=>∃(i:Nat),n=(cnt w h).toNat-i∧i≤(cnt w h).toNat∧t 2=.pointer (some ⟨H.length,0,some 0⟩)∧t 3=.pointer (some ⟨H.length+1,0,some 0⟩)∧t 5=.int .i64 (cnt w h)∧t 22=.int .i64 (cnt w h)∧t 23=.int .i64 i∧
    H'=H++[⟨[.int .i64 w,.int .i64 h,v],0,28⟩,⟨[u],0,30⟩]∧∀a,a<i→portOf w h T a a=4) ?_ (n:=(cnt w h).toNat) ⟨0,by simp⟩
   rintro n t H' ⟨i,rfl,hi,h2,h3,h5,h22,h23,rfl,hk⟩ ih
   simp [h2,h3,h5,h22,h23]
   refine Qc ?_ ?_<;>intro hlt
   ·have ni:i<(cnt w h).toNat:=by omega
    obtain ⟨k0,k1,k2,k3⟩:=Ro (Qm ni) (Qm ni)
    have e1:IntKind.i64.wrap (i*cnt w h)=i*cnt w h:=w64 (by omega) (by omega)
    have e2:IntKind.i64.wrap (i*cnt w h+i)=i*cnt w h+i:=w64 (by omega) (by omega)
    have q1:∀L,vindexAddr Try.prog (H++L) 26 u (.int .i64 (i*cnt w h+i))=some (elp u (i*cnt w h+i:Int).toNat):=fun L=>hT.idxA (e:=3) (by simp) k0 (by omega)
    have q2:∀L,vload Try.prog (H++L) 3 (elp u (i*cnt w h+i:Int).toNat)=some (.int .i64 (portOf w h T i i)):=fun L=>hT.loadA (by simp) (by omega)
    simp [h2,h3,h5,h22,h23,hlt,e1,e2,q1,q2]
    refine Qc ?_ ?_<;>intro hp
    ·simp [h2,h3,h5,h22,h23,hlt,hp]
     refine ih ((cnt w h).toNat-(i+1)) _ _ ⟨i+1,rfl,by omega,by simp [h2],by simp [h3],by simp [h5],by simp [h22],?_,rfl,fun a ha=>?_⟩ (by omega)
     ·simp;rw [w64 (by omega) (by omega)]
     ·by_cases hai:a<i
      ·exact hk a hai
      ·have:a=i:=by omega
       subst this;exact hp
    ·simp [h2,h3,h5,h22,h23,hlt,hp]
     exact fun hh=>hp ((hh.2 i ni i ni).1 rfl)
   ·simp [h2,h3,h5,h22,h23,hlt]
    have:i=(cnt w h).toNat:=by omega
    subst this
    refine Qe (Lf w h _ (Q:=fun r _=>r=.bool (decide (tableOk w h b T))) (fun done H'=>∃L,H'=H++[⟨[.int .i64 w,.int .i64 h,v],0,28⟩,⟨[u],0,30⟩]++L∧∀p∈done,walk w h b T p.1 p.2≠[]) ⟨_,rfl,by simp⟩ ?_ ?_) ?_
    ·rintro done a c _ ha hc' hne ⟨L,rfl,hd⟩
     simp
     rw [Pc w h v u b T a c _ _ (hI.app _) (hT.app _) hl hs (Qm ha) (Qm hc') (by omega) (by simp) (by simp)]
     simp
     by_cases hw:walk w h b T a c=[]
     ·refine .inr ⟨hw,?_⟩
      exact fun hh=>(hh.2 a (by omega) c (by omega)).2 (by omega) hw
     ·refine .inl ⟨hw,fun p q hp=>?_⟩
      rcases hp with hp|⟨rfl,rfl⟩
      ·exact hd (p,q) hp
      ·exact hw
    ·rintro _ ⟨L,rfl,hd⟩
     simp
     exact ⟨hs,fun a ha c hc'=>⟨fun _=>hk a ha,fun hne=>hd (a,c) (We.2 ⟨ha,hc',hne⟩)⟩⟩
    ·rintro _ H' rfl
     simp
  ·simp [hz]
   exact fun hh=>hz hh.1.2
 ·simp [hm]
  exact fun hh=>hm hh.1.1
theorem Yf (w h:Int) (v u:Value) (b T:List Int) (hI:IsI H v b) (hT:IsI H u T) (hl:b.length≤1073741824) :
 vcall C frz 12 [.agg #[.int .i64 w,.int .i64 h,v],.agg #[u]] H=some (.bool (decide (tableOk w h b T)),H):=
 (Ol w h v u b T hI hT hl).exact (by simp) rfl
def treeOk (w h:Int) (b:List Int) (r:Int):Prop:=conn w h b∧isN w h r
noncomputable instance (w h:Int) (b:List Int) (r:Int):Decidable (treeOk w h b r):=inferInstanceAs (Decidable (_∧_))
abbrev ClassesD:=List Int×List Int
def dClasses:Dt (Value×Value) ClassesD where
 val v _:=.agg #[v.1,v.2]
 Ow H v a:=dIntS.Ow H v.1 a.1∧dIntS.Ow H v.2 a.2
 ids v:=VM.ids v.1++VM.ids v.2
 frame h k:=⟨dIntS.frame h.1 fun i hi=>k i (List.mem_append.2 (.inl hi)),dIntS.frame h.2 fun i hi=>k i (List.mem_append.2 (.inr hi))⟩
 lt h i hi:=by
  rcases List.mem_append.1 hi with hi|hi
  ·exact dIntS.lt h.1 i hi
  ·exact dIntS.lt h.2 i hi
theorem Za {v:Value×Value} {a:ClassesD} (h:dClasses.Ow H v a):(VM.one v.1=true∧v.1.cells=#[v.1])∧VM.one v.2=true∧v.2.cells=#[v.2]:=⟨⟨h.1.1.rd.one',h.1.1.rd.cells⟩,h.2.1.rd.one',h.2.1.rd.cells⟩
theorem ones_ints (ys:List Int):ones (cellsOf Fl.int ys)=true:=by
 rw [Q9];unfold ones
 rw [List.all_eq_true]
 intro x hx
 obtain ⟨y,_,rfl⟩:=List.mem_map.1 hx
 rfl
end Go.Proofs.Ytaldglgobgjeaaa.V
set_option linter.all false
namespace Go.Proofs.Ytaldglgobgjeaaa.V
open Go Go.VM Go.Proofs
variable {frz:Nat} {H:Heap} {v:Value} {w h:Int} {b:List Int} {root:Int}
end Go.Proofs.Ytaldglgobgjeaaa.V
set_option linter.all false
namespace Go.Proofs.Ytaldglgobgjeaaa.V
open Go Go.VM Go.Proofs
set_option maxRecDepth 10000
variable {frz:Nat} {H:Heap}
def breakOk (w h:Int) (b:List Int) (c:Int):Prop:=meshOk w h b∧has w h b c
instance (w h:Int) (b:List Int) (c:Int):Decidable (breakOk w h b c):=inferInstanceAs (Decidable (_∧_))
theorem Rn {u:Value} {l:List Int} (h:IsI H u l):VM.live1 H u:=by
 rcases h with ⟨rfl,_⟩|⟨id,off,r,rfl,h2,_⟩
 ·trivial
 ·show VM.look H ⟨id,off,some r.gen⟩≠none
  simp [VM.look,h2]
theorem Xk {u:Value} {l:List Int} (w h:Int) (hu:IsI H u l):VM.live H (.agg #[.int .i64 w,.int .i64 h,u]):=fun c hc=>by
 simp only [List.mem_cons,List.not_mem_nil,or_false] at hc
 rcases hc with rfl|rfl|rfl<;>first|trivial|exact Rn hu
theorem X6 {u:Value} {l:List Int} (hu:IsI H u l):VM.live H (.agg #[u]):=fun c hc=>by
 simp only [List.mem_cons,List.not_mem_nil,or_false] at hc
 rw [hc];exact Rn hu
end Go.Proofs.Ytaldglgobgjeaaa.V
set_option linter.all false
namespace Go.Proofs.Ytaldglgobgjeaaa.V
open Go Go.VM Go.Proofs
set_option maxRecDepth 10000
variable {frz:Nat} {H:Heap} {r:Nat} {vb:Value} {code:List Int}
theorem Cur.set {J:Heap} {id:Nat} {x:Row} (c:Cur J r vb code) (h1:r≠id) (h2:∀i∈ids vb,i≠id):Cur (J.set id x) r vb code:=
 c.chg (Qn _ _) (by simpa using h1) (fun i hi=>by simpa using h2 i hi)
end Go.Proofs.Ytaldglgobgjeaaa.V
set_option linter.all false
namespace Go.Proofs.Ytaldglgobgjeaaa.V
open Go Go.VM Go.Proofs
set_option maxRecDepth 10000
variable {frz:Nat} {H:Heap}
def alongP (x g:Int):Int:=if x<g then 1 else if g<x then 3 else -1
def acrossP (y g:Int):Int:=if y<g then 2 else if g<y then 0 else -1
def stdPort (w r a to:Int):Int:=
 if a=to then 4 else
 if acrossP (a/w) (to/w)<0∨(0≤alongP (a%w) (to%w)∧((if r=4 then 1+to%2 else r)=1∨((if r=4 then 1+to%2 else r)=3∧alongP (a%w) (to%w)=3))) then alongP (a%w) (to%w) else acrossP (a/w) (to/w)
def stdTab (w r:Int) (n:Nat):List Int:=(List.range (n*n)).map fun i=>stdPort w r (i/n:Nat) (i%n:Nat)
theorem Uy (w r:Int) (n:Nat):(stdTab w r n).length=n*n:=by simp [stdTab]
theorem M0 (w r a to:Int) (hw:1≤w) (ha:0≤a) (ht:0≤to) (hne:a≠to) (R:Int) (hR:R=if r=4 then 1+to%2 else r) :
 stdPort w r a to=(if (if R=2 then a/w=to/w else if R=3 then to%w<a%w∨a/w=to/w else a%w≠to%w) then (if to%w<a%w then 3 else 1) else (if to/w<a/w then 0 else 2))∨¬(1≤R∧R≤3):=by
 have h1:=Int.emod_add_mul_ediv a w
 have h2:=Int.emod_add_mul_ediv to w
 have h3:¬(a%w=to%w∧a/w=to/w):=fun ⟨e1,e2⟩=>hne (by rw [← h1,← h2,e1,e2])
 unfold stdPort
 rw [if_neg hne,← hR]
 generalize a%w=X at *
 generalize to%w=U at *
 generalize a/w=Y at *
 generalize to/w=V at *
 by_cases hr:1≤R∧R≤3
 rotate_left
 ·exact .inr hr
 left
 unfold alongP acrossP
 obtain rfl|rfl|rfl:R=1∨R=2∨R=3:=by omega
 all_goals simp
 all_goals (repeat' split)<;>first|rfl|omega
theorem Qt (x g:Int):vcall C frz 58 [.int .i64 x,.int .i64 g] H=some (.int .i64 (if g<x then 3 else 1),H):=by
 rw [Qa (fn:=Try.f58) Try.func58 rfl (by kernel_rfl) rfl]
 simp
 refine Qw _ ?_ ?_<;>intro h1<;>simp [h1]
theorem Wb (x g:Int):vcall C frz 59 [.int .i64 x,.int .i64 g] H=some (.int .i64 (if g<x then 0 else 2),H):=by
 rw [Qa (fn:=Try.f59) Try.func59 rfl (by kernel_rfl) rfl]
 simp
 refine Qw _ ?_ ?_<;>intro h1<;>simp [h1]
theorem Ni (w h r a to:Int) (hr:1≤r∧r≤4) (ha:isN w h a) (hto:isN w h to) :
 vcall C frz 44 [.agg #[.int .i64 w,.int .i64 h],.int .i64 r,.int .i64 a,.int .i64 to] H=some (.int .i64 (stdPort w r a to),H):=by
 rw [Qa (fn:=Try.f44) Try.func44 rfl (by kernel_rfl) rfl]
 obtain ⟨hg,a0,_,a1⟩:=T2 ha
 obtain ⟨_,t0,_,t1⟩:=T2 hto
 have hw:=hg.1
 have wz:¬w=0:=by omega
 have e1:a.tmod w=a%w:=Int.tmod_eq_emod_of_nonneg a0
 have e2:to.tmod w=to%w:=Int.tmod_eq_emod_of_nonneg t0
 have e3:a.tdiv w=a/w:=Int.tdiv_eq_ediv_of_nonneg a0
 have e4:to.tdiv w=to/w:=Int.tdiv_eq_ediv_of_nonneg t0
 have e5:to.tmod 2=to%2:=Int.tmod_eq_emod_of_nonneg t0
 have d1:0≤a/w∧a/w≤a:=⟨Int.ediv_nonneg a0 (by omega),Int.ediv_le_self _ a0⟩
 have d2:0≤to/w∧to/w≤to:=⟨Int.ediv_nonneg t0 (by omega),Int.ediv_le_self _ t0⟩
 have f3:=@w6 (a/w) (by omega)
 have f4:=@w6 (to/w) (by omega)
 have f5:=@w6 (1+to%2) (by omega)
 have key:a≠to→∀R,(R=if r=4 then 1+to%2 else r)→1≤R→R≤3→stdPort w r a to=if (if R=2 then a/w=to/w else if R=3 then to%w<a%w∨a/w=to/w else a%w≠to%w) then (if to%w<a%w then 3 else 1) else (if to/w<a/w then 0 else 2):=fun hne R hR r1 r2=>by
  rcases M0 w r a to hw.1 a0 t0 hne R hR with h|h
  ·exact h
  ·exact absurd ⟨r1,r2⟩ h
 simp [VM.look,wz,e1,e2,e3,e4,f3,f4]
 by_cases h4:a=to
 ·subst h4;simp [stdPort]
 have key:=key h4
 clear e1 e2 e3 e4 f3 f4
 generalize a%w=X at *
 generalize to%w=U at *
 generalize a/w=Y at *
 generalize to/w=V at *
 generalize stdPort w r a to=Z at *
 simp [h4]
 have k1:∀[Inhabited Unit],IntKind.i64.wrap 1=1:=by intro _;exact w64 (by omega) (by omega)
 have k2:∀[Inhabited Unit],IntKind.i64.wrap 2=2:=by intro _;exact w64 (by omega) (by omega)
 by_cases r4:r=4
 ·have key:=key _ (if_pos r4).symm (by omega) (by omega)
  have m2:to%2=0∨to%2=1:=by omega
  rcases m2 with m2|m2<;>simp only [m2] at key f5
  ·simp [r4,e5,m2,f5,Qt,Wb,k1,k2]
   by_cases h5:X=U<;>simp [h5] at key<;>simp [h5,key,Qt,Wb,k1,k2]
  ·simp [r4,e5,m2,f5,Qt,Wb,k1,k2]
   by_cases h5:Y=V<;>simp [h5] at key<;>simp [h5,key,Qt,Wb,k1,k2]
 ·have key:=key _ (if_neg r4).symm (by omega) (by omega)
  obtain rfl|rfl|rfl:r=1∨r=2∨r=3:=by omega
  ·simp [Qt,Wb,k1,k2]
   by_cases h5:X=U<;>simp [h5] at key<;>simp [h5,key,Qt,Wb,k1,k2]
  ·simp [Qt,Wb,k1,k2]
   by_cases h5:Y=V<;>simp [h5] at key<;>simp [h5,key,Qt,Wb,k1,k2]
  ·simp [Qt,Wb,k1,k2]
   by_cases h5:U<X
   ·simp [h5] at key;simp [h5,key,Qt,Wb,k1,k2]
   ·by_cases h6:Y=V<;>simp [h5,h6] at key<;>simp [h5,h6,key,Qt,Wb,k1,k2]
end Go.Proofs.Ytaldglgobgjeaaa.V
set_option linter.all false
namespace Go.Proofs.Ytaldglgobgjeaaa.V
open Go Go.VM Go.Proofs
set_option maxRecDepth 100000
abbrev rPort (r w a to:Int):Int:=stdPort w r a to
def walkR (r w h to:Int):Nat→Int→List Int→List Int
 | 0,a,out=>if rPort r w a to=4 then (if a=to then out else []) else []
 | f+1,a,out=>if rPort r w a to=4 then (if a=to then out else []) else
  if inR 0 (rPort r w a to) 3∧leads w h (4*a+rPort r w a to) then walkR r w h to f (next w h a (rPort r w a to)) (out++[4*a+rPort r w a to]) else []
theorem Vg {r w h a to:Int} {n:Nat} (hn:cnt w h=n) (ha:isN w h a) (hto:isN w h to):portOf w h (stdTab w r n) a to=rPort r w a to:=by
 obtain ⟨i,rfl⟩:=Int.eq_ofNat_of_zero_le ha.1
 obtain ⟨j,rfl⟩:=Int.eq_ofNat_of_zero_le hto.1
 have h1:=ha.2
 have h2:=hto.2
 unfold portOf rd
 have hj:j<n:=by omega
 have hi:i<n:=by omega
 have hsm:i*n+j<n*n:=by
  have:=Nat.mul_le_mul_right n (show i+1≤n by omega)
  rw [Nat.succ_mul] at this;omega
 have hdv:(i*n+j)/n=i:=by rw [Nat.mul_comm,Nat.mul_add_div (by omega),Nat.div_eq_of_lt hj];omega
 have hmd:(i*n+j)%n=j:=by rw [Nat.mul_comm,Nat.mul_add_mod,Nat.mod_eq_of_lt hj]
 rw [hn,show ((i:Int)*(n:Int)+(j:Int)).toNat=i*n+j by rw [← Int.natCast_mul,← Int.natCast_add];rfl]
 rw [stdTab,List.getD_eq_getElem?_getD,List.getElem?_map,List.getElem?_range hsm]
 simp only [Option.map_some,Option.getD_some,hdv,hmd]
theorem P6 {r w h to:Int} {n:Nat} (hn:cnt w h=n) (hg:okG w h) (hto:isN w h to):∀f a out,isN w h a→walkN w h [] (stdTab w r n) to f a out=walkR r w h to f a out
 | 0,a,out,ha=>by simp only [walkN,walkR,Vg hn ha hto]
 | f+1,a,out,ha=>by
  simp only [walkN,walkR,Vg hn ha hto,stepOk]
  have e:(inR 0 (rPort r w a to) 3∧has w h [] (4*a+rPort r w a to))↔(inR 0 (rPort r w a to) 3∧leads w h (4*a+rPort r w a to)):=by simp [has]
  by_cases h1:rPort r w a to=4
  ·simp [h1]
  ·simp only [h1,if_false]
   by_cases h2:inR 0 (rPort r w a to) 3∧leads w h (4*a+rPort r w a to)
   ·rw [if_pos (e.2 h2),if_pos h2]
    obtain ⟨h3,h4⟩:=e.2 h2
    exact P6 hn hg hto f _ _ (Zn h3 h4).2.2
   ·rw [if_neg (fun k=>h2 (e.1 k)),if_neg h2]
def wkR (r w h:Int) (n:Nat) (a to:Int):List Int:=walkR r w h to n a []
theorem Pv {r w h a to:Int} {n:Nat} (hn:cnt w h=n) (hg:okG w h) (ha:isN w h a) (hto:isN w h to):walk w h [] (stdTab w r n) a to=wkR r w h n a to:=by
 unfold walk wkR
 rw [P6 hn hg hto _ _ _ ha,hn];rfl
def chkR1 (r w h:Int) (n:Nat) (a to:Int):Bool:=decide (a=to) || !(wkR r w h n a to).isEmpty
def chkR (r w h n:Nat):Bool:=(List.range n).all fun a=>(List.range n).all fun to=>chkR1 r w h n a to
theorem Md:((List.range 4).all fun r=>(List.range 4).all fun w=>(List.range 4).all fun h=>chkR (r+1) (w+1) (h+1) ((w+1)*(h+1)))=true:=by kernel_rfl
theorem Lp {r w h a to:Int} {n:Nat} (hr:1≤r∧r≤4) (hg:okG w h) (hn:cnt w h=n) (ha:isN w h a) (hto:isN w h to):chkR1 r w h n a to=true:=by
 obtain ⟨⟨w0,w1⟩,h0,h1⟩:=hg
 obtain ⟨i,hi⟩:∃i:Nat,w=((i+1:Nat):Int):=⟨(w-1).toNat,by omega⟩
 obtain ⟨j,hj⟩:∃j:Nat,h=((j+1:Nat):Int):=⟨(h-1).toNat,by omega⟩
 obtain ⟨q,hq⟩:∃j:Nat,r=((j+1:Nat):Int):=⟨(r-1).toNat,by omega⟩
 obtain ⟨k,rfl⟩:=Int.eq_ofNat_of_zero_le ha.1
 obtain ⟨l,rfl⟩:=Int.eq_ofNat_of_zero_le hto.1
 have e9:=Md
 rw [List.all_eq_true] at e9
 have e0:=e9 q (List.mem_range.2 (by omega))
 rw [List.all_eq_true] at e0
 have e1:=e0 i (List.mem_range.2 (by omega))
 rw [List.all_eq_true] at e1
 have e2:=e1 j (List.mem_range.2 (by omega))
 have hk:=ha.2
 have hl:=hto.2
 have hnn:n=(i+1)*(j+1):=by
  rw [cnt,if_pos ⟨⟨w0,w1⟩,h0,h1⟩,hi,hj,← Int.natCast_mul] at hn;omega
 rw [chkR,List.all_eq_true] at e2
 have e3:=e2 k (List.mem_range.2 (by omega))
 rw [List.all_eq_true] at e3
 have e4:=e3 l (List.mem_range.2 (by omega))
 rw [hi,hj,hq,hnn];exact e4
theorem Zi {r w h:Int} {n:Nat} (hr:1≤r∧r≤4) (hg:okG w h) (hn:cnt w h=n):tableOk w h [] (stdTab w r n):=by
 refine ⟨⟨⟨by simp,hg⟩,by rw [Uy,hn,Int.natCast_mul]⟩,fun a ha c hc=>⟨fun e=>?_,fun e=>?_⟩⟩
 ·subst e
  rw [Vg hn (Qm ha) (Qm ha)];simp [stdPort]
 ·rw [Pv hn hg (Qm ha) (Qm hc)]
  have c:=Lp hr hg hn (Qm ha) (Qm hc)
  rw [chkR1] at c
  simp at c
  rcases c with c|c
  ·omega
  ·exact c
end Go.Proofs.Ytaldglgobgjeaaa.V
set_option linter.all false
namespace Go.Proofs.Ytaldglgobgjeaaa.V
open Go Go.VM Go.Proofs
set_option maxRecDepth 10000
variable {frz:Nat} {H:Heap}
theorem Vu (w h r:Int) (n:Nat) (hr:1≤r∧r≤4) (hg:okG w h) (hn:cnt w h=n) :
 wp (vcall C frz 25 [.agg #[.int .i64 w,.int .i64 h],.int .i64 r] H) (dTable.Made H (stdTab w r n)):=by
 rw [Qa (fn:=Try.f25) Try.func25 rfl (by kernel_rfl) rfl]
 have hc:=Qj w h
 have hn2:n*n≤256:=Nat.mul_le_mul (show n≤16 by omega) (show n≤16 by omega)
 have hn2':(n:Int)*(n:Int)≤256:=by
  have:((n*n:Nat):Int)≤256:=by omega
  rwa [Int.natCast_mul] at this
 obtain ⟨M,hM⟩:∃M:Nat,M=n*n:=⟨_,rfl⟩
 have eM:∀[Inhabited Unit],IntKind.i64.wrap ((n:Int)*n)=(M:Int):=by intro _;rw [hM,Int.natCast_mul];exact w64 (by have:=Int.natCast_nonneg (n*n);rw [Int.natCast_mul] at this;omega) (by omega)
 simp [To,hn]
 refine Qk (fun m t H'=>∃(i:Nat) (vo:Value) (o:List Int),m=M-i∧i≤M∧o=(List.range i).map (fun i=>stdPort w r (i/n:Nat) (i%n:Nat))∧
  t 1=.int .i64 r∧t 2=.pointer (some ⟨H.length,0,some 0⟩)∧t 4=.pointer (some ⟨H.length+1,0,some 0⟩)∧t 5=.pointer (some ⟨H.length+2,0,some 0⟩)∧t 6=.int .i64 n∧t 7=.int .i64 i∧
  Chg H H' []∧H'[H.length]? = some ⟨[.int .i64 w,.int .i64 h],0,25⟩∧H'[H.length+1]? = some ⟨[.slice none 0 0],0,30⟩∧H'[H.length+2]? = some ⟨[vo],0,30⟩∧
  Ow Fl.int 3 H' vo o∧(∀i∈ids vo,H.length+2<i)) ?_ (n:=M) ⟨0,.slice none 0 0,[],by simp,by omega,by simp,by simp,by simp,by simp,by simp,by simp,by simp,Chg.app _,by simp,by simp,by simp,.inl ⟨rfl,rfl⟩,by simp⟩
 rintro m t H' ⟨i,vo,o,rfl,hi,ho,h1,h2,h4,h5,h6,h7,c0,b2,b4,b6,oo,no⟩ ih
 simp [h1,h2,h4,h5,h6,h7,eM]
 refine Qc ?_ ?_<;>intro hin
 ·have hin':i<M:=by omega
  have hn0:0<n:=by
   rcases Nat.eq_zero_or_pos n with h0|h0
   ·rw [h0] at hM;omega
   ·exact h0
  have hol:o.length=i:=by rw [ho];simp
  have q1:i/n<n:=by rw [Nat.div_lt_iff_lt_mul hn0];omega
  have q2:i%n<n:=Nat.mod_lt _ hn0
  have d1:∀[Inhabited Unit],IntKind.i64.wrap ((i:Int)/(n:Int))=((i/n:Nat):Int):=by intro _;rw [← Int.natCast_ediv];exact w64 (by have:=Int.natCast_nonneg (i/n);omega) (by have:=Int.ofNat_lt.2 q1;omega)
  have d2:(i:Int).tmod n=((i%n:Nat):Int):=by rw [Int.tmod_eq_emod_of_nonneg (by omega)];rfl
  have d3:(i:Int).tdiv n=(i:Int)/n:=Int.tdiv_eq_ediv_of_nonneg (by omega)
  have nz:¬(n:Int)=0:=by omega
  have nz':¬n=0:=by omega
  have sp:=fun F=>Ni (frz:=F) (H:=H') w h r ((i/n:Nat):Int) ((i%n:Nat):Int) hr ⟨Int.natCast_nonneg _,by rw [hn];exact Int.ofNat_lt.2 q1⟩ ⟨Int.natCast_nonneg _,by rw [hn];exact Int.ofNat_lt.2 q2⟩
  obtain ⟨X,hX⟩:∃X,X=((i/n:Nat):Int):=⟨_,rfl⟩
  obtain ⟨Y,hY⟩:∃Y,Y=((i%n:Nat):Int):=⟨_,rfl⟩
  rw [← hX] at d1
  rw [← hY] at d2
  rw [← hX,← hY] at sp
  simp
  rw [Qf (h:=by kernel_rfl)]
  obtain ⟨vo',H3,e3,oo3,c3,n3⟩:=oo.push (P:=Try.prog) (frz:=H.length) (ty:=26) (a:=stdPort w r X Y) (by simp) rfl (by omega) (fun i hi=>by have:=no i hi;omega)
  simp only [Fl.int_f] at e3
  have lc:=Wk b6
  have b2':=Qb b2 c3 (fun hh=>by have:=no _ hh;omega)
  have b4':=Qb b4 c3 (fun hh=>by have:=no _ hh;omega)
  have b6':=Qb b6 c3 (fun hh=>by have:=no _ hh;omega)
  have no3:∀i∈ids vo',H.length+2<i:=fun i hi=>by rcases n3 i hi with h|h;exact no i h;omega
  have one:=And.intro oo.rd.one' oo.rd.cells
  have one3:=And.intro oo3.rd.one' oo3.rd.cells
  have hF:H.length≤H.length+2:=by omega
  simp [-Ww,-W5,VM.look,b2,b6,sp,one,e3,b6',one3,h1,h2,h4,h5,h6,h7,d1,d2,d3,nz,nz',hF]
  refine ih (M-(i+1)) _ _ ⟨i+1,vo',o++[stdPort w r X Y],rfl,by omega,?_,by simp [h1],by simp [h2],by simp [h4],by simp [h5],by simp [h6],?_,
   (c0.trans' c3 (fun i hi=>.inr (by have:=no i hi;omega))).trans' (Qn _ _) (fun i hi=>.inr (by simp at hi;omega)),Qb b2' (Qn _ _) (by simp),Qb b4' (Qn _ _) (by simp),Qy b6',
   oo3.chg (Qn _ _) (fun i hi hh=>by have:=no3 i hi;simp at hh;omega),no3⟩ (by omega)
  ·rw [List.range_succ,List.map_append,← ho];simp only [List.map_cons,List.map_nil,hX,hY]
  ·simp [h7];rw [w64 (by omega) (by omega)]
 ·have:i=M:=by omega
  subst this
  have lc:=Wk b6
  have one:=And.intro oo.rd.one' oo.rd.cells
  have g4:=Qy (r':=⟨[vo],0,30⟩) b4
  have hol:o.length=i:=by rw [ho];simp
  have hF:H.length≤H.length+1:=by omega
  simp [h1,h2,h4,h5,h6,h7,VM.look,b6,b4,one,g4,hF]
  exact ⟨vo,rfl,⟨(by rw [show stdTab w r n=o from by rw [ho,hM];rfl];exact oo.chg (Qn _ _) (fun i hi hh=>by have:=no i hi;simp at hh;omega)),by rw [Uy];omega⟩,c0.trans' (Qn _ _) (fun i hi=>.inr (by simp at hi;omega)),fun i hi=>by have:=no i hi;omega,O2 vo⟩
end Go.Proofs.Ytaldglgobgjeaaa.V
set_option linter.all false
namespace Go.Proofs.Ytaldglgobgjeaaa.V
open Go Go.VM Go.Proofs
set_option maxRecDepth 10000
theorem Pe {l m:List Int} (hl:l.Pairwise (· < ·)) (hm:m.Pairwise (· < ·)) (h:∀x,x∈l↔x∈m):l=m:=by
 induction l generalizing m with
 | nil=>
  cases m with
  | nil=>rfl
  | cons b m=>have:=(h b).2 (List.mem_cons_self ..);simp at this
 | cons a l ih=>
  cases m with
  | nil=>have:=(h a).1 (List.mem_cons_self ..);simp at this
  | cons b m=>
   obtain ⟨l1,l2⟩:=List.pairwise_cons.1 hl
   obtain ⟨m1,m2⟩:=List.pairwise_cons.1 hm
   have e:a=b:=by
    rcases List.mem_cons.1 ((h a).1 (List.mem_cons_self ..)) with e|e
    ·exact e
    ·rcases List.mem_cons.1 ((h b).2 (List.mem_cons_self ..)) with e'|e'
     ·exact e'.symm
     ·have:=m1 a e;have:=l1 b e';omega
   subst e
   congr 1
   refine ih l2 m2 fun x=>⟨fun hx=>?_,fun hx=>?_⟩
   ·rcases List.mem_cons.1 ((h x).1 (List.mem_cons_of_mem _ hx)) with e|e
    ·subst e;have:=l1 x hx;omega
    ·exact e
   ·rcases List.mem_cons.1 ((h x).2 (List.mem_cons_of_mem _ hx)) with e|e
    ·subst e;have:=m1 x hx;omega
    ·exact e
def insK (k:Int):List Int→List Int
 | []=>[k]
 | a::l=>if k<a then k::a::l else if k=a then a::l else a::insK k l
theorem U0 (k x:Int):∀l,x∈insK k l↔x=k∨x∈l
 | []=>by simp [insK]
 | a::l=>by
  unfold insK
  split
  ·simp
  ·split
   ·rename_i e;subst e;simp
   ·rw [List.mem_cons,U0 k x l,List.mem_cons]
    constructor
    ·rintro (h|h|h)
     ·exact .inr (.inl h)
     ·exact .inl h
     ·exact .inr (.inr h)
    ·rintro (h|h|h)
     ·exact .inr (.inl h)
     ·exact .inl h
     ·exact .inr (.inr h)
theorem Sy (k:Int):∀l:List Int,l.Pairwise (· < ·)→(insK k l).Pairwise (· < ·)
 | [],_=>by simp [insK]
 | a::l,h=>by
  obtain ⟨h1,h2⟩:=List.pairwise_cons.1 h
  unfold insK
  split
  ·rename_i g
   refine List.pairwise_cons.2 ⟨fun x hx=>?_,h⟩
   rcases List.mem_cons.1 hx with rfl|hx
   ·exact g
   ·have:=h1 x hx;omega
  ·split
   ·exact h
   ·refine List.pairwise_cons.2 ⟨fun x hx=>?_,Sy k l h2⟩
    rcases (U0 k x l).1 hx with rfl|hx
    ·omega
    ·exact h1 x hx
noncomputable def arrK (l:List Int):List Int:=l.foldl (fun s k=>insK k s) []
theorem U3:∀(l s:List Int),s.Pairwise (· < ·)→(l.foldl (fun s k=>insK k s) s).Pairwise (· < ·)∧∀x,x∈l.foldl (fun s k=>insK k s) s↔x∈s∨x∈l
 | [],s,h=>⟨h,fun x=>by simp⟩
 | k::l,s,h=>by
  obtain ⟨i1,i2⟩:=U3 l (insK k s) (Sy k s h)
  refine ⟨i1,fun x=>?_⟩
  rw [List.foldl_cons,i2,U0,List.mem_cons]
  constructor
  ·rintro ((h|h)|h)
   ·exact .inr (.inl h)
   ·exact .inl h
   ·exact .inr (.inr h)
  ·rintro (h|h|h)
   ·exact .inl (.inr h)
   ·exact .inl (.inl h)
   ·exact .inr h
theorem Us (l:List Int):(arrK l).Pairwise (· < ·):=(U3 l [] List.Pairwise.nil).1
theorem Y8 (l:List Int) (x:Int):x∈arrK l↔x∈l:=by
 have:=(U3 l [] List.Pairwise.nil).2 x
 unfold arrK
 rw [this];simp
end Go.Proofs.Ytaldglgobgjeaaa.V
set_option linter.all false
namespace Go.Proofs.Ytaldglgobgjeaaa.V
open Go Go.VM Go.Proofs
set_option maxRecDepth 10000
variable {frz:Nat} {H:Heap} {v:Value} {xs:List Int} {e:TypeId} {f:Value}
def Fl.dep:Fl Int:=⟨2,fun k=>[.int .i64 (k/1024),.int .i64 (k%1024)],fun _=>rfl⟩
@[simp] theorem Fl.dep_n:Fl.dep.n=2:=rfl
def dv (k:Int):Value:=.agg #[.int .i64 (k/1024),.int .i64 (k%1024)]
theorem Mq (k:Int):Value.agg (Fl.dep.f k).toArray=dv k:=rfl
def KB (k:Int):Prop:=0≤k∧k<1099511627776
def Bd (xs:List Int):Prop:=∀x∈xs,KB x
theorem Bd.G (h:Bd xs) (i:Nat):KB (G xs i):=by
 by_cases hi:i<xs.length
 ·rw [Qo hi];exact h _ (List.getElem_mem hi)
 ·have:V.G xs i=0:=by simp [V.G,List.getD_eq_getElem?_getD,hi]
  rw [this];exact ⟨by decide,by decide⟩
theorem Bd.swp (h:Bd xs) (i j:Nat):Bd (swp xs i j):=fun x hx=>by
 unfold V.swp at hx
 rcases List.mem_or_eq_of_mem_set hx with hx|rfl
 ·rcases List.mem_or_eq_of_mem_set hx with hx|rfl
  ·exact h x hx
  ·exact h.G j
 ·exact h.G i
def OwE (e:TypeId) (H:Heap) (v:Value) (xs:List Int):Prop:=Ow Fl.dep e H v xs∧Bd xs
theorem OwE.rd (h:OwE e H v xs):Rd Fl.dep H v xs:=h.1.rd
theorem OwE.lt (h:OwE e H v xs):∀i∈ids v,i<H.length:=h.1.lt
theorem OwE.app {L:Heap} (h:OwE e H v xs):OwE e (H++L) v xs:=⟨h.1.app,h.2⟩
theorem OwE.chg {H':Heap} {is:List Nat} (h:OwE e H v xs) (k:Chg H H' is) (k':∀i∈ids v,i∉is):OwE e H' v xs:=⟨h.1.chg k k',h.2⟩
theorem Qh (o:OwE e H v xs) {i:Nat} (h1:i<xs.length):vindexAddr Try.prog H 40 v (.int .i64 i)=some (elp v (i*2)):=by
 have:=o.rd.idx (P:=Try.prog) (ty:=40) (e:=52) (by simp) (i:=(i:Int)) (by omega) (by omega)
 simpa using this
theorem Qi (o:OwE e H v xs) {i:Nat} (h1:i<xs.length):vload Try.prog H 52 (elp v (i*2))=some (dv (G xs i)):=by
 have:=o.rd.load (P:=Try.prog) (e:=52) (by simp) h1
 rw [Qo h1,← Mq]
 exact this
theorem Q6 (o:OwE e H v xs) {i j:Nat} (hi:i<xs.length) (hj:j<xs.length) (hf:∀i∈ids v,frz≤i) :
 ∃H1 H2,vstore Try.prog frz H 52 (dv (G xs j)) (elp v (i*2))=some H1∧(∀k:Nat,k<xs.length→vindexAddr Try.prog H1 40 v (.int .i64 k)=some (elp v (k*2)))∧
  vstore Try.prog frz H1 52 (dv (G xs i)) (elp v (j*2))=some H2∧OwE e H2 v (swp xs i j)∧Chg H H2 (ids v)∧H2.length=H.length:=by
 obtain ⟨H1,s1,o1,c1,l1⟩:=o.1.store (P:=Try.prog) (frz:=frz) (et:=52) (ag:=true) (by simp) hi (x:=dv (G xs j)) (y:=G xs j) rfl rfl hf
 obtain ⟨H2,s2,o2,c2,l2⟩:=o1.store (P:=Try.prog) (frz:=frz) (et:=52) (ag:=true) (by simp) (j:=j) (by simpa using hj) (x:=dv (G xs i)) (y:=G xs i) rfl rfl hf
 have b1:Bd (xs.set i (G xs j)):=fun x hx=>by
  rcases List.mem_or_eq_of_mem_set hx with hx|rfl
  ·exact o.2 x hx
  ·exact o.2.G j
 exact ⟨H1,H2,s1,fun k hk=>Qh ⟨o1,b1⟩ (by simpa using hk),s2,⟨o2,o.2.swp i j⟩,c1.trans c2,by omega⟩
def SwdE (H:Heap) (v:Value) (xs:List Int) (e:TypeId) (a b:Nat) (K:List Int→Prop) (H':Heap):Prop:=
 ∃ys,Sw a b xs ys∧K ys∧OwE e H' v ys∧Chg H H' (ids v)∧H'.length=H.length
def cmpZ (x y:Int):Int:=if x/1024=y/1024 then x%1024-y%1024 else x/1024-y/1024
@[simp] theorem F6 (x y:Int):cmpZ x y<0↔x<y:=by unfold cmpZ;split<;>omega
def CmpK (f:Value):Prop:=∀F K x y,KB x→KB y→vclos (vcall C F) f [dv x,dv y] K=some (.int .i64 (cmpZ x y),K)
theorem dlt (hc:CmpK f) (o:OwE e H v xs) (F:Nat) (K:Heap) (i j:Nat):vclos (vcall C F) f [dv (G xs i),dv (G xs j)] K=some (.int .i64 (cmpZ (G xs i) (G xs j)),K):=hc F K _ _ (o.2.G i) (o.2.G j)
theorem Sf (a:Int) (b:Nat) (hb:b<18446744073709551616):0≤iand .u64 a b∧iand .u64 a b≤b:=by
 unfold iand
 have h1:(BitVec.ofInt IntKind.u64.bits a&&& BitVec.ofInt IntKind.u64.bits (b:Int)).toNat≤b:=by
  rw [BitVec.toNat_and]
  refine Nat.le_trans Nat.and_le_right ?_
  rw [BitVec.toNat_ofInt]
  have:IntKind.u64.bits=64:=rfl
  rw [this];omega
 rw [w64u (by omega) (by omega)]
 omega
def BoxE (H:Heap) (r:Nat):Prop:=∃s,H[r]? = some ⟨[.int .i64 s],0,3⟩
end Go.Proofs.Ytaldglgobgjeaaa.V
set_option linter.all false
namespace Go.Proofs.Ytaldglgobgjeaaa.V
open Go Go.VM Go.Proofs
set_option maxRecDepth 10000
variable {frz:Nat} {H:Heap} {v:Value} {xs:List Int} {e:TypeId} {cf:Value} (hK:CmpK cf)
include hK
theorem Nj (v:Value) (xs:List Int) (e:TypeId) (a b:Nat) (h:OwE e H v xs) (hab:a≤b) (hb:b≤xs.length) (hl:xs.length≤1073741824) (hf:∀i∈ids v,frz≤i) :
 wp (vcall C frz 66 [v,.int .i64 a,.int .i64 b,cf] H) (fun _ H'=>SwdE H v xs e a b (fun ys=>Srt ys a b) H'):=by
 rw [Qa (fn:=Try.f66) Try.func66 rfl (by kernel_rfl) rfl]
 simp
 refine Qk (fun n t H'=>∃i:Nat,n=b-i∧(t 0=v∧t 3=cf)∧t 1=.int .i64 a∧t 2=.int .i64 b∧t 8=.int .i64 i∧a+1≤i∧i≤max (a+1) b∧SwdE H v xs e a b (fun ys=>Srt ys a i) H') ?_ (n:=b-(a+1))
  ⟨a+1,by simp,by simp,by simp,by simp,by simp;exact w64 (by omega) (by omega),by omega,by omega,xs,.refl,Srt.short (by omega),h,Chg.refl _,rfl⟩
 rintro n t H' ⟨i,rfl,h0,h1,h2,h6,ha,hi,ys,sw,sr,o,c,l⟩ ih
 simp [h0,h1,h2,h6]
 refine Qc ?_ ?_<;>intro hib
 ·simp [h0,h1,h2,h6]
  refine Qk (fun n t H'=>∃j:Nat,n=j∧(t 0=v∧t 3=cf)∧t 1=.int .i64 a∧t 2=.int .i64 b∧t 8=.int .i64 i∧t 9=.int .i64 j∧a≤j∧j≤i∧SwdE H v xs e a b (fun ys=>Ins ys a i j) H') ?_ (n:=i)
   ⟨i,rfl,by simp [h0],by simp [h1],by simp [h2],by simp [h6],by simp,by omega,by omega,ys,sw,Ins.start sr,o,c,l⟩
  rintro j t H' ⟨_,rfl,h0,h1,h2,h6,h7,haj,hji,ys,sw,ins,o,c,l⟩ ih2
  have len:=sw.len
  simp [h0,h1,h2,h6,h7]
  rw [Qf (h:=by kernel_rfl)]
  simp [h0,h1,h2,h6,h7]
  refine Qu ?_ ?_<;>intro hja
  ·have e1:IntKind.i64.wrap ((j:Int)-1)=((j-1:Nat):Int):=by rw [w64 (by omega) (by omega)];omega
   have p1:j<ys.length:=by omega
   have p2:j-1<ys.length:=by omega
   simp [h0,h1,h2,h6,h7,hja,e1,Qh o p1,Qh o p2,Qi o p1,Qi o p2,dlt hK o]
   have out:∀t':Env,(t' 0=v∧t' 3=cf)→t' 1=.int .i64 a→t' 2=.int .i64 b→t' 8=.int .i64 (IntKind.i64.wrap ((i:Int)+1))→(j=a∨(a<j∧G ys (j-1)≤G ys j))→
    ∃i':Nat,b-(i+1)=b-i'∧(t' 0=v∧t' 3=cf)∧t' 1=.int .i64 a∧t' 2=.int .i64 b∧t' 8=.int .i64 i'∧a+1≤i'∧i'≤max (a+1) b∧SwdE H v xs e a b (fun ys=>Srt ys a i') H':=by
    intro t' g0 g1 g2 g6 hj
    exact ⟨i+1,rfl,g0,g1,g2,by rw [g6,w64 (by omega) (by omega)];simp,by omega,by omega,ys,sw,ins.done hj,o,c,l⟩
   refine Qc ?_ ?_<;>intro hlt
   ·simp [h0,h1,h2,h6,h7]
    rw [Qf (h:=by kernel_rfl)]
    obtain ⟨H1,H2,s1,ix,s2,o2,c2,l2⟩:=Q6 o p1 p2 hf
    simp [h0,h1,h2,h6,h7,e1,Qh o p1,Qh o p2,Qi o p1,Qi o p2,s1,ix _ p1,ix _ p2,s2]
    refine ih2 (j-1) _ _ ⟨j-1,rfl,by simp [h0],by simp [h1],by simp [h2],by simp [h6],by simp [e1],by omega,by omega,_,sw.step j (j-1) (by omega) (by omega),?_,o2,c.trans c2,by omega⟩ (by omega)
    exact ins.step (by omega) hja hji hlt
   ·simp [h0,h1,h2,h6,h7]
    refine ih (b-(i+1)) _ _ (out _ ?_ ?_ ?_ ?_ (.inr ⟨hja,by omega⟩)) (by omega)<;>simp [h0,h1,h2]
  ·simp [h0,h1,h2,h6,h7,hja]
   refine ih (b-(i+1)) _ _ ⟨i+1,rfl,by simp [h0],by simp [h1],by simp [h2],?_,by omega,by omega,ys,sw,ins.done (.inl (by omega)),o,c,l⟩ (by omega)
   simp;exact w64 (by omega) (by omega)
 ·have:i=max (a+1) b:=by omega
  simp
  exact ⟨ys,sw,fun p q h1 h2 h3=>sr p q h1 h2 (by omega),o,c,l⟩
theorem Ui (v:Value) (xs:List Int) (e:TypeId) (lo n f:Nat) (h:OwE e H v xs) (hp:Hp xs f (lo+1) n) (hlo:lo≤n) (hn:f+n≤xs.length) (hl:xs.length≤1073741824) (hf:∀i∈ids v,frz≤i) :
 wp (vcall C frz 77 [v,.int .i64 lo,.int .i64 n,.int .i64 f,cf] H) (fun _ H'=>SwdE H v xs e (f+lo) (f+n) (fun ys=>Hp ys f lo n) H'):=by
 rw [Qa (fn:=Try.f77) Try.func77 rfl (by kernel_rfl) rfl]
 simp
 refine Qk (fun m t H'=>∃r:Nat,m=n-r∧(t 0=v∧t 4=cf)∧t 2=.int .i64 n∧t 3=.int .i64 f∧t 10=.int .i64 r∧lo≤r∧r≤n∧SwdE H v xs e (f+lo) (f+n) (fun ys=>HpB ys f lo n r) H') ?_ (n:=n-lo)
  ⟨lo,rfl,by simp,by simp,by simp,by simp,by omega,by omega,xs,.refl,HpB.start hp,h,Chg.refl _,rfl⟩
 rintro m t H' ⟨r,rfl,h0,h2,h3,h8,hlr,hrn,ys,sw,hb,o,c,l⟩ ih
 have len:=sw.len
 obtain ⟨c1,hc1⟩:∃c1,c1=2*r+1:=⟨_,rfl⟩
 obtain ⟨c2,hc2⟩:∃c2,c2=2*r+2:=⟨_,rfl⟩
 obtain ⟨d0,hd0⟩:∃d0,d0=f+r:=⟨_,rfl⟩
 obtain ⟨d1,hd1⟩:∃d1,d1=f+c1:=⟨_,rfl⟩
 obtain ⟨d2,hd2⟩:∃d2,d2=f+c2:=⟨_,rfl⟩
 have e1:IntKind.i64.wrap (IntKind.i64.wrap (2*(r:Int))+1)=(c1:Int):=by rw [w64 (x:=2*(r:Int)) (by omega) (by omega),w64 (by omega) (by omega)];omega
 simp [h0,h2,h3,h8,e1]
 refine Qc ?_ ?_<;>intro hc
 ·simp
  exact ⟨ys,sw,hb.done (fun q h1 h2=>by omega),o,c,l⟩
 ·have e2:IntKind.i64.wrap ((c1:Int)+1)=(c2:Int):=by rw [w64 (by omega) (by omega)];omega
  have e3:IntKind.i64.wrap ((f:Int)+(c1:Int))=(d1:Int):=by rw [w64 (by omega) (by omega)];omega
  have e4:IntKind.i64.wrap ((d1:Int)+1)=(d2:Int):=by rw [w64 (by omega) (by omega)];omega
  have e5:IntKind.i64.wrap ((f:Int)+(r:Int))=(d0:Int):=by rw [w64 (by omega) (by omega)];omega
  have p0:d0<ys.length:=by omega
  have p1:d1<ys.length:=by omega
  refine (fun (rest:∀(q:Nat) (t':Env),(q=2*r+1∨q=2*r+2)→q<n→(∀p,(p=2*r+1∨p=2*r+2)→p<n→G ys (f+p)≤G ys (f+q))→
   (t' 0=v∧t' 4=cf)→t' 2=.int .i64 n→t' 3=.int .i64 f→t' 10=.int .i64 r→t' 11=.int .i64 q→wp (go ?F ?k .normal t' H') ?Q)=>?main) ?rest
  case main=>
   simp [h0,h2,h3,h8,hc,e2]
   rw [Qf (h:=by kernel_rfl)]
   simp [h0,h2,h3,h8,e2]
   refine Qu ?_ ?_<;>intro g1
   ·have p2:d2<ys.length:=by omega
    simp [h0,h2,h3,h8,e2,g1,e3,e4,Qh o p1,Qh o p2,Qi o p1,Qi o p2,dlt hK o]
    refine Qc ?_ ?_<;>intro g2<;>simp [e2]
    ·refine rest c2 _ (.inr hc2) g1 (fun p g3 g4=>?_) ?_ ?_ ?_ ?_ ?_<;>try simp [h0,h2,h3,h8]
     rw [← hd2]
     rcases g3 with g3|g3
     ·rw [g3,← hc1,← hd1];omega
     ·rw [g3,← hc2,← hd2];omega
    ·refine rest c1 _ (.inl hc1) (by omega) (fun p g3 g4=>?_) ?_ ?_ ?_ ?_ ?_<;>try simp [h0,h2,h3,h8]
     rw [← hd1]
     rcases g3 with g3|g3
     ·rw [g3,← hc1,← hd1];omega
     ·rw [g3,← hc2,← hd2];omega
   ·simp [h0,h2,h3,h8,e2,g1]
    refine rest c1 _ (.inl hc1) (by omega) (fun p g3 g4=>?_) ?_ ?_ ?_ ?_ ?_<;>try simp [h0,h2,h3,h8]
    have:p=c1:=by omega
    rw [this];omega
  case rest=>
   intro q t hq hqn hbig h0 h2 h3 h8 h9
   obtain ⟨dq,hdq⟩:∃dq,dq=f+q:=⟨_,rfl⟩
   have e6:IntKind.i64.wrap ((f:Int)+(q:Int))=(dq:Int):=by rw [w64 (by omega) (by omega)];omega
   have pq:dq<ys.length:=by omega
   rw [← hdq] at hbig
   rw [Qf (h:=by kernel_rfl)]
   simp [h0,h2,h3,h8,h9,e5,e6,Qh o p0,Qh o pq,Qi o p0,Qi o pq,dlt hK o]
   refine Qc ?_ ?_<;>intro g1
   ·simp [h0,h2,h3,h8,h9]
    rw [Qf (h:=by kernel_rfl)]
    obtain ⟨H1,H2,s1,ix,s2,o2,c3,l2⟩:=Q6 o p0 pq hf
    simp [h0,h2,h3,h8,h9,e5,e6,Qh o p0,Qh o pq,Qi o p0,Qi o pq,s1,ix _ p0,ix _ pq,s2]
    refine ih (n-q) _ _ ⟨q,rfl,by simp [h0],by simp [h2],by simp [h3],by simp,by omega,by omega,_,sw.step d0 dq (by omega) (by omega),?_,o2,c.trans c3,by omega⟩ (by omega)
    subst hd0 hdq
    exact hb.step (by omega) hlr hq hqn g1 hbig
   ·simp
    subst hd0 hdq
    exact ⟨ys,sw,hb.done (fun p g3 g4=>by have:=hbig p g3 g4;omega),o,c,l⟩
theorem Pj (v:Value) (xs:List Int) (e:TypeId) (a b:Nat) (h:OwE e H v xs) (hab:a<b) (hb:b≤xs.length) (hl:xs.length≤1073741824) (hf:∀i∈ids v,frz≤i) :
 wp (vcall C frz 67 [v,.int .i64 a,.int .i64 b,cf] H) (fun _ H'=>SwdE H v xs e a b (fun ys=>Srt ys a b) H'):=by
 rw [Qa (fn:=Try.f67) Try.func67 rfl (by kernel_rfl) rfl]
 obtain ⟨n,hn⟩:∃n,n=b-a:=⟨_,rfl⟩
 have e1:IntKind.i64.wrap ((b:Int)-a)=(n:Int):=by rw [w64 (by omega) (by omega)];omega
 have e2:IntKind.i64.wrap ((n:Int)-1)=((n-1:Nat):Int):=by rw [w64 (by omega) (by omega)];omega
 have e3:IntKind.i64.wrap (((n-1:Nat):Int)/2)=(((n-1)/2+1:Nat):Int)-1:=by rw [w64 (by omega) (by omega)];omega
 have e4:((n:Int)-1)=((n-1:Nat):Int):=by omega
 have hbn:a+n=b:=by omega
 simp [e1,e2,e3]
 refine Qk (fun m t H'=>∃k:Nat,m=k∧(t 0=v∧t 3=cf)∧t 8=.int .i64 a∧t 9=.int .i64 0∧t 10=.int .i64 n∧t 11=.int .i64 ((k:Int)-1)∧k≤n∧SwdE H v xs e a b (fun ys=>Hp ys a k n) H') ?_ (n:=(n-1)/2+1)
  ⟨(n-1)/2+1,rfl,by simp,by simp,by simp,by simp,by simp,by omega,xs,.refl,fun r c h1 h2 h3=>by omega,h,Chg.refl _,rfl⟩
 rintro k t H' ⟨_,rfl,h0,h6,h7,h8,h9,hkn,ys,sw,hp,o,c,l⟩ ih
 have len:=sw.len
 simp [h0,h6,h7,h8,h9]
 refine Qc ?_ ?_<;>intro hk
 ·obtain ⟨k,rfl⟩:∃k',k=k'+1:=⟨k-1,by omega⟩
  have e5:((k+1:Nat):Int)-1=(k:Int):=by omega
  rw [e5] at h9
  simp [h0,h6,h7,h8,h9]
  refine Qe (Ui hK v ys e k n a o hp (by omega) (by omega) (by omega) hf) ?_
  rintro _ H1 ⟨zs,sw1,hp1,o1,c1,l1⟩
  simp [h0,h6,h7,h8,h9]
  refine ih k _ _ ⟨k,rfl,by simp [h0],by simp [h6],by simp [h7],by simp [h8],?_,by omega,zs,sw.trans (sw1.mono (by omega) (by omega)),hp1,o1,c.trans c1,by omega⟩ (by omega)
  simp;rw [w64 (by omega) (by omega)]
 ·obtain rfl:k=0:=by omega
  simp [h0,h6,h7,h8,h9,e2]
  refine Qk (fun m t H'=>∃k:Nat,m=k∧(t 0=v∧t 3=cf)∧t 8=.int .i64 a∧t 9=.int .i64 0∧t 12=.int .i64 ((k:Int)-1)∧k≤n∧
   SwdE H v xs e a b (fun ys=>Hp ys a 0 k∧Srt ys (a+k) b∧∀p q,a≤p→p<a+k→a+k≤q→q<b→G ys p≤G ys q) H') ?_ (n:=n)
   ⟨n,rfl,by simp [h0],by simp [h6],by simp [h7],by simp [e4],by omega,ys,sw,⟨hp,Srt.short (by omega),fun p q h1 h2 h3 h4=>by omega⟩,o,c,l⟩
  clear ih h0 h6 h7 h8 h9 o c l hp sw len
  rintro k t H' ⟨_,rfl,h0,h6,h7,h10,hkn,ys,sw,⟨hp,hs,hle⟩,o,c,l⟩ ih
  have len:=sw.len
  simp [h0,h6,h7,h10]
  refine Qc ?_ ?_<;>intro hk
  ·obtain ⟨k,rfl⟩:∃k',k=k'+1:=⟨k-1,by omega⟩
   have e5:((k+1:Nat):Int)-1=(k:Int):=by omega
   rw [e5] at h10
   obtain ⟨d,hd⟩:∃d,d=a+k:=⟨_,rfl⟩
   have e6:IntKind.i64.wrap ((a:Int)+(k:Int))=(d:Int):=by rw [w64 (by omega) (by omega)];omega
   have p0:a<ys.length:=by omega
   have p1:d<ys.length:=by omega
   obtain ⟨H1,H2,s1,ix,s2,o2,c2,l2⟩:=Q6 o p0 p1 hf
   simp [h0,h6,h7,h10]
   rw [Qf (h:=by kernel_rfl)]
   simp [h0,h6,h7,h10,e6,Qh o p0,Qh o p1,Qi o p0,Qi o p1,s1,ix _ p0,ix _ p1,s2]
   have gs:=fun q=>Xc (xs:=ys) p0 p1 q
   refine Qe (Ui hK v _ e 0 k a o2 (fun r q h1 h2 h3=>?_) (by omega) (by simp;omega) (by simp;omega) hf) ?_
   ·rw [gs,gs,if_neg (by omega),if_neg (by omega),if_neg (by omega),if_neg (by omega)]
    exact hp r q (by omega) h2 (by omega)
   ·rintro _ H3 ⟨zs,sw1,hp1,o3,c3,l3⟩
    simp only [Nat.add_zero] at sw1
    have hlz:a+k≤(swp ys a d).length:=by simp;omega
    have top:=hp.top
    have hz:∀q,q<a∨a+k≤q→G zs q=G (swp ys a d) q:=fun q hq=>sw1.out hlz hq
    have zd:G zs d=G ys a:=by rw [hz d (by omega),gs,if_pos rfl]
    have zo:∀q,d<q→q<b→G zs q=G ys q:=fun q h1 h2=>by rw [hz q (by omega),gs,if_neg (by omega),if_neg (by omega)]
    have zlo:∀p,a≤p→p<a+k→G zs p≤G ys a∧∀q,d<q→q<b→G zs p≤G ys q:=sw1.all (p:=fun x=>x≤G ys a∧∀q,d<q→q<b→x≤G ys q) hlz (fun p h1 h2=>by
     rw [gs,if_neg (by omega)]
     split
     ·have:=top k (by omega);rw [← hd] at this
      exact ⟨this,fun q g1 g2=>hle d q (by omega) (by omega) (by omega) g2⟩
     ·have:=top (p-a) (by omega);rw [show a+(p-a)=p by omega] at this
      exact ⟨this,fun q g1 g2=>hle p q (by omega) (by omega) (by omega) g2⟩)
    simp [h0,h6,h7,h10]
    refine ih k _ _ ⟨k,rfl,by simp [h0],by simp [h6],by simp [h7],?_,by omega,zs,(sw.step a d (by omega) (by omega)).trans (sw1.mono (by omega) (by omega)),⟨hp1,fun p q h1 h2 h3=>?_,fun p q h1 h2 h3 h4=>?_⟩,o3,c.trans (c2.trans c3),by omega⟩ (by omega)
    ·simp;rw [w64 (by omega) (by omega)]
    ·rw [zo q (by omega) h3]
     by_cases hpd:p=d
     ·rw [hpd,zd];exact hle a q (by omega) (by omega) (by omega) h3
     ·rw [zo p (by omega) (by omega)];exact hs p q (by omega) h2 h3
    ·by_cases hq:q=d
     ·rw [hq,zd];exact (zlo p h1 h2).1
     ·rw [zo q (by omega) h4];exact (zlo p h1 h2).2 q (by omega) h4
  ·obtain rfl:k=0:=by omega
   simp
   exact ⟨ys,sw,hs,o,c,l⟩
include hK
theorem Pp (v:Value) (xs:List Int) (e:TypeId) (a b:Nat) (h:OwE e H v xs) (hab:a<b) (hb:b≤xs.length) (hl:xs.length≤1073741824) (hf:∀i∈ids v,frz≤i) :
 wp (vcall C frz 70 [v,.int .i64 a,.int .i64 b,cf] H) (fun _ H'=>SwdE H v xs e a b (fun ys=>True) H'):=by
 rw [Qa (fn:=Try.f70) Try.func70 rfl (by kernel_rfl) rfl]
 have e1:IntKind.i64.wrap ((b:Int)-1)=((b-1:Nat):Int):=by rw [w64 (by omega) (by omega)];omega
 simp [e1]
 refine Qk (fun m t H'=>∃i j:Nat,m=j-i∧(t 0=v∧t 3=cf)∧t 8=.int .i64 i∧t 9=.int .i64 j∧a≤i∧j<b∧i≤j+1∧SwdE H v xs e a b (fun ys=>True) H') ?_ (n:=b-1-a)
  ⟨a,b-1,rfl,by simp,by simp,by simp,by omega,by omega,by omega,xs,.refl,trivial,h,Chg.refl _,rfl⟩
 rintro m t H' ⟨i,j,rfl,h0,h6,h7,hi,hj,hij,ys,sw,_,o,c,l⟩ ih
 have len:=sw.len
 simp [h0,h6,h7]
 refine Qc ?_ ?_<;>intro hk
 ·have p0:i<ys.length:=by omega
  have p1:j<ys.length:=by omega
  obtain ⟨H1,H2,s1,ix,s2,o2,c2,l2⟩:=Q6 o p0 p1 hf
  simp [h0,h6,h7]
  rw [Qf (h:=by kernel_rfl)]
  simp [h0,h6,h7,Qh o p0,Qh o p1,Qi o p0,Qi o p1,s1,ix _ p0,ix _ p1,s2]
  refine ih (j-1-(i+1)) _ _ ⟨i+1,j-1,rfl,by simp [h0],?_,?_,by omega,by omega,by omega,_,sw.step i j (by omega) (by omega),trivial,o2,c.trans c2,by omega⟩ (by omega)
  ·simp;rw [w64 (by omega) (by omega)]
  ·simp;rw [w64 (by omega) (by omega)];omega
 ·simp
  exact ⟨ys,sw,trivial,o,c,l⟩
theorem U8 (v:Value) (xs:List Int) (e:TypeId) (a b r:Nat) (h:OwE e H v xs) (ha:a<xs.length) (hb:b<xs.length) (hr:BoxE H r) (hf:frz≤r) :
 wp (vcall C frz 82 [v,.int .i64 a,.int .i64 b,.pointer (some ⟨r,0,some 0⟩),cf] H)
  (fun u H'=>(∃a' b':Nat,u=.tuple #[.int .i64 a',.int .i64 b']∧((a'=a∧b'=b)∨(a'=b∧b'=a)))∧Chg H H' [r]∧BoxE H' r):=by
 obtain ⟨s,hs⟩:=hr
 rw [Qa (fn:=Try.f82) Try.func82 rfl (by kernel_rfl) rfl]
 simp
 rw [Qf (h:=by kernel_rfl)]
 simp [Qh h ha,Qh h hb,Qi h ha,Qi h hb,dlt hK h]
 refine Qc ?_ ?_<;>intro g1
 ·simp [vnil,VM.look,hs,hf]
  exact ⟨⟨b,a,⟨rfl,rfl⟩,.inr ⟨rfl,rfl⟩⟩,Qn _ _,_,Qy hs⟩
 ·simp
  exact ⟨⟨a,b,⟨rfl,rfl⟩,.inl ⟨rfl,rfl⟩⟩,Chg.refl _,_,hs⟩
theorem S7 (v:Value) (xs:List Int) (e:TypeId) (a b c r:Nat) (h:OwE e H v xs) (ha:a<xs.length) (hb:b<xs.length) (hc:c<xs.length) (hr:BoxE H r) (hf:frz≤r) (hn:r∉ids v) :
 wp (vcall C frz 81 [v,.int .i64 a,.int .i64 b,.int .i64 c,.pointer (some ⟨r,0,some 0⟩),cf] H)
  (fun u H'=>(∃m:Nat,u=.int .i64 m∧(m=a∨m=b∨m=c))∧Chg H H' [r]∧BoxE H' r):=by
 rw [Qa (fn:=Try.f81) Try.func81 rfl (by kernel_rfl) rfl]
 simp
 refine Qe (U8 hK v xs e a b r h ha hb hr hf) ?_
 rintro _ H1 ⟨⟨a1,b1,rfl,h1⟩,c1,r1⟩
 have o1:=h.chg c1 (fun i hi hh=>by simp at hh;subst hh;exact hn hi)
 simp
 refine Qe (U8 hK v xs e b1 c r o1 (by omega) hc r1 hf) ?_
 rintro _ H2 ⟨⟨b2,c2,rfl,h2⟩,c2',r2⟩
 have o2:=o1.chg c2' (fun i hi hh=>by simp at hh;subst hh;exact hn hi)
 simp
 refine Qe (U8 hK v xs e a1 b2 r o2 (by omega) (by omega) r2 hf) ?_
 rintro _ H3 ⟨⟨a3,b3,rfl,h3⟩,c3,r3⟩
 simp
 exact ⟨⟨b3,rfl,by omega⟩,c1.trans (c2'.trans c3),r3⟩
theorem X3 (v:Value) (xs:List Int) (e:TypeId) (a r:Nat) (h:OwE e H v xs) (h0:0<a) (ha:a+1<xs.length) (hl:xs.length≤1073741824) (hr:BoxE H r) (hf:frz≤r) (hn:r∉ids v) :
 wp (vcall C frz 80 [v,.int .i64 a,.pointer (some ⟨r,0,some 0⟩),cf] H)
  (fun u H'=>(∃m:Nat,u=.int .i64 m∧(m+1=a∨m=a∨m=a+1))∧Chg H H' [r]∧BoxE H' r):=by
 rw [Qa (fn:=Try.f80) Try.func80 rfl (by kernel_rfl) rfl]
 have e1:IntKind.i64.wrap ((a:Int)-1)=((a-1:Nat):Int):=by rw [w64 (by omega) (by omega)];omega
 have e2:IntKind.i64.wrap ((a:Int)+1)=((a+1:Nat):Int):=by rw [w64 (by omega) (by omega)];omega
 simp [e1]
 rw [e2]
 refine Qe (S7 hK v xs e (a-1) a (a+1) r h (by omega) (by omega) ha hr hf hn) ?_
 rintro _ H1 ⟨⟨m,rfl,hm⟩,c1,r1⟩
 simp
 exact ⟨⟨m,rfl,by omega⟩,c1,r1⟩
theorem Vr (v:Value) (xs:List Int) (e:TypeId) (a b:Nat) (h:OwE e H v xs) (hab:a+8≤b) (hb:b≤xs.length) (hl:xs.length≤1073741824) (hf:frz≤H.length) :
 wp (vcall C frz 69 [v,.int .i64 a,.int .i64 b,cf] H)
  (fun u H'=>(∃(m:Nat) (k:Int),u=.tuple #[.int .i64 m,.int .i64 k]∧a≤m∧m<b)∧Chg H H' []):=by
 rw [Qa (fn:=Try.f69) Try.func69 rfl (by kernel_rfl) rfl]
 obtain ⟨n,hn⟩:∃n,n=b-a:=⟨_,rfl⟩
 have e1:∀[Inhabited Unit],IntKind.i64.wrap ((b:Int)-a)=(n:Int):=by intro _;rw [w64 (by omega) (by omega)];omega
 obtain ⟨q,hq⟩:∃q,q=n/4:=⟨_,rfl⟩
 have e2:∀[Inhabited Unit],IntKind.i64.wrap ((n:Int)/4)=(q:Int):=by intro _;rw [w64 (by omega) (by omega)];omega
 obtain ⟨q2,hq2⟩:∃q2,q2=q*2:=⟨_,rfl⟩
 obtain ⟨q3,hq3⟩:∃q3,q3=q*3:=⟨_,rfl⟩
 obtain ⟨i0,hi0⟩:∃i0,i0=a+q:=⟨_,rfl⟩
 obtain ⟨i1,hi1⟩:∃i1,i1=a+q2:=⟨_,rfl⟩
 obtain ⟨i2,hi2⟩:∃i2,i2=a+q3:=⟨_,rfl⟩
 have e3:∀[Inhabited Unit],IntKind.i64.wrap (q:Int)=(q:Int):=by intro _;rw [w64 (by omega) (by omega)]
 have e4:∀[Inhabited Unit],IntKind.i64.wrap ((q:Int)*2)=(q2:Int):=by intro _;rw [w64 (by omega) (by omega)];omega
 have e5:∀[Inhabited Unit],IntKind.i64.wrap ((q:Int)*3)=(q3:Int):=by intro _;rw [w64 (by omega) (by omega)];omega
 have e6:∀[Inhabited Unit],IntKind.i64.wrap ((a:Int)+q)=(i0:Int):=by intro _;rw [w64 (by omega) (by omega)];omega
 have e7:∀[Inhabited Unit],IntKind.i64.wrap ((a:Int)+q2)=(i1:Int):=by intro _;rw [w64 (by omega) (by omega)];omega
 have e8:∀[Inhabited Unit],IntKind.i64.wrap ((a:Int)+q3)=(i2:Int):=by intro _;rw [w64 (by omega) (by omega)];omega
 have g8:(8:Int)≤n:=by omega
 have lt:=h.lt
 have nin:H.length∉ids v:=fun hh=>by have:=lt _ hh;omega
 simp [e1,e2,e3,e4,e5,e6,e7,e8,g8]
 have b0:BoxE (H++[⟨[.int .i64 0],0,3⟩]) H.length:=⟨0,by simp⟩
 have o0:OwE e (H++[⟨[.int .i64 0],0,3⟩]) v xs:=h.app
 refine Ug (F:=?F) (k:=?k) (d:=?d) (Q:=?Q) (fun r t=>∃(i0 i1 i2:Nat) (H1:Heap),r=vcall C frz 81 [v,.int .i64 i0,.int .i64 i1,.int .i64 i2,.pointer (some ⟨H.length,0,some 0⟩),cf] H1∧
  (a≤i0∧i0<b)∧(a≤i1∧i1<b)∧(a≤i2∧i2<b)∧t 11=.pointer (some ⟨H.length,0,some 0⟩)∧
  Chg (H++[⟨[.int .i64 0],0,3⟩]) H1 [H.length]∧BoxE H1 H.length) ?main ?rest
 case main=>
  intro rest
  refine Qc ?_ ?_<;>intro g1
  ·simp [e6,e7,e8]
   refine Qe (X3 hK v xs e i0 H.length o0 (by omega) (by omega) hl b0 hf nin) ?_
   rintro _ H1 ⟨⟨j0,rfl,hj0⟩,c1,r1⟩
   have o1:=o0.chg c1 (fun i hi hh=>by simp at hh;subst hh;exact nin hi)
   simp [e6,e7,e8]
   refine Qe (X3 hK v xs e i1 H.length o1 (by omega) (by omega) hl r1 hf nin) ?_
   rintro _ H2 ⟨⟨j1,rfl,hj1⟩,c2,r2⟩
   have o2:=o1.chg c2 (fun i hi hh=>by simp at hh;subst hh;exact nin hi)
   simp [e6,e7,e8]
   refine Qe (X3 hK v xs e i2 H.length o2 (by omega) (by omega) hl r2 hf nin) ?_
   rintro _ H3 ⟨⟨j2,rfl,hj2⟩,c3,r3⟩
   simp [e6,e7,e8]
   refine rest _ _ ?_
   exact ⟨j0,j1,j2,H3,rfl,by omega,by omega,by omega,by simp,c1.trans (c2.trans c3),r3⟩
  ·simp [e6,e7,e8]
   refine rest _ _ ?_
   exact ⟨i0,i1,i2,_,rfl,by omega,by omega,by omega,by simp,Chg.refl _,b0⟩
 case rest=>
  rintro _ t ⟨i0,i1,i2,H1,rfl,h0,h1,h2,t9,c1,r1⟩
  have o1:=o0.chg c1 (fun i hi hh=>by simp at hh;subst hh;exact nin hi)
  refine Qe (S7 hK v xs e i0 i1 i2 H.length o1 (by omega) (by omega) (by omega) r1 hf nin) ?_
  rintro _ H2 ⟨⟨m,rfl,hm⟩,c2,s,hs⟩
  have cc:Chg H H2 []:=(Chg.app (L:=[⟨[.int .i64 0],0,3⟩]) []).trans' (c1.trans c2) (fun i hi=>by simp at hi;subst hi;right;simp)
  simp [t9,VM.look,hs]
  refine Qc ?_ ?_<;>intro g2<;>simp
  ·exact ⟨⟨m,rfl,by omega⟩,cc⟩
  ·refine Qc ?_ ?_<;>intro g3<;>simp
   ·exact ⟨⟨m,rfl,by omega⟩,cc⟩
   ·exact ⟨⟨m,rfl,by omega⟩,cc⟩
include hK
theorem Pm (v:Value) (xs:List Int) (e:TypeId) (a b:Nat) (h:OwE e H v xs) (hab:a≤b) (hb:b≤xs.length) (hl:xs.length≤1073741824) (hf:∀i∈ids v,frz≤i) (hF:frz≤H.length) :
 wp (vcall C frz 68 [v,.int .i64 a,.int .i64 b,cf] H) (fun _ H'=>∃ys,Sw a b xs ys∧OwE e H' v ys∧Chg H H' (ids v)):=by
 rw [Qa (fn:=Try.f68) Try.func68 rfl (by kernel_rfl) rfl]
 obtain ⟨n,hn⟩:∃n,n=b-a:=⟨_,rfl⟩
 have e1:∀[Inhabited Unit],IntKind.i64.wrap ((b:Int)-a)=(n:Int):=by intro _;rw [w64 (by omega) (by omega)];omega
 simp [e1]
 refine Qc ?_ ?_<;>intro g1
 ·have lt:=h.lt
  have nin:H.length∉ids v:=fun hh=>by have:=lt _ hh;omega
  have e2:∀[Inhabited Unit],IntKind.u64.wrap (n:Int)=(n:Int):=by intro _;exact w64u (by omega) (by omega)
  have e3:∀[Inhabited Unit],IntKind.i64.wrap (n:Int)=(n:Int):=by intro _;exact w64 (by omega) (by omega)
  simp [e1,e2,VM.look,hF]
  refine Qe (Jh n (by omega)) ?_
  rintro _ _ ⟨rfl,m,rfl,m1,m2,m3⟩
  obtain ⟨q,hq⟩:∃q,q=n/4:=⟨_,rfl⟩
  obtain ⟨q2,hq2⟩:∃q2,q2=q*2:=⟨_,rfl⟩
  obtain ⟨s,hs⟩:∃s,s=a+q2:=⟨_,rfl⟩
  have e4:∀[Inhabited Unit],IntKind.i64.wrap ((n:Int)/4)=(q:Int):=by intro _;rw [w64 (by omega) (by omega)];omega
  have e5:∀[Inhabited Unit],IntKind.i64.wrap ((q:Int)*2)=(q2:Int):=by intro _;rw [w64 (by omega) (by omega)];omega
  have e6:∀[Inhabited Unit],IntKind.i64.wrap ((a:Int)+q2)=(s:Int):=by intro _;rw [w64 (by omega) (by omega)];omega
  have e7:∀[Inhabited Unit],IntKind.i64.wrap ((s:Int)-1)=((s-1:Nat):Int):=by intro _;rw [w64 (by omega) (by omega)];omega
  have e8:∀[Inhabited Unit],IntKind.i64.wrap ((s:Int)+1)=((s+1:Nat):Int):=by intro _;rw [w64 (by omega) (by omega)];omega
  have e9:∀[Inhabited Unit],IntKind.u64.wrap ((m:Int)-1)=((m-1:Nat):Int):=by intro _;rw [w64u (by omega) (by omega)];omega
  simp [e1,e2,e3,e4,e5,e6,e7]
  refine Qk (fun c t H'=>∃i:Nat,c=s+2-i∧s≤i+1∧i≤s+2∧(t 0=v∧t 3=cf)∧t 1=.int .i64 a∧t 8=.int .i64 n∧t 9=.pointer (some ⟨H.length,0,some 0⟩)∧t 10=.int .u64 m∧t 11=.int .i64 i∧
   BoxX H' H.length∧Chg (H++[⟨[.int .u64 n],0,111⟩]) H' (H.length::ids v)∧∃ys,Sw a b xs ys∧OwE e H' v ys) ?_ (n:=s+2-(s-1))
   ⟨s-1,rfl,by omega,by omega,by simp,by simp,by simp,by simp,by simp,by simp,⟨n,by simp⟩,Chg.refl _,xs,.refl,h.app⟩
  rintro c t H1 ⟨i,rfl,hi1,hi2,t0,t1,t6,t7,t8,t9,bx,ch,ys,sw,o⟩ ih
  have len:=sw.len
  simp [t0,t1,t6,t7,t8,t9,e4,e5,e6,e8]
  refine Qc ?_ ?_<;>intro g2
  ·have p0:i<ys.length:=by omega
   simp [t0,t1,t6,t7,t8,t9]
   refine Qe (La H.length bx hF) ?_
   rintro _ H2 ⟨⟨z,rfl⟩,c2,bx2⟩
   have o2:=o.chg c2 (fun i hi hh=>by simp at hh;subst hh;exact nin hi)
   obtain ⟨k,hk⟩:∃k:Nat,iand .u64 z ((m-1:Nat):Int)=k:=⟨_,(Int.toNat_of_nonneg (Sf z (m-1) (by omega)).1).symm⟩
   have hk2:=(Sf z (m-1) (by omega)).2
   rw [hk] at hk2
   have e10:∀[Inhabited Unit],IntKind.i64.wrap (k:Int)=(k:Int):=by intro _;exact w64 (by omega) (by omega)
   have hk':∀[Inhabited Unit],iand .u64 z ((m-1:Nat):Int)=k:=by intro _;exact hk
   clear hk
   simp [t0,t1,t6,t7,t8,t9,e9,hk',e10]
   refine Xs (F:=?F) (k:=?k) (Q:=?Q) (fun t H'=>∃d:Nat,d<n∧H'=H2∧(t 0=v∧t 3=cf)∧t 1=.int .i64 a∧t 8=.int .i64 n∧t 9=.pointer (some ⟨H.length,0,some 0⟩)∧t 10=.int .u64 m∧t 11=.int .i64 i∧t 12=.int .i64 d) ?main ?rest
   case main=>
    intro rest
    refine Qc ?_ ?_<;>intro g3
    ·have e11:∀[Inhabited Unit],IntKind.i64.wrap ((k:Int)-n)=((k-n:Nat):Int):=by intro _;rw [w64 (by omega) (by omega)];omega
     simp [t0,t1,t6,t7,t8,t9,e9,hk',e10,e11]
     refine rest _ _ ?_
     exact ⟨k-n,by omega,rfl,by simp [t0],by simp [t1],by simp [t6],by simp [t7],by simp [t8],by simp [t9],by simp⟩
    ·simp
     refine rest _ _ ?_
     exact ⟨k,by omega,rfl,by simp [t0],by simp [t1],by simp [t6],by simp [t7],by simp [t8],by simp [t9],by simp⟩
   case rest=>
    rintro t _ ⟨d,hd,rfl,t0,t1,t6,t7,t8,t9,t10⟩
    obtain ⟨j,hj⟩:∃j,j=a+d:=⟨_,rfl⟩
    have e12:∀[Inhabited Unit],IntKind.i64.wrap ((a:Int)+d)=(j:Int):=by intro _;rw [w64 (by omega) (by omega)];omega
    have p1:j<ys.length:=by omega
    obtain ⟨H3,H4,s1,ix,s2,o4,c4,l4⟩:=Q6 o2 p0 p1 hf
    rw [Qf (h:=by kernel_rfl)]
    simp [t0,t1,t6,t7,t8,t9,t10,e12,Qh o2 p0,Qh o2 p1,Qi o2 p0,Qi o2 p1,s1,ix _ p0,ix _ p1,s2]
    obtain ⟨sx,hsx⟩:=bx2
    have bx4:BoxX H4 H.length:=⟨sx,Qb hsx c4 nin⟩
    refine ih (s+2-(i+1)) _ _ ⟨i+1,rfl,by omega,by omega,by simp [t0],by simp [t1],by simp [t6],by simp [t7],by simp [t8],?_,bx4,?_,_,sw.step i j (by omega) (by omega),o4⟩ (by omega)
    ·simp;rw [w64 (by omega) (by omega)]
    ·exact ch.trans ((c2.mono (by simp)).trans (c4.mono (fun q hq=>by simp [hq])))
  ·simp
   exact ⟨ys,sw,o,(Chg.app (ids v)).trans' ch (fun q hq=>by
    rcases List.mem_cons.1 hq with hq|hq
    ·right;simp [hq]
    ·exact .inl hq)⟩
 ·simp
  exact ⟨xs,.refl,h,Chg.refl _⟩
include hK
theorem N0 (v:Value) (xs:List Int) (e:TypeId) (a b p:Nat) (h:OwE e H v xs) (hp:a≤p∧p<b) (hb:b≤xs.length) (hl:xs.length≤1073741824) (hf:∀i∈ids v,frz≤i) :
 wp (vcall C frz 72 [v,.int .i64 a,.int .i64 b,.int .i64 p,cf] H) (fun r H'=>∃m:Nat,r=.int .i64 m∧a<m∧m≤b∧
  SwdE H v xs e a b (fun ys=>(∀k,a≤k→k<m→¬G xs p<G ys k)∧∀k,m≤k→k<b→G xs p<G ys k) H'):=by
 rw [Qa (fn:=Try.f72) Try.func72 rfl (by kernel_rfl) rfl]
 obtain ⟨x,hx⟩:∃x,x=G xs p:=⟨_,rfl⟩
 obtain ⟨i0,hi0⟩:∃i0,i0=a+1:=⟨_,rfl⟩
 obtain ⟨j0,hj0⟩:∃j0,j0=b-1:=⟨_,rfl⟩
 have e2:∀[Inhabited Unit],IntKind.i64.wrap ((a:Int)+1)=(i0:Int):=by intro _;rw [w64 (by omega) (by omega)];omega
 have e3:∀[Inhabited Unit],IntKind.i64.wrap ((b:Int)-1)=(j0:Int):=by intro _;rw [w64 (by omega) (by omega)];omega
 have p0:a<xs.length:=by omega
 have p1:p<xs.length:=by omega
 simp
 rw [Qf (h:=by kernel_rfl)]
 obtain ⟨H1,H2,s1,ix,s2,o2,c2,l2⟩:=Q6 h p0 p1 hf
 simp [Qh h p0,Qh h p1,Qi h p0,Qi h p1,s1,ix _ p0,ix _ p1,s2,e2,e3]
 have pt0:Pt (swp xs a p) a b x (fun y=>¬x<y) i0 j0:=by
  refine ⟨?_,fun k h1 h2=>by omega,fun k h1 h2=>by omega⟩
  rw [Xc p0 p1,hx]
  split
  ·rename_i e;rw [e]
  ·rw [if_pos rfl]
 have sw0:Sw a b xs (swp xs a p):=Sw.refl.step a p (by omega) (by omega)
 refine Qk (fun c t H'=>∃i j:Nat,c=j+1-i∧(t 0=v∧t 4=cf)∧t 1=.int .i64 a∧t 11=.int .i64 i∧t 12=.int .i64 j∧a<i∧i≤j+1∧j<b∧SwdE H v xs e a b (fun ys=>Pt ys a b x (fun y=>¬x<y) i j) H') ?_ (n:=j0+1-i0)
  ⟨i0,j0,rfl,by simp,by simp,by simp,by simp,by omega,by omega,by omega,_,sw0,pt0,o2,c2,l2⟩
 rw [← hx]
 clear pt0 sw0 o2 s1 s2 ix c2 l2 p0 p1
 rintro c t H' ⟨i,j,rfl,h0,h1,hi,hj,hai,hij,hjb,ys,sw,pt,o,c,l⟩ ih
 have len:=sw.len
 have p0:a<ys.length:=by omega
 simp [h0,h1,hi,hj]
 obtain ⟨il,hil⟩:∃il,il=i:=⟨_,rfl⟩
 have hai':il≤i∧a<i:=⟨by omega,hai⟩
 refine Xs (F:=?F1) (k:=?k1) (Q:=?Q1) (fun t H1=>∃i:Nat,(t 0=v∧t 4=cf)∧t 1=.int .i64 a∧t 11=.int .i64 i∧t 12=.int .i64 j∧(il≤i∧a<i)∧i≤j+1∧(i=j+1∨(i≤j∧¬(fun y=>¬x<y) (G ys i)))∧H'=H1∧Pt ys a b x (fun y=>¬x<y) i j) ?main1 ?rest1
 case main1=>
  intro rest
  refine Qk (fun c t H1=>∃i:Nat,c=j+1-i∧(t 0=v∧t 4=cf)∧t 1=.int .i64 a∧t 11=.int .i64 i∧t 12=.int .i64 j∧(il≤i∧a<i)∧i≤j+1∧H'=H1∧Pt ys a b x (fun y=>¬x<y) i j) ?_ (n:=j+1-i)
   ⟨i,rfl,by simp [h0],by simp [h1],by simp [hi],by simp [hj],hai',hij,rfl,pt⟩
  rintro c t _ ⟨i,rfl,h0,h1,hi,hj,hai',hij,rfl,pt⟩ ih2
  have hai:=hai'.2
  simp [h0,h1,hi,hj]
  rw [Qf (h:=by kernel_rfl)]
  simp [h0,h1,hi,hj]
  refine Qu ?_ ?_<;>intro g1
  ·have p1:i<ys.length:=by omega
   simp [h0,h1,hi,hj,g1,Qh o p0,Qh o p1,Qi o p0,Qi o p1,dlt hK o]
   refine Qc ?_ ?_<;>intro g2
   ·simp [h0,h1,hi,hj]
    refine rest _ _ ?_
    exact ⟨i,by simp [h0],by simp [h1],by simp [hi],by simp [hj],hai',by omega,.inr ⟨by omega,by have:=pt.1;show ¬(¬x<G ys i);omega⟩,rfl,pt⟩
   ·simp [h0,h1,hi,hj]
    refine ih2 (j+1-(i+1)) _ _ ⟨i+1,rfl,by simp [h0],by simp [h1],?_,by simp [hj],by omega,by omega,rfl,pt.incr hai (by have:=pt.1;show ¬x<G ys i;omega)⟩ (by omega)
    simp;rw [w64 (by omega) (by omega)]
  ·simp [h0,h1,hi,hj,g1]
   refine rest _ _ ?_
   exact ⟨i,by simp [h0],by simp [h1],by simp [hi],by simp [hj],hai',hij,.inl (by omega),rfl,pt⟩
 case rest1=>
  rintro t _ ⟨i,h0,h1,hi,hj,hai',hij,hex,rfl,pt⟩
  have hai:=hai'.2
  refine Qk (fun c t H1=>∃j':Nat,c=j'+1-i∧(t 0=v∧t 4=cf)∧t 1=.int .i64 a∧t 11=.int .i64 i∧t 12=.int .i64 j'∧j'≤j∧i≤j'+1∧H'=H1∧Pt ys a b x (fun y=>¬x<y) i j') ?_ (n:=j+1-i)
   ⟨j,rfl,by simp [h0],by simp [h1],by simp [hi],by simp [hj],Nat.le_refl _,hij,rfl,pt⟩
  have hex':i<j+1→¬(fun y=>¬x<y) (G ys i):=fun hh=>by rcases hex with hex|hex;omega;exact hex.2
  have hjb0:=hjb
  rintro c t _ ⟨j',rfl,h0,h1,hi,hj,hjj',hij,rfl,pt⟩ ih2
  have hjb:j'<b:=by omega
  simp [h0,h1,hi,hj]
  rw [Qf (h:=by kernel_rfl)]
  simp [h0,h1,hi,hj]
  refine Qu ?_ ?_<;>intro g1
  ·have p1:j'<ys.length:=by omega
   simp [h0,h1,hi,hj,g1,Qh o p0,Qh o p1,Qi o p0,Qi o p1,dlt hK o]
   refine Qc ?_ ?_<;>intro g2
   ·simp [h0,h1,hi,hj]
    refine ih2 (j'-1+1-i) _ _ ⟨j'-1,rfl,by simp [h0],by simp [h1],by simp [hi],?_,by omega,by omega,rfl,pt.decr (by omega) (by have:=pt.1;show ¬(¬x<G ys j');omega)⟩ (by omega)
    simp;rw [w64 (by omega) (by omega)];omega
   ·simp [h0,h1,hi,hj]
    have hnj:¬j'<i:=by omega
    simp [hnj]
    have p2:i<ys.length:=by omega
    have hlo:(fun y=>¬x<y) (G ys j'):=by have:=pt.1;show ¬x<G ys j';omega
    rw [Qf (h:=by kernel_rfl)]
    obtain ⟨H3,H4,s3,ix3,s4,o4,c4,l4⟩:=Q6 o p2 p1 hf
    simp [h0,h1,hi,hj,Qh o p2,Qh o p1,Qi o p2,Qi o p1,s3,ix3 _ p2,ix3 _ p1,s4]
    have hlt:i<j':=by
     rcases Nat.lt_or_ge i j' with q|q
     ·exact q
     ·have q2:i=j':=by omega
      exact absurd (q2▸hlo) (hex' (by omega))
    refine ih (j'-1+1-(i+1)) _ _ ⟨i+1,j'-1,rfl,by simp [h0],by simp [h1],?_,?_,by omega,by omega,by omega,_,sw.step i j' (by omega) (by omega),pt.swap hai hlt hjb (by omega) (hex' (by omega)) hlo,o4,c.trans c4,by omega⟩ (by omega)
    ·simp;rw [w64 (by omega) (by omega)]
    ·simp;rw [w64 (by omega) (by omega)];omega
  ·have hij':i=j'+1:=by omega
   have hji:j'<i:=by omega
   simp [h0,h1,hi,hj,g1,hji]
   refine ⟨i,rfl,by omega,by omega,ys,sw,⟨fun k k1 k2=>?_,fun k k1 k2=>?_⟩,o,c,l⟩
   ·by_cases hk:k=a
    ·have:=pt.1;rw [hk];omega
    ·have q:¬x<G ys k:=pt.2.1 k (by omega) k2
     omega
   ·have q:¬¬x<G ys k:=pt.2.2 k (by omega) k2
    omega
theorem Jl (v:Value) (xs:List Int) (e:TypeId) (a b p:Nat) (h:OwE e H v xs) (hp:a≤p∧p<b) (hb:b≤xs.length) (hl:xs.length≤1073741824) (hf:∀i∈ids v,frz≤i) :
 wp (vcall C frz 73 [v,.int .i64 a,.int .i64 b,.int .i64 p,cf] H) (fun r H'=>∃(m:Nat) (d:Bool),r=.tuple #[.int .i64 m,.bool d]∧a≤m∧m<b∧
  SwdE H v xs e a b (fun ys=>(∀k,a≤k→k<m→G ys k<G ys m)∧∀k,m<k→k<b→G ys m≤G ys k) H'):=by
 rw [Qa (fn:=Try.f73) Try.func73 rfl (by kernel_rfl) rfl]
 obtain ⟨x,hx⟩:∃x,x=G xs p:=⟨_,rfl⟩
 obtain ⟨i0,hi0⟩:∃i0,i0=a+1:=⟨_,rfl⟩
 obtain ⟨j0,hj0⟩:∃j0,j0=b-1:=⟨_,rfl⟩
 have e2:∀[Inhabited Unit],IntKind.i64.wrap ((a:Int)+1)=(i0:Int):=by intro _;rw [w64 (by omega) (by omega)];omega
 have e3:∀[Inhabited Unit],IntKind.i64.wrap ((b:Int)-1)=(j0:Int):=by intro _;rw [w64 (by omega) (by omega)];omega
 have p0:a<xs.length:=by omega
 have p1:p<xs.length:=by omega
 simp
 rw [Qf (h:=by kernel_rfl)]
 obtain ⟨H1,H2,s1,ix,s2,o2,c2,l2⟩:=Q6 h p0 p1 hf
 simp [Qh h p0,Qh h p1,Qi h p0,Qi h p1,s1,ix _ p0,ix _ p1,s2,e2,e3]
 have pt0:Pt (swp xs a p) a b x (fun y=>y<x) i0 j0:=by
  refine ⟨?_,fun k h1 h2=>by omega,fun k h1 h2=>by omega⟩
  rw [Xc p0 p1,hx]
  split
  ·rename_i e;rw [e]
  ·rw [if_pos rfl]
 have sw0:Sw a b xs (swp xs a p):=Sw.refl.step a p (by omega) (by omega)
 obtain ⟨ys,sw,o,c,l,pt⟩:∃ys,Sw a b xs ys∧OwE e H2 v ys∧Chg H H2 (ids v)∧H2.length=H.length∧Pt ys a b x (fun y=>y<x) i0 j0:=⟨_,sw0,o2,c2,l2,pt0⟩
 obtain ⟨i,hii⟩:∃i,i0=i:=⟨_,rfl⟩
 obtain ⟨j,hjj⟩:∃j,j0=j:=⟨_,rfl⟩
 rw [hii] at pt ⊢
 rw [hjj] at pt ⊢
 have hai:a<i:=by omega
 have hij:i≤j+1:=by omega
 have hjb:j<b:=by omega
 clear pt0 sw0 o2 s1 s2 ix c2 l2 p0 p1
 have len:=sw.len
 have p0:a<ys.length:=by omega
 refine Xs (F:=?F) (k:=?k) (Q:=?Q) (fun t H1=>H2=H1∧(t 0=v∧t 4=cf)∧t 1=.int .i64 a∧t 12=.int .i64 i∧t 13=.int .i64 j) ?main ?rest
 case main=>intro rest;refine rest _ _ ?_;exact ⟨rfl,by simp,by simp,by simp,by simp⟩
 case rest=>
  rintro t H' ⟨rfl,h0,h1,hi,hj⟩
  obtain ⟨H',hH⟩:∃H',H'=H2:=⟨_,rfl⟩
  subst hH
  obtain ⟨il,hil⟩:∃il,il=i:=⟨_,rfl⟩
  have hai':il≤i∧a<i:=⟨by omega,hai⟩
  refine Xs (F:=?F3) (k:=?k3) (Q:=?Q3) (fun t H1=>∃i:Nat,(t 0=v∧t 4=cf)∧t 1=.int .i64 a∧t 12=.int .i64 i∧t 13=.int .i64 j∧(il≤i∧a<i)∧i≤j+1∧(i=j+1∨(i≤j∧¬(fun y=>y<x) (G ys i)))∧H'=H1∧Pt ys a b x (fun y=>y<x) i j) ?main3 ?rest3
  case main3=>
   intro rest
   refine Qk (fun c t H1=>∃i:Nat,c=j+1-i∧(t 0=v∧t 4=cf)∧t 1=.int .i64 a∧t 12=.int .i64 i∧t 13=.int .i64 j∧(il≤i∧a<i)∧i≤j+1∧H'=H1∧Pt ys a b x (fun y=>y<x) i j) ?_ (n:=j+1-i)
    ⟨i,rfl,by simp [h0],by simp [h1],by simp [hi],by simp [hj],hai',hij,rfl,pt⟩
   rintro c t _ ⟨i,rfl,h0,h1,hi,hj,hai',hij,rfl,pt⟩ ih2
   have hai:=hai'.2
   simp [h0,h1,hi,hj]
   rw [Qf (h:=by kernel_rfl)]
   simp [h0,h1,hi,hj]
   refine Qu ?_ ?_<;>intro g1
   ·have p1:i<ys.length:=by omega
    simp [h0,h1,hi,hj,g1,Qh o p0,Qh o p1,Qi o p0,Qi o p1,dlt hK o]
    refine Qc ?_ ?_<;>intro g2
    ·simp [h0,h1,hi,hj]
     refine ih2 (j+1-(i+1)) _ _ ⟨i+1,rfl,by simp [h0],by simp [h1],?_,by simp [hj],by omega,by omega,rfl,pt.incr hai (by have:=pt.1;show G ys i<x;omega)⟩ (by omega)
     simp;rw [w64 (by omega) (by omega)]
    ·simp [h0,h1,hi,hj]
     refine rest _ _ ?_
     exact ⟨i,by simp [h0],by simp [h1],by simp [hi],by simp [hj],hai',by omega,.inr ⟨by omega,by have:=pt.1;show ¬(G ys i<x);omega⟩,rfl,pt⟩
   ·simp [h0,h1,hi,hj,g1]
    refine rest _ _ ?_
    exact ⟨i,by simp [h0],by simp [h1],by simp [hi],by simp [hj],hai',hij,.inl (by omega),rfl,pt⟩
  case rest3=>
   rintro t _ ⟨i,h0,h1,hi,hj,hai',hij,hex,rfl,pt⟩
   have hai:=hai'.2
   refine Qk (fun c t H1=>∃j':Nat,c=j'+1-i∧(t 0=v∧t 4=cf)∧t 1=.int .i64 a∧t 12=.int .i64 i∧t 13=.int .i64 j'∧j'≤j∧i≤j'+1∧H'=H1∧Pt ys a b x (fun y=>y<x) i j') ?_ (n:=j+1-i)
    ⟨j,rfl,by simp [h0],by simp [h1],by simp [hi],by simp [hj],Nat.le_refl _,hij,rfl,pt⟩
   have hex':i<j+1→¬(fun y=>y<x) (G ys i):=fun hh=>by rcases hex with hex|hex;omega;exact hex.2
   have hjb0:=hjb
   rintro c t _ ⟨j',rfl,h0,h1,hi,hj,hjj',hij,rfl,pt⟩ ih2
   have hjb:j'<b:=by omega
   simp [h0,h1,hi,hj]
   rw [Qf (h:=by kernel_rfl)]
   simp [h0,h1,hi,hj]
   refine Qu ?_ ?_<;>intro g1
   ·have p1:j'<ys.length:=by omega
    simp [h0,h1,hi,hj,g1,Qh o p0,Qh o p1,Qi o p0,Qi o p1,dlt hK o]
    refine Qc ?_ ?_<;>intro g2
    ·simp [h0,h1,hi,hj]
     have hnj:¬j'<i:=by omega
     simp [hnj]
     have p2:i<ys.length:=by omega
     have hlo:(fun y=>y<x) (G ys j'):=by have:=pt.1;show G ys j'<x;omega
     rw [Qf (h:=by kernel_rfl)]
     obtain ⟨H3,H4,s3,ix3,s4,o4,c4,l4⟩:=Q6 o p2 p1 hf
     simp [h0,h1,hi,hj,Qh o p2,Qh o p1,Qi o p2,Qi o p1,s3,ix3 _ p2,ix3 _ p1,s4]
     have hlt:i<j':=by
      rcases Nat.lt_or_ge i j' with q|q
      ·exact q
      ·have q2:i=j':=by omega
       exact absurd (q2▸hlo) (hex' (by omega))
     refine Qk (fun c t H'=>∃i j:Nat,c=j+1-i∧(t 0=v∧t 4=cf)∧t 1=.int .i64 a∧t 12=.int .i64 i∧t 13=.int .i64 j∧a<i∧i≤j+1∧j<b∧SwdE H v xs e a b (fun ys=>Pt ys a b x (fun y=>y<x) i j) H') ?_ (n:=j'-1+1-(i+1))
      ⟨i+1,j'-1,rfl,by simp [h0],by simp [h1],by simp;rw [w64 (by omega) (by omega)],by simp;rw [w64 (by omega) (by omega)];omega,by omega,by omega,by omega,_,sw.step i j' (by omega) (by omega),pt.swap hai hlt hjb (by omega) (hex' (by omega)) hlo,o4,c.trans c4,by omega⟩
     rintro c t H' ⟨i,j,rfl,h0,h1,hi,hj,hai,hij,hjb,ys,sw,pt,o,c,l⟩ ih
     have len:=sw.len
     have p0:a<ys.length:=by omega
     simp [h0,h1,hi,hj]
     obtain ⟨il,hil⟩:∃il,il=i:=⟨_,rfl⟩
     have hai':il≤i∧a<i:=⟨by omega,hai⟩
     refine Xs (F:=?F32) (k:=?k2) (Q:=?Q32) (fun t H1=>∃i:Nat,(t 0=v∧t 4=cf)∧t 1=.int .i64 a∧t 12=.int .i64 i∧t 13=.int .i64 j∧(il≤i∧a<i)∧i≤j+1∧(i=j+1∨(i≤j∧¬(fun y=>y<x) (G ys i)))∧H'=H1∧Pt ys a b x (fun y=>y<x) i j) ?main32 ?rest32
     case main32=>
      intro rest
      refine Qk (fun c t H1=>∃i:Nat,c=j+1-i∧(t 0=v∧t 4=cf)∧t 1=.int .i64 a∧t 12=.int .i64 i∧t 13=.int .i64 j∧(il≤i∧a<i)∧i≤j+1∧H'=H1∧Pt ys a b x (fun y=>y<x) i j) ?_ (n:=j+1-i)
       ⟨i,rfl,by simp [h0],by simp [h1],by simp [hi],by simp [hj],hai',hij,rfl,pt⟩
      rintro c t _ ⟨i,rfl,h0,h1,hi,hj,hai',hij,rfl,pt⟩ ih2
      have hai:=hai'.2
      simp [h0,h1,hi,hj]
      rw [Qf (h:=by kernel_rfl)]
      simp [h0,h1,hi,hj]
      refine Qu ?_ ?_<;>intro g1
      ·have p1:i<ys.length:=by omega
       simp [h0,h1,hi,hj,g1,Qh o p0,Qh o p1,Qi o p0,Qi o p1,dlt hK o]
       refine Qc ?_ ?_<;>intro g2
       ·simp [h0,h1,hi,hj]
        refine ih2 (j+1-(i+1)) _ _ ⟨i+1,rfl,by simp [h0],by simp [h1],?_,by simp [hj],by omega,by omega,rfl,pt.incr hai (by have:=pt.1;show G ys i<x;omega)⟩ (by omega)
        simp;rw [w64 (by omega) (by omega)]
       ·simp [h0,h1,hi,hj]
        refine rest _ _ ?_
        exact ⟨i,by simp [h0],by simp [h1],by simp [hi],by simp [hj],hai',by omega,.inr ⟨by omega,by have:=pt.1;show ¬(G ys i<x);omega⟩,rfl,pt⟩
      ·simp [h0,h1,hi,hj,g1]
       refine rest _ _ ?_
       exact ⟨i,by simp [h0],by simp [h1],by simp [hi],by simp [hj],hai',hij,.inl (by omega),rfl,pt⟩
     case rest32=>
      rintro t _ ⟨i,h0,h1,hi,hj,hai',hij,hex,rfl,pt⟩
      have hai:=hai'.2
      refine Qk (fun c t H1=>∃j':Nat,c=j'+1-i∧(t 0=v∧t 4=cf)∧t 1=.int .i64 a∧t 12=.int .i64 i∧t 13=.int .i64 j'∧j'≤j∧i≤j'+1∧H'=H1∧Pt ys a b x (fun y=>y<x) i j') ?_ (n:=j+1-i)
       ⟨j,rfl,by simp [h0],by simp [h1],by simp [hi],by simp [hj],Nat.le_refl _,hij,rfl,pt⟩
      have hex':i<j+1→¬(fun y=>y<x) (G ys i):=fun hh=>by rcases hex with hex|hex;omega;exact hex.2
      have hjb0:=hjb
      rintro c t _ ⟨j',rfl,h0,h1,hi,hj,hjj',hij,rfl,pt⟩ ih2
      have hjb:j'<b:=by omega
      simp [h0,h1,hi,hj]
      rw [Qf (h:=by kernel_rfl)]
      simp [h0,h1,hi,hj]
      refine Qu ?_ ?_<;>intro g1
      ·have p1:j'<ys.length:=by omega
       simp [h0,h1,hi,hj,g1,Qh o p0,Qh o p1,Qi o p0,Qi o p1,dlt hK o]
       refine Qc ?_ ?_<;>intro g2
       ·simp [h0,h1,hi,hj]
        have hnj:¬j'<i:=by omega
        simp [hnj]
        have p2:i<ys.length:=by omega
        have hlo:(fun y=>y<x) (G ys j'):=by have:=pt.1;show G ys j'<x;omega
        rw [Qf (h:=by kernel_rfl)]
        obtain ⟨H3,H4,s3,ix3,s4,o4,c4,l4⟩:=Q6 o p2 p1 hf
        simp [h0,h1,hi,hj,Qh o p2,Qh o p1,Qi o p2,Qi o p1,s3,ix3 _ p2,ix3 _ p1,s4]
        have hlt:i<j':=by
         rcases Nat.lt_or_ge i j' with q|q
         ·exact q
         ·have q2:i=j':=by omega
          exact absurd (q2▸hlo) (hex' (by omega))
        refine ih (j'-1+1-(i+1)) _ _ ⟨i+1,j'-1,rfl,by simp [h0],by simp [h1],?_,?_,by omega,by omega,by omega,_,sw.step i j' (by omega) (by omega),pt.swap hai hlt hjb (by omega) (hex' (by omega)) hlo,o4,c.trans c4,by omega⟩ (by omega)
        ·simp;rw [w64 (by omega) (by omega)]
        ·simp;rw [w64 (by omega) (by omega)];omega
       ·simp [h0,h1,hi,hj]
        refine ih2 (j'-1+1-i) _ _ ⟨j'-1,rfl,by simp [h0],by simp [h1],by simp [hi],?_,by omega,by omega,rfl,pt.decr (by omega) (by have:=pt.1;show ¬(G ys j'<x);omega)⟩ (by omega)
        simp;rw [w64 (by omega) (by omega)];omega
      ·have hij':i=j'+1:=by omega
       have hji:j'<i:=by omega
       simp [h0,h1,hi,hj,g1,hji]
       have p3:j'<ys.length:=by omega
       rw [Qf (h:=by kernel_rfl)]
       obtain ⟨H3,H4,s3,ix3,s4,o4,c4,l4⟩:=Q6 o p3 p0 hf
       simp [h0,h1,hi,hj,Qh o p3,Qh o p0,Qi o p3,Qi o p0,s3,ix3 _ p3,ix3 _ p0,s4]
       obtain ⟨f1,f2,f3⟩:=pt.fin hij' hai hjb (by omega)
       exact ⟨j',rfl,by omega,by omega,_,sw.step j' a (by omega) (by omega),⟨fun k k1 k2=>by have:=f2 k k1 k2;rw [f1];exact this,fun k k1 k2=>by have:=f3 k k1 k2;rw [f1];omega⟩,o4,c.trans c4,by omega⟩
    ·simp [h0,h1,hi,hj]
     refine ih2 (j'-1+1-i) _ _ ⟨j'-1,rfl,by simp [h0],by simp [h1],by simp [hi],?_,by omega,by omega,rfl,pt.decr (by omega) (by have:=pt.1;show ¬(G ys j'<x);omega)⟩ (by omega)
     simp;rw [w64 (by omega) (by omega)];omega
   ·have hij':i=j'+1:=by omega
    have hji:j'<i:=by omega
    simp [h0,h1,hi,hj,g1,hji]
    have p3:j'<ys.length:=by omega
    rw [Qf (h:=by kernel_rfl)]
    obtain ⟨H3,H4,s3,ix3,s4,o4,c4,l4⟩:=Q6 o p3 p0 hf
    simp [h0,h1,hi,hj,Qh o p3,Qh o p0,Qi o p3,Qi o p0,s3,ix3 _ p3,ix3 _ p0,s4]
    obtain ⟨f1,f2,f3⟩:=pt.fin hij' hai hjb (by omega)
    exact ⟨j',rfl,by omega,by omega,_,sw.step j' a (by omega) (by omega),⟨fun k k1 k2=>by have:=f2 k k1 k2;rw [f1];exact this,fun k k1 k2=>by have:=f3 k k1 k2;rw [f1];omega⟩,o4,c.trans c4,by omega⟩
include hK
theorem Ox (v:Value) (xs:List Int) (e:TypeId) (a b:Nat) (h:OwE e H v xs) (hab:a<b) (hb:b≤xs.length) (hl:xs.length≤1073741824) (hlo:0<a→∀k,a≤k→k<b→G xs (a-1)≤G xs k) (hf:∀i∈ids v,frz≤i) :
 wp (vcall C frz 71 [v,.int .i64 a,.int .i64 b,cf] H) (fun r H'=>∃d:Bool,r=.bool d∧SwdE H v xs e a b (fun ys=>d=true→Srt ys a b) H'):=by
 rw [Qa (fn:=Try.f71) Try.func71 rfl (by kernel_rfl) rfl]
 obtain ⟨i0,hi0⟩:∃i0,i0=a+1:=⟨_,rfl⟩
 have e2:∀[Inhabited Unit],IntKind.i64.wrap ((a:Int)+1)=(i0:Int):=by intro _;rw [w64 (by omega) (by omega)];omega
 simp [e2]
 refine Qk (fun c t H'=>∃i s:Nat,c=5-s∧s≤5∧(t 0=v∧t 3=cf)∧t 1=.int .i64 a∧t 2=.int .i64 b∧t 9=.int .i64 i∧t 10=.int .i64 s∧a<i∧i≤b∧SwdE H v xs e a b (fun ys=>Srt ys a i) H') ?_ (n:=5)
  ⟨i0,0,rfl,by omega,by simp,by simp,by simp,by simp,by simp,by omega,by omega,xs,.refl,Srt.short (by omega),h,Chg.refl _,rfl⟩
 rintro c t H' ⟨i,s,rfl,hs,h0,h1,h2,h7,h8,hai,hib,ys,sw,sr,o,c,l⟩ ih
 have len:=sw.len
 simp [h0,h1,h2,h7,h8]
 refine Qc ?_ ?_<;>intro g0
 ·simp [h0,h1,h2,h7,h8]
  refine Sx (F:=?F) (k1:=?k1) (k2:=?k2) (Q:=?Q) (fun c t H1=>∃i:Nat,c=.bool (decide ((i:Int)=b))∧H'=H1∧(t 0=v∧t 3=cf)∧t 1=.int .i64 a∧t 2=.int .i64 b∧t 9=.int .i64 i∧t 10=.int .i64 s∧a<i∧i≤b∧Srt ys a i) ?main ?rest
  case main=>
   intro rest
   refine Qk (fun c t H1=>∃i:Nat,c=b-i∧H'=H1∧(t 0=v∧t 3=cf)∧t 1=.int .i64 a∧t 2=.int .i64 b∧t 9=.int .i64 i∧t 10=.int .i64 s∧a<i∧i≤b∧Srt ys a i) ?_ (n:=b-i)
    ⟨i,rfl,rfl,by simp [h0],by simp [h1],by simp [h2],by simp [h7],by simp [h8],hai,hib,sr⟩
   rintro c t _ ⟨i,rfl,rfl,h0,h1,h2,h7,h8,hai,hib,sr⟩ ih2
   have e3:∀[Inhabited Unit],IntKind.i64.wrap ((i:Int)-1)=((i-1:Nat):Int):=by intro _;rw [w64 (by omega) (by omega)];omega
   simp [h0,h1,h2,h7,h8]
   rw [Qf (h:=by kernel_rfl)]
   simp [h0,h1,h2,h7,h8]
   refine Qu ?_ ?_<;>intro g1
   ·have p1:i<ys.length:=by omega
    have p2:i-1<ys.length:=by omega
    simp [h0,h1,h2,h7,h8,g1,e3,Qh o p1,Qh o p2,Qi o p1,Qi o p2,dlt hK o]
    refine Qc ?_ ?_<;>intro g2
    ·simp [h0,h1,h2,h7,h8]
     refine rest _ _ _ ?_
     exact ⟨i,rfl,rfl,by simp [h0],by simp [h1],by simp [h2],by simp [h7],by simp [h8],hai,hib,sr⟩
    ·simp [h0,h1,h2,h7,h8]
     refine ih2 (b-(i+1)) _ _ ⟨i+1,rfl,rfl,by simp [h0],by simp [h1],by simp [h2],?_,by simp [h8],by omega,by omega,sr.snoc (fun _=>by omega)⟩ (by omega)
     simp;rw [w64 (by omega) (by omega)]
   ·simp [h0,h1,h2,h7,h8,g1]
    refine rest _ _ _ ?_
    exact ⟨i,rfl,rfl,by simp [h0],by simp [h1],by simp [h2],by simp [h7],by simp [h8],hai,hib,sr⟩
  case rest=>
   rintro _ t _ ⟨i,rfl,rfl,h0,h1,h2,h7,h8,hai,hib,sr⟩
   obtain ⟨n,hn⟩:∃n,n=b-a:=⟨_,rfl⟩
   obtain ⟨m,hm⟩:∃m,m=i-a:=⟨_,rfl⟩
   obtain ⟨r,hr⟩:∃r,r=b-i:=⟨_,rfl⟩
   have e4:∀[Inhabited Unit],IntKind.i64.wrap ((b:Int)-a)=(n:Int):=by intro _;rw [w64 (by omega) (by omega)];omega
   have e5:∀[Inhabited Unit],IntKind.i64.wrap ((i:Int)-a)=(m:Int):=by intro _;rw [w64 (by omega) (by omega)];omega
   have e6:∀[Inhabited Unit],IntKind.i64.wrap ((b:Int)-i)=(r:Int):=by intro _;rw [w64 (by omega) (by omega)];omega
   have e3:∀[Inhabited Unit],IntKind.i64.wrap ((i:Int)-1)=((i-1:Nat):Int):=by intro _;rw [w64 (by omega) (by omega)];omega
   refine Qc ?_ ?_<;>intro g1
   ·simp
    have hib:i=b:=by omega
    exact ⟨ys,sw,hib▸sr,o,c,l⟩
   ·simp [h0,h1,h2,h7,h8,e4]
    refine Qc ?_ ?_<;>intro g2
    ·simp
     exact ⟨ys,sw,trivial,o,c,l⟩
    ·have p1:i<ys.length:=by omega
     have p2:i-1<ys.length:=by omega
     simp [h0,h1,h2,h7,h8]
     rw [Qf (h:=by kernel_rfl)]
     obtain ⟨H3,H4,s3,ix3,s4,o4,c4,l4⟩:=Q6 o p1 p2 hf
     simp [h0,h1,h2,h7,h8,e3,e5,Qh o p1,Qh o p2,Qi o p1,Qi o p2,s3,ix3 _ p1,ix3 _ p2,s4]
     have sw4:=sw.step i (i-1) (by omega) (by omega)
     have sr4:Srt (swp ys i (i-1)) a (i-1):=Srt.frame (fun p q q1 q2 q3=>sr p q q1 q2 (by omega)) (fun k k1 k2=>by rw [Xc p1 p2,if_neg (by omega),if_neg (by omega)])
     have c5:=c.trans c4
     have l5:H4.length=H.length:=by omega
     generalize swp ys i (i-1)=zs at *
     refine Sx (F:=?F2) (k1:=?k12) (k2:=?k22) (Q:=?Q2) (fun c t H1=>c=.bool (decide (2≤(r:Int)))∧(t 0=v∧t 3=cf)∧t 1=.int .i64 a∧t 2=.int .i64 b∧t 9=.int .i64 i∧t 10=.int .i64 s∧SwdE H v xs e a b (fun ys=>Srt ys a i) H1) ?main2 ?rest2
     case main2=>
      intro rest2
      refine Qc ?_ ?_<;>intro g3
      ·simp [h0,h1,h2,h7,h8,e3]
       refine Qk (fun c t H1=>∃j:Nat,c=j∧(t 0=v∧t 3=cf)∧t 1=.int .i64 a∧t 2=.int .i64 b∧t 9=.int .i64 i∧t 10=.int .i64 s∧t 11=.int .i64 j∧a≤j∧j≤i-1∧SwdE H v xs e a b (fun ys=>Ins ys a (i-1) j) H1) ?_ (n:=i-1)
        ⟨i-1,rfl,by simp [h0],by simp [h1],by simp [h2],by simp [h7],by simp [h8],by simp,by omega,by omega,zs,sw4,Ins.start sr4,o4,c5,l5⟩
       rintro j t H1 ⟨_,rfl,h0,h1,h2,h7,h8,h9,haj,hji,ws,sw,ins,o,c,l⟩ ih2
       have len:=sw.len
       have e7:∀[Inhabited Unit],IntKind.i64.wrap ((j:Int)-1)=((j-1:Nat):Int)∨j=0:=by
        intro _
        by_cases hj:j=0
        ·exact .inr hj
        ·left;rw [w64 (by omega) (by omega)];omega
       simp [h0,h1,h2,h7,h8,h9]
       refine Qc ?_ ?_<;>intro g4
       ·have e7:∀[Inhabited Unit],IntKind.i64.wrap ((j:Int)-1)=((j-1:Nat):Int):=by intro _;rw [w64 (by omega) (by omega)];omega
        have p3:j<ws.length:=by omega
        have p4:j-1<ws.length:=by omega
        simp [h0,h1,h2,h7,h8,h9]
        rw [Qf (h:=by kernel_rfl)]
        simp [h0,h1,h2,h7,h8,h9,e7,Qh o p3,Qh o p4,Qi o p3,Qi o p4,dlt hK o]
        have low:j=a→G ws (j-1)≤G ws j:=by
         intro hja
         have:=sw.all hb (p:=fun y=>G xs (a-1)≤y) (fun k k1 k2=>hlo (by omega) k k1 k2) j haj (by omega)
         rw [hja] at this ⊢
         rw [sw.out hb (k:=a-1) (by omega)];exact this
        refine Qc ?_ ?_<;>intro g5
        ·have haj2:a<j:=by
          rcases Nat.lt_or_ge a j with q|q
          ·exact q
          ·have:=low (by omega);omega
         simp [h0,h1,h2,h7,h8,h9]
         rw [Qf (h:=by kernel_rfl)]
         obtain ⟨H5,H6,s5,ix5,s6,o6,c6,l6⟩:=Q6 o p3 p4 hf
         simp [h0,h1,h2,h7,h8,h9,e7,Qh o p3,Qh o p4,Qi o p3,Qi o p4,s5,ix5 _ p3,ix5 _ p4,s6]
         refine ih2 (j-1) _ _ ⟨j-1,rfl,by simp [h0],by simp [h1],by simp [h2],by simp [h7],by simp [h8],by simp [e7],by omega,by omega,_,sw.step j (j-1) (by omega) (by omega),ins.step (by omega) haj2 hji g5,o6,c.trans c6,by omega⟩ (by omega)
        ·have sr6:Srt ws a (i-1+1):=ins.done (by
          rcases Nat.lt_or_ge a j with q|q
          ·exact .inr ⟨q,by omega⟩
          ·exact .inl (by omega))
         rw [show i-1+1=i by omega] at sr6
         simp [h0,h1,h2,h7,h8,h9,e6]
         refine rest2 _ _ _ ?_
         exact ⟨rfl,by simp [h0],by simp [h1],by simp [h2],by simp [h7],by simp [h8],ws,sw,sr6,o,c,l⟩
       ·have sr6:Srt ws a (i-1+1):=ins.done (.inl (by omega))
        rw [show i-1+1=i by omega] at sr6
        simp [h0,h1,h2,h7,h8,h9,e6]
        refine rest2 _ _ _ ?_
        exact ⟨rfl,by simp [h0],by simp [h1],by simp [h2],by simp [h7],by simp [h8],ws,sw,sr6,o,c,l⟩
      ·simp [h0,h1,h2,h7,h8,e6]
       refine rest2 _ _ _ ?_
       exact ⟨rfl,by simp [h0],by simp [h1],by simp [h2],by simp [h7],by simp [h8],zs,sw4,Srt.short (by omega),o4,c5,l5⟩
     case rest2=>
      clear sw4 sr4 o4 c5 l5 s3 s4 ix3 c4 p1 p2
      rintro _ t H1 ⟨rfl,h0,h1,h2,h7,h8,ws,sw,sr,o,c,l⟩
      have fin:∀(t:Env) (H1:Heap),(t 0=v∧t 3=cf)→t 1=.int .i64 a→t 2=.int .i64 b→t 9=.int .i64 i→t 10=.int .i64 (IntKind.i64.wrap ((s:Int)+1))→SwdE H v xs e a b (fun ys=>Srt ys a i) H1→
       ∃i s':Nat,5-(s+1)=5-s'∧s'≤5∧(t 0=v∧t 3=cf)∧t 1=.int .i64 a∧t 2=.int .i64 b∧t 9=.int .i64 i∧t 10=.int .i64 s'∧a<i∧i≤b∧SwdE H v xs e a b (fun ys=>Srt ys a i) H1:=
       fun t H1 g0 g1 g2 g7 g8 gs=>⟨i,s+1,rfl,by omega,g0,g1,g2,g7,by rw [g8,w64 (by omega) (by omega)];simp,hai,hib,gs⟩
      refine Qc ?_ ?_<;>intro g3
      ·have e8:∀[Inhabited Unit],IntKind.i64.wrap ((i:Int)+1)=((i+1:Nat):Int):=by intro _;rw [w64 (by omega) (by omega)];omega
       obtain ⟨j0,hj0⟩:∃j0,j0=i+1:=⟨_,rfl⟩
       rw [← hj0] at e8
       simp [h0,h1,h2,h7,h8,e8]
       refine Qk (fun c t H1=>∃j:Nat,c=b-j∧(t 0=v∧t 3=cf)∧t 1=.int .i64 a∧t 2=.int .i64 b∧t 9=.int .i64 i∧t 10=.int .i64 s∧t 12=.int .i64 j∧i<j∧j≤b∧SwdE H v xs e a b (fun ys=>Srt ys a i) H1) ?_ (n:=b-j0)
        ⟨j0,rfl,by simp [h0],by simp [h1],by simp [h2],by simp [h7],by simp [h8],by simp,by omega,by omega,ws,sw,sr,o,c,l⟩
       rintro _ t H1 ⟨j,rfl,h0,h1,h2,h7,h8,h10,hij,hjb,ws,sw,sr,o,c,l⟩ ih2
       have len:=sw.len
       simp [h0,h1,h2,h7,h8,h10]
       refine Qc ?_ ?_<;>intro g4
       ·have e7:∀[Inhabited Unit],IntKind.i64.wrap ((j:Int)-1)=((j-1:Nat):Int):=by intro _;rw [w64 (by omega) (by omega)];omega
        have p3:j<ws.length:=by omega
        have p4:j-1<ws.length:=by omega
        simp [h0,h1,h2,h7,h8,h10]
        rw [Qf (h:=by kernel_rfl)]
        simp [h0,h1,h2,h7,h8,h10,e7,Qh o p3,Qh o p4,Qi o p3,Qi o p4,dlt hK o]
        refine Qc ?_ ?_<;>intro g5
        ·simp [h0,h1,h2,h7,h8,h10]
         rw [Qf (h:=by kernel_rfl)]
         obtain ⟨H5,H6,s5,ix5,s6,o6,c6,l6⟩:=Q6 o p3 p4 hf
         simp [h0,h1,h2,h7,h8,h10,e7,Qh o p3,Qh o p4,Qi o p3,Qi o p4,s5,ix5 _ p3,ix5 _ p4,s6]
         refine ih2 (b-(j+1)) _ _ ⟨j+1,rfl,by simp [h0],by simp [h1],by simp [h2],by simp [h7],by simp [h8],?_,by omega,by omega,_,sw.step j (j-1) (by omega) (by omega),Srt.frame sr (fun k k1 k2=>by rw [Xc p3 p4,if_neg (by omega),if_neg (by omega)]),o6,c.trans c6,by omega⟩ (by omega)
         simp;rw [w64 (by omega) (by omega)]
        ·simp [h0,h1,h2,h7,h8,h10]
         refine ih (5-(s+1)) _ _ (fin _ _ ?_ ?_ ?_ ?_ ?_ ⟨ws,sw,sr,o,c,l⟩) (by omega)<;>simp [h0,h1,h2,h7,h8]
       ·simp [h0,h1,h2,h7,h8,h10]
        refine ih (5-(s+1)) _ _ (fin _ _ ?_ ?_ ?_ ?_ ?_ ⟨ws,sw,sr,o,c,l⟩) (by omega)<;>simp [h0,h1,h2,h7,h8]
      ·simp [h0,h1,h2,h7,h8]
       refine ih (5-(s+1)) _ _ (fin _ _ ?_ ?_ ?_ ?_ ?_ ⟨ws,sw,sr,o,c,l⟩) (by omega)<;>simp [h0,h1,h2,h7,h8]
 ·simp
  exact ⟨ys,sw,trivial,o,c,l⟩
include hK
theorem G3:∀(n:Nat) (H:Heap) (v:Value) (xs:List Int) (e:TypeId) (A B:Nat) (L:Int) (h:OwE e H v xs) (hn:B-A≤n) (hab:A≤B) (hb:B≤xs.length) (hl:xs.length≤1073741824)
 (hlo:0<A→∀k,A≤k→k<B→G xs (A-1)≤G xs k) (hf:∀i∈ids v,frz≤i) (hF:frz≤H.length),
 wp (vcall C frz 55 [v,.int .i64 A,.int .i64 B,.int .i64 L,cf] H) (fun _ H'=>∃ys,Sw A B xs ys∧Srt ys A B∧OwE e H' v ys∧Chg H H' (ids v)):=by
 intro n
 induction n using Nat.strongRecOn with
 | _ n IH=>
 intro H v xs e A B L h hn hab hb hl hlo hf hF
 rw [Qa (fn:=Try.f55) Try.func55 rfl (by kernel_rfl) rfl]
 simp
 refine Qk (fun c t H'=>∃(a b:Nat) (L:Int) (w1 w2:Bool),c=b-a∧(t 0=v∧t 4=cf)∧t 1=.int .i64 a∧t 2=.int .i64 b∧t 3=.int .i64 L∧t 10=.bool w1∧t 11=.bool w2∧
  ∃ys,Sw A B xs ys∧Pq ys A B a b∧OwE e H' v ys∧Chg H H' (ids v)) ?_ (n:=B-A)
  ⟨A,B,L,true,true,rfl,by simp,by simp,by simp,by simp,by simp,by simp,xs,.refl,⟨by omega,Srt.short (by omega),Srt.short (by omega),fun p q h1 h2 h3 h4=>by omega,fun p q h1 h2 h3 h4=>by omega,hlo⟩,h,Chg.refl _⟩
 rintro c t H' ⟨a,b,L,w1,w2,rfl,h0,h1,h2,h3,h8,h9,ys,sw,pq,o,c⟩ ih
 have len:=sw.len
 obtain ⟨l1,l2,l3⟩:=pq.le
 obtain ⟨n1,hn1⟩:∃n1,n1=b-a:=⟨_,rfl⟩
 have e1:∀[Inhabited Unit],IntKind.i64.wrap ((b:Int)-a)=(n1:Int):=by intro _;rw [w64 (by omega) (by omega)];omega
 simp [h0,h1,h2,h3,h8,h9,e1]
 refine Qc ?_ ?_<;>intro g1
 ·simp [h0,h1,h2,h3,h8,h9]
  refine Qe (Nj hK v ys e a b o l2 (by omega) (by omega) hf) ?_
  rintro _ H1 ⟨zs,sw1,sr1,o1,c1,k1⟩
  simp
  exact ⟨zs,sw.trans (sw1.mono l1 l3),(pq.sw sw1 (by omega)).done sr1,o1,c.trans c1⟩
 ·simp [h0,h1,h2,h3,h8,h9]
  refine Qc ?_ ?_<;>intro g2
  ·simp [h0,h1,h2,h3,h8,h9]
   refine Qe (Pj hK v ys e a b o (by omega) (by omega) (by omega) hf) ?_
   rintro _ H1 ⟨zs,sw1,sr1,o1,c1,k1⟩
   simp
   exact ⟨zs,sw.trans (sw1.mono l1 l3),(pq.sw sw1 (by omega)).done sr1,o1,c.trans c1⟩
  ·simp [h0,h1,h2,h3,h8,h9]
   refine Ug (F:=?F1) (k:=?k1) (d:=?d1) (Q:=?Q1) (fun r t=>∃(L:Int) (zs:List Int) (H1:Heap),r=vcall C frz 69 [v,.int .i64 a,.int .i64 b,cf] H1∧(t 0=v∧t 4=cf)∧t 1=.int .i64 a∧t 2=.int .i64 b∧t 3=.int .i64 L∧t 12=.int .i64 n1∧t 10=.bool w1∧t 11=.bool w2∧
    Sw A B xs zs∧Pq zs A B a b∧OwE e H1 v zs∧Chg H H1 (ids v)) ?main1 ?rest1
   case main1=>
    intro rest
    have h10:=True.intro
    refine Tu ?_ ?_<;>intro g3
    ·simp [h0,h1,h2,h3,h8,h9]
     refine rest _ _ ?_
     exact ⟨L,ys,H',rfl,by simp [h0],by simp [h1],by simp [h2],by simp [h3],by simp [h10],by simp [h8],by simp [h9],sw,pq,o,c⟩
    ·simp [h0,h1,h2,h3,h8,h9]
     refine Qe (Pm hK v ys e a b o l2 (by omega) (by omega) hf (by have:=c.1;omega)) ?_
     rintro _ H1 ⟨zs,sw1,o1,c1⟩
     simp [h0,h1,h2,h3,h8,h9]
     refine rest _ _ ?_
     exact ⟨IntKind.i64.wrap (L-1),zs,H1,rfl,by simp [h0],by simp [h1],by simp [h2],by simp,by simp,by simp [h8],by simp [h9],sw.trans (sw1.mono l1 l3),pq.sw sw1 (by omega),o1,c.trans c1⟩
   case rest1=>
    clear h0 h1 h2 h3 h8 h9 sw pq o c len
    rintro _ t ⟨L,ys,H',rfl,h0,h1,h2,h3,h10,h8,h9,sw,pq,o,c⟩
    have len:=sw.len
    refine Qe (Vr hK v ys e a b o (by omega) (by omega) (by omega) (by have:=c.1;omega)) ?_
    rintro _ H1 ⟨⟨p,k,rfl,hp1,hp2⟩,c1⟩
    have o1:=o.chg c1 (by simp)
    have cH1:=c.trans (c1.mono (by simp))
    simp [h0,h1,h2,h3,h8,h9]
    refine Mo (F:=?F2) (k:=?k2) (d:=?d2) (want:=?w2) (op:=?op2) (Q:=?Q2) (fun c t H1=>c=.bool w1∧∃(p:Nat) (k:Int) (zs:List Int),(a≤p∧p<b)∧(t 0=v∧t 4=cf)∧t 1=.int .i64 a∧t 2=.int .i64 b∧t 3=.int .i64 L∧t 12=.int .i64 n1∧t 10=.bool w1∧t 11=.bool w2∧t 13=.int .i64 p∧t 14=.int .i64 k∧t 69=.bool w1∧
     Sw A B xs zs∧Pq zs A B a b∧OwE e H1 v zs∧Chg H H1 (ids v)) ?main2 ?rest2
    case main2=>
     intro rest
     refine Qc ?_ ?_<;>intro g3
     ·simp [h0,h1,h2,h3,h8,h9]
      refine Qe (Pp hK v ys e a b o1 (by omega) (by omega) (by omega) hf) ?_
      rintro _ H2 ⟨zs,sw1,_,o2,c2,k2⟩
      obtain ⟨b1,hb1⟩:∃b1,b1=b-1:=⟨_,rfl⟩
      obtain ⟨p1,hp3⟩:∃p1,p1=p-a:=⟨_,rfl⟩
      obtain ⟨p2,hp4⟩:∃p2,p2=b1-p1:=⟨_,rfl⟩
      have e2:∀[Inhabited Unit],IntKind.i64.wrap ((b:Int)-1)=(b1:Int):=by intro _;rw [w64 (by omega) (by omega)];omega
      have e3:∀[Inhabited Unit],IntKind.i64.wrap ((p:Int)-a)=(p1:Int):=by intro _;rw [w64 (by omega) (by omega)];omega
      have e4:∀[Inhabited Unit],IntKind.i64.wrap ((b1:Int)-p1)=(p2:Int):=by intro _;rw [w64 (by omega) (by omega)];omega
      simp [h0,h1,h2,h3,h8,h9,e2,e3,e4]
      refine rest _ _ _ ?_
      exact ⟨rfl,p2,1,zs,by omega,by simp [h0],by simp [h1],by simp [h2],by simp [h3],by simp [h10],by simp [h8],by simp [h9],by simp,by simp,by simp,sw.trans (sw1.mono l1 l3),pq.sw sw1 (by omega),o2,cH1.trans c2⟩
     ·simp [h0,h1,h2,h3,h8,h9]
      refine rest _ _ _ ?_
      exact ⟨rfl,p,k,ys,by omega,by simp [h0],by simp [h1],by simp [h2],by simp [h3],by simp [h10],by simp [h8],by simp [h9],by simp,by simp,by simp,sw,pq,o1,cH1⟩
    case rest2=>
     clear h0 h1 h2 h3 h8 h9 sw pq o c len o1 c1 cH1 hp1 hp2
     rintro _ t H1 ⟨rfl,p,k,ys,hp,h0,h1,h2,h3,h10,h8,h9,h11,h12,h62,sw,pq,o,c⟩
     have len:=sw.len
     refine Xs (F:=?F3) (k:=?k3) (Q:=?Q3) (fun t H1=>∃(zs:List Int),(t 0=v∧t 4=cf)∧t 1=.int .i64 a∧t 2=.int .i64 b∧t 3=.int .i64 L∧t 12=.int .i64 n1∧t 10=.bool w1∧t 11=.bool w2∧t 13=.int .i64 p∧
      Sw A B xs zs∧Pq zs A B a b∧OwE e H1 v zs∧Chg H H1 (ids v)) ?main3 ?rest3
     case main3=>
      intro rest
      refine Sr ?_ ?_<;>intro g3
      ·simp [h0,h1,h2,h3,h8,h9,h11,h12,h62,g3]
       refine Sr ?_ ?_<;>intro g4
       ·simp [h0,h1,h2,h3,h8,h9,h11,h12,h62,g3,g4]
        refine Qc ?_ ?_<;>intro g5
        ·simp [h0,h1,h2,h3,h8,h9,h11,h12]
         refine Qe (Ox hK v ys e a b o (by omega) (by omega) (by omega) (fun h0 k k1 k2=>pq.below h0 k k1 (by omega)) hf) ?_
         rintro _ H2 ⟨d,rfl,zs,sw1,sr1,o2,c2,k2⟩
         simp
         refine Tu ?_ ?_<;>intro g6
         ·simp
          exact ⟨zs,sw.trans (sw1.mono l1 l3),(pq.sw sw1 (by omega)).done (sr1 g6),o2,c.trans c2⟩
         ·simp
          refine rest _ _ ?_
          exact ⟨zs,by simp [h0],by simp [h1],by simp [h2],by simp [h3],by simp [h10],by simp [h8],by simp [h9],by simp [h11],sw.trans (sw1.mono l1 l3),pq.sw sw1 (by omega),o2,c.trans c2⟩
        ·simp
         refine rest _ _ ?_
         exact ⟨ys,by simp [h0],by simp [h1],by simp [h2],by simp [h3],by simp [h10],by simp [h8],by simp [h9],by simp [h11],sw,pq,o,c⟩
       ·simp [h0,h1,h2,h3,h8,h9,h11,h12,h62,g3,g4]
        refine rest _ _ ?_
        exact ⟨ys,by simp [h0],by simp [h1],by simp [h2],by simp [h3],by simp [h10],by simp [h8,g3],by simp [h9,g4],by simp [h11],sw,pq,o,c⟩
      ·simp [h0,h1,h2,h3,h8,h9,h11,h12,h62,g3]
       refine rest _ _ ?_
       exact ⟨ys,by simp [h0],by simp [h1],by simp [h2],by simp [h3],by simp [h10],by simp [h8,g3],by simp [h9],by simp [h11],sw,pq,o,c⟩
     case rest3=>
      clear h0 h1 h2 h3 h8 h9 h11 h12 sw pq o c len
      rintro t H1 ⟨ys,h0,h1,h2,h3,h10,h8,h9,h11,sw,pq,o,c⟩
      have len:=sw.len
      have q1:p<ys.length:=by omega
      rw [Qf (h:=by kernel_rfl)]
      simp [h0,h1,h2,h3,h8,h9,h11]
      refine Ug (F:=?F4) (k:=?k4) (d:=?d4) (Q:=?Q4) (fun r t=>r=vcall C frz 73 [v,.int .i64 a,.int .i64 b,.int .i64 p,cf] H1∧(t 0=v∧t 4=cf)∧t 1=.int .i64 a∧t 2=.int .i64 b∧t 3=.int .i64 L∧t 12=.int .i64 n1) ?main4 ?rest4
      case main4=>
       intro rest
       refine Qu ?_ ?_<;>intro g3
       ·have e5:∀[Inhabited Unit],IntKind.i64.wrap ((a:Int)-1)=((a-1:Nat):Int):=by intro _;rw [w64 (by omega) (by omega)];omega
        have q2:a-1<ys.length:=by omega
        simp [h0,h1,h2,h3,h8,h9,h11,g3,e5,Qh o q1,Qh o q2,Qi o q1,Qi o q2,dlt hK o]
        refine Qc ?_ ?_<;>intro g4
        ·simp [h0,h1,h2,h3,h8,h9,h11]
         refine rest _ _ ?_
         exact ⟨rfl,by simp [h0],by simp [h1],by simp [h2],by simp [h3],by simp [h10]⟩
        ·simp [h0,h1,h2,h3,h8,h9,h11]
         refine Qe (N0 hK v ys e a b p o hp (by omega) (by omega) hf) ?_
         rintro _ H2 ⟨m,rfl,m1,m2,zs,sw1,⟨f1,f2⟩,o2,c2,k2⟩
         simp [h0,h1,h2,h3,h8,h9,h11]
         have low:=(pq.sw sw1 (by omega)).below g3
         have out:=sw1.out (by omega) (k:=a-1) (by omega)
         refine ih (b-m) _ _ ⟨m,b,L,w1,w2,rfl,by simp [h0],by simp,by simp [h2],by simp [h3],by simp [h8],by simp [h9],zs,sw.trans (sw1.mono l1 l3),(pq.sw sw1 (by omega)).eq ⟨m1,m2⟩ (fun k k1 k2=>?_) f1 f2,o2,c.trans c2⟩ (by omega)
         have:=low k k1 (by omega);omega
       ·simp [h0,h1,h2,h3,h8,h9,h11,g3]
        refine rest _ _ ?_
        exact ⟨rfl,by simp [h0],by simp [h1],by simp [h2],by simp [h3],by simp [h10]⟩
      case rest4=>
       rintro _ t ⟨rfl,h0,h1,h2,h3,h10⟩
       refine Qe (Jl hK v ys e a b p o hp (by omega) (by omega) hf) ?_
       rintro _ H2 ⟨m,d,rfl,m1,m2,zs,sw1,⟨f1,f2⟩,o2,c2,k2⟩
       have pq2:=pq.sw sw1 (by omega)
       have len2:=sw1.len
       obtain ⟨r1,hr1⟩:∃r1,r1=m-a:=⟨_,rfl⟩
       obtain ⟨r2,hr2⟩:∃r2,r2=b-m:=⟨_,rfl⟩
       obtain ⟨mm,hmm⟩:∃mm,mm=m+1:=⟨_,rfl⟩
       have e6:∀[Inhabited Unit],IntKind.i64.wrap ((m:Int)-a)=(r1:Int):=by intro _;rw [w64 (by omega) (by omega)];omega
       have e7:∀[Inhabited Unit],IntKind.i64.wrap ((b:Int)-m)=(r2:Int):=by intro _;rw [w64 (by omega) (by omega)];omega
       have e8:∀[Inhabited Unit],IntKind.i64.wrap ((m:Int)+1)=(mm:Int):=by intro _;rw [w64 (by omega) (by omega)];omega
       have f1':∀k,a≤k→k<m→G zs k≤G zs m:=fun k k1 k2=>Int.le_of_lt (f1 k k1 k2)
       have cc:=c.trans c2
       have q8:∀[Inhabited Unit],IntKind.i64.wrap ((n1:Int)/8)=(n1/8:Nat):=by intro _;rw [w64 (by omega) (by omega)];omega
       obtain ⟨n8,hn8⟩:∃n8,n8=n1/8:=⟨_,rfl⟩
       rw [← hn8] at q8
       simp [h0,h1,h2,h3,h10,e6,e7,e8,q8]
       refine Qc ?_ ?_<;>intro g7
       ·simp [h0,h1,h2,h3,h10]
        refine Qe (IH (m-a) (by omega) H2 v zs e a m L o2 (Nat.le_refl _) (by omega) (by omega) (by omega) (fun q0 k k1 k2=>pq2.below q0 k k1 (by omega)) hf (by have:=cc.1;omega)) ?_
        rintro _ H3 ⟨ws,sw3,sr3,o3,c3⟩
        simp [h0,h1,h2,h3,h10,e8]
        have hbz:m≤zs.length:=by omega
        have wm:G ws m=G zs m:=sw3.out hbz (.inr (Nat.le_refl _))
        refine ih (b-mm) _ _ ⟨mm,b,L,decide (n8≤r1),d,rfl,by simp [h0],by simp,by simp [h2],by simp [h3],by simp,by simp,ws,(sw.trans (sw1.mono l1 l3)).trans (sw3.mono l1 (by omega)),?_,o3,cc.trans c3⟩ (by omega)
        rw [hmm]
        refine (pq2.sw (sw3.mono (Nat.le_refl _) (by omega)) (by omega)).goRight ⟨m1,m2⟩ sr3 ?_ (fun k k1 k2=>?_)
        ·rw [wm];exact sw3.all hbz (p:=fun y=>y≤G zs m) f1'
        ·rw [wm,sw3.out hbz (.inr (by omega))];exact f2 k k1 k2
       ·simp [h0,h1,h2,h3,h10,e8]
        refine Qe (IH (b-mm) (by omega) H2 v zs e mm b L o2 (Nat.le_refl _) (by omega) (by omega) (by omega) (fun q0 k k1 k2=>by rw [show mm-1=m by omega];exact f2 k (by omega) k2) hf (by have:=cc.1;omega)) ?_
        rintro _ H3 ⟨ws,sw3,sr3,o3,c3⟩
        simp [h0,h1,h2,h3,h10,e8]
        have hbz:b≤zs.length:=by omega
        have wm:G ws m=G zs m:=sw3.out hbz (.inl (by omega))
        refine ih (m-a) _ _ ⟨a,m,L,decide (n8≤r2),d,rfl,by simp [h0],by simp [h1],by simp,by simp [h3],by simp,by simp,ws,(sw.trans (sw1.mono l1 l3)).trans (sw3.mono (by omega) l3),?_,o3,cc.trans c3⟩ (by omega)
        refine (pq2.sw (sw3.mono (by omega) (Nat.le_refl _)) (by omega)).goLeft ⟨m1,m2⟩ (hmm▸sr3) (fun k k1 k2=>?_) (fun k k1 k2=>?_)
        ·rw [wm,sw3.out hbz (.inl (by omega))];exact f1' k k1 k2
        ·rw [wm];exact sw3.all hbz (p:=fun y=>G zs m≤y) (fun k k1 k2=>f2 k (by omega) k2) k (by omega) k2
theorem Lo (v:Value) (xs:List Int) (e:TypeId) (h:OwE e H v xs) (hl:xs.length≤1073741824) (hf:∀i∈ids v,frz≤i) (hF:frz≤H.length) :
 wp (vcall C frz 40 [v,cf] H) (fun _ H'=>∃ys:List Int,ys.Pairwise (·≤·)∧ys.Perm xs∧OwE e H' v ys∧Chg H H' (ids v)):=by
 rw [Qa (fn:=Try.f40) Try.func40 rfl (by kernel_rfl) rfl]
 have e1:∀[Inhabited Unit],IntKind.u64.wrap (xs.length:Int)=(xs.length:Int):=by intro _;exact w64u (by omega) (by omega)
 simp [h.rd.len,e1]
 refine Qe (Ka xs.length (by omega)) ?_
 rintro _ H0 ⟨hH,n,rfl,_⟩
 rw [hH]
 simp
 have:=G3 (frz:=frz) hK xs.length H v xs e 0 xs.length n h (by omega) (by omega) (Nat.le_refl _) hl (fun h=>by omega) hf hF
 refine Qe (by simpa using this) ?_
 rintro _ H1 ⟨ys,sw,sr,o,c⟩
 simp
 rw [← sw.len] at sr
 exact ⟨ys,sr.pairwise,sw.perm (Nat.le_refl _),o,c⟩
end Go.Proofs.Ytaldglgobgjeaaa.V
set_option linter.all false
namespace Go.Proofs.Ytaldglgobgjeaaa.V
open Go Go.VM Go.Proofs
set_option maxRecDepth 10000
variable {frz:Nat} {H:Heap} {v:Value} {xs ys:List Int} {e:TypeId}
def dk (xs:List Int):Nat→List Int
 | 0=>[]
 | j+1=>if 0<j∧G xs (j-1)=G xs j then dk xs j else dk xs j++[G xs j]
def compact (xs:List Int):List Int:=dk xs xs.length
theorem T0 {xs:List Int} {j:Nat} (h:j<xs.length):xs.take (j+1)=xs.take j++[G xs j]:=by rw [List.take_succ_eq_append_getElem h,Qo h]
theorem Vy {xs:List Int} (hs:xs.Pairwise (·≤·)):∀j,j≤xs.length→(dk xs j).Pairwise (· < ·)∧(∀x,x∈dk xs j↔x∈xs.take j)
 | 0,_=>by simp [dk]
 | j+1,hj=>by
  obtain ⟨h1,h2⟩:=Vy hs j (by omega)
  have hjl:j<xs.length:=by omega
  rw [T0 hjl]
  have mem_le:∀x∈xs.take j,∃i,i<j∧x=G xs i∧(i<j-1→x≤G xs (j-1))∧x≤G xs j:=by
   intro x hx
   obtain ⟨i,hi,rfl⟩:=List.mem_iff_getElem.1 hx
   simp at hi
   rw [List.getElem_take]
   refine ⟨i,by omega,(Qo (by omega)).symm,fun h=>?_,?_⟩
   ·rw [Qo (by omega)];exact List.pairwise_iff_getElem.1 hs i (j-1) (by omega) (by omega) (by omega)
   ·rw [Qo hjl];exact List.pairwise_iff_getElem.1 hs i j (by omega) (by omega) (by omega)
  unfold dk
  split
  ·rename_i hc
   refine ⟨h1,fun x=>?_⟩
   rw [h2,List.mem_append,List.mem_singleton]
   refine ⟨.inl,fun hh=>hh.elim id fun hx=>?_⟩
   rw [hx,← hc.2,Qo (by omega),← List.getElem_take (j:=j) (h:=by simp;omega)]
   exact List.getElem_mem _
  ·rename_i hc
   refine ⟨?_,fun x=>by rw [List.mem_append,List.mem_append,h2]⟩
   rw [List.pairwise_append]
   refine ⟨h1,by simp,fun x hx y hy=>?_⟩
   rw [List.mem_singleton.1 hy]
   obtain ⟨i,hi,he,hl,hle⟩:=mem_le x ((h2 x).1 hx)
   by_cases hij:i=j-1
   ·have h0:0<j:=by omega
    have:G xs (j-1)≠G xs j:=fun hh=>hc ⟨h0,hh⟩
    rw [hij] at he
    omega
   ·have h3:=hl (by omega)
    have h0:0<j:=by omega
    have:G xs (j-1)≠G xs j:=fun hh=>hc ⟨h0,hh⟩
    have h4:G xs (j-1)≤G xs j:=by
     rw [Qo (by omega),Qo hjl];exact List.pairwise_iff_getElem.1 hs (j-1) j (by omega) (by omega) (by omega)
    omega
theorem U6 {xs:List Int} (hs:xs.Pairwise (·≤·)):(compact xs).Pairwise (· < ·)∧∀x,x∈compact xs↔x∈xs:=by
 obtain ⟨h1,h2⟩:=Vy hs xs.length (Nat.le_refl _)
 exact ⟨h1,fun x=>by rw [compact,h2,List.take_length]⟩
theorem Bd.take (h:Bd xs) (k:Nat):Bd (xs.take k):=fun x hx=>h x (List.mem_of_mem_take hx)
theorem Bd.drop (h:Bd xs) (k:Nat):Bd (xs.drop k):=fun x hx=>h x (List.mem_of_mem_drop hx)
theorem Bd.set (h:Bd xs) (k:Nat) {x:Int} (hx:KB x):Bd (xs.set k x):=fun y hy=>by
 rcases List.mem_or_eq_of_mem_set hy with hy|rfl
 ·exact h y hy
 ·exact hx
theorem Bd.app (h:Bd xs) (h':Bd ys):Bd (xs++ys):=fun y hy=>by
 rcases List.mem_append.1 hy with hy|hy
 ·exact h y hy
 ·exact h' y hy
theorem KB0:KB 0:=⟨by decide,by decide⟩
@[simp] theorem Es (x y:Int):vbin Try.prog .eql 52 (dv x) (dv y)=some (.bool (decide (x=y))):=by
 unfold dv
 simp [cseq]
 rw [Bool.eq_iff_iff]
 simp
 omega
@[simp] theorem Eo (x y:Int):vbin Try.prog .neq 52 (dv x) (dv y)=some (.bool (!decide (x=y))):=by
 unfold dv
 simp [cseq]
 rw [Bool.eq_iff_iff]
 simp
 omega
theorem P7 (o:OwE 52 H v xs) (h0:0<xs.length) {l:Nat} (hl:l≤xs.length):∃z,∀(H':Heap) (ys:List Int),OwE 52 H' v ys→ys.length=xs.length→
 vslice Try.prog H' 40 (some (.int .i64 (l:Nat))) none v=some z∧OwE 52 H' z (ys.drop l)∧ids z=ids v:=by
 rcases o with ⟨⟨_,rfl⟩|⟨id,off,r,rfl,k2,k3,k4,k5,k6⟩,_⟩
 ·simp at h0
 ·refine ⟨.slice (some ⟨id,off+l*2,some r.gen⟩) (xs.length-l) 0,fun H' ys o' hlen=>?_⟩
  obtain ⟨o',bd⟩:=o'
  obtain ⟨z',h1,h2,h3⟩:=o'.slice (P:=Try.prog) (ty:=40) (lo:=some (.int .i64 (l:Int))) (hi:=none) (l:=l) (u:=ys.length) (by simp) rfl rfl (by omega) (Nat.le_refl _)
  have e:(ys.drop l).take (ys.length-l)=ys.drop l:=List.take_of_length_le (by simp)
  rw [e] at h2
  have hz:z'=.slice (some ⟨id,off+l*2,some r.gen⟩) (xs.length-l) 0:=by
   rcases o' with ⟨hv,_⟩|⟨id',off',r',hv,q2,q3,q4,q5,q6⟩
   ·cases hv
   ·injection hv with hv1 hv2
    injection hv1 with hv1
    injection hv1 with i1 i2 i3
    injection i3 with i3
    subst i1 i2
    have hle:(l:Int)≤(xs.length:Int):=by omega
    simp [vslice,VM.look,q2,i3,vbound,q5,hle] at h1
    simp [← h1,i3]
  rw [← hz]
  exact ⟨h1,⟨h2,bd.drop l⟩,h3⟩
theorem dep0 (n:Nat):(List.replicate n [Value.int .i64 0,Value.int .i64 0]).flatten=cellsOf Fl.dep (List.replicate n 0):=by
 induction n with
 | zero=>rfl
 | succ n ih=>rw [List.replicate_succ,List.replicate_succ,Qv,List.flatten_cons,ih];rfl
theorem Mf (o:OwE 52 H v ys) (h0:0<ys.length) {l:Nat} (hl:l≤ys.length) {z:Value} (hz:vslice Try.prog H 40 (some (.int .i64 (l:Nat))) none v=some z) (hf:∀i∈ids v,frz≤i) :
 ∃H' zs,vclear Try.prog frz H 40 z=some (undef,H')∧zs.length=ys.length∧zs.take l=ys.take l∧OwE 52 H' v zs∧Chg H H' (ids v):=by
 rcases o with ⟨⟨_,rfl⟩|⟨id,off,r,rfl,k2,k3,k4,k5,k6⟩,bd⟩
 ·simp at h0
 ·have hle:(l:Int)≤(ys.length:Int):=by omega
  simp [vslice,VM.look,k2,vbound,k5,hle] at hz
  subst hz
  have hfr:frz≤id:=hf id (by simp)
  have hn:Fl.dep.n=2:=rfl
  rw [hn] at k3 k4
  have hroom:off+l*2+(ys.length-l)*2≤r.cells.length:=by omega
  have one0:ones [Value.int .i64 0,Value.int .i64 0]=true:=rfl
  have onz:∀n,ones (cellsOf Fl.dep (List.replicate n (0:Int)))=true:=fun n=>by
   induction n with
   | zero=>rfl
   | succ n ih=>rw [List.replicate_succ,Qv,Sm,ih];rfl
  refine ⟨H.set id { r with cells:=VM.splice r.cells (off+l*2) (cellsOf Fl.dep (List.replicate (ys.length-l) 0)) },ys.take l++List.replicate (ys.length-l) 0,?_,by simp;omega,by rw [List.take_append_of_le_length (by simp;omega),List.take_take,Nat.min_self],?_,Qn _ _⟩
  ·rw [← dep0]
   simp [vclear,VM.look,k2,hfr,hroom,one0]
  ·have hcl:(cellsOf Fl.dep (List.replicate (ys.length-l) (0:Int))).length=(ys.length-l)*2:=by simp
   have hlt:id<H.length:=Wk k2
   have hzl:(ys.take l++List.replicate (ys.length-l) (0:Int)).length=ys.length:=by simp;omega
   refine ⟨.inr ⟨id,off,{ r with cells:=VM.splice r.cells (off+l*2) (cellsOf Fl.dep (List.replicate (ys.length-l) 0)) },by rw [hzl],by simp [hlt],?_,?_,k5,Ye k6 (onz _)⟩,(bd.take l).app fun x hx=>by rw [(List.mem_replicate.1 hx).2];exact KB0⟩
   ·rw [hzl,hn,Xe k3 k4 (by rw [hcl];omega),Xb,← Xt]
    unfold VM.splice
    rw [hcl,hn]
    have e1:(cellsOf Fl.dep ys).drop (l*2+(ys.length-l)*2)=[]:=by rw [List.drop_eq_nil_iff];simp;omega
    rw [e1,List.append_nil]
   ·rw [hzl,hn,Xp (by rw [hcl];omega)];exact k4
theorem O5 (v:Value) (xs:List Int) (h:OwE 52 H v xs) (hl:xs.length≤1073741824) (hf:∀i∈ids v,frz≤i) :
 wp (vcall C frz 41 [v] H) (fun u H'=>OwE 52 H' u (compact xs)∧(∀i∈ids u,i∈ids v)∧Chg H H' (ids v)):=by
 rw [Qa (fn:=Try.f41) Try.func41 rfl (by kernel_rfl) rfl]
 simp [h.rd.len]
 have dk1:dk xs 1=[G xs 0]:=by simp [dk]
 refine Qc ?_ ?_<;>intro g0
 ·simp
  have:compact xs=xs:=by
   match xs,g0 with
   | [],_=>rfl
   | [a],_=>simp [compact,dk,G]
   | a::b::l,g=>simp at g;omega
  rw [this]
  exact ⟨h,Chg.refl _⟩
 ·simp
  have hl1:=h.rd.len (P:=Try.prog) (ty:=40) (by simp)
  refine Qk (fun n t H'=>∃i:Nat,n=xs.length-i∧1≤i∧i≤xs.length∧t 0=v∧t 3=.int .i64 i∧H'=H∧dk xs i=xs.take i) ?_ (n:=xs.length-1)
   ⟨1,rfl,by omega,by omega,by simp,by simp,rfl,by rw [dk1,T0 (by omega)];rfl⟩
  rintro n t H' ⟨i,rfl,hi1,hi,t0,t3,hH,hd⟩ ih
  rw [hH]
  simp [t0,t3,hl1]
  refine Qc ?_ ?_<;>intro g1
  ·have e1:∀[Inhabited Unit],IntKind.i64.wrap ((i:Int)-1)=((i-1:Nat):Int):=by intro _;rw [w64 (by omega) (by omega)];omega
   have p2:i-1<xs.length:=by omega
   simp [t0,t3]
   rw [Qf (h:=by kernel_rfl)]
   simp [t0,t3,e1,Qh h g1,Qh h p2,Qi h g1,Qi h p2]
   refine Qc ?_ ?_<;>intro g2
   ·obtain ⟨z,hz⟩:=P7 h (by omega) (l:=i) (by omega)
    obtain ⟨z1,_,z3⟩:=hz H xs h rfl
    simp [t0,t3,z1]
    have dki:dk xs (i+1)=xs.take i:=by
     have:0<i∧G xs (i-1)=G xs i:=⟨by omega,g2.symm⟩
     unfold dk;rw [if_pos this,hd]
    refine Qk (fun n t H'=>∃(k j:Nat) (ys:List Int),n=xs.length-(i+j)∧1≤j∧i+j≤xs.length∧k<i+j∧t 0=v∧t 3=.int .i64 k∧t 4=z∧t 5=.int .i64 j∧ys.length=xs.length∧ys.take k=dk xs (i+j)∧(∀m,i+j≤m+1→G ys m=G xs m)∧
     OwE 52 H' v ys∧Chg H H' (ids v)) ?_ (n:=xs.length-(i+1))
     ⟨i,1,xs,rfl,by omega,by omega,by omega,by simp [t0],by simp [t3],by simp,by simp,rfl,dki.symm,fun m hm=>rfl,h,Chg.refl _⟩
    clear ih hH t0 t3
    rintro n t H' ⟨k,j,ys,rfl,hj1,hj,hk,t0,t3,t4,t5,hlen,htk,hG,o,ch⟩ ih
    obtain ⟨z1',oz,_⟩:=hz H' ys o hlen
    have lz:=oz.rd.len (P:=Try.prog) (ty:=40) (by simp)
    have hzl:(ys.drop i).length=xs.length-i:=by simp [hlen]
    simp [t0,t3,t4,t5,lz,hlen]
    refine Qc ?_ ?_<;>intro g3
    ·have p1:j<(ys.drop i).length:=by omega
     have p2':j-1<(ys.drop i).length:=by omega
     have e2:∀[Inhabited Unit],IntKind.i64.wrap ((j:Int)-1)=((j-1:Nat):Int):=by intro _;rw [w64 (by omega) (by omega)];omega
     have e3:∀[Inhabited Unit],IntKind.i64.wrap ((j:Int)+1)=((j+1:Nat):Int):=by intro _;rw [w64 (by omega) (by omega)];omega
     have e4:∀[Inhabited Unit],IntKind.i64.wrap ((k:Int)+1)=((k+1:Nat):Int):=by intro _;rw [w64 (by omega) (by omega)];omega
     have dG:∀m,G (ys.drop i) m=G ys (i+m):=fun m=>by simp [G,List.getD_eq_getElem?_getD]
     have G1:G (ys.drop i) j=G xs (i+j):=by rw [dG,hG _ (by omega)]
     have G2:G (ys.drop i) (j-1)=G xs (i+j-1):=by rw [dG,hG _ (by omega),show i+(j-1)=i+j-1 by omega]
     simp [t0,t3,t4,t5]
     rw [Qf (h:=by kernel_rfl)]
     simp [t0,t3,t4,t5,e2,Qh oz p1,Qh oz p2',Qi oz p1,Qi oz p2',G1,G2]
     have hkl:k<ys.length:=by omega
     refine Qc ?_ ?_<;>intro g4
     ·have hd2:dk xs (i+j+1)=dk xs (i+j):=by
       have:0<i+j∧G xs (i+j-1)=G xs (i+j):=⟨by omega,g4.symm⟩
       rw [dk,if_pos this]
      simp [t0,t3,t4,t5]
      refine ih (xs.length-(i+(j+1))) _ _ ⟨k,j+1,ys,rfl,by omega,by omega,by omega,by simp [t0],by simp [t3],by simp [t4],by simp [e3],hlen,by rw [← Nat.add_assoc,hd2];exact htk,fun m hm=>hG m (by omega),o,ch⟩ (by omega)
     ·obtain ⟨H2,s2,o2',c2,l2⟩:=o.1.store (P:=Try.prog) (frz:=frz) (et:=52) (ag:=true) (by simp) hkl (x:=dv (G xs (i+j))) (y:=G xs (i+j)) rfl rfl hf
      have o2:OwE 52 H2 v (ys.set k (G xs (i+j))):=⟨o2',o.2.set k (h.2.G _)⟩
      simp only [Fl.dep_n] at s2
      have hd2:dk xs (i+j+1)=dk xs (i+j)++[G xs (i+j)]:=by
       have:¬(0<i+j∧G xs (i+j-1)=G xs (i+j)):=fun hh=>g4 hh.2.symm
       rw [dk,if_neg this]
      simp [t0,t3,t4,t5,Qh oz p1,Qi oz p1,G1,Qh o hkl,s2]
      refine ih (xs.length-(i+(j+1))) _ _ ⟨k+1,j+1,ys.set k (G xs (i+j)),rfl,by omega,by omega,by omega,by simp [t0],by simp [e4],by simp [t4],by simp [e3],by simp [hlen],?_,fun m hm=>?_,o2,ch.trans c2⟩ (by omega)
      ·rw [← Nat.add_assoc,hd2,← htk,List.take_succ_eq_append_getElem (by simpa using hkl),List.getElem_set_self]
       simp [List.take_set_of_le]
      ·have hmk:m≠k:=by omega
       have:G (ys.set k (G xs (i+j))) m=G ys m:=by simp [G,List.getD_eq_getElem?_getD,List.getElem?_set_ne (Ne.symm hmk)]
       rw [this];exact hG m (by omega)
    ·have hij:i+j=xs.length:=by omega
     have hkl:k≤ys.length:=by omega
     obtain ⟨y,hy⟩:=P7 o (by omega) (l:=k) hkl
     obtain ⟨y1,_,_⟩:=hy H' ys o rfl
     obtain ⟨H2,zs,cl,zl,zt,oz2,c2⟩:=Mf o (by omega) hkl y1 hf
     obtain ⟨q,q1,q2',q3⟩:=oz2.1.slice (P:=Try.prog) (ty:=40) (lo:=none) (hi:=some (.int .i64 (k:Int))) (l:=0) (u:=k) (by simp) rfl rfl (Nat.zero_le _) (by omega)
     simp [t0,t3,t4,t5,y1,cl,q1]
     have q2:OwE 52 H2 q ((zs.drop 0).take (k-0)):=⟨q2',oz2.2.take k⟩
     simp only [List.drop_zero,Nat.sub_zero,zt,htk,hij] at q2
     exact ⟨q2,by rw [q3];exact fun i hi=>hi,ch.trans c2⟩
   ·simp [t0,t3]
    refine ih (xs.length-(i+1)) _ _ ⟨i+1,rfl,by omega,by omega,by simp [t0],?_,rfl,?_⟩ (by omega)
    ·simp;rw [w64 (by omega) (by omega)]
    ·have:¬(0<i∧G xs (i-1)=G xs i):=fun hh=>g2 hh.2.symm
     unfold dk;rw [if_neg this,T0 g1,hd]
  ·have him:i=xs.length:=by omega
   simp [t0]
   rw [him,List.take_length] at hd
   exact ⟨by rw [compact,hd];exact h,Chg.refl _⟩
@[simp] theorem K6 (g:Fn) (a b:Array Value):(Value.func g a b).cells=#[Value.func g a b]:=rfl
@[simp] theorem Gl (g:Fn) (a b:Array Value):VM.one (Value.func g a b)=true:=rfl
def keyD (a b:Int):Int:=1024*a+b
theorem Kw {a b:Int} (h:0≤b∧b<1024):dv (keyD a b)=.agg #[.int .i64 a,.int .i64 b]:=by
 have e1:keyD a b/1024=a:=by unfold keyD;omega
 have e2:keyD a b%1024=b:=by unfold keyD;omega
 rw [dv,e1,e2]
theorem Tc (x y:Int) (hx:KB x) (hy:KB y):vcall C frz 18 [dv x,dv y] H=some (.int .i64 (cmpZ x y),H):=by
 rw [Qa (fn:=Try.f18) Try.func18 rfl (by kernel_rfl) rfl]
 have h1:=hx.1;have h2:=hx.2;have h3:=hy.1;have h4:=hy.2
 have e1:=@w6 (x/1024-y/1024) (by omega)
 have e2:=@w6 (x%1024-y%1024) (by omega)
 simp [dv]
 refine Qw _ ?_ ?_<;>intro g<;>simp [g,e1,e2,cmpZ]
theorem Va (v:Value) (xs:List Int) (h:OwE 52 H v xs) (hl:xs.length≤1073741824) (hf:∀i∈ids v,frz≤i) (hF:frz≤H.length) :
 wp (vcall C frz 23 [v] H) (fun u H'=>OwE 52 H' u (arrK xs)∧(∀i∈ids u,i∈ids v)∧Chg H H' (ids v)):=by
 rw [Qa (fn:=Try.f23) Try.func23 rfl (by kernel_rfl) rfl]
 simp
 refine Qe (Lo (cf:=.func (.func 18) #[] #[]) (fun F K x y hx hy=>by simp [Tc x y hx hy]) v xs _ h hl hf hF) ?_
 rintro _ H1 ⟨ys,y1,y2,o1,c1⟩
 simp
 refine Qe (O5 v ys o1 (by rw [y2.length_eq];exact hl) hf) ?_
 rintro u H2 ⟨o2,n2,c2⟩
 simp
 obtain ⟨q1,q2⟩:=U6 y1
 have:compact ys=arrK xs:=Pe q1 (Us _) fun x=>by rw [q2,Y8,y2.mem_iff]
 rw [this] at o2
 exact ⟨o2,n2,c1.trans c2⟩
def CB (a b:Int):Prop:=(0≤a∧a<1024)∧0≤b∧b<1024
theorem CB.kb {a b:Int} (h:CB a b):KB (keyD a b):=by obtain ⟨⟨h1,h2⟩,h3,h4⟩:=h;unfold KB keyD;omega
theorem Tk (o:OwE 52 H v xs) {a b:Int} (hb:CB a b) (hl:xs.length+1≤1073741824) (hf:∀i∈ids v,frz≤i) :
 ∃v' H',vappend Try.prog frz (H++[⟨[.int .i64 a,.int .i64 b],0,52⟩]) 40 40 v (.slice (some ⟨H.length,0,some 0⟩) 1 0)=some (v',H')∧OwE 52 H' v' (xs++[keyD a b])∧Chg H H' (ids v)∧∀i∈ids v',i∈ids v∨H.length≤i:=by
 obtain ⟨v',H',h1,h2,h3,h4⟩:=o.1.push (P:=Try.prog) (frz:=frz) (ty:=40) (a:=keyD a b) (by simp) rfl hl hf
 have e:Fl.dep.f (keyD a b)=[.int .i64 a,.int .i64 b]:=by
  have:=Kw (a:=a) hb.2
  rw [← Mq] at this
  injection this with this
  exact List.toArray_inj this
 rw [e] at h1
 exact ⟨v',H',h1,⟨h2,o.2.app fun x hx=>by rw [List.mem_singleton.1 hx];exact hb.kb⟩,h3,h4⟩
def BoxD (H:Heap) (r:Nat) (x:Value) (xs:List Int):Prop:=H[r]? = some ⟨[x],0,40⟩∧OwE 52 H x xs∧r∉ids x
theorem T1 (r:Nat) (x:Value) (xs:List Int) (a b:Int) (h:BoxD H r x xs) (hb:CB a b) (hl:xs.length+1≤1073741824) (hf:∀i∈ids x,frz≤i) (hr:frz≤r) :
 wp (vcall C frz 32 [.int .i64 a,.int .i64 b,.pointer (some ⟨r,0,some 0⟩)] H) (fun _ H'=>∃x',BoxD H' r x' (xs++[keyD a b])∧(∀i∈ids x',i∈ids x∨H.length≤i)∧Chg H H' (r::ids x)):=by
 obtain ⟨g,o,nr⟩:=h
 rw [Qa (fn:=Try.f32) Try.func32 rfl (by kernel_rfl) rfl]
 obtain ⟨x',H2,hap,o2,c2,n2⟩:=Tk o hb hl hf
 have hlt:=Wk g
 have g2:H2[r]? = some ⟨[x],0,40⟩:=Qb g c2 nr
 have on:=And.intro o.rd.one' o.rd.cells
 have on2:=And.intro o2.rd.one' o2.rd.cells
 simp [VM.look,g,on,hap]
 simp [VM.look,g2,on2,hr]
 have nr2:r∉ids x':=fun hh=>by
  rcases n2 r hh with q|q
  ·exact nr q
  ·omega
 refine ⟨x',⟨Qy g2,o2.chg (Qn _ _) (fun i hi hh=>by simp at hh;subst hh;exact nr2 hi),nr2⟩,n2,(c2.mono (by simp +contextual)).trans ((Qn _ _).mono (by simp))⟩
theorem Y5 (n a m:Nat):(rowPairs n a m).length≤m:=by
 unfold rowPairs
 rw [List.length_map]
 exact Nat.le_trans (List.length_filter_le ..) (by simp)
theorem Wd (n:Nat):∀m,(allPairs n m).length≤m*n
 | 0=>by simp [allPairs]
 | m+1=>by
  rw [Xf,List.length_append,Nat.succ_mul]
  have:=Wd n m
  have:=Y5 n m n
  omega
theorem Ok (n i j:Nat) (hi:i<n) (hj:j≤n) (hn:n≤16):(allPairs n i++rowPairs n i j).length≤256:=by
 rw [List.length_append]
 have h1:=Wd n i
 have h2:=Y5 n i j
 have h3:i*n≤15*16:=Nat.mul_le_mul (by omega) hn
 omega
theorem Sc (w h:Int) (f:Value) {Q:Value→Heap→Prop} (Inv:List (Nat×Nat)→Heap→Prop)
 (h0:Inv [] (H++[⟨[.int .i64 w,.int .i64 h],0,25⟩]))
 (hs:∀(done:List (Nat×Nat)) (a c:Nat) (H':Heap),a<(cnt w h).toNat→c<(cnt w h).toNat→a≠c→done.length≤256→Inv done H'→wp (vclos (vcall C frz) f [.int .i64 a,.int .i64 c] H') fun r H''=>(r=.bool true∧Inv (done++[(a,c)]) H'')∨(r=.bool false∧Q (.bool false) H''))
 (he:∀H',Inv (allPairs (cnt w h).toNat (cnt w h).toNat) H'→Q (.bool true) H') :
 wp (vcall C frz 20 [.agg #[.int .i64 w,.int .i64 h],f] H) Q:=by
 rw [Qa (fn:=Try.f20) Try.func20 rfl (by kernel_rfl) rfl]
 have hc:=Qj w h
 simp [Q0]
 refine Qk (fun n t H'=>∃(i:Nat),n=(cnt w h).toNat-i∧i≤(cnt w h).toNat∧t 1=f∧t 5=.int .i64 (cnt w h)∧t 10=.int .i64 (cnt w h)∧t 11=.int .i64 i∧
  Inv (allPairs (cnt w h).toNat i) H') ?_ (n:=(cnt w h).toNat) ⟨0,by simp [allPairs,h0]⟩
 rintro n t H' ⟨i,rfl,hi,h1,h5,h10,h11,hk⟩ ih
 simp [h1,h5,h10,h11]
 refine Qc ?_ ?_<;>intro hlt
 ·simp [h1,h5,h10,h11,hlt]
  refine Qk (fun n t H'=>∃(j:Nat),n=(cnt w h).toNat-j∧j≤(cnt w h).toNat∧t 1=f∧t 5=.int .i64 (cnt w h)∧t 10=.int .i64 (cnt w h)∧t 11=.int .i64 i∧t 6=.int .i64 i∧t 14=.int .i64 (cnt w h)∧t 15=.int .i64 j∧
   Inv (allPairs (cnt w h).toNat i++rowPairs (cnt w h).toNat i j) H') ?_ (n:=(cnt w h).toNat) ⟨0,by simp [h1,h5,h10,h11,rowPairs,hk]⟩
  clear h1 h5 h10 h11 hk
  rintro n t H' ⟨j,rfl,hj,h1,h5,h10,h11,h6,h14,h15,hk⟩ ih2
  simp [h1,h5,h10,h11,h6,h14,h15]
  refine Qc ?_ ?_<;>intro hlj
  ·have ni:i<(cnt w h).toNat:=by omega
   have nj:j<(cnt w h).toNat:=by omega
   have yes:=fun (t':Env) (H':Heap) (x1:t' 1=f) (x5:t' 5=.int .i64 (cnt w h)) (x10:t' 10=.int .i64 (cnt w h)) (x11:t' 11=.int .i64 i) (x6:t' 6=.int .i64 i) (x14:t' 14=.int .i64 (cnt w h)) (x15:t' 15=.int .i64 (j+1:Nat)) (hg:Inv (allPairs (cnt w h).toNat i++rowPairs (cnt w h).toNat i (j+1)) H')=>
    ih2 ((cnt w h).toNat-(j+1)) t' H' ⟨j+1,rfl,by omega,x1,x5,x10,x11,x6,x14,x15,hg⟩ (by omega)
   simp [h1,h5,h10,h11,h6,h14,h15,hlj]
   refine Qu ?_ ?_<;>intro hij
   ·simp [h1,h5,h10,h11,h6,h14,h15,hlj,hij]
    refine yes _ _ (by simp [h1]) (by simp [h5]) (by simp [h10]) (by simp [h11]) (by simp [h6]) (by simp [h14]) ?_ (by rw [Z3 _ _ _ (by omega)];exact hk)
    simp;rw [w64 (by omega) (by omega)]
   ·simp [h1,h5,h10,h11,h6,h14,h15,hlj,hij]
    refine Qe (hs _ i j H' ni nj (by omega) (Ok _ _ _ (by omega) hj (by have:=Qj w h;omega)) hk) ?_
    rintro r H'' (⟨rfl,hq⟩|⟨rfl,hq⟩)
    ·simp [h1,h5,h10,h11,h6,h14,h15,hlj,hij]
     refine yes _ _ (by simp [h1]) (by simp [h5]) (by simp [h10]) (by simp [h11]) (by simp [h6]) (by simp [h14]) ?_ (by rw [Z7 _ _ _ (by omega),← List.append_assoc];exact hq)
     simp;rw [w64 (by omega) (by omega)]
    ·simp [h1,h5,h10,h11,h6,h14,h15,hlj,hij]
     exact hq
  ·have:j=(cnt w h).toNat:=by omega
   subst this
   simp [h1,h5,h10,h11,h6,h14,h15,hlj]
   refine ih ((cnt w h).toNat-(i+1)) _ _ ⟨i+1,rfl,by omega,by simp [h1],by simp [h5],by simp [h10],?_,by rw [Xf];exact hk⟩ (by omega)
   ·simp;rw [w64 (by omega) (by omega)]
 ·simp [h1,h5,h10,h11,hlt]
  have:i=(cnt w h).toNat:=by omega
  subst this
  exact he _ hk
def adjN (l:List Int) (i:Nat):List Int:=(List.range i).map fun k=>keyD (G l k) (G l (k+1))
def adjK (l:List Int):List Int:=adjN l (l.length-1)
theorem Om (l:List Int) (i:Nat):adjN l (i+1)=adjN l i++[keyD (G l i) (G l (i+1))]:=by simp [adjN,List.range_succ]
theorem Sv (l:List Int) (i:Nat):(adjN l i).length=i:=by simp [adjN]
def DI (K:Heap) (r:Nat) (D:List Nat) (xs:List Int) (H':Heap):Prop:=∃x,BoxD H' r x xs∧(∀i∈ids x,i∈D∨K.length≤i)∧Chg K H' (r::D)
theorem DI.trans {K K1 H':Heap} {r:Nat} {D:List Nat} {x0:Value} {xs:List Int} (c:Chg K K1 (r::D)) (n:∀i∈ids x0,i∈D∨K.length≤i) (h:DI K1 r (ids x0) xs H'):DI K r D xs H':=by
 obtain ⟨x,bx,nx,ch⟩:=h
 have:=c.1
 refine ⟨x,bx,fun i hi=>?_,c.trans' ch fun i hi=>?_⟩
 ·rcases nx i hi with q|q
  ·exact n i q
  ·right;omega
 ·rcases List.mem_cons.1 hi with rfl|hi
  ·exact .inl (List.mem_cons_self ..)
  ·rcases n i hi with q|q
   ·exact .inl (List.mem_cons_of_mem _ q)
   ·exact .inr q
theorem Up (H:Heap) (xs:List Int):∃z L,V.ret H xs=(z,H++L)∧IsI (H++L) z xs∧∀i∈ids z,H.length≤i∧i<(H++L).length:=by
 unfold V.ret
 split
 ·rename_i h;subst h
  exact ⟨_,[],by rw [List.append_nil],.inl ⟨rfl,rfl⟩,fun i hi=>by simp at hi⟩
 ·exact ⟨_,_,rfl,IsI.at0 rfl,fun i hi=>by simp at hi;subst hi;simp⟩
theorem Sh (w h:Int) (v u:Value) (b T:List Int) (K:Heap) (r r1 r2 r3:Nat) (D:List Nat) (a c:Nat) (xs:List Int) (hI:IsI K v b) (hT:IsI K u T) (hl:b.length≤1073741824) (hz:tsized w h b T)
 (ha:a<(cnt w h).toNat) (hc:c<(cnt w h).toNat) (hne:a≠c) (hw:∀x∈walk w h b T a c,0≤x∧x<1024) (hx:xs.length≤1048576)
 (g1:K[r1]? = some ⟨[.int .i64 w,.int .i64 h,v],0,28⟩) (g2:K[r2]? = some ⟨[u],0,30⟩) (g3:K[r3]? = some ⟨[.func (.func 32) #[] #[.pointer (some ⟨r,0,some 0⟩)]],0,69⟩)
 (n1:r1∉r::D) (n2:r2∉r::D) (n3:r3∉r::D) (nv:∀i∈ids v,i∉r::D) (nu:∀i∈ids u,i∉r::D) (hr:frz≤r) (hD:∀i∈D,frz≤i) (hK:frz≤K.length) (hd:DI K r D xs H) :
 wp (vcall C frz 49 [.int .i64 a,.int .i64 c,.pointer (some ⟨r1,0,some 0⟩),.pointer (some ⟨r2,0,some 0⟩),.pointer (some ⟨r3,0,some 0⟩)] H) (fun u H'=>u=.bool true∧DI K r D (xs++adjK (walk w h b T a c)) H'):=by
 obtain ⟨x,⟨bx,o,nr⟩,nx,ch⟩:=hd
 have b1:=Qb g1 ch n1
 have b2:=Qb g2 ch n2
 have b3:=Qb g3 ch n3
 rw [Qa (fn:=Try.f49) Try.func49 rfl (by kernel_rfl) rfl]
 have hIH:=(hI.rd.chg ch nv).isI
 have hTH:=(hT.rd.chg ch nu).isI
 obtain ⟨z,L,e0,hz1,hz2⟩:=Up H (walk w h b T a c)
 have wc:=fun F=>Tx (frz:=F) w h v u b T a c hIH hTH hl hz (Qm ha) (Qm hc) (by omega)
 have wl:(walk w h b T a c).length≤256:=by
  have:=Tb w h b T c (cnt w h).toNat a []
  have:=Qj w h
  unfold walk;simp at *;omega
 have onv:=And.intro hI.one' hI.cells
 have onu:=And.intro hT.one' hT.cells
 generalize hws:walk w h b T a c=ws at *
 simp [VM.look,b1,b2,wc,e0,onv,onu]
 have hrH:=Wk bx
 have oL:=o.lt
 refine Qk (fun n t H'=>∃i:Nat,n=ws.length-i∧1≤i∧i≤max 1 ws.length∧t 4=.pointer (some ⟨r3,0,some 0⟩)∧t 8=z∧t 9=.int .i64 i∧DI (H++L) r (ids x) (xs++adjN ws (i-1)) H') ?_ (n:=ws.length-1)
  ⟨1,rfl,by omega,by omega,by simp,by simp,by simp,x,⟨Wa bx _,by simpa [adjN] using o.app,nr⟩,fun i hi=>.inl hi,Chg.refl _⟩
 rintro n t H' ⟨i,rfl,hi1,hi2,t4,t8,t9,di⟩ ih
 obtain ⟨x1,⟨bx1,o1,nr1⟩,nx1,ch1⟩:=di
 have zH:IsI H' z ws:=(hz1.rd.chg ch1 fun j hj hh=>by
  have:=(hz2 j hj).1
  rcases List.mem_cons.1 hh with rfl|hh
  ·omega
  ·have:=oL j hh;omega).isI
 have b3':H'[r3]? = some ⟨[.func (.func 32) #[] #[.pointer (some ⟨r,0,some 0⟩)]],0,69⟩:=Qb (Wa b3 L) ch1 (fun hh=>by
  rcases List.mem_cons.1 hh with q|hh
  ·exact n3 (q▸List.mem_cons_self ..)
  ·rcases nx r3 hh with q|q
   ·exact n3 (List.mem_cons_of_mem _ q)
   ·have:=Wk g3;omega)
 simp [t4,t8,t9,zH.len]
 refine Qc ?_ ?_<;>intro hlt
 ·have e1:∀[Inhabited Unit],IntKind.i64.wrap ((i:Int)-1)=((i-1:Nat):Int):=by intro _;rw [w64 (by omega) (by omega)];omega
  have p1:∀(k:Nat),k<ws.length→vindexAddr Try.prog H' 26 z (.int .i64 k)=some (elp z k)∧vload Try.prog H' 3 (elp z k)=some (.int .i64 (G ws k)):=fun k hk=>by
   refine ⟨?_,zH.load (by simp) hk⟩
   have:=zH.idx (P:=Try.prog) (ty:=26) (e:=3) (by simp) (i:=(k:Int)) (by omega) (by omega)
   simpa using this
  have q1:=p1 i (by omega)
  have q2:=p1 (i-1) (by omega)
  have cb:CB (G ws (i-1)) (G ws i):=by
   rw [Qo (by omega:i-1<ws.length),Qo (by omega:i<ws.length)]
   exact ⟨hw _ (List.getElem_mem _),hw _ (List.getElem_mem _)⟩
  have hn:(adjN ws (i-1)).length=i-1:=Sv _ _
  simp [t4,t8,t9]
  rw [Qf (h:=by kernel_rfl)]
  simp [VM.look,t4,t8,t9,b3',e1,q1,q2]
  refine Qe (T1 r x1 _ (G ws (i-1)) (G ws i) ⟨bx1,o1,nr1⟩ cb (by simp [hn];omega) (fun j hj=>?_) hr) ?_
  ·rcases nx1 j hj with q|q
   ·rcases nx j q with q|q
    ·exact hD j q
    ·omega
   ·have:=ch.1;simp at q;omega
  rintro _ H2 ⟨x2,bx2,nx2,c2⟩
  simp [t4,t8,t9]
  refine ih (ws.length-(i+1)) _ _ ⟨i+1,rfl,by omega,by omega,by simp [t4],by simp [t8],?_,?_⟩ (by omega)
  ·simp;rw [w64 (by omega) (by omega)]
  ·have e3:adjN ws (i+1-1)=adjN ws (i-1)++[keyD (G ws (i-1)) (G ws i)]:=by
    have:=Om ws (i-1)
    rw [show i-1+1=i by omega] at this
    exact this
   rw [e3,← List.append_assoc]
   exact DI.trans ch1 nx1 ⟨x2,bx2,nx2,c2⟩
 ·simp
  have e3:adjN ws (i-1)=adjK ws:=by
   unfold adjK
   by_cases h0:ws.length=0
   ·rw [show i-1=ws.length-1 by omega]
   ·rw [show i-1=ws.length-1 by omega]
  rw [← e3]
  refine DI.trans (x0:=x) (K1:=H++L) (ch.trans' (Chg.app (r::D)) fun j hj=>.inl hj) nx ⟨x1,⟨bx1,o1,nr1⟩,nx1,ch1⟩
def walkAdj (w h:Int) (b T:List Int) (l:List (Nat×Nat)):List Int:=l.flatMap fun p=>adjK (walk w h b T p.1 p.2)
theorem Tr (w h:Int) (b T:List Int) (l:List (Nat×Nat)) (p:Nat×Nat):walkAdj w h b T (l++[p])=walkAdj w h b T l++adjK (walk w h b T p.1 p.2):=by simp [walkAdj]
theorem Vw (w h:Int) (b T:List Int) (a c:Int):(walk w h b T a c).length≤256:=by
 have:=Tb w h b T c (cnt w h).toNat a []
 have:=Qj w h
 unfold walk;simp at *;omega
theorem X5 (w h:Int) (b T:List Int) (l:List (Nat×Nat)):(walkAdj w h b T l).length≤256*l.length:=by
 induction l with
 | nil=>simp [walkAdj]
 | cons p l ih=>
  have e:walkAdj w h b T (p::l)=adjK (walk w h b T p.1 p.2)++walkAdj w h b T l:=rfl
  rw [e,List.length_append,List.length_cons]
  have h1:=Vw w h b T p.1 p.2
  have h2:(adjK (walk w h b T p.1 p.2)).length=(walk w h b T p.1 p.2).length-1:=Sv _ _
  omega
theorem Pb (w h:Int) (v u:Value) (b T:List Int) (r:Nat) (x0:Value) (hI:IsI H v b) (hT:IsI H u T) (hl:b.length≤1073741824) (hz:tsized w h b T)
 (hw:∀a c:Nat,a<(cnt w h).toNat→c<(cnt w h).toNat→∀x∈walk w h b T a c,0≤x∧x<1024)
 (bx:BoxD H r x0 []) (nv:∀i∈ids v,i∉r::ids x0) (nu:∀i∈ids u,i∉r::ids x0) (hr:frz≤r) (hf:∀i∈ids x0,frz≤i) (hF:frz≤H.length) :
 wp (vcall C frz 31 [.agg #[.int .i64 w,.int .i64 h,v],.agg #[u],.func (.func 32) #[] #[.pointer (some ⟨r,0,some 0⟩)]] H) (fun _ H'=>DI H r (ids x0) (walkAdj w h b T (allPairs (cnt w h).toNat (cnt w h).toNat)) H'):=by
 rw [Qa (fn:=Try.f31) Try.func31 rfl (by kernel_rfl) rfl]
 have onv:=And.intro hI.one' hI.cells
 have onu:=And.intro hT.one' hT.cells
 simp [onv,onu,VM.look]
 obtain ⟨M,hM⟩:∃M:Heap,M=[⟨[.int .i64 w,.int .i64 h,v],0,28⟩,⟨[u],0,30⟩,⟨[.func (.func 32) #[] #[.pointer (some ⟨r,0,some 0⟩)]],0,69⟩]:=⟨_,rfl⟩
 rw [← hM]
 obtain ⟨bx1,bx2,bx3⟩:=bx
 have hrl:=Wk bx1
 have hxl:=bx2.lt
 have hMl:M.length=3:=by rw [hM];rfl
 refine Qe (Sc w h _ (Q:=fun r' H'=>r'=.bool true∧DI H r (ids x0) (walkAdj w h b T (allPairs (cnt w h).toNat (cnt w h).toNat)) H')
  (fun done H'=>DI (H++M) r (ids x0) (walkAdj w h b T done) H') ?_ ?_ ?_) ?_
 ·exact ⟨x0,⟨Wa (Wa bx1 _) _,by simpa [walkAdj] using bx2.app.app,bx3⟩,fun i hi=>.inl hi,Chg.app _⟩
 ·rintro done a c H' ha hc hne hd di
  have hlen:=X5 w h b T done
  simp
  refine (Sh w h v u b T (H++M) r H.length (H.length+1) (H.length+2) (ids x0) a c _ (hI.app _) (hT.app _) hl hz ha hc hne (hw a c ha hc) (by omega) (by simp [hM]) (by simp [hM]) (by simp [hM]) ?_ ?_ ?_ nv nu hr hf (by simp;omega) di).mono ?_
  ·simp;exact ⟨by omega,fun hh=>by have:=hxl _ hh;omega⟩
  ·simp;exact ⟨by omega,fun hh=>by have:=hxl _ hh;omega⟩
  ·simp;exact ⟨by omega,fun hh=>by have:=hxl _ hh;omega⟩
  ·rintro _ H2 ⟨rfl,di2⟩
   rw [Tr]
   exact ⟨rfl,di2⟩
 ·intro H' di
  exact ⟨rfl,DI.trans (Chg.app _) (fun i hi=>.inl hi) di⟩
 ·rintro _ H' ⟨rfl,di⟩
  simp
  exact di
theorem Pd {w h:Int} {b T:List Int} {to:Int}:∀(f:Nat) (a:Int) (out:List Int),isN w h a→(∀x∈out,0≤x∧x<64)→∀x∈walkN w h b T to f a out,0≤x∧x<64:=by
 intro f
 induction f with
 | zero=>
  intro a out ha ho x hx
  simp only [walkN] at hx
  repeat' split at hx
  ·exact ho x hx
  ·simp at hx
  ·simp at hx
 | succ f ih=>
  intro a out ha ho x hx
  simp only [walkN] at hx
  repeat' split at hx
  ·exact ho x hx
  ·simp at hx
  ·rename_i hs
   refine ih _ _ (Zn hs.1 hs.2).2.2 (fun y hy=>?_) x hx
   rcases List.mem_append.1 hy with hy|hy
   ·exact ho y hy
   ·rw [List.mem_singleton.1 hy]
    have:=hs.1;have:=(T2 ha).2
    unfold inR at *
    omega
  ·simp at hx
theorem Wc {w h:Int} {b T:List Int} {a to:Int} (ha:isN w h a):∀x∈walk w h b T a to,0≤x∧x<64:=Pd _ _ _ ha (by simp)
def MadeE (H:Heap) (xs:List Int) (r:Value) (H':Heap):Prop:=OwE 52 H' r xs∧Chg H H' []∧∀i∈ids r,H.length≤i
noncomputable def depsOf (w h:Int) (b T:List Int):List Int:=if tableOk w h b T then arrK (walkAdj w h b T (allPairs (cnt w h).toNat (cnt w h).toNat)) else []
theorem X9 (w h:Int) (v u:Value) (b T:List Int) (hI:IsI H v b) (hT:IsI H u T) (hl:b.length≤1073741824) (hF:frz≤H.length) :
 wp (vcall C frz 14 [.agg #[.int .i64 w,.int .i64 h,v],.agg #[u]] H) (MadeE H (depsOf w h b T)):=by
 rw [Qa (fn:=Try.f14) Try.func14 rfl (by kernel_rfl) rfl]
 have onv:=And.intro hI.one' hI.cells
 have onu:=And.intro hT.one' hT.cells
 have nv:=hI.rd.lt
 have nu:=hT.rd.lt
 have tk:=fun F=>Yf (frz:=F) w h v u b T (hI.app [⟨[.int .i64 w,.int .i64 h,v],0,28⟩,⟨[u],0,30⟩,⟨[],0,52⟩,⟨[.slice (some ⟨H.length+2,0,some 0⟩) 0 0],0,40⟩]) (hT.app _) hl
 simp [onv,onu,VM.look,tk]
 obtain ⟨M,hM⟩:∃M:Heap,M=[⟨[.int .i64 w,.int .i64 h,v],0,28⟩,⟨[u],0,30⟩,⟨[],0,52⟩,⟨[.slice (some ⟨H.length+2,0,some 0⟩) 0 0],0,40⟩]:=⟨_,rfl⟩
 have o0:OwE 52 (H++M) (.slice (some ⟨H.length+2,0,some 0⟩) 0 0) []:=⟨by rw [hM];exact Ow.new (D:=Fl.dep) (xs:=[]) (k:=2) rfl rfl rfl rfl,fun x hx=>by simp at hx⟩
 have g0:(H++M)[H.length+3]? = some ⟨[.slice (some ⟨H.length+2,0,some 0⟩) 0 0],0,40⟩:=by rw [hM];simp
 have b0:(H++M)[H.length]? = some ⟨[.int .i64 w,.int .i64 h,v],0,28⟩:=by rw [hM];simp
 have b1:(H++M)[H.length+1]? = some ⟨[u],0,30⟩:=by rw [hM];simp
 rw [← hM]
 have hMl:M.length=4:=by rw [hM];rfl
 clear hM tk
 refine Qc ?_ ?_<;>intro g
 ·simp [VM.look,g0,b0,b1]
  refine Qe (Pb w h v u b T (H.length+3) (.slice (some ⟨H.length+2,0,some 0⟩) 0 0) (hI.app _) (hT.app _) hl g.1 (fun a c ha hc x hx=>by have:=Wc (b:=b) (T:=T) (Qm ha) (to:=c) x hx;omega) ⟨g0,o0,by simp⟩ ?_ ?_ (by omega) (by simp) (by simp)) ?_
  ·intro i hi hh;have:=nv i hi;simp at hh;omega
  ·intro i hi hh;have:=nu i hi;simp at hh;omega
  rintro _ H1 ⟨x,⟨bx1,bx2,bx3⟩,nx,ch⟩
  have hlen:=X5 w h b T (allPairs (cnt w h).toNat (cnt w h).toNat)
  have hpl:=Wd (cnt w h).toNat (cnt w h).toNat
  have hcn:(cnt w h).toNat*(cnt w h).toNat≤16*16:=Nat.mul_le_mul (by have:=Qj w h;omega) (by have:=Qj w h;omega)
  have nxx:∀i∈ids x,H.length≤i:=fun i hi=>by
   rcases nx i hi with q|q
   ·simp at q;omega
   ·simp at q;omega
  have c1:=ch.1
  simp at c1
  simp [VM.look,bx1]
  refine Qe (Va x _ bx2 (by omega) nxx (by omega)) ?_
  rintro u2 H2 ⟨o2,n2,c2⟩
  simp
  have:depsOf w h b T=arrK (walkAdj w h b T (allPairs (cnt w h).toNat (cnt w h).toNat)):=by rw [depsOf,if_pos g]
  rw [← this] at o2
  refine ⟨o2,?_,fun i hi=>nxx i (n2 i hi)⟩
  refine (((Chg.app (H:=H) (L:=M) []).trans' ch (fun i hi=>.inr ?_)).trans' c2 fun i hi=>.inr (nxx i hi))
  simp at hi;omega
 ·simp [VM.look,g0]
  rw [depsOf,if_neg g]
  exact ⟨o0,Chg.app _,by simp⟩
@[simp] theorem Gz (x:Int):(dv x).cells=#[.int .i64 (x/1024),.int .i64 (x%1024)]:=rfl
theorem Y2 (x:Int):Value.agg #[.int .i64 (x/1024),.int .i64 (x%1024)]=dv x:=rfl
@[simp] theorem Fy (x y:Int):0≤cmpZ x y↔y≤x:=by unfold cmpZ;split<;>omega
def dAt (xs:List Int) (j:Nat):Prop:=(G xs j/1024≤127∧G xs j%1024≤127)∧(0<j→G xs (j-1)<G xs j)
instance (xs:List Int) (j:Nat):Decidable (dAt xs j):=inferInstanceAs (Decidable (_∧_))
def dOk (xs:List Int):Prop:=∀j,j<xs.length→dAt xs j
instance (xs:List Int):Decidable (dOk xs):=inferInstanceAs (Decidable (∀j,_→_))
theorem Pn (h:xs.Pairwise (· < ·)) (hs:∀x∈xs,x/1024≤127∧x%1024≤127):dOk xs:=fun j hj=>by
 refine ⟨?_,fun h0=>?_⟩
 ·rw [Qo hj];exact hs _ (List.getElem_mem hj)
 ·rw [Qo hj,Qo (by omega:j-1<xs.length)]
  exact List.pairwise_iff_getElem.1 h _ _ _ _ (by omega)
theorem Vv (o:OwE e H v xs) {i:Nat} (h1:i<xs.length):∀L,vindexAddr Try.prog (H++L) 40 v (.int .i64 i)=some (elp v (i*2))∧vload Try.prog (H++L) 52 (elp v (i*2))=some (dv (G xs i)):=fun L=>⟨Qh o.app h1,Qi o.app h1⟩
theorem Rt (v:Value) (xs:List Int) (h:OwE e H v xs) (hl:xs.length≤1073741824):wp (vcall C frz 8 [v] H) (fun r _=>r=.bool (decide (dOk xs))):=by
 rw [Qa (fn:=Try.f8) Try.func8 rfl (by kernel_rfl) rfl]
 simp [h.rd.len]
 refine Qk (fun n t H'=>∃i:Nat,n=xs.length-i∧i≤xs.length∧t 0=v∧t 5=v∧t 6=.int .i64 xs.length∧t 7=.int .i64 i∧(∃L,H'=H++L)∧∀j,j<i→dAt xs j) ?_ (n:=xs.length)
  ⟨0,by simp,by omega,by simp,by simp,by simp,by simp,⟨[],by simp⟩,fun j hj=>by omega⟩
 rintro n t H' ⟨i,rfl,hi,t0,t5,t6,t7,⟨L,rfl⟩,hd⟩ ih
 simp [t0,t5,t6,t7]
 refine Qc ?_ ?_<;>intro hlt
 ·have b:=h.2.G i
  have b1:=b.1;have b2:=b.2
  have p1:=Vv h hlt
  simp [t0,t5,t6,t7,p1]
  rw [Qf (h:=by kernel_rfl)]
  have e1:0<i→∀[Inhabited Unit],IntKind.i64.wrap ((i:Int)-1)=((i-1:Nat):Int):=by intro _ _;rw [w64 (by omega) (by omega)];omega
  have p2:0<i→∀L,vindexAddr Try.prog (H++L) 40 v (.int .i64 (i-1:Nat))=some (elp v ((i-1)*2))∧vload Try.prog (H++L) 52 (elp v ((i-1)*2))=some (dv (G xs (i-1))):=fun h0 L=>Vv h (by omega) L
  have cc:=fun F K (j k:Nat)=>Tc (frz:=F) (H:=K) (G xs j) (G xs k) (h.2.G j) (h.2.G k)
  have yes:=fun (t':Env) (L':Heap) (x0:t' 0=v) (x5:t' 5=v) (x6:t' 6=.int .i64 xs.length) (x7:t' 7=.int .i64 (i+1:Nat)) (hq:dAt xs i)=>
   ih (xs.length-(i+1)) t' (H++L') ⟨i+1,rfl,by omega,x0,x5,x6,x7,⟨L',rfl⟩,fun j hj=>by
    by_cases hji:j<i
    ·exact hd j hji
    ·rw [show j=i by omega];exact hq⟩ (by omega)
  have w1:IntKind.i64.wrap ((i:Int)+1)=((i+1:Nat):Int):=by rw [w64 (by omega) (by omega)];omega
  simp [t0,t5,t6,t7,p1,VM.look,Qz,Y2]
  refine Qu ?_ ?_<;>intro g1<;>simp [t0,t5,t6,t7,p1,VM.look,Qz,Y2,g1]
  ·refine Qu ?_ ?_<;>intro g2<;>simp [t0,t5,t6,t7,p1,VM.look,Qz,Y2,g1,g2]
   ·have g12:G xs i/1024≤127∧G xs i%1024≤127:=⟨g1.2,g2.2⟩
    refine Qu ?_ ?_<;>intro g3<;>simp [t0,t5,t6,t7,p1,VM.look,Qz,Y2,g1,g2,g3]
    ·have g3':0<i:=by omega
     have e1:=fun [Inhabited Unit]=>e1 g3'
     have p2:=p2 g3'
     simp [t0,t5,t6,t7,p1,VM.look,Qz,Y2,g1,g2,g3,e1,p2,cc]
     refine Qc ?_ ?_<;>intro g4<;>simp [t0,t5,t6,t7]
     ·intro hh;have:=(hh i hlt).2 g3';omega
     ·refine yes _ _ ?_ ?_ ?_ ?_ ⟨g12,fun _=>by omega⟩<;>simp [t0,t5,t6,w1]
    ·refine yes _ _ ?_ ?_ ?_ ?_ ⟨g12,fun _=>by omega⟩<;>simp [t0,t5,t6,w1]
   ·intro hh;have:=(hh i hlt).1;exact g2 ⟨by omega,this.2⟩
  ·intro hh;have:=(hh i hlt).1;exact g1 ⟨by omega,this.1⟩
 ·simp
  have:i=xs.length:=by omega
  subst this
  exact hd
theorem Wi (v:Value) (xs:List Int) (h:OwE e H v xs) (hl:xs.length≤1073741824):vcall C frz 8 [v] H=some (.bool (decide (dOk xs)),H):=(Rt v xs h hl).exact (by simp) rfl
theorem Rs (xs:List Int):ones (cellsOf Fl.dep xs)=true:=by
 induction xs with
 | nil=>rfl
 | cons a l ih=>rw [Qv,Sm,ih];rfl
def shiftK (b:Int) (xs:List Int):List Int:=xs.map (·+1025*b)
noncomputable def shiftOf (b:Int) (xs:List Int):List Int:=if dOk xs then (if dOk (shiftK b xs) then shiftK b xs else []) else []
theorem Zt (y:Int) (xs:List Int):(shiftOf y xs).length≤xs.length:=by
 unfold shiftOf shiftK;repeat' split
 all_goals simp
theorem Mc {b:Int} (hb:0≤b∧b≤64) (hd:dOk xs) {i:Nat} (hi:i<xs.length) (h0:KB (G xs i)):CB (G xs i/1024+b) (G xs i%1024+b)∧keyD (G xs i/1024+b) (G xs i%1024+b)=G xs i+1025*b:=by
 have:=(hd i hi).1
 have:=h0.1
 unfold CB keyD
 omega
theorem Pf (b:Int) {i:Nat} (hi:i<xs.length):shiftK b (xs.take (i+1))=shiftK b (xs.take i)++[G xs i+1025*b]:=by
 rw [T0 hi];simp [shiftK]
theorem Lb (v:Value) (xs:List Int) (b:Int) (h:OwE e H v xs) (hb:0≤b∧b≤64) (hl:xs.length≤1048576) (hF:frz≤H.length):wp (vcall C frz 19 [v,.int .i64 b] H) (MadeE H (shiftOf b xs)):=by
 rw [Qa (fn:=Try.f19) Try.func19 rfl (by kernel_rfl) rfl]
 have nil:MadeE H [] (.slice none 0 0) H:=⟨⟨.inl ⟨rfl,rfl⟩,fun x hx=>by simp at hx⟩,Chg.refl _,by simp⟩
 have hin:inR (-1000) b 1000:=⟨by omega,by omega⟩
 simp [Wi v xs h (by omega),Qz,hin]
 refine Qu ?_ ?_<;>intro g1
 ·simp [g1,Qz,hin,h.rd.len]
  have o0:OwE 52 (H++[⟨[],0,52⟩]) (.slice (some ⟨H.length,0,some 0⟩) 0 0) []:=⟨Ow.new0 (D:=Fl.dep) (xs:=[]) rfl rfl rfl rfl,fun x hx=>by simp at hx⟩
  have lenA:=fun L=>(h.app (L:=L)).rd.len (P:=Try.prog) (ty:=40) (by simp)
  simp [lenA]
  refine Qk (fun n t H'=>∃(i:Nat) (r:Value),n=xs.length-i∧i≤xs.length∧t 0=v∧t 1=.int .i64 b∧t 5=r∧t 17=v∧t 18=.int .i64 xs.length∧t 19=.int .i64 i∧OwE 52 H' r (shiftK b (xs.take i))∧(∀j∈ids r,H.length≤j)∧Chg H H' []) ?_ (n:=xs.length)
   ⟨0,_,by simp,by omega,by simp,by simp,by simp,by simp,by simp,by simp,o0,by simp,Chg.app _⟩
  rintro n t H' ⟨i,r,rfl,hi,t0,t1,t5,t17,t18,t19,o,nr,ch⟩ ih
  simp [t0,t1,t5,t17,t18,t19]
  refine Qc ?_ ?_<;>intro hlt
  ·have hH':=h.chg ch (by simp)
   have p1:=Vv hH' hlt []
   simp only [List.append_nil] at p1
   obtain ⟨s1,s2⟩:=Mc hb g1 hlt (h.2.G i)
   have hlr:(shiftK b (xs.take i)).length=i:=by simp [shiftK];omega
   obtain ⟨r2,H2,hap,o2,c2,n2⟩:=Tk (frz:=H.length) (o.app (L:=[⟨[.int .i64 (G xs i/1024),.int .i64 (G xs i%1024)],0,52⟩])) s1 (by rw [hlr];omega) nr
   rw [s2,← Pf b hlt] at o2
   have e1:∀[Inhabited Unit],IntKind.i64.wrap (G xs i/1024+b)=G xs i/1024+b:=by intro _;have:=s1.1;exact w64 (by omega) (by omega)
   have e2:∀[Inhabited Unit],IntKind.i64.wrap (G xs i%1024+b)=G xs i%1024+b:=by intro _;have:=s1.2;exact w64 (by omega) (by omega)
   have l1:=ch.1
   simp at hap
   simp [t0,t1,t5,t17,t18,t19,p1,VM.look,e1,e2,hap,l1]
   refine ih (xs.length-(i+1)) _ _ ⟨i+1,r2,rfl,by omega,by simp [t0],by simp [t1],by simp,by simp [t17],by simp [t18],?_,o2,fun j hj=>?_,(ch.trans (Chg.app [])).trans' c2 (fun j hj=>.inr (nr j hj))⟩ (by omega)
   ·simp;rw [w64 (by omega) (by omega)]
   ·rcases n2 j hj with q|q
    ·exact nr j q
    ·simp at q;omega
  ·have hin:i=xs.length:=by omega
   rw [hin,List.take_length] at o
   have hlr:(shiftK b xs).length=xs.length:=by simp [shiftK]
   simp [t0,t1,t5,Wi r _ o (by omega)]
   refine Qc ?_ ?_<;>intro g2
   ·simp [t5]
    rw [shiftOf,if_pos g1,if_pos g2]
    exact ⟨o,ch,nr⟩
   ·simp
    rw [shiftOf,if_pos g1,if_neg g2]
    exact ⟨⟨.inl ⟨rfl,rfl⟩,fun x hx=>by simp at hx⟩,ch,by simp⟩
 ·simp [g1]
  rw [shiftOf,if_neg g1]
  exact nil
theorem Sz (k:Int):∀l:List Int,(insK k l).length≤l.length+1
 | []=>by simp [insK]
 | a::l=>by
  have:=Sz k l
  unfold insK
  repeat' split
  all_goals simp
  omega
theorem V8:∀(l s:List Int),(l.foldl (fun s k=>insK k s) s).length≤s.length+l.length
 | [],s=>by simp
 | k::l,s=>by
  have:=V8 l (insK k s)
  have:=Sz k s
  simp only [List.foldl_cons,List.length_cons]
  omega
end Go.Proofs.Ytaldglgobgjeaaa.V
set_option linter.all false
namespace Go.Proofs.Ytaldglgobgjeaaa.V
open Go Go.VM Go.Proofs
set_option maxRecDepth 10000
variable {frz:Nat} {H:Heap}
def castOk (w h:Int) (b T:List Int) (a:Int) (ts:List Int):Prop:=tableOk w h b T∧isN w h a∧∀x∈ts,isN w h x
instance (w h:Int) (b T:List Int) (a:Int) (ts:List Int):Decidable (castOk w h b T a ts):=inferInstanceAs (Decidable (_∧_))
def classesOk (w h:Int) (b A B:List Int):Prop:=tableOk w h b A∧tableOk w h b B
instance (w h:Int) (b A B:List Int):Decidable (classesOk w h b A B):=inferInstanceAs (Decidable (_∧_))
abbrev PkD:=Int×Int×Int×Int×Int
def packetOk (w h:Int) (p:PkD):Prop:=inR 1 p.1 9999∧isN w h p.2.1∧isN w h p.2.2.1∧p.2.1≠p.2.2.1∧inR 0 p.2.2.2.1 1∧inR 1 p.2.2.2.2 5
instance (w h:Int) (p:PkD):Decidable (packetOk w h p):=inferInstanceAs (Decidable (_∧_))
theorem Zx (w h:Int) (v u1 u2:Value) (b A B:List Int) (hI:IsI H v b) (h1:IsI H u1 A) (h2:IsI H u2 B) (hl:b.length≤1073741824) :
 vcall C frz 16 [.agg #[.int .i64 w,.int .i64 h,v],.agg #[u1,u2]] H=some (.bool (decide (classesOk w h b A B)),H):=by
 rw [Qa (fn:=Try.f16) Try.func16 rfl (by kernel_rfl) rfl]
 have one:=And.intro (And.intro h1.one' h1.cells) (And.intro h2.one' h2.cells)
 simp [hI.one',hI.cells,one,Yf _ _ _ _ _ _ (hI.app _) (h1.app _) hl]
 refine Wo _ _ ?_ ?_<;>intro g<;>simp [g,classesOk,hI.one',hI.cells,one,Yf _ _ _ _ _ _ (hI.app _) (h2.app _) hl]
end Go.Proofs.Ytaldglgobgjeaaa.V
set_option linter.all false
namespace Go.Proofs.Ytaldglgobgjeaaa.V
open Go Go.VM Go.Proofs
set_option maxRecDepth 10000
variable {frz:Nat} {H:Heap} {v:Value} {xs ys:List Int} {e:TypeId}
theorem Rc (l:List Int):(arrK l).length≤l.length:=by
 have:=V8 l []
 unfold arrK;simpa using this
theorem Nq {l:List Int} {i:Nat} {x:Int}:x∈adjN l i↔∃k,k<i∧x=keyD (G l k) (G l (k+1)):=by
 simp [adjN,eq_comm]
theorem Uk {l:List Int} {x:Int}:x∈adjK l↔∃k,k+1<l.length∧x=keyD (G l k) (G l (k+1)):=by
 unfold adjK
 rw [Nq]
 constructor<;>rintro ⟨k,h1,h2⟩<;>exact ⟨k,by omega,h2⟩
theorem O8 {w h:Int} {b T:List Int} {a to:Int} (ha:isN w h a):∀x∈adjK (walk w h b T a to),(0≤x/1024∧x/1024<64)∧0≤x%1024∧x%1024<64:=fun x hx=>by
 obtain ⟨k,h1,rfl⟩:=Uk.1 hx
 have q1:=Wc (b:=b) (T:=T) ha (to:=to) (G (walk w h b T a to) k) (by rw [Qo (by omega)];exact List.getElem_mem _)
 have q2:=Wc (b:=b) (T:=T) ha (to:=to) (G (walk w h b T a to) (k+1)) (by rw [Qo h1];exact List.getElem_mem _)
 unfold keyD
 omega
theorem Qs {w h:Int} {b T:List Int}:∀x∈depsOf w h b T,(0≤x/1024∧x/1024<64)∧0≤x%1024∧x%1024<64:=fun x hx=>by
 unfold depsOf at hx
 split at hx
 ·rw [Y8] at hx
  obtain ⟨p,hp,hx⟩:=List.mem_flatMap.1 hx
  exact O8 (Qm (We (a:=p.1) (c:=p.2).1 hp).1) x hx
 ·simp at hx
theorem U7 {w h:Int} {b T:List Int}:(depsOf w h b T).Pairwise (· < ·):=by
 unfold depsOf;split
 ·exact Us _
 ·exact List.Pairwise.nil
theorem Zh {w h:Int} {b T:List Int}:dOk (depsOf w h b T):=Pn U7 fun x hx=>by have:=Qs x hx;omega
theorem Wg (w h:Int) (b T:List Int):(depsOf w h b T).length≤65536:=by
 unfold depsOf;split
 ·have h1:=Rc (walkAdj w h b T (allPairs (cnt w h).toNat (cnt w h).toNat))
  have h2:=X5 w h b T (allPairs (cnt w h).toNat (cnt w h).toNat)
  have h3:=Wd (cnt w h).toNat (cnt w h).toNat
  have h4:(cnt w h).toNat*(cnt w h).toNat≤16*16:=Nat.mul_le_mul (by have:=Qj w h;omega) (by have:=Qj w h;omega)
  omega
 ·simp
end Go.Proofs.Ytaldglgobgjeaaa.V
set_option linter.all false
namespace Go.Proofs.Ytaldglgobgjeaaa.V
open Go Go.VM Go.Proofs
set_option maxRecDepth 10000
def ordFree (ds:List (Nat×Nat)) (ranks:List Int) (c:Nat):Prop:=ranks.getD c 0<0∧∀d∈ds,d.2=c→¬ranks.getD d.1 0<0
instance (ds:List (Nat×Nat)) (ranks:List Int) (c:Nat):Decidable (ordFree ds ranks c):=inferInstanceAs (Decidable (_∧_))
def ordNext (ds:List (Nat×Nat)) (ranks:List Int):Option Nat:=(List.range 128).find? fun c=>decide (ordFree ds ranks c)
def ordRun (ds:List (Nat×Nat)):Nat→Option (List Int)
 | 0=>some (List.replicate 128 (-1))
 | r+1=>match ordRun ds r with
  | some ranks=>match ordNext ds ranks with
   | some c=>some (ranks.set c (r:Int))
   | none=>none
  | none=>none
def orderOk (ds:List (Nat×Nat)):Prop:=ordRun ds 128≠none
instance (ds:List (Nat×Nat)):Decidable (orderOk ds):=inferInstanceAs (Decidable (_≠_))
def negs (ranks:List Int):Nat:=(ranks.filter fun x=>decide (x<0)).length
theorem Uv:∀(ranks:List Int) (c:Nat) (x:Int),c<ranks.length→ranks.getD c 0<0→0≤x→negs (ranks.set c x)+1=negs ranks
 | [],c,x,h,_,_=>by simp at h
 | a::l,0,x,_,h1,h2=>by
  have h1:a<0:=h1
  unfold negs
  rw [List.set_cons_zero,List.filter_cons_of_neg (by simp;omega),List.filter_cons_of_pos (by simp;omega)]
  rfl
 | a::l,c+1,x,h,h1,h2=>by
  have ih:=Uv l c x (by simpa using h) h1 h2
  unfold negs at ih ⊢
  rw [List.set_cons_succ,List.filter_cons,List.filter_cons]
  split
  ·simp only [List.length_cons];omega
  ·omega
theorem N7 {ranks:List Int} (h:0<negs ranks):∃c,c<ranks.length∧ranks.getD c 0<0:=by
 unfold negs at h
 obtain ⟨x,hx⟩:=List.exists_mem_of_length_pos h
 obtain ⟨h1,h2⟩:=List.mem_filter.1 hx
 obtain ⟨c,hc,rfl⟩:=List.mem_iff_getElem.1 h1
 exact ⟨c,hc,by simpa [List.getD_eq_getElem?_getD,hc] using h2⟩
theorem lowest (φ:Nat→Int) (P:Nat→Prop):∀n,(∃c,c<n∧P c)→∃c,c<n∧P c∧∀c',c'<n→P c'→φ c≤φ c'
 | 0,⟨c,h,_⟩=>by omega
 | n+1,⟨c,h,hp⟩=>by
  by_cases e:∃c,c<n∧P c
  ·obtain ⟨m,m1,m2,m3⟩:=lowest φ P n e
   by_cases q:P n∧φ n<φ m
   ·refine ⟨n,by omega,q.1,fun c' h1 h2=>?_⟩
    by_cases ec:c'=n
    ·subst ec;omega
    ·have:=m3 c' (by omega) h2;omega
   ·refine ⟨m,by omega,m2,fun c' h1 h2=>?_⟩
    by_cases ec:c'=n
    ·subst ec
     rcases Int.lt_or_le (φ c') (φ m) with k|k
     ·exact absurd ⟨h2,k⟩ q
     ·exact k
    ·exact m3 c' (by omega) h2
  ·have ec:c=n:=by
    rcases Nat.lt_or_ge c n with k|k
    ·exact absurd ⟨c,k,hp⟩ e
    ·omega
   subst ec
   refine ⟨c,h,hp,fun c' h1 h2=>?_⟩
   have:c'=c:=by
    rcases Nat.lt_or_ge c' c with k|k
    ·exact absurd ⟨c',k,h2⟩ e
    ·omega
   subst this;omega
theorem V6 {ds:List (Nat×Nat)} (hd:∀d∈ds,d.1<128) (φ:Nat→Int) (hφ:∀d∈ds,φ d.1<φ d.2):∀r,r≤128→∃ranks,ordRun ds r=some ranks∧ranks.length=128∧negs ranks=128-r
 | 0,_=>⟨_,rfl,by simp,by
  unfold negs
  rw [List.filter_eq_self.2]
  ·simp
  ·intro x hx
   rw [List.eq_of_mem_replicate hx];decide⟩
 | r+1,hr=>by
  obtain ⟨ranks,h1,h2,h3⟩:=V6 hd φ hφ r (by omega)
  obtain ⟨c0,k1,k2⟩:=N7 (ranks:=ranks) (by omega)
  obtain ⟨c,m1,m2,m3⟩:=lowest φ (fun c=>ranks.getD c 0<0) 128 ⟨c0,by omega,k2⟩
  have hf:ordFree ds ranks c:=⟨m2,fun d hdm e k=>by
   have:=m3 d.1 (hd d hdm) k
   have:=hφ d hdm
   rw [e] at this;omega⟩
  have hn:ordNext ds ranks≠none:=fun e=>by
   have:=List.find?_eq_none.1 e c (List.mem_range.2 m1)
   simp [hf] at this
  obtain ⟨c',hc'⟩:∃c',ordNext ds ranks=some c':=Option.ne_none_iff_exists'.1 hn
  have hf':ordFree ds ranks c':=by simpa using List.find?_some hc'
  have hl':c'<128:=List.mem_range.1 (List.mem_of_find?_eq_some hc')
  refine ⟨ranks.set c' (r:Int),?_,by rw [List.length_set];exact h2,?_⟩
  ·unfold ordRun;rw [h1];simp only;rw [hc']
  ·have:=Uv ranks c' (r:Int) (by omega) hf'.1 (by omega)
   omega
theorem N8 {ds:List (Nat×Nat)} (hd:∀d∈ds,d.1<128) (φ:Nat→Int) (hφ:∀d∈ds,φ d.1<φ d.2):orderOk ds:=by
 obtain ⟨ranks,h,_⟩:=V6 hd φ hφ 128 (Nat.le_refl _)
 unfold orderOk;rw [h];simp
end Go.Proofs.Ytaldglgobgjeaaa.V
set_option linter.all false
namespace Go.Proofs.Ytaldglgobgjeaaa.V
open Go Go.VM Go.Proofs
set_option maxRecDepth 10000
variable {frz:Nat} {H:Heap}
def placeP (p:Int→Bool) (b:List Int):Int:=if b.any p then b.findIdx p else -1
theorem V4 {p:Int→Bool} {b:List Int} {i:Nat} (h:i<b.length) (h1:∀x∈b.take i,p x=false) (h2:p b[i]=true):placeP p b=i:=by
 unfold placeP
 rw [if_pos (List.any_eq_true.2 ⟨b[i],List.getElem_mem h,h2⟩)]
 congr 1
 rw [List.findIdx_eq h]
 refine ⟨h2,fun j hj=>?_⟩
 refine Bool.eq_false_iff.1 ?_ |> fun hh=>by simpa using hh
 exact h1 _ (by rw [List.mem_take_iff_getElem];exact ⟨j,by omega,rfl⟩)
theorem Rr (v f:Value) (p:Int→Bool) (b:List Int) (hI:IsI H v b) (hl:b.length≤1073741824)
 (hf:∀x∈b,vclos (vcall C H.length) f [.int .i64 x] H=some (.bool (p x),H)) :
 vcall C frz 51 [v,f] H=some (.int .i64 (placeP p b),H):=by
 rw [Qa (fn:=Try.f51) Try.func51 rfl (by kernel_rfl) rfl]
 simp [hI.len]
 refine Vh (fun n t H'=>∃i:Nat,n=b.length-i∧i≤b.length∧t 0=v∧t 1=f∧t 6=v∧t 7=.int .i64 b.length∧t 8=.int .i64 i∧H'=H∧∀x∈b.take i,p x=false) ?_ (n:=b.length) ⟨0,by simp⟩
 rintro n t H' ⟨i,rfl,hi,h0,h1,h2,h3,h4,rfl,hj⟩ ih
 simp [h0,h1,h2,h3,h4,hI.len]
 refine Qw _ ?_ ?_<;>intro h5
 ·simp [h0,h1,h2,h3,h4,h5,hI.idx,hI.load,Wu,hf]
  refine G9 _ ?_ ?_<;>intro h6<;>simp [h0,h1,h2,h3,h4,h6]
  ·rw [V4 h5 hj h6]
  ·refine ih (b.length-(i+1)) _ _ ⟨i+1,rfl,by omega,by simp [h0],by simp [h1],by simp [h2],by simp [h3],?_,rfl,?_⟩ (by omega)
   ·simp;rw [w64 (by omega) (by omega)]
   ·rw [List.take_succ_eq_append_getElem h5]
    intro x hx
    rcases List.mem_append.1 hx with hx|hx
    ·exact hj x hx
    ·rw [List.mem_singleton.1 hx];exact h6
 ·have:i=b.length:=by omega
  subst this
  simp [h0,h1,h2,h3]
  rw [List.take_length] at hj
  rw [placeP,if_neg]
  rw [List.any_eq_true]
  rintro ⟨x,hx,hp⟩
  rw [hj x hx] at hp;cases hp
end Go.Proofs.Ytaldglgobgjeaaa.V
set_option linter.all false
namespace Go.Proofs.Ytaldglgobgjeaaa.V
open Go Go.VM Go.Proofs
set_option maxRecDepth 10000
variable {frz:Nat} {H:Heap} {v:Value} {xs ys:List Int} {e:TypeId}
theorem Q8 {z:Value} {ws:List Int} (hz:IsI H z ws) {k:Nat} (hk:k<ws.length):vindexAddr Try.prog H 26 z (.int .i64 k)=some (elp z k)∧vload Try.prog H 3 (elp z k)=some (.int .i64 (G ws k)):=by
 refine ⟨?_,hz.load (by simp) hk⟩
 have:=hz.idx (P:=Try.prog) (ty:=26) (e:=3) (by simp) (i:=(k:Int)) (by omega) (by omega)
 simpa using this
theorem Ll (v:Value) (l:List Int) (hI:IsI H v l) (hne:0<l.length) (hl:l.length≤1073741824):vcall C frz 34 [v] H=some (.slice (some ⟨H.length,0,some 0⟩) l.length 0,H++[⟨l.map (.int .i64),0,3⟩]):=by
 rw [Qa (fn:=Try.f34) Try.func34 rfl (by kernel_rfl) rfl]
 have hsrc:=(hI.app [⟨[],0,3⟩]).src
 rcases hI with ⟨rfl,rfl⟩|⟨id,off,r,rfl,h2,h3⟩
 ·simp at hne
 have h0:¬l.length=0:=by omega
 simp [hsrc,h0,hl,vnilq,VM.look,h2]
 done
end Go.Proofs.Ytaldglgobgjeaaa.V
