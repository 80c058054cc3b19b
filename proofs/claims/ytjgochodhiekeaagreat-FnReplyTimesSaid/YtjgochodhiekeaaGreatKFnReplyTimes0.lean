/- Texts of a proof, joined. -/
import Derived.Test.YtjgochodhiekeaaGreatProg
import Derived.KernelRfl
import Derived.Test.YtjgochodhiekeaaGreatKM0
import Derived.Test.YtjgochodhiekeaaGreatKM1
namespace Go.Proofs.YtjgochodhiekeaaGreat.V
open Go Go.VM Go.Proofs
noncomputable def C:Ctx:={ P:=Tryz.prog,mode:=fun g=>if [11,13,14,18,21,22,31,61,64,84,124].contains g then 2 else if [5,6,10,12,25,30,35,36,37,38,39,40,41,42,45,46,47,57,58,59,67,69,70,72,75,76,77,81,89,90,91,94,96,97,101,103,105,106,108,109,114,121,125].contains g then 1 else 0,ext:=fun _=>none }
@[simp] theorem CP:C.P=Tryz.prog:=rfl
theorem drawn:DrawOk C:=O9 C (by kernel_rfl)
@[simp] theorem mode0:C.mode 0=0:=rfl
@[simp] theorem mode1:C.mode 1=0:=rfl
@[simp] theorem mode2:C.mode 2=0:=rfl
@[simp] theorem mode3:C.mode 3=0:=rfl
@[simp] theorem mode4:C.mode 4=0:=rfl
@[simp] theorem mode5:C.mode 5=1:=rfl
@[simp] theorem mode6:C.mode 6=1:=rfl
@[simp] theorem mode7:C.mode 7=0:=rfl
@[simp] theorem mode8:C.mode 8=0:=rfl
@[simp] theorem mode9:C.mode 9=0:=rfl
@[simp] theorem mode10:C.mode 10=1:=rfl
@[simp] theorem mode11:C.mode 11=2:=rfl
@[simp] theorem mode12:C.mode 12=1:=rfl
@[simp] theorem mode13:C.mode 13=2:=rfl
@[simp] theorem mode14:C.mode 14=2:=rfl
@[simp] theorem mode15:C.mode 15=0:=rfl
@[simp] theorem mode16:C.mode 16=0:=rfl
@[simp] theorem mode17:C.mode 17=0:=rfl
@[simp] theorem mode18:C.mode 18=2:=rfl
@[simp] theorem mode19:C.mode 19=0:=rfl
@[simp] theorem mode20:C.mode 20=0:=rfl
@[simp] theorem mode21:C.mode 21=2:=rfl
@[simp] theorem mode22:C.mode 22=2:=rfl
@[simp] theorem mode23:C.mode 23=0:=rfl
@[simp] theorem mode24:C.mode 24=0:=rfl
@[simp] theorem mode25:C.mode 25=1:=rfl
@[simp] theorem mode26:C.mode 26=0:=rfl
@[simp] theorem mode27:C.mode 27=0:=rfl
@[simp] theorem mode28:C.mode 28=0:=rfl
@[simp] theorem mode29:C.mode 29=0:=rfl
@[simp] theorem mode30:C.mode 30=1:=rfl
@[simp] theorem mode31:C.mode 31=2:=rfl
@[simp] theorem mode32:C.mode 32=0:=rfl
@[simp] theorem mode33:C.mode 33=0:=rfl
@[simp] theorem mode34:C.mode 34=0:=rfl
@[simp] theorem mode35:C.mode 35=1:=rfl
@[simp] theorem mode36:C.mode 36=1:=rfl
@[simp] theorem mode37:C.mode 37=1:=rfl
@[simp] theorem mode38:C.mode 38=1:=rfl
@[simp] theorem mode39:C.mode 39=1:=rfl
@[simp] theorem mode40:C.mode 40=1:=rfl
@[simp] theorem mode41:C.mode 41=1:=rfl
@[simp] theorem mode42:C.mode 42=1:=rfl
@[simp] theorem mode43:C.mode 43=0:=rfl
@[simp] theorem mode44:C.mode 44=0:=rfl
@[simp] theorem mode45:C.mode 45=1:=rfl
@[simp] theorem mode46:C.mode 46=1:=rfl
@[simp] theorem mode47:C.mode 47=1:=rfl
@[simp] theorem mode48:C.mode 48=0:=rfl
@[simp] theorem mode49:C.mode 49=0:=rfl
@[simp] theorem mode50:C.mode 50=0:=rfl
@[simp] theorem mode51:C.mode 51=0:=rfl
@[simp] theorem mode52:C.mode 52=0:=rfl
@[simp] theorem mode53:C.mode 53=0:=rfl
@[simp] theorem mode54:C.mode 54=0:=rfl
@[simp] theorem mode55:C.mode 55=0:=rfl
@[simp] theorem mode56:C.mode 56=0:=rfl
@[simp] theorem mode57:C.mode 57=1:=rfl
@[simp] theorem mode58:C.mode 58=1:=rfl
@[simp] theorem mode59:C.mode 59=1:=rfl
@[simp] theorem mode60:C.mode 60=0:=rfl
@[simp] theorem mode61:C.mode 61=2:=rfl
@[simp] theorem mode62:C.mode 62=0:=rfl
@[simp] theorem mode63:C.mode 63=0:=rfl
@[simp] theorem mode64:C.mode 64=2:=rfl
@[simp] theorem mode65:C.mode 65=0:=rfl
@[simp] theorem mode66:C.mode 66=0:=rfl
@[simp] theorem mode67:C.mode 67=1:=rfl
@[simp] theorem mode68:C.mode 68=0:=rfl
@[simp] theorem mode69:C.mode 69=1:=rfl
@[simp] theorem mode70:C.mode 70=1:=rfl
@[simp] theorem mode71:C.mode 71=0:=rfl
@[simp] theorem mode72:C.mode 72=1:=rfl
@[simp] theorem mode73:C.mode 73=0:=rfl
@[simp] theorem mode74:C.mode 74=0:=rfl
@[simp] theorem mode75:C.mode 75=1:=rfl
@[simp] theorem mode76:C.mode 76=1:=rfl
@[simp] theorem mode77:C.mode 77=1:=rfl
@[simp] theorem mode78:C.mode 78=0:=rfl
@[simp] theorem mode79:C.mode 79=0:=rfl
@[simp] theorem mode80:C.mode 80=0:=rfl
@[simp] theorem mode81:C.mode 81=1:=rfl
@[simp] theorem mode82:C.mode 82=0:=rfl
@[simp] theorem mode83:C.mode 83=0:=rfl
@[simp] theorem mode84:C.mode 84=2:=rfl
@[simp] theorem mode85:C.mode 85=0:=rfl
@[simp] theorem mode86:C.mode 86=0:=rfl
@[simp] theorem mode87:C.mode 87=0:=rfl
@[simp] theorem mode88:C.mode 88=0:=rfl
@[simp] theorem mode89:C.mode 89=1:=rfl
@[simp] theorem mode90:C.mode 90=1:=rfl
@[simp] theorem mode91:C.mode 91=1:=rfl
@[simp] theorem mode92:C.mode 92=0:=rfl
@[simp] theorem mode93:C.mode 93=0:=rfl
@[simp] theorem mode94:C.mode 94=1:=rfl
@[simp] theorem mode95:C.mode 95=0:=rfl
@[simp] theorem mode96:C.mode 96=1:=rfl
@[simp] theorem mode97:C.mode 97=1:=rfl
@[simp] theorem mode98:C.mode 98=0:=rfl
@[simp] theorem mode99:C.mode 99=0:=rfl
@[simp] theorem mode100:C.mode 100=0:=rfl
@[simp] theorem mode101:C.mode 101=1:=rfl
@[simp] theorem mode102:C.mode 102=0:=rfl
@[simp] theorem mode103:C.mode 103=1:=rfl
@[simp] theorem mode104:C.mode 104=0:=rfl
@[simp] theorem mode105:C.mode 105=1:=rfl
@[simp] theorem mode106:C.mode 106=1:=rfl
@[simp] theorem mode107:C.mode 107=0:=rfl
@[simp] theorem mode108:C.mode 108=1:=rfl
@[simp] theorem mode109:C.mode 109=1:=rfl
@[simp] theorem mode110:C.mode 110=0:=rfl
@[simp] theorem mode111:C.mode 111=0:=rfl
@[simp] theorem mode112:C.mode 112=0:=rfl
@[simp] theorem mode113:C.mode 113=0:=rfl
@[simp] theorem mode114:C.mode 114=1:=rfl
@[simp] theorem mode115:C.mode 115=0:=rfl
@[simp] theorem mode116:C.mode 116=0:=rfl
@[simp] theorem mode117:C.mode 117=0:=rfl
@[simp] theorem mode118:C.mode 118=0:=rfl
@[simp] theorem mode119:C.mode 119=0:=rfl
@[simp] theorem mode120:C.mode 120=0:=rfl
@[simp] theorem mode121:C.mode 121=1:=rfl
@[simp] theorem mode122:C.mode 122=0:=rfl
@[simp] theorem mode123:C.mode 123=0:=rfl
@[simp] theorem mode124:C.mode 124=2:=rfl
@[simp] theorem mode125:C.mode 125=1:=rfl
@[simp] theorem mode126:C.mode 126=0:=rfl
@[simp] theorem mode127:C.mode 127=0:=rfl
@[simp] theorem mode128:C.mode 128=0:=rfl
@[simp] theorem mode129:C.mode 129=0:=rfl
@[simp] theorem mode130:C.mode 130=0:=rfl
@[simp] theorem mode131:C.mode 131=0:=rfl
@[simp] theorem mode132:C.mode 132=0:=rfl
@[simp] theorem mode133:C.mode 133=0:=rfl
@[simp] theorem mode134:C.mode 134=0:=rfl
@[simp] theorem mode135:C.mode 135=0:=rfl
@[simp] theorem mode136:C.mode 136=0:=rfl
@[simp] theorem mode137:C.mode 137=0:=rfl
@[simp] theorem mode138:C.mode 138=0:=rfl
@[simp] theorem mode139:C.mode 139=0:=rfl
@[simp] theorem mode140:C.mode 140=0:=rfl
@[simp] theorem mode141:C.mode 141=0:=rfl
@[simp] theorem mode142:C.mode 142=0:=rfl
@[simp] theorem mode143:C.mode 143=0:=rfl
@[simp] theorem mode144:C.mode 144=0:=rfl
@[simp] theorem mode145:C.mode 145=0:=rfl
@[simp] theorem mode146:C.mode 146=0:=rfl
@[simp] theorem mode147:C.mode 147=0:=rfl
@[simp] theorem mode148:C.mode 148=0:=rfl
@[simp] theorem mode149:C.mode 149=0:=rfl
@[simp] theorem mode150:C.mode 150=0:=rfl
@[simp] theorem tsz3:tsz Tryz.prog 3=some (false,1):=by kernel_rfl
@[simp] theorem tzero3:tzero Tryz.prog 3=some [.int .i64 0]:=by kernel_rfl
@[simp] theorem tsz4:tsz Tryz.prog 4=some (false,1):=by kernel_rfl
@[simp] theorem tzero4:tzero Tryz.prog 4=some [.bool false]:=by kernel_rfl
@[simp] theorem tsz5:tsz Tryz.prog 5=some (false,1):=by kernel_rfl
@[simp] theorem tsz22:tsz Tryz.prog 22=some (false,1):=by kernel_rfl
@[simp] theorem eltp22:eltp Tryz.prog 22=some (5,1):=by kernel_rfl
@[simp] theorem isSl22:isSl Tryz.prog 22=true:=by kernel_rfl
@[simp] theorem tsz25:tsz Tryz.prog 25=some (true,2):=by kernel_rfl
@[simp] theorem tzero25:tzero Tryz.prog 25=some [.int .i64 0,.int .i64 0]:=by kernel_rfl
@[simp] theorem A5:finfo Tryz.prog 25 0=some (0,false,1):=by kernel_rfl
@[simp] theorem A8:finfo Tryz.prog 25 1=some (1,false,1):=by kernel_rfl
@[simp] theorem bplaces25:bplaces Tryz.prog 25=some [(0,1),(1,1)]:=by kernel_rfl
@[simp] theorem tsz26:tsz Tryz.prog 26=some (false,1):=by kernel_rfl
@[simp] theorem eltp26:eltp Tryz.prog 26=some (3,1):=by kernel_rfl
@[simp] theorem isSl26:isSl Tryz.prog 26=true:=by kernel_rfl
@[simp] theorem tsz28:tsz Tryz.prog 28=some (true,3):=by kernel_rfl
@[simp] theorem tzero28:tzero Tryz.prog 28=some [.int .i64 0,.int .i64 0,.slice none 0 0]:=by kernel_rfl
@[simp] theorem qu:finfo Tryz.prog 28 0=some (0,true,2):=by kernel_rfl
@[simp] theorem qi:finfo Tryz.prog 28 1=some (2,false,1):=by kernel_rfl
@[simp] theorem bplaces28:bplaces Tryz.prog 28=some [(0,2),(2,1)]:=by kernel_rfl
@[simp] theorem tsz30:tsz Tryz.prog 30=some (true,1):=by kernel_rfl
@[simp] theorem tzero30:tzero Tryz.prog 30=some [.slice none 0 0]:=by kernel_rfl
@[simp] theorem qm:finfo Tryz.prog 30 0=some (0,false,1):=by kernel_rfl
@[simp] theorem bplaces30:bplaces Tryz.prog 30=some [(0,1)]:=by kernel_rfl
@[simp] theorem tsz32:tsz Tryz.prog 32=some (true,2):=by kernel_rfl
@[simp] theorem tzero32:tzero Tryz.prog 32=some [.slice none 0 0,.slice none 0 0]:=by kernel_rfl
@[simp] theorem qc:finfo Tryz.prog 32 0=some (0,true,1):=by kernel_rfl
@[simp] theorem qg:finfo Tryz.prog 32 1=some (1,true,1):=by kernel_rfl
@[simp] theorem bplaces32:bplaces Tryz.prog 32=some [(0,1),(1,1)]:=by kernel_rfl
@[simp] theorem eltp33:eltp Tryz.prog 33=some (38,5):=by kernel_rfl
@[simp] theorem isSl33:isSl Tryz.prog 33=true:=by kernel_rfl
@[simp] theorem tsz38:tsz Tryz.prog 38=some (true,5):=by kernel_rfl
@[simp] theorem tzero38:tzero Tryz.prog 38=some [.int .i64 0,.int .i64 0,.int .i64 0,.int .i64 0,.int .i64 0]:=by kernel_rfl
@[simp] theorem A9:finfo Tryz.prog 38 0=some (0,false,1):=by kernel_rfl
@[simp] theorem Ay:finfo Tryz.prog 38 1=some (1,false,1):=by kernel_rfl
@[simp] theorem Aw:finfo Tryz.prog 38 2=some (2,false,1):=by kernel_rfl
@[simp] theorem wg:finfo Tryz.prog 38 3=some (3,false,1):=by kernel_rfl
@[simp] theorem A6:finfo Tryz.prog 38 4=some (4,false,1):=by kernel_rfl
@[simp] theorem bplaces38:bplaces Tryz.prog 38=some [(0,1),(1,1),(2,1),(3,1),(4,1)]:=by kernel_rfl
@[simp] theorem tzero49:tzero Tryz.prog 49=some [.slice none 0 0,.int .i64 0,.int .i64 0]:=by kernel_rfl
@[simp] theorem qz:finfo Tryz.prog 49 0=some (0,false,1):=by kernel_rfl
@[simp] theorem qd:finfo Tryz.prog 49 1=some (1,false,1):=by kernel_rfl
@[simp] theorem qy:finfo Tryz.prog 49 2=some (2,false,1):=by kernel_rfl
@[simp] theorem bplaces49:bplaces Tryz.prog 49=some [(0,1),(1,1),(2,1)]:=by kernel_rfl
@[simp] theorem tsz55:tsz Tryz.prog 55=some (false,1):=by kernel_rfl
@[simp] theorem eltp55:eltp Tryz.prog 55=some (100,1):=by kernel_rfl
@[simp] theorem isSl55:isSl Tryz.prog 55=true:=by kernel_rfl
@[simp] theorem tsz57:tsz Tryz.prog 57=some (true,11):=by kernel_rfl
@[simp] theorem tzero57:tzero Tryz.prog 57=some [.int .i64 0,.int .i64 0,.slice none 0 0,.slice none 0 0,.slice none 0 0,.slice none 0 0,.slice none 0 0,.slice none 0 0,.slice none 0 0,.slice none 0 0,.int .i64 0]:=by kernel_rfl
@[simp] theorem qv:finfo Tryz.prog 57 0=some (0,true,3):=by kernel_rfl
@[simp] theorem qw:finfo Tryz.prog 57 1=some (3,true,2):=by kernel_rfl
@[simp] theorem wd:finfo Tryz.prog 57 2=some (5,false,1):=by kernel_rfl
@[simp] theorem qs:finfo Tryz.prog 57 3=some (6,false,1):=by kernel_rfl
@[simp] theorem wm:finfo Tryz.prog 57 4=some (7,false,1):=by kernel_rfl
@[simp] theorem qo:finfo Tryz.prog 57 5=some (8,false,1):=by kernel_rfl
@[simp] theorem ql:finfo Tryz.prog 57 6=some (9,false,1):=by kernel_rfl
@[simp] theorem we:finfo Tryz.prog 57 7=some (10,false,1):=by kernel_rfl
@[simp] theorem bplaces57:bplaces Tryz.prog 57=some [(0,3),(3,2),(5,1),(6,1),(7,1),(8,1),(9,1),(10,1)]:=by kernel_rfl
@[simp] theorem eltp76:eltp Tryz.prog 76=some (107,3):=by kernel_rfl
@[simp] theorem isSl76:isSl Tryz.prog 76=true:=by kernel_rfl
@[simp] theorem tsz100:tsz Tryz.prog 100=some (false,1):=by kernel_rfl
@[simp] theorem tzero100:tzero Tryz.prog 100=some [.slice none 0 0]:=by kernel_rfl
@[simp] theorem eltp100:eltp Tryz.prog 100=some (103,5):=by kernel_rfl
@[simp] theorem isSl100:isSl Tryz.prog 100=true:=by kernel_rfl
@[simp] theorem tsz103:tsz Tryz.prog 103=some (true,5):=by kernel_rfl
@[simp] theorem tzero103:tzero Tryz.prog 103=some [.int .i64 0,.int .i64 0,.int .i64 0,.bool false,.bool false]:=by kernel_rfl
@[simp] theorem Bo:finfo Tryz.prog 103 0=some (0,false,1):=by kernel_rfl
@[simp] theorem Al:finfo Tryz.prog 103 1=some (1,false,1):=by kernel_rfl
@[simp] theorem B0:finfo Tryz.prog 103 2=some (2,false,1):=by kernel_rfl
@[simp] theorem Aj:finfo Tryz.prog 103 3=some (3,false,1):=by kernel_rfl
@[simp] theorem Bm:finfo Tryz.prog 103 4=some (4,false,1):=by kernel_rfl
@[simp] theorem flatN103:flatN Tryz.prog 103=some [0,0,0,1,1]:=by kernel_rfl
@[simp] theorem bplaces103:bplaces Tryz.prog 103=some [(0,1),(1,1),(2,1),(3,1),(4,1)]:=by kernel_rfl
@[simp] theorem tsz107:tsz Tryz.prog 107=some (true,3):=by kernel_rfl
@[simp] theorem tzero107:tzero Tryz.prog 107=some [.int .i64 0,.int .i64 0,.int .i64 0]:=by kernel_rfl
@[simp] theorem Bq:finfo Tryz.prog 107 0=some (0,false,1):=by kernel_rfl
@[simp] theorem B7:finfo Tryz.prog 107 1=some (1,false,1):=by kernel_rfl
@[simp] theorem B8:finfo Tryz.prog 107 2=some (2,false,1):=by kernel_rfl
@[simp] theorem bplaces107:bplaces Tryz.prog 107=some [(0,1),(1,1),(2,1)]:=by kernel_rfl
@[simp] theorem eltp127:eltp Tryz.prog 127=some (4,1):=by kernel_rfl
@[simp] theorem tsz132:tsz Tryz.prog 132=some (true,5):=by kernel_rfl
@[simp] theorem tzero132:tzero Tryz.prog 132=some [.bool false,.bool false,.bool false,.bool false,.bool false]:=by kernel_rfl
@[simp] theorem arrp132:arrp Tryz.prog 132=some (5,1):=by kernel_rfl
end Go.Proofs.YtjgochodhiekeaaGreat.V
set_option linter.all false
namespace Go.Proofs.YtjgochodhiekeaaGreat.V
open Go Go.VM
def rd (b:List Int) (j:Int):Int:=b.getD j.toNat 0
def inR (lo n hi:Int):Prop:=lo≤n∧n≤hi
instance (lo n hi:Int):Decidable (inR lo n hi):=inferInstanceAs (Decidable (_∧_))
def okG (w h:Int):Prop:=(1≤w∧w≤4)∧1≤h∧h≤4
instance (w h:Int):Decidable (okG w h):=inferInstanceAs (Decidable (_∧_))
def cnt (w h:Int):Int:=if okG w h then w*h else 0
def isN (w h n:Int):Prop:=0≤n∧n<cnt w h
instance (w h n:Int):Decidable (isN w h n):=inferInstanceAs (Decidable (_∧_))
def nodeAt (w h x y:Int):Int:=if okG w h∧(0≤x∧x<w)∧0≤y∧y<h then y*w+x else -1
def next (w h n p:Int):Int:=
 if isN w h n then
  (if p=0 then nodeAt w h (n%w) (n/w-1) else if p=1 then nodeAt w h (n%w+1) (n/w) else if p=2 then nodeAt w h (n%w) (n/w+1)
   else if p=3 then nodeAt w h (n%w-1) (n/w) else if p=4 then n else -1)
 else -1
def leads (w h c:Int):Prop:=(0≤c∧c<4*cnt w h)∧0≤next w h (c/4) (c%4)
instance (w h c:Int):Decidable (leads w h c):=inferInstanceAs (Decidable (_∧_))
def opp (p:Int):Int:=if p=4 then 4 else if 0≤p∧p≤3 then (p+2)%4 else -1
def goodAt (w h:Int) (b:List Int) (j:Nat):Prop:=leads w h (b.getD j 0)∧(0<j→b.getD (j-1) 0<b.getD j 0)
instance (w h:Int) (b:List Int) (j:Nat):Decidable (goodAt w h b j):=inferInstanceAs (Decidable (_∧_))
def meshOk (w h:Int) (b:List Int):Prop:=(∀j,j<b.length→goodAt w h b j)∧okG w h
instance (w h:Int) (b:List Int):Decidable (meshOk w h b):=inferInstanceAs (Decidable (_∧_))
def has (w h:Int) (b:List Int) (c:Int):Prop:=leads w h c∧c∉b
instance (w h:Int) (b:List Int) (c:Int):Decidable (has w h b c):=inferInstanceAs (Decidable (_∧_))
theorem X4 {w h:Int} (h1:okG w h):1≤w*h∧w*h≤16:=by
 obtain ⟨⟨a1,a2⟩,b1,b2⟩:=h1
 have c1:1*1≤w*h:=Int.mul_le_mul a1 b1 (by omega) (by omega)
 have c2:w*h≤4*4:=Int.mul_le_mul a2 b2 (by omega) (by omega)
 omega
theorem Qg (w h:Int):0≤cnt w h∧cnt w h≤16:=by
 unfold cnt;split
 ·rename_i h1;have:=X4 h1;omega
 ·omega
theorem Sp {w h n:Int} (h1:isN w h n):okG w h∧0≤n∧n<w*h∧n<16:=by
 obtain ⟨a,b⟩:=h1
 have:=Qg w h
 unfold cnt at b;split at b
 ·rename_i hg;have:=X4 hg;exact ⟨hg,a,b,by omega⟩
 ·omega
theorem w64 {x:Int} (h1 : -9223372036854775808≤x) (h2:x≤9223372036854775807):IntKind.i64.wrap x=x:=by rw [IntKind.wrap_i64];omega
theorem w6 (x:Int) (h : -9223372036854775808≤x∧x≤9223372036854775807):∀[Inhabited Unit],IntKind.i64.wrap x=x:=by intro _;exact w64 h.1 h.2
end Go.Proofs.YtjgochodhiekeaaGreat.V
set_option linter.all false
namespace Go.Proofs.YtjgochodhiekeaaGreat.V
open Go Go.VM Go.Proofs
set_option maxRecDepth 10000
variable {frz:Nat} {H:Heap}
theorem Qr (n lo hi:Int):vcall C frz 49 [.int .i64 n,.int .i64 lo,.int .i64 hi] H=some (.bool (decide (inR lo n hi)),H):=by
 rw [Qb (fn:=Tryz.f49) Tryz.func49 rfl (by kernel_rfl) rfl]
 simp
 repeat' (first|refine Wh _ _ ?_ ?_|refine Qp _ ?_ ?_)<;>intro h<;>simp [h,inR]
theorem Wa (n lo hi:Int):vcall C frz 56 [.int .i64 n,.int .i64 lo,.int .i64 hi] H=some (.bool (decide (inR lo n hi)),H):=by
 rw [Qb (fn:=Tryz.f56) Tryz.func56 rfl (by kernel_rfl) rfl]
 simp
 repeat' (first|refine Wh _ _ ?_ ?_|refine Qp _ ?_ ?_)<;>intro h<;>simp [h,inR]
theorem R4 (w h:Int):vcall C frz 87 [.agg #[.int .i64 w,.int .i64 h]] H=some (.bool (decide (okG w h)),H):=by
 rw [Qb (fn:=Tryz.f87) Tryz.func87 rfl (by kernel_rfl) rfl]
 simp [Qr]
 refine Wh _ _ ?_ ?_<;>intro h1<;>simp [h1,Qr]
 ·have:okG w h↔inR 1 h 4:=⟨fun g=>g.2,fun g=>⟨h1,g⟩⟩
  simp [this]
 ·exact fun g=>h1 g.1
theorem Vw (w h:Int):vcall C frz 32 [.agg #[.int .i64 w,.int .i64 h]] H=some (.bool (decide (okG w h)),H):=by
 rw [Qb (fn:=Tryz.f32) Tryz.func32 rfl (by kernel_rfl) rfl]
 simp [Wa]
 refine Wh _ _ ?_ ?_<;>intro h1<;>simp [h1,Wa]
 ·have:okG w h↔inR 1 h 4:=⟨fun g=>g.2,fun g=>⟨h1,g⟩⟩
  simp [this]
 ·exact fun g=>h1 g.1
theorem Wj (w h:Int):vcall C frz 54 [.agg #[.int .i64 w,.int .i64 h]] H=some (.int .i64 (cnt w h),H):=by
 rw [Qb (fn:=Tryz.f54) Tryz.func54 rfl (by kernel_rfl) rfl]
 simp [R4]
 refine Qp _ ?_ ?_<;>intro h1<;>simp [h1,cnt]
 have:=X4 h1
 exact w64 (by omega) (by omega)
theorem Qw (w h:Int):vcall C frz 19 [.agg #[.int .i64 w,.int .i64 h]] H=some (.int .i64 (cnt w h),H):=by
 rw [Qb (fn:=Tryz.f19) Tryz.func19 rfl (by kernel_rfl) rfl]
 simp [Vw]
 refine Qp _ ?_ ?_<;>intro h1<;>simp [h1,cnt]
 have:=X4 h1
 exact w64 (by omega) (by omega)
theorem Nj (w h n:Int):inR 0 n (IntKind.i64.wrap (cnt w h-1))↔isN w h n:=by
 have:=Qg w h
 rw [w64 (by omega) (by omega)]
 simp only [inR,isN];omega
theorem W8 (w h n:Int):vcall C frz 50 [.agg #[.int .i64 w,.int .i64 h],.int .i64 n] H=some (.bool (decide (isN w h n)),H):=by
 rw [Qb (fn:=Tryz.f50) Tryz.func50 rfl (by kernel_rfl) rfl]
 simp [Wj,Qr,Nj]
theorem Xp (w h n:Int):vcall C frz 104 [.agg #[.int .i64 w,.int .i64 h],.int .i64 n] H=some (.bool (decide (isN w h n)),H):=by
 rw [Qb (fn:=Tryz.f104) Tryz.func104 rfl (by kernel_rfl) rfl]
 simp [Qw,Wa,Nj]
theorem F3 (w h x y:Int) (h1:okG w h):(inR 0 x (IntKind.i64.wrap (w-1))↔0≤x∧x<w)∧(inR 0 y (IntKind.i64.wrap (h-1))↔0≤y∧y<h):=by
 obtain ⟨⟨a1,a2⟩,b1,b2⟩:=h1
 rw [w64 (by omega) (by omega),w64 (by omega) (by omega)]
 simp only [inR];omega
theorem E7 {w h x y:Int} (h1:okG w h) (h2:0≤x∧x<w) (h3:0≤y∧y<h):IntKind.i64.wrap (IntKind.i64.wrap (y*w)+x)=y*w+x:=by
 have hm:=X4 h1
 obtain ⟨⟨a1,a2⟩,b1,b2⟩:=h1
 have c1:0*0≤y*w:=Int.mul_le_mul h3.1 (by omega) (by omega) (by omega)
 have c2:y*w≤h*w:=Int.mul_le_mul_of_nonneg_right (by omega) (by omega)
 rw [Int.mul_comm h w] at c2
 rw [w64 (x:=y*w) (by omega) (by omega),w64 (by omega) (by omega)]
theorem Zt (w h x y:Int):vcall C frz 113 [.agg #[.int .i64 w,.int .i64 h],.int .i64 x,.int .i64 y] H=some (.int .i64 (nodeAt w h x y),H):=by
 rw [Qb (fn:=Tryz.f113) Tryz.func113 rfl (by kernel_rfl) rfl]
 simp [R4]
 refine Wh _ _ ?_ ?_<;>intro h1<;>simp [h1,Qr,nodeAt]
 obtain ⟨e1,e2⟩:=F3 w h x y h1
 simp only [e1,e2]
 refine Wh _ _ ?_ ?_<;>intro h2<;>simp [h2,Qr]
 simp only [e2]
 refine Qp _ ?_ ?_<;>intro h3<;>simp [h3]
 exact E7 h1 h2 h3
theorem Yn (w h x y:Int):vcall C frz 112 [.agg #[.int .i64 w,.int .i64 h],.int .i64 x,.int .i64 y] H=some (.int .i64 (nodeAt w h x y),H):=by
 rw [Qb (fn:=Tryz.f112) Tryz.func112 rfl (by kernel_rfl) rfl]
 simp [Vw]
 refine Wh _ _ ?_ ?_<;>intro h1<;>simp [h1,Wa,nodeAt]
 obtain ⟨e1,e2⟩:=F3 w h x y h1
 simp only [e1,e2]
 refine Wh _ _ ?_ ?_<;>intro h2<;>simp [h2,Wa]
 simp only [e2]
 refine Qp _ ?_ ?_<;>intro h3<;>simp [h3]
 exact E7 h1 h2 h3
theorem Ih {n w:Int} (h:0≤n) (h1:1≤w) (h2:n<16):IntKind.i64.wrap (n.tdiv w)=n/w:=by
 rw [Int.tdiv_eq_ediv_of_nonneg h]
 have h3:=Int.ediv_le_self w h
 have h4:=Int.ediv_nonneg h (by omega:0≤w)
 exact w64 (by omega) (by omega)
theorem Ia {n w:Int} (h:0≤n):n.tmod w=n%w:=Int.tmod_eq_emod_of_nonneg h
theorem P9 {n w:Int} (h:0≤n) (h1:1≤w) (h2:n<16):0≤n/w∧n/w<16:=⟨Int.ediv_nonneg h (by omega),by have:=Int.ediv_le_self w h;omega⟩
theorem Pv {n w:Int} (h1:1≤w) (h2:w≤4):0≤n%w∧n%w<4:=⟨Int.emod_nonneg _ (by omega),by have:=Int.emod_lt_of_pos n (by omega:0<w);omega⟩
theorem Su (w h n p:Int):vcall C frz 88 [.agg #[.int .i64 w,.int .i64 h],.int .i64 n,.int .i64 p] H=some (.int .i64 (next w h n p),H):=by
 rw [Qb (fn:=Tryz.f88) Tryz.func88 rfl (by kernel_rfl) rfl]
 simp [W8]
 refine Qp _ ?_ ?_<;>intro h1<;>simp [h1,next]
 obtain ⟨⟨⟨a1,a2⟩,b1,b2⟩,g2,g3,g4⟩:=Sp h1
 rw [Qo (h:=by kernel_rfl)]
 simp
 refine Yp (by omega) ?_
 refine Yp (by omega) ?_
 obtain ⟨d1,d2⟩:=P9 g2 a1 g4
 obtain ⟨m1,m2⟩:=Pv (n:=n) a1 a2
 rw [Ih g2 a1 g4,Ia g2]
 refine Qp _ ?_ ?_<;>intro p0<;>simp [p0,Zt]
 ·rw [w64 (by omega) (by omega)]
 refine Qp _ ?_ ?_<;>intro p1<;>simp [p1,Zt]
 ·rw [w64 (by omega) (by omega)]
 refine Qp _ ?_ ?_<;>intro p2<;>simp [p2,Zt]
 ·rw [w64 (by omega) (by omega)]
 refine Qp _ ?_ ?_<;>intro p3<;>simp [p3,Zt]
 ·rw [w64 (by omega) (by omega)]
 refine Qp _ ?_ ?_<;>intro p4<;>simp [p4,Zt]
theorem Yd (w h n p:Int):vcall C frz 82 [.agg #[.int .i64 w,.int .i64 h],.int .i64 n,.int .i64 p] H=some (.int .i64 (next w h n p),H):=by
 rw [Qb (fn:=Tryz.f82) Tryz.func82 rfl (by kernel_rfl) rfl]
 simp [Xp]
 refine Qp _ ?_ ?_<;>intro h1<;>simp [h1,next]
 obtain ⟨⟨⟨a1,a2⟩,b1,b2⟩,g2,g3,g4⟩:=Sp h1
 refine Yp (by omega) ?_
 refine Yp (by omega) ?_
 obtain ⟨d1,d2⟩:=P9 g2 a1 g4
 obtain ⟨m1,m2⟩:=Pv (n:=n) a1 a2
 rw [Ih g2 a1 g4,Ia g2]
 refine Qp _ ?_ ?_<;>intro p0<;>simp [p0,Yn]
 ·rw [w64 (by omega) (by omega)]
 refine Qp _ ?_ ?_<;>intro p1<;>simp [p1,Yn]
 ·rw [w64 (by omega) (by omega)]
 refine Qp _ ?_ ?_<;>intro p2<;>simp [p2,Yn]
 ·rw [w64 (by omega) (by omega)]
 refine Qp _ ?_ ?_<;>intro p3<;>simp [p3,Yn]
 ·rw [w64 (by omega) (by omega)]
 refine Qp _ ?_ ?_<;>intro p4<;>simp [p4,Yn]
theorem Vm (w h c:Int):inR 0 c (IntKind.i64.wrap (IntKind.i64.wrap (4*cnt w h)-1))↔0≤c∧c<4*cnt w h:=by
 have:=Qg w h
 rw [w64 (x:=4*cnt w h) (by omega) (by omega),w64 (by omega) (by omega)]
 simp only [inR];omega
theorem Se {w h c:Int} (h1:0≤c∧c<4*cnt w h):IntKind.i64.wrap (c.tdiv 4)=c/4∧c.tmod 4=c%4:=by
 have:=Qg w h
 rw [Int.tdiv_eq_ediv_of_nonneg h1.1,Int.tmod_eq_emod_of_nonneg h1.1]
 exact ⟨w64 (by omega) (by omega),rfl⟩
theorem O0 (w h c:Int):vcall C frz 86 [.agg #[.int .i64 w,.int .i64 h],.int .i64 c] H=some (.bool (decide (leads w h c)),H):=by
 rw [Qb (fn:=Tryz.f86) Tryz.func86 rfl (by kernel_rfl) rfl]
 simp [Wj,Qr]
 refine Wh _ _ ?_ ?_<;>intro h1<;>simp [h1]
 ·rw [Vm] at h1
  obtain ⟨e1,e2⟩:=Se h1
  simp [e1,e2,Su,leads,h1]
 ·rw [Vm] at h1
  exact fun g=>h1 g.1
theorem St (w h c:Int):vcall C frz 132 [.agg #[.int .i64 w,.int .i64 h],.int .i64 c] H=some (.bool (decide (leads w h c)),H):=by
 rw [Qb (fn:=Tryz.f132) Tryz.func132 rfl (by kernel_rfl) rfl]
 simp [Qw,Wa]
 refine Wh _ _ ?_ ?_<;>intro h1<;>simp [h1]
 ·rw [Vm] at h1
  obtain ⟨e1,e2⟩:=Se h1
  simp [e1,e2,Yd,leads,h1]
 ·rw [Vm] at h1
  exact fun g=>h1 g.1
theorem Q1 (xs:List Int) (i:Nat) (h:i<xs.length):xs.getD i 0=xs[i]:=by simp [List.getD_eq_getElem?_getD,h]
theorem Y8 {w h:Int} {b:List Int} {i:Nat} (h5:i<b.length) (hg:¬goodAt w h b i):¬meshOk w h b:=fun hh=>hg (hh.1 i h5)
theorem Tx {w h:Int} {b:List Int} {i:Nat} (hj:∀j<i,goodAt w h b j) (hg:goodAt w h b i):∀j<i+1,goodAt w h b j:=fun j hh=>by
 by_cases hji:j<i
 ·exact hj j hji
 ·have:j=i:=by omega
  rw [this];exact hg
theorem W0 {w h:Int} {b:List Int} {i:Nat} (h5:i<b.length):goodAt w h b i↔leads w h b[i]∧(0<i→b[i-1]<b[i]):=by
 unfold goodAt
 rw [Q1 _ _ h5]
 refine and_congr Iff.rfl ⟨fun g p=>?_,fun g p=>?_⟩
 ·have:=g p;rwa [Q1 _ _ (by omega)] at this
 ·rw [Q1 _ _ (by omega)];exact g p
theorem Fa (w h:Int) (v:Value) (b:List Int) (hI:IsI H v b) (hl:b.length≤1073741824) :
 vcall C frz 128 [.agg #[.int .i64 w,.int .i64 h,v]] H=some (.bool (decide (meshOk w h b)),H):=by
 rw [Qb (fn:=Tryz.f128) Tryz.func128 rfl (by kernel_rfl) rfl]
 simp [hI.one',hI.cells,hI.lenA,Vw]
 refine Qp _ ?_ ?_<;>intro hg<;>simp [hg]
 ·refine Yj (fun n t H'=>∃i:Nat,n=b.length-i∧i≤b.length∧t 1=.pointer (some ⟨H.length,0,some 0⟩)∧t 3=.int .i64 i∧
   H'=H++[⟨[.int .i64 w,.int .i64 h,v],0,28⟩]∧∀j<i,goodAt w h b j) ?_ (n:=b.length) ⟨0,by simp⟩
  rintro n t H' ⟨i,rfl,hi,h1,h3,rfl,hj⟩ ih
  have next:=fun (t':Env) (e1:t' 1=.pointer (some ⟨H.length,0,some 0⟩)) (e2:t' 3=.int .i64 (i+1:Nat)) (e3:i<b.length) (e4:goodAt w h b i)=>
   ih (b.length-(i+1)) t' _ ⟨i+1,rfl,by omega,e1,e2,rfl,Tx hj e4⟩ (by omega)
  simp [h1,h3,hI.lenA]
  refine Qp _ ?_ ?_<;>intro h5
  ·simp [h1,h3,h5]
   rw [Qo (h:=by kernel_rfl)]
   simp [h1,h3,h5,hI.idxA,hI.loadA,Q1,St]
   refine Wh _ _ ?_ ?_<;>intro hL<;>simp [h1,h3,h5,hL]
   ·refine Wh _ _ ?_ ?_<;>intro h0
    ·have e:IntKind.i64.wrap ((i:Int)-1)=((i-1:Nat):Int):=by rw [w64 (by omega) (by omega)];omega
     have e':i-1<b.length:=by omega
     simp [h1,h3,h5,h0,hL,hI.idxA,hI.loadA,Q1,e,e']
     refine Qp _ ?_ ?_<;>intro h6
     ·simp [h1,h3,h5,h0,hL,h6]
      refine Y8 h5 ?_
      rw [W0 h5]
      exact fun hh=>absurd (hh.2 h0) (by omega)
     ·simp [h1,h3,h5,h0,hL,h6]
      refine next _ (by simp [h1]) ?_ h5 ((W0 h5).2 ⟨hL,fun _=>by omega⟩)
      simp;rw [w64 (by omega) (by omega)]
    ·simp [h1,h3,h5,h0,hL]
     refine next _ (by simp [h1]) ?_ h5 ((W0 h5).2 ⟨hL,fun hh=>absurd hh h0⟩)
     simp;rw [w64 (by omega) (by omega)]
   ·refine Y8 h5 ?_
    rw [W0 h5]
    exact fun hh=>hL hh.1
  ·have:i=b.length:=by omega
   subst this
   simp [h1,h3]
   exact ⟨hj,hg⟩
 ·exact fun hh=>hg hh.2
theorem S5 {b:List Int} {c:Int} {i:Nat} (h:i<b.length) (h1:c∉b.take i) (h2:¬b[i]=c):c∉b.take (i+1):=by
 rw [List.take_succ_eq_append_getElem h]
 simp only [List.mem_append,List.mem_singleton,not_or]
 exact ⟨h1,fun hh=>h2 hh.symm⟩
def place (b:List Int) (c:Int):Int:=if c∈b then b.idxOf c else -1
theorem Mk (b:List Int) (c:Int) : -1≤place b c∧place b c<b.length∧(0≤place b c↔c∈b):=by
 unfold place
 split
 ·rename_i h
  have:=List.idxOf_lt_length_iff.2 h
  refine ⟨by omega,by omega,?_⟩
  simp [h]
 ·rename_i h
  refine ⟨by omega,by omega,?_⟩
  simp [h]
theorem E6 {b:List Int} {c:Int} {i:Nat} (h:i<b.length) (h1:c∉b.take i) (h2:b[i]=c):place b c=i:=by
 have hm:c∈b:=h2▸List.getElem_mem h
 unfold place
 rw [if_pos hm]
 have e:b=b.take i++b.drop i:=(List.take_append_drop i b).symm
 have e2:b.drop i=c::b.drop (i+1):=by rw [List.drop_eq_getElem_cons h,h2]
 rw [e,List.idxOf_append,if_neg h1,e2,List.idxOf_cons_self]
 simp;omega
theorem F7 (v:Value) (b:List Int) (c:Int) (hI:IsI H v b) (hl:b.length≤1073741824) :
 vcall C frz 73 [v,.int .i64 c] H=some (.bool (decide (c∈b)),H):=by
 rw [Qb (fn:=Tryz.f73) Tryz.func73 rfl (by kernel_rfl) rfl]
 simp [hI.len]
 refine Yj (fun n t H'=>∃i:Nat,n=b.length-i∧i≤b.length∧t 0=v∧t 1=.int .i64 c∧t 5=.int .i64 i∧H'=H∧c∉b.take i) ?_ (n:=b.length) ⟨0,by simp⟩
 rintro n t H' ⟨i,rfl,hi,h1,h2,h3,rfl,hj⟩ ih
 simp [h1,h2,h3,hI.len]
 refine Qp _ ?_ ?_<;>intro h5
 ·simp [h1,h2,h3,h5,hI.idx,hI.load,Q1]
  refine Qp _ ?_ ?_<;>intro h6<;>simp [h1,h2,h3,h6]
  ·rw [← h6];exact List.getElem_mem h5
  ·refine ih (b.length-(i+1)) _ _ ⟨i+1,rfl,by omega,by simp [h1],by simp [h2],?_,rfl,S5 h5 hj h6⟩ (by omega)
   simp;rw [w64 (by omega) (by omega)]
 ·have:i=b.length:=by omega
  subst this
  simp [h1,h2,h3]
  rwa [List.take_length] at hj
theorem Cd (v:Value) (b:List Int) (c:Int) (hI:IsI H v b) (hl:b.length≤1073741824) :
 vcall C frz 102 [v,.int .i64 c] H=some (.int .i64 (place b c),H):=by
 rw [Qb (fn:=Tryz.f102) Tryz.func102 rfl (by kernel_rfl) rfl]
 simp [hI.len]
 refine Yj (fun n t H'=>∃i:Nat,n=b.length-i∧i≤b.length∧t 0=v∧t 1=.int .i64 c∧t 6=v∧t 7=.int .i64 b.length∧t 8=.int .i64 i∧H'=H∧c∉b.take i) ?_ (n:=b.length) ⟨0,by simp⟩
 rintro n t H' ⟨i,rfl,hi,h0,h1,h2,h3,h4,rfl,hj⟩ ih
 simp [h0,h1,h2,h3,h4,hI.len]
 refine Qp _ ?_ ?_<;>intro h5
 ·simp [h0,h1,h2,h3,h4,h5,hI.idx,hI.load,Q1]
  refine Qp _ ?_ ?_<;>intro h6<;>simp [h0,h1,h2,h3,h4,h6]
  ·rw [E6 (c:=b[i]) h5 (by first|exact hj|(rw [h6];exact hj)|(rw [← h6];exact hj)) rfl]
  ·refine ih (b.length-(i+1)) _ _ ⟨i+1,rfl,by omega,by simp [h0],by simp [h1],by simp [h2],by simp [h3],?_,rfl,S5 h5 hj (by omega)⟩ (by omega)
   simp;rw [w64 (by omega) (by omega)]
 ·have:i=b.length:=by omega
  subst this
  simp [h0,h1,h2,h3]
  rw [List.take_length] at hj
  rw [place,if_neg hj]
theorem Uq (v:Value) (b:List Int) (c:Int) (hI:IsI H v b) (hl:b.length≤1073741824) :
 vcall C frz 68 [v,.int .i64 c] H=some (.bool (decide (c∈b)),H):=by
 rw [Qb (fn:=Tryz.f68) Tryz.func68 rfl (by kernel_rfl) rfl]
 simp [Cd _ _ _ hI hl,Mk]
theorem N5 (w h:Int) (v:Value) (b:List Int) (c:Int) (hI:IsI H v b) (hl:b.length≤1073741824) :
 vcall C frz 129 [.agg #[.int .i64 w,.int .i64 h,v],.int .i64 c] H=some (.bool (decide (has w h b c)),H):=by
 rw [Qb (fn:=Tryz.f129) Tryz.func129 rfl (by kernel_rfl) rfl]
 simp [hI.one',hI.cells,St]
 refine Wh _ _ ?_ ?_<;>intro h1<;>simp [h1,F7 _ _ _ (hI.app _) hl,has,-Bool.decide_and]
theorem J0 (w h:Int) (v:Value) (b:List Int) (c:Int) (hI:IsI H v b) (h0:leads w h c) :
 vcall C frz 55 [.agg #[.int .i64 w,.int .i64 h,v],.int .i64 c] H=some (.int .i64 (next w h (c/4) (c%4)),H):=by
 rw [Qb (fn:=Tryz.f55) Tryz.func55 rfl (by kernel_rfl) rfl]
 obtain ⟨e1,e2⟩:=Se h0.1
 simp [hI.one',hI.cells,e1,e2,Su]
theorem U7 (w h:Int) (v:Value) (b:List Int) (hI:IsI H v b) (hl:b.length≤1073741824) :
 vcall C frz 51 [.agg #[.int .i64 w,.int .i64 h,v]] H=some (.bool (decide (meshOk w h b)),H):=by
 rw [Qb (fn:=Tryz.f51) Tryz.func51 rfl (by kernel_rfl) rfl]
 simp [hI.one',hI.cells,hI.lenA]
 refine Yj (fun n t H'=>∃i:Nat,n=b.length-i∧i≤b.length∧t 1=.pointer (some ⟨H.length,0,some 0⟩)∧t 6=v∧t 7=.int .i64 b.length∧t 8=.int .i64 i∧
  H'=H++[⟨[.int .i64 w,.int .i64 h,v],0,28⟩]∧∀j<i,goodAt w h b j) ?_ (n:=b.length) ⟨0,by simp⟩
 rintro n t H' ⟨i,rfl,hi,h1,h2,h3,h4,rfl,hj⟩ ih
 have next:=fun (t':Env) (e1:t' 1=.pointer (some ⟨H.length,0,some 0⟩)) (e2:t' 6=v) (e3:t' 7=.int .i64 b.length) (e4:t' 8=.int .i64 (i+1:Nat)) (e5:i<b.length) (e6:goodAt w h b i)=>
  ih (b.length-(i+1)) t' _ ⟨i+1,rfl,by omega,e1,e2,e3,e4,rfl,Tx hj e6⟩ (by omega)
 simp [h1,h2,h3,h4]
 refine Qp _ ?_ ?_<;>intro h5
 ·simp [h1,h2,h3,h4,h5,hI.idxA,hI.loadA,Q1,O0]
  refine Wh _ _ ?_ ?_<;>intro hL<;>simp [h1,h2,h3,h4,h5,hL]
  ·refine Wh _ _ ?_ ?_<;>intro h0
   ·have e:IntKind.i64.wrap ((i:Int)-1)=((i-1:Nat):Int):=by rw [w64 (by omega) (by omega)];omega
    have e':i-1<b.length:=by omega
    simp [h1,h2,h3,h4,h5,h0,hL,hI.idxA,hI.loadA,Q1,e,e']
    refine Qp _ ?_ ?_<;>intro h6
    ·simp [h1,h2,h3,h4,h5,h0,hL,h6]
     refine Y8 h5 ?_
     rw [W0 h5]
     exact fun hh=>absurd (hh.2 h0) (by omega)
    ·simp [h1,h2,h3,h4,h5,h0,hL,h6]
     refine next _ (by simp [h1]) (by simp [h2]) (by simp [h3]) ?_ h5 ((W0 h5).2 ⟨hL,fun _=>by omega⟩)
     simp;rw [w64 (by omega) (by omega)]
   ·simp [h1,h2,h3,h4,h5,h0,hL]
    refine next _ (by simp [h1]) (by simp [h2]) (by simp [h3]) ?_ h5 ((W0 h5).2 ⟨hL,fun hh=>absurd hh h0⟩)
    simp;rw [w64 (by omega) (by omega)]
  ·refine Y8 h5 ?_
   rw [W0 h5]
   exact fun hh=>hL hh.1
 ·have:i=b.length:=by omega
  subst this
  simp [h1,h2,h3,h4,R4]
  exact ⟨fun hg=>⟨hj,hg⟩,fun hh=>hh.2⟩
theorem O4 (w h:Int) (v:Value) (b:List Int) (c:Int) (hI:IsI H v b) (hl:b.length≤1073741824) :
 vcall C frz 53 [.agg #[.int .i64 w,.int .i64 h,v],.int .i64 c] H=some (.bool (decide (meshOk w h b∧has w h b c)),H):=by
 rw [Qb (fn:=Tryz.f53) Tryz.func53 rfl (by kernel_rfl) rfl]
 simp [hI.one',hI.cells,U7 _ _ _ _ (hI.app _) hl]
 refine Wh _ _ ?_ ?_<;>intro h1<;>simp [h1,O0,-Bool.decide_and]
 refine Wh _ _ ?_ ?_<;>intro h2<;>simp [h2,has,Uq _ _ _ (hI.app _) hl,-Bool.decide_and]
end Go.Proofs.YtjgochodhiekeaaGreat.V
set_option linter.all false
namespace Go.Proofs.YtjgochodhiekeaaGreat.V
open Go Go.VM Go.Proofs
set_option maxRecDepth 10000
def portOf (w h:Int) (T:List Int) (a to:Int):Int:=rd T (a*cnt w h+to)
def stepOk (w h:Int) (b T:List Int) (a to:Int):Prop:=inR 0 (portOf w h T a to) 3∧has w h b (4*a+portOf w h T a to)
instance (w h:Int) (b T:List Int) (a to:Int):Decidable (stepOk w h b T a to):=inferInstanceAs (Decidable (_∧_))
def walkN (w h:Int) (b T:List Int) (to:Int):Nat→Int→List Int→List Int
 | 0,a,out=>if portOf w h T a to=4 then (if a=to then out else []) else []
 | f+1,a,out=>if portOf w h T a to=4 then (if a=to then out else []) else
  if stepOk w h b T a to then walkN w h b T to f (next w h a (portOf w h T a to)) (out++[4*a+portOf w h T a to]) else []
def walk (w h:Int) (b T:List Int) (a to:Int):List Int:=walkN w h b T to (cnt w h).toNat a []
def tsized (w h:Int) (b T:List Int):Prop:=meshOk w h b∧(T.length:Int)=cnt w h*cnt w h
instance (w h:Int) (b T:List Int):Decidable (tsized w h b T):=inferInstanceAs (Decidable (_∧_))
def tableOk (w h:Int) (b T:List Int):Prop:=tsized w h b T∧∀a,a<(cnt w h).toNat→∀c,c<(cnt w h).toNat→(a=c→portOf w h T a a=4)∧(a≠c→walk w h b T a c≠[])
instance (w h:Int) (b T:List Int):Decidable (tableOk w h b T):=inferInstanceAs (Decidable (_∧_))
theorem Fi (w h:Int) (b T:List Int) (to:Int):∀f a out,(walkN w h b T to f a out).length≤out.length+f:=by
 intro f
 induction f with
 | zero=>
  intro a out;simp only [walkN];repeat' split
  all_goals simp
 | succ f ih=>
  intro a out;simp only [walkN];repeat' split
  ·omega
  ·simp
  ·have:=ih (next w h a (portOf w h T a to)) (out++[4*a+portOf w h T a to])
   simp at this;omega
  ·simp
theorem Y4 {w h x y:Int} (hx:0≤nodeAt w h x y):isN w h (nodeAt w h x y):=by
 refine ⟨hx,?_⟩
 unfold nodeAt at hx ⊢
 split
 ·rename_i h1
  obtain ⟨h1,h2,h3⟩:=h1
  have hm:=X4 h1
  have c2:y*w≤(h-1)*w:=Int.mul_le_mul_of_nonneg_right (by omega) (by have:=h1.1.1;omega)
  rw [Int.sub_mul,Int.mul_comm h w] at c2
  rw [cnt,if_pos h1]
  omega
 ·rename_i h1;rw [if_neg h1] at hx;omega
theorem Lf {w h a p:Int} (hx:0≤next w h a p):isN w h (next w h a p):=by
 unfold next at hx ⊢
 by_cases h1:isN w h a
 ·rw [if_pos h1] at hx ⊢
  by_cases p0:p=0
  ·rw [if_pos p0] at hx ⊢;exact Y4 hx
  rw [if_neg p0] at hx ⊢
  by_cases p1:p=1
  ·rw [if_pos p1] at hx ⊢;exact Y4 hx
  rw [if_neg p1] at hx ⊢
  by_cases p2:p=2
  ·rw [if_pos p2] at hx ⊢;exact Y4 hx
  rw [if_neg p2] at hx ⊢
  by_cases p3:p=3
  ·rw [if_pos p3] at hx ⊢;exact Y4 hx
  rw [if_neg p3] at hx ⊢
  by_cases p4:p=4
  ·rw [if_pos p4] at hx ⊢;exact h1
  rw [if_neg p4] at hx;omega
 ·rw [if_neg h1] at hx;omega
theorem X3 {w h a p:Int} {b:List Int} (h0:inR 0 p 3) (h1:has w h b (4*a+p)):(4*a+p)/4=a∧(4*a+p)%4=p∧isN w h (next w h a p):=by
 obtain ⟨h2,h3⟩:=h0
 have e1:(4*a+p)/4=a:=by omega
 have e2:(4*a+p)%4=p:=by omega
 refine ⟨e1,e2,Lf ?_⟩
 have:=h1.1.2
 rwa [e1,e2] at this
theorem Zh {w h a to:Int} (h1:isN w h a) (h2:isN w h to):0≤a*cnt w h+to∧a*cnt w h+to<cnt w h*cnt w h∧a*cnt w h≤256∧0≤a*cnt w h:=by
 have hc:=Qg w h
 obtain ⟨a1,a2⟩:=h1
 obtain ⟨b1,b2⟩:=h2
 have c1:0*0≤a*cnt w h:=Int.mul_le_mul a1 hc.1 (by omega) (by omega)
 have c2:a*cnt w h≤(cnt w h-1)*cnt w h:=Int.mul_le_mul_of_nonneg_right (by omega) hc.1
 rw [Int.sub_mul] at c2
 have c3:cnt w h*cnt w h≤16*16:=Int.mul_le_mul hc.2 hc.2 hc.1 (by omega)
 omega
end Go.Proofs.YtjgochodhiekeaaGreat.V
set_option linter.all false
namespace Go.Proofs.YtjgochodhiekeaaGreat.V
open Go Go.VM
theorem Io {s:List Int} {j:Nat} (h:j<s.length):rd s (j:Int)=s[j]:=by simp [rd,List.getD_eq_getElem?_getD,h]
theorem Ar {s:List Int} {k:Int} (h0:0≤k) (h1:k<s.length):rd s k∈s:=by
 obtain ⟨i,rfl⟩:=Int.eq_ofNat_of_zero_le h0
 rw [Io (by omega)];exact List.getElem_mem _
def endC (w h c:Int):Int:=next w h (c/4) (c%4)
def backC (w h c:Int):Int:=4*endC w h c+opp (c%4)
def link (w h:Int) (b:List Int) (c:Int):Prop:=has w h b c∧has w h b (backC w h c)
instance (w h:Int) (b:List Int) (c:Int):Decidable (link w h b c):=inferInstanceAs (Decidable (_∧_))
def neg (s:List Int):Nat:=s.countP (· < 0)
theorem Ka {s:List Int} {k x v:Int} (h0:0≤k) (h1:k<s.length) (hx:0≤x):rd (s.set k.toNat v) x=if x=k then v else rd s x:=by
 obtain ⟨i,rfl⟩:=Int.eq_ofNat_of_zero_le h0
 obtain ⟨j,rfl⟩:=Int.eq_ofNat_of_zero_le hx
 simp only [Int.toNat_natCast]
 by_cases hj:j<s.length
 ·rw [Io (by simpa using hj),Io hj,List.getElem_set]
  by_cases e:i=j
  ·subst e;simp
  ·rw [if_neg e,if_neg (by omega)]
 ·rw [if_neg (by omega)]
  simp [rd,hj]
theorem Gs {s:List Int} {x:Int} (h0:0≤x) (h:rd s x<0):x<s.length:=by
 obtain ⟨j,rfl⟩:=Int.eq_ofNat_of_zero_le h0
 by_cases hj:j<s.length
 ·omega
 ·simp [rd,hj] at h
theorem Im {s:List Int} {k v:Int} (h0:0≤k) (h1:k<s.length) (h:rd s k<0) (hv:0≤v):neg (s.set k.toNat v)+1=neg s:=by
 obtain ⟨i,rfl⟩:=Int.eq_ofNat_of_zero_le h0
 have hi:i<s.length:=by omega
 rw [Io hi] at h
 unfold neg
 rw [Int.toNat_natCast,List.countP_set hi]
 have:0<s.countP (· < 0):=List.countP_pos_iff.2 ⟨_,List.getElem_mem hi,by simpa using h⟩
 rw [if_pos (by simpa using h),if_neg (by simp;omega)]
 omega
def vst (w h:Int) (b:List Int) (a d:Int) (x:List Int×List Int) (p:Nat):List Int×List Int:=
 if link w h b (4*a+p)∧rd x.1 (next w h a p)<0 then (x.1.set (next w h a p).toNat d,x.2++[next w h a p]) else x
def vis (w h:Int) (b:List Int) (a d:Int) (x:List Int×List Int):List Int×List Int:=(List.range 4).foldl (vst w h b a d) x
theorem G9 {w h:Int} {b:List Int} {a:Int} {p:Nat} (hp:p<4) (h1:link w h b (4*a+p)):isN w h a∧isN w h (next w h a p)∧endC w h (4*a+p)=next w h a p:=by
 obtain ⟨⟨⟨h2,h3⟩,_⟩,_⟩:=h1
 have e1:(4*a+(p:Int))/4=a:=by omega
 have e2:(4*a+(p:Int))%4=p:=by omega
 unfold endC
 rw [e1,e2] at h3 ⊢
 exact ⟨⟨by omega,by omega⟩,Lf h3,rfl⟩
structure BExt (w h:Int) (d:Int) (x y:List Int×List Int):Prop where
 len:y.1.length=x.1.length
 old:∀v,0≤v→0≤rd x.1 v→rd y.1 v=rd x.1 v
 new:∀v∈y.2,v∈x.2∨(isN w h v∧rd y.1 v=d)
 sum:neg y.1+y.2.length=neg x.1+x.2.length
 pre:∀v∈x.2,v∈y.2
 low:(∀v∈x.1,-1≤v∧v≤d)→∀v∈y.1,-1≤v∧v≤d
theorem BExt.rfl' {w h d:Int} {x:List Int×List Int}:BExt w h d x x:=⟨rfl,fun _ _ _=>rfl,fun _ h=>.inl h,rfl,fun _ h=>h,fun h=>h⟩
theorem BExt.trans {w h d:Int} {x y z:List Int×List Int} (hd:0≤d) (a:BExt w h d x y) (b:BExt w h d y z):BExt w h d x z where
 len:=b.len.trans a.len
 old v h0 h1:=by
  have e:=a.old v h0 h1
  rw [b.old v h0 (by omega),e]
 new v hv:=by
  rcases b.new v hv with h1|h1
  ·rcases a.new v h1 with h2|⟨h2,h3⟩
   ·exact .inl h2
   ·exact .inr ⟨h2,by rw [b.old v h2.1 (by omega),h3]⟩
  ·exact .inr h1
 sum:=b.sum.trans a.sum
 pre v h:=b.pre v (a.pre v h)
 low h:=b.low (a.low h)
theorem Ci {w h:Int} {b:List Int} {a d:Int} {x:List Int×List Int} {p:Nat} (hp:p<4) (hd:0≤d):BExt w h d x (vst w h b a d x p):=by
 unfold vst
 by_cases hc:link w h b (4*a+p)∧rd x.1 (next w h a p)<0
 ·rw [if_pos hc]
  obtain ⟨h1,h2,h3⟩:=G9 hp hc.1
  have h4:=Gs h2.1 hc.2
  have:=Im h2.1 h4 hc.2 hd
  refine ⟨by simp,fun v h0 h5=>?_,fun v hv=>?_,by simp;omega,fun v hv=>by simp [hv],fun hl v hv=>?_⟩
  ·simp only
   rw [Ka h2.1 h4 h0,if_neg (by intro e;subst e;omega)]
  ·simp only [List.mem_append,List.mem_singleton] at hv
   rcases hv with hv|rfl
   ·exact .inl hv
   ·exact .inr ⟨h2,by simp only;rw [Ka h2.1 h4 h2.1,if_pos rfl]⟩
  ·rcases List.mem_or_eq_of_mem_set hv with h6|rfl
   ·exact hl v h6
   ·omega
 ·rw [if_neg hc];exact BExt.rfl'
theorem Pm {w h:Int} {b:List Int} {a d:Int} (hd:0≤d):∀(l:List Nat) (x:List Int×List Int),(∀p∈l,p<4)→BExt w h d x (l.foldl (vst w h b a d) x)
 | [],x,_=>BExt.rfl'
 | p::l,x,hp=>(Ci (hp p (by simp)) hd).trans hd (Pm hd l _ (fun q hq=>hp q (by simp [hq])))
theorem Ni {w h:Int} {b:List Int} {a d:Int} (hd:0≤d) (x:List Int×List Int):BExt w h d x (vis w h b a d x):=Pm hd _ _ (by simp)
theorem Cr {w h:Int} {b:List Int} {a d:Int} (s q q':List Int) (p:Nat):vst w h b a d (s,q++q') p=((vst w h b a d (s,q') p).1,q++(vst w h b a d (s,q') p).2):=by
 unfold vst
 simp only
 split<;>simp
theorem P0 {w h:Int} {b:List Int} {a d:Int} (q:List Int):∀(l:List Nat) (s q':List Int),l.foldl (vst w h b a d) (s,q++q')=((l.foldl (vst w h b a d) (s,q')).1,q++(l.foldl (vst w h b a d) (s,q')).2)
 | [],s,q'=>rfl
 | p::l,s,q'=>by
  rw [List.foldl_cons,List.foldl_cons,Cr]
  exact P0 q l _ _
theorem Ck {w h:Int} {b:List Int} {a d:Int} (q s q':List Int):vis w h b a d (s,q++q')=((vis w h b a d (s,q')).1,q++(vis w h b a d (s,q')).2):=P0 q _ _ _
inductive Run (w h:Int) (b:List Int):List Int→List Int→List Int→Int→List Int→Prop
 | done (s:List Int) (d:Int):Run w h b s [] [] d s
 | level {s:List Int} {x:Int} {nx:List Int} {d:Int} {r:List Int}:Run w h b s (x::nx) [] (d+1) r→Run w h b s [] (x::nx) d r
 | node {s:List Int} {a:Int} {rest nx:List Int} {d:Int} {r:List Int}:Run w h b (vis w h b a d (s,nx)).1 rest (vis w h b a d (s,nx)).2 d r→Run w h b s (a::rest) nx d r
structure Inv (w h:Int) (s rest nx:List Int) (d:Int):Prop where
 len:(s.length:Int)=cnt w h
 fr:∀v∈rest,isN w h v∧rd s v=d-1
 nw:∀v∈nx,isN w h v∧rd s v=d
 one:1≤d
 sum:d+neg s+nx.length≤cnt w h
 low:∀v∈s,-1≤v∧v≤d
theorem Inv.level {w h:Int} {s nx:List Int} {x d:Int} (i:Inv w h s [] (x::nx) d):Inv w h s (x::nx) [] (d+1):=
 ⟨i.len,fun v hv=>⟨(i.nw v hv).1,by have:=(i.nw v hv).2;omega⟩,by simp,by have:=i.one;omega,by have:=i.sum;simp at this ⊢;omega,fun v hv=>by have:=i.low v hv;omega⟩
theorem Inv.node {w h:Int} {b s rest nx:List Int} {a d:Int} (i:Inv w h s (a::rest) nx d):Inv w h (vis w h b a d (s,nx)).1 rest (vis w h b a d (s,nx)).2 d:=by
 have h1:=i.one
 have e:=Ni (w:=w) (h:=h) (b:=b) (a:=a) (d:=d) (by omega) (s,nx)
 refine ⟨by rw [e.len];exact i.len,fun v hv=>?_,fun v hv=>?_,h1,?_,e.low i.low⟩
 ·obtain ⟨h2,h3⟩:=i.fr v (by simp [hv])
  exact ⟨h2,by rw [e.old v h2.1 (by simp only;omega)];exact h3⟩
 ·rcases e.new v hv with h2|h2
  ·obtain ⟨h3,h4⟩:=i.nw v h2
   exact ⟨h3,by rw [e.old v h3.1 (by simp only;omega)];exact h4⟩
  ·exact h2
 ·have:=e.sum;have:=i.sum;simp only at *;omega
theorem Aa {w h:Int} {b:List Int}:∀(m:Nat) (s rest nx:List Int) (d:Int),3*neg s+2*nx.length+rest.length≤m→Inv w h s rest nx d→∃r,Run w h b s rest nx d r:=by
 intro m
 induction m with
 | zero=>
  intro s rest nx d hm i
  cases rest with
  | nil=>cases nx with
   | nil=>exact ⟨s,.done s d⟩
   | cons x nx=>simp at hm
  | cons a rest=>simp at hm
 | succ m ih=>
  intro s rest nx d hm i
  cases rest with
  | nil=>cases nx with
   | nil=>exact ⟨s,.done s d⟩
   | cons x nx=>
    obtain ⟨r,hr⟩:=ih s (x::nx) [] (d+1) (by simp at hm ⊢;omega) i.level
    exact ⟨r,.level hr⟩
  | cons a rest=>
   have e:=(Ni (w:=w) (h:=h) (b:=b) (a:=a) (d:=d) (by have:=i.one;omega) (s,nx)).sum
   have e2:=(Ni (w:=w) (h:=h) (b:=b) (a:=a) (d:=d) (by have:=i.one;omega) (s,nx))
   have h1:nx.length≤(vis w h b a d (s,nx)).2.length:=by
    have:=Ck (w:=w) (h:=h) (b:=b) (a:=a) (d:=d) nx s []
    rw [List.append_nil] at this;rw [this];simp
   simp only at e
   obtain ⟨r,hr⟩:=ih (vis w h b a d (s,nx)).1 rest (vis w h b a d (s,nx)).2 d (by simp at hm;omega) i.node
   exact ⟨r,.node hr⟩
def start (w h root:Int):List Int:=(List.replicate (cnt w h).toNat (-1)).set root.toNat 0
theorem Fb {w h root:Int} (hr:isN w h root):Inv w h (start w h root) [root] [] 1∧((neg (start w h root):Nat):Int)+1=cnt w h:=by
 have hc:=Qg w h
 have hl:root<((List.replicate (cnt w h).toNat (-1:Int)).length:Int):=by have:=hr.2;simp;omega
 have h0:rd (List.replicate (cnt w h).toNat (-1:Int)) root=-1:=by
  have:=Ar hr.1 hl
  exact List.eq_of_mem_replicate this
 have h1:=Im (v:=0) hr.1 hl (by omega) (by omega)
 have h2:neg (List.replicate (cnt w h).toNat (-1:Int))=(cnt w h).toNat:=by unfold neg;simp [List.countP_replicate]
 rw [h2] at h1
 have h3:((neg (start w h root):Nat):Int)+1=cnt w h:=by unfold start;omega
 refine ⟨⟨by unfold start;simp;omega,fun v hv=>?_,by simp,by omega,by simp;omega,fun v hv=>?_⟩,h3⟩
 ·simp only [List.mem_singleton] at hv
  subst hv
  refine ⟨hr,?_⟩
  unfold start;rw [Ka hr.1 hl hr.1,if_pos rfl];omega
 ·rcases List.mem_or_eq_of_mem_set hv with h6|rfl
  ·have:=List.eq_of_mem_replicate h6;omega
  ·omega
def rootOk (w h:Int) (b:List Int) (root:Int):Prop:=meshOk w h b∧isN w h root
instance (w h:Int) (b:List Int) (root:Int):Decidable (rootOk w h b root):=inferInstanceAs (Decidable (_∧_))
theorem Fd {w h:Int} (b:List Int) {root:Int} (hr:isN w h root):∃r,Run w h b (start w h root) [root] [] 1 r:=Aa _ _ _ _ _ (Nat.le_refl _) (Fb hr).1
noncomputable def depths (w h:Int) (b:List Int) (root:Int):List Int:=if H:rootOk w h b root then Classical.choose (Fd b H.2) else []
def conn (w h:Int) (b:List Int):Prop:=meshOk w h b∧-1∉depths w h b 0
noncomputable instance (w h:Int) (b:List Int):Decidable (conn w h b):=inferInstanceAs (Decidable (_∧_))
def toRoot (w h:Int) (b d:List Int) (i:Int) (p:Nat):Prop:=link w h b (4*i+p)∧rd d (next w h i p)=rd d i-1
instance (w h:Int) (b d:List Int) (i:Int) (p:Nat):Decidable (toRoot w h b d i p):=inferInstanceAs (Decidable (_∧_))
def Hi (d:Int) (x:List Int×List Int):Prop:=∀v∈x.1,v<d∨(v=d∧x.2≠[])
theorem B3 {w h:Int} {b:List Int} {a d:Int} {x:List Int×List Int} {p:Nat} (hx:Hi d x):Hi d (vst w h b a d x p):=by
 unfold vst
 split
 ·intro v hv
  rcases List.mem_or_eq_of_mem_set hv with h6|rfl
  ·rcases hx v h6 with h7|h7
   ·exact .inl h7
   ·exact .inr ⟨h7.1,by simp⟩
  ·exact .inr ⟨rfl,by simp⟩
 ·exact hx
theorem Ma {w h:Int} {b:List Int} {a d:Int}:∀(l:List Nat) (x:List Int×List Int),Hi d x→Hi d (l.foldl (vst w h b a d) x)
 | [],x,hx=>hx
 | p::l,x,hx=>Ma l _ (B3 hx)
theorem Run.hi {w h:Int} {b s rest nx:List Int} {d:Int} {r:List Int} (R:Run w h b s rest nx d r):Inv w h s rest nx d→Hi d (s,nx)→∀v∈r,v<cnt w h:=by
 induction R with
 | done s d=>
  intro i hh v hv
  rcases hh v hv with h1|h1
  ·have:=i.sum;simp at this;omega
  ·exact absurd rfl h1.2
 | level _ ih=>
  exact fun i hh=>ih i.level (fun v hv=>by rcases hh v hv with h1|h1<;>exact .inl (by omega))
 | node _ ih=>exact fun i hh=>ih i.node (Ma _ _ hh)
def inP (P:List Int) (a:Int):Prop:=0≤a∧a<P.length
instance (P:List Int) (a:Int):Decidable (inP P a):=inferInstanceAs (Decidable (_∧_))
def chain (t:List Int):Nat→Int→List Int
 | 0,_=>[]
 | k+1,v=>if inP t v then v::chain t k (rd t v) else []
end Go.Proofs.YtjgochodhiekeaaGreat.V
set_option linter.all false
namespace Go.Proofs.YtjgochodhiekeaaGreat.V
open Go Go.VM Go.Proofs
set_option maxRecDepth 10000
variable {frz:Nat} {H:Heap}
abbrev dIntS:Dt Value (List Int):=dFlat Fl.int 3 1073741824
def Made2 {V A:Type} (T:Dt V A) (H:Heap) (a:A) (ok:Bool) (r:Value) (H':Heap):Prop:=∃u,r=.tuple #[u,.bool ok]∧T.Made H a u H'
abbrev MeshD:=Int×Int×List Int
def dMesh:Dt Value MeshD where
 val v a:=.agg #[.int .i64 a.1,.int .i64 a.2.1,v]
 Ow H v a:=dIntS.Ow H v a.2.2
 ids:=VM.ids
 frame h k:=dIntS.frame h k
 lt h:=dIntS.lt h
theorem We (v:Value) (a:MeshD):dMesh.val v a=.agg #[.int .i64 a.1,.int .i64 a.2.1,v]:=rfl
theorem Wg {v:Value} {a:MeshD} (h:dMesh.Ow H v a):VM.one v=true∧v.cells=#[v]:=⟨h.1.rd.one',h.1.rd.cells⟩
theorem W6 {v:Value} {a:List Int} (h:dIntS.Ow H v a):VM.one v=true∧v.cells=#[v]:=⟨h.1.rd.one',h.1.rd.cells⟩
def dTable:Dt Value (List Int) where
 val v _:=.agg #[v]
 Ow H v a:=dIntS.Ow H v a
 ids:=VM.ids
 frame h k:=dIntS.frame h k
 lt h:=dIntS.lt h
theorem Xm (v:Value) (a:List Int):dTable.val v a=.agg #[v]:=rfl
theorem Xj {v:Value} {a:List Int} (h:dTable.Ow H v a):VM.one v=true∧v.cells=#[v]:=⟨h.1.rd.one',h.1.rd.cells⟩
abbrev ClassesD:=List Int×List Int
def dClasses:Dt (Value×Value) ClassesD where
 val v _:=.agg #[v.1,v.2]
 Ow H v a:=dIntS.Ow H v.1 a.1∧dIntS.Ow H v.2 a.2
 ids v:=VM.ids v.1++VM.ids v.2
 frame h k:=⟨dIntS.frame h.1 fun i hi=>k i (List.mem_append.2 (.inl hi)),dIntS.frame h.2 fun i hi=>k i (List.mem_append.2 (.inr hi))⟩
 lt h i hi:=by
  rcases List.mem_append.1 hi with hi|hi
  ·exact dIntS.lt h.1 i hi
  ·exact dIntS.lt h.2 i hi
theorem Qy (v:Value×Value) (a:ClassesD):dClasses.val v a=.agg #[v.1,v.2]:=rfl
theorem Qq {v:Value×Value} {a:ClassesD} (h:dClasses.Ow H v a):(VM.one v.1=true∧v.1.cells=#[v.1])∧VM.one v.2=true∧v.2.cells=#[v.2]:=⟨⟨h.1.1.rd.one',h.1.1.rd.cells⟩,h.2.1.rd.one',h.2.1.rd.cells⟩
abbrev FlitD:=Int×Int×Int×Bool×Bool
def flF:Fl FlitD:=⟨5,fun a=>[.int .i64 a.1,.int .i64 a.2.1,.int .i64 a.2.2.1,.bool a.2.2.2.1,.bool a.2.2.2.2],fun _=>rfl⟩
@[simp] theorem Yu:flF.n=5:=rfl
theorem Wc (a:FlitD):flF.f a=[.int .i64 a.1,.int .i64 a.2.1,.int .i64 a.2.2.1,.bool a.2.2.2.1,.bool a.2.2.2.2]:=rfl
theorem Yv (xs:List FlitD):ones (cellsOf flF xs)=true:=by
 induction xs with
 | nil=>rfl
 | cons a l ih=>rw [Wn];simp [ih,Wc]
theorem Qu {P:Program} {H:Heap} {s:TypeId} {f:Nat} (a:Addr):vfieldAddr P H s f (.pointer (some a))=match VM.look H a with
 | some _=>(match finfo P s f with|some (o,_,_)=>some (.pointer (some ⟨a.block,a.off+o,a.spot⟩))|none=>none)
 | none=>none:=rfl
abbrev SSD:=List (List FlitD)
abbrev SSV:=Value×List Value
def dSS:Dt SSV SSD where
 val v _:=v.1
 Ow H v a:=OwL flF 103 100 H v.1 v.2 a∧a.length≤2097152∧∀xs∈a,xs.length≤67108864
 ids v:=idsL v.1 v.2
 frame h k:=⟨h.1.frame k,h.2⟩
 lt h:=h.1.lt
theorem Ey {α:Type} (xss:List (List α)) {i:Nat} (h:i<xss.length):((xss.take (i+1)).map List.length).sum=((xss.take i).map List.length).sum+xss[i].length:=by
 rw [List.take_succ_eq_append_getElem h,List.map_append,List.sum_append];simp
theorem K8 {α:Type} (xss:List (List α)):∀xs∈xss,xs.length≤(xss.map List.length).sum:=by
 induction xss with
 | nil=>simp
 | cons a l ih=>
  intro xs hx;rcases List.mem_cons.1 hx with rfl|hx
  ·simp
  ·have:=ih xs hx;simp;omega
theorem Q5 {α:Type} {D:Fl α} {v:Value} {hs:List Value} {xss:List (List α)} (h:RdL D H v hs xss) {ty e:TypeId} (he:eltp Tryz.prog ty=some (e,1)) (ht:tsz Tryz.prog e=some (false,1)) {j:Nat} (hj:j<xss.length) :
 ∃a,hs[j]? = some a∧vindexAddr Tryz.prog H ty v (.int .i64 j)=some (elp v j)∧vload Tryz.prog H e (elp v j)=some a∧Rd D H a xss[j]:=by
 have hj':j<hs.length:=by rw [h.2.1];exact hj
 have q1:=h.1.idx (P:=Tryz.prog) (ty:=ty) (e:=e) (by simpa using he) (i:=(j:Int)) (by omega) (by omega)
 have q2:=h.1.cell1 (P:=Tryz.prog) rfl ht hj'
 refine ⟨hs[j],by simp [hj'],by simpa using q1,by simpa using q2,h.2.2 j _ _ (by simp [hj']) (by simp [hj])⟩
theorem Ww {l m:List Nat} {n:Nat} (h1:l.Nodup) (h2:m.Nodup) (h3:∀i∈l,i<n) (h4:∀i∈m,n≤i):(l++m).Nodup:=
 List.nodup_append.2 ⟨h1,h2,fun a ha b hb e=>by have:=h3 a ha;have:=h4 b hb;omega⟩
def dAnd {V A W B:Type} (T:Dt V A) (U:Dt W B):Dt (V×W) (A×B) where
 val _ _:=undef
 Ow H v a:=T.Ow H v.1 a.1∧U.Ow H v.2 a.2
 ids v:=T.ids v.1++U.ids v.2
 frame h k:=⟨T.frame h.1 fun i hi=>k i (List.mem_append.2 (.inl hi)),U.frame h.2 fun i hi=>k i (List.mem_append.2 (.inr hi))⟩
 lt h i hi:=by
  rcases List.mem_append.1 hi with hi|hi
  ·exact T.lt h.1 i hi
  ·exact U.lt h.2 i hi
def dNone (A:Type):Dt Unit A where
 val _ _:=undef
 Ow _ _ _:=True
 ids _:=[]
 frame _ _:=trivial
 lt _ i hi:=by simp at hi
abbrev NetD:=MeshD×ClassesD×SSD×List Int×List Int×SSD×SSD×Int
noncomputable instance:DecidableEq NetD:=fun _ _=>Classical.propDecidable _
abbrev NetV:=Value×(Value×Value)×SSV×Value×Value×SSV×SSV×Unit
def dNet0:Dt NetV NetD:=dAnd dMesh (dAnd dClasses (dAnd dSS (dAnd dIntS (dAnd dIntS (dAnd dSS (dAnd dSS (dNone Int)))))))
def netVal (v:NetV) (a:NetD):Value:=
 .agg #[.int .i64 a.1.1,.int .i64 a.1.2.1,v.1,v.2.1.1,v.2.1.2,v.2.2.1.1,v.2.2.2.1,v.2.2.2.2.1,v.2.2.2.2.2.1.1,v.2.2.2.2.2.2.1.1,.int .i64 a.2.2.2.2.2.2.2]
def dNet:Dt NetV NetD:={ dNet0 with val:=netVal }
theorem Qc (v:NetV) (a:NetD):dNet.val v a =
 .agg #[.int .i64 a.1.1,.int .i64 a.1.2.1,v.1,v.2.1.1,v.2.1.2,v.2.2.1.1,v.2.2.2.1,v.2.2.2.2.1,v.2.2.2.2.2.1.1,v.2.2.2.2.2.2.1.1,.int .i64 a.2.2.2.2.2.2.2]:=rfl
theorem Xx {v:SSV} {a:SSD} (h:dSS.Ow H v a):VM.one v.1=true∧v.1.cells=#[v.1]:=⟨h.1.1.rd.one',h.1.1.rd.cells⟩
theorem Qd {v:NetV} {a:NetD} (h:dNet.Ow H v a):(VM.one v.1=true∧v.1.cells=#[v.1])∧(VM.one v.2.1.1=true∧v.2.1.1.cells=#[v.2.1.1])∧(VM.one v.2.1.2=true∧v.2.1.2.cells=#[v.2.1.2])∧(VM.one v.2.2.1.1=true∧v.2.2.1.1.cells=#[v.2.2.1.1])∧
 (VM.one v.2.2.2.1=true∧v.2.2.2.1.cells=#[v.2.2.2.1])∧(VM.one v.2.2.2.2.1=true∧v.2.2.2.2.1.cells=#[v.2.2.2.2.1])∧(VM.one v.2.2.2.2.2.1.1=true∧v.2.2.2.2.2.1.1.cells=#[v.2.2.2.2.2.1.1])∧(VM.one v.2.2.2.2.2.2.1.1=true∧v.2.2.2.2.2.2.1.1.cells=#[v.2.2.2.2.2.2.1.1]):=by
 obtain ⟨h1,h2,h3,h4,h5,h6,h7,_⟩:=h
 exact ⟨Wg h1,(Qq h2).1,(Qq h2).2,Xx h3,W6 h4,W6 h5,Xx h6,Xx h7⟩
theorem Dv (w h:Int) (v u:Value) (b T:List Int) (a to:Int) (hI:IsI H v b) (hT:IsI H u T) (hl:b.length≤1073741824) (hz:tsized w h b T) (ha:isN w h a) (hto:isN w h to) :
 vcall C frz 120 [.agg #[.int .i64 w,.int .i64 h,v],.agg #[u],.int .i64 a,.int .i64 to] H =
  some (.slice (some ⟨H.length,0,some 0⟩) (walk w h b T a to).length 0,H++[⟨(walk w h b T a to).map (.int .i64),0,3⟩]):=by
 rw [Qb (fn:=Tryz.f120) Tryz.func120 rfl (by kernel_rfl) rfl]
 simp [hI.one',hI.cells,hT.one',hT.cells,Qw]
 have hc:=Qg w h
 refine Yj (fun n t H'=>∃(o:List Int) (g:Nat) (x:Int) (G:Heap),n=(cnt w h).toNat+1-o.length∧t 3=.int .i64 to∧t 4=.pointer (some ⟨H.length,0,some 0⟩)∧t 5=.pointer (some ⟨H.length+1,0,some 0⟩)∧
  t 9=.slice (some ⟨H.length+2,0,some g⟩) o.length 0∧t 10=.int .i64 (cnt w h)∧t 11=.int .i64 x∧
  H'=H++⟨[.int .i64 w,.int .i64 h,v],0,28⟩::⟨[u],0,30⟩::⟨o.map (.int .i64),g,3⟩::G∧
  ((o.length≤(cnt w h).toNat∧isN w h x∧walkN w h b T to ((cnt w h).toNat-o.length) x o=walk w h b T a to)∨(o.length=(cnt w h).toNat+1∧walk w h b T a to=[]))) ?_
  (n:=(cnt w h).toNat+1) ⟨[],0,a,[],by simp [ha,walk]⟩
 rintro n t H' ⟨o,g,x,G,rfl,h3,h4,h5,h9,h10,h11,rfl,ho⟩ ih
 simp [h3,h4,h5,h9,h10,h11]
 refine Qp _ ?_ ?_<;>intro hn
 ·obtain ⟨ho1,hx,hw⟩:o.length≤(cnt w h).toNat∧isN w h x∧walkN w h b T to ((cnt w h).toNat-o.length) x o=walk w h b T a to:=by
   rcases ho with ho|ho
   ·exact ho
   ·omega
  obtain ⟨k0,k1,k2,k3⟩:=Zh hx hto
  have hTl:=hz.2
  have e1:IntKind.i64.wrap (x*cnt w h)=x*cnt w h:=w64 (by omega) (by omega)
  have e2:IntKind.i64.wrap (x*cnt w h+to)=x*cnt w h+to:=w64 (by omega) (by have:=hto.2;omega)
  have q1:∀L,vindexAddr Tryz.prog (H++L) 26 u (.int .i64 (x*cnt w h+to))=some (elp u (x*cnt w h+to).toNat):=fun L=>hT.idxA (e:=3) (by simp) k0 (by omega)
  have q2:∀L,vload Tryz.prog (H++L) 3 (elp u (x*cnt w h+to).toNat)=some (.int .i64 (portOf w h T x to)):=fun L=>hT.loadA (by simp) (by omega)
  simp [h3,h4,h5,h9,h10,h11,e1,e2,q1,q2]
  refine Qp _ ?_ ?_<;>intro hp
  ·have hw':walk w h b T a to=if x=to then o else []:=by
    rw [← hw];cases (cnt w h).toNat-o.length<;>simp [walkN,hp]
   simp [h3,h4,h5,h9,h10,h11,hp]
   refine Qp _ ?_ ?_<;>intro hq
   ·simp [h3,h4,h5,h9,h10,h11,hq] at hw' ⊢
    simp [hw']
   ·simp [h3,h4,h5,h9,h10,h11,hq] at hw' ⊢
    simp [hw']
  ·simp [h3,h4,h5,h9,h10,h11,hp]
   have hw0:¬stepOk w h b T x to→walk w h b T a to=[]:=fun hh=>by
    rw [← hw];cases (cnt w h).toNat-o.length<;>simp [walkN,hp,hh]
   have e3:IntKind.i64.wrap (4*x)=4*x:=w64 (by have:=hx.1;omega) (by have:=hx.2;omega)
   simp [Wa]
   refine Wh _ _ ?_ ?_<;>intro hr
   ·have e4:IntKind.i64.wrap (4*x+portOf w h T x to)=4*x+portOf w h T x to:=w64 (by have:=hx.1;have:=hr.1;omega) (by have:=hx.2;have:=hr.2;omega)
    simp [h3,h4,h5,h9,h10,h11,hp,hr,e3,e4,N5 _ _ _ _ _ (hI.app _) hl,hI.one',hI.cells]
    refine Qp _ ?_ ?_<;>intro hh
    ·simp [h3,h4,h5,h9,h10,h11,hp,hr,hh,e3,e4,Yd,hI.one',hI.cells]
     obtain ⟨s1,s2,s3⟩:=X3 hr hh
     refine Yp (by omega) ?_
     refine ih ((cnt w h).toNat+1-(o.length+1)) _ _ ⟨o++[4*x+portOf w h T x to],g+1,next w h x (portOf w h T x to),_,by simp,by simp [h3],by simp [h4],by simp [h5],by simp,by simp [h10],by simp,by simp;rfl,?_⟩ (by omega)
     by_cases hlt:o.length<(cnt w h).toNat
     ·refine .inl ⟨by simp;omega,s3,?_⟩
      rw [show (cnt w h).toNat-o.length=((cnt w h).toNat-(o++[4*x+portOf w h T x to]).length)+1 by simp;omega] at hw
      rw [← hw,walkN,if_neg hp,if_pos ⟨hr,hh⟩]
     ·refine .inr ⟨by simp;omega,?_⟩
      rw [show (cnt w h).toNat-o.length=0 by omega] at hw
      rw [← hw,walkN,if_neg hp]
    ·have hw2:=hw0 (fun k=>hh k.2)
     simp [h3,h4,h5,h9,h10,h11,hp,hr,hh,e3,e4,hw2]
   ·have hw2:=hw0 (fun k=>hr k.1)
    simp [h3,h4,h5,h9,h10,h11,hp,hr,hw2]
 ·have hw2:walk w h b T a to=[]:=by
   rcases ho with ho|ho
   ·omega
   ·exact ho.2
  simp [h3,h4,h5,h9,h10,h11,hn,hw2]
theorem Me (w h:Int) (v u:Value) (b T:List Int) (a to:Int) (hI:IsI H v b) (hT:IsI H u T) (hl:b.length≤1073741824) (hz:tsized w h b T) (ha:isN w h a) (hto:isN w h to) :
 vcall C frz 52 [.agg #[.int .i64 w,.int .i64 h,v],.agg #[u],.int .i64 a,.int .i64 to] H =
  some (.int .i64 (if inR 0 (portOf w h T a to) 4 then portOf w h T a to else -1),H):=by
 rw [Qb (fn:=Tryz.f52) Tryz.func52 rfl (by kernel_rfl) rfl]
 have hc:=Qg w h
 obtain ⟨k0,k1,k2,k3⟩:=Zh ha hto
 have hTl:=hz.2
 have hc2:cnt w h*cnt w h≤16*16:=Int.mul_le_mul hc.2 hc.2 hc.1 (by omega)
 have hc3:0*0≤cnt w h*cnt w h:=Int.mul_le_mul hc.1 hc.1 (by omega) hc.1
 have e0:IntKind.i64.wrap (cnt w h*cnt w h)=cnt w h*cnt w h:=w64 (by omega) (by omega)
 have e1:IntKind.i64.wrap (a*cnt w h)=a*cnt w h:=w64 (by omega) (by omega)
 have e2:IntKind.i64.wrap (a*cnt w h+to)=a*cnt w h+to:=w64 (by omega) (by have:=hto.2;omega)
 have q1:∀L,vindexAddr Tryz.prog (H++L) 26 u (.int .i64 (a*cnt w h+to))=some (elp u (a*cnt w h+to).toNat):=fun L=>hT.idxA (e:=3) (by simp) k0 (by omega)
 have q2:∀L,vload Tryz.prog (H++L) 3 (elp u (a*cnt w h+to).toNat)=some (.int .i64 (portOf w h T a to)):=fun L=>hT.loadA (by simp) (by omega)
 simp [hI.one',hI.cells,hT.one',hT.cells,Wj,U7 _ _ _ _ (hI.app _) hl,hz.1,Qr,Nj,ha,hto,e0,e1,e2,q1,q2,hT.lenA,hTl]
 try refine Qp _ ?_ ?_<;>intro hr<;>simp [hr,q1,q2,e1,e2]
def ret (H:Heap) (xs:List Int):Value×Heap:=if xs=[] then (.slice none 0 0,H) else (.slice (some ⟨H.length,0,some 0⟩) xs.length 0,H++[⟨xs.map (.int .i64),0,3⟩])
theorem Fv (w h:Int) (v u:Value) (b T:List Int) (a to:Int) (hI:IsI H v b) (hT:IsI H u T) (hl:b.length≤1073741824) (hz:tsized w h b T) (ha:isN w h a) (hto:isN w h to) (hne:a≠to) :
 vcall C frz 29 [.agg #[.int .i64 w,.int .i64 h,v],.agg #[u],.int .i64 a,.int .i64 to] H=some (ret H (walk w h b T a to)):=by
 rw [Qb (fn:=Tryz.f29) Tryz.func29 rfl (by kernel_rfl) rfl]
 have hc:=Qg w h
 simp [hI.one',hI.cells,hT.one',hT.cells,Wj,U7 _ _ _ _ (hI.app _) hl,hz.1,W8,ha,hto,hne]
 refine Yj (fun n t H'=>∃(o:List Int) (g:Nat) (x:Int) (G:Heap),n=(cnt w h).toNat+1-o.length∧t 3=.int .i64 to∧t 4=.pointer (some ⟨H.length,0,some 0⟩)∧t 5=.pointer (some ⟨H.length+1,0,some 0⟩)∧
  t 9=.slice (some ⟨H.length+2,0,some g⟩) o.length 0∧t 10=.int .i64 x∧
  H'=H++⟨[.int .i64 w,.int .i64 h,v],0,28⟩::⟨[u],0,30⟩::⟨o.map (.int .i64),g,3⟩::G∧
  o.length≤(cnt w h).toNat∧isN w h x∧walkN w h b T to ((cnt w h).toNat-o.length) x o=walk w h b T a to∧(o=[]→x≠to)) ?_
  (n:=(cnt w h).toNat+1) ⟨[],0,a,[],by simp [ha,walk,hne]⟩
 rintro n t H' ⟨o,g,x,G,rfl,h3,h4,h5,h9,h10,rfl,ho1,hx,hw,hox⟩ ih
 have hpa:=fun F L=>Me (frz:=F) (H:=H++L) w h v u b T x to (hI.app _) (hT.app _) hl hz hx hto
 have hw0:portOf w h T x to≠4→¬stepOk w h b T x to→walk w h b T a to=[]:=fun hp hh=>by
  rw [← hw];cases (cnt w h).toNat-o.length<;>simp [walkN,hp,hh]
 simp [h3,h4,h5,h9,h10,hI.one',hI.cells,hT.one',hT.cells,hpa]
 have hnil:walk w h b T a to=[]→(Value.slice none 0 0,H)=ret H (walk w h b T a to):=fun hh=>by rw [hh];rfl
 by_cases hr:inR 0 (portOf w h T x to) 4
 ·have hlt:¬portOf w h T x to<0:=by have:=hr.1;omega
  simp [hr,hlt]
  refine Qp _ ?_ ?_<;>intro hp
  ·have hw':walk w h b T a to=if x=to then o else []:=by
    rw [← hw];cases (cnt w h).toNat-o.length<;>simp [walkN,hp]
   simp [h3,h4,h5,h9,h10,hp]
   refine Qp _ ?_ ?_<;>intro hq
   ·have hon:o≠[]:=fun hh=>hox hh hq
    rw [if_pos hq] at hw'
    simp [h3,h4,h5,h9,h10,hq,hw',ret,hon]
   ·rw [if_neg hq] at hw'
    simp [h3,h4,h5,h9,h10,hq,hw',ret]
  ·have hr3:inR 0 (portOf w h T x to) 3:=⟨hr.1,by have:=hr.2;omega⟩
   have e3:IntKind.i64.wrap (4*x)=4*x:=w64 (by have:=hx.1;omega) (by have:=hx.2;omega)
   have e4:IntKind.i64.wrap (4*x+portOf w h T x to)=4*x+portOf w h T x to:=w64 (by have:=hx.1;have:=hr.1;omega) (by have:=hx.2;have:=hr.2;omega)
   simp [h3,h4,h5,h9,h10,hp,hI.one',hI.cells,e3,e4,O4 _ _ _ _ _ (hI.app _) hl,hz.1]
   refine Wh _ _ ?_ ?_<;>intro hh
   ·obtain ⟨s1,s2,s3⟩:=X3 hr3 hh
    have he:=fun F L=>J0 (frz:=F) (H:=H++L) w h v b (4*x+portOf w h T x to) (hI.app _) hh.1
    rw [s1,s2] at he
    simp [h3,h4,h5,h9,h10,hp,hh,hI.one',hI.cells,e3,e4,Wj]
    refine Qp _ ?_ ?_<;>intro hf
    ·have hwz:walk w h b T a to=[]:=by
      rw [show (cnt w h).toNat-o.length=0 by omega] at hw
      rw [← hw,walkN,if_neg hp]
     simp [h3,h4,h5,h9,h10,hp,hh,hf,hnil hwz]
    ·simp [h3,h4,h5,h9,h10,hp,hh,hf,hI.one',hI.cells,e3,e4]
     refine Yp (by omega) ?_
     simp [h3,h4,h5,h9,h10,hp,hh,hf,hI.one',hI.cells,e3,e4,he]
     refine ih ((cnt w h).toNat+1-(o.length+1)) _ _ ⟨o++[4*x+portOf w h T x to],g+1,next w h x (portOf w h T x to),_,by simp,by simp [h3],by simp [h4],by simp [h5],by simp,by simp,by simp;rfl,by simp;omega,s3,?_,by simp⟩ (by omega)
     rw [show (cnt w h).toNat-o.length=((cnt w h).toNat-(o++[4*x+portOf w h T x to]).length)+1 by simp;omega] at hw
     rw [← hw,walkN,if_neg hp,if_pos ⟨hr3,hh⟩]
   ·simp [h3,h4,h5,h9,h10,hp,hh]
    exact hnil (hw0 hp (fun hs=>hh hs.2))
 ·simp [hr]
  refine hnil (hw0 (fun hp=>hr ?_) fun hs=>hr ⟨hs.1.1,by have:=hs.1.2;omega⟩)
  rw [hp];exact ⟨by omega,by omega⟩
theorem Ld (w h:Int):IntKind.i64.wrap (cnt w h*cnt w h)=cnt w h*cnt w h:=by
 have hc:=Qg w h
 have hc2:cnt w h*cnt w h≤16*16:=Int.mul_le_mul hc.2 hc.2 hc.1 (by omega)
 have hc3:0*0≤cnt w h*cnt w h:=Int.mul_le_mul hc.1 hc.1 (by omega) hc.1
 exact w64 (by omega) (by omega)
theorem Ch (w h:Int) (v u:Value) (b T:List Int) (hI:IsI H v b) (hT:IsI H u T) (hl:b.length≤1073741824) :
 vcall C frz 119 [.agg #[.int .i64 w,.int .i64 h,v],.agg #[u]] H=some (.bool (decide (tsized w h b T)),H):=by
 rw [Qb (fn:=Tryz.f119) Tryz.func119 rfl (by kernel_rfl) rfl]
 simp [hI.one',hI.cells,hT.one',hT.cells,Qw,Fa _ _ _ _ (hI.app _) hl]
 refine Wh _ _ ?_ ?_<;>intro h1<;>simp [h1,tsized,hT.lenA,Ld,hI.one',hI.cells,hT.one',hT.cells,Qw,-Bool.decide_and]
def good (w h:Int) (b T:List Int) (a c:Nat):Prop:=((a:Int)=c→portOf w h T a a=4)∧((a:Int)≠c→walk w h b T a c≠[])
theorem T2 (w h:Int) (b T:List Int):tableOk w h b T↔tsized w h b T∧∀a,a<(cnt w h).toNat→∀c,c<(cnt w h).toNat→good w h b T a c:=by
 unfold tableOk good
 refine and_congr Iff.rfl ⟨fun k a ha c hc=>?_,fun k a ha c hc=>?_⟩
 ·exact ⟨fun e=>(k a ha c hc).1 (by omega),fun e=>(k a ha c hc).2 (by omega)⟩
 ·exact ⟨fun e=>(k a ha c hc).1 (by omega),fun e=>(k a ha c hc).2 (by omega)⟩
theorem Wx {w h:Int} {a:Nat} (k:a<(cnt w h).toNat):isN w h a:=⟨by omega,by omega⟩
theorem S9 (w h:Int) (v u:Value) (b T:List Int) (hI:IsI H v b) (hT:IsI H u T) (hl:b.length≤1073741824) :
 vcall C frz 107 [.agg #[.int .i64 w,.int .i64 h,v],.agg #[u]] H=some (.bool (decide (tableOk w h b T)),H):=by
 rw [Qb (fn:=Tryz.f107) Tryz.func107 rfl (by kernel_rfl) rfl]
 simp [hI.one',hI.cells,hT.one',hT.cells,Qw,Ch _ _ _ _ _ _ (hI.app _) (hT.app _) hl]
 refine Qp _ ?_ ?_<;>intro h1
 ·simp [h1,hI.one',hI.cells,hT.one',hT.cells,Qw]
  have hc:=Qg w h
  have no:∀i j:Nat,i<(cnt w h).toNat→j<(cnt w h).toNat→¬good w h b T i j→¬tableOk w h b T:=fun i j hi hj hg hh=>hg (((T2 w h b T).1 hh).2 i hi j hj)
  refine Yj (fun n t H'=>∃(i:Nat) (G:Heap),n=(cnt w h).toNat-i∧i≤(cnt w h).toNat∧t 2=.pointer (some ⟨H.length,0,some 0⟩)∧t 3=.pointer (some ⟨H.length+1,0,some 0⟩)∧
   t 5=.int .i64 (cnt w h)∧t 6=.int .i64 i∧H'=H++⟨[.int .i64 w,.int .i64 h,v],0,28⟩::⟨[u],0,30⟩::G∧∀a,a<i→∀c,c<(cnt w h).toNat→good w h b T a c) ?_
   (n:=(cnt w h).toNat) ⟨0,[],by simp⟩
  rintro n t H' ⟨i,G,rfl,hi,h2,h3,h5,h6,rfl,hk⟩ ih
  simp [h2,h3,h5,h6]
  refine Qp _ ?_ ?_<;>intro hlt
  ·simp [h2,h3,h5,h6,hlt]
   refine Yj (fun n t H'=>∃(j:Nat) (G:Heap),n=(cnt w h).toNat-j∧j≤(cnt w h).toNat∧t 2=.pointer (some ⟨H.length,0,some 0⟩)∧t 3=.pointer (some ⟨H.length+1,0,some 0⟩)∧
    t 5=.int .i64 (cnt w h)∧t 6=.int .i64 i∧t 7=.int .i64 j∧H'=H++⟨[.int .i64 w,.int .i64 h,v],0,28⟩::⟨[u],0,30⟩::G∧∀c,c<j→good w h b T i c) ?_
    (n:=(cnt w h).toNat) ⟨0,G,by simp [h2,h3,h5,h6]⟩
   clear h2 h3 h5 h6
   rintro n t H' ⟨j,G,rfl,hj,h2,h3,h5,h6,h7,rfl,hkj⟩ ih2
   simp [h2,h3,h5,h6,h7]
   refine Qp _ ?_ ?_<;>intro hlj
   ·have ni:i<(cnt w h).toNat:=by omega
    have nj:j<(cnt w h).toNat:=by omega
    obtain ⟨k0,k1,k2,k3⟩:=Zh (Wx ni) (Wx ni)
    have hTl:=h1.2
    have e1:IntKind.i64.wrap (i*cnt w h)=i*cnt w h:=w64 (by omega) (by omega)
    have e2:IntKind.i64.wrap (i*cnt w h+i)=i*cnt w h+i:=w64 (by omega) (by omega)
    have q1:∀L,vindexAddr Tryz.prog (H++L) 26 u (.int .i64 (i*cnt w h+i))=some (elp u (i*cnt w h+i:Int).toNat):=fun L=>hT.idxA (e:=3) (by simp) k0 (by omega)
    have q2:∀L,vload Tryz.prog (H++L) 3 (elp u (i*cnt w h+i:Int).toNat)=some (.int .i64 (portOf w h T i i)):=fun L=>hT.loadA (by simp) (by omega)
    have sw:=fun F L=>Dv (frz:=F) (H:=H++L) w h v u b T i j (hI.app _) (hT.app _) hl h1 (Wx ni) (Wx nj)
    have yes:=fun (t':Env) (G':Heap) (x2:t' 2=.pointer (some ⟨H.length,0,some 0⟩)) (x3:t' 3=.pointer (some ⟨H.length+1,0,some 0⟩)) (x5:t' 5=.int .i64 (cnt w h)) (x6:t' 6=.int .i64 i) (x7:t' 7=.int .i64 (j+1:Nat)) (hg:good w h b T i j)=>
     ih2 ((cnt w h).toNat-(j+1)) t' _ ⟨j+1,G',rfl,by omega,x2,x3,x5,x6,x7,rfl,fun c hc'=>by
      by_cases hcj:c<j
      ·exact hkj c hcj
      ·have:c=j:=by omega
       subst this;exact hg⟩ (by omega)
    simp [h2,h3,h5,h6,h7,hlj]
    refine Wh _ _ ?_ ?_<;>intro hij
    ·obtain rfl:i=j:=by omega
     simp [h2,h3,h5,h6,h7,hlj,e1,e2,q1,q2]
     refine Wh _ _ ?_ ?_<;>intro hp
     ·simp [h2,h3,h5,h6,h7,hlj,hp]
      refine yes _ _ (by simp [h2]) (by simp [h3]) (by simp [h5]) (by simp [h6]) ?_ ⟨fun _=>hp,fun hh=>absurd rfl hh⟩
      simp;rw [w64 (by omega) (by omega)]
     ·simp [h2,h3,h5,h6,h7,hlj,hp]
      exact no i i ni ni (fun hg=>hp (hg.1 rfl))
    ·simp [h2,h3,h5,h6,h7,hlj,hij,hI.one',hI.cells,hT.one',hT.cells,sw]
     refine Qp _ ?_ ?_<;>intro hp
     ·simp [h2,h3,h5,h6,h7,hlj,hp]
      exact no i j ni nj (fun hg=>hg.2 hij hp)
     ·simp [h2,h3,h5,h6,h7,hlj,hp]
      refine yes _ _ (by simp [h2]) (by simp [h3]) (by simp [h5]) (by simp [h6]) ?_ ⟨fun hh=>absurd hh hij,fun _=>hp⟩
      simp;rw [w64 (by omega) (by omega)]
   ·have:j=(cnt w h).toNat:=by omega
    subst this
    simp [h2,h3,h5,h6,h7,hlj]
    refine ih ((cnt w h).toNat-(i+1)) _ _ ⟨i+1,G,rfl,by omega,by simp [h2],by simp [h3],by simp [h5],?_,rfl,fun a ha c hc'=>?_⟩ (by omega)
    ·simp;rw [w64 (by omega) (by omega)]
    ·by_cases hai:a<i
     ·exact hk a hai c hc'
     ·have:a=i:=by omega
      subst this;exact hkj c hc'
  ·simp [h2,h3,h5,h6,hlt]
   have:i=(cnt w h).toNat:=by omega
   subst this
   exact (T2 w h b T).2 ⟨h1,hk⟩
 ·simp [h1]
  exact fun k=>h1 k.1
theorem Zp (v:Value) (xs:List Int) (lo hi:Int) (hI:IsI H v xs) (hl:xs.length≤1073741824) :
 vcall C frz 93 [v,.int .i64 lo,.int .i64 hi] H=some (.bool (decide (∀x∈xs,inR lo x hi)),H):=by
 rw [Qb (fn:=Tryz.f93) Tryz.func93 rfl (by kernel_rfl) rfl]
 simp [hI.len]
 refine Yj (fun n t H'=>∃i:Nat,n=xs.length-i∧i≤xs.length∧t 1=.int .i64 lo∧t 2=.int .i64 hi∧t 9=v∧t 10=.int .i64 xs.length∧t 11=.int .i64 i∧H'=H∧∀x∈xs.take i,inR lo x hi) ?_ (n:=xs.length) ⟨0,by simp⟩
 rintro n t H' ⟨i,rfl,hi',h1,h2,h3,h4,h5,rfl,hj⟩ ih
 simp [h1,h2,h3,h4,h5]
 refine Qp _ ?_ ?_<;>intro h6
 ·simp [h1,h2,h3,h4,h5,h6,hI.idx,hI.load,Q1,Qr]
  refine Qp _ ?_ ?_<;>intro h7<;>simp [h1,h2,h3,h4,h5,h6,h7]
  ·refine ih (xs.length-(i+1)) _ _ ⟨i+1,rfl,by omega,by simp [h1],by simp [h2],by simp [h3],by simp [h4],?_,rfl,fun x hx=>?_⟩ (by omega)
   ·simp;rw [w64 (by omega) (by omega)]
   ·rw [List.take_succ_eq_append_getElem h6] at hx
    rcases List.mem_append.1 hx with hx|hx
    ·exact hj x hx
    ·rw [List.mem_singleton.1 hx];exact h7
  ·exact ⟨_,List.getElem_mem h6,h7⟩
 ·have:i=xs.length:=by omega
  subst this
  simp [h1,h2,h3,h4,h5]
  rwa [List.take_length] at hj
def rowPairs (n a m:Nat):List (Nat×Nat):=((List.range m).filter (fun c=>a≠c)).map fun c=>(a,c)
def allPairs (n m:Nat):List (Nat×Nat):=(List.range m).flatMap fun a=>rowPairs n a n
theorem M6 (n a m:Nat) (h:a=m):rowPairs n a (m+1)=rowPairs n a m:=by
 simp [rowPairs,List.range_succ,h]
theorem N9 (n a m:Nat) (h:a≠m):rowPairs n a (m+1)=rowPairs n a m++[(a,m)]:=by
 simp [rowPairs,List.range_succ,h]
theorem R9 (n m:Nat):allPairs n (m+1)=allPairs n m++rowPairs n m n:=by
 simp [allPairs,List.range_succ]
theorem Nc {n a c:Nat}:(a,c)∈allPairs n n↔a<n∧c<n∧a≠c:=by
 simp [allPairs,rowPairs]
theorem Cj (w h:Int) (f:Value) {Q:Value→Heap→Prop} (Inv:List (Nat×Nat)→Heap→Prop)
 (h0:Inv [] (H++[⟨[.int .i64 w,.int .i64 h],0,25⟩]))
 (hs:∀(done:List (Nat×Nat)) (a c:Nat) (H':Heap),a<(cnt w h).toNat→c<(cnt w h).toNat→a≠c→Inv done H'→wp (vclos (vcall C frz) f [.int .i64 a,.int .i64 c] H') fun r H''=>(r=.bool true∧Inv (done++[(a,c)]) H'')∨(r=.bool false∧Q (.bool false) H''))
 (he:∀H',Inv (allPairs (cnt w h).toNat (cnt w h).toNat) H'→Q (.bool true) H') :
 wp (vcall C frz 84 [.agg #[.int .i64 w,.int .i64 h],f] H) Q:=by
 rw [Qb (fn:=Tryz.f84) Tryz.func84 rfl (by kernel_rfl) rfl]
 have hc:=Qg w h
 simp [Wj]
 refine Qk (fun n t H'=>∃(i:Nat),n=(cnt w h).toNat-i∧i≤(cnt w h).toNat∧t 1=f∧t 5=.int .i64 (cnt w h)∧t 10=.int .i64 (cnt w h)∧t 11=.int .i64 i∧
  Inv (allPairs (cnt w h).toNat i) H') ?_ (n:=(cnt w h).toNat) ⟨0,by simp [allPairs,h0]⟩
 rintro n t H' ⟨i,rfl,hi,h1,h5,h10,h11,hk⟩ ih
 simp [h1,h5,h10,h11]
 refine Qh ?_ ?_<;>intro hlt
 ·simp [h1,h5,h10,h11,hlt]
  refine Qk (fun n t H'=>∃(j:Nat),n=(cnt w h).toNat-j∧j≤(cnt w h).toNat∧t 1=f∧t 5=.int .i64 (cnt w h)∧t 10=.int .i64 (cnt w h)∧t 11=.int .i64 i∧t 6=.int .i64 i∧t 14=.int .i64 (cnt w h)∧t 15=.int .i64 j∧
   Inv (allPairs (cnt w h).toNat i++rowPairs (cnt w h).toNat i j) H') ?_ (n:=(cnt w h).toNat) ⟨0,by simp [h1,h5,h10,h11,rowPairs,hk]⟩
  clear h1 h5 h10 h11 hk
  rintro n t H' ⟨j,rfl,hj,h1,h5,h10,h11,h6,h14,h15,hk⟩ ih2
  simp [h1,h5,h10,h11,h6,h14,h15]
  refine Qh ?_ ?_<;>intro hlj
  ·have ni:i<(cnt w h).toNat:=by omega
   have nj:j<(cnt w h).toNat:=by omega
   have yes:=fun (t':Env) (H':Heap) (x1:t' 1=f) (x5:t' 5=.int .i64 (cnt w h)) (x10:t' 10=.int .i64 (cnt w h)) (x11:t' 11=.int .i64 i) (x6:t' 6=.int .i64 i) (x14:t' 14=.int .i64 (cnt w h)) (x15:t' 15=.int .i64 (j+1:Nat)) (hg:Inv (allPairs (cnt w h).toNat i++rowPairs (cnt w h).toNat i (j+1)) H')=>
    ih2 ((cnt w h).toNat-(j+1)) t' H' ⟨j+1,rfl,by omega,x1,x5,x10,x11,x6,x14,x15,hg⟩ (by omega)
   simp [h1,h5,h10,h11,h6,h14,h15,hlj]
   refine Nu ?_ ?_<;>intro hij
   ·simp [h1,h5,h10,h11,h6,h14,h15,hlj,hij]
    refine yes _ _ (by simp [h1]) (by simp [h5]) (by simp [h10]) (by simp [h11]) (by simp [h6]) (by simp [h14]) ?_ (by rw [M6 _ _ _ (by omega)];exact hk)
    simp;rw [w64 (by omega) (by omega)]
   ·simp [h1,h5,h10,h11,h6,h14,h15,hlj,hij]
    refine Qf (hs _ i j H' ni nj (by omega) hk) ?_
    rintro r H'' (⟨rfl,hq⟩|⟨rfl,hq⟩)
    ·simp [h1,h5,h10,h11,h6,h14,h15,hlj,hij]
     refine yes _ _ (by simp [h1]) (by simp [h5]) (by simp [h10]) (by simp [h11]) (by simp [h6]) (by simp [h14]) ?_ (by rw [N9 _ _ _ (by omega),← List.append_assoc];exact hq)
     simp;rw [w64 (by omega) (by omega)]
    ·simp [h1,h5,h10,h11,h6,h14,h15,hlj,hij]
     exact hq
  ·have:j=(cnt w h).toNat:=by omega
   subst this
   simp [h1,h5,h10,h11,h6,h14,h15,hlj]
   refine ih ((cnt w h).toNat-(i+1)) _ _ ⟨i+1,rfl,by omega,by simp [h1],by simp [h5],by simp [h10],?_,by rw [R9];exact hk⟩ (by omega)
   ·simp;rw [w64 (by omega) (by omega)]
 ·simp [h1,h5,h10,h11,hlt]
  have:i=(cnt w h).toNat:=by omega
  subst this
  exact he _ hk
theorem Ks (w h:Int) (v u:Value) (b T:List Int) (a c:Int) (r1 r2:Nat) (hI:IsI H v b) (hT:IsI H u T) (hl:b.length≤1073741824) (hz:tsized w h b T) (ha:isN w h a) (hto:isN w h c) (hne:a≠c)
 (g1:H[r1]? = some ⟨[.int .i64 w,.int .i64 h,v],0,28⟩) (g2:H[r2]? = some ⟨[u],0,30⟩) :
 vcall C frz 85 [.int .i64 a,.int .i64 c,.pointer (some ⟨r1,0,some 0⟩),.pointer (some ⟨r2,0,some 0⟩)] H=some (.bool (!decide (walk w h b T a c=[])),H):=by
 rw [Qb (fn:=Tryz.f85) Tryz.func85 rfl (by kernel_rfl) rfl]
 simp [VM.look,g1,g2,hI.one',hI.cells,hT.one',hT.cells,Fv _ _ _ _ _ _ _ _ hI hT hl hz ha hto hne]
 by_cases hw:walk w h b T a c=[]
 ·simp [ret,hw]
 ·have:0<(walk w h b T a c).length:=List.length_pos_iff.2 hw
  simp [ret,hw,this]
theorem Gx (w h:Int) (v u:Value) (b T:List Int) (hI:IsI H v b) (hT:IsI H u T) (hl:b.length≤1073741824) :
 wp (vcall C frz 48 [.agg #[.int .i64 w,.int .i64 h,v],.agg #[u]] H) (fun r _=>r=.bool (decide (tableOk w h b T))):=by
 rw [Qb (fn:=Tryz.f48) Tryz.func48 rfl (by kernel_rfl) rfl]
 simp [hI.one',hI.cells,hT.one',hT.cells,Wj,U7 _ _ _ _ (hI.app _) hl]
 refine Nu ?_ ?_<;>intro hm
 ·simp [hm,hT.lenA,Ld]
  refine Qh ?_ ?_<;>intro hz
  ·simp [hz]
   have hs:tsized w h b T:=⟨hm,hz⟩
   have hc:=Qg w h
   refine Qk (fun n t H'=>∃(i:Nat),n=(cnt w h).toNat-i∧i≤(cnt w h).toNat∧t 2=.pointer (some ⟨H.length,0,some 0⟩)∧t 3=.pointer (some ⟨H.length+1,0,some 0⟩)∧t 5=.int .i64 (cnt w h)∧t 22=.int .i64 (cnt w h)∧t 23=.int .i64 i∧
    H'=H++[⟨[.int .i64 w,.int .i64 h,v],0,28⟩,⟨[u],0,30⟩]∧∀a,a<i→portOf w h T a a=4) ?_ (n:=(cnt w h).toNat) ⟨0,by simp⟩
   rintro n t H' ⟨i,rfl,hi,h2,h3,h5,h22,h23,rfl,hk⟩ ih
   simp [h2,h3,h5,h22,h23]
   refine Qh ?_ ?_<;>intro hlt
   ·have ni:i<(cnt w h).toNat:=by omega
    obtain ⟨k0,k1,k2,k3⟩:=Zh (Wx ni) (Wx ni)
    have e1:IntKind.i64.wrap (i*cnt w h)=i*cnt w h:=w64 (by omega) (by omega)
    have e2:IntKind.i64.wrap (i*cnt w h+i)=i*cnt w h+i:=w64 (by omega) (by omega)
    have q1:∀L,vindexAddr Tryz.prog (H++L) 26 u (.int .i64 (i*cnt w h+i))=some (elp u (i*cnt w h+i:Int).toNat):=fun L=>hT.idxA (e:=3) (by simp) k0 (by omega)
    have q2:∀L,vload Tryz.prog (H++L) 3 (elp u (i*cnt w h+i:Int).toNat)=some (.int .i64 (portOf w h T i i)):=fun L=>hT.loadA (by simp) (by omega)
    simp [h2,h3,h5,h22,h23,hlt,e1,e2,q1,q2]
    refine Qh ?_ ?_<;>intro hp
    ·simp [h2,h3,h5,h22,h23,hlt,hp]
     refine ih ((cnt w h).toNat-(i+1)) _ _ ⟨i+1,rfl,by omega,by simp [h2],by simp [h3],by simp [h5],by simp [h22],?_,rfl,fun a ha=>?_⟩ (by omega)
     ·simp;rw [w64 (by omega) (by omega)]
     ·by_cases hai:a<i
      ·exact hk a hai
      ·have:a=i:=by omega
       subst this;exact hp
    ·simp [h2,h3,h5,h22,h23,hlt,hp]
     exact fun hh=>hp ((hh.2 i ni i ni).1 rfl)
   ·simp [h2,h3,h5,h22,h23,hlt]
    have:i=(cnt w h).toNat:=by omega
    subst this
    refine Qf (Cj w h _ (Q:=fun r _=>r=.bool (decide (tableOk w h b T))) (fun done H'=>∃L,H'=H++[⟨[.int .i64 w,.int .i64 h,v],0,28⟩,⟨[u],0,30⟩]++L∧∀p∈done,walk w h b T p.1 p.2≠[]) ⟨_,rfl,by simp⟩ ?_ ?_) ?_
    ·rintro done a c _ ha hc' hne ⟨L,rfl,hd⟩
     simp
     rw [Ks w h v u b T a c _ _ (hI.app _) (hT.app _) hl hs (Wx ha) (Wx hc') (by omega) (by simp) (by simp)]
     simp
     by_cases hw:walk w h b T a c=[]
     ·refine .inr ⟨hw,?_⟩
      exact fun hh=>(hh.2 a (by omega) c (by omega)).2 (by omega) hw
     ·refine .inl ⟨hw,fun p q hp=>?_⟩
      rcases hp with hp|⟨rfl,rfl⟩
      ·exact hd (p,q) hp
      ·exact hw
    ·rintro _ ⟨L,rfl,hd⟩
     simp
     exact ⟨hs,fun a ha c hc'=>⟨fun _=>hk a ha,fun hne=>hd (a,c) (Nc.2 ⟨ha,hc',hne⟩)⟩⟩
    ·rintro _ H' rfl
     simp
  ·simp [hz]
   exact fun hh=>hz hh.1.2
 ·simp [hm]
  exact fun hh=>hm hh.1.1
theorem P8 (w h:Int) (v u:Value) (b T:List Int) (hI:IsI H v b) (hT:IsI H u T) (hl:b.length≤1073741824) :
 vcall C frz 48 [.agg #[.int .i64 w,.int .i64 h,v],.agg #[u]] H=some (.bool (decide (tableOk w h b T)),H):=
 (Gx w h v u b T hI hT hl).exact (by simp) rfl
def castOk (w h:Int) (b T:List Int) (a:Int) (ts:List Int):Prop:=tableOk w h b T∧isN w h a∧∀x∈ts,isN w h x
instance (w h:Int) (b T:List Int) (a:Int) (ts:List Int):Decidable (castOk w h b T a ts):=inferInstanceAs (Decidable (_∧_))
theorem Sk (w h:Int) (b T:List Int) (a to:Int):(walk w h b T a to).length≤16:=by
 have:=Fi w h b T to (cnt w h).toNat a []
 have hc:=Qg w h
 simp only [walk] at *
 simp at this;omega
theorem Jk {w h:Int} {b T:List Int} {a:Int} (ht:tableOk w h b T) (ha:isN w h a):walk w h b T a a=[]:=by
 obtain ⟨a0,a1⟩:=ha
 have:=(ht.2 a.toNat (by omega) a.toNat (by omega)).1 rfl
 rw [show ((a.toNat:Nat):Int)=a by omega] at this
 unfold walk
 cases (cnt w h).toNat<;>simp [walkN,this]
theorem Do (w h:Int) (v u:Value) (b T:List Int) (a to:Int) (hI:IsI H v b) (hT:IsI H u T) (hl:b.length≤1073741824) (hz:tableOk w h b T) (ha:isN w h a) (hto:isN w h to) :
 vcall C frz 29 [.agg #[.int .i64 w,.int .i64 h,v],.agg #[u],.int .i64 a,.int .i64 to] H=some (ret H (walk w h b T a to)):=by
 by_cases hne:a=to
 ·subst hne
  rw [Jk hz ha,Qb (fn:=Tryz.f29) Tryz.func29 rfl (by kernel_rfl) rfl]
  simp [hI.one',hI.cells,hT.one',hT.cells,ret]
 ·exact Fv w h v u b T a to hI hT hl hz.1 ha hto hne
def classesOk (w h:Int) (b A B:List Int):Prop:=tableOk w h b A∧tableOk w h b B
instance (w h:Int) (b A B:List Int):Decidable (classesOk w h b A B):=inferInstanceAs (Decidable (_∧_))
abbrev PkD:=Int×Int×Int×Int×Int
def packetOk (w h:Int) (p:PkD):Prop:=inR 1 p.1 9999∧isN w h p.2.1∧isN w h p.2.2.1∧p.2.1≠p.2.2.1∧inR 0 p.2.2.2.1 1∧inR 1 p.2.2.2.2 5
instance (w h:Int) (p:PkD):Decidable (packetOk w h p):=inferInstanceAs (Decidable (_∧_))
def pkV (p:PkD):Value:=.agg #[.int .i64 p.1,.int .i64 p.2.1,.int .i64 p.2.2.1,.int .i64 p.2.2.2.1,.int .i64 p.2.2.2.2]
theorem Zg (w h:Int) (v u1 u2:Value) (b A B:List Int) (hI:IsI H v b) (h1:IsI H u1 A) (h2:IsI H u2 B) (hl:b.length≤1073741824) :
 vcall C frz 27 [.agg #[.int .i64 w,.int .i64 h,v],.agg #[u1,u2]] H=some (.bool (decide (classesOk w h b A B)),H):=by
 rw [Qb (fn:=Tryz.f27) Tryz.func27 rfl (by kernel_rfl) rfl]
 have one:=And.intro (And.intro h1.one' h1.cells) (And.intro h2.one' h2.cells)
 simp [hI.one',hI.cells,one,P8 _ _ _ _ _ _ (hI.app _) (h1.app _) hl]
 refine Wh _ _ ?_ ?_<;>intro g<;>simp [g,classesOk,hI.one',hI.cells,one,P8 _ _ _ _ _ _ (hI.app _) (h2.app _) hl]
theorem Vf (w h:Int) (v u1 u2:Value) (b A B:List Int) (hI:IsI H v b) (h1:IsI H u1 A) (h2:IsI H u2 B) (hl:b.length≤1073741824) :
 vcall C frz 74 [.agg #[.int .i64 w,.int .i64 h,v],.agg #[u1,u2]] H=some (.bool (decide (classesOk w h b A B)),H):=by
 rw [Qb (fn:=Tryz.f74) Tryz.func74 rfl (by kernel_rfl) rfl]
 have one:=And.intro (And.intro h1.one' h1.cells) (And.intro h2.one' h2.cells)
 simp [hI.one',hI.cells,one,S9 _ _ _ _ _ _ (hI.app _) (h1.app _) hl]
 refine Wh _ _ ?_ ?_<;>intro g<;>simp [g,classesOk,hI.one',hI.cells,one,S9 _ _ _ _ _ _ (hI.app _) (h2.app _) hl]
theorem Ur (w h:Int) (p:PkD):vcall C frz 28 [.agg #[.int .i64 w,.int .i64 h],pkV p] H=some (.bool (decide (packetOk w h p)),H):=by
 obtain ⟨i,a,b,c,l⟩:=p
 rw [Qb (fn:=Tryz.f28) Tryz.func28 rfl (by kernel_rfl) rfl]
 by_cases g1:inR 1 i 9999
 ·by_cases g2:isN w h a
  ·by_cases g3:isN w h b
   ·by_cases g4:a=b
    ·simp [pkV,Qr,W8,g1,g2,g3,g4,packetOk]
    ·by_cases g5:inR 0 c 1
     ·by_cases g6:inR 1 l 5<;>simp [pkV,Qr,W8,g1,g2,g3,g4,g5,g6,packetOk]
     ·simp [pkV,Qr,W8,g1,g2,g3,g4,g5,packetOk]
   ·simp [pkV,Qr,W8,g1,g2,g3,packetOk]
  ·simp [pkV,Qr,W8,g1,g2,packetOk]
 ·simp [pkV,Qr,W8,g1,packetOk]
theorem Zy (w h:Int) (p:PkD):vcall C frz 71 [.agg #[.int .i64 w,.int .i64 h],pkV p] H=some (.bool (decide (packetOk w h p)),H):=by
 obtain ⟨i,a,b,c,l⟩:=p
 rw [Qb (fn:=Tryz.f71) Tryz.func71 rfl (by kernel_rfl) rfl]
 by_cases g1:inR 1 i 9999
 ·by_cases g2:isN w h a
  ·by_cases g3:isN w h b
   ·by_cases g4:a=b
    ·simp [pkV,Wa,Xp,g1,g2,g3,g4,packetOk]
    ·by_cases g5:inR 0 c 1
     ·by_cases g6:inR 1 l 5<;>simp [pkV,Wa,Xp,g1,g2,g3,g4,g5,g6,packetOk]
     ·simp [pkV,Wa,Xp,g1,g2,g3,g4,g5,packetOk]
   ·simp [pkV,Wa,Xp,g1,g2,g3,packetOk]
  ·simp [pkV,Wa,Xp,g1,g2,packetOk]
 ·simp [pkV,Wa,Xp,g1,packetOk]
def zeroLoad (w h:Int) (b A B:List Int) (p:PkD):Int:=
 if classesOk w h b A B∧packetOk w h p then ((walk w h b (if p.2.2.2.1=1 then B else A) p.2.1 p.2.2.1).length:Int)+p.2.2.2.2+1 else -1
theorem W9 (w h:Int) (b A B:List Int) (p:PkD) : -1≤zeroLoad w h b A B p∧zeroLoad w h b A B p≤100:=by
 unfold zeroLoad;split
 ·rename_i g
  have h1:=g.2.2.2.2.2.2
  have:=Sk w h b (if p.2.2.2.1=1 then B else A) p.2.1 p.2.2.1
  unfold inR at h1;omega
 ·omega
theorem Kg (u1 u2:Value) (A B:List Int) (c:Int) (h1:IsI H u1 A) (h2:IsI H u2 B) :
 wp (vcall C frz 30 [.agg #[u1,u2],.int .i64 c] H) (fun r H'=>r=.agg #[if c=1 then u2 else u1]∧∃L,H'=H++L):=by
 rw [Qb (fn:=Tryz.f30) Tryz.func30 rfl (by kernel_rfl) rfl]
 have one:=And.intro (And.intro h1.one' h1.cells) (And.intro h2.one' h2.cells)
 simp [one]
 refine Qh ?_ ?_<;>intro g<;>simp [g,one]
theorem R5 (w h:Int) (v u1 u2:Value) (b A B:List Int) (p:PkD) (hI:IsI H v b) (h1:IsI H u1 A) (h2:IsI H u2 B) (hl:b.length≤1073741824) :
 vcall C frz 17 [.agg #[.int .i64 w,.int .i64 h,v],.agg #[u1,u2],pkV p] H=some (.int .i64 (zeroLoad w h b A B p),H):=by
 refine wp.exact (by simp) ?_ rfl
 rw [Qb (fn:=Tryz.f17) Tryz.func17 rfl (by kernel_rfl) rfl]
 have one:=And.intro (And.intro h1.one' h1.cells) (And.intro h2.one' h2.cells)
 have onev:=And.intro hI.one' hI.cells
 have pk:=fun F L=>Ur (frz:=F) (H:=L) w h p
 have hz:zeroLoad w h b A B p=if classesOk w h b A B∧packetOk w h p then ((walk w h b (if p.2.2.2.1=1 then B else A) p.2.1 p.2.2.1).length:Int)+p.2.2.2.2+1 else -1:=rfl
 obtain ⟨i,a,c,k,l⟩:=p
 simp only [pkV] at pk ⊢
 simp [onev,one,Zg _ _ _ _ _ _ _ _ (hI.app _) (h1.app _) (h2.app _) hl]
 by_cases g1:classesOk w h b A B
 ·by_cases g2:packetOk w h (i,a,c,k,l)
  ·simp [g1,g2,pk,onev,one]
   rw [if_pos ⟨g1,g2⟩] at hz
   obtain ⟨k1,k2,k3,k4,k5,k6⟩:=g2
   simp only at k1 k2 k3 k4 k5 k6 hz
   rw [Qo (h:=by kernel_rfl)]
   simp [onev,one]
   refine Qf (Kg u1 u2 A B k (h1.app _) (h2.app _)) ?_
   rintro _ H1 ⟨rfl,L,rfl⟩
   have hT:IsI H (if k=1 then u2 else u1) (if k=1 then B else A):=by split<;>assumption
   have hok:tableOk w h b (if k=1 then B else A):=by split;exact g1.2;exact g1.1
   have hwl:=Sk w h b (if k=1 then B else A) a c
   generalize (if k=1 then u2 else u1)=uT at *
   generalize (if k=1 then B else A)=T at *
   have wt:=fun F L=>Do (frz:=F) (H:=H++L) w h v uT b T a c (hI.app _) (hT.app _) hl hok k2 k3
   simp only [List.append_assoc]
   unfold inR at k6
   have f0:∀[Inhabited Unit],IntKind.i64.wrap l=l:=by intro _;exact w64 (by omega) (by omega)
   have f1:=@w6 (l+1) (by omega)
   have f2:=@w6 ((walk w h b T a c).length+l) (by omega)
   have f3:=@w6 ((walk w h b T a c).length+l+1) (by omega)
   simp [onev,one,hT.one',hT.cells,wt,hz]
   unfold ret
   by_cases h0:walk w h b T a c=[]
   ·simp [h0,f0,f1]
   ·simp [h0,f2,f3]
  ·simp [g1,g2,pk,onev,one,hz]
 ·by_cases g2:packetOk w h (i,a,c,k,l)<;>simp [g1,g2,pk,onev,one,hz]
def replyTime (w h:Int) (b A B:List Int) (p:PkD) (n:Int):Int:=
 if zeroLoad w h b A B p<0∨zeroLoad w h b A B (p.1,p.2.2.1,p.2.1,IntKind.i64.wrap (1-p.2.2.2.1),n)<0 then -1 else zeroLoad w h b A B p+zeroLoad w h b A B (p.1,p.2.2.1,p.2.1,IntKind.i64.wrap (1-p.2.2.2.1),n)
theorem Nw {w h:Int} {b A B:List Int} {i j a c k l:Int} (h1:inR 1 i 9999) (h2:inR 1 j 9999):zeroLoad w h b A B (i,a,c,k,l)=zeroLoad w h b A B (j,a,c,k,l):=by
 unfold zeroLoad packetOk
 simp only [h1,h2]
theorem Mt (w h:Int) (v u1 u2:Value) (b A B:List Int) (i a c k l n:Int) (hI:IsI H v b) (h1:IsI H u1 A) (h2:IsI H u2 B) (hl:b.length≤1073741824) :
 vcall C frz 9 [.agg #[.int .i64 w,.int .i64 h,v],.agg #[u1,u2],.agg #[.int .i64 i,.int .i64 a,.int .i64 c,.int .i64 k,.int .i64 l],.int .i64 n] H=some (.int .i64 (replyTime w h b A B (i,a,c,k,l) n),H):=by
 refine wp.exact (by simp) ?_ rfl
 rw [Qb (fn:=Tryz.f9) Tryz.func9 rfl (by kernel_rfl) rfl]
 have one:=And.intro (And.intro h1.one' h1.cells) (And.intro h2.one' h2.cells)
 have onev:=And.intro hI.one' hI.cells
 have z1:=fun F L=>R5 (frz:=F) (H:=H++L) w h v u1 u2 b A B (i,a,c,k,l) (hI.app _) (h1.app _) (h2.app _) hl
 have z2:=fun F L=>R5 (frz:=F) (H:=H++L) w h v u1 u2 b A B (i,c,a,IntKind.i64.wrap (1-k),n) (hI.app _) (h1.app _) (h2.app _) hl
 simp only [pkV] at z1 z2
 have r1:=W9 w h b A B (i,a,c,k,l)
 have r2:=W9 w h b A B (i,c,a,IntKind.i64.wrap (1-k),n)
 unfold replyTime
 simp only
 generalize hq:IntKind.i64.wrap (1-k)=kk at *
 generalize zeroLoad w h b A B (i,a,c,k,l)=Z1 at *
 generalize zeroLoad w h b A B (i,c,a,kk,n)=Z2 at *
 have e1:=@w6 (Z1+Z2) (by omega)
 simp [onev,one,hq]
 rw [Qo (h:=by kernel_rfl)]
 simp [onev,one,z1,z2]
 by_cases g1:Z1<0
 ·simp [g1]
 ·by_cases g2:Z2<0<;>simp [g1,g2,e1]
theorem Lt {v:Value} {u:Value×Value} {w h:Int} {b A B:List Int} {i a c k l n:Int} (o1:dMesh.Ow H v (w,h,b)) (o2:dClasses.Ow H u (A,B)) :
 vcall C frz 9 [dMesh.val v (w,h,b),dClasses.val u (A,B),.agg #[.int .i64 i,.int .i64 a,.int .i64 c,.int .i64 k,.int .i64 l],.int .i64 n] H=some (.int .i64 (replyTime w h b A B (i,a,c,k,l) n),H):=
 Mt w h v u.1 u.2 b A B i a c k l n o1.1.rd.isI o2.1.1.rd.isI o2.2.1.rd.isI o1.2
def pkF:Fl PkD:=⟨5,fun a=>[.int .i64 a.1,.int .i64 a.2.1,.int .i64 a.2.2.1,.int .i64 a.2.2.2.1,.int .i64 a.2.2.2.2],fun _=>rfl⟩
@[simp] theorem Tl:pkF.n=5:=rfl
theorem Ui (a:PkD):pkF.f a=[.int .i64 a.1,.int .i64 a.2.1,.int .i64 a.2.2.1,.int .i64 a.2.2.2.1,.int .i64 a.2.2.2.2]:=rfl
def flitOk (w h:Int) (f:FlitD):Prop:=isN w h f.2.1∧inR 0 f.2.2.1 1
instance (w h:Int) (f:FlitD):Decidable (flitOk w h f):=inferInstanceAs (Decidable (_∧_))
def flitsOk (w h:Int) (l:List FlitD):Prop:=∀f∈l,flitOk w h f
instance (w h:Int) (l:List FlitD):Decidable (flitsOk w h l):=inferInstanceAs (Decidable (∀f∈l,flitOk w h f))
def sizesOk (x:NetD):Prop:=(x.2.2.1.length:Int)=10*cnt x.1.1 x.1.2.1∧(x.2.2.2.1.length:Int)=10*cnt x.1.1 x.1.2.1∧(x.2.2.2.2.1.length:Int)=5*cnt x.1.1 x.1.2.1∧(x.2.2.2.2.2.1.length:Int)=cnt x.1.1 x.1.2.1∧(x.2.2.2.2.2.2.1.length:Int)=cnt x.1.1 x.1.2.1
instance (x:NetD):Decidable (sizesOk x):=inferInstanceAs (Decidable (_∧_))
def bufOk (w h:Int) (l:List FlitD) (c:Int):Prop:=l.length≤3∧(∀f∈l,f.2.2.1=c)∧flitsOk w h l
instance (w h:Int) (l:List FlitD) (c:Int):Decidable (bufOk w h l c):=inferInstanceAs (Decidable (_∧_))
def srcOk (w h:Int) (l:List FlitD):Prop:=l.length≤60∧flitsOk w h l
instance (w h:Int) (l:List FlitD):Decidable (srcOk w h l):=inferInstanceAs (Decidable (_∧_))
def netOk (x:NetD):Prop:=classesOk x.1.1 x.1.2.1 x.1.2.2 x.2.1.1 x.2.1.2∧sizesOk x∧(∀i,i<x.2.2.1.length→bufOk x.1.1 x.1.2.1 (x.2.2.1.getD i []) ((i:Int)%2))∧(∀l∈x.2.2.2.2.2.1,srcOk x.1.1 x.1.2.1 l)∧
 (∀o∈x.2.2.2.1,inR (-1) o 4)∧(∀o∈x.2.2.2.2.1,inR 0 o 9)∧inR 0 x.2.2.2.2.2.2.2 1000000
instance (x:NetD):Decidable (netOk x):=inferInstanceAs (Decidable (_∧_))
theorem Rb (w h:Int) (v:Value) (xs:List FlitD) (hI:Rd flF H v xs) (hl:xs.length≤1073741824) :
 vcall C frz 92 [.agg #[.int .i64 w,.int .i64 h],v] H=some (.bool (decide (flitsOk w h xs)),H):=by
 refine wp.exact (by simp) ?_ rfl
 rw [Qb (fn:=Tryz.f92) Tryz.func92 rfl (by kernel_rfl) rfl]
 generalize hB:decide (flitsOk w h xs)=B
 simp [hI.app.len (P:=Tryz.prog) (ty:=100) (by simp)]
 refine Qk (fun n t H'=>∃i:Nat,n=xs.length-i∧i≤xs.length∧t 2=.pointer (some ⟨H.length,0,some 0⟩)∧t 7=v∧t 8=.int .i64 xs.length∧t 9=.int .i64 i∧Chg H H' []∧H'[H.length]? = some ⟨[.int .i64 w,.int .i64 h],0,25⟩∧∀f∈xs.take i,flitOk w h f) ?_ (n:=xs.length)
  ⟨0,rfl,by omega,by simp,by simp,by simp,by simp,Chg.app _,by simp,by simp⟩
 rintro n t H' ⟨i,rfl,hi,t2,t7,t8,t9,c,b2,hk⟩ ih
 simp [t2,t7,t8,t9]
 refine Qh ?_ ?_<;>intro g
 ·have hi':i<xs.length:=by omega
  have rd:=hI.chg c (by simp)
  have q1:=rd.idx (P:=Tryz.prog) (ty:=100) (e:=103) (by simp) (i:=(i:Int)) (by omega) (by omega)
  have q2:=rd.load (P:=Tryz.prog) (e:=103) (by simp) hi'
  simp only [Int.toNat_natCast,Yu] at q1 q2
  have l0:=c.1
  have hF:H.length≤H'.length:=l0
  have b2':=fun r=>Qa (Qx b2 [r]) (Qj H'.length r) (by simp;have:=Qz b2;omega)
  have hlt:=Qz b2
  have hne:H'.length≠H.length:=by omega
  have key:flitOk w h xs[i]↔isN w h xs[i].2.1∧inR 0 xs[i].2.2.1 1:=Iff.rfl
  have hsucc:∀f∈xs.take (i+1),f∈xs.take i∨f=xs[i]:=fun f hf=>by
   rw [List.take_succ_eq_append_getElem hi'] at hf
   rcases List.mem_append.1 hf with hf|hf
   ·exact .inl hf
   ·exact .inr (List.mem_singleton.1 hf)
  have hno:¬flitOk w h xs[i]→¬flitsOk w h xs:=fun hh k=>hh (k _ (List.getElem_mem hi'))
  simp [t2,t7,t8,t9,q1,q2,hF,Wc,VM.look,b2,Qx b2,W8,Qr]
  by_cases g1:isN w h xs[i].2.1
  ·by_cases g2:inR 0 xs[i].2.2.1 1
   ·simp [t2,t7,t8,t9,g1,g2,Qr]
    refine ih (xs.length-(i+1)) _ _ ⟨i+1,rfl,by omega,by simp [t2],by simp [t7],by simp [t8],?_,c.trans (Chg.app _),Qx b2 _,fun f hf=>?_⟩ (by omega)
    ·simp;rw [w64 (by omega) (by omega)]
    ·rcases hsucc f hf with hf|rfl
     ·exact hk f hf
     ·exact ⟨g1,g2⟩
   ·simp [t2,t7,t8,t9,g1,g2,Qr]
    rw [← hB];exact decide_eq_false (hno (fun hh=>g2 hh.2))
  ·simp [t2,t7,t8,t9,g1]
   rw [← hB];exact decide_eq_false (hno (fun hh=>g1 hh.1))
 ·have:i=xs.length:=by omega
  subst this
  rw [List.take_length] at hk
  simp [t2,t7,t8,t9]
  rw [← hB];exact decide_eq_true hk
theorem Rr (w h:Int) (v:Value) (xs:List FlitD) (hI:Rd flF H v xs) (hl:xs.length≤1073741824) :
 vcall C frz 79 [.agg #[.int .i64 w,.int .i64 h],v] H=some (.bool (decide (flitsOk w h xs)),H):=by
 refine wp.exact (by simp) ?_ rfl
 rw [Qb (fn:=Tryz.f79) Tryz.func79 rfl (by kernel_rfl) rfl]
 generalize hB:decide (flitsOk w h xs)=B
 simp
 have rd:Rd flF (H++[⟨[.int .i64 w,.int .i64 h],0,25⟩]) v xs:=hI.app
 refine Qk (fun n t H'=>∃i:Nat,n=xs.length-i∧i≤xs.length∧t 1=v∧t 2=.pointer (some ⟨H.length,0,some 0⟩)∧t 5=.int .i64 i∧H'=H++[⟨[.int .i64 w,.int .i64 h],0,25⟩]∧∀f∈xs.take i,flitOk w h f) ?_ (n:=xs.length)
  ⟨0,rfl,by omega,by simp,by simp,by simp,rfl,by simp⟩
 rintro n t H' ⟨i,rfl,hi,t1,t2,t5,rfl,hk⟩ ih
 simp [t1,t2,t5,rd.len (P:=Tryz.prog) (ty:=100) (by simp)]
 refine Qh ?_ ?_<;>intro g
 ·have hi':i<xs.length:=by omega
  have q1:=rd.idx (P:=Tryz.prog) (ty:=100) (e:=103) (by simp) (i:=(i:Int)) (by omega) (by omega)
  have q2:=rd.cell (P:=Tryz.prog) (e:=3) (by simp) hi' (c:=1) (by decide)
  have q3:=rd.cell (P:=Tryz.prog) (e:=3) (by simp) hi' (c:=2) (by decide)
  have q4:=rd.field (P:=Tryz.prog) (s:=103) (f:=1) (o:=1) (n:=1) (ag:=false) (by simp) (j:=i*5) (by omega)
  have q5:=rd.field (P:=Tryz.prog) (s:=103) (f:=2) (o:=2) (n:=1) (ag:=false) (by simp) (j:=i*5) (by omega)
  simp only [Int.toNat_natCast,Yu,Wc] at q1 q2 q3
  simp at q2 q3
  have hsucc:∀f∈xs.take (i+1),f∈xs.take i∨f=xs[i]:=fun f hf=>by
   rw [List.take_succ_eq_append_getElem hi'] at hf
   rcases List.mem_append.1 hf with hf|hf
   ·exact .inl hf
   ·exact .inr (List.mem_singleton.1 hf)
  have hno:¬flitOk w h xs[i]→¬flitsOk w h xs:=fun hh k=>hh (k _ (List.getElem_mem hi'))
  simp [t1,t2,t5]
  rw [Qo (h:=by kernel_rfl)]
  simp [-vfieldAddr,Qu,t1,t2,t5,q1,q2,q3,q4,q5,Xp]
  by_cases g1:isN w h xs[i].2.1
  ·by_cases g2:inR 0 xs[i].2.2.1 1
   ·simp [-vfieldAddr,Qu,t1,t2,t5,g1,g2,Wa,q1,q5,q3]
    refine ih (xs.length-(i+1)) _ _ ⟨i+1,rfl,by omega,by simp [t1],by simp [t2],?_,rfl,fun f hf=>?_⟩ (by omega)
    ·simp;rw [w64 (by omega) (by omega)]
    ·rcases hsucc f hf with hf|rfl
     ·exact hk f hf
     ·exact ⟨g1,g2⟩
   ·simp [-vfieldAddr,Qu,t1,t2,t5,g1,g2,Wa,q1,q5,q3]
    rw [← hB];exact decide_eq_false (hno (fun hh=>g2 hh.2))
  ·simp [t1,t2,t5,g1]
   rw [← hB];exact decide_eq_false (hno (fun hh=>g1 hh.1))
 ·have:i=xs.length:=by omega
  subst this
  rw [List.take_length] at hk
  simp [t1,t2,t5]
  rw [← hB];exact decide_eq_true hk
theorem Th (v:Value) (xs:List FlitD) (c:Int) (hI:Rd flF H v xs) (hl:xs.length≤1073741824) :
 wp (vcall C frz 91 [v,.int .i64 c] H) (fun r H'=>Ow flF 103 H' r (xs.filter fun f=>f.2.2.1=c)∧(∀i∈ids r,H.length≤i)∧Chg H H' []):=by
 rw [Qb (fn:=Tryz.f91) Tryz.func91 rfl (by kernel_rfl) rfl]
 simp [hI.app.len (P:=Tryz.prog) (ty:=100) (by simp)]
 refine Qk (fun n t H'=>∃(i:Nat) (r:Value),n=xs.length-i∧i≤xs.length∧t 1=.int .i64 c∧t 5=r∧t 9=v∧t 10=.int .i64 xs.length∧t 11=.int .i64 i∧Chg H H' []∧Ow flF 103 H' r ((xs.take i).filter fun f=>f.2.2.1=c)∧(∀j∈ids r,H.length≤j)) ?_ (n:=xs.length)
  ⟨0,.slice (some ⟨H.length,0,some 0⟩) 0 0,rfl,by omega,by simp,by simp,by simp,by simp,by simp,Chg.app _,Ow.new0 (D:=flF) (xs:=[]) rfl rfl rfl rfl,by simp⟩
 rintro n t H' ⟨i,r,rfl,hi,t1,t5,t9,t10,t11,ch,o,nr⟩ ih
 simp [t1,t5,t9,t10,t11]
 refine Qh ?_ ?_<;>intro g
 ·have hi':i<xs.length:=by omega
  have rd:=hI.chg ch (by simp)
  have q1:=rd.idx (P:=Tryz.prog) (ty:=100) (e:=103) (by simp) (i:=(i:Int)) (by omega) (by omega)
  have q2:=rd.load (P:=Tryz.prog) (e:=103) (by simp) hi'
  simp only [Int.toNat_natCast,Yu] at q1 q2
  have hF:H.length≤H'.length:=ch.1
  have hfl:=List.length_filter_le (fun f:FlitD=>decide (f.2.2.1=c)) (xs.take i)
  have htl:(xs.take i).length≤i:=by simp;omega
  simp [t1,t5,t9,t10,t11,q1,q2,hF,Wc,VM.look]
  refine Qh ?_ ?_<;>intro g1
  ·obtain ⟨r',H2,hap,o2,c2,n2⟩:=(o.app (L:=[⟨flF.f xs[i],0,103⟩])).push (P:=Tryz.prog) (frz:=H.length) (ty:=100) (a:=xs[i]) (by simp) rfl (by omega) nr
   simp only [Wc,List.append_assoc,List.cons_append,List.nil_append,List.length_append,List.length_cons,List.length_nil] at hap
   simp [t1,t5,t9,t10,t11,hap]
   refine ih (xs.length-(i+1)) _ _ ⟨i+1,r',rfl,by omega,by simp [t1],by simp,by simp [t9],by simp [t10],?_,(ch.trans (Chg.app _)).trans' c2 (fun j hj=>.inr (nr j hj)),?_,fun j hj=>?_⟩ (by omega)
   ·simp;rw [w64 (by omega) (by omega)]
   ·rw [List.take_succ_eq_append_getElem hi',List.filter_append];simpa [g1] using o2
   ·rcases n2 j hj with h1|h1
    ·exact nr j h1
    ·simp at h1;omega
  ·simp [t1,t5,t9,t10,t11,g1]
   refine ih (xs.length-(i+1)) _ _ ⟨i+1,r,rfl,by omega,by simp [t1],by simp [t5],by simp [t9],by simp [t10],?_,ch.trans (Chg.app _),?_,nr⟩ (by omega)
   ·simp;rw [w64 (by omega) (by omega)]
   ·rw [List.take_succ_eq_append_getElem hi',List.filter_append];simpa [g1] using o.app
 ·have:i=xs.length:=by omega
  subst this
  rw [List.take_length] at o
  simp [t1,t5,t9,t10,t11]
  exact ⟨o,nr,ch⟩
theorem Si {l:List FlitD} {c:Int}:(l.filter fun f=>f.2.2.1=c).length=l.length↔∀f∈l,f.2.2.1=c:=by
 rw [List.length_filter_eq_length_iff];simp
theorem tmod2 (i:Nat):(i:Int).tmod 2=(i:Int)%2:=Int.tmod_eq_emod_of_nonneg (by omega)
theorem Xy {α:Type} {l:List α} {d:α} {i:Nat} (h:i<l.length):l.getD i d=l[i]:=by simp [List.getD_eq_getElem?_getD,h]
theorem Wv {α:Type} {l:List α} {i:Nat} (h:i<l.length) {x:α} (hx:x∈l.take (i+1)):x∈l.take i∨x=l[i]:=by
 rw [List.take_succ_eq_append_getElem h] at hx
 rcases List.mem_append.1 hx with hx|hx
 ·exact .inl hx
 ·exact .inr (List.mem_singleton.1 hx)
theorem Nt {v:NetV} {x:NetD} (o:dNet.Ow H v x):vcall C frz 60 [dNet.val v x] H=some (.bool (decide (netOk x)),H):=by
 have oo:=Qd o
 obtain ⟨u2,⟨u3,u4⟩,⟨u5,h5⟩,u6,u7,⟨u8,h8⟩,⟨u9,h9⟩,_⟩:=v
 obtain ⟨⟨w,h,b⟩,⟨A,B⟩,buf,own,turn,src,arr,tm⟩:=x
 obtain ⟨o2,o3,o5,o6,o7,o8,o9,_⟩:=o
 simp only at o2 o3 o5 o6 o7 o8 o9
 obtain ⟨p2,p3,p4,p5,p6,p7,p8,p9⟩:=oo
 simp only at p2 p3 p4 p5 p6 p7 p8 p9
 rw [Qc]
 refine wp.exact (by simp) ?_ rfl
 rw [Qb (fn:=Tryz.f60) Tryz.func60 rfl (by kernel_rfl) rfl]
 generalize hY:decide (netOk ((w,h,b),(A,B),buf,own,turn,src,arr,tm))=Y
 obtain ⟨N,hN⟩:∃N:Nat,cnt w h=N:=⟨(cnt w h).toNat,by have:=Qg w h;omega⟩
 have hN2:N≤16:=by have:=Qg w h;omega
 have w10:=@w6 (10*(N:Int)) (by omega)
 have w5:=@w6 (5*(N:Int)) (by omega)
 have cok:=fun F L=>Zg (frz:=F) (H:=H++L) w h u2 u3 u4 b A B (Rd.isI o2.1.rd.app) (Rd.isI o3.1.1.rd.app) (Rd.isI o3.2.1.rd.app) o2.2
 have ln5:=fun (L:Heap)=>(RdL.app (L:=L) o5.1.rd).1.len (P:=Tryz.prog) (ty:=55) (by simp)
 have ln8:=fun (L:Heap)=>(RdL.app (L:=L) o8.1.rd).1.len (P:=Tryz.prog) (ty:=55) (by simp)
 have ln9:=fun (L:Heap)=>(RdL.app (L:=L) o9.1.rd).1.len (P:=Tryz.prog) (ty:=55) (by simp)
 have ln6:=fun (L:Heap)=>(Rd.app (L:=L) o6.1.rd).len (P:=Tryz.prog) (ty:=26) (by simp)
 have ln7:=fun (L:Heap)=>(Rd.app (L:=L) o7.1.rd).len (P:=Tryz.prog) (ty:=26) (by simp)
 have hl5:=o5.1.rd.2.1
 have hl8:=o8.1.rd.2.1
 have hl9:=o9.1.rd.2.1
 have hb5:=o5.2.1
 have hb8:=o8.2.1
 simp only at ln5 ln8 ln9 ln6 ln7 hl5 hl8 hl9 hb5 hb8
 have no:¬netOk ((w,h,b),(A,B),buf,own,turn,src,arr,tm)→false=Y:=fun hh=>by rw [← hY];exact (decide_eq_false hh).symm
 have no':¬netOk ((w,h,b),(A,B),buf,own,turn,src,arr,tm)→Y=false:=fun hh=>(no hh).symm
 have ones:=And.intro p2 (And.intro p3 (And.intro p4 (And.intro p5 (And.intro p6 (And.intro p7 (And.intro p8 p9))))))
 simp [ones,Wj,hN,cok,w10,w5]
 by_cases c1:classesOk w h b A B
 rotate_left
 ·simp [c1];exact no' (fun k=>c1 k.1)
 by_cases c2:(buf.length:Int)=10*N
 rotate_left
 ·simp [c1,c2,ones,ln5,hl5,w10];exact no' (fun k=>c2 (by have:=k.2.1.1;simp only [hN] at this;exact this))
 by_cases c3:(own.length:Int)=10*N
 rotate_left
 ·simp [c1,c2,c3,ones,ln5,hl5,ln6,w10];exact no' (fun k=>c3 (by have:=k.2.1.2.1;simp only [hN] at this;exact this))
 by_cases c4:(turn.length:Int)=5*N
 rotate_left
 ·simp [c1,c2,c3,c4,ones,ln5,hl5,ln6,ln7,w10,w5];exact no' (fun k=>c4 (by have:=k.2.1.2.2.1;simp only [hN] at this;exact this))
 by_cases c5:(src.length:Int)=N
 rotate_left
 ·simp [c1,c2,c3,c4,c5,ones,ln5,hl5,ln6,ln7,ln8,hl8,w10,w5];exact no' (fun k=>c5 (by have:=k.2.1.2.2.2.1;simp only [hN] at this;exact this))
 by_cases c6:(arr.length:Int)=N
 rotate_left
 ·simp [c1,c2,c3,c4,c5,c6,ones,ln5,hl5,ln6,ln7,ln8,hl8,ln9,hl9,w10,w5];exact no' (fun k=>c6 (by have:=k.2.1.2.2.2.2;simp only [hN] at this;exact this))
 have hsz:sizesOk ((w,h,b),(A,B),buf,own,turn,src,arr,tm):=by unfold sizesOk;simp only [hN];exact ⟨c2,c3,c4,c5,c6⟩
 simp [c1,c2,c3,c4,c5,c6,ones,ln5,hl5,ln6,ln7,ln8,hl8,ln9,hl9,w10,w5]
 refine Qk (fun n t H'=>∃i:Nat,n=buf.length-i∧i≤buf.length∧t 1=.pointer (some ⟨H.length,0,some 0⟩)∧t 57=u5∧t 58=.int .i64 buf.length∧t 59=.int .i64 i∧Chg H H' []∧
  H'[H.length]? = some ⟨[.int .i64 w,.int .i64 h,u2,u3,u4,u5,u6,u7,u8,u9,.int .i64 tm],0,57⟩∧∀j,j<i→bufOk w h (buf.getD j []) ((j:Int)%2)) ?_ (n:=buf.length)
  ⟨0,rfl,by omega,by simp,by simp,by simp [c2],by simp,Chg.app _,by simp,by omega⟩
 rintro n t H' ⟨i,rfl,hi,t1,t57,t58,t59,ch,b0,hk⟩ ih
 simp [t1,t57,t58,t59]
 refine Qh ?_ ?_<;>intro g
 ·have hi':i<buf.length:=by omega
  have rl:=o5.1.rd.chg ch (by simp)
  obtain ⟨u,_,a2,a3,a4⟩:=Q5 rl (ty:=55) (e:=100) (by simp) (by simp) hi'
  have hlen:=o5.2.2 _ (List.getElem_mem hi')
  simp only at a2 a3 a4 hlen
  have lu:=a4.len (P:=Tryz.prog) (ty:=100) (by simp)
  have hbg:buf.getD i []=buf[i]:=Xy hi'
  have bad:¬bufOk w h buf[i] ((i:Int)%2)→Y=false:=fun hh=>no' (fun k=>hh (by have:=k.2.2.1 i hi';simp only [hbg] at this;exact this))
  obtain ⟨l,hl⟩:∃l,l=buf[i]:=⟨_,rfl⟩
  rw [← hl] at a4 lu hlen bad hbg
  simp [t1,t57,t58,t59,a2,a3,lu]
  by_cases g1:l.length≤3
  rotate_left
  ·have g1':(3:Int)<l.length:=by omega
   simp [g1'];exact bad (fun k=>g1 k.1)
  have g1':¬(3:Int)<l.length:=by omega
  simp [g1',t1,t57,t58,t59,tmod2]
  refine Qf (Th u l ((i:Int)%2) a4 (by omega)) ?_
  rintro r H2 ⟨orr,nr,cc⟩
  have b0:=Qa b0 cc (by simp)
  have lr:=orr.rd.len (P:=Tryz.prog) (ty:=100) (by simp)
  have lu2:=(a4.chg cc (by simp)).len (P:=Tryz.prog) (ty:=100) (by simp)
  have hfl:=Si (l:=l) (c:=(i:Int)%2)
  generalize (l.filter fun f=>f.2.2.1=(i:Int)%2).length=q at *
  simp [t1,t57,t58,t59,lr,lu2]
  by_cases g2:q=l.length
  rotate_left
  ·have g2':¬(q:Int)=l.length:=by omega
   simp [g2'];exact bad (fun k=>g2 (hfl.2 k.2.1))
  have af:=fun F=>Rb (frz:=F) (H:=H2) w h u l (a4.chg cc (by simp)) (by omega)
  simp [g2,t1,t57,t58,t59,VM.look,b0,af]
  by_cases g3:flitsOk w h l
  rotate_left
  ·simp [g3];exact bad (fun k=>g3 k.2.2)
  simp [g3,t1,t57,t58,t59]
  refine ih (buf.length-(i+1)) _ _ ⟨i+1,rfl,by omega,by simp [t1],by simp [t57],by simp [t58],?_,ch.trans cc,b0,fun j hj=>?_⟩ (by omega)
  ·simp;rw [w64 (by omega) (by omega)]
  ·by_cases hji:j<i
   ·exact hk j hji
   ·have:j=i:=by omega
    subst this
    rw [hbg];exact ⟨g1,hfl.1 g2,g3⟩
 ·have:i=buf.length:=by omega
  subst this
  clear ih
  have l8:=(o8.1.rd.chg ch (by simp)).1.len (P:=Tryz.prog) (ty:=55) (by simp)
  simp only at l8
  simp [t1,t57,t58,t59,VM.look,b0,ones,l8,hl8]
  refine Qk (fun n t H2=>∃i:Nat,n=src.length-i∧i≤src.length∧t 1=.pointer (some ⟨H.length,0,some 0⟩)∧t 87=u8∧t 88=.int .i64 src.length∧t 89=.int .i64 i∧H2=H'∧∀l∈src.take i,srcOk w h l) ?_ (n:=src.length)
   ⟨0,rfl,by omega,by simp [t1],by simp,by simp,by simp,rfl,by simp⟩
  clear t1 t57 t58 t59
  rintro n t H2 ⟨i,rfl,hi,t1,t87,t88,t89,rfl,hk2⟩ ih
  simp [t1,t87,t88,t89]
  refine Qh ?_ ?_<;>intro g
  ·have hi':i<src.length:=by omega
   have rl:=o8.1.rd.chg ch (by simp)
   obtain ⟨u,_,a2,a3,a4⟩:=Q5 rl (ty:=55) (e:=100) (by simp) (by simp) hi'
   have hlen:=o8.2.2 _ (List.getElem_mem hi')
   simp only at a2 a3 a4 hlen
   have lu:=a4.len (P:=Tryz.prog) (ty:=100) (by simp)
   have bad:¬srcOk w h src[i]→Y=false:=fun hh=>no' (fun k=>hh (k.2.2.2.1 _ (List.getElem_mem hi')))
   have hst:=fun {x} (hx:x∈src.take (i+1))=>Wv hi' hx
   obtain ⟨l,hl⟩:∃l,l=src[i]:=⟨_,rfl⟩
   rw [← hl] at a4 lu hlen bad hst
   simp [t1,t87,t88,t89,a2,a3,lu]
   by_cases g1:l.length≤60
   rotate_left
   ·have g1':(60:Int)<l.length:=by omega
    simp [g1'];exact bad (fun k=>g1 k.1)
   have g1':¬(60:Int)<l.length:=by omega
   have af:=fun F=>Rb (frz:=F) (H:=H2) w h u l a4 (by omega)
   simp [g1',t1,t87,t88,t89,VM.look,b0,af]
   by_cases g3:flitsOk w h l
   rotate_left
   ·simp [g3];exact bad (fun k=>g3 k.2)
   simp [g3,t1,t87,t88,t89]
   refine ih (src.length-(i+1)) _ _ ⟨i+1,rfl,by omega,by simp [t1],by simp [t87],by simp [t88],?_,rfl,fun x hx=>?_⟩ (by omega)
   ·simp;rw [w64 (by omega) (by omega)]
   ·rcases hst hx with hx|rfl
    ·exact hk2 x hx
    ·exact ⟨g1,g3⟩
  ·have:i=src.length:=by omega
   subst this
   rw [List.take_length] at hk2
   have ai:=fun F=>Zp (frz:=F) (H:=H2) u6 own (-1) 4 (Rd.isI (o6.1.rd.chg ch (by simp))) (by have:=o6.2;omega)
   have ai2:=fun F=>Zp (frz:=F) (H:=H2) u7 turn 0 9 (Rd.isI (o7.1.rd.chg ch (by simp))) (by have:=o7.2;omega)
   have ai3:=fun F=>Qr (frz:=F) (H:=H2) tm 0 1000000
   have hiff:netOk ((w,h,b),(A,B),buf,own,turn,src,arr,tm)↔(∀x∈own,inR (-1) x 4)∧(∀x∈turn,inR 0 x 9)∧inR 0 tm 1000000:=
    ⟨fun k=>k.2.2.2.2,fun k=>⟨c1,hsz,hk,hk2,k⟩⟩
   have hY2:Y=(decide (∀x∈own,inR (-1) x 4)&&decide (∀x∈turn,inR 0 x 9)&&decide (inR 0 tm 1000000)):=by
    rw [← hY,Bool.eq_iff_iff];simp only [decide_eq_true_eq,Bool.and_eq_true,and_assoc];exact hiff
   generalize decide (∀x∈own,inR (-1) x 4)=P1 at *
   generalize decide (∀x∈turn,inR 0 x 9)=P2 at *
   generalize decide (inR 0 tm 1000000)=P3 at *
   simp [t1,t87,t88,t89,VM.look,b0,ones,ai,ai2,ai3,hY2]
   cases P1<;>cases P2<;>cases P3<;>simp [t1,VM.look,b0,ones,ai2,ai3]
theorem Vi {v:NetV} {x:NetD} (o:dNet.Ow H v x):vcall C frz 43 [dNet.val v x] H=some (.bool (decide (netOk x)),H):=by
 have oo:=Qd o
 obtain ⟨u2,⟨u3,u4⟩,⟨u5,h5⟩,u6,u7,⟨u8,h8⟩,⟨u9,h9⟩,_⟩:=v
 obtain ⟨⟨w,h,b⟩,⟨A,B⟩,buf,own,turn,src,arr,tm⟩:=x
 obtain ⟨o2,o3,o5,o6,o7,o8,o9,_⟩:=o
 simp only at o2 o3 o5 o6 o7 o8 o9
 obtain ⟨p2,p3,p4,p5,p6,p7,p8,p9⟩:=oo
 simp only at p2 p3 p4 p5 p6 p7 p8 p9
 rw [Qc]
 refine wp.exact (by simp) ?_ rfl
 rw [Qb (fn:=Tryz.f43) Tryz.func43 rfl (by kernel_rfl) rfl]
 generalize hY:decide (netOk ((w,h,b),(A,B),buf,own,turn,src,arr,tm))=Y
 obtain ⟨N,hN⟩:∃N:Nat,cnt w h=N:=⟨(cnt w h).toNat,by have:=Qg w h;omega⟩
 have hN2:N≤16:=by have:=Qg w h;omega
 have w10:=@w6 (10*(N:Int)) (by omega)
 have w5:=@w6 (5*(N:Int)) (by omega)
 have cok:=fun F L=>Vf (frz:=F) (H:=H++L) w h u2 u3 u4 b A B (Rd.isI o2.1.rd.app) (Rd.isI o3.1.1.rd.app) (Rd.isI o3.2.1.rd.app) o2.2
 have ln5:=fun (L:Heap)=>(RdL.app (L:=L) o5.1.rd).1.len (P:=Tryz.prog) (ty:=55) (by simp)
 have ln8:=fun (L:Heap)=>(RdL.app (L:=L) o8.1.rd).1.len (P:=Tryz.prog) (ty:=55) (by simp)
 have ln9:=fun (L:Heap)=>(RdL.app (L:=L) o9.1.rd).1.len (P:=Tryz.prog) (ty:=55) (by simp)
 have ln6:=fun (L:Heap)=>(Rd.app (L:=L) o6.1.rd).len (P:=Tryz.prog) (ty:=26) (by simp)
 have ln7:=fun (L:Heap)=>(Rd.app (L:=L) o7.1.rd).len (P:=Tryz.prog) (ty:=26) (by simp)
 have hl5:=o5.1.rd.2.1
 have hl8:=o8.1.rd.2.1
 have hl9:=o9.1.rd.2.1
 have hb5:=o5.2.1
 have hb8:=o8.2.1
 simp only at ln5 ln8 ln9 ln6 ln7 hl5 hl8 hl9 hb5 hb8
 have no:¬netOk ((w,h,b),(A,B),buf,own,turn,src,arr,tm)→false=Y:=fun hh=>by rw [← hY];exact (decide_eq_false hh).symm
 have no':¬netOk ((w,h,b),(A,B),buf,own,turn,src,arr,tm)→Y=false:=fun hh=>(no hh).symm
 have ones:=And.intro p2 (And.intro p3 (And.intro p4 (And.intro p5 (And.intro p6 (And.intro p7 (And.intro p8 p9))))))
 simp [ones,Qw,hN,cok,w10,w5]
 by_cases c1:classesOk w h b A B
 rotate_left
 ·simp [c1];exact no' (fun k=>c1 k.1)
 by_cases c2:(buf.length:Int)=10*N
 rotate_left
 ·simp [c1,c2,ones,ln5,hl5,w10];exact no' (fun k=>c2 (by have:=k.2.1.1;simp only [hN] at this;exact this))
 by_cases c3:(own.length:Int)=10*N
 rotate_left
 ·simp [c1,c2,c3,ones,ln5,hl5,ln6,w10];exact no' (fun k=>c3 (by have:=k.2.1.2.1;simp only [hN] at this;exact this))
 by_cases c4:(turn.length:Int)=5*N
 rotate_left
 ·simp [c1,c2,c3,c4,ones,ln5,hl5,ln6,ln7,w10,w5];exact no' (fun k=>c4 (by have:=k.2.1.2.2.1;simp only [hN] at this;exact this))
 by_cases c5:(src.length:Int)=N
 rotate_left
 ·simp [c1,c2,c3,c4,c5,ones,ln5,hl5,ln6,ln7,ln8,hl8,w10,w5];exact no' (fun k=>c5 (by have:=k.2.1.2.2.2.1;simp only [hN] at this;exact this))
 by_cases c6:(arr.length:Int)=N
 rotate_left
 ·simp [c1,c2,c3,c4,c5,c6,ones,ln5,hl5,ln6,ln7,ln8,hl8,ln9,hl9,w10,w5];exact no' (fun k=>c6 (by have:=k.2.1.2.2.2.2;simp only [hN] at this;exact this))
 by_cases c7:inR 0 tm 1000000
 rotate_left
 ·simp [c1,c2,c3,c4,c5,c6,c7,Wa,ones,ln5,hl5,ln6,ln7,ln8,hl8,ln9,hl9,w10,w5];exact no' (fun k=>c7 k.2.2.2.2.2.2)
 have hsz:sizesOk ((w,h,b),(A,B),buf,own,turn,src,arr,tm):=by unfold sizesOk;simp only [hN];exact ⟨c2,c3,c4,c5,c6⟩
 simp [c1,c2,c3,c4,c5,c6,c7,Wa,ones,ln5,hl5,ln6,ln7,ln8,hl8,ln9,hl9,w10,w5]
 have hbl:buf.length=10*N:=by omega
 have hol:own.length=10*N:=by omega
 have htl:turn.length=5*N:=by omega
 have hsl:src.length=N:=by omega
 obtain ⟨G,hG⟩:∃G,G=H++[⟨[.int .i64 w,.int .i64 h,u2,u3,u4,u5,u6,u7,u8,u9,.int .i64 tm],0,57⟩]:=⟨_,rfl⟩
 rw [← hG]
 have b0:G[H.length]? = some ⟨[.int .i64 w,.int .i64 h,u2,u3,u4,u5,u6,u7,u8,u9,.int .i64 tm],0,57⟩:=by rw [hG];simp
 have ch:Chg H G []:=by rw [hG];exact Chg.app _
 clear hG
 have i6:IsI G u6 own:=Rd.isI (o6.1.rd.chg ch (by simp))
 have i7:IsI G u7 turn:=Rd.isI (o7.1.rd.chg ch (by simp))
 refine Qk (fun n t H'=>∃i:Nat,n=10*N-i∧i≤10*N∧t 1=.pointer (some ⟨H.length,0,some 0⟩)∧t 3=.int .i64 N∧t 4=.int .i64 i∧H'=G∧
  ∀j,j<i→bufOk w h (buf.getD j []) ((j:Int)%2)∧inR (-1) (own.getD j 0) 4) ?_ (n:=10*N)
  ⟨0,rfl,by omega,by simp,by simp,by simp,rfl,by omega⟩
 rintro n t H' ⟨i,rfl,hi,t1,t3,t4,rfl,hk⟩ ih
 simp [t1,t3,t4,w10]
 refine Qh ?_ ?_<;>intro g
 ·have hi':i<buf.length:=by omega
  have hio:i<own.length:=by omega
  have rl:=o5.1.rd.chg ch (by simp)
  obtain ⟨u,_,a2,a3,a4⟩:=Q5 rl (ty:=55) (e:=100) (by simp) (by simp) hi'
  have hlen:=o5.2.2 _ (List.getElem_mem hi')
  simp only at a2 a3 a4 hlen
  have lu:=a4.len (P:=Tryz.prog) (ty:=100) (by simp)
  have hbg:buf.getD i []=buf[i]:=Xy hi'
  have bad:¬bufOk w h buf[i] ((i:Int)%2)→Y=false:=fun hh=>no' (fun k=>hh (by have:=k.2.2.1 i hi';simp only [hbg] at this;exact this))
  obtain ⟨l,hl⟩:∃l,l=buf[i]:=⟨_,rfl⟩
  rw [← hl] at a4 lu hlen bad hbg
  have q1:=i6.idx (P:=Tryz.prog) (ty:=26) (e:=3) (by simp) (i:=(i:Int)) (by omega) (by omega)
  have q2:=i6.load (P:=Tryz.prog) (e:=3) (by simp) hio
  simp only [Int.toNat_natCast,Xy hio] at q1 q2
  simp [t1,t3,t4,VM.look,b0,ones,a2,a3,lu]
  by_cases g1:l.length≤3
  rotate_left
  ·have g1':(3:Int)<l.length:=by omega
   simp [g1'];exact bad (fun k=>g1 k.1)
  have g1':¬(3:Int)<l.length:=by omega
  have af:=fun F=>Rr (frz:=F) (H:=H') w h u l a4 (by omega)
  simp [g1',t1,t3,t4,VM.look,b0,ones,af]
  by_cases g3:flitsOk w h l
  rotate_left
  ·simp [g3];exact bad (fun k=>g3 k.2.2)
  simp [g3,t1,t3,t4,VM.look,b0,ones,q1,q2,Wa]
  by_cases g4:inR (-1) own[i] 4
  rotate_left
  ·simp [g4];exact no' (fun k=>g4 (k.2.2.2.2.1 _ (List.getElem_mem hio)))
  simp [g4,t1,t3,t4]
  refine Qk (fun n t H2=>∃c:Nat,n=l.length-c∧c≤l.length∧t 1=.pointer (some ⟨H.length,0,some 0⟩)∧t 3=.int .i64 N∧t 4=.int .i64 i∧t 5=u∧t 6=.int .i64 c∧H2=H'∧∀f∈l.take c,f.2.2.1=(i:Int)%2) ?_ (n:=l.length)
   ⟨0,rfl,by omega,by simp [t1],by simp [t3],by simp [t4],by simp,by simp,rfl,by simp⟩
  clear t1 t3 t4
  rintro n t H2 ⟨c,rfl,hc,t1,t3,t4,t5,t6,rfl,hk3⟩ ih2
  simp [t1,t3,t4,t5,t6,lu]
  refine Qh ?_ ?_<;>intro g5
  ·have hc':c<l.length:=by omega
   have r1:=a4.idx (P:=Tryz.prog) (ty:=100) (e:=103) (by simp) (i:=(c:Int)) (by omega) (by omega)
   have r2:=a4.cell (P:=Tryz.prog) (e:=3) (by simp) hc' (c:=2) (by decide)
   have r3:=a4.field (P:=Tryz.prog) (s:=103) (f:=2) (o:=2) (n:=1) (ag:=false) (by simp) (j:=c*5) (by omega)
   simp only [Int.toNat_natCast,Yu,Wc] at r1 r2
   simp at r2
   simp [-vfieldAddr,Qu,t1,t3,t4,t5,t6,r1,r2,r3,tmod2]
   refine Qh ?_ ?_<;>intro g6
   ·simp [t1,t3,t4,t5,t6]
    refine ih2 (l.length-(c+1)) _ _ ⟨c+1,rfl,by omega,by simp [t1],by simp [t3],by simp [t4],by simp [t5],?_,rfl,fun f hf=>?_⟩ (by omega)
    ·simp;rw [w64 (by omega) (by omega)]
    ·rcases Wv hc' hf with hf|rfl
     ·exact hk3 f hf
     ·exact g6
   ·simp [t1,t3,t4,t5,t6]
    exact bad (fun k=>g6 (k.2.1 _ (List.getElem_mem hc')))
  ·have:c=l.length:=by omega
   subst this
   rw [List.take_length] at hk3
   simp [t1,t3,t4,t5,t6]
   refine ih (10*N-(i+1)) _ _ ⟨i+1,rfl,by omega,by simp [t1],by simp [t3],?_,rfl,fun j hj=>?_⟩ (by omega)
   ·simp;rw [w64 (by omega) (by omega)]
   ·by_cases hji:j<i
    ·exact hk j hji
    ·have:j=i:=by omega
     subst this
     rw [hbg,Xy hio];exact ⟨⟨g1,hk3,g3⟩,g4⟩
 ·have:i=10*N:=by omega
  subst this
  clear ih
  simp [t1,t3,t4]
  refine Qk (fun n t H2=>∃i:Nat,n=5*N-i∧i≤5*N∧t 1=.pointer (some ⟨H.length,0,some 0⟩)∧t 3=.int .i64 N∧t 7=.int .i64 i∧H2=H'∧∀x∈turn.take i,inR 0 x 9) ?_ (n:=5*N)
   ⟨0,rfl,by omega,by simp [t1],by simp [t3],by simp,rfl,by simp⟩
  clear t1 t3 t4
  rintro n t H2 ⟨i,rfl,hi,t1,t3,t7,rfl,hk2⟩ ih
  simp [t1,t3,t7,w5]
  refine Qh ?_ ?_<;>intro g
  ·have hit:i<turn.length:=by omega
   have q1:=i7.idx (P:=Tryz.prog) (ty:=26) (e:=3) (by simp) (i:=(i:Int)) (by omega) (by omega)
   have q2:=i7.load (P:=Tryz.prog) (e:=3) (by simp) hit
   simp only [Int.toNat_natCast,Xy hit] at q1 q2
   simp [t1,t3,t7,VM.look,b0,ones,q1,q2,Wa]
   by_cases g4:inR 0 turn[i] 9
   rotate_left
   ·simp [g4];exact no' (fun k=>g4 (k.2.2.2.2.2.1 _ (List.getElem_mem hit)))
   simp [g4,t1,t3,t7]
   refine ih (5*N-(i+1)) _ _ ⟨i+1,rfl,by omega,by simp [t1],by simp [t3],?_,rfl,fun x hx=>?_⟩ (by omega)
   ·simp;rw [w64 (by omega) (by omega)]
   ·rcases Wv hit hx with hx|rfl
    ·exact hk2 x hx
    ·exact g4
  ·have:i=5*N:=by omega
   subst this
   clear ih
   simp [t1,t3,t7]
   refine Qk (fun n t H'=>∃i:Nat,n=N-i∧i≤N∧t 1=.pointer (some ⟨H.length,0,some 0⟩)∧t 3=.int .i64 N∧t 8=.int .i64 i∧H'=H2∧∀l∈src.take i,srcOk w h l) ?_ (n:=N)
    ⟨0,rfl,by omega,by simp [t1],by simp [t3],by simp,rfl,by simp⟩
   clear t1 t3 t7
   rintro n t H' ⟨i,rfl,hi,t1,t3,t8,rfl,hk4⟩ ih
   simp [t1,t3,t8]
   refine Qh ?_ ?_<;>intro g
   ·have hi':i<src.length:=by omega
    have rl:=o8.1.rd.chg ch (by simp)
    obtain ⟨u,_,a2,a3,a4⟩:=Q5 rl (ty:=55) (e:=100) (by simp) (by simp) hi'
    have hlen:=o8.2.2 _ (List.getElem_mem hi')
    simp only at a2 a3 a4 hlen
    have lu:=a4.len (P:=Tryz.prog) (ty:=100) (by simp)
    have bad:¬srcOk w h src[i]→Y=false:=fun hh=>no' (fun k=>hh (k.2.2.2.1 _ (List.getElem_mem hi')))
    have hst:=fun {x} (hx:x∈src.take (i+1))=>Wv hi' hx
    obtain ⟨l,hl⟩:∃l,l=src[i]:=⟨_,rfl⟩
    rw [← hl] at a4 lu hlen bad hst
    simp [t1,t3,t8]
    rw [Qo (h:=by kernel_rfl)]
    simp [t1,t3,t8,VM.look,b0,ones,a2,a3,lu]
    by_cases g1:l.length≤60
    rotate_left
    ·have g1':(60:Int)<l.length:=by omega
     simp [g1'];exact bad (fun k=>g1 k.1)
    have g1':¬(60:Int)<l.length:=by omega
    have af:=fun F=>Rr (frz:=F) (H:=H') w h u l a4 (by omega)
    simp [g1',t1,t3,t8,VM.look,b0,ones,a2,a3,af]
    by_cases g3:flitsOk w h l
    rotate_left
    ·simp [g3];exact bad (fun k=>g3 k.2)
    simp [g3,t1,t3,t8]
    refine ih (N-(i+1)) _ _ ⟨i+1,rfl,by omega,by simp [t1],by simp [t3],?_,rfl,fun x hx=>?_⟩ (by omega)
    ·simp;rw [w64 (by omega) (by omega)]
    ·rcases hst hx with hx|rfl
     ·exact hk4 x hx
     ·exact ⟨g1,g3⟩
   ·have:i=N:=by omega
    subst this
    simp [t1,t3,t8]
    rw [← hsl,List.take_length] at hk4
    rw [← htl,List.take_length] at hk2
    rw [← hY]
    refine (decide_eq_true ⟨c1,hsz,fun j hj=>(hk j (by simp only at hj;omega)).1,hk4,fun x hx=>?_,hk2,c7⟩)
    obtain ⟨j,hj,rfl⟩:=List.mem_iff_getElem.1 hx
    have:=(hk j (by simp only at hj;omega)).2
    rw [Xy hj] at this;exact this
theorem F0 (x y:FlitD):cseq [0,0,0,1,1] (flF.f x) (flF.f y)=some (decide (x=y)):=by
 obtain ⟨p,t,c,h,l⟩:=x
 obtain ⟨p',t',c',h',l'⟩:=y
 simp only [Wc,cseq,ceq,if_true]
 congr 1
 rw [Bool.eq_iff_iff];simp [and_assoc]
def flit0:FlitD:=(0,0,0,false,false)
def wholeAt (l:List FlitD) (i:Nat):FlitD:=((l.getD 0 flit0).1,(l.getD 0 flit0).2.1,(l.getD 0 flit0).2.2.1,decide ((i:Int)=0),decide ((i:Int)=(l.length:Int)-1))
def whole (l:List FlitD):Prop:=(∀i,i<l.length→l.getD i flit0=wholeAt l i)∧0<l.length
instance (l:List FlitD):Decidable (whole l):=inferInstanceAs (Decidable (_∧_))
theorem I2 (a b c a' b' c':Int) (d e d' e':Bool):cseq [0,0,0,1,1] [.int .i64 a,.int .i64 b,.int .i64 c,.bool d,.bool e] [.int .i64 a',.int .i64 b',.int .i64 c',.bool d',.bool e']=some (decide (((a,b,c,d,e):FlitD)=(a',b',c',d',e'))):=
 F0 (a,b,c,d,e) (a',b',c',d',e')
theorem Gr (v:Value) (xs:List FlitD) (hI:Rd flF H v xs) (hl:xs.length≤1073741824) :
 vcall C frz 117 [v] H=some (.bool (decide (whole xs)),H):=by
 refine wp.exact (by simp) ?_ rfl
 rw [Qb (fn:=Tryz.f117) Tryz.func117 rfl (by kernel_rfl) rfl]
 generalize hY:decide (whole xs)=Y
 have no:¬whole xs→Y=false:=fun hh=>by rw [← hY];exact decide_eq_false hh
 simp [hI.len (P:=Tryz.prog) (ty:=100) (by simp)]
 refine Qk (fun n t H'=>∃i:Nat,n=xs.length-i∧i≤xs.length∧t 0=v∧t 5=v∧t 6=.int .i64 xs.length∧t 7=.int .i64 i∧Chg H H' []∧∀j,j<i→xs.getD j flit0=wholeAt xs j) ?_ (n:=xs.length)
  ⟨0,rfl,by omega,by simp,by simp,by simp,by simp,Chg.refl _,by omega⟩
 rintro n t H' ⟨i,rfl,hi,t0,t5,t6,t7,c,hk⟩ ih
 simp [t0,t5,t6,t7]
 refine Qh ?_ ?_<;>intro g
 ·have hi':i<xs.length:=by omega
  have h0:0<xs.length:=by omega
  have rd:=hI.chg c (by simp)
  have q1:=rd.idx (P:=Tryz.prog) (ty:=100) (e:=103) (by simp) (i:=(i:Int)) (by omega) (by omega)
  have q2:=rd.load (P:=Tryz.prog) (e:=103) (by simp) hi'
  have rd2:=fun (r:Row)=>(rd.app (L:=[r]))
  have z0:=fun (r:Row)=>(rd2 r).idx (P:=Tryz.prog) (ty:=100) (e:=103) (by simp) (i:=0) (by omega) (by omega)
  have zl:=fun (r:Row)=>(rd2 r).len (P:=Tryz.prog) (ty:=100) (by simp)
  have f0:=fun (r:Row)=>(rd2 r).field (P:=Tryz.prog) (s:=103) (f:=0) (o:=0) (n:=1) (ag:=false) (by simp) (j:=0) h0
  have f1:=fun (r:Row)=>(rd2 r).field (P:=Tryz.prog) (s:=103) (f:=1) (o:=1) (n:=1) (ag:=false) (by simp) (j:=0) h0
  have f2:=fun (r:Row)=>(rd2 r).field (P:=Tryz.prog) (s:=103) (f:=2) (o:=2) (n:=1) (ag:=false) (by simp) (j:=0) h0
  have c0:=fun (r:Row)=>(rd2 r).cell (P:=Tryz.prog) (e:=3) (by simp) h0 (c:=0) (by decide)
  have c1:=fun (r:Row)=>(rd2 r).cell (P:=Tryz.prog) (e:=3) (by simp) h0 (c:=1) (by decide)
  have c2:=fun (r:Row)=>(rd2 r).cell (P:=Tryz.prog) (e:=3) (by simp) h0 (c:=2) (by decide)
  simp only [Int.toNat_natCast,Yu,Int.toNat_zero,Nat.zero_mul,Nat.zero_add,Nat.add_zero] at q1 q2 z0 f0 f1 f2 c0 c1 c2
  simp only [Wc] at c0 c1 c2
  simp at c0 c1 c2
  have hw:=@w6 ((xs.length:Int)-1) (by omega)
  have hF:H.length≤H'.length:=c.1
  have hg0:xs.getD 0 flit0=xs[0]:=by simp [List.getD_eq_getElem?_getD,h0]
  have hgi:xs.getD i flit0=xs[i]:=by simp [List.getD_eq_getElem?_getD,hi']
  have hwt:wholeAt xs i=(xs[0].1,xs[0].2.1,xs[0].2.2.1,decide ((i:Int)=0),decide ((i:Int)=(xs.length:Int)-1)):=by unfold wholeAt;rw [hg0]
  obtain ⟨p,hp⟩:∃p,p=xs[i]:=⟨_,rfl⟩
  obtain ⟨z,hz⟩:∃z,z=xs[0]:=⟨_,rfl⟩
  rw [← hp] at q2 hgi
  rw [← hz] at c0 c1 c2 hwt
  obtain ⟨B1,hB1⟩:∃B,B=decide ((i:Int)=0):=⟨_,rfl⟩
  obtain ⟨B2,hB2⟩:∃B,B=decide ((i:Int)=(xs.length:Int)-1):=⟨_,rfl⟩
  rw [← hB1,← hB2] at hwt
  have e1:∀[Inhabited Unit],decide ((i:Int)=0)=B1:=by intro _;exact hB1.symm
  have e1':∀[Inhabited Unit],decide (i=0)=B1:=by intro _;rw [hB1];congr 1;simp
  have e2:∀[Inhabited Unit],decide ((i:Int)=(xs.length:Int)-1)=B2:=by intro _;exact hB2.symm
  simp [t0,t5,t6,t7,q1,q2,Wc,hF]
  rw [Qo (h:=by kernel_rfl)]
  simp [-vfieldAddr,Qu,VM.look,t0,t5,t6,t7,z0,zl,f0,f1,f2,c0,c1,c2,hw,e1,e1',e2,I2,-cseq,-Prod.mk.injEq]
  have hdec:(((p.1,p.2.1,p.2.2.1,p.2.2.2.1,p.2.2.2.2):FlitD)=(z.1,z.2.1,z.2.2.1,B1,B2))↔xs.getD i flit0=wholeAt xs i:=by rw [hgi,hwt]
  by_cases g2:xs.getD i flit0=wholeAt xs i
  ·have g3:=hdec.2 g2
   rw [decide_eq_true g3]
   simp [t0,t5,t6,t7]
   refine ih (xs.length-(i+1)) _ _ ⟨i+1,rfl,by omega,by simp [t0],by simp [t5],by simp [t6],?_,c.trans (Chg.app _),fun j hj=>?_⟩ (by omega)
   ·simp;rw [w64 (by omega) (by omega)]
   ·by_cases hji:j<i
    ·exact hk j hji
    ·have:j=i:=by omega
     subst this;exact g2
  ·have g3:¬((p.1,p.2.1,p.2.2.1,p.2.2.2.1,p.2.2.2.2):FlitD)=(z.1,z.2.1,z.2.2.1,B1,B2):=fun hh=>g2 (hdec.1 hh)
   rw [decide_eq_false g3]
   simp [t0,t5,t6,t7]
   exact no (fun hh=>g2 (hh.1 i hi'))
 ·have:i=xs.length:=by omega
  subst this
  have ll:=(hI.chg c (by simp)).len (P:=Tryz.prog) (ty:=100) (by simp)
  simp [t0,t5,t6,t7,ll]
  rw [← hY];exact decide_eq_decide.2 ⟨fun h0=>⟨hk,h0⟩,fun k=>k.2⟩
theorem Kd (v:Value) (xs:List FlitD) (hI:Rd flF H v xs) (hl:xs.length≤1073741824) :
 vcall C frz 118 [v] H=some (.bool (decide (whole xs)),H):=by
 refine wp.exact (by simp) ?_ rfl
 rw [Qb (fn:=Tryz.f118) Tryz.func118 rfl (by kernel_rfl) rfl]
 generalize hY:decide (whole xs)=Y
 have no:¬whole xs→Y=false:=fun hh=>by rw [← hY];exact decide_eq_false hh
 simp
 refine Qk (fun n t H'=>∃i:Nat,n=xs.length-i∧i≤xs.length∧t 0=v∧t 3=.int .i64 i∧Chg H H' []∧∀j,j<i→xs.getD j flit0=wholeAt xs j) ?_ (n:=xs.length)
  ⟨0,rfl,by omega,by simp,by simp,Chg.refl _,by omega⟩
 rintro n t H' ⟨i,rfl,hi,t0,t3,c,hk⟩ ih
 have ll:=(hI.chg c (by simp)).len (P:=Tryz.prog) (ty:=100) (by simp)
 simp [t0,t3,ll]
 refine Qh ?_ ?_<;>intro g
 ·have hi':i<xs.length:=by omega
  have h0:0<xs.length:=by omega
  have rd:=hI.chg c (by simp)
  have q1:=rd.idx (P:=Tryz.prog) (ty:=100) (e:=103) (by simp) (i:=(i:Int)) (by omega) (by omega)
  have q2:=rd.load (P:=Tryz.prog) (e:=103) (by simp) hi'
  have rd2:=fun (r:Row)=>(rd.app (L:=[r]))
  have z0:=fun (r:Row)=>(rd2 r).idx (P:=Tryz.prog) (ty:=100) (e:=103) (by simp) (i:=0) (by omega) (by omega)
  have zl:=fun (r:Row)=>(rd2 r).len (P:=Tryz.prog) (ty:=100) (by simp)
  have f0:=fun (r:Row)=>(rd2 r).field (P:=Tryz.prog) (s:=103) (f:=0) (o:=0) (n:=1) (ag:=false) (by simp) (j:=0) h0
  have f1:=fun (r:Row)=>(rd2 r).field (P:=Tryz.prog) (s:=103) (f:=1) (o:=1) (n:=1) (ag:=false) (by simp) (j:=0) h0
  have f2:=fun (r:Row)=>(rd2 r).field (P:=Tryz.prog) (s:=103) (f:=2) (o:=2) (n:=1) (ag:=false) (by simp) (j:=0) h0
  have c0:=fun (r:Row)=>(rd2 r).cell (P:=Tryz.prog) (e:=3) (by simp) h0 (c:=0) (by decide)
  have c1:=fun (r:Row)=>(rd2 r).cell (P:=Tryz.prog) (e:=3) (by simp) h0 (c:=1) (by decide)
  have c2:=fun (r:Row)=>(rd2 r).cell (P:=Tryz.prog) (e:=3) (by simp) h0 (c:=2) (by decide)
  simp only [Int.toNat_natCast,Yu,Int.toNat_zero,Nat.zero_mul,Nat.zero_add,Nat.add_zero] at q1 q2 z0 f0 f1 f2 c0 c1 c2
  simp only [Wc] at c0 c1 c2
  simp at c0 c1 c2
  have hw:=@w6 ((xs.length:Int)-1) (by omega)
  have hF:H.length≤H'.length:=c.1
  have hg0:xs.getD 0 flit0=xs[0]:=by simp [List.getD_eq_getElem?_getD,h0]
  have hgi:xs.getD i flit0=xs[i]:=by simp [List.getD_eq_getElem?_getD,hi']
  have hwt:wholeAt xs i=(xs[0].1,xs[0].2.1,xs[0].2.2.1,decide ((i:Int)=0),decide ((i:Int)=(xs.length:Int)-1)):=by unfold wholeAt;rw [hg0]
  obtain ⟨p,hp⟩:∃p,p=xs[i]:=⟨_,rfl⟩
  obtain ⟨z,hz⟩:∃z,z=xs[0]:=⟨_,rfl⟩
  rw [← hp] at q2 hgi
  rw [← hz] at c0 c1 c2 hwt
  obtain ⟨B1,hB1⟩:∃B,B=decide ((i:Int)=0):=⟨_,rfl⟩
  obtain ⟨B2,hB2⟩:∃B,B=decide ((i:Int)=(xs.length:Int)-1):=⟨_,rfl⟩
  rw [← hB1,← hB2] at hwt
  have e1:∀[Inhabited Unit],decide ((i:Int)=0)=B1:=by intro _;exact hB1.symm
  have e1':∀[Inhabited Unit],decide (i=0)=B1:=by intro _;rw [hB1];congr 1;simp
  have e2:∀[Inhabited Unit],decide ((i:Int)=(xs.length:Int)-1)=B2:=by intro _;exact hB2.symm
  simp [t0,t3,q1,q2,Wc,hF]
  rw [Qo (h:=by kernel_rfl)]
  have hcmp:xs.getD i flit0=wholeAt xs i↔p.1=z.1∧p.2.1=z.2.1∧p.2.2.1=z.2.2.1∧p.2.2.2.1=B1∧p.2.2.2.2=B2:=by
   rw [hgi,hwt];obtain ⟨_,_,_,_,_⟩:=p;simp
  have bad:¬(p.1=z.1∧p.2.1=z.2.1∧p.2.2.1=z.2.2.1∧p.2.2.2.1=B1∧p.2.2.2.2=B2)→Y=false:=fun hh=>no (fun k=>hh (hcmp.1 (k.1 i hi')))
  obtain ⟨p1,p2,p3,p4,p5⟩:=p
  simp only at hcmp bad
  simp [-vfieldAddr,Qu,VM.look,t0,t3,z0,zl,f0,f1,f2,c0,c1,c2,hw,e1,e1',e2]
  by_cases g1:p1=z.1
  rotate_left
  ·simp [t0,t3,g1];exact bad (fun k=>g1 k.1)
  simp [-vfieldAddr,Qu,VM.look,t0,t3,z0,zl,f0,f1,f2,c0,c1,c2,hw,e1,e1',e2,g1]
  by_cases g2:p2=z.2.1
  rotate_left
  ·simp [t0,t3,g2];exact bad (fun k=>g2 k.2.1)
  simp [-vfieldAddr,Qu,VM.look,t0,t3,z0,zl,f0,f1,f2,c0,c1,c2,hw,e1,e1',e2,g1,g2]
  by_cases g3:p3=z.2.2.1
  rotate_left
  ·simp [t0,t3,g3];exact bad (fun k=>g3 k.2.2.1)
  simp [-vfieldAddr,Qu,VM.look,t0,t3,z0,zl,f0,f1,f2,c0,c1,c2,hw,e1,e1',e2,g1,g2,g3]
  by_cases g4:p4=B1
  rotate_left
  ·have g4':(p4 != B1)=true:=bne_iff_ne.2 g4
   simp [t0,t3,g4'];exact bad (fun k=>g4 k.2.2.2.1)
  simp [-vfieldAddr,Qu,VM.look,t0,t3,z0,zl,f0,f1,f2,c0,c1,c2,hw,e1,e1',e2,g1,g2,g3,g4]
  by_cases g5:p5=B2
  rotate_left
  ·have g5':(p5 != B2)=true:=bne_iff_ne.2 g5
   simp [t0,t3,g5'];exact bad (fun k=>g5 k.2.2.2.2)
  have g6:=hcmp.2 ⟨g1,g2,g3,g4,g5⟩
  simp [t0,t3,g5]
  refine ih (xs.length-(i+1)) _ _ ⟨i+1,rfl,by omega,by simp [t0],?_,c.trans (Chg.app _),fun j hj=>?_⟩ (by omega)
  ·simp;rw [w64 (by omega) (by omega)]
  ·by_cases hji:j<i
   ·exact hk j hji
   ·have:j=i:=by omega
    subst this;exact g6
 ·have:i=xs.length:=by omega
  subst this
  simp [t0,t3,ll]
  rw [← hY];exact decide_eq_decide.2 ⟨fun h0=>⟨hk,h0⟩,fun k=>k.2⟩
def part (l:List FlitD) (f i:Nat):List FlitD:=(l.drop f).take (i+1-f)
def wpk (l:List FlitD):Nat→List Int×Nat
 | 0=>([],0)
 | i+1=>if whole (part l (wpk l i).2 i) then ((wpk l i).1++[(l.getD (wpk l i).2 flit0).1],i+1) else wpk l i
def wholePk (l:List FlitD):List Int:=if (wpk l l.length).2<l.length then [] else (wpk l l.length).1
theorem V7 (l:List FlitD):∀i,(wpk l i).2≤i∧(wpk l i).1.length≤i
 | 0=>by simp [wpk]
 | i+1=>by
  have:=V7 l i
  simp only [wpk];split
  ·simp;omega
  ·omega
theorem Mh {l:List FlitD} {f i:Nat} (hf:f≤i) (hi:i<l.length) {j:Nat} (hj:j+f≤i):(part l f i).getD j flit0=l.getD (f+j) flit0:=by
 unfold part
 simp only [List.getD_eq_getElem?_getD]
 rw [List.getElem?_take,if_pos (by omega),List.getElem?_drop]
theorem S7 {l:List FlitD} {f i:Nat} (hf:f≤i) (hi:i<l.length):(part l f i).length=i+1-f:=by unfold part;simp;omega
theorem Ry {l:List FlitD} {f i:Nat} (hf:f≤i) (hi:i<l.length) (h:whole (part l f i)):(l.getD i flit0).1=(l.getD f flit0).1:=by
 have h1:=h.1 (i-f) (by rw [S7 hf hi];omega)
 rw [Mh hf hi (by omega)] at h1
 rw [show f+(i-f)=i by omega] at h1
 rw [h1]
 unfold wholeAt
 rw [Mh hf hi (by omega)];rfl
def IntsOk (H:Heap) (xs:List Int) (r:Value) (H':Heap):Prop:=∃u ok,r=.tuple #[u,.bool ok]∧Ow Fl.int 3 H' u xs∧(∀i∈ids u,H.length≤i)∧Chg H H' []
theorem Ra (v:Value) (l:List FlitD) (o:Ow flF 103 H v l) (hl:l.length≤67108864) :
 wp (vcall C frz 101 [v] H) (IntsOk H (wholePk l)):=by
 rw [Qb (fn:=Tryz.f101) Tryz.func101 rfl (by kernel_rfl) rfl]
 simp
 refine Qk (fun n t H'=>∃(i:Nat) (out:Value),n=l.length-i∧i≤l.length∧t 0=v∧t 4=out∧t 5=.int .i64 (wpk l i).2∧t 6=.int .i64 ((i:Int)+1)∧Chg H H' []∧Ow Fl.int 3 H' out (wpk l i).1∧(∀j∈ids out,H.length≤j)) ?_ (n:=l.length)
  ⟨0,.slice (some ⟨H.length,0,some 0⟩) 0 0,rfl,by omega,by simp,by simp,by simp [wpk],by simp,Chg.app _,Ow.new0 (D:=Fl.int) (xs:=[]) rfl rfl rfl rfl,by simp⟩
 rintro n t H' ⟨i,out,rfl,hi,t0,t4,t5,t6,c,oo,no⟩ ih
 have ov:=o.chg c (by simp)
 have ll:=ov.rd.len (P:=Tryz.prog) (ty:=100) (by simp)
 obtain ⟨wle,wll⟩:=V7 l i
 have hF:H.length≤H'.length:=c.1
 simp [t0,t4,t5,t6,ll]
 refine Qh ?_ ?_<;>intro g
 ·have hi':i<l.length:=by omega
  obtain ⟨f,hf⟩:∃f,f=(wpk l i).2:=⟨_,rfl⟩
  have hwp:wpk l (i+1)=if whole (part l f i) then ((wpk l i).1++[(l.getD f flit0).1],i+1) else wpk l i:=by rw [hf];rfl
  rw [← hf] at t5 wle
  have e1:=@w6 ((i:Int)+1) (by omega)
  have e2:∀[Inhabited Unit],IntKind.i64.wrap ((i:Int)+1+1)=((i+1:Nat):Int)+1:=by intro _;rw [w64 (by omega) (by omega)];omega
  obtain ⟨s,hs,os,ids_s⟩:=ov.slice (P:=Tryz.prog) (ty:=100) (by simp) (lo:=some (.int .i64 (f:Int))) (hi:=some (.int .i64 ((i:Int)+1))) (l:=f) (u:=i+1) rfl rfl (by omega) (by omega)
  have iw:=fun F=>Gr (frz:=F) (H:=H') s (part l f i) os.rd (by rw [S7 wle hi'];omega)
  have hfl:f<l.length:=by omega
  have q1:=ov.rd.idx (P:=Tryz.prog) (ty:=100) (e:=103) (by simp) (i:=(f:Int)) (by omega) (by omega)
  have q2:=ov.rd.field (P:=Tryz.prog) (s:=103) (f:=0) (o:=0) (n:=1) (ag:=false) (by simp) (j:=f*5) (by omega)
  have q3:=ov.rd.cell (P:=Tryz.prog) (e:=3) (by simp) hfl (c:=0) (by decide)
  simp only [Int.toNat_natCast,Yu,Nat.add_zero] at q1 q2 q3
  simp only [Wc] at q3
  simp at q3
  simp [t0,t4,t5,t6,e1,hs,iw]
  refine Qh ?_ ?_<;>intro g2
  ·obtain ⟨out',H2,hap,o2,c2,n2⟩:=oo.push (P:=Tryz.prog) (frz:=H.length) (ty:=26) (a:=l[f].1) (by simp) rfl (by omega) no
   simp only [Fl.int_f] at hap
   have l2:=c2.1
   have hsame:=Ry wle hi' g2
   have hgf:l.getD f flit0=l[f]:=by simp [List.getD_eq_getElem?_getD,hfl]
   have hgi:l.getD i flit0=l[i]:=by simp [List.getD_eq_getElem?_getD,hi']
   rw [hgf,hgi] at hsame
   rw [if_pos g2,hgf] at hwp
   simp [-vfieldAddr,Qu,t0,t4,t5,t6,q1,q2,q3,hap,e1]
   refine ih (l.length-(i+1)) _ _ ⟨i+1,out',rfl,by omega,by simp [t0],by simp,by simp [hwp],by simp [e2],c.trans' c2 (fun j hj=>.inr (no j hj)),?_,fun j hj=>?_⟩ (by omega)
   ·rw [hwp];exact o2
   ·rcases n2 j hj with h1|h1
    ·exact no j h1
    ·omega
  ·rw [if_neg g2] at hwp
   simp [t0,t4,t5,t6]
   refine ih (l.length-(i+1)) _ _ ⟨i+1,out,rfl,by omega,by simp [t0],by simp [t4],by rw [hwp,← hf];simp [t5],by simp [e2],c,by rw [hwp];exact oo,no⟩ (by omega)
 ·have:i=l.length:=by omega
  subst this
  simp [t0,t4,t5,t6,ll]
  refine Qh ?_ ?_<;>intro g2
  ·have hz:wholePk l=[]:=if_pos (by omega)
   simp [t0,t4,t5,t6]
   exact ⟨.slice none 0 0,false,rfl,by rw [hz];exact .inl ⟨rfl,rfl⟩,by simp,c⟩
  ·have hz:wholePk l=(wpk l l.length).1:=if_neg (by omega)
   simp [t0,t4,t5,t6]
   exact ⟨out,true,rfl,by rw [hz];exact oo,no,c⟩
theorem T8 (v:Value) (l:List FlitD) (o:Ow flF 103 H v l) (hl:l.length≤67108864) :
 wp (vcall C frz 106 [v] H) (IntsOk H (wholePk l)):=by
 rw [Qb (fn:=Tryz.f106) Tryz.func106 rfl (by kernel_rfl) rfl]
 simp
 refine Qk (fun n t H'=>∃(i:Nat) (out:Value),n=l.length-i∧i≤l.length∧t 0=v∧t 4=out∧t 5=.int .i64 (wpk l i).2∧t 6=.int .i64 i∧Chg H H' []∧Ow Fl.int 3 H' out (wpk l i).1∧(∀j∈ids out,H.length≤j)) ?_ (n:=l.length)
  ⟨0,.slice (some ⟨H.length,0,some 0⟩) 0 0,rfl,by omega,by simp,by simp,by simp [wpk],by simp,Chg.app _,Ow.new0 (D:=Fl.int) (xs:=[]) rfl rfl rfl rfl,by simp⟩
 rintro n t H' ⟨i,out,rfl,hi,t0,t4,t5,t6,c,oo,no⟩ ih
 have ov:=o.chg c (by simp)
 have ll:=ov.rd.len (P:=Tryz.prog) (ty:=100) (by simp)
 obtain ⟨wle,wll⟩:=V7 l i
 have hF:H.length≤H'.length:=c.1
 simp [t0,t4,t5,t6,ll]
 refine Qh ?_ ?_<;>intro g
 ·have hi':i<l.length:=by omega
  obtain ⟨f,hf⟩:∃f,f=(wpk l i).2:=⟨_,rfl⟩
  have hwp:wpk l (i+1)=if whole (part l f i) then ((wpk l i).1++[(l.getD f flit0).1],i+1) else wpk l i:=by rw [hf];rfl
  rw [← hf] at t5 wle
  have e1:=@w6 ((i:Int)+1) (by omega)
  have e2:∀[Inhabited Unit],IntKind.i64.wrap ((i:Int)+1+1)=((i+1:Nat):Int)+1:=by intro _;rw [w64 (by omega) (by omega)];omega
  obtain ⟨s,hs,os,ids_s⟩:=ov.slice (P:=Tryz.prog) (ty:=100) (by simp) (lo:=some (.int .i64 (f:Int))) (hi:=some (.int .i64 ((i:Int)+1))) (l:=f) (u:=i+1) rfl rfl (by omega) (by omega)
  have iw:=fun F=>Kd (frz:=F) (H:=H') s (part l f i) os.rd (by rw [S7 wle hi'];omega)
  have hfl:f<l.length:=by omega
  have q1:=ov.rd.idx (P:=Tryz.prog) (ty:=100) (e:=103) (by simp) (i:=(i:Int)) (by omega) (by omega)
  have q2:=ov.rd.field (P:=Tryz.prog) (s:=103) (f:=0) (o:=0) (n:=1) (ag:=false) (by simp) (j:=i*5) (by omega)
  have q3:=ov.rd.cell (P:=Tryz.prog) (e:=3) (by simp) hi' (c:=0) (by decide)
  simp only [Int.toNat_natCast,Yu,Nat.add_zero] at q1 q2 q3
  simp only [Wc] at q3
  simp at q3
  simp [t0,t4,t5,t6,e1,hs,iw]
  refine Qh ?_ ?_<;>intro g2
  ·obtain ⟨out',H2,hap,o2,c2,n2⟩:=oo.push (P:=Tryz.prog) (frz:=H.length) (ty:=26) (a:=l[i].1) (by simp) rfl (by omega) no
   simp only [Fl.int_f] at hap
   have l2:=c2.1
   have hsame:=Ry wle hi' g2
   have hgf:l.getD f flit0=l[f]:=by simp [List.getD_eq_getElem?_getD,hfl]
   have hgi:l.getD i flit0=l[i]:=by simp [List.getD_eq_getElem?_getD,hi']
   rw [hgf,hgi] at hsame
   rw [if_pos g2,hgf] at hwp
   simp [-vfieldAddr,Qu,t0,t4,t5,t6,q1,q2,q3,hap,e1]
   refine ih (l.length-(i+1)) _ _ ⟨i+1,out',rfl,by omega,by simp [t0],by simp,by simp [hwp],by simp,c.trans' c2 (fun j hj=>.inr (no j hj)),?_,fun j hj=>?_⟩ (by omega)
   ·rw [hwp];rw [hsame] at o2;exact o2
   ·rcases n2 j hj with h1|h1
    ·exact no j h1
    ·omega
  ·rw [if_neg g2] at hwp
   simp [t0,t4,t5,t6]
   refine ih (l.length-(i+1)) _ _ ⟨i+1,out,rfl,by omega,by simp [t0],by simp [t4],by rw [hwp,← hf];simp [t5],by simp [e1],c,by rw [hwp];exact oo,no⟩ (by omega)
 ·have:i=l.length:=by omega
  subst this
  simp [t0,t4,t5,t6,ll]
  refine Qh ?_ ?_<;>intro g2
  ·have hz:wholePk l=[]:=if_pos (by omega)
   simp [t0,t4,t5,t6]
   exact ⟨.slice (some ⟨H'.length,0,some 0⟩) 0 0,false,rfl,by rw [hz];exact Ow.new0 (D:=Fl.int) (xs:=[]) rfl rfl rfl rfl,by simp;omega,c.trans (Chg.app _)⟩
  ·have hz:wholePk l=(wpk l l.length).1:=if_neg (by omega)
   simp [t0,t4,t5,t6]
   exact ⟨out,true,rfl,by rw [hz];exact oo,no,c⟩
def trim (l:List FlitD):List FlitD:=(l.reverse.dropWhile fun f=>!f.2.2.2.2).reverse
theorem Vx (l:List FlitD) (f:FlitD):trim (l++[f])=if f.2.2.2.2=true then l++[f] else trim l:=by
 unfold trim
 rw [List.reverse_append,List.reverse_singleton,List.singleton_append,List.dropWhile_cons]
 cases h:f.2.2.2.2<;>simp
def arrIds (arr:SSD) (node:Nat) (c:Int):List Int:=wholePk (trim ((arr.getD node []).filter fun f=>f.2.2.1=c))
theorem Np (v:Value) (xs:List FlitD) (c:Int) (hI:Rd flF H v xs) (hl:xs.length≤1073741824) :
 wp (vcall C frz 105 [v,.int .i64 c] H) (fun r H'=>Ow flF 103 H' r (xs.filter fun f=>f.2.2.1=c)∧(∀i∈ids r,H.length≤i)∧Chg H H' []):=by
 rw [Qb (fn:=Tryz.f105) Tryz.func105 rfl (by kernel_rfl) rfl]
 simp
 refine Qk (fun n t H'=>∃(i:Nat) (r:Value),n=xs.length-i∧i≤xs.length∧t 0=v∧t 1=.int .i64 c∧t 5=r∧t 6=.int .i64 i∧Chg H H' []∧Ow flF 103 H' r ((xs.take i).filter fun f=>f.2.2.1=c)∧(∀j∈ids r,H.length≤j)) ?_ (n:=xs.length)
  ⟨0,.slice (some ⟨H.length,0,some 0⟩) 0 0,rfl,by omega,by simp,by simp,by simp,by simp,Chg.app _,Ow.new0 (D:=flF) (xs:=[]) rfl rfl rfl rfl,by simp⟩
 rintro n t H' ⟨i,r,rfl,hi,t0,t1,t5,t6,ch,o,nr⟩ ih
 have rd:=hI.chg ch (by simp)
 simp [t0,t1,t5,t6,rd.len (P:=Tryz.prog) (ty:=100) (by simp)]
 refine Qh ?_ ?_<;>intro g
 ·have hi':i<xs.length:=by omega
  have q1:=rd.idx (P:=Tryz.prog) (ty:=100) (e:=103) (by simp) (i:=(i:Int)) (by omega) (by omega)
  have q2:=rd.load (P:=Tryz.prog) (e:=103) (by simp) hi'
  have q3:=rd.field (P:=Tryz.prog) (s:=103) (f:=2) (o:=2) (n:=1) (ag:=false) (by simp) (j:=i*5) (by omega)
  have q4:=rd.cell (P:=Tryz.prog) (e:=3) (by simp) hi' (c:=2) (by decide)
  simp only [Int.toNat_natCast,Yu] at q1 q2 q4
  simp only [Wc] at q4
  simp at q4
  have hF:H.length≤H'.length:=ch.1
  have hfl:=List.length_filter_le (fun f:FlitD=>decide (f.2.2.1=c)) (xs.take i)
  have htl:(xs.take i).length≤i:=by simp;omega
  simp [-vfieldAddr,Qu,t0,t1,t5,t6,q1,q3,q4]
  refine Qh ?_ ?_<;>intro g1
  ·obtain ⟨r',H2,hap,o2,c2,n2⟩:=o.push (P:=Tryz.prog) (frz:=H.length) (ty:=100) (a:=xs[i]) (by simp) rfl (by omega) nr
   simp only [Wc] at hap
   simp [t0,t1,t5,t6,q1,q2,Wc,hap]
   refine ih (xs.length-(i+1)) _ _ ⟨i+1,r',rfl,by omega,by simp [t0],by simp [t1],by simp,?_,ch.trans' c2 (fun j hj=>.inr (nr j hj)),?_,fun j hj=>?_⟩ (by omega)
   ·simp;rw [w64 (by omega) (by omega)]
   ·rw [List.take_succ_eq_append_getElem hi',List.filter_append];simpa [g1] using o2
   ·rcases n2 j hj with h1|h1
    ·exact nr j h1
    ·omega
  ·simp [t0,t1,t5,t6,g1]
   refine ih (xs.length-(i+1)) _ _ ⟨i+1,r,rfl,by omega,by simp [t0],by simp [t1],by simp [t5],?_,ch,?_,nr⟩ (by omega)
   ·simp;rw [w64 (by omega) (by omega)]
   ·rw [List.take_succ_eq_append_getElem hi',List.filter_append];simpa [g1] using o
 ·have:i=xs.length:=by omega
  subst this
  rw [List.take_length] at o
  simp [t0,t1,t5,t6]
  exact ⟨o,nr,ch⟩
theorem Gk {id:Nat} {w h tm:Int} {u2 u3 u4 u5 u6 u7 u8:Value} {v9:SSV} {arr:SSD} {node:Nat} {k:Int} (hr:H[id]? = some ⟨[.int .i64 w,.int .i64 h,u2,u3,u4,u5,u6,u7,u8,v9.1,.int .i64 tm],0,57⟩) (h9:dSS.Ow H v9 arr) (hn:node<arr.length) :
 wp (vcall C frz 67 [.pointer (some ⟨id,0,some 0⟩),.int .i64 node,.int .i64 k] H) (IntsOk H (arrIds arr node k)):=by
 rw [Qb (fn:=Tryz.f67) Tryz.func67 rfl (by kernel_rfl) rfl]
 have rl:=h9.1.rd
 obtain ⟨u,_,a2,a3,a4⟩:=Q5 rl (ty:=55) (e:=100) (by simp) (by simp) hn
 have hm:=h9.2.2 _ (List.getElem_mem hn)
 have hg:arr.getD node []=arr[node]:=by simp [List.getD_eq_getElem?_getD,hn]
 simp [VM.vnil,VM.look,hr,a2,a3]
 refine Qf (Th u arr[node] k a4 (by omega)) ?_
 rintro s G1 ⟨os,ns,c1⟩
 have cH:Chg H G1 []:=c1
 have ns':∀i∈ids s,H.length≤i:=fun i hi=>by have:=ns i hi;omega
 have hfl:=List.length_filter_le (fun f:FlitD=>decide (f.2.2.1=k)) arr[node]
 unfold arrIds
 rw [hg]
 generalize (arr[node].filter fun f=>f.2.2.1=k)=l0 at *
 simp
 refine Qk (fun n t H'=>∃(s:Value) (l:List FlitD),n=l.length∧t 8=s∧H'=G1∧Ow flF 103 G1 s l∧trim l=trim l0∧l.length≤l0.length) ?_ (n:=l0.length)
  ⟨s,l0,rfl,by simp,rfl,os,rfl,Nat.le_refl _⟩
 rintro n t H' ⟨s,l,rfl,t8,rfl,o,ht,hle⟩ ih
 have ll:=o.rd.len (P:=Tryz.prog) (ty:=100) (by simp)
 simp [t8,ll]
 have fin:trim l0=l→wp (vcall C H.length 101 [s] H') (fun r H2=>IntsOk H (wholePk (trim l0)) r H2):=fun e=>by
  rw [e]
  refine (Ra s l o (by omega)).mono ?_
  rintro r H2 ⟨u',ok,rfl,o2,n2,c2⟩
  exact ⟨u',ok,rfl,o2,fun i hi=>by have:=n2 i hi;have:=cH.1;omega,cH.trans c2⟩
 by_cases h0:l=[]
 ·have hz:trim l0=l:=by rw [← ht,h0];rfl
  have hl0:l.length=0:=by rw [h0];rfl
  simp [hl0,t8]
  refine Qf (fin hz) ?_
  rintro _ H2 ⟨u',ok,rfl,o2,n2,c2⟩
  simp
  exact ⟨u',ok,rfl,o2,n2,c2⟩
 ·have hpos:0<l.length:=List.length_pos_iff.2 h0
  obtain ⟨m,hm1⟩:∃m,l.length=m+1:=⟨l.length-1,by omega⟩
  have hml:m<l.length:=by omega
  have hsn:l=l.take m++[l[m]]:=by
   have:=List.take_succ_eq_append_getElem hml
   rw [← this,List.take_of_length_le (by omega)]
  have e1:∀[Inhabited Unit],IntKind.i64.wrap ((m:Int)+1-1)=(m:Int):=by intro _;rw [w64 (by omega) (by omega)];omega
  have e1':∀[Inhabited Unit],IntKind.i64.wrap (m:Int)=(m:Int):=by intro _;rw [w64 (by omega) (by omega)]
  have q1:=o.rd.idx (P:=Tryz.prog) (ty:=100) (e:=103) (by simp) (i:=(m:Int)) (by omega) (by omega)
  have q3:=o.rd.field (P:=Tryz.prog) (s:=103) (f:=4) (o:=4) (n:=1) (ag:=false) (by simp) (j:=m*5) (by omega)
  have q4:=o.rd.cell (P:=Tryz.prog) (e:=4) (by simp) hml (c:=4) (by decide)
  simp only [Int.toNat_natCast,Yu] at q1 q4
  simp only [Wc] at q4
  simp at q4
  have hgt:(0:Int)<(m:Int)+1:=by omega
  have hts:=Vx (l.take m) l[m]
  rw [← hsn] at hts
  obtain ⟨f,hf⟩:∃f,f=l[m]:=⟨_,rfl⟩
  rw [← hf] at hts q4
  simp [-vfieldAddr,Qu,t8,ll,hm1,hgt,e1,e1',q1,q3,q4]
  cases hb:f.2.2.2.2
  ·rw [if_neg (by rw [hb];simp)] at hts
   obtain ⟨s',hs',os',ids_s⟩:=o.slice (P:=Tryz.prog) (ty:=100) (by simp) (lo:=none) (hi:=some (.int .i64 (m:Int))) (l:=0) (u:=m) rfl rfl (by omega) (by omega)
   simp only [List.drop_zero,Nat.sub_zero] at os'
   simp [t8,ll,hm1,e1,e1',hs']
   refine ih (l.take m).length _ _ ⟨s',l.take m,rfl,by simp,rfl,os',by rw [← hts,ht],by simp;omega⟩ (by simp;omega)
  ·rw [if_pos hb] at hts
   have hz:trim l0=l:=by rw [← ht,hts]
   simp [t8]
   refine Qf (fin hz) ?_
   rintro _ H2 ⟨u',ok,rfl,o2,n2,c2⟩
   simp
   exact ⟨u',ok,rfl,o2,n2,c2⟩
theorem Ke {v:NetV} {x:NetD} {node:Nat} {k:Int} (o:dNet.Ow H v x) (hn:node<x.2.2.2.2.2.2.1.length) :
 wp (vcall C frz 72 [dNet.val v x,.int .i64 node,.int .i64 k] H) (IntsOk H (arrIds x.2.2.2.2.2.2.1 node k)):=by
 have ones:=Qd o
 obtain ⟨_,_,_,_,_,_,h9,_⟩:=o
 rw [Qc,Qb (fn:=Tryz.f72) Tryz.func72 rfl (by kernel_rfl) rfl]
 have rl:=h9.1.rd
 obtain ⟨arr,harr⟩:∃a,a=x.2.2.2.2.2.2.1:=⟨_,rfl⟩
 simp only [← harr] at hn h9 rl ⊢
 have rl':=fun (L:Heap)=>rl.app (L:=L)
 have hm:=h9.2.2 _ (List.getElem_mem hn)
 have hg:arr.getD node []=arr[node]:=by simp [List.getD_eq_getElem?_getD,hn]
 obtain ⟨u,hu,_,_,a4'⟩:=Q5 rl (ty:=55) (e:=100) (by simp) (by simp) hn
 have aa:∀(L:Heap),vindexAddr Tryz.prog (H++L) 55 v.2.2.2.2.2.2.1.1 (.int .i64 node)=some (elp v.2.2.2.2.2.2.1.1 node)∧vload Tryz.prog (H++L) 100 (elp v.2.2.2.2.2.2.1.1 node)=some u:=fun L=>by
  obtain ⟨u',hu',b2,b3,b4⟩:=Q5 (rl' L) (ty:=55) (e:=100) (by simp) (by simp) hn
  rw [hu] at hu';cases hu'
  exact ⟨b2,b3⟩
 have a2:=fun L=>(aa L).1
 have a3:=fun L=>(aa L).2
 simp [ones,a2,a3]
 refine Qf (Np u arr[node] k a4'.app (by omega)) ?_
 rintro s G1 ⟨os,ns,c1⟩
 have cH:Chg H G1 []:=(Chg.app []).trans c1
 have ns':∀i∈ids s,H.length≤i:=fun i hi=>by have:=ns i hi;simp at this;omega
 have hfl:=List.length_filter_le (fun f:FlitD=>decide (f.2.2.1=k)) arr[node]
 unfold arrIds
 rw [hg]
 generalize (arr[node].filter fun f=>f.2.2.1=k)=l0 at *
 simp
 refine Qk (fun n t H'=>∃(s:Value) (l:List FlitD),n=l.length∧t 8=s∧H'=G1∧Ow flF 103 G1 s l∧trim l=trim l0∧l.length≤l0.length) ?_ (n:=l0.length)
  ⟨s,l0,rfl,by simp,rfl,os,rfl,Nat.le_refl _⟩
 rintro n t H' ⟨s,l,rfl,t8,rfl,o,ht,hle⟩ ih
 have ll:=o.rd.len (P:=Tryz.prog) (ty:=100) (by simp)
 simp [t8,ll]
 have fin:trim l0=l→wp (vcall C H.length 106 [s] H') (fun r H2=>IntsOk H (wholePk (trim l0)) r H2):=fun e=>by
  rw [e]
  refine (T8 s l o (by omega)).mono ?_
  rintro r H2 ⟨u',ok,rfl,o2,n2,c2⟩
  exact ⟨u',ok,rfl,o2,fun i hi=>by have:=n2 i hi;have:=cH.1;omega,cH.trans c2⟩
 by_cases h0:l=[]
 ·have hz:trim l0=l:=by rw [← ht,h0];rfl
  have hl0:l.length=0:=by rw [h0];rfl
  simp [hl0,t8]
  refine Qf (fin hz) ?_
  rintro _ H2 ⟨u',ok,rfl,o2,n2,c2⟩
  simp
  exact ⟨u',ok,rfl,o2,n2,c2⟩
 ·have hpos:0<l.length:=List.length_pos_iff.2 h0
  obtain ⟨m,hm1⟩:∃m,l.length=m+1:=⟨l.length-1,by omega⟩
  have hml:m<l.length:=by omega
  have hsn:l=l.take m++[l[m]]:=by
   have:=List.take_succ_eq_append_getElem hml
   rw [← this,List.take_of_length_le (by omega)]
  have e1:∀[Inhabited Unit],IntKind.i64.wrap ((m:Int)+1-1)=(m:Int):=by intro _;rw [w64 (by omega) (by omega)];omega
  have e1':∀[Inhabited Unit],IntKind.i64.wrap (m:Int)=(m:Int):=by intro _;rw [w64 (by omega) (by omega)]
  have q1:=o.rd.idx (P:=Tryz.prog) (ty:=100) (e:=103) (by simp) (i:=(m:Int)) (by omega) (by omega)
  have q3:=o.rd.field (P:=Tryz.prog) (s:=103) (f:=4) (o:=4) (n:=1) (ag:=false) (by simp) (j:=m*5) (by omega)
  have q4:=o.rd.cell (P:=Tryz.prog) (e:=4) (by simp) hml (c:=4) (by decide)
  simp only [Int.toNat_natCast,Yu] at q1 q4
  simp only [Wc] at q4
  simp at q4
  have hgt:(0:Int)<(m:Int)+1:=by omega
  have hts:=Vx (l.take m) l[m]
  rw [← hsn] at hts
  obtain ⟨f,hf⟩:∃f,f=l[m]:=⟨_,rfl⟩
  rw [← hf] at hts q4
  simp [-vfieldAddr,Qu,t8,ll,hm1,hgt,e1,e1',q1,q3,q4]
  cases hb:f.2.2.2.2
  ·rw [if_neg (by rw [hb];simp)] at hts
   obtain ⟨s',hs',os',ids_s⟩:=o.slice (P:=Tryz.prog) (ty:=100) (by simp) (lo:=none) (hi:=some (.int .i64 (m:Int))) (l:=0) (u:=m) rfl rfl (by omega) (by omega)
   simp only [List.drop_zero,Nat.sub_zero] at os'
   simp [t8,ll,hm1,e1,e1',hs']
   refine ih (l.take m).length _ _ ⟨s',l.take m,rfl,by simp,rfl,os',by rw [← hts,ht],by simp;omega⟩ (by simp;omega)
  ·rw [if_pos hb] at hts
   have hz:trim l0=l:=by rw [← ht,hts]
   simp [t8]
   refine Qf (fin hz) ?_
   rintro _ H2 ⟨u',ok,rfl,o2,n2,c2⟩
   simp
   exact ⟨u',ok,rfl,o2,n2,c2⟩
def isFlow (a b c:Int) (p:PkD):Prop:=p.2.1=a∧p.2.2.1=b∧p.2.2.2.1=c
instance (a b c:Int) (p:PkD):Decidable (isFlow a b c p):=inferInstanceAs (Decidable (_∧_))
def sentP (list:List PkD) (id a b c:Int):Prop:=∃p∈list,p.1=id∧isFlow a b c p
instance (list:List PkD) (id a b c:Int):Decidable (sentP list id a b c):=inferInstanceAs (Decidable (∃p∈list,_))
def sentIds (list:List PkD) (a b c:Int):List Int:=(list.filter fun p=>isFlow a b c p).map (·.1)
def among (all:List Int) (list:List PkD) (a b c:Int):List Int:=all.filter fun id=>sentP list id a b c
def NewInts (H:Heap) (xs:List Int) (r:Value) (H':Heap):Prop:=Ow Fl.int 3 H' r xs∧(∀i∈ids r,H.length≤i)∧Chg H H' []
def isPre (xs ys:List Int):Prop:=xs=ys.take xs.length
instance (xs ys:List Int):Decidable (isPre xs ys):=inferInstanceAs (Decidable (_=_))
theorem Ue {α:Type} (p:α→Bool):∀l:List α,(l.dropWhile p).length≤l.length
 | []=>by simp
 | a::l=>by
  rw [List.dropWhile_cons];split;· have:=Ue p l;simp;omega
  ·simp
theorem Db (l:List FlitD):(trim l).length≤l.length:=by unfold trim;rw [List.length_reverse];have:=Ue (fun f:FlitD=>!f.2.2.2.2) l.reverse;rw [List.length_reverse] at this;exact this
theorem Lq (l:List FlitD):(wholePk l).length≤l.length:=by
 unfold wholePk;split
 ·simp
 ·exact (V7 l l.length).2
theorem Rk (arr:SSD) (node:Nat) (c:Int):(arrIds arr node c).length≤(arr.getD node []).length:=by
 unfold arrIds
 exact Nat.le_trans (Lq _) (Nat.le_trans (Db _) (List.length_filter_le _ _))
def flowOk (arr:SSD) (list:List PkD) (fr to:Nat) (c:Int):Prop:=isPre (among (arrIds arr to c) list fr to c) (sentIds list fr to c)
instance (arr:SSD) (list:List PkD) (fr to:Nat) (c:Int):Decidable (flowOk arr list fr to c):=inferInstanceAs (Decidable (isPre _ _))
def keepsOk (x:NetD) (list:List PkD):Prop:=netOk x∧∀to,to<x.2.2.2.2.2.2.1.length→∀c:Nat,c<2→∀fr,fr<x.2.2.2.2.2.2.1.length→flowOk x.2.2.2.2.2.2.1 list fr to c
instance (x:NetD) (list:List PkD):Decidable (keepsOk x list):=inferInstanceAs (Decidable (_∧_))
end Go.Proofs.YtjgochodhiekeaaGreat.V
set_option linter.all false
namespace Go.Proofs.YtjgochodhiekeaaGreat.V
open Go Go.VM Go.Proofs
set_option maxRecDepth 10000
abbrev GrD:=Nat×Nat×Nat
def upd (s:SSD) (k:Nat) (f:List FlitD→List FlitD):SSD:=s.set k (f (s.getD k []))
@[simp] theorem Z4 (s:SSD) (k:Nat) (f:List FlitD→List FlitD):(upd s k f).length=s.length:=by simp [upd]
theorem Q9 {s:SSD} {k:Nat} (f:List FlitD→List FlitD) (h:k<s.length):(upd s k f).getD k []=f (s.getD k []):=by
 simp [upd,List.getD_eq_getElem?_getD,h]
theorem Qs {s:SSD} {k j:Nat} (f:List FlitD→List FlitD) (h:k≠j):(upd s k f).getD j []=s.getD j []:=by
 simp [upd,List.getD_eq_getElem?_getD,List.getElem?_set_ne h]
theorem F5 {s:SSD} {k j:Nat} (f g:List FlitD→List FlitD) (h:k≠j):upd (upd s k f) j g=upd (upd s j g) k f:=by
 have e1:=Qs (s:=s) f h
 have e2:=Qs (s:=s) g h.symm
 show (upd s k f).set j (g ((upd s k f).getD j []))=(upd s j g).set k (f ((upd s j g).getD k []))
 rw [e1,e2]
 exact List.set_comm _ _ h
theorem Il (s:SSD) (k:Nat) (f g:List FlitD→List FlitD):upd (upd s k f) k g=upd s k (fun l=>g (f l)):=by
 by_cases h:k<s.length
 ·show (upd s k f).set k (g ((upd s k f).getD k []))=_
  rw [Q9 f h]
  simp [upd]
 ·simp [upd,List.set_eq_of_length_le (Nat.le_of_not_lt h)]
theorem Em {s:SSD} {k j:Nat} (f:FlitD) (h:s.getD k []≠[]):upd (upd s j (·++[f])) k (List.drop 1)=upd (upd s k (List.drop 1)) j (·++[f]):=by
 by_cases e:j=k
 ·subst e
  rw [Il,Il]
  unfold upd
  congr 1
  cases hh:s.getD j [] with
  | nil=>exact absurd hh h
  | cons a l=>rfl
 ·exact F5 _ _ e
def headL (l:List FlitD):FlitD:=l.headD (0,0,0,false,false)
def headOf (x:NetD) (j:Nat):FlitD:=headL (x.2.2.1.getD j [])
def frm (g:GrD):Nat:=10*g.1+g.2.2
def tgt (x:NetD) (a p c:Nat):Nat:=(10*next x.1.1 x.1.2.1 a p+2*opp p+c).toNat
def outAt (a p c:Nat):Nat:=10*a+2*p+c
def popS (s:SSD) (g:GrD):SSD:=upd s (frm g) (List.drop 1)
def pushS (x:NetD) (s:SSD) (g:GrD):SSD:=if g.2.1=4 then s else upd s (tgt x g.1 g.2.1 (g.2.2%2)) (·++[headOf x (frm g)])
def arrS (x:NetD) (s:SSD) (g:GrD):SSD:=if g.2.1=4 then upd s g.1 (·++[headOf x (frm g)]) else s
def ownS (x:NetD) (s:List Int) (g:GrD):List Int:=s.set (outAt g.1 g.2.1 (g.2.2%2)) (if (headOf x (frm g)).2.2.2.2 then -1 else ((g.2.2/2:Nat):Int))
def turnS (s:List Int) (g:GrD):List Int:=s.set (5*g.1+g.2.1) (((g.2.2+1)%10:Nat):Int)
def srcHead (x:NetD) (k:Nat):FlitD:=headL (x.2.2.2.2.2.1.getD k [])
def entAt (x:NetD) (k:Nat):Nat:=(10*(k:Int)+8+(srcHead x k).2.2.1).toNat
def entS (x:NetD) (s:SSD) (k:Nat):SSD:=upd s (entAt x k) (·++[srcHead x k])
def srcS (s:SSD) (k:Nat):SSD:=upd s k (List.drop 1)
def wantedN (x:NetD) (a i:Nat):Int:=
 if x.2.2.1.getD (10*a+i) []=[] then -1
 else if (headOf x (10*a+i)).2.2.2.1 then portOf x.1.1 x.1.2.1 (if i%2=1 then x.2.1.2 else x.2.1.1) a (headOf x (10*a+i)).2.1
 else match (List.range 5).find? fun p=>x.2.2.2.1.getD (outAt a p (i%2)) 0=((i/2:Nat):Int) with
  | some p=>(p:Int)
  | none=>-1
def roomN (x:NetD) (a p c:Nat):Prop:=p=4∨(has x.1.1 x.1.2.1 x.1.2.2 (4*a+p)∧(x.2.2.1.getD (tgt x a p c) []).length<3)
noncomputable instance (x:NetD) (a p c:Nat):Decidable (roomN x a p c):=inferInstanceAs (Decidable (_∨_))
def reqN (x:NetD) (a i p:Nat):Prop:=wantedN x a i=(p:Int)∧roomN x a p (i%2)∧
 x.2.2.2.1.getD (outAt a p (i%2)) 0=if (headOf x (10*a+i)).2.2.2.1 then -1 else ((i/2:Nat):Int)
noncomputable instance (x:NetD) (a i p:Nat):Decidable (reqN x a i p):=inferInstanceAs (Decidable (_∧_))
noncomputable def reqsN (x:NetD) (a p:Nat):List Nat:=(List.range 10).filter fun i=>reqN x a i p
def firstF (t:Int) (l:List Int):Int:=l.foldl (fun b y=>if b<0∨(y-t+10)%10<(b-t+10)%10 then y else b) (-1)
noncomputable def freeN (x:NetD) (a p:Nat) (u:List Bool):List Nat:=(reqsN x a p).filter fun i=>!u.getD (i/2) false
noncomputable def pickN (x:NetD) (a p:Nat) (u:List Bool):Int:=firstF (x.2.2.2.2.1.getD (5*a+p) 0) ((freeN x a p u).map Int.ofNat)
noncomputable def grStep (x:NetD) (a:Nat) (st:List GrD×List Bool) (p:Nat):List GrD×List Bool:=
 if 0≤pickN x a p st.2 then (st.1++[(a,p,(pickN x a p st.2).toNat)],st.2.set ((pickN x a p st.2).toNat/2) true) else st
noncomputable def grTo (x:NetD) (a p:Nat):List GrD×List Bool:=(List.range p).foldl (grStep x a) ([],List.replicate 5 false)
noncomputable def grN (x:NetD) (a:Nat):List GrD:=(grTo x a 5).1
noncomputable def allTo (x:NetD) (n:Nat):List GrD:=(List.range n).flatMap (grN x)
noncomputable def allN (x:NetD):List GrD:=allTo x (cnt x.1.1 x.1.2.1).toNat
def entersN (x:NetD) (k:Nat):Prop:=x.2.2.2.2.2.1.getD k []≠[]∧(x.2.2.1.getD (entAt x k) []).length<3
noncomputable instance (x:NetD) (k:Nat):Decidable (entersN x k):=inferInstanceAs (Decidable (_∧_))
noncomputable def enterN (x:NetD):List Nat:=(List.range (cnt x.1.1 x.1.2.1).toNat).filter fun k=>entersN x k
noncomputable def stepN (x:NetD):NetD:=
 (x.1,x.2.1,(enterN x).foldl (entS x) ((allN x).foldl (pushS x) ((allN x).foldl popS x.2.2.1)),(allN x).foldl (ownS x) x.2.2.2.1,(allN x).foldl turnS x.2.2.2.2.1,
  (enterN x).foldl srcS x.2.2.2.2.2.1,(allN x).foldl (arrS x) x.2.2.2.2.2.2.1,x.2.2.2.2.2.2.2+1)
def bothS (x:NetD) (s:SSD) (g:GrD):SSD:=pushS x (popS s g) g
@[simp] theorem R6 (s:SSD) (g:GrD):(popS s g).length=s.length:=Z4 _ _ _
@[simp] theorem Yq (x:NetD) (s:SSD) (g:GrD):(pushS x s g).length=s.length:=by unfold pushS;split<;>simp
@[simp] theorem Rt (x:NetD) (s:SSD) (g:GrD):(arrS x s g).length=s.length:=by unfold arrS;split<;>simp
@[simp] theorem Sq (x:NetD) (s:List Int) (g:GrD):(ownS x s g).length=s.length:=by unfold ownS;simp
@[simp] theorem Vv (s:List Int) (g:GrD):(turnS s g).length=s.length:=by unfold turnS;simp
@[simp] theorem U6 (x:NetD) (s:SSD) (k:Nat):(entS x s k).length=s.length:=Z4 _ _ _
@[simp] theorem Sh (s:SSD) (k:Nat):(srcS s k).length=s.length:=Z4 _ _ _
theorem Qt {α β:Type} {f:List β→α→List β} (h:∀s a,(f s a).length=s.length):∀(l:List α) (s:List β),(l.foldl f s).length=s.length
 | [],s=>rfl
 | a::l,s=>by rw [List.foldl_cons,Qt h l,h]
theorem Ws {α β:Type} (f:β→α→β) (s:β) {l:List α} {i:Nat} (h:i<l.length):(l.take (i+1)).foldl f s=f ((l.take i).foldl f s) l[i]:=by
 rw [List.take_succ_eq_append_getElem h,List.foldl_append];rfl
theorem Df {x:NetD} {s:SSD} {g g':GrD} (h:s.getD (frm g') []≠[]):popS (pushS x s g) g'=pushS x (popS s g') g:=by
 unfold popS pushS
 by_cases e:g.2.1=4
 ·rw [if_pos e,if_pos e]
 ·rw [if_neg e,if_neg e];exact Em _ h
theorem Ot (x:NetD):∀(l:List GrD) (s:SSD),(l.map frm).Nodup→(∀g∈l,s.getD (frm g) []≠[])→l.foldl (bothS x) s=l.foldl (pushS x) (l.foldl popS s)
 | [],s,_,_=>rfl
 | g::l,s,nd,hs=>by
  obtain ⟨n1,n2⟩:=List.nodup_cons.1 nd
  have hne:∀g'∈l,frm g≠frm g':=fun g' hg e=>n1 (e▸List.mem_map_of_mem hg)
  have h1:∀g'∈l,(popS s g).getD (frm g') []≠[]:=fun g' hg=>by
   rw [popS,Qs _ (hne g' hg)];exact hs g' (List.mem_cons_of_mem _ hg)
  have h2:∀g'∈l,(bothS x s g).getD (frm g') []≠[]:=fun g' hg=>by
   have:=h1 g' hg
   unfold bothS pushS
   split
   ·exact this
   ·by_cases e:tgt x g.1 g.2.1 (g.2.2%2)=frm g'
    ·rw [e]
     by_cases hl:frm g'<(popS s g).length
     ·rw [Q9 _ hl];simp
     ·simp [List.getD_eq_getElem?_getD,List.getElem?_eq_none (Nat.le_of_not_lt hl)] at this
    ·rw [Qs _ e];exact this
  rw [List.foldl_cons,Ot x l _ n2 h2]
  have key:∀(m:List GrD) (z:SSD),(m.map frm).Nodup→(∀g'∈m,z.getD (frm g') []≠[])→m.foldl popS (pushS x z g)=pushS x (m.foldl popS z) g:=by
   intro m
   induction m with
   | nil=>intro z _ _;rfl
   | cons g' m ih=>
    intro z nz hz
    obtain ⟨z1,z2⟩:=List.nodup_cons.1 nz
    rw [List.foldl_cons,List.foldl_cons,Df (hz g' (List.mem_cons_self ..))]
    refine ih _ z2 fun g2 hg2=>?_
    have hne2:frm g'≠frm g2:=fun e=>z1 (e▸List.mem_map_of_mem hg2)
    rw [popS,Qs _ hne2];exact hz g2 (List.mem_cons_of_mem _ hg2)
  show l.foldl (pushS x) (l.foldl popS (pushS x (popS s g) g))=_
  rw [key l (popS s g) n2 h1]
  rfl
theorem Tb (t:Int):∀(l:List Int) (b:Int),(l.foldl (fun b y=>if b<0∨(y-t+10)%10<(b-t+10)%10 then y else b) b)=b∨(l.foldl (fun b y=>if b<0∨(y-t+10)%10<(b-t+10)%10 then y else b) b)∈l
 | [],b=>.inl rfl
 | y::l,b=>by
  rw [List.foldl_cons]
  rcases Tb t l (if b<0∨(y-t+10)%10<(b-t+10)%10 then y else b) with h|h
  ·rw [h];split
   ·exact .inr (List.mem_cons_self ..)
   ·exact .inl rfl
  ·exact .inr (List.mem_cons_of_mem _ h)
theorem Kx {t:Int} {l:List Int} (h:0≤firstF t l):firstF t l∈l:=by
 rcases Tb t l (-1) with g|g
 ·unfold firstF at h;rw [g] at h;omega
 ·exact g
theorem Ls {x:NetD} {a p:Nat} {u:List Bool} (h:0≤pickN x a p u):(pickN x a p u).toNat∈freeN x a p u:=by
 have:=Kx h
 obtain ⟨i,hi,he⟩:=List.mem_map.1 this
 have e:pickN x a p u=(i:Int):=he.symm
 rw [e];simpa using hi
theorem U3 {x:NetD} {a p i:Nat} {u:List Bool} (h:i∈freeN x a p u):i<10∧reqN x a i p∧u.getD (i/2) false=false:=by
 obtain ⟨h1,h2⟩:=List.mem_filter.1 h
 obtain ⟨h3,h4⟩:=List.mem_filter.1 h1
 exact ⟨List.mem_range.1 h3,by simpa using h4,by simpa using h2⟩
theorem Xi (x:NetD) (a p:Nat):grTo x a (p+1)=grStep x a (grTo x a p) p:=by
 unfold grTo;rw [List.range_succ,List.foldl_append];rfl
structure GrOk (x:NetD) (a p:Nat) (st:List GrD×List Bool):Prop where
 len:st.2.length=5
 at':∀g∈st.1,g.1=a∧g.2.1<p∧g.2.2<10∧reqN x a g.2.2 g.2.1∧st.2.getD (g.2.2/2) false=true
 nd:(st.1.map frm).Nodup
 le:st.1.length≤p
theorem Eu {u:List Bool} {k j:Nat} (h:u.getD j false=true):(u.set k true).getD j false=true:=by
 simp only [List.getD_eq_getElem?_getD,List.getElem?_set] at *
 split
 ·split<;>simp_all
 ·exact h
theorem Y6 (x:NetD) (a:Nat):∀p,p≤5→GrOk x a p (grTo x a p)
 | 0,_=>⟨rfl,fun g h=>by simp [grTo] at h,by simp [grTo],by simp [grTo]⟩
 | p+1,hp=>by
  obtain ⟨h1,h2,h3,h4⟩:=Y6 x a p (by omega)
  rw [Xi]
  unfold grStep
  generalize grTo x a p=st at *
  split
  ·rename_i hk
   obtain ⟨k1,k2,k3⟩:=U3 (Ls hk)
   generalize hk':(pickN x a p st.2).toNat=k at *
   refine ⟨by simpa using h1,fun g hg=>?_,?_,by simp only [List.length_append,List.length_cons,List.length_nil];omega⟩
   ·rcases List.mem_append.1 hg with hg|hg
    ·obtain ⟨g1,g2,g3,g4,g5⟩:=h2 g hg
     exact ⟨g1,by omega,g3,g4,Eu g5⟩
    ·have:=List.mem_singleton.1 hg
     subst this
     exact ⟨rfl,by simp,k1,k2,by show (st.2.set (k/2) true).getD (k/2) false=true;rw [List.getD_eq_getElem?_getD,List.getElem?_set_self (by rw [h1];omega)];rfl⟩
   ·rw [List.map_append]
    refine List.nodup_append.2 ⟨h3,by simp,fun y hy z hz e=>?_⟩
    obtain ⟨g,hg,rfl⟩:=List.mem_map.1 hy
    simp at hz
    obtain ⟨g1,g2,g3,g4,g5⟩:=h2 g hg
    have:g.2.2=k:=by have:frm g=frm (a,p,k):=e.trans hz;unfold frm at this;simp only at this;omega
    rw [this,k3] at g5
    simp at g5
  ·exact ⟨h1,fun g hg=>by obtain ⟨g1,g2,g3,g4,g5⟩:=h2 g hg;exact ⟨g1,by omega,g3,g4,g5⟩,h3,by omega⟩
theorem Za (x:NetD) (n:Nat):allTo x (n+1)=allTo x n++grN x n:=by
 unfold allTo;rw [List.range_succ,List.flatMap_append];simp
theorem J8 (x:NetD) (a:Nat):(grN x a).length≤5:=(Y6 x a 5 (by omega)).le
theorem Yk (x:NetD):∀n,(∀g∈allTo x n,g.1<n∧g.2.1<5∧g.2.2<10∧reqN x g.1 g.2.2 g.2.1)∧((allTo x n).map frm).Nodup∧(allTo x n).length≤5*n
 | 0=>⟨fun g h=>by simp [allTo] at h,by simp [allTo],by simp [allTo]⟩
 | n+1=>by
  obtain ⟨h1,h2,h3⟩:=Yk x n
  obtain ⟨_,k2,k3,k4⟩:=Y6 x n 5 (by omega)
  rw [Za]
  refine ⟨fun g hg=>?_,?_,by simp [grN];omega⟩
  ·rcases List.mem_append.1 hg with hg|hg
   ·obtain ⟨a1,a2⟩:=h1 g hg;exact ⟨by omega,a2⟩
   ·obtain ⟨a1,a2,a3,a4,_⟩:=k2 g hg
    exact ⟨by omega,a2,a3,by rw [a1];exact a4⟩
  ·rw [List.map_append]
   refine List.nodup_append.2 ⟨h2,k3,fun y hy z hz e=>?_⟩
   obtain ⟨g,hg,rfl⟩:=List.mem_map.1 hy
   obtain ⟨g',hg',rfl⟩:=List.mem_map.1 hz
   have a1:=h1 g hg
   have a2:=k2 g' hg'
   unfold frm at e;omega
theorem W3 {x:NetD} {g:GrD} (h:g∈allN x):(g.1:Int)<cnt x.1.1 x.1.2.1∧g.2.1<5∧g.2.2<10∧reqN x g.1 g.2.2 g.2.1:=by
 obtain ⟨h1,h2⟩:=(Yk x _).1 g h
 exact ⟨by omega,h2⟩
theorem Ye (x:NetD):((allN x).map frm).Nodup:=(Yk x _).2.1
theorem Vr (x:NetD):(allN x).length≤80:=by
 have:=(Yk x (cnt x.1.1 x.1.2.1).toNat).2.2
 have:=Qg x.1.1 x.1.2.1
 unfold allN;omega
theorem Yh {x:NetD} {a i p:Nat} (h:reqN x a i p):x.2.2.1.getD (10*a+i) []≠[]:=fun e=>by
 have:=h.1
 unfold wantedN at this
 rw [if_pos e] at this
 omega
theorem Yr {l:List FlitD} (h:l≠[]):headL l∈l:=by
 cases l with
 | nil=>exact absurd rfl h
 | cons a l=>exact List.mem_cons_self ..
def allP (P:Nat→FlitD→Prop) (s:SSD):Prop:=∀j,∀f∈s.getD j [],P j f
def runOk (x:NetD):Prop:=classesOk x.1.1 x.1.2.1 x.1.2.2 x.2.1.1 x.2.1.2∧sizesOk x∧allP (fun j f=>f.2.2.1=(j:Int)%2∧flitOk x.1.1 x.1.2.1 f) x.2.2.1∧allP (fun _ f=>flitOk x.1.1 x.1.2.1 f) x.2.2.2.2.2.1∧∀o∈x.2.2.2.2.1,inR 0 o 9
theorem Pz {P:Nat→FlitD→Prop} {s:SSD} {k:Nat} (h:allP P s):allP P (upd s k (List.drop 1)):=fun j f hf=>by
 by_cases e:k=j
 ·subst e
  by_cases hl:k<s.length
  ·rw [Q9 _ hl] at hf;exact h k f (List.mem_of_mem_drop hf)
  ·simp [upd,List.getD_eq_getElem?_getD,List.getElem?_eq_none (Nat.le_of_not_lt hl),List.set_eq_of_length_le (Nat.le_of_not_lt hl)] at hf
 ·rw [Qs _ e] at hf;exact h j f hf
theorem Px {P:Nat→FlitD→Prop} {s:SSD} {k:Nat} {y:FlitD} (h:allP P s) (hy:P k y):allP P (upd s k (·++[y])):=fun j f hf=>by
 by_cases e:k=j
 ·subst e
  by_cases hl:k<s.length
  ·rw [Q9 _ hl] at hf
   rcases List.mem_append.1 hf with hf|hf
   ·exact h k f hf
   ·rw [List.mem_singleton.1 hf];exact hy
  ·simp [upd,List.getD_eq_getElem?_getD,List.getElem?_eq_none (Nat.le_of_not_lt hl),List.set_eq_of_length_le (Nat.le_of_not_lt hl)] at hf
 ·rw [Qs _ e] at hf;exact h j f hf
theorem Xf {α β:Type} {f:β→α→β} (I:β→Prop):∀(l:List α) (s:β),I s→(∀s a,a∈l→I s→I (f s a))→I (l.foldl f s)
 | [],s,h,_=>h
 | a::l,s,h,k=>Xf I l _ (k s a (List.mem_cons_self ..) h) fun s b hb=>k s b (List.mem_cons_of_mem _ hb)
theorem Zi {x:NetD} {a p c:Nat} (h:has x.1.1 x.1.2.1 x.1.2.2 (4*(a:Int)+p)) (hp:p<4) :
 isN x.1.1 x.1.2.1 (next x.1.1 x.1.2.1 a p)∧0≤opp p∧opp p<4:=by
 obtain ⟨_,_,h3⟩:=X3 (w:=x.1.1) (h:=x.1.2.1) (a:=a) (p:=p) (b:=x.1.2.2) ⟨by omega,by omega⟩ h
 refine ⟨h3,?_⟩
 unfold opp
 rw [if_neg (by omega),if_pos (by omega)]
 omega
theorem Xn {x:NetD} {a p c:Nat} (h:has x.1.1 x.1.2.1 x.1.2.2 (4*(a:Int)+p)) (hp:p<4) (hc:c<2) :
 ((tgt x a p c:Nat):Int)=10*next x.1.1 x.1.2.1 a p+2*opp p+c∧((tgt x a p c:Nat):Int)<10*cnt x.1.1 x.1.2.1∧((tgt x a p c:Nat):Int)%2=c:=by
 obtain ⟨⟨h1,h2⟩,h3,h4⟩:=Zi (c:=c) h hp
 unfold tgt
 generalize next x.1.1 x.1.2.1 a p=N at *
 generalize opp p=O at *
 refine ⟨by omega,by omega,by omega⟩
theorem D7 {x:NetD} (h:runOk x) {a i p:Nat} (r:reqN x a i p):(headOf x (10*a+i)).2.2.1=((10*a+i:Nat):Int)%2∧flitOk x.1.1 x.1.2.1 (headOf x (10*a+i)):=
 h.2.2.1 _ _ (Yr (Yh r))
theorem Zl {x:NetD} (h:runOk x) {k:Nat} (r:x.2.2.2.2.2.1.getD k []≠[]):flitOk x.1.1 x.1.2.1 (srcHead x k)∧(entAt x k:Int)=10*k+8+(srcHead x k).2.2.1∧(entAt x k:Int)%2=(srcHead x k).2.2.1:=by
 have:=h.2.2.2.1 k _ (Yr r)
 have h2:=this.2
 unfold inR at h2
 refine ⟨this,?_⟩
 unfold entAt srcHead
 omega
theorem Wm {x:NetD} {k:Nat} (h:k∈enterN x):(k:Int)<cnt x.1.1 x.1.2.1∧entersN x k:=by
 obtain ⟨h1,h2⟩:=List.mem_filter.1 h
 have:=List.mem_range.1 h1
 exact ⟨by omega,by simpa using h2⟩
theorem X5 (x:NetD):(enterN x).Nodup:=List.Pairwise.filter _ List.nodup_range
theorem Y9 (x:NetD):(enterN x).length≤16:=by
 have h1:=List.length_filter_le (fun k=>decide (entersN x k)) (List.range (cnt x.1.1 x.1.2.1).toNat)
 have:=Qg x.1.1 x.1.2.1
 rw [List.length_range] at h1
 unfold enterN;omega
theorem R2 {x:NetD} (h:runOk x):runOk (stepN x):=by
 have hx:=h
 obtain ⟨h1,⟨s1,s2,s3,s4,s5⟩,h3,h4,h5⟩:=h
 refine ⟨h1,⟨?_,?_,?_,?_,?_⟩,?_,?_,?_⟩
 ·show (((enterN x).foldl (entS x) ((allN x).foldl (pushS x) ((allN x).foldl popS x.2.2.1))).length:Int)=_
  rw [Qt (U6 x),Qt (Yq x),Qt R6];exact s1
 ·show (((allN x).foldl (ownS x) x.2.2.2.1).length:Int)=_
  rw [Qt (Sq x)];exact s2
 ·show (((allN x).foldl turnS x.2.2.2.2.1).length:Int)=_
  rw [Qt Vv];exact s3
 ·show (((enterN x).foldl srcS x.2.2.2.2.2.1).length:Int)=_
  rw [Qt Sh];exact s4
 ·show (((allN x).foldl (arrS x) x.2.2.2.2.2.2.1).length:Int)=_
  rw [Qt (Rt x)];exact s5
 ·refine Xf _ _ _ (Xf _ _ _ (Xf _ _ _ h3 fun s g hg hs=>Pz hs) fun s g hg hs=>?_) fun s k hk hs=>?_
  ·unfold pushS
   split
   ·exact hs
   ·rename_i hp
    obtain ⟨a1,a2,a3,a4⟩:=W3 hg
    have hh:=a4.2.1
    rcases hh with hh|⟨hh,_⟩
    ·exact absurd hh hp
    obtain ⟨t1,t2,t3⟩:=Xn (c:=g.2.2%2) hh (by omega) (by omega)
    obtain ⟨e1,e2⟩:=D7 hx a4
    refine Px hs ⟨?_,e2⟩
    show (headOf x (10*g.1+g.2.2)).2.2.1=_
    rw [e1,t3];omega
  ·obtain ⟨_,e1,_⟩:=Wm hk
   obtain ⟨f1,f2,f3⟩:=Zl hx e1
   exact Px hs ⟨f3.symm,f1⟩
 ·exact Xf _ _ _ h4 fun s k hk hs=>Pz hs
 ·refine Xf (fun s:List Int=>∀o∈s,inR 0 o 9) _ _ h5 fun s g hg hs o ho=>?_
  rcases List.mem_or_eq_of_mem_set ho with ho|rfl
  ·exact hs o ho
  ·unfold inR;omega
def allL (L:Nat) (s:SSD):Prop:=∀l∈s,l.length≤L
theorem In {s:SSD} {k:Nat} {f:List FlitD→List FlitD} {l:List FlitD} (h:l∈upd s k f):l∈s∨(l=f (s.getD k [])∧k<s.length):=by
 unfold upd at h
 by_cases hl:k<s.length
 ·rcases List.mem_or_eq_of_mem_set h with h|h
  ·exact .inl h
  ·exact .inr ⟨h,hl⟩
 ·rw [List.set_eq_of_length_le (Nat.le_of_not_lt hl)] at h;exact .inl h
theorem Zr {s:SSD} {k:Nat} (hl:k<s.length):s.getD k []∈s:=by
 simp [List.getD_eq_getElem?_getD,hl]
theorem Z0 {L:Nat} {s:SSD} {k:Nat} (h:allL L s):allL L (upd s k (List.drop 1)):=fun l hl=>by
 rcases In hl with hl|⟨rfl,hk⟩
 ·exact h l hl
 ·have:=h _ (Zr hk);rw [List.length_drop];omega
theorem Tf {L:Nat} {s:SSD} {k:Nat} {y:FlitD} (h:allL L s):allL (L+1) (upd s k (·++[y])):=fun l hl=>by
 rcases In hl with hl|⟨rfl,hk⟩
 ·have:=h l hl;omega
 ·have:=h _ (Zr hk);simp only [List.length_append,List.length_cons,List.length_nil];omega
theorem Q0 {L M:Nat} {s:SSD} (h:allL L s) (k:L≤M):allL M s:=fun l hl=>by have:=h l hl;omega
theorem Wl {α:Type} {f:SSD→α→SSD} (hf:∀s a L,allL L s→allL (L+1) (f s a)):∀(l:List α) (s:SSD) (L:Nat),allL L s→allL (L+l.length) (l.foldl f s)
 | [],s,L,h=>by simpa using h
 | a::l,s,L,h=>by
  have:=Wl hf l (f s a) (L+1) (hf s a L h)
  rw [List.foldl_cons,List.length_cons]
  exact Q0 this (by omega)
theorem Oh {L:Nat} (l:List GrD) (s:SSD) (h:allL L s):allL L (l.foldl popS s):=Xf _ _ _ h fun s g hg hs=>Z0 hs
theorem Gd {L:Nat} (l:List Nat) (s:SSD) (h:allL L s):allL L (l.foldl srcS s):=Xf _ _ _ h fun s g hg hs=>Z0 hs
theorem Z8 (x:NetD) (s:SSD) (g:GrD) (L:Nat) (h:allL L s):allL (L+1) (pushS x s g):=by
 unfold pushS;split
 ·exact Q0 h (by omega)
 ·exact Tf h
theorem Rc (x:NetD) (s:SSD) (g:GrD) (L:Nat) (h:allL L s):allL (L+1) (arrS x s g):=by
 unfold arrS;split
 ·exact Tf h
 ·exact Q0 h (by omega)
theorem Pw (x:NetD) (s:SSD) (g:GrD) (L:Nat) (h:allL L s):allL (L+1) (bothS x s g):=Z8 x _ g L (Z0 h)
theorem Sg (x:NetD) (s:SSD) (k:Nat) (L:Nat) (h:allL L s):allL (L+1) (entS x s k):=Tf h
theorem Fh {x:NetD} {L:Nat} (h1:allL L x.2.2.1) (h2:allL L x.2.2.2.2.2.2.1):allL (L+96) (stepN x).2.2.1∧allL (L+96) (stepN x).2.2.2.2.2.2.1:=by
 have a1:=Vr x
 have a2:=Y9 x
 refine ⟨?_,?_⟩
 ·exact Q0 (Wl (Sg x) (enterN x) _ _ (Wl (Z8 x) (allN x) _ _ (Oh (allN x) _ h1))) (by omega)
 ·exact Q0 (Wl (Rc x) (allN x) _ _ h2) (by omega)
end Go.Proofs.YtjgochodhiekeaaGreat.V
set_option linter.all false
namespace Go.Proofs.YtjgochodhiekeaaGreat.V
open Go Go.VM Go.Proofs
set_option maxRecDepth 10000
variable {frz:Nat} {H:Heap}
theorem Vz (ys:List Int):ones (cellsOf Fl.int ys)=true:=by
 rw [Wi];unfold ones
 rw [List.all_eq_true]
 intro x hx
 obtain ⟨y,_,rfl⟩:=List.mem_map.1 hx
 rfl
theorem Sr (w h:Int) (v:Value) (b:List Int) (hI:IsI H v b) (hl:b.length≤1073741824):wp (vcall C frz 57 [.agg #[.int .i64 w,.int .i64 h,v]] H) (dMesh.Made H (w,h,b)):=by
 rw [Qb (fn:=Tryz.f57) Tryz.func57 rfl (by kernel_rfl) rfl]
 have one:=And.intro hI.one' hI.cells
 simp [one]
 rw [X8 (h:=⟨by kernel_rfl,by kernel_rfl⟩)]
 simp [emps,empOp,empB,one,(hI.app _).src]
 by_cases h0:b=[]
 ·subst h0
  simp
  exact ⟨_,rfl,⟨.inl ⟨rfl,rfl⟩,by simp⟩,Chg.app _,by simp [dMesh],by simp [dMesh]⟩
 ·simp [h0,hl]
  exact ⟨_,rfl,⟨Ow.new (D:=Fl.int) (e:=3) (xs:=b) (k:=2) (by simp) (Wi _).symm (by simp) rfl,hl⟩,Chg.app _,by simp [dMesh],Q8 (.slice (some ⟨H.length+2,0,some 0⟩) b.length 0)⟩
theorem Ol (w h:Int) (v:Value) (b:List Int) (hI:IsI H v b) (hl:b.length≤1073741824):wp (vcall C frz 75 [.agg #[.int .i64 w,.int .i64 h,v]] H) (dMesh.Made H (w,h,b)):=by
 rw [Qb (fn:=Tryz.f75) Tryz.func75 rfl (by kernel_rfl) rfl]
 have one:=And.intro hI.one' hI.cells
 simp [one]
 rw [X8 (h:=⟨by kernel_rfl,by kernel_rfl⟩)]
 simp [emps,empOp,empB,one,(hI.app _).src]
 by_cases h0:b=[]
 ·subst h0
  simp
  exact ⟨_,rfl,⟨.inl ⟨rfl,rfl⟩,by simp⟩,Chg.app _,by simp [dMesh],by simp [dMesh]⟩
 ·simp [h0,hl]
  exact ⟨_,rfl,⟨Ow.new (D:=Fl.int) (e:=3) (xs:=b) (k:=2) (by simp) (Wi _).symm (by simp) rfl,hl⟩,Chg.app _,by simp [dMesh],Q8 (.slice (some ⟨H.length+2,0,some 0⟩) b.length 0)⟩
theorem T0 (v:Value) (xs:List Int) (hI:IsI H v xs) (hl:xs.length≤1073741824):wp (vcall C frz 89 [.agg #[v]] H) (dTable.Made H xs):=by
 rw [Qb (fn:=Tryz.f89) Tryz.func89 rfl (by kernel_rfl) rfl]
 have one:=And.intro hI.one' hI.cells
 simp [one,(hI.app _).src]
 by_cases h0:xs=[]
 ·subst h0
  simp
  exact ⟨_,rfl,⟨Ow.new (D:=Fl.int) (e:=3) (xs:=[]) (k:=2) (by simp) rfl rfl rfl,by simp⟩,Chg.app _,by simp [dTable],Q8 (.slice (some ⟨H.length+2,0,some 0⟩) 0 0)⟩
 ·simp [h0,hl]
  exact ⟨_,rfl,⟨Ow.new (D:=Fl.int) (e:=3) (xs:=xs) (k:=2) (by simp) (Wi _).symm (by simp) rfl,hl⟩,Chg.app _,by simp [dTable],Q8 (.slice (some ⟨H.length+2,0,some 1⟩) xs.length 0)⟩
theorem Pu (v:Value) (xs:List Int) (hI:IsI H v xs) (hl:xs.length≤1073741824):wp (vcall C frz 108 [.agg #[v]] H) (dTable.Made H xs):=by
 rw [Qb (fn:=Tryz.f108) Tryz.func108 rfl (by kernel_rfl) rfl]
 have one:=And.intro hI.one' hI.cells
 simp [one,(hI.app _).src]
 by_cases h0:xs=[]
 ·subst h0
  simp
  exact ⟨_,rfl,⟨Ow.new (D:=Fl.int) (e:=3) (xs:=[]) (k:=2) (by simp) rfl rfl rfl,by simp⟩,Chg.app _,by simp [dTable],Q8 (.slice (some ⟨H.length+2,0,some 0⟩) 0 0)⟩
 ·simp [h0,hl]
  exact ⟨_,rfl,⟨Ow.new (D:=Fl.int) (e:=3) (xs:=xs) (k:=2) (by simp) (Wi _).symm (by simp) rfl,hl⟩,Chg.app _,by simp [dTable],Q8 (.slice (some ⟨H.length+2,0,some 1⟩) xs.length 0)⟩
theorem Vp:∀(hs:List Value),(hs.flatMap ids).Nodup→∀{i j:Nat} {a b:Value},i≠j→hs[i]? = some a→hs[j]? = some b→∀x∈ids a,x∉ids b
 | [],_,i,j,a,b,_,h1,_=>by simp at h1
 | c::hs,nd,i,j,a,b,hij,h1,h2=>by
  rw [List.flatMap_cons] at nd
  obtain ⟨n1,n2,n3⟩:=List.nodup_append.1 nd
  intro x hx hx'
  cases i with
  | zero=>
   cases j with
   | zero=>exact absurd rfl hij
   | succ j=>
    simp at h1 h2
    subst h1
    exact n3 x hx x (List.mem_flatMap.2 ⟨b,List.mem_of_getElem? h2,hx'⟩) rfl
  | succ i=>
   cases j with
   | zero=>
    simp at h1 h2
    subst h2
    exact n3 x hx' x (List.mem_flatMap.2 ⟨a,List.mem_of_getElem? h1,hx⟩) rfl
   | succ j=>exact Vp hs n2 (i:=i) (j:=j) (fun e=>hij (by omega)) (by simpa using h1) (by simpa using h2) x hx hx'
def ahead (a:SSD) (i:Nat):Nat:=((a.take i).map List.length).sum
theorem Um (a:SSD) {i:Nat} (h:i<a.length):ahead a (i+1)=ahead a i+(a.getD i []).length:=by
 unfold ahead;rw [Ey a h,List.getD_eq_getElem?_getD,List.getElem?_eq_getElem h];rfl
theorem Rx (a:SSD) (h2:∀xs∈a,xs.length≤67108864):∀i,i≤a.length→ahead a i≤67108864*i
 | 0,_=>by simp [ahead]
 | i+1,h=>by
  have:=Rx a h2 i (by omega)
  have hm:=h2 _ (List.getElem_mem (show i<a.length by omega))
  rw [Um a (by omega),List.getD_eq_getElem?_getD,List.getElem?_eq_getElem (by omega)]
  simp;omega
theorem Z6 (v:Value) (xs:List Int) (hI:Rd Fl.int H v xs) (hl:xs.length≤1073741824):∃r L,vappend Tryz.prog frz H 26 26 (.slice none 0 0) v=some (r,H++L)∧dIntS.Ow (H++L) r xs∧(∀i∈ids r,H.length≤i):=by
 have hs:=hI.src
 simp only [Fl.int_n] at hs
 by_cases h0:xs=[]
 ·subst h0
  refine ⟨.slice none 0 0,[],?_,⟨.inl ⟨rfl,rfl⟩,by simp⟩,by simp⟩
  simp [hs]
 ·refine ⟨.slice (some ⟨H.length,0,some 0⟩) xs.length 0,[⟨cellsOf Fl.int xs,0,3⟩],?_,⟨Ow.new0 rfl rfl (Vz xs) rfl,hl⟩,by simp⟩
  have:xs.length≠0:=fun hh=>h0 (List.length_eq_zero_iff.1 hh)
  simp [hs,h0,hl,Vz]
theorem Zu (v:Value) (hs:List Value) (xss:SSD) (hI:RdL flF H v hs xss) (hb:xss.length≤2097152) (hb2:∀xs∈xss,xs.length≤67108864) :
 wp (vcall C frz 90 [v] H) (dSS.Made H xss):=by
 rw [Qb (fn:=Tryz.f90) Tryz.func90 rfl (by kernel_rfl) rfl]
 have hl:=hI.2.1
 simp [(hI.app).1.len (P:=Tryz.prog) (ty:=55) (by simp),hl]
 refine Qk (fun n t H'=>∃(i:Nat) (out:Value) (gs:List Value),n=xss.length-i∧i≤xss.length∧t 7=v∧t 8=.int .i64 xss.length∧t 9=.int .i64 i∧t 3=out∧gs.length=i∧Ow Fl.val 100 H' out gs∧Chg H H' []∧
  (∀(j:Nat) (a:Value) (xs:List FlitD),gs[j]? = some a→xss[j]? = some xs→Ow flF 103 H' a xs)∧(∀x∈idsL out gs,H.length≤x∧x<H'.length)∧(idsL out gs).Nodup) ?_ (n:=xss.length)
  ⟨0,.slice (some ⟨H.length,0,some 0⟩) 0 0,[],rfl,by omega,by simp,by simp,by simp,by simp,rfl,Ow.new0 (D:=Fl.val) (xs:=[]) rfl rfl rfl rfl,Chg.app _,by simp,by simp [idsL],by simp [idsL]⟩
 rintro n t H' ⟨i,out,gs,rfl,hi,t7,t8,t9,t3,hgl,o,c,hin,hids,hnd⟩ ih
 have rd:=hI.chg c (by simp)
 have l0:=c.1
 simp [t7,t8,t9,t3,rd.1.len (P:=Tryz.prog) (ty:=55) (by simp),hl]
 refine Qh ?_ ?_<;>intro h
 ·have h':i<xss.length:=by omega
  obtain ⟨u,a1,a2,a3,a4⟩:=Q5 rd (ty:=55) (e:=100) (by simp) (by simp) h'
  have hm:=hb2 _ (List.getElem_mem h')
  have a2':vindexAddr Tryz.prog (H'++[⟨[],0,103⟩]) 55 v (.int .i64 i)=some (elp v i):=by
   obtain ⟨_,_,q,_,_⟩:=Q5 (rd.app (L:=[⟨[],0,103⟩])) (ty:=55) (e:=100) (by simp) (by simp) h';exact q
  have a3':vload Tryz.prog (H'++[⟨[],0,103⟩]) 100 (elp v i)=some u:=by
   obtain ⟨u',q1,_,q,_⟩:=Q5 (rd.app (L:=[⟨[],0,103⟩])) (ty:=55) (e:=100) (by simp) (by simp) h'
   rw [a1] at q1;cases q1;exact q
  have o0:Ow flF 103 (H'++[⟨[],0,103⟩]) (.slice (some ⟨H'.length,0,some 0⟩) 0 0) []:=Ow.new0 (D:=flF) (xs:=[]) rfl rfl rfl rfl
  obtain ⟨r,H2,hap,or_,c1,n1⟩:=o0.append (P:=Tryz.prog) (frz:=H.length) (ty:=100) (a4.app (L:=[⟨[],0,103⟩])) (by simp) (Yv _) (by simp;omega) (by simp;omega)
  rw [List.nil_append] at or_
  have l1:=c1.1
  simp at l1
  have cc1:Chg H' H2 []:=(Chg.app []).trans' c1 (fun x hx=>.inr (by simp at hx;omega))
  have nr:∀x∈ids r,H'.length≤x:=fun x hx=>by
   rcases n1 x hx with h1|h1
   ·simp at h1;omega
   ·simp at h1;omega
  have oo:=o.chg cc1 (by simp)
  have hout:∀x∈ids out,H.length≤x∧x<H'.length:=fun x hx=>hids x (List.mem_append.2 (.inl hx))
  obtain ⟨out',H4,hap2,o4,c4,n4⟩:=oo.push (P:=Tryz.prog) (frz:=H.length) (ty:=55) (a:=r) (by simp) (by simp [or_.rd.one']) (by omega) (fun x hx=>(hout x hx).1)
  simp only [Fl.val_f] at hap2
  have l4:=c4.1
  have one:=And.intro or_.rd.one' or_.rd.cells
  have rlt:=or_.lt
  have o4lt:=o4.lt
  simp [-Qm,t7,t8,t9,t3,a2,a3,a2',a3',hap,hap2,one]
  refine ih (xss.length-(i+1)) _ _ ⟨i+1,out',gs++[r],rfl,by omega,by simp [t7],by simp [t8],?_,by simp,by simp [hgl],o4,(c.trans cc1).trans' c4 (fun x hx=>.inr (hout x hx).1),fun j a xs ha hx=>?_,fun x hx=>?_,?_⟩ (by omega)
  ·simp;rw [w64 (by omega) (by omega)]
  ·by_cases hj:j<gs.length
   ·rw [List.getElem?_append_left hj] at ha
    refine ((hin j a xs ha hx).chg cc1 (by simp)).chg c4 (fun y hy hh=>?_)
    exact (List.nodup_append.1 hnd).2.2 y hh y (List.mem_flatMap.2 ⟨a,List.mem_of_getElem? ha,hy⟩) rfl
   ·rw [List.getElem?_append_right (by omega)] at ha
    have hj2:=(List.getElem?_eq_some_iff.1 ha).1
    simp at hj2
    have:j=i:=by omega
    subst this
    rw [show j-gs.length=0 by omega] at ha
    simp at ha
    subst ha
    rw [List.getElem?_eq_getElem h'] at hx
    cases hx
    exact or_.chg c4 (fun y hy hh=>by have:=nr y hy;have:=(hout y hh).2;omega)
  ·rcases List.mem_append.1 hx with hx|hx
   ·have h2:=o4lt x hx
    rcases n4 x hx with h1|h1
    ·exact ⟨(hout x h1).1,h2⟩
    ·exact ⟨by omega,h2⟩
   ·rw [List.flatMap_append] at hx
    rcases List.mem_append.1 hx with hx|hx
    ·have:=hids x (List.mem_append.2 (.inr hx));omega
    ·simp at hx
     have:=nr x hx;have:=rlt x hx;omega
  ·obtain ⟨d1,d2,d3⟩:=List.nodup_append.1 hnd
   have hgl2:∀x∈gs.flatMap ids,x<H'.length:=fun x hx=>(hids x (List.mem_append.2 (.inr hx))).2
   refine List.nodup_append.2 ⟨Q8 _,?_,fun a ha b hb e=>?_⟩
   ·rw [List.flatMap_append]
    exact Ww d2 (by simpa using Q8 r) (n:=H'.length) hgl2 (fun x hx=>by simp at hx;exact nr x hx)
   ·subst e
    rw [List.flatMap_append] at hb
    rcases n4 a ha with h1|h1
    ·rcases List.mem_append.1 hb with hb|hb
     ·exact d3 a h1 a hb rfl
     ·simp at hb
      have:=nr a hb;have:=(hout a h1).2;omega
    ·rcases List.mem_append.1 hb with hb|hb
     ·have:=hgl2 a hb;omega
     ·simp at hb
      have:=rlt a hb;omega
 ·have:i=xss.length:=by omega
  subst this
  simp [t7,t8,t9,t3]
  exact ⟨(out,gs),rfl,⟨⟨o,hgl,hin⟩,hb,hb2⟩,c,fun x hx=>(hids x hx).1,hnd⟩
theorem Uk (v:Value) (hs:List Value) (xss:SSD) (hI:RdL flF H v hs xss) (hb:xss.length≤2097152) (hb2:∀xs∈xss,xs.length≤67108864) :
 wp (vcall C frz 103 [v] H) (dSS.Made H xss):=by
 rw [Qb (fn:=Tryz.f103) Tryz.func103 rfl (by kernel_rfl) rfl]
 have hl:=hI.2.1
 simp [(hI.app).1.len (P:=Tryz.prog) (ty:=55) (by simp),hl]
 refine Qk (fun n t H'=>∃(i:Nat) (out:Value) (gs:List Value),n=xss.length-i∧i≤xss.length∧t 0=v∧t 4=.int .i64 i∧t 3=out∧gs.length=i∧Ow Fl.val 100 H' out gs∧Chg H H' []∧
  (∀(j:Nat) (a:Value) (xs:List FlitD),gs[j]? = some a→xss[j]? = some xs→Ow flF 103 H' a xs)∧(∀x∈idsL out gs,H.length≤x∧x<H'.length)∧(idsL out gs).Nodup) ?_ (n:=xss.length)
  ⟨0,.slice (some ⟨H.length,0,some 0⟩) 0 0,[],rfl,by omega,by simp,by simp,by simp,rfl,Ow.new0 (D:=Fl.val) (xs:=[]) rfl rfl rfl rfl,Chg.app _,by simp,by simp [idsL],by simp [idsL]⟩
 rintro n t H' ⟨i,out,gs,rfl,hi,t0,t4,t3,hgl,o,c,hin,hids,hnd⟩ ih
 have rd:=hI.chg c (by simp)
 have l0:=c.1
 simp [t0,t4,t3,rd.1.len (P:=Tryz.prog) (ty:=55) (by simp),hl]
 refine Qh ?_ ?_<;>intro h
 ·have h':i<xss.length:=by omega
  obtain ⟨u,a1,a2,a3,a4⟩:=Q5 rd (ty:=55) (e:=100) (by simp) (by simp) h'
  have hm:=hb2 _ (List.getElem_mem h')
  have a2':vindexAddr Tryz.prog (H'++[⟨[],0,103⟩]) 55 v (.int .i64 i)=some (elp v i):=by
   obtain ⟨_,_,q,_,_⟩:=Q5 (rd.app (L:=[⟨[],0,103⟩])) (ty:=55) (e:=100) (by simp) (by simp) h';exact q
  have a3':vload Tryz.prog (H'++[⟨[],0,103⟩]) 100 (elp v i)=some u:=by
   obtain ⟨u',q1,_,q,_⟩:=Q5 (rd.app (L:=[⟨[],0,103⟩])) (ty:=55) (e:=100) (by simp) (by simp) h'
   rw [a1] at q1;cases q1;exact q
  have o0:Ow flF 103 (H'++[⟨[],0,103⟩]) (.slice (some ⟨H'.length,0,some 0⟩) 0 0) []:=Ow.new0 (D:=flF) (xs:=[]) rfl rfl rfl rfl
  obtain ⟨r,H2,hap,or_,c1,n1⟩:=o0.append (P:=Tryz.prog) (frz:=H.length) (ty:=100) (a4.app (L:=[⟨[],0,103⟩])) (by simp) (Yv _) (by simp;omega) (by simp;omega)
  rw [List.nil_append] at or_
  have l1:=c1.1
  simp at l1
  have cc1:Chg H' H2 []:=(Chg.app []).trans' c1 (fun x hx=>.inr (by simp at hx;omega))
  have nr:∀x∈ids r,H'.length≤x:=fun x hx=>by
   rcases n1 x hx with h1|h1
   ·simp at h1;omega
   ·simp at h1;omega
  have oo:=o.chg cc1 (by simp)
  have hout:∀x∈ids out,H.length≤x∧x<H'.length:=fun x hx=>hids x (List.mem_append.2 (.inl hx))
  obtain ⟨out',H4,hap2,o4,c4,n4⟩:=oo.push (P:=Tryz.prog) (frz:=H.length) (ty:=55) (a:=r) (by simp) (by simp [or_.rd.one']) (by omega) (fun x hx=>(hout x hx).1)
  simp only [Fl.val_f] at hap2
  have l4:=c4.1
  have one:=And.intro or_.rd.one' or_.rd.cells
  have rlt:=or_.lt
  have o4lt:=o4.lt
  simp [-Qm,t0,t4,t3,a2,a3,a2',a3',hap,hap2,one]
  refine ih (xss.length-(i+1)) _ _ ⟨i+1,out',gs++[r],rfl,by omega,by simp [t0],?_,by simp,by simp [hgl],o4,(c.trans cc1).trans' c4 (fun x hx=>.inr (hout x hx).1),fun j a xs ha hx=>?_,fun x hx=>?_,?_⟩ (by omega)
  ·simp;rw [w64 (by omega) (by omega)]
  ·by_cases hj:j<gs.length
   ·rw [List.getElem?_append_left hj] at ha
    refine ((hin j a xs ha hx).chg cc1 (by simp)).chg c4 (fun y hy hh=>?_)
    exact (List.nodup_append.1 hnd).2.2 y hh y (List.mem_flatMap.2 ⟨a,List.mem_of_getElem? ha,hy⟩) rfl
   ·rw [List.getElem?_append_right (by omega)] at ha
    have hj2:=(List.getElem?_eq_some_iff.1 ha).1
    simp at hj2
    have:j=i:=by omega
    subst this
    rw [show j-gs.length=0 by omega] at ha
    simp at ha
    subst ha
    rw [List.getElem?_eq_getElem h'] at hx
    cases hx
    exact or_.chg c4 (fun y hy hh=>by have:=nr y hy;have:=(hout y hh).2;omega)
  ·rcases List.mem_append.1 hx with hx|hx
   ·have h2:=o4lt x hx
    rcases n4 x hx with h1|h1
    ·exact ⟨(hout x h1).1,h2⟩
    ·exact ⟨by omega,h2⟩
   ·rw [List.flatMap_append] at hx
    rcases List.mem_append.1 hx with hx|hx
    ·have:=hids x (List.mem_append.2 (.inr hx));omega
    ·simp at hx
     have:=nr x hx;have:=rlt x hx;omega
  ·obtain ⟨d1,d2,d3⟩:=List.nodup_append.1 hnd
   have hgl2:∀x∈gs.flatMap ids,x<H'.length:=fun x hx=>(hids x (List.mem_append.2 (.inr hx))).2
   refine List.nodup_append.2 ⟨Q8 _,?_,fun a ha b hb e=>?_⟩
   ·rw [List.flatMap_append]
    exact Ww d2 (by simpa using Q8 r) (n:=H'.length) hgl2 (fun x hx=>by simp at hx;exact nr x hx)
   ·subst e
    rw [List.flatMap_append] at hb
    rcases n4 a ha with h1|h1
    ·rcases List.mem_append.1 hb with hb|hb
     ·exact d3 a h1 a hb rfl
     ·simp at hb
      have:=nr a hb;have:=(hout a h1).2;omega
    ·rcases List.mem_append.1 hb with hb|hb
     ·have:=hgl2 a hb;omega
     ·simp at hb
      have:=rlt a hb;omega
 ·have:i=xss.length:=by omega
  subst this
  simp [t0,t4,t3]
  exact ⟨(out,gs),rfl,⟨⟨o,hgl,hin⟩,hb,hb2⟩,c,fun x hx=>(hids x hx).1,hnd⟩
theorem Uj (v1 v2:Value) (A B:List Int) (h1:IsI H v1 A) (h2:IsI H v2 B) (l1:A.length≤1073741824) (l2:B.length≤1073741824) :
 wp (vcall C frz 58 [.agg #[v1,v2]] H) (dClasses.Made H (A,B)):=by
 rw [Qb (fn:=Tryz.f58) Tryz.func58 rfl (by kernel_rfl) rfl]
 have one:=And.intro (And.intro h1.one' h1.cells) (And.intro h2.one' h2.cells)
 simp [one]
 try rw [Qo (h:=by kernel_rfl)]
 simp [one]
 refine Qf (T0 v1 A (h1.app _) l1) ?_
 rintro _ H1 ⟨u1,rfl,o1,c1,n1,d1⟩
 have b0:H1[H.length]? = some ⟨[v1,v2],0,32⟩:=Qa (by simp) c1 (by simp)
 have bR:H1[H.length+1]? = some ⟨[.slice none 0 0,.slice none 0 0],0,32⟩:=Qa (by simp) c1 (by simp)
 have cH1:Chg H H1 []:=(Chg.app []).trans c1
 have lc:=c1.1
 simp at n1 lc
 have onu:=Xj o1
 have lt1:=dTable.lt o1
 simp [Xm,VM.look,b0,one]
 refine Qf (T0 v2 B (Rd.isI (h2.rd.chg cH1 (by simp))) l2) ?_
 rintro _ H2 ⟨u2,rfl,o2,c2,n2,d2⟩
 have bR:=Qa bR c2 (by simp)
 have o1:=Dt.chg0 (T:=dTable) o1 c2
 have onu2:=Xj o2
 have gR:=Qn (r':=⟨[u1,u2],0,32⟩) bR
 have hF:H.length≤H.length+1:=by omega
 have eR:Chg H2 (H2.set (H.length+1) ⟨[u1,u2],0,32⟩) [H.length+1]:=Qj _ _
 simp [Xm,VM.look,bR,onu,onu2,gR,hF]
 refine ⟨(u1,u2),rfl,⟨Dt.chg (T:=dTable) o1 eR (fun i hi hh=>by have:=n1 i hi;simp at hh;omega),Dt.chg (T:=dTable) o2 eR (fun i hi hh=>by have:=n2 i hi;simp at hh;omega)⟩,(cH1.trans c2).trans' eR (fun i hi=>.inr (by simp at hi;omega)),fun i hi=>?_,?_⟩
 ·rcases List.mem_append.1 hi with hi|hi
  ·have:=n1 i hi;omega
  ·have:=n2 i hi;omega
 ·exact List.nodup_append.2 ⟨d1,d2,fun a ha b hb e=>by have:=lt1 a ha;have:=n2 b hb;omega⟩
theorem U4 (v1 v2:Value) (A B:List Int) (h1:IsI H v1 A) (h2:IsI H v2 B) (l1:A.length≤1073741824) (l2:B.length≤1073741824) :
 wp (vcall C frz 76 [.agg #[v1,v2]] H) (dClasses.Made H (A,B)):=by
 rw [Qb (fn:=Tryz.f76) Tryz.func76 rfl (by kernel_rfl) rfl]
 have one:=And.intro (And.intro h1.one' h1.cells) (And.intro h2.one' h2.cells)
 simp [one]
 try rw [Qo (h:=by kernel_rfl)]
 simp [one]
 refine Qf (Pu v1 A (h1.app _) l1) ?_
 rintro _ H1 ⟨u1,rfl,o1,c1,n1,d1⟩
 have b0:H1[H.length]? = some ⟨[v1,v2],0,32⟩:=Qa (by simp) c1 (by simp)
 have bR:H1[H.length+1]? = some ⟨[.slice none 0 0,.slice none 0 0],0,32⟩:=Qa (by simp) c1 (by simp)
 have cH1:Chg H H1 []:=(Chg.app []).trans c1
 have lc:=c1.1
 simp at n1 lc
 have onu:=Xj o1
 have lt1:=dTable.lt o1
 simp [Xm,VM.look,b0,one]
 refine Qf (Pu v2 B (Rd.isI (h2.rd.chg cH1 (by simp))) l2) ?_
 rintro _ H2 ⟨u2,rfl,o2,c2,n2,d2⟩
 have bR:=Qa bR c2 (by simp)
 have o1:=Dt.chg0 (T:=dTable) o1 c2
 have onu2:=Xj o2
 have gR:=Qn (r':=⟨[u1,u2],0,32⟩) bR
 have hF:H.length≤H.length+1:=by omega
 have eR:Chg H2 (H2.set (H.length+1) ⟨[u1,u2],0,32⟩) [H.length+1]:=Qj _ _
 simp [Xm,VM.look,bR,onu,onu2,gR,hF]
 refine ⟨(u1,u2),rfl,⟨Dt.chg (T:=dTable) o1 eR (fun i hi hh=>by have:=n1 i hi;simp at hh;omega),Dt.chg (T:=dTable) o2 eR (fun i hi hh=>by have:=n2 i hi;simp at hh;omega)⟩,(cH1.trans c2).trans' eR (fun i hi=>.inr (by simp at hi;omega)),fun i hi=>?_,?_⟩
 ·rcases List.mem_append.1 hi with hi|hi
  ·have:=n1 i hi;omega
  ·have:=n2 i hi;omega
 ·exact List.nodup_append.2 ⟨d1,d2,fun a ha b hb e=>by have:=lt1 a ha;have:=n2 b hb;omega⟩
theorem Pp {v:NetV} {x:NetD} (o:dNet.Ow H v x):wp (vcall C frz 59 [dNet.val v x] H) (dNet.Made H x):=by
 have ones:=Qd o
 obtain ⟨u2,⟨u3,u4⟩,⟨u5,h5⟩,u6,u7,⟨u8,h8⟩,⟨u9,h9⟩,_⟩:=v
 obtain ⟨⟨w,h,b⟩,⟨A,B⟩,buf,own,turn,src,arr,tm⟩:=x
 obtain ⟨y1,y2,y3,y4,y5,y6,y7,_⟩:=o
 simp only at y1 y2 y3 y4 y5 y6 y7 ones
 rw [Qc]
 rw [Qb (fn:=Tryz.f59) Tryz.func59 rfl (by kernel_rfl) rfl]
 have hF:H.length≤H.length+1:=by omega
 simp [ones]
 rw [X8 (h:=⟨by kernel_rfl,by kernel_rfl⟩)]
 obtain ⟨G0,hG0⟩:∃G,G=H++[⟨[.int .i64 w,.int .i64 h,u2,u3,u4,u5,u6,u7,u8,u9,.int .i64 tm],0,57⟩,⟨[.int .i64 0,.int .i64 0,.slice none 0 0,.slice none 0 0,.slice none 0 0,.slice none 0 0,.slice none 0 0,.slice none 0 0,.slice none 0 0,.slice none 0 0,.int .i64 0],0,57⟩]:=⟨_,rfl⟩
 have b0:G0[H.length]? = some ⟨[.int .i64 w,.int .i64 h,u2,u3,u4,u5,u6,u7,u8,u9,.int .i64 tm],0,57⟩:=by rw [hG0];simp
 have bR:G0[H.length+1]? = some ⟨[.int .i64 0,.int .i64 0,.slice none 0 0,.slice none 0 0,.slice none 0 0,.slice none 0 0,.slice none 0 0,.slice none 0 0,.slice none 0 0,.slice none 0 0,.int .i64 0],0,57⟩:=by rw [hG0];simp
 have cH:Chg H G0 []:=by rw [hG0];exact Chg.app []
 have lH:H.length+2≤G0.length:=by rw [hG0];simp
 rw [← hG0]
 clear hG0
 have z1:dMesh.Ow G0 u2 (w,h,b):=Dt.chg0 y1 cH
 have z2:dClasses.Ow G0 (u3,u4) (A,B):=Dt.chg0 y2 cH
 have z3:dSS.Ow G0 (u5,h5) buf:=Dt.chg0 y3 cH
 have z4:dIntS.Ow G0 u6 own:=Dt.chg0 y4 cH
 have z5:dIntS.Ow G0 u7 turn:=Dt.chg0 y5 cH
 have z6:dSS.Ow G0 (u8,h8) src:=Dt.chg0 y6 cH
 have z7:dSS.Ow G0 (u9,h9) arr:=Dt.chg0 y7 cH
 clear y1 y2 y3 y4 y5 y6 y7
 simp [emps,empOp,empB,VM.look,b0,ones]
 refine Qf (Sr w h u2 b z1.1.rd.isI z1.2) ?_
 rintro _ G1 ⟨n1,rfl,o1,c1,m1,d1⟩
 have q1:=Wg o1
 have lt1:=dMesh.lt o1
 have lc1:=c1.1
 have b0:=Qa b0 c1 (by simp)
 have bR:=Qa bR c1 (by simp)
 have cH:=cH.trans c1
 have z2:=Dt.chg0 (T:=dClasses) z2 c1
 have z3:=Dt.chg0 (T:=dSS) z3 c1
 have z4:=Dt.chg0 (T:=dIntS) z4 c1
 have z5:=Dt.chg0 (T:=dIntS) z5 c1
 have z6:=Dt.chg0 (T:=dSS) z6 c1
 have z7:=Dt.chg0 (T:=dSS) z7 c1
 try simp [-Qe,We,VM.look,b0,ones]
 refine Qf (Uj u3 u4 A B z2.1.1.rd.isI z2.2.1.rd.isI z2.1.2 z2.2.2) ?_
 rintro _ G2 ⟨n2,rfl,o2,c2,m2,d2⟩
 have q2:=Qq o2
 have lt2:=dClasses.lt o2
 have lc2:=c2.1
 have b0:=Qa b0 c2 (by simp)
 have bR:=Qa bR c2 (by simp)
 have cH:=cH.trans c2
 have z3:=Dt.chg0 (T:=dSS) z3 c2
 have z4:=Dt.chg0 (T:=dIntS) z4 c2
 have z5:=Dt.chg0 (T:=dIntS) z5 c2
 have z6:=Dt.chg0 (T:=dSS) z6 c2
 have z7:=Dt.chg0 (T:=dSS) z7 c2
 have o1:=Dt.chg0 (T:=dMesh) o1 c2
 try simp [-Qe,Qy,VM.look,b0,ones]
 refine Qf (Zu u5 h5 buf z3.1.rd z3.2.1 z3.2.2) ?_
 rintro _ G3 ⟨n3,rfl,o3,c3,m3,d3⟩
 have q3:=Xx o3
 have lt3:=dSS.lt o3
 have lc3:=c3.1
 have b0:=Qa b0 c3 (by simp)
 have bR:=Qa bR c3 (by simp)
 have cH:=cH.trans c3
 have z4:=Dt.chg0 (T:=dIntS) z4 c3
 have z5:=Dt.chg0 (T:=dIntS) z5 c3
 have z6:=Dt.chg0 (T:=dSS) z6 c3
 have z7:=Dt.chg0 (T:=dSS) z7 c3
 have o1:=Dt.chg0 (T:=dMesh) o1 c3
 have o2:=Dt.chg0 (T:=dClasses) o2 c3
 try simp [-Qe,show dSS.val n3 buf=n3.1 from rfl,VM.look,b0,ones]
 obtain ⟨n4,L4,hap4,o4,m4⟩:=Z6 (frz:=H.length) u6 own z4.1.rd z4.2
 have c4:Chg G3 (G3++L4) []:=Chg.app _
 have d4:=Q8 n4
 have q4:=W6 o4
 simp [-Qe,hap4,VM.look]
 generalize G3++L4=G4 at *
 have lt4:=dIntS.lt o4
 have lc4:=c4.1
 have b0:=Qa b0 c4 (by simp)
 have bR:=Qa bR c4 (by simp)
 have cH:=cH.trans c4
 have z5:=Dt.chg0 (T:=dIntS) z5 c4
 have z6:=Dt.chg0 (T:=dSS) z6 c4
 have z7:=Dt.chg0 (T:=dSS) z7 c4
 have o1:=Dt.chg0 (T:=dMesh) o1 c4
 have o2:=Dt.chg0 (T:=dClasses) o2 c4
 have o3:=Dt.chg0 (T:=dSS) o3 c4
 try simp [-Qe,VM.look,b0,ones]
 obtain ⟨n5,L5,hap5,o5,m5⟩:=Z6 (frz:=H.length) u7 turn z5.1.rd z5.2
 have c5:Chg G4 (G4++L5) []:=Chg.app _
 have d5:=Q8 n5
 have q5:=W6 o5
 simp [-Qe,hap5,VM.look]
 generalize G4++L5=G5 at *
 have lt5:=dIntS.lt o5
 have lc5:=c5.1
 have b0:=Qa b0 c5 (by simp)
 have bR:=Qa bR c5 (by simp)
 have cH:=cH.trans c5
 have z6:=Dt.chg0 (T:=dSS) z6 c5
 have z7:=Dt.chg0 (T:=dSS) z7 c5
 have o1:=Dt.chg0 (T:=dMesh) o1 c5
 have o2:=Dt.chg0 (T:=dClasses) o2 c5
 have o3:=Dt.chg0 (T:=dSS) o3 c5
 have o4:=Dt.chg0 (T:=dIntS) o4 c5
 try simp [-Qe,VM.look,b0,ones]
 refine Qf (Zu u8 h8 src z6.1.rd z6.2.1 z6.2.2) ?_
 rintro _ G6 ⟨n6,rfl,o6,c6,m6,d6⟩
 have q6:=Xx o6
 have lt6:=dSS.lt o6
 have lc6:=c6.1
 have b0:=Qa b0 c6 (by simp)
 have bR:=Qa bR c6 (by simp)
 have cH:=cH.trans c6
 have z7:=Dt.chg0 (T:=dSS) z7 c6
 have o1:=Dt.chg0 (T:=dMesh) o1 c6
 have o2:=Dt.chg0 (T:=dClasses) o2 c6
 have o3:=Dt.chg0 (T:=dSS) o3 c6
 have o4:=Dt.chg0 (T:=dIntS) o4 c6
 have o5:=Dt.chg0 (T:=dIntS) o5 c6
 try simp [-Qe,show dSS.val n6 src=n6.1 from rfl,VM.look,b0,ones]
 refine Qf (Zu u9 h9 arr z7.1.rd z7.2.1 z7.2.2) ?_
 rintro _ G7 ⟨n7,rfl,o7,c7,m7,d7⟩
 have q7:=Xx o7
 have lt7:=dSS.lt o7
 have lc7:=c7.1
 have b0:=Qa b0 c7 (by simp)
 have bR:=Qa bR c7 (by simp)
 have cH:=cH.trans c7
 have o1:=Dt.chg0 (T:=dMesh) o1 c7
 have o2:=Dt.chg0 (T:=dClasses) o2 c7
 have o3:=Dt.chg0 (T:=dSS) o3 c7
 have o4:=Dt.chg0 (T:=dIntS) o4 c7
 have o5:=Dt.chg0 (T:=dIntS) o5 c7
 have o6:=Dt.chg0 (T:=dSS) o6 c7
 have gR:=Qn (r':=⟨[.int .i64 w,.int .i64 h,n1,n2.1,n2.2,n3.1,n4,n5,n6.1,n7.1,.int .i64 tm],0,57⟩) bR
 have eR:Chg G7 (G7.set (H.length+1) ⟨[.int .i64 w,.int .i64 h,n1,n2.1,n2.2,n3.1,n4,n5,n6.1,n7.1,.int .i64 tm],0,57⟩) [H.length+1]:=Qj _ _
 have o1:=Dt.chg (T:=dMesh) o1 eR (fun i hi hh=>by have:=m1 i hi;simp at hh;omega)
 have o2:=Dt.chg (T:=dClasses) o2 eR (fun i hi hh=>by have:=m2 i hi;simp at hh;omega)
 have o3:=Dt.chg (T:=dSS) o3 eR (fun i hi hh=>by have:=m3 i hi;simp at hh;omega)
 have o4:=Dt.chg (T:=dIntS) o4 eR (fun i hi hh=>by have:=m4 i hi;simp at hh;omega)
 have o5:=Dt.chg (T:=dIntS) o5 eR (fun i hi hh=>by have:=m5 i hi;simp at hh;omega)
 have o6:=Dt.chg (T:=dSS) o6 eR (fun i hi hh=>by have:=m6 i hi;simp at hh;omega)
 have o7:=Dt.chg (T:=dSS) o7 eR (fun i hi hh=>by have:=m7 i hi;simp at hh;omega)
 have cH:=cH.trans' eR (fun i hi=>.inr (by simp at hi;omega))
 simp [show dSS.val n7 arr=n7.1 from rfl,VM.look,b0,bR,gR,hF,q1,q2,q3,q4,q5,q6,q7]
 refine ⟨(n1,n2,n3,n4,n5,n6,n7,()),rfl,⟨o1,o2,o3,o4,o5,o6,o7,trivial⟩,cH,fun i hi=>?_,?_⟩
 ·rcases List.mem_append.1 hi with hi|hi
  ·have:=m1 i hi;omega
  rcases List.mem_append.1 hi with hi|hi
  ·have:=m2 i hi;omega
  rcases List.mem_append.1 hi with hi|hi
  ·have:=m3 i hi;omega
  rcases List.mem_append.1 hi with hi|hi
  ·have:=m4 i hi;omega
  rcases List.mem_append.1 hi with hi|hi
  ·have:=m5 i hi;omega
  rcases List.mem_append.1 hi with hi|hi
  ·have:=m6 i hi;omega
  rcases List.mem_append.1 hi with hi|hi
  ·have:=m7 i hi;omega
  ·simp [dNone] at hi
 ·have z7:(dSS.ids n7++[]).Nodup∧∀i∈dSS.ids n7++[],G6.length≤i:=⟨by simpa using d7,fun i hi=>by simp at hi;have:=m7 i hi;omega⟩
  have z6:(dSS.ids n6++(dSS.ids n7++[])).Nodup∧∀i∈dSS.ids n6++(dSS.ids n7++[]),G5.length≤i:=⟨Ww d6 z7.1 lt6 z7.2,fun i hi=>by rcases List.mem_append.1 hi with hi|hi;(have:=m6 i hi;omega);(have:=z7.2 i hi;omega)⟩
  have z5:(dIntS.ids n5++(dSS.ids n6++(dSS.ids n7++[]))).Nodup∧∀i∈dIntS.ids n5++(dSS.ids n6++(dSS.ids n7++[])),G4.length≤i:=⟨Ww d5 z6.1 lt5 z6.2,fun i hi=>by rcases List.mem_append.1 hi with hi|hi;(have:=m5 i hi;omega);(have:=z6.2 i hi;omega)⟩
  have z4:(dIntS.ids n4++(dIntS.ids n5++(dSS.ids n6++(dSS.ids n7++[])))).Nodup∧∀i∈dIntS.ids n4++(dIntS.ids n5++(dSS.ids n6++(dSS.ids n7++[]))),G3.length≤i:=⟨Ww d4 z5.1 lt4 z5.2,fun i hi=>by rcases List.mem_append.1 hi with hi|hi;(have:=m4 i hi;omega);(have:=z5.2 i hi;omega)⟩
  have z3:(dSS.ids n3++(dIntS.ids n4++(dIntS.ids n5++(dSS.ids n6++(dSS.ids n7++[]))))).Nodup∧∀i∈dSS.ids n3++(dIntS.ids n4++(dIntS.ids n5++(dSS.ids n6++(dSS.ids n7++[])))),G2.length≤i:=⟨Ww d3 z4.1 lt3 z4.2,fun i hi=>by rcases List.mem_append.1 hi with hi|hi;(have:=m3 i hi;omega);(have:=z4.2 i hi;omega)⟩
  have z2:(dClasses.ids n2++(dSS.ids n3++(dIntS.ids n4++(dIntS.ids n5++(dSS.ids n6++(dSS.ids n7++[])))))).Nodup∧∀i∈dClasses.ids n2++(dSS.ids n3++(dIntS.ids n4++(dIntS.ids n5++(dSS.ids n6++(dSS.ids n7++[]))))),G1.length≤i:=⟨Ww d2 z3.1 lt2 z3.2,fun i hi=>by rcases List.mem_append.1 hi with hi|hi;(have:=m2 i hi;omega);(have:=z3.2 i hi;omega)⟩
  exact Ww d1 z2.1 lt1 z2.2
theorem Y0 {v:NetV} {x:NetD} (o:dNet.Ow H v x):wp (vcall C frz 69 [dNet.val v x] H) (dNet.Made H x):=by
 have ones:=Qd o
 obtain ⟨u2,⟨u3,u4⟩,⟨u5,h5⟩,u6,u7,⟨u8,h8⟩,⟨u9,h9⟩,_⟩:=v
 obtain ⟨⟨w,h,b⟩,⟨A,B⟩,buf,own,turn,src,arr,tm⟩:=x
 obtain ⟨y1,y2,y3,y4,y5,y6,y7,_⟩:=o
 simp only at y1 y2 y3 y4 y5 y6 y7 ones
 rw [Qc]
 rw [Qb (fn:=Tryz.f69) Tryz.func69 rfl (by kernel_rfl) rfl]
 have hF:H.length≤H.length+1:=by omega
 simp [ones]
 rw [X8 (h:=⟨by kernel_rfl,by kernel_rfl⟩)]
 obtain ⟨G0,hG0⟩:∃G,G=H++[⟨[.int .i64 w,.int .i64 h,u2,u3,u4,u5,u6,u7,u8,u9,.int .i64 tm],0,57⟩,⟨[.int .i64 0,.int .i64 0,.slice none 0 0,.slice none 0 0,.slice none 0 0,.slice none 0 0,.slice none 0 0,.slice none 0 0,.slice none 0 0,.slice none 0 0,.int .i64 0],0,57⟩]:=⟨_,rfl⟩
 have b0:G0[H.length]? = some ⟨[.int .i64 w,.int .i64 h,u2,u3,u4,u5,u6,u7,u8,u9,.int .i64 tm],0,57⟩:=by rw [hG0];simp
 have bR:G0[H.length+1]? = some ⟨[.int .i64 0,.int .i64 0,.slice none 0 0,.slice none 0 0,.slice none 0 0,.slice none 0 0,.slice none 0 0,.slice none 0 0,.slice none 0 0,.slice none 0 0,.int .i64 0],0,57⟩:=by rw [hG0];simp
 have cH:Chg H G0 []:=by rw [hG0];exact Chg.app []
 have lH:H.length+2≤G0.length:=by rw [hG0];simp
 rw [← hG0]
 clear hG0
 have z1:dMesh.Ow G0 u2 (w,h,b):=Dt.chg0 y1 cH
 have z2:dClasses.Ow G0 (u3,u4) (A,B):=Dt.chg0 y2 cH
 have z3:dSS.Ow G0 (u5,h5) buf:=Dt.chg0 y3 cH
 have z4:dIntS.Ow G0 u6 own:=Dt.chg0 y4 cH
 have z5:dIntS.Ow G0 u7 turn:=Dt.chg0 y5 cH
 have z6:dSS.Ow G0 (u8,h8) src:=Dt.chg0 y6 cH
 have z7:dSS.Ow G0 (u9,h9) arr:=Dt.chg0 y7 cH
 clear y1 y2 y3 y4 y5 y6 y7
 simp [emps,empOp,empB,VM.look,b0,ones]
 refine Qf (Ol w h u2 b z1.1.rd.isI z1.2) ?_
 rintro _ G1 ⟨n1,rfl,o1,c1,m1,d1⟩
 have q1:=Wg o1
 have lt1:=dMesh.lt o1
 have lc1:=c1.1
 have b0:=Qa b0 c1 (by simp)
 have bR:=Qa bR c1 (by simp)
 have cH:=cH.trans c1
 have z2:=Dt.chg0 (T:=dClasses) z2 c1
 have z3:=Dt.chg0 (T:=dSS) z3 c1
 have z4:=Dt.chg0 (T:=dIntS) z4 c1
 have z5:=Dt.chg0 (T:=dIntS) z5 c1
 have z6:=Dt.chg0 (T:=dSS) z6 c1
 have z7:=Dt.chg0 (T:=dSS) z7 c1
 try simp [-Qe,We,VM.look,b0,ones]
 refine Qf (U4 u3 u4 A B z2.1.1.rd.isI z2.2.1.rd.isI z2.1.2 z2.2.2) ?_
 rintro _ G2 ⟨n2,rfl,o2,c2,m2,d2⟩
 have q2:=Qq o2
 have lt2:=dClasses.lt o2
 have lc2:=c2.1
 have b0:=Qa b0 c2 (by simp)
 have bR:=Qa bR c2 (by simp)
 have cH:=cH.trans c2
 have z3:=Dt.chg0 (T:=dSS) z3 c2
 have z4:=Dt.chg0 (T:=dIntS) z4 c2
 have z5:=Dt.chg0 (T:=dIntS) z5 c2
 have z6:=Dt.chg0 (T:=dSS) z6 c2
 have z7:=Dt.chg0 (T:=dSS) z7 c2
 have o1:=Dt.chg0 (T:=dMesh) o1 c2
 try simp [-Qe,Qy,VM.look,b0,ones]
 refine Qf (Uk u5 h5 buf z3.1.rd z3.2.1 z3.2.2) ?_
 rintro _ G3 ⟨n3,rfl,o3,c3,m3,d3⟩
 have q3:=Xx o3
 have lt3:=dSS.lt o3
 have lc3:=c3.1
 have b0:=Qa b0 c3 (by simp)
 have bR:=Qa bR c3 (by simp)
 have cH:=cH.trans c3
 have z4:=Dt.chg0 (T:=dIntS) z4 c3
 have z5:=Dt.chg0 (T:=dIntS) z5 c3
 have z6:=Dt.chg0 (T:=dSS) z6 c3
 have z7:=Dt.chg0 (T:=dSS) z7 c3
 have o1:=Dt.chg0 (T:=dMesh) o1 c3
 have o2:=Dt.chg0 (T:=dClasses) o2 c3
 try simp [-Qe,show dSS.val n3 buf=n3.1 from rfl,VM.look,b0,ones]
 obtain ⟨n4,L4,hap4,o4,m4⟩:=Z6 (frz:=H.length) u6 own z4.1.rd z4.2
 have c4:Chg G3 (G3++L4) []:=Chg.app _
 have d4:=Q8 n4
 have q4:=W6 o4
 simp [-Qe,hap4,VM.look]
 generalize G3++L4=G4 at *
 have lt4:=dIntS.lt o4
 have lc4:=c4.1
 have b0:=Qa b0 c4 (by simp)
 have bR:=Qa bR c4 (by simp)
 have cH:=cH.trans c4
 have z5:=Dt.chg0 (T:=dIntS) z5 c4
 have z6:=Dt.chg0 (T:=dSS) z6 c4
 have z7:=Dt.chg0 (T:=dSS) z7 c4
 have o1:=Dt.chg0 (T:=dMesh) o1 c4
 have o2:=Dt.chg0 (T:=dClasses) o2 c4
 have o3:=Dt.chg0 (T:=dSS) o3 c4
 try simp [-Qe,VM.look,b0,ones]
 obtain ⟨n5,L5,hap5,o5,m5⟩:=Z6 (frz:=H.length) u7 turn z5.1.rd z5.2
 have c5:Chg G4 (G4++L5) []:=Chg.app _
 have d5:=Q8 n5
 have q5:=W6 o5
 simp [-Qe,hap5,VM.look]
 generalize G4++L5=G5 at *
 have lt5:=dIntS.lt o5
 have lc5:=c5.1
 have b0:=Qa b0 c5 (by simp)
 have bR:=Qa bR c5 (by simp)
 have cH:=cH.trans c5
 have z6:=Dt.chg0 (T:=dSS) z6 c5
 have z7:=Dt.chg0 (T:=dSS) z7 c5
 have o1:=Dt.chg0 (T:=dMesh) o1 c5
 have o2:=Dt.chg0 (T:=dClasses) o2 c5
 have o3:=Dt.chg0 (T:=dSS) o3 c5
 have o4:=Dt.chg0 (T:=dIntS) o4 c5
 try simp [-Qe,VM.look,b0,ones]
 refine Qf (Uk u8 h8 src z6.1.rd z6.2.1 z6.2.2) ?_
 rintro _ G6 ⟨n6,rfl,o6,c6,m6,d6⟩
 have q6:=Xx o6
 have lt6:=dSS.lt o6
 have lc6:=c6.1
 have b0:=Qa b0 c6 (by simp)
 have bR:=Qa bR c6 (by simp)
 have cH:=cH.trans c6
 have z7:=Dt.chg0 (T:=dSS) z7 c6
 have o1:=Dt.chg0 (T:=dMesh) o1 c6
 have o2:=Dt.chg0 (T:=dClasses) o2 c6
 have o3:=Dt.chg0 (T:=dSS) o3 c6
 have o4:=Dt.chg0 (T:=dIntS) o4 c6
 have o5:=Dt.chg0 (T:=dIntS) o5 c6
 try simp [-Qe,show dSS.val n6 src=n6.1 from rfl,VM.look,b0,ones]
 refine Qf (Uk u9 h9 arr z7.1.rd z7.2.1 z7.2.2) ?_
 rintro _ G7 ⟨n7,rfl,o7,c7,m7,d7⟩
 have q7:=Xx o7
 have lt7:=dSS.lt o7
 have lc7:=c7.1
 have b0:=Qa b0 c7 (by simp)
 have bR:=Qa bR c7 (by simp)
 have cH:=cH.trans c7
 have o1:=Dt.chg0 (T:=dMesh) o1 c7
 have o2:=Dt.chg0 (T:=dClasses) o2 c7
 have o3:=Dt.chg0 (T:=dSS) o3 c7
 have o4:=Dt.chg0 (T:=dIntS) o4 c7
 have o5:=Dt.chg0 (T:=dIntS) o5 c7
 have o6:=Dt.chg0 (T:=dSS) o6 c7
 have gR:=Qn (r':=⟨[.int .i64 w,.int .i64 h,n1,n2.1,n2.2,n3.1,n4,n5,n6.1,n7.1,.int .i64 tm],0,57⟩) bR
 have eR:Chg G7 (G7.set (H.length+1) ⟨[.int .i64 w,.int .i64 h,n1,n2.1,n2.2,n3.1,n4,n5,n6.1,n7.1,.int .i64 tm],0,57⟩) [H.length+1]:=Qj _ _
 have o1:=Dt.chg (T:=dMesh) o1 eR (fun i hi hh=>by have:=m1 i hi;simp at hh;omega)
 have o2:=Dt.chg (T:=dClasses) o2 eR (fun i hi hh=>by have:=m2 i hi;simp at hh;omega)
 have o3:=Dt.chg (T:=dSS) o3 eR (fun i hi hh=>by have:=m3 i hi;simp at hh;omega)
 have o4:=Dt.chg (T:=dIntS) o4 eR (fun i hi hh=>by have:=m4 i hi;simp at hh;omega)
 have o5:=Dt.chg (T:=dIntS) o5 eR (fun i hi hh=>by have:=m5 i hi;simp at hh;omega)
 have o6:=Dt.chg (T:=dSS) o6 eR (fun i hi hh=>by have:=m6 i hi;simp at hh;omega)
 have o7:=Dt.chg (T:=dSS) o7 eR (fun i hi hh=>by have:=m7 i hi;simp at hh;omega)
 have cH:=cH.trans' eR (fun i hi=>.inr (by simp at hi;omega))
 simp [show dSS.val n7 arr=n7.1 from rfl,VM.look,b0,bR,gR,hF,q1,q2,q3,q4,q5,q6,q7]
 refine ⟨(n1,n2,n3,n4,n5,n6,n7,()),rfl,⟨o1,o2,o3,o4,o5,o6,o7,trivial⟩,cH,fun i hi=>?_,?_⟩
 ·rcases List.mem_append.1 hi with hi|hi
  ·have:=m1 i hi;omega
  rcases List.mem_append.1 hi with hi|hi
  ·have:=m2 i hi;omega
  rcases List.mem_append.1 hi with hi|hi
  ·have:=m3 i hi;omega
  rcases List.mem_append.1 hi with hi|hi
  ·have:=m4 i hi;omega
  rcases List.mem_append.1 hi with hi|hi
  ·have:=m5 i hi;omega
  rcases List.mem_append.1 hi with hi|hi
  ·have:=m6 i hi;omega
  rcases List.mem_append.1 hi with hi|hi
  ·have:=m7 i hi;omega
  ·simp [dNone] at hi
 ·have z7:(dSS.ids n7++[]).Nodup∧∀i∈dSS.ids n7++[],G6.length≤i:=⟨by simpa using d7,fun i hi=>by simp at hi;have:=m7 i hi;omega⟩
  have z6:(dSS.ids n6++(dSS.ids n7++[])).Nodup∧∀i∈dSS.ids n6++(dSS.ids n7++[]),G5.length≤i:=⟨Ww d6 z7.1 lt6 z7.2,fun i hi=>by rcases List.mem_append.1 hi with hi|hi;(have:=m6 i hi;omega);(have:=z7.2 i hi;omega)⟩
  have z5:(dIntS.ids n5++(dSS.ids n6++(dSS.ids n7++[]))).Nodup∧∀i∈dIntS.ids n5++(dSS.ids n6++(dSS.ids n7++[])),G4.length≤i:=⟨Ww d5 z6.1 lt5 z6.2,fun i hi=>by rcases List.mem_append.1 hi with hi|hi;(have:=m5 i hi;omega);(have:=z6.2 i hi;omega)⟩
  have z4:(dIntS.ids n4++(dIntS.ids n5++(dSS.ids n6++(dSS.ids n7++[])))).Nodup∧∀i∈dIntS.ids n4++(dIntS.ids n5++(dSS.ids n6++(dSS.ids n7++[]))),G3.length≤i:=⟨Ww d4 z5.1 lt4 z5.2,fun i hi=>by rcases List.mem_append.1 hi with hi|hi;(have:=m4 i hi;omega);(have:=z5.2 i hi;omega)⟩
  have z3:(dSS.ids n3++(dIntS.ids n4++(dIntS.ids n5++(dSS.ids n6++(dSS.ids n7++[]))))).Nodup∧∀i∈dSS.ids n3++(dIntS.ids n4++(dIntS.ids n5++(dSS.ids n6++(dSS.ids n7++[])))),G2.length≤i:=⟨Ww d3 z4.1 lt3 z4.2,fun i hi=>by rcases List.mem_append.1 hi with hi|hi;(have:=m3 i hi;omega);(have:=z4.2 i hi;omega)⟩
  have z2:(dClasses.ids n2++(dSS.ids n3++(dIntS.ids n4++(dIntS.ids n5++(dSS.ids n6++(dSS.ids n7++[])))))).Nodup∧∀i∈dClasses.ids n2++(dSS.ids n3++(dIntS.ids n4++(dIntS.ids n5++(dSS.ids n6++(dSS.ids n7++[]))))),G1.length≤i:=⟨Ww d2 z3.1 lt2 z3.2,fun i hi=>by rcases List.mem_append.1 hi with hi|hi;(have:=m2 i hi;omega);(have:=z3.2 i hi;omega)⟩
  exact Ww d1 z2.1 lt1 z2.2
def flits (a:SSD):Nat:=ahead a a.length
def idle (x:NetD):Prop:=flits x.2.2.1=0∧flits x.2.2.2.2.2.1=0
instance (x:NetD):Decidable (idle x):=inferInstanceAs (Decidable (_∧_))
def idleOk (x:NetD):Prop:=netOk x∧idle x
instance (x:NetD):Decidable (idleOk x):=inferInstanceAs (Decidable (_∧_))
theorem P4 {v:SSV} {a:SSD} (h:dSS.Ow H v a):vcall C frz 95 [v.1] H=some (.int .i64 (flits a),H):=by
 refine wp.exact (by simp) ?_ rfl
 rw [Qb (fn:=Tryz.f95) Tryz.func95 rfl (by kernel_rfl) rfl]
 obtain ⟨ho,h1,h2⟩:=h
 have rd:=ho.rd
 have ll:=rd.1.len (P:=Tryz.prog) (ty:=55) (by simp)
 have el:=rd.2.1
 rw [el] at ll
 simp [ll]
 refine Qk (fun m t H'=>∃i:Nat,m=a.length-i∧i≤a.length∧t 3=.int .i64 (ahead a i)∧t 6=v.1∧t 7=.int .i64 a.length∧t 8=.int .i64 i∧H'=H) ?_ (n:=a.length) ⟨0,rfl,by omega,by simp [ahead],by simp,by simp,by simp,rfl⟩
 rintro m t H' ⟨i,rfl,hi,t3,t6,t7,t8,rfl⟩ ih
 simp [t3,t6,t7,t8]
 refine Qh ?_ ?_<;>intro g
 ·have hi':i<a.length:=by omega
  obtain ⟨u,_,a2,a3,a4⟩:=Q5 rd (ty:=55) (e:=100) (by simp) (by simp) hi'
  have lu:=a4.len (P:=Tryz.prog) (ty:=100) (by simp)
  have al:=Rx a h2 i (by omega)
  have asx:=Um a hi'
  have hm:=h2 _ (List.getElem_mem hi')
  have hg:a.getD i []=a[i]:=by simp [List.getD_eq_getElem?_getD,hi']
  rw [hg] at asx
  have w1:∀[Inhabited Unit],IntKind.i64.wrap ((ahead a i:Int)+(a[i].length:Int))=((ahead a (i+1):Nat):Int):=by intro _;rw [w64 (by omega) (by omega),asx];omega
  simp [t3,t6,t7,t8,a2,a3,lu,w1]
  refine ih (a.length-(i+1)) _ _ ⟨i+1,rfl,by omega,by simp,by simp [t6],by simp [t7],?_,rfl⟩ (by omega)
  simp;rw [w64 (by omega) (by omega)]
 ·have:i=a.length:=by omega
  subst this
  simp [t3,t6,t7,t8,flits]
theorem Eg {id:Nat} {w h tm:Int} {u2 u3 u4 u6 u7 u9:Value} {v5 v8:SSV} {buf src:SSD} (hr:H[id]? = some ⟨[.int .i64 w,.int .i64 h,u2,u3,u4,v5.1,u6,u7,v8.1,u9,.int .i64 tm],0,57⟩)
 (h5:dSS.Ow H v5 buf) (h8:dSS.Ow H v8 src):vcall C frz 63 [.pointer (some ⟨id,0,some 0⟩)] H=some (.bool (decide (flits buf=0∧flits src=0)),H):=by
 rw [Qb (fn:=Tryz.f63) Tryz.func63 rfl (by kernel_rfl) rfl]
 have e1:=fun F=>P4 (frz:=F) h5
 have e2:=fun F=>P4 (frz:=F) h8
 by_cases g:flits buf=0
 ·simp [VM.vnil,VM.look,hr,e1,e2,g]
 ·simp [VM.vnil,VM.look,hr,e1,e2,g]
theorem Lb {v:SSV} {a:SSD} (h:dSS.Ow H v a):vcall C frz 80 [v.1] H=some (.int .i64 (flits a),H):=by
 refine wp.exact (by simp) ?_ rfl
 rw [Qb (fn:=Tryz.f80) Tryz.func80 rfl (by kernel_rfl) rfl]
 obtain ⟨ho,h1,h2⟩:=h
 have rd:=ho.rd
 have ll:=rd.1.len (P:=Tryz.prog) (ty:=55) (by simp)
 have el:=rd.2.1
 rw [el] at ll
 simp
 refine Qk (fun m t H'=>∃i:Nat,m=a.length-i∧i≤a.length∧t 0=v.1∧t 3=.int .i64 (ahead a i)∧t 4=.int .i64 i∧H'=H) ?_ (n:=a.length) ⟨0,rfl,by omega,by simp,by simp [ahead],by simp,rfl⟩
 rintro m t H' ⟨i,rfl,hi,t0,t3,t4,rfl⟩ ih
 simp [t0,t3,t4,ll]
 refine Qh ?_ ?_<;>intro g
 ·have hi':i<a.length:=by omega
  obtain ⟨u,_,a2,a3,a4⟩:=Q5 rd (ty:=55) (e:=100) (by simp) (by simp) hi'
  have lu:=a4.len (P:=Tryz.prog) (ty:=100) (by simp)
  have al:=Rx a h2 i (by omega)
  have asx:=Um a hi'
  have hm:=h2 _ (List.getElem_mem hi')
  have hg:a.getD i []=a[i]:=by simp [List.getD_eq_getElem?_getD,hi']
  rw [hg] at asx
  have w1:∀[Inhabited Unit],IntKind.i64.wrap ((ahead a i:Int)+(a[i].length:Int))=((ahead a (i+1):Nat):Int):=by intro _;rw [w64 (by omega) (by omega),asx];omega
  simp [t0,t3,t4,a2,a3,lu,w1]
  refine ih (a.length-(i+1)) _ _ ⟨i+1,rfl,by omega,by simp [t0],by simp,?_,rfl⟩ (by omega)
  simp;rw [w64 (by omega) (by omega)]
 ·have:i=a.length:=by omega
  subst this
  simp [t0,t3,t4,flits]
theorem Od {v:NetV} {x:NetD} (o:dNet.Ow H v x):vcall C frz 44 [dNet.val v x] H=some (.bool (decide (idle x)),H):=by
 have ones:=Qd o
 obtain ⟨o2,o3,o5,o6,o7,o8,o9,_⟩:=o
 rw [Qc]
 rw [Qb (fn:=Tryz.f44) Tryz.func44 rfl (by kernel_rfl) rfl]
 have e1:=fun F L=>Lb (frz:=F) (H:=H++L) (Dt.app o5)
 have e2:=fun F L=>Lb (frz:=F) (H:=H++L) (Dt.app o8)
 have hi:idle x↔flits x.2.2.1=0∧flits x.2.2.2.2.2.1=0:=Iff.rfl
 by_cases g:flits x.2.2.1=0
 ·simp [ones,e1,e2,g,hi]
 ·simp [ones,e1,e2,g,hi]
end Go.Proofs.YtjgochodhiekeaaGreat.V
set_option linter.all false
namespace Go.Proofs.YtjgochodhiekeaaGreat.V
open Go Go.VM Go.Proofs
set_option maxRecDepth 10000
theorem Vt {α β:Type} {f:α→β} {l:List α} (nd:(l.map f).Nodup) {i:Nat} (h:i<l.length):f l[i]∉(l.take i).map f:=fun hh=>by
 have e:(l.take i).map f++(l.drop i).map f=l.map f:=by rw [← List.map_append,List.take_append_drop]
 rw [← e] at nd
 have hm:f l[i]∈(l.drop i).map f:=List.mem_map_of_mem (by rw [List.drop_eq_getElem_cons h];exact List.mem_cons_self ..)
 exact (List.nodup_append.1 nd).2.2 _ hh _ hm rfl
theorem Iq:∀(l:List GrD) (s:SSD) (j:Nat),j∉l.map frm→(l.foldl popS s).getD j []=s.getD j []
 | [],s,j,_=>rfl
 | g::l,s,j,h=>by
  rw [List.foldl_cons,Iq l _ j (fun hh=>h (List.mem_cons_of_mem _ hh)),popS,Qs]
  exact fun e=>h (e▸List.mem_cons_self ..)
theorem Nr:∀(l:List Nat) (s:SSD) (j:Nat),j∉l→(l.foldl srcS s).getD j []=s.getD j []
 | [],s,j,_=>rfl
 | g::l,s,j,h=>by
  rw [List.foldl_cons,Nr l _ j (fun hh=>h (List.mem_cons_of_mem _ hh)),srcS,Qs]
  exact fun e=>h (e▸List.mem_cons_self ..)
theorem Cn {x:NetD} {s:SSD} {g:GrD} {j:Nat} (h:s.getD j []≠[]):(pushS x s g).getD j []≠[]:=by
 unfold pushS
 split
 ·exact h
 ·by_cases e:tgt x g.1 g.2.1 (g.2.2%2)=j
  ·by_cases hl:j<s.length
   ·rw [← e] at hl ⊢;rw [Q9 _ hl];simp
   ·simp [List.getD_eq_getElem?_getD,List.getElem?_eq_none (Nat.le_of_not_lt hl)] at h
  ·rw [Qs _ e];exact h
theorem Ik (x:NetD):∀(l:List GrD) (s:SSD) (j:Nat),j∉l.map frm→s.getD j []≠[]→(l.foldl (bothS x) s).getD j []≠[]
 | [],s,j,_,h=>h
 | g::l,s,j,h,hs=>by
  rw [List.foldl_cons]
  refine Ik x l _ j (fun hh=>h (List.mem_cons_of_mem _ hh)) ?_
  refine Cn ?_
  rw [popS,Qs]
  ·exact hs
  ·exact fun e=>h (e▸List.mem_cons_self ..)
theorem Yb {x:NetD} (h:netOk x):runOk x:=by
 obtain ⟨h1,h2,h3,h4,h5,h6,h7⟩:=h
 refine ⟨h1,h2,fun j f hf=>?_,fun j f hf=>?_,h6⟩
 ·by_cases hl:j<x.2.2.1.length
  ·obtain ⟨_,k2,k3⟩:=h3 j hl
   exact ⟨k2 f hf,k3 f hf⟩
  ·simp [List.getD_eq_getElem?_getD,List.getElem?_eq_none (Nat.le_of_not_lt hl)] at hf
 ·by_cases hl:j<x.2.2.2.2.2.1.length
  ·exact (h4 _ (Zr hl)).2 f hf
  ·simp [List.getD_eq_getElem?_getD,List.getElem?_eq_none (Nat.le_of_not_lt hl)] at hf
theorem D3 {w h:Int} {b T:List Int} (k:tableOk w h b T) {a c:Int} (ha:isN w h a) (hc:isN w h c):inR 0 (portOf w h T a c) 4:=by
 obtain ⟨h1,h2⟩:=k
 have ha':=ha
 have hc':=hc
 obtain ⟨a1,a2⟩:=ha'
 obtain ⟨c1,c2⟩:=hc'
 have e1:((a.toNat:Nat):Int)=a:=by omega
 have e2:((c.toNat:Nat):Int)=c:=by omega
 obtain ⟨g1,g2⟩:=h2 a.toNat (by omega) c.toNat (by omega)
 rw [e1] at g1 g2
 rw [e2] at g2
 by_cases e:a=c
 ·subst e;rw [g1 rfl];exact ⟨by omega,by omega⟩
 ·have hw:=g2 (fun hh=>e (by omega))
  by_cases so:stepOk w h b T a c
  ·exact ⟨so.1.1,by have:=so.1.2;omega⟩
  ·exfalso
   apply hw
   obtain ⟨f,hf⟩:∃f,(cnt w h).toNat=f+1:=⟨(cnt w h).toNat-1,by omega⟩
   unfold walk
   rw [hf]
   simp only [walkN]
   rw [if_neg so]
   split
   ·first|rfl|rw [if_neg e]
   ·rfl
def older (x:NetD) (k:Int):NetD:=(x.1,x.2.1,x.2.2.1,x.2.2.2.1,x.2.2.2.2.1,x.2.2.2.2.2.1,x.2.2.2.2.2.2.1,x.2.2.2.2.2.2.2+k)
theorem Xh {s:SSD} (h:flits s=0) (j:Nat):s.getD j []=[]:=by
 by_cases hl:j<s.length
 ·have:=K8 s _ (Zr hl)
  unfold flits ahead at h
  rw [List.take_length] at h
  exact List.length_eq_zero_iff.1 (by omega)
 ·simp [List.getD_eq_getElem?_getD,List.getElem?_eq_none (Nat.le_of_not_lt hl)]
theorem Gh {x:NetD} (h:idle x):stepN x=older x 1:=by
 have e1:allN x=[]:=List.eq_nil_iff_forall_not_mem.2 fun g hg=>Yh (W3 hg).2.2.2 (Xh h.1 _)
 have e2:enterN x=[]:=List.eq_nil_iff_forall_not_mem.2 fun k hk=>(Wm hk).2.1 (Xh h.2 _)
 unfold stepN
 rw [e1,e2]
 rfl
noncomputable def runN (x:NetD):Nat→NetD
 | 0=>x
 | k+1=>stepN (runN x k)
theorem N4 {x:NetD} (h:idle x):∀k,runN x k=older x k
 | 0=>by show x=older x (0:Nat);simp [older]
 | k+1=>by
  show stepN (runN x k)=_
  rw [N4 h k,Gh (x:=older x k) h]
  show (x.1,x.2.1,x.2.2.1,x.2.2.2.1,x.2.2.2.2.1,x.2.2.2.2.2.1,x.2.2.2.2.2.2.1,x.2.2.2.2.2.2.2+(k:Int)+1)=(x.1,x.2.1,x.2.2.1,x.2.2.2.1,x.2.2.2.2.1,x.2.2.2.2.2.1,x.2.2.2.2.2.2.1,x.2.2.2.2.2.2.2+((k+1:Nat):Int))
  rw [show x.2.2.2.2.2.2.2+(k:Int)+1=x.2.2.2.2.2.2.2+((k+1:Nat):Int) by omega]
theorem O3 (x:NetD) (i:Nat):∀k,runN x (i+k)=runN (runN x i) k
 | 0=>rfl
 | k+1=>by show stepN (runN x (i+k))=stepN (runN (runN x i) k);rw [O3 x i k]
theorem Ek {x:NetD} (h:runOk x):∀k,runOk (runN x k)
 | 0=>h
 | k+1=>R2 (Ek h k)
theorem My {x:NetD} {L:Nat} (h1:allL L x.2.2.1) (h2:allL L x.2.2.2.2.2.2.1):∀k,allL (L+96*k) (runN x k).2.2.1∧allL (L+96*k) (runN x k).2.2.2.2.2.2.1
 | 0=>⟨h1,h2⟩
 | k+1=>by
  obtain ⟨a,b⟩:=My h1 h2 k
  exact Fh (x:=runN x k) a b
theorem Rn (x:NetD):∀k:Nat,(runN x k).2.2.2.2.2.2.2=x.2.2.2.2.2.2.2+(k:Int)
 | 0=>by simp [runN]
 | k+1=>by
  show (runN x k).2.2.2.2.2.2.2+1=_
  rw [Rn x k];omega
end Go.Proofs.YtjgochodhiekeaaGreat.V
set_option linter.all false
namespace Go.Proofs.YtjgochodhiekeaaGreat.V
open Go Go.VM
set_option maxRecDepth 100000
def geoB:Bool:=(List.range 5).all fun w=>(List.range 5).all fun h=>(List.range 16).all fun a=>(List.range 4).all fun p=>
 decide (next (w:Int) h a p<0) || (decide (next w h (next w h a p) (opp p)=a)&&(decide (0≤opp p)&&(decide (opp p<4)&&(decide (next (w:Int) h a p≠a)&&decide (opp (opp p)=p)))))
theorem Dy:geoB=true:=by decide +kernel
theorem geo {w h a:Int} {p:Nat} (hp:p<4) (ha:isN w h a) (hu:0≤next w h a p):next w h (next w h a p) (opp p)=a∧0≤opp p∧opp p<4∧next w h a p≠a∧opp (opp p)=p:=by
 obtain ⟨⟨⟨a1,a2⟩,b1,b2⟩,c1,c2,c3⟩:=Sp ha
 have h0:=Dy
 unfold geoB at h0
 rw [List.all_eq_true] at h0
 have h1:=h0 w.toNat (by simp;omega)
 rw [List.all_eq_true] at h1
 have h2:=h1 h.toNat (by simp;omega)
 rw [List.all_eq_true] at h2
 have h3:=h2 a.toNat (by simp;omega)
 rw [List.all_eq_true] at h3
 have h4:=h3 p (by simp;omega)
 have e1:(w.toNat:Int)=w:=by omega
 have e2:(h.toNat:Int)=h:=by omega
 have e3:(a.toNat:Int)=a:=by omega
 rw [e1,e2,e3] at h4
 simp only [Bool.or_eq_true,Bool.and_eq_true,decide_eq_true_eq] at h4
 rcases h4 with h4|h4
 ·omega
 ·exact h4
structure VOut (w h:Int) (b:List Int) (a d:Int) (l:List Nat) (x y:List Int×List Int):Prop where
 keep:∀v,0≤v→0≤rd x.1 v→rd y.1 v=rd x.1 v
 new:∀v,isN w h v→rd x.1 v<0→0≤rd y.1 v→rd y.1 v=d∧v∈y.2∧∃p:Nat,p<4∧link w h b (4*a+p)∧next w h a p=v
 all:∀p∈l,link w h b (4*a+(p:Nat))→0≤rd y.1 (next w h a p)
 pre:∀v∈x.2,v∈y.2
 len:y.1.length=x.1.length
structure Inv2 (w h:Int) (b:List Int) (root:Int) (s rest nx:List Int):Prop where
 cl:∀v,isN w h v→0≤rd s v→v∉rest→v∉nx→∀p:Nat,p<4→link w h b (4*v+p)→0≤rd s (next w h v p)
 pre:∀v,isN w h v→0<rd s v→∃u,isN w h u∧rd s u=rd s v-1∧∃q:Nat,q<4∧link w h b (4*u+q)∧next w h u q=v
 zero:rd s root=0∧∀v,isN w h v→rd s v=0→v=root
section
variable {w h r:Int} {b:List Int} (hc:conn w h b) (hr:isN w h r)
include hc hr
end
end Go.Proofs.YtjgochodhiekeaaGreat.V
set_option linter.all false
namespace Go.Proofs.YtjgochodhiekeaaGreat.V
open Go Go.VM Go.Proofs
set_option maxRecDepth 10000
def key (g:GrD):Nat×Nat:=(g.1,g.2.1)
theorem Oi (x:NetD) (a:Nat):∀p,p≤5→((grTo x a p).1.map key).Nodup
 | 0,_=>by simp [grTo]
 | p+1,hp=>by
  have ih:=Oi x a p (by omega)
  obtain ⟨_,h2,_,_⟩:=Y6 x a p (by omega)
  rw [Xi]
  unfold grStep
  generalize grTo x a p=st at *
  split
  ·rw [List.map_append]
   refine List.nodup_append.2 ⟨ih,by simp,fun y hy z hz e=>?_⟩
   obtain ⟨g,hg,rfl⟩:=List.mem_map.1 hy
   simp at hz
   have:=(h2 g hg).2.1
   rw [hz] at e
   unfold key at e
   simp only [Prod.mk.injEq] at e
   omega
  ·exact ih
theorem Ut (x:NetD):∀n,((allTo x n).map key).Nodup
 | 0=>by simp [allTo]
 | n+1=>by
  rw [Za,List.map_append]
  refine List.nodup_append.2 ⟨Ut x n,Oi x n 5 (by omega),fun y hy z hz e=>?_⟩
  obtain ⟨g,hg,rfl⟩:=List.mem_map.1 hy
  obtain ⟨g',hg',rfl⟩:=List.mem_map.1 hz
  have h1:=((Yk x n).1 g hg).1
  have h2:=((Y6 x n 5 (by omega)).at' g' hg').1
  unfold key at e
  simp only [Prod.mk.injEq] at e
  omega
theorem Iy {x:NetD} {a p c a' p' c':Nat} (h:has x.1.1 x.1.2.1 x.1.2.2 (4*(a:Int)+p)) (h':has x.1.1 x.1.2.1 x.1.2.2 (4*(a':Int)+p')) (hp:p<4) (hp':p'<4) (hc:c<2) (hc':c'<2)
 (ha:(a:Int)<cnt x.1.1 x.1.2.1) (ha':(a':Int)<cnt x.1.1 x.1.2.1) (e:tgt x a p c=tgt x a' p' c'):a=a'∧p=p':=by
 obtain ⟨u1,_,_⟩:=Xn (c:=c) h hp hc
 obtain ⟨v1,_,_⟩:=Xn (c:=c') h' hp' hc'
 obtain ⟨⟨n1,n2⟩,o1,o2⟩:=Zi (c:=c) h hp
 obtain ⟨⟨m1,m2⟩,q1,q2⟩:=Zi (c:=c') h' hp'
 obtain ⟨g1,_,_,_,g5⟩:=geo (w:=x.1.1) (h:=x.1.2.1) (a:=a) hp ⟨by omega,ha⟩ n1
 obtain ⟨k1,_,_,_,k5⟩:=geo (w:=x.1.1) (h:=x.1.2.1) (a:=a') hp' ⟨by omega,ha'⟩ m1
 have e1:next x.1.1 x.1.2.1 a p=next x.1.1 x.1.2.1 a' p':=by omega
 have e2:opp (p:Int)=opp (p':Int):=by omega
 rw [e1,e2] at g1
 rw [e2] at g5
 constructor<;>omega
theorem Fo (x:NetD):(allN x).Pairwise fun g g'=>g.2.1≠4→g'.2.1≠4→tgt x g.1 g.2.1 (g.2.2%2)≠tgt x g'.1 g'.2.1 (g'.2.2%2):=by
 have hk:(allN x).Pairwise fun g g'=>key g≠key g':=by
  have:=Ut x (cnt x.1.1 x.1.2.1).toNat
  exact List.pairwise_map.1 this
 refine hk.imp_of_mem fun {g g'} hg hg' hne h4 h4' e=>hne ?_
 obtain ⟨a1,a2,a3,a4⟩:=W3 hg
 obtain ⟨b1,b2,b3,b4⟩:=W3 hg'
 obtain ⟨hh,_⟩:=a4.2.1.resolve_left h4
 obtain ⟨hh',_⟩:=b4.2.1.resolve_left h4'
 obtain ⟨e1,e2⟩:=Iy hh hh' (by omega) (by omega) (by omega) (by omega) a1 b1 e
 unfold key;rw [e1,e2]
def gets (x:NetD) (M:List GrD) (j:Nat):Prop:=∃g∈M,g.2.1≠4∧tgt x g.1 g.2.1 (g.2.2%2)=j
theorem Cl (x:NetD) (s:SSD) (g:GrD) (j:Nat):((pushS x s g).getD j []).length≤(s.getD j []).length+1∧(¬(g.2.1≠4∧tgt x g.1 g.2.1 (g.2.2%2)=j)→(pushS x s g).getD j []=s.getD j []):=by
 unfold pushS
 split
 ·exact ⟨by omega,fun _=>rfl⟩
 ·rename_i h4
  by_cases e:tgt x g.1 g.2.1 (g.2.2%2)=j
  ·refine ⟨?_,fun k=>absurd ⟨h4,e⟩ k⟩
   rw [← e]
   by_cases hl:tgt x g.1 g.2.1 (g.2.2%2)<s.length
   ·rw [Q9 _ hl];simp
   ·simp [upd,List.set_eq_of_length_le (Nat.le_of_not_lt hl)]
  ·rw [Qs _ e];exact ⟨by omega,fun _=>rfl⟩
theorem Sn (x:NetD):∀(M:List GrD) (s:SSD) (j:Nat),(M.Pairwise fun g g'=>g.2.1≠4→g'.2.1≠4→tgt x g.1 g.2.1 (g.2.2%2)≠tgt x g'.1 g'.2.1 (g'.2.2%2))→
 ((M.foldl (pushS x) s).getD j []).length≤(s.getD j []).length+1∧(¬gets x M j→(M.foldl (pushS x) s).getD j []=s.getD j [])
 | [],s,j,_=>⟨by simp,fun _=>rfl⟩
 | g::M,s,j,h=>by
  obtain ⟨h1,h2⟩:=List.pairwise_cons.1 h
  obtain ⟨i1,i2⟩:=Sn x M (pushS x s g) j h2
  obtain ⟨p1,p2⟩:=Cl x s g j
  rw [List.foldl_cons]
  by_cases hg:g.2.1≠4∧tgt x g.1 g.2.1 (g.2.2%2)=j
  ·have hn:¬gets x M j:=fun ⟨g',hg',k1,k2⟩=>h1 g' hg' hg.1 k1 (hg.2.trans k2.symm)
   rw [i2 hn]
   exact ⟨p1,fun k=>absurd ⟨g,List.mem_cons_self ..,hg⟩ k⟩
  ·rw [p2 hg] at i1 i2
   exact ⟨i1,fun k=>i2 fun ⟨g',hg',kk⟩=>k ⟨g',List.mem_cons_of_mem _ hg',kk⟩⟩
theorem Ig (x:NetD):∀(M:List GrD) (s:SSD) (j:Nat),((M.foldl popS s).getD j []).length≤(s.getD j []).length
 | [],s,j=>Nat.le_refl _
 | g::M,s,j=>by
  refine Nat.le_trans (Ig x M (popS s g) j) ?_
  unfold popS
  by_cases e:frm g=j
  ·rw [← e]
   by_cases hl:frm g<s.length
   ·rw [Q9 _ hl,List.length_drop];omega
   ·simp [upd,List.set_eq_of_length_le (Nat.le_of_not_lt hl)]
  ·rw [Qs _ e];exact Nat.le_refl _
theorem Mc (x:NetD):∀(E:List Nat) (s:SSD) (j:Nat),(E.Pairwise fun k k'=>entAt x k≠entAt x k')→
 ((E.foldl (entS x) s).getD j []).length≤(s.getD j []).length+1∧((¬∃k∈E,entAt x k=j)→(E.foldl (entS x) s).getD j []=s.getD j [])
 | [],s,j,_=>⟨by simp,fun _=>rfl⟩
 | k::E,s,j,h=>by
  obtain ⟨h1,h2⟩:=List.pairwise_cons.1 h
  obtain ⟨i1,i2⟩:=Mc x E (entS x s k) j h2
  rw [List.foldl_cons]
  by_cases hk:entAt x k=j
  ·have hn:¬∃k'∈E,entAt x k'=j:=fun ⟨k',hk',e⟩=>h1 k' hk' (hk.trans e.symm)
   rw [i2 hn]
   refine ⟨?_,fun h=>absurd ⟨k,List.mem_cons_self ..,hk⟩ h⟩
   unfold entS
   rw [← hk]
   by_cases hl:entAt x k<s.length
   ·rw [Q9 _ hl];simp
   ·simp [upd,List.set_eq_of_length_le (Nat.le_of_not_lt hl)]
  ·have e:(entS x s k).getD j []=s.getD j []:=by unfold entS;exact Qs _ hk
   rw [e] at i1 i2
   exact ⟨i1,fun h=>i2 fun ⟨k',hk',kk⟩=>h ⟨k',List.mem_cons_of_mem _ hk',kk⟩⟩
theorem Kj {x:NetD} (h:runOk x):(enterN x).Pairwise fun k k'=>entAt x k≠entAt x k':=by
 have:=X5 x
 refine List.Pairwise.imp_of_mem (fun {k k'} hk hk' hne e=>hne ?_) this
 obtain ⟨_,a1,_⟩:=Wm hk
 obtain ⟨_,b1,_⟩:=Wm hk'
 obtain ⟨⟨_,c1⟩,e1,_⟩:=Zl h a1
 obtain ⟨⟨_,c2⟩,e2,_⟩:=Zl h b1
 unfold inR at c1 c2
 omega
theorem Gq {x:NetD} (h:runOk x) (hb:∀j,(x.2.2.1.getD j []).length≤3) (j:Nat):((stepN x).2.2.1.getD j []).length≤3:=by
 show (((enterN x).foldl (entS x) ((allN x).foldl (pushS x) ((allN x).foldl popS x.2.2.1))).getD j []).length≤3
 obtain ⟨e1,e2⟩:=Mc x (enterN x) ((allN x).foldl (pushS x) ((allN x).foldl popS x.2.2.1)) j (Kj h)
 obtain ⟨p1,p2⟩:=Sn x (allN x) ((allN x).foldl popS x.2.2.1) j (Fo x)
 have q:=Ig x (allN x) x.2.2.1 j
 have b:=hb j
 by_cases hg:gets x (allN x) j
 ·obtain ⟨g,hg,h4,ht⟩:=hg
  obtain ⟨a1,a2,a3,a4⟩:=W3 hg
  obtain ⟨hh,hr⟩:=a4.2.1.resolve_left h4
  rw [ht] at hr
  obtain ⟨t1,t2,t3⟩:=Xn (c:=g.2.2%2) hh (by omega) (by omega)
  obtain ⟨⟨n1,n2⟩,o1,o2⟩:=Zi (c:=g.2.2%2) hh (by omega)
  rw [ht] at t1
  have hne:¬∃k∈enterN x,entAt x k=j:=fun ⟨k,hk,e⟩=>by
   obtain ⟨_,b1,_⟩:=Wm hk
   obtain ⟨⟨_,c1⟩,e3,_⟩:=Zl h b1
   unfold inR at c1
   omega
  rw [e2 hne];omega
 ·rw [p2 hg] at e1 e2
  by_cases hk:∃k∈enterN x,entAt x k=j
  ·obtain ⟨k,hk,e⟩:=hk
   have:=(Wm hk).2.2
   rw [e] at this
   omega
  ·rw [e2 hk];omega
theorem Kh {x:NetD} (h:netOk x) (ht:x.2.2.2.2.2.2.2<1000000):netOk (stepN x):=by
 have hr:=Yb h
 obtain ⟨r1,r2,r3,r4,r5⟩:=R2 hr
 obtain ⟨h1,h2,h3,h4,h5,h6,h7⟩:=h
 have hb:∀j,(x.2.2.1.getD j []).length≤3:=fun j=>by
  by_cases hl:j<x.2.2.1.length
  ·exact (h3 j hl).1
  ·simp [List.getD_eq_getElem?_getD,List.getElem?_eq_none (Nat.le_of_not_lt hl)]
 refine ⟨r1,r2,fun i hi=>⟨Gq hr hb i,fun f hf=>(r3 i f hf).1,fun f hf=>(r3 i f hf).2⟩,fun l hl=>⟨?_,fun f hf=>?_⟩,fun o ho=>?_,r5,?_⟩
 ·exact Gd (L:=60) (enterN x) x.2.2.2.2.2.1 (fun l hl=>(h4 l hl).1) l hl
 ·obtain ⟨i,hi,rfl⟩:=List.getElem_of_mem hl
  exact r4 i f (by rw [List.getD_eq_getElem?_getD,List.getElem?_eq_getElem hi];exact hf)
 ·refine Xf (fun s:List Int=>∀o∈s,inR (-1) o 4) (allN x) x.2.2.2.1 h5 (fun s g hg hs o ho=>?_) o ho
  rcases List.mem_or_eq_of_mem_set ho with ho|rfl
  ·exact hs o ho
  ·have:=(W3 hg).2.2.1
   unfold inR;split<;>omega
 ·unfold inR at h7 ⊢
  show 0≤x.2.2.2.2.2.2.2+1∧x.2.2.2.2.2.2.2+1≤1000000
  omega
def still (x:NetD):Prop:=allN x=[]∧enterN x=[]
theorem Jm {x:NetD} (h:still x):stepN x=older x 1:=by
 unfold stepN
 rw [h.1,h.2]
 rfl
theorem Pi {x:NetD} (h:still x):∀k,runN x k=older x k
 | 0=>by show x=older x (0:Nat);simp [older]
 | k+1=>by
  show stepN (runN x k)=_
  rw [Pi h k,Jm (x:=older x k) h]
  show (x.1,x.2.1,x.2.2.1,x.2.2.2.1,x.2.2.2.2.1,x.2.2.2.2.2.1,x.2.2.2.2.2.2.1,x.2.2.2.2.2.2.2+(k:Int)+1)=(x.1,x.2.1,x.2.2.1,x.2.2.2.1,x.2.2.2.2.1,x.2.2.2.2.2.1,x.2.2.2.2.2.2.1,x.2.2.2.2.2.2.2+((k+1:Nat):Int))
  rw [show x.2.2.2.2.2.2.2+(k:Int)+1=x.2.2.2.2.2.2.2+((k+1:Nat):Int) by omega]
theorem Jb {x:NetD} (h:still x) (k:Nat):idle (runN x k)↔idle x:=by rw [Pi h k];exact Iff.rfl
end Go.Proofs.YtjgochodhiekeaaGreat.V
