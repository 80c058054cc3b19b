/- Texts of a proof, joined. -/
import Derived.Test.YtmddnnecgnpccaaGreatProg
import Derived.KernelRfl
import Derived.Test.YtmddnnecgnpccaaGreatKM0
import Derived.Test.YtmddnnecgnpccaaGreatKM1
namespace Go.Proofs.YtmddnnecgnpccaaGreat.V
open Go Go.VM Go.Proofs
noncomputable def C:Ctx:={ P:=Tryz.prog,mode:=fun g=>if [12,14,21,22,24,26,28,31,47,69,89,105].contains g then 2 else if [6,7,8,11,13,15,16,17,23,25,27,29,34,38,44,45,46,49,50,51,53,54,55,56,57,58,59,63,71,73,74,75,79,81,82,83,94,95,98,100,101,102,104,106,117,118,120,123,130,138].contains g then 1 else 0,ext:=fun _=>none }
@[simp] theorem CP:C.P=Tryz.prog:=rfl
theorem drawn:DrawOk C:=N4 C (by kernel_rfl)
@[simp] theorem mode0:C.mode 0=0:=rfl
@[simp] theorem mode1:C.mode 1=0:=rfl
@[simp] theorem mode2:C.mode 2=0:=rfl
@[simp] theorem mode3:C.mode 3=0:=rfl
@[simp] theorem mode4:C.mode 4=0:=rfl
@[simp] theorem mode5:C.mode 5=0:=rfl
@[simp] theorem mode6:C.mode 6=1:=rfl
@[simp] theorem mode7:C.mode 7=1:=rfl
@[simp] theorem mode8:C.mode 8=1:=rfl
@[simp] theorem mode9:C.mode 9=0:=rfl
@[simp] theorem mode10:C.mode 10=0:=rfl
@[simp] theorem mode11:C.mode 11=1:=rfl
@[simp] theorem mode12:C.mode 12=2:=rfl
@[simp] theorem mode13:C.mode 13=1:=rfl
@[simp] theorem mode14:C.mode 14=2:=rfl
@[simp] theorem mode15:C.mode 15=1:=rfl
@[simp] theorem mode16:C.mode 16=1:=rfl
@[simp] theorem mode17:C.mode 17=1:=rfl
@[simp] theorem mode18:C.mode 18=0:=rfl
@[simp] theorem mode19:C.mode 19=0:=rfl
@[simp] theorem mode20:C.mode 20=0:=rfl
@[simp] theorem mode21:C.mode 21=2:=rfl
@[simp] theorem mode22:C.mode 22=2:=rfl
@[simp] theorem mode23:C.mode 23=1:=rfl
@[simp] theorem mode24:C.mode 24=2:=rfl
@[simp] theorem mode25:C.mode 25=1:=rfl
@[simp] theorem mode26:C.mode 26=2:=rfl
@[simp] theorem mode27:C.mode 27=1:=rfl
@[simp] theorem mode28:C.mode 28=2:=rfl
@[simp] theorem mode29:C.mode 29=1:=rfl
@[simp] theorem mode30:C.mode 30=0:=rfl
@[simp] theorem mode31:C.mode 31=2:=rfl
@[simp] theorem mode32:C.mode 32=0:=rfl
@[simp] theorem mode33:C.mode 33=0:=rfl
@[simp] theorem mode34:C.mode 34=1:=rfl
@[simp] theorem mode35:C.mode 35=0:=rfl
@[simp] theorem mode36:C.mode 36=0:=rfl
@[simp] theorem mode37:C.mode 37=0:=rfl
@[simp] theorem mode38:C.mode 38=1:=rfl
@[simp] theorem mode39:C.mode 39=0:=rfl
@[simp] theorem mode40:C.mode 40=0:=rfl
@[simp] theorem mode41:C.mode 41=0:=rfl
@[simp] theorem mode42:C.mode 42=0:=rfl
@[simp] theorem mode43:C.mode 43=0:=rfl
@[simp] theorem mode44:C.mode 44=1:=rfl
@[simp] theorem mode45:C.mode 45=1:=rfl
@[simp] theorem mode46:C.mode 46=1:=rfl
@[simp] theorem mode47:C.mode 47=2:=rfl
@[simp] theorem mode48:C.mode 48=0:=rfl
@[simp] theorem mode49:C.mode 49=1:=rfl
@[simp] theorem mode50:C.mode 50=1:=rfl
@[simp] theorem mode51:C.mode 51=1:=rfl
@[simp] theorem mode52:C.mode 52=0:=rfl
@[simp] theorem mode53:C.mode 53=1:=rfl
@[simp] theorem mode54:C.mode 54=1:=rfl
@[simp] theorem mode55:C.mode 55=1:=rfl
@[simp] theorem mode56:C.mode 56=1:=rfl
@[simp] theorem mode57:C.mode 57=1:=rfl
@[simp] theorem mode58:C.mode 58=1:=rfl
@[simp] theorem mode59:C.mode 59=1:=rfl
@[simp] theorem mode60:C.mode 60=0:=rfl
@[simp] theorem mode61:C.mode 61=0:=rfl
@[simp] theorem mode62:C.mode 62=0:=rfl
@[simp] theorem mode63:C.mode 63=1:=rfl
@[simp] theorem mode64:C.mode 64=0:=rfl
@[simp] theorem mode65:C.mode 65=0:=rfl
@[simp] theorem mode66:C.mode 66=0:=rfl
@[simp] theorem mode67:C.mode 67=0:=rfl
@[simp] theorem mode68:C.mode 68=0:=rfl
@[simp] theorem mode69:C.mode 69=2:=rfl
@[simp] theorem mode70:C.mode 70=0:=rfl
@[simp] theorem mode71:C.mode 71=1:=rfl
@[simp] theorem mode72:C.mode 72=0:=rfl
@[simp] theorem mode73:C.mode 73=1:=rfl
@[simp] theorem mode74:C.mode 74=1:=rfl
@[simp] theorem mode75:C.mode 75=1:=rfl
@[simp] theorem mode76:C.mode 76=0:=rfl
@[simp] theorem mode77:C.mode 77=0:=rfl
@[simp] theorem mode78:C.mode 78=0:=rfl
@[simp] theorem mode79:C.mode 79=1:=rfl
@[simp] theorem mode80:C.mode 80=0:=rfl
@[simp] theorem mode81:C.mode 81=1:=rfl
@[simp] theorem mode82:C.mode 82=1:=rfl
@[simp] theorem mode83:C.mode 83=1:=rfl
@[simp] theorem mode84:C.mode 84=0:=rfl
@[simp] theorem mode85:C.mode 85=0:=rfl
@[simp] theorem mode86:C.mode 86=0:=rfl
@[simp] theorem mode87:C.mode 87=0:=rfl
@[simp] theorem mode88:C.mode 88=0:=rfl
@[simp] theorem mode89:C.mode 89=2:=rfl
@[simp] theorem mode90:C.mode 90=0:=rfl
@[simp] theorem mode91:C.mode 91=0:=rfl
@[simp] theorem mode92:C.mode 92=0:=rfl
@[simp] theorem mode93:C.mode 93=0:=rfl
@[simp] theorem mode94:C.mode 94=1:=rfl
@[simp] theorem mode95:C.mode 95=1:=rfl
@[simp] theorem mode96:C.mode 96=0:=rfl
@[simp] theorem mode97:C.mode 97=0:=rfl
@[simp] theorem mode98:C.mode 98=1:=rfl
@[simp] theorem mode99:C.mode 99=0:=rfl
@[simp] theorem mode100:C.mode 100=1:=rfl
@[simp] theorem mode101:C.mode 101=1:=rfl
@[simp] theorem mode102:C.mode 102=1:=rfl
@[simp] theorem mode103:C.mode 103=0:=rfl
@[simp] theorem mode104:C.mode 104=1:=rfl
@[simp] theorem mode105:C.mode 105=2:=rfl
@[simp] theorem mode106:C.mode 106=1:=rfl
@[simp] theorem mode107:C.mode 107=0:=rfl
@[simp] theorem mode108:C.mode 108=0:=rfl
@[simp] theorem mode109:C.mode 109=0:=rfl
@[simp] theorem mode110:C.mode 110=0:=rfl
@[simp] theorem mode111:C.mode 111=0:=rfl
@[simp] theorem mode112:C.mode 112=0:=rfl
@[simp] theorem mode113:C.mode 113=0:=rfl
@[simp] theorem mode114:C.mode 114=0:=rfl
@[simp] theorem mode115:C.mode 115=0:=rfl
@[simp] theorem mode116:C.mode 116=0:=rfl
@[simp] theorem mode117:C.mode 117=1:=rfl
@[simp] theorem mode118:C.mode 118=1:=rfl
@[simp] theorem mode119:C.mode 119=0:=rfl
@[simp] theorem mode120:C.mode 120=1:=rfl
@[simp] theorem mode121:C.mode 121=0:=rfl
@[simp] theorem mode122:C.mode 122=0:=rfl
@[simp] theorem mode123:C.mode 123=1:=rfl
@[simp] theorem mode124:C.mode 124=0:=rfl
@[simp] theorem mode125:C.mode 125=0:=rfl
@[simp] theorem mode126:C.mode 126=0:=rfl
@[simp] theorem mode127:C.mode 127=0:=rfl
@[simp] theorem mode128:C.mode 128=0:=rfl
@[simp] theorem mode129:C.mode 129=0:=rfl
@[simp] theorem mode130:C.mode 130=1:=rfl
@[simp] theorem mode131:C.mode 131=0:=rfl
@[simp] theorem mode132:C.mode 132=0:=rfl
@[simp] theorem mode133:C.mode 133=0:=rfl
@[simp] theorem mode134:C.mode 134=0:=rfl
@[simp] theorem mode135:C.mode 135=0:=rfl
@[simp] theorem mode136:C.mode 136=0:=rfl
@[simp] theorem mode137:C.mode 137=0:=rfl
@[simp] theorem mode138:C.mode 138=1:=rfl
@[simp] theorem mode139:C.mode 139=0:=rfl
@[simp] theorem mode140:C.mode 140=0:=rfl
@[simp] theorem mode141:C.mode 141=0:=rfl
@[simp] theorem mode142:C.mode 142=0:=rfl
@[simp] theorem mode143:C.mode 143=0:=rfl
@[simp] theorem mode144:C.mode 144=0:=rfl
@[simp] theorem mode145:C.mode 145=0:=rfl
@[simp] theorem mode146:C.mode 146=0:=rfl
@[simp] theorem mode147:C.mode 147=0:=rfl
@[simp] theorem mode148:C.mode 148=0:=rfl
@[simp] theorem mode149:C.mode 149=0:=rfl
@[simp] theorem mode150:C.mode 150=0:=rfl
@[simp] theorem mode151:C.mode 151=0:=rfl
@[simp] theorem mode152:C.mode 152=0:=rfl
@[simp] theorem mode153:C.mode 153=0:=rfl
@[simp] theorem mode154:C.mode 154=0:=rfl
@[simp] theorem mode155:C.mode 155=0:=rfl
@[simp] theorem mode156:C.mode 156=0:=rfl
@[simp] theorem tsz3:tsz Tryz.prog 3=some (false,1):=by kernel_rfl
@[simp] theorem tzero3:tzero Tryz.prog 3=some [.int .i64 0]:=by kernel_rfl
@[simp] theorem tsz4:tsz Tryz.prog 4=some (false,1):=by kernel_rfl
@[simp] theorem tzero4:tzero Tryz.prog 4=some [.bool false]:=by kernel_rfl
@[simp] theorem tsz5:tsz Tryz.prog 5=some (false,1):=by kernel_rfl
@[simp] theorem tsz22:tsz Tryz.prog 22=some (false,1):=by kernel_rfl
@[simp] theorem eltp22:eltp Tryz.prog 22=some (5,1):=by kernel_rfl
@[simp] theorem isSl22:isSl Tryz.prog 22=true:=by kernel_rfl
@[simp] theorem tsz25:tsz Tryz.prog 25=some (true,2):=by kernel_rfl
@[simp] theorem tzero25:tzero Tryz.prog 25=some [.int .i64 0,.int .i64 0]:=by kernel_rfl
@[simp] theorem xz:finfo Tryz.prog 25 0=some (0,false,1):=by kernel_rfl
@[simp] theorem ww:finfo Tryz.prog 25 1=some (1,false,1):=by kernel_rfl
@[simp] theorem bplaces25:bplaces Tryz.prog 25=some [(0,1),(1,1)]:=by kernel_rfl
@[simp] theorem tsz26:tsz Tryz.prog 26=some (false,1):=by kernel_rfl
@[simp] theorem eltp26:eltp Tryz.prog 26=some (3,1):=by kernel_rfl
@[simp] theorem isSl26:isSl Tryz.prog 26=true:=by kernel_rfl
@[simp] theorem tsz28:tsz Tryz.prog 28=some (true,3):=by kernel_rfl
@[simp] theorem tzero28:tzero Tryz.prog 28=some [.int .i64 0,.int .i64 0,.slice none 0 0]:=by kernel_rfl
@[simp] theorem ym:finfo Tryz.prog 28 0=some (0,true,2):=by kernel_rfl
@[simp] theorem xp:finfo Tryz.prog 28 1=some (2,false,1):=by kernel_rfl
@[simp] theorem bplaces28:bplaces Tryz.prog 28=some [(0,2),(2,1)]:=by kernel_rfl
@[simp] theorem tsz30:tsz Tryz.prog 30=some (true,1):=by kernel_rfl
@[simp] theorem tzero30:tzero Tryz.prog 30=some [.slice none 0 0]:=by kernel_rfl
@[simp] theorem yj:finfo Tryz.prog 30 0=some (0,false,1):=by kernel_rfl
@[simp] theorem bplaces30:bplaces Tryz.prog 30=some [(0,1)]:=by kernel_rfl
@[simp] theorem tsz32:tsz Tryz.prog 32=some (true,2):=by kernel_rfl
@[simp] theorem tzero32:tzero Tryz.prog 32=some [.slice none 0 0,.slice none 0 0]:=by kernel_rfl
@[simp] theorem yn:finfo Tryz.prog 32 0=some (0,true,1):=by kernel_rfl
@[simp] theorem xx:finfo Tryz.prog 32 1=some (1,true,1):=by kernel_rfl
@[simp] theorem bplaces32:bplaces Tryz.prog 32=some [(0,1),(1,1)]:=by kernel_rfl
@[simp] theorem tsz33:tsz Tryz.prog 33=some (false,1):=by kernel_rfl
@[simp] theorem eltp33:eltp Tryz.prog 33=some (75,1):=by kernel_rfl
@[simp] theorem isSl33:isSl Tryz.prog 33=true:=by kernel_rfl
@[simp] theorem tsz35:tsz Tryz.prog 35=some (true,11):=by kernel_rfl
@[simp] theorem tzero35:tzero Tryz.prog 35=some [.int .i64 0,.int .i64 0,.slice none 0 0,.slice none 0 0,.slice none 0 0,.slice none 0 0,.slice none 0 0,.slice none 0 0,.slice none 0 0,.slice none 0 0,.int .i64 0]:=by kernel_rfl
@[simp] theorem yi:finfo Tryz.prog 35 0=some (0,true,3):=by kernel_rfl
@[simp] theorem xy:finfo Tryz.prog 35 1=some (3,true,2):=by kernel_rfl
@[simp] theorem xm:finfo Tryz.prog 35 2=some (5,false,1):=by kernel_rfl
@[simp] theorem xw:finfo Tryz.prog 35 3=some (6,false,1):=by kernel_rfl
@[simp] theorem xd:finfo Tryz.prog 35 4=some (7,false,1):=by kernel_rfl
@[simp] theorem ya:finfo Tryz.prog 35 5=some (8,false,1):=by kernel_rfl
@[simp] theorem wq:finfo Tryz.prog 35 6=some (9,false,1):=by kernel_rfl
@[simp] theorem yd:finfo Tryz.prog 35 7=some (10,false,1):=by kernel_rfl
@[simp] theorem bplaces35:bplaces Tryz.prog 35=some [(0,3),(3,2),(5,1),(6,1),(7,1),(8,1),(9,1),(10,1)]:=by kernel_rfl
@[simp] theorem tsz36:tsz Tryz.prog 36=some (false,1):=by kernel_rfl
@[simp] theorem eltp36:eltp Tryz.prog 36=some (47,5):=by kernel_rfl
@[simp] theorem isSl36:isSl Tryz.prog 36=true:=by kernel_rfl
@[simp] theorem tsz38:tsz Tryz.prog 38=some (true,12):=by kernel_rfl
@[simp] theorem tzero38:tzero Tryz.prog 38=some [.int .i64 0,.int .i64 0,.slice none 0 0,.slice none 0 0,.slice none 0 0,.slice none 0 0,.slice none 0 0,.slice none 0 0,.slice none 0 0,.slice none 0 0,.int .i64 0,.slice none 0 0]:=by kernel_rfl
@[simp] theorem xn:finfo Tryz.prog 38 0=some (0,true,11):=by kernel_rfl
@[simp] theorem yy:finfo Tryz.prog 38 1=some (11,false,1):=by kernel_rfl
@[simp] theorem bplaces38:bplaces Tryz.prog 38=some [(0,11),(11,1)]:=by kernel_rfl
@[simp] theorem tsz47:tsz Tryz.prog 47=some (true,5):=by kernel_rfl
@[simp] theorem tzero47:tzero Tryz.prog 47=some [.int .i64 0,.int .i64 0,.int .i64 0,.int .i64 0,.int .i64 0]:=by kernel_rfl
@[simp] theorem wr:finfo Tryz.prog 47 0=some (0,false,1):=by kernel_rfl
@[simp] theorem xq:finfo Tryz.prog 47 1=some (1,false,1):=by kernel_rfl
@[simp] theorem xt:finfo Tryz.prog 47 2=some (2,false,1):=by kernel_rfl
@[simp] theorem yl:finfo Tryz.prog 47 3=some (3,false,1):=by kernel_rfl
@[simp] theorem xc:finfo Tryz.prog 47 4=some (4,false,1):=by kernel_rfl
@[simp] theorem bplaces47:bplaces Tryz.prog 47=some [(0,1),(1,1),(2,1),(3,1),(4,1)]:=by kernel_rfl
@[simp] theorem tzero65:tzero Tryz.prog 65=some [.slice none 0 0,.int .i64 0,.int .i64 0]:=by kernel_rfl
@[simp] theorem wt:finfo Tryz.prog 65 0=some (0,false,1):=by kernel_rfl
@[simp] theorem yh:finfo Tryz.prog 65 1=some (1,false,1):=by kernel_rfl
@[simp] theorem yx:finfo Tryz.prog 65 2=some (2,false,1):=by kernel_rfl
@[simp] theorem bplaces65:bplaces Tryz.prog 65=some [(0,1),(1,1),(2,1)]:=by kernel_rfl
@[simp] theorem tsz75:tsz Tryz.prog 75=some (false,1):=by kernel_rfl
@[simp] theorem tzero75:tzero Tryz.prog 75=some [.slice none 0 0]:=by kernel_rfl
@[simp] theorem eltp75:eltp Tryz.prog 75=some (102,5):=by kernel_rfl
@[simp] theorem isSl75:isSl Tryz.prog 75=true:=by kernel_rfl
@[simp] theorem eltp94:eltp Tryz.prog 94=some (98,3):=by kernel_rfl
@[simp] theorem isSl94:isSl Tryz.prog 94=true:=by kernel_rfl
@[simp] theorem tsz98:tsz Tryz.prog 98=some (true,3):=by kernel_rfl
@[simp] theorem tzero98:tzero Tryz.prog 98=some [.int .i64 0,.int .i64 0,.int .i64 0]:=by kernel_rfl
@[simp] theorem yc:finfo Tryz.prog 98 0=some (0,false,1):=by kernel_rfl
@[simp] theorem xb:finfo Tryz.prog 98 1=some (1,false,1):=by kernel_rfl
@[simp] theorem yq:finfo Tryz.prog 98 2=some (2,false,1):=by kernel_rfl
@[simp] theorem bplaces98:bplaces Tryz.prog 98=some [(0,1),(1,1),(2,1)]:=by kernel_rfl
@[simp] theorem tsz102:tsz Tryz.prog 102=some (true,5):=by kernel_rfl
@[simp] theorem tzero102:tzero Tryz.prog 102=some [.int .i64 0,.int .i64 0,.int .i64 0,.bool false,.bool false]:=by kernel_rfl
@[simp] theorem A3:finfo Tryz.prog 102 0=some (0,false,1):=by kernel_rfl
@[simp] theorem qt:finfo Tryz.prog 102 1=some (1,false,1):=by kernel_rfl
@[simp] theorem qu:finfo Tryz.prog 102 2=some (2,false,1):=by kernel_rfl
@[simp] theorem wm:finfo Tryz.prog 102 3=some (3,false,1):=by kernel_rfl
@[simp] theorem A2:finfo Tryz.prog 102 4=some (4,false,1):=by kernel_rfl
@[simp] theorem flatN102:flatN Tryz.prog 102=some [0,0,0,1,1]:=by kernel_rfl
@[simp] theorem bplaces102:bplaces Tryz.prog 102=some [(0,1),(1,1),(2,1),(3,1),(4,1)]:=by kernel_rfl
@[simp] theorem tsz126:tsz Tryz.prog 126=some (true,5):=by kernel_rfl
@[simp] theorem tzero126:tzero Tryz.prog 126=some [.bool false,.bool false,.bool false,.bool false,.bool false]:=by kernel_rfl
@[simp] theorem arrp126:arrp Tryz.prog 126=some (5,1):=by kernel_rfl
@[simp] theorem eltp138:eltp Tryz.prog 138=some (4,1):=by kernel_rfl
end Go.Proofs.YtmddnnecgnpccaaGreat.V
set_option linter.all false
namespace Go.Proofs.YtmddnnecgnpccaaGreat.V
open Go Go.VM
def rd (b:List Int) (j:Int):Int:=b.getD j.toNat 0
def inR (lo n hi:Int):Prop:=lo≤n∧n≤hi
instance (lo n hi:Int):Decidable (inR lo n hi):=inferInstanceAs (Decidable (_∧_))
def okG (w h:Int):Prop:=(1≤w∧w≤4)∧1≤h∧h≤4
instance (w h:Int):Decidable (okG w h):=inferInstanceAs (Decidable (_∧_))
def cnt (w h:Int):Int:=if okG w h then w*h else 0
def isN (w h n:Int):Prop:=0≤n∧n<cnt w h
instance (w h n:Int):Decidable (isN w h n):=inferInstanceAs (Decidable (_∧_))
def nodeAt (w h x y:Int):Int:=if okG w h∧(0≤x∧x<w)∧0≤y∧y<h then y*w+x else -1
def next (w h n p:Int):Int:=
 if isN w h n then
  (if p=0 then nodeAt w h (n%w) (n/w-1) else if p=1 then nodeAt w h (n%w+1) (n/w) else if p=2 then nodeAt w h (n%w) (n/w+1)
   else if p=3 then nodeAt w h (n%w-1) (n/w) else if p=4 then n else -1)
 else -1
def leads (w h c:Int):Prop:=(0≤c∧c<4*cnt w h)∧0≤next w h (c/4) (c%4)
instance (w h c:Int):Decidable (leads w h c):=inferInstanceAs (Decidable (_∧_))
def opp (p:Int):Int:=if p=4 then 4 else if 0≤p∧p≤3 then (p+2)%4 else -1
def goodAt (w h:Int) (b:List Int) (j:Nat):Prop:=leads w h (b.getD j 0)∧(0<j→b.getD (j-1) 0<b.getD j 0)
instance (w h:Int) (b:List Int) (j:Nat):Decidable (goodAt w h b j):=inferInstanceAs (Decidable (_∧_))
def meshOk (w h:Int) (b:List Int):Prop:=(∀j,j<b.length→goodAt w h b j)∧okG w h
instance (w h:Int) (b:List Int):Decidable (meshOk w h b):=inferInstanceAs (Decidable (_∧_))
def has (w h:Int) (b:List Int) (c:Int):Prop:=leads w h c∧c∉b
instance (w h:Int) (b:List Int) (c:Int):Decidable (has w h b c):=inferInstanceAs (Decidable (_∧_))
theorem Yc {w h:Int} (h1:okG w h):1≤w*h∧w*h≤16:=by
 obtain ⟨⟨a1,a2⟩,b1,b2⟩:=h1
 have c1:1*1≤w*h:=Int.mul_le_mul a1 b1 (by omega) (by omega)
 have c2:w*h≤4*4:=Int.mul_le_mul a2 b2 (by omega) (by omega)
 omega
theorem Qg (w h:Int):0≤cnt w h∧cnt w h≤16:=by
 unfold cnt;split
 ·rename_i h1;have:=Yc h1;omega
 ·omega
theorem Rq {w h n:Int} (h1:isN w h n):okG w h∧0≤n∧n<w*h∧n<16:=by
 obtain ⟨a,b⟩:=h1
 have:=Qg w h
 unfold cnt at b;split at b
 ·rename_i hg;have:=Yc hg;exact ⟨hg,a,b,by omega⟩
 ·omega
theorem w64 {x:Int} (h1 : -9223372036854775808≤x) (h2:x≤9223372036854775807):IntKind.i64.wrap x=x:=by rw [IntKind.wrap_i64];omega
theorem w6 (x:Int) (h : -9223372036854775808≤x∧x≤9223372036854775807):∀[Inhabited Unit],IntKind.i64.wrap x=x:=by intro _;exact w64 h.1 h.2
end Go.Proofs.YtmddnnecgnpccaaGreat.V
set_option linter.all false
namespace Go.Proofs.YtmddnnecgnpccaaGreat.V
open Go Go.VM Go.Proofs
set_option maxRecDepth 10000
variable {frz:Nat} {H:Heap}
theorem Qv (n lo hi:Int):vcall C frz 41 [.int .i64 n,.int .i64 lo,.int .i64 hi] H=some (.bool (decide (inR lo n hi)),H):=by
 rw [Qb (fn:=Tryz.f41) Tryz.func41 rfl (by kernel_rfl) rfl]
 simp
 repeat' (first|refine We _ _ ?_ ?_|refine Qr _ ?_ ?_)<;>intro h<;>simp [h,inR]
theorem Q4 (n lo hi:Int):vcall C frz 80 [.int .i64 n,.int .i64 lo,.int .i64 hi] H=some (.bool (decide (inR lo n hi)),H):=by
 rw [Qb (fn:=Tryz.f80) Tryz.func80 rfl (by kernel_rfl) rfl]
 simp
 repeat' (first|refine We _ _ ?_ ?_|refine Qr _ ?_ ?_)<;>intro h<;>simp [h,inR]
theorem S6 (w h:Int):vcall C frz 65 [.agg #[.int .i64 w,.int .i64 h]] H=some (.bool (decide (okG w h)),H):=by
 rw [Qb (fn:=Tryz.f65) Tryz.func65 rfl (by kernel_rfl) rfl]
 simp [Qv]
 refine We _ _ ?_ ?_<;>intro h1<;>simp [h1,Qv]
 ·have:okG w h↔inR 1 h 4:=⟨fun g=>g.2,fun g=>⟨h1,g⟩⟩
  simp [this]
 ·exact fun g=>h1 g.1
theorem Ul (w h:Int):vcall C frz 70 [.agg #[.int .i64 w,.int .i64 h]] H=some (.bool (decide (okG w h)),H):=by
 rw [Qb (fn:=Tryz.f70) Tryz.func70 rfl (by kernel_rfl) rfl]
 simp [Q4]
 refine We _ _ ?_ ?_<;>intro h1<;>simp [h1,Q4]
 ·have:okG w h↔inR 1 h 4:=⟨fun g=>g.2,fun g=>⟨h1,g⟩⟩
  simp [this]
 ·exact fun g=>h1 g.1
theorem Wk (w h:Int):vcall C frz 36 [.agg #[.int .i64 w,.int .i64 h]] H=some (.int .i64 (cnt w h),H):=by
 rw [Qb (fn:=Tryz.f36) Tryz.func36 rfl (by kernel_rfl) rfl]
 simp [S6]
 refine Qr _ ?_ ?_<;>intro h1<;>simp [h1,cnt]
 have:=Yc h1
 exact w64 (by omega) (by omega)
theorem Qx (w h:Int):vcall C frz 48 [.agg #[.int .i64 w,.int .i64 h]] H=some (.int .i64 (cnt w h),H):=by
 rw [Qb (fn:=Tryz.f48) Tryz.func48 rfl (by kernel_rfl) rfl]
 simp [Ul]
 refine Qr _ ?_ ?_<;>intro h1<;>simp [h1,cnt]
 have:=Yc h1
 exact w64 (by omega) (by omega)
theorem Nz (w h n:Int):inR 0 n (IntKind.i64.wrap (cnt w h-1))↔isN w h n:=by
 have:=Qg w h
 rw [w64 (by omega) (by omega)]
 simp only [inR,isN];omega
theorem Xe (w h n:Int):vcall C frz 42 [.agg #[.int .i64 w,.int .i64 h],.int .i64 n] H=some (.bool (decide (isN w h n)),H):=by
 rw [Qb (fn:=Tryz.f42) Tryz.func42 rfl (by kernel_rfl) rfl]
 simp [Wk,Qv,Nz]
theorem Xr (w h n:Int):vcall C frz 97 [.agg #[.int .i64 w,.int .i64 h],.int .i64 n] H=some (.bool (decide (isN w h n)),H):=by
 rw [Qb (fn:=Tryz.f97) Tryz.func97 rfl (by kernel_rfl) rfl]
 simp [Qx,Q4,Nz]
theorem Cl (w h x y:Int) (h1:okG w h):(inR 0 x (IntKind.i64.wrap (w-1))↔0≤x∧x<w)∧(inR 0 y (IntKind.i64.wrap (h-1))↔0≤y∧y<h):=by
 obtain ⟨⟨a1,a2⟩,b1,b2⟩:=h1
 rw [w64 (by omega) (by omega),w64 (by omega) (by omega)]
 simp only [inR];omega
theorem Cw {w h x y:Int} (h1:okG w h) (h2:0≤x∧x<w) (h3:0≤y∧y<h):IntKind.i64.wrap (IntKind.i64.wrap (y*w)+x)=y*w+x:=by
 have hm:=Yc h1
 obtain ⟨⟨a1,a2⟩,b1,b2⟩:=h1
 have c1:0*0≤y*w:=Int.mul_le_mul h3.1 (by omega) (by omega) (by omega)
 have c2:y*w≤h*w:=Int.mul_le_mul_of_nonneg_right (by omega) (by omega)
 rw [Int.mul_comm h w] at c2
 rw [w64 (x:=y*w) (by omega) (by omega),w64 (by omega) (by omega)]
theorem Z7 (w h x y:Int):vcall C frz 126 [.agg #[.int .i64 w,.int .i64 h],.int .i64 x,.int .i64 y] H=some (.int .i64 (nodeAt w h x y),H):=by
 rw [Qb (fn:=Tryz.f126) Tryz.func126 rfl (by kernel_rfl) rfl]
 simp [S6]
 refine We _ _ ?_ ?_<;>intro h1<;>simp [h1,Qv,nodeAt]
 obtain ⟨e1,e2⟩:=Cl w h x y h1
 simp only [e1,e2]
 refine We _ _ ?_ ?_<;>intro h2<;>simp [h2,Qv]
 simp only [e2]
 refine Qr _ ?_ ?_<;>intro h3<;>simp [h3]
 exact Cw h1 h2 h3
theorem Yv (w h x y:Int):vcall C frz 131 [.agg #[.int .i64 w,.int .i64 h],.int .i64 x,.int .i64 y] H=some (.int .i64 (nodeAt w h x y),H):=by
 rw [Qb (fn:=Tryz.f131) Tryz.func131 rfl (by kernel_rfl) rfl]
 simp [Ul]
 refine We _ _ ?_ ?_<;>intro h1<;>simp [h1,Q4,nodeAt]
 obtain ⟨e1,e2⟩:=Cl w h x y h1
 simp only [e1,e2]
 refine We _ _ ?_ ?_<;>intro h2<;>simp [h2,Q4]
 simp only [e2]
 refine Qr _ ?_ ?_<;>intro h3<;>simp [h3]
 exact Cw h1 h2 h3
theorem Iz {n w:Int} (h:0≤n) (h1:1≤w) (h2:n<16):IntKind.i64.wrap (n.tdiv w)=n/w:=by
 rw [Int.tdiv_eq_ediv_of_nonneg h]
 have h3:=Int.ediv_le_self w h
 have h4:=Int.ediv_nonneg h (by omega:0≤w)
 exact w64 (by omega) (by omega)
theorem Ix {n w:Int} (h:0≤n):n.tmod w=n%w:=Int.tmod_eq_emod_of_nonneg h
theorem Ov {n w:Int} (h:0≤n) (h1:1≤w) (h2:n<16):0≤n/w∧n/w<16:=⟨Int.ediv_nonneg h (by omega),by have:=Int.ediv_le_self w h;omega⟩
theorem Oi {n w:Int} (h1:1≤w) (h2:w≤4):0≤n%w∧n%w<4:=⟨Int.emod_nonneg _ (by omega),by have:=Int.emod_lt_of_pos n (by omega:0<w);omega⟩
theorem Rr (w h n p:Int):vcall C frz 110 [.agg #[.int .i64 w,.int .i64 h],.int .i64 n,.int .i64 p] H=some (.int .i64 (next w h n p),H):=by
 rw [Qb (fn:=Tryz.f110) Tryz.func110 rfl (by kernel_rfl) rfl]
 simp [Xe]
 refine Qr _ ?_ ?_<;>intro h1<;>simp [h1,next]
 obtain ⟨⟨⟨a1,a2⟩,b1,b2⟩,g2,g3,g4⟩:=Rq h1
 rw [Qp (h:=by kernel_rfl)]
 simp
 refine Yz (by omega) ?_
 refine Yz (by omega) ?_
 obtain ⟨d1,d2⟩:=Ov g2 a1 g4
 obtain ⟨m1,m2⟩:=Oi (n:=n) a1 a2
 rw [Iz g2 a1 g4,Ix g2]
 refine Qr _ ?_ ?_<;>intro p0<;>simp [p0,Z7]
 ·rw [w64 (by omega) (by omega)]
 refine Qr _ ?_ ?_<;>intro p1<;>simp [p1,Z7]
 ·rw [w64 (by omega) (by omega)]
 refine Qr _ ?_ ?_<;>intro p2<;>simp [p2,Z7]
 ·rw [w64 (by omega) (by omega)]
 refine Qr _ ?_ ?_<;>intro p3<;>simp [p3,Z7]
 ·rw [w64 (by omega) (by omega)]
 refine Qr _ ?_ ?_<;>intro p4<;>simp [p4,Z7]
theorem Ym (w h n p:Int):vcall C frz 121 [.agg #[.int .i64 w,.int .i64 h],.int .i64 n,.int .i64 p] H=some (.int .i64 (next w h n p),H):=by
 rw [Qb (fn:=Tryz.f121) Tryz.func121 rfl (by kernel_rfl) rfl]
 simp [Xr]
 refine Qr _ ?_ ?_<;>intro h1<;>simp [h1,next]
 obtain ⟨⟨⟨a1,a2⟩,b1,b2⟩,g2,g3,g4⟩:=Rq h1
 refine Yz (by omega) ?_
 refine Yz (by omega) ?_
 obtain ⟨d1,d2⟩:=Ov g2 a1 g4
 obtain ⟨m1,m2⟩:=Oi (n:=n) a1 a2
 rw [Iz g2 a1 g4,Ix g2]
 refine Qr _ ?_ ?_<;>intro p0<;>simp [p0,Yv]
 ·rw [w64 (by omega) (by omega)]
 refine Qr _ ?_ ?_<;>intro p1<;>simp [p1,Yv]
 ·rw [w64 (by omega) (by omega)]
 refine Qr _ ?_ ?_<;>intro p2<;>simp [p2,Yv]
 ·rw [w64 (by omega) (by omega)]
 refine Qr _ ?_ ?_<;>intro p3<;>simp [p3,Yv]
 ·rw [w64 (by omega) (by omega)]
 refine Qr _ ?_ ?_<;>intro p4<;>simp [p4,Yv]
theorem Vz (w h c:Int):inR 0 c (IntKind.i64.wrap (IntKind.i64.wrap (4*cnt w h)-1))↔0≤c∧c<4*cnt w h:=by
 have:=Qg w h
 rw [w64 (x:=4*cnt w h) (by omega) (by omega),w64 (by omega) (by omega)]
 simp only [inR];omega
theorem Rb {w h c:Int} (h1:0≤c∧c<4*cnt w h):IntKind.i64.wrap (c.tdiv 4)=c/4∧c.tmod 4=c%4:=by
 have:=Qg w h
 rw [Int.tdiv_eq_ediv_of_nonneg h1.1,Int.tmod_eq_emod_of_nonneg h1.1]
 exact ⟨w64 (by omega) (by omega),rfl⟩
theorem Mc (w h c:Int):vcall C frz 109 [.agg #[.int .i64 w,.int .i64 h],.int .i64 c] H=some (.bool (decide (leads w h c)),H):=by
 rw [Qb (fn:=Tryz.f109) Tryz.func109 rfl (by kernel_rfl) rfl]
 simp [Wk,Qv]
 refine We _ _ ?_ ?_<;>intro h1<;>simp [h1]
 ·rw [Vz] at h1
  obtain ⟨e1,e2⟩:=Rb h1
  simp [e1,e2,Rr,leads,h1]
 ·rw [Vz] at h1
  exact fun g=>h1 g.1
theorem S4 (w h c:Int):vcall C frz 134 [.agg #[.int .i64 w,.int .i64 h],.int .i64 c] H=some (.bool (decide (leads w h c)),H):=by
 rw [Qb (fn:=Tryz.f134) Tryz.func134 rfl (by kernel_rfl) rfl]
 simp [Qx,Q4]
 refine We _ _ ?_ ?_<;>intro h1<;>simp [h1]
 ·rw [Vz] at h1
  obtain ⟨e1,e2⟩:=Rb h1
  simp [e1,e2,Ym,leads,h1]
 ·rw [Vz] at h1
  exact fun g=>h1 g.1
theorem Q6 (xs:List Int) (i:Nat) (h:i<xs.length):xs.getD i 0=xs[i]:=by simp [List.getD_eq_getElem?_getD,h]
theorem Zm {w h:Int} {b:List Int} {i:Nat} (h5:i<b.length) (hg:¬goodAt w h b i):¬meshOk w h b:=fun hh=>hg (hh.1 i h5)
theorem To {w h:Int} {b:List Int} {i:Nat} (hj:∀j<i,goodAt w h b j) (hg:goodAt w h b i):∀j<i+1,goodAt w h b j:=fun j hh=>by
 by_cases hji:j<i
 ·exact hj j hji
 ·have:j=i:=by omega
  rw [this];exact hg
theorem W0 {w h:Int} {b:List Int} {i:Nat} (h5:i<b.length):goodAt w h b i↔leads w h b[i]∧(0<i→b[i-1]<b[i]):=by
 unfold goodAt
 rw [Q6 _ _ h5]
 refine and_congr Iff.rfl ⟨fun g p=>?_,fun g p=>?_⟩
 ·have:=g p;rwa [Q6 _ _ (by omega)] at this
 ·rw [Q6 _ _ (by omega)];exact g p
theorem F4 (w h:Int) (v:Value) (b:List Int) (hI:IsI H v b) (hl:b.length≤1073741824) :
 vcall C frz 127 [.agg #[.int .i64 w,.int .i64 h,v]] H=some (.bool (decide (meshOk w h b)),H):=by
 rw [Qb (fn:=Tryz.f127) Tryz.func127 rfl (by kernel_rfl) rfl]
 simp [hI.one',hI.cells,hI.lenA,Ul]
 refine Qr _ ?_ ?_<;>intro hg<;>simp [hg]
 ·refine Yp (fun n t H'=>∃i:Nat,n=b.length-i∧i≤b.length∧t 1=.pointer (some ⟨H.length,0,some 0⟩)∧t 3=.int .i64 i∧
   H'=H++[⟨[.int .i64 w,.int .i64 h,v],0,28⟩]∧∀j<i,goodAt w h b j) ?_ (n:=b.length) ⟨0,by simp⟩
  rintro n t H' ⟨i,rfl,hi,h1,h3,rfl,hj⟩ ih
  have next:=fun (t':Env) (e1:t' 1=.pointer (some ⟨H.length,0,some 0⟩)) (e2:t' 3=.int .i64 (i+1:Nat)) (e3:i<b.length) (e4:goodAt w h b i)=>
   ih (b.length-(i+1)) t' _ ⟨i+1,rfl,by omega,e1,e2,rfl,To hj e4⟩ (by omega)
  simp [h1,h3,hI.lenA]
  refine Qr _ ?_ ?_<;>intro h5
  ·simp [h1,h3,h5]
   rw [Qp (h:=by kernel_rfl)]
   simp [h1,h3,h5,hI.idxA,hI.loadA,Q6,S4]
   refine We _ _ ?_ ?_<;>intro hL<;>simp [h1,h3,h5,hL]
   ·refine We _ _ ?_ ?_<;>intro h0
    ·have e:IntKind.i64.wrap ((i:Int)-1)=((i-1:Nat):Int):=by rw [w64 (by omega) (by omega)];omega
     have e':i-1<b.length:=by omega
     simp [h1,h3,h5,h0,hL,hI.idxA,hI.loadA,Q6,e,e']
     refine Qr _ ?_ ?_<;>intro h6
     ·simp [h1,h3,h5,h0,hL,h6]
      refine Zm h5 ?_
      rw [W0 h5]
      exact fun hh=>absurd (hh.2 h0) (by omega)
     ·simp [h1,h3,h5,h0,hL,h6]
      refine next _ (by simp [h1]) ?_ h5 ((W0 h5).2 ⟨hL,fun _=>by omega⟩)
      simp;rw [w64 (by omega) (by omega)]
    ·simp [h1,h3,h5,h0,hL]
     refine next _ (by simp [h1]) ?_ h5 ((W0 h5).2 ⟨hL,fun hh=>absurd hh h0⟩)
     simp;rw [w64 (by omega) (by omega)]
   ·refine Zm h5 ?_
    rw [W0 h5]
    exact fun hh=>hL hh.1
  ·have:i=b.length:=by omega
   subst this
   simp [h1,h3]
   exact ⟨hj,hg⟩
 ·exact fun hh=>hg hh.2
theorem S9 {b:List Int} {c:Int} {i:Nat} (h:i<b.length) (h1:c∉b.take i) (h2:¬b[i]=c):c∉b.take (i+1):=by
 rw [List.take_succ_eq_append_getElem h]
 simp only [List.mem_append,List.mem_singleton,not_or]
 exact ⟨h1,fun hh=>h2 hh.symm⟩
def place (b:List Int) (c:Int):Int:=if c∈b then b.idxOf c else -1
theorem L7 (b:List Int) (c:Int) : -1≤place b c∧place b c<b.length∧(0≤place b c↔c∈b):=by
 unfold place
 split
 ·rename_i h
  have:=List.idxOf_lt_length_iff.2 h
  refine ⟨by omega,by omega,?_⟩
  simp [h]
 ·rename_i h
  refine ⟨by omega,by omega,?_⟩
  simp [h]
theorem D0 {b:List Int} {c:Int} {i:Nat} (h:i<b.length) (h1:c∉b.take i) (h2:b[i]=c):place b c=i:=by
 have hm:c∈b:=h2▸List.getElem_mem h
 unfold place
 rw [if_pos hm]
 have e:b=b.take i++b.drop i:=(List.take_append_drop i b).symm
 have e2:b.drop i=c::b.drop (i+1):=by rw [List.drop_eq_getElem_cons h,h2]
 rw [e,List.idxOf_append,if_neg h1,e2,List.idxOf_cons_self]
 simp;omega
theorem qj (v:Value) (b:List Int) (c:Int) (hI:IsI H v b) (hl:b.length≤1073741824) :
 vcall C frz 135 [v,.int .i64 c] H=some (.bool (decide (c∈b)),H):=by
 rw [Qb (fn:=Tryz.f135) Tryz.func135 rfl (by kernel_rfl) rfl]
 simp [hI.len]
 refine Yp (fun n t H'=>∃i:Nat,n=b.length-i∧i≤b.length∧t 0=v∧t 1=.int .i64 c∧t 5=.int .i64 i∧H'=H∧c∉b.take i) ?_ (n:=b.length) ⟨0,by simp⟩
 rintro n t H' ⟨i,rfl,hi,h1,h2,h3,rfl,hj⟩ ih
 simp [h1,h2,h3,hI.len]
 refine Qr _ ?_ ?_<;>intro h5
 ·simp [h1,h2,h3,h5,hI.idx,hI.load,Q6]
  refine Qr _ ?_ ?_<;>intro h6<;>simp [h1,h2,h3,h6]
  ·rw [← h6];exact List.getElem_mem h5
  ·refine ih (b.length-(i+1)) _ _ ⟨i+1,rfl,by omega,by simp [h1],by simp [h2],?_,rfl,S9 h5 hj h6⟩ (by omega)
   simp;rw [w64 (by omega) (by omega)]
 ·have:i=b.length:=by omega
  subst this
  simp [h1,h2,h3]
  rwa [List.take_length] at hj
theorem Bo (v:Value) (b:List Int) (c:Int) (hI:IsI H v b) (hl:b.length≤1073741824) :
 vcall C frz 64 [v,.int .i64 c] H=some (.int .i64 (place b c),H):=by
 rw [Qb (fn:=Tryz.f64) Tryz.func64 rfl (by kernel_rfl) rfl]
 simp [hI.len]
 refine Yp (fun n t H'=>∃i:Nat,n=b.length-i∧i≤b.length∧t 0=v∧t 1=.int .i64 c∧t 6=v∧t 7=.int .i64 b.length∧t 8=.int .i64 i∧H'=H∧c∉b.take i) ?_ (n:=b.length) ⟨0,by simp⟩
 rintro n t H' ⟨i,rfl,hi,h0,h1,h2,h3,h4,rfl,hj⟩ ih
 simp [h0,h1,h2,h3,h4,hI.len]
 refine Qr _ ?_ ?_<;>intro h5
 ·simp [h0,h1,h2,h3,h4,h5,hI.idx,hI.load,Q6]
  refine Qr _ ?_ ?_<;>intro h6<;>simp [h0,h1,h2,h3,h4,h6]
  ·rw [D0 (c:=b[i]) h5 (by first|exact hj|(rw [h6];exact hj)|(rw [← h6];exact hj)) rfl]
  ·refine ih (b.length-(i+1)) _ _ ⟨i+1,rfl,by omega,by simp [h0],by simp [h1],by simp [h2],by simp [h3],?_,rfl,S9 h5 hj (by omega)⟩ (by omega)
   simp;rw [w64 (by omega) (by omega)]
 ·have:i=b.length:=by omega
  subst this
  simp [h0,h1,h2,h3]
  rw [List.take_length] at hj
  rw [place,if_neg hj]
theorem U2 (v:Value) (b:List Int) (c:Int) (hI:IsI H v b) (hl:b.length≤1073741824) :
 vcall C frz 35 [v,.int .i64 c] H=some (.bool (decide (c∈b)),H):=by
 rw [Qb (fn:=Tryz.f35) Tryz.func35 rfl (by kernel_rfl) rfl]
 simp [Bo _ _ _ hI hl,L7]
theorem M4 (w h:Int) (v:Value) (b:List Int) (c:Int) (hI:IsI H v b) (hl:b.length≤1073741824) :
 vcall C frz 128 [.agg #[.int .i64 w,.int .i64 h,v],.int .i64 c] H=some (.bool (decide (has w h b c)),H):=by
 rw [Qb (fn:=Tryz.f128) Tryz.func128 rfl (by kernel_rfl) rfl]
 simp [hI.one',hI.cells,S4]
 refine We _ _ ?_ ?_<;>intro h1<;>simp [h1,qj _ _ _ (hI.app _) hl,has,-Bool.decide_and]
theorem Gm (w h:Int) (v:Value) (b:List Int) (c:Int) (hI:IsI H v b) (h0:leads w h c) :
 vcall C frz 85 [.agg #[.int .i64 w,.int .i64 h,v],.int .i64 c] H=some (.int .i64 (next w h (c/4) (c%4)),H):=by
 rw [Qb (fn:=Tryz.f85) Tryz.func85 rfl (by kernel_rfl) rfl]
 obtain ⟨e1,e2⟩:=Rb h0.1
 simp [hI.one',hI.cells,e1,e2,Rr]
theorem Vd (w h:Int) (v:Value) (b:List Int) (hI:IsI H v b) (hl:b.length≤1073741824) :
 vcall C frz 88 [.agg #[.int .i64 w,.int .i64 h,v]] H=some (.bool (decide (meshOk w h b)),H):=by
 rw [Qb (fn:=Tryz.f88) Tryz.func88 rfl (by kernel_rfl) rfl]
 simp [hI.one',hI.cells,hI.lenA]
 refine Yp (fun n t H'=>∃i:Nat,n=b.length-i∧i≤b.length∧t 1=.pointer (some ⟨H.length,0,some 0⟩)∧t 6=v∧t 7=.int .i64 b.length∧t 8=.int .i64 i∧
  H'=H++[⟨[.int .i64 w,.int .i64 h,v],0,28⟩]∧∀j<i,goodAt w h b j) ?_ (n:=b.length) ⟨0,by simp⟩
 rintro n t H' ⟨i,rfl,hi,h1,h2,h3,h4,rfl,hj⟩ ih
 have next:=fun (t':Env) (e1:t' 1=.pointer (some ⟨H.length,0,some 0⟩)) (e2:t' 6=v) (e3:t' 7=.int .i64 b.length) (e4:t' 8=.int .i64 (i+1:Nat)) (e5:i<b.length) (e6:goodAt w h b i)=>
  ih (b.length-(i+1)) t' _ ⟨i+1,rfl,by omega,e1,e2,e3,e4,rfl,To hj e6⟩ (by omega)
 simp [h1,h2,h3,h4]
 refine Qr _ ?_ ?_<;>intro h5
 ·simp [h1,h2,h3,h4,h5,hI.idxA,hI.loadA,Q6,Mc]
  refine We _ _ ?_ ?_<;>intro hL<;>simp [h1,h2,h3,h4,h5,hL]
  ·refine We _ _ ?_ ?_<;>intro h0
   ·have e:IntKind.i64.wrap ((i:Int)-1)=((i-1:Nat):Int):=by rw [w64 (by omega) (by omega)];omega
    have e':i-1<b.length:=by omega
    simp [h1,h2,h3,h4,h5,h0,hL,hI.idxA,hI.loadA,Q6,e,e']
    refine Qr _ ?_ ?_<;>intro h6
    ·simp [h1,h2,h3,h4,h5,h0,hL,h6]
     refine Zm h5 ?_
     rw [W0 h5]
     exact fun hh=>absurd (hh.2 h0) (by omega)
    ·simp [h1,h2,h3,h4,h5,h0,hL,h6]
     refine next _ (by simp [h1]) (by simp [h2]) (by simp [h3]) ?_ h5 ((W0 h5).2 ⟨hL,fun _=>by omega⟩)
     simp;rw [w64 (by omega) (by omega)]
   ·simp [h1,h2,h3,h4,h5,h0,hL]
    refine next _ (by simp [h1]) (by simp [h2]) (by simp [h3]) ?_ h5 ((W0 h5).2 ⟨hL,fun hh=>absurd hh h0⟩)
    simp;rw [w64 (by omega) (by omega)]
  ·refine Zm h5 ?_
   rw [W0 h5]
   exact fun hh=>hL hh.1
 ·have:i=b.length:=by omega
  subst this
  simp [h1,h2,h3,h4,S6]
  exact ⟨fun hg=>⟨hj,hg⟩,fun hh=>hh.2⟩
theorem Mh (w h:Int) (v:Value) (b:List Int) (c:Int) (hI:IsI H v b) (hl:b.length≤1073741824) :
 vcall C frz 112 [.agg #[.int .i64 w,.int .i64 h,v],.int .i64 c] H=some (.bool (decide (meshOk w h b∧has w h b c)),H):=by
 rw [Qb (fn:=Tryz.f112) Tryz.func112 rfl (by kernel_rfl) rfl]
 simp [hI.one',hI.cells,Vd _ _ _ _ (hI.app _) hl]
 refine We _ _ ?_ ?_<;>intro h1<;>simp [h1,Mc,-Bool.decide_and]
 refine We _ _ ?_ ?_<;>intro h2<;>simp [h2,has,U2 _ _ _ (hI.app _) hl,-Bool.decide_and]
end Go.Proofs.YtmddnnecgnpccaaGreat.V
set_option linter.all false
namespace Go.Proofs.YtmddnnecgnpccaaGreat.V
open Go Go.VM Go.Proofs
set_option maxRecDepth 10000
def portOf (w h:Int) (T:List Int) (a to:Int):Int:=rd T (a*cnt w h+to)
def stepOk (w h:Int) (b T:List Int) (a to:Int):Prop:=inR 0 (portOf w h T a to) 3∧has w h b (4*a+portOf w h T a to)
instance (w h:Int) (b T:List Int) (a to:Int):Decidable (stepOk w h b T a to):=inferInstanceAs (Decidable (_∧_))
def walkN (w h:Int) (b T:List Int) (to:Int):Nat→Int→List Int→List Int
 | 0,a,out=>if portOf w h T a to=4 then (if a=to then out else []) else []
 | f+1,a,out=>if portOf w h T a to=4 then (if a=to then out else []) else
  if stepOk w h b T a to then walkN w h b T to f (next w h a (portOf w h T a to)) (out++[4*a+portOf w h T a to]) else []
def walk (w h:Int) (b T:List Int) (a to:Int):List Int:=walkN w h b T to (cnt w h).toNat a []
def tsized (w h:Int) (b T:List Int):Prop:=meshOk w h b∧(T.length:Int)=cnt w h*cnt w h
instance (w h:Int) (b T:List Int):Decidable (tsized w h b T):=inferInstanceAs (Decidable (_∧_))
def tableOk (w h:Int) (b T:List Int):Prop:=tsized w h b T∧∀a,a<(cnt w h).toNat→∀c,c<(cnt w h).toNat→(a=c→portOf w h T a a=4)∧(a≠c→walk w h b T a c≠[])
instance (w h:Int) (b T:List Int):Decidable (tableOk w h b T):=inferInstanceAs (Decidable (_∧_))
theorem Y9 {w h x y:Int} (hx:0≤nodeAt w h x y):isN w h (nodeAt w h x y):=by
 refine ⟨hx,?_⟩
 unfold nodeAt at hx ⊢
 split
 ·rename_i h1
  obtain ⟨h1,h2,h3⟩:=h1
  have hm:=Yc h1
  have c2:y*w≤(h-1)*w:=Int.mul_le_mul_of_nonneg_right (by omega) (by have:=h1.1.1;omega)
  rw [Int.sub_mul,Int.mul_comm h w] at c2
  rw [cnt,if_pos h1]
  omega
 ·rename_i h1;rw [if_neg h1] at hx;omega
theorem Kp {w h a p:Int} (hx:0≤next w h a p):isN w h (next w h a p):=by
 unfold next at hx ⊢
 by_cases h1:isN w h a
 ·rw [if_pos h1] at hx ⊢
  by_cases p0:p=0
  ·rw [if_pos p0] at hx ⊢;exact Y9 hx
  rw [if_neg p0] at hx ⊢
  by_cases p1:p=1
  ·rw [if_pos p1] at hx ⊢;exact Y9 hx
  rw [if_neg p1] at hx ⊢
  by_cases p2:p=2
  ·rw [if_pos p2] at hx ⊢;exact Y9 hx
  rw [if_neg p2] at hx ⊢
  by_cases p3:p=3
  ·rw [if_pos p3] at hx ⊢;exact Y9 hx
  rw [if_neg p3] at hx ⊢
  by_cases p4:p=4
  ·rw [if_pos p4] at hx ⊢;exact h1
  rw [if_neg p4] at hx;omega
 ·rw [if_neg h1] at hx;omega
theorem X9 {w h a p:Int} {b:List Int} (h0:inR 0 p 3) (h1:has w h b (4*a+p)):(4*a+p)/4=a∧(4*a+p)%4=p∧isN w h (next w h a p):=by
 obtain ⟨h2,h3⟩:=h0
 have e1:(4*a+p)/4=a:=by omega
 have e2:(4*a+p)%4=p:=by omega
 refine ⟨e1,e2,Kp ?_⟩
 have:=h1.1.2
 rwa [e1,e2] at this
theorem Ua {w h a to:Int} (h1:isN w h a) (h2:isN w h to):0≤a*cnt w h+to∧a*cnt w h+to<cnt w h*cnt w h∧a*cnt w h≤256∧0≤a*cnt w h:=by
 have hc:=Qg w h
 obtain ⟨a1,a2⟩:=h1
 obtain ⟨b1,b2⟩:=h2
 have c1:0*0≤a*cnt w h:=Int.mul_le_mul a1 hc.1 (by omega) (by omega)
 have c2:a*cnt w h≤(cnt w h-1)*cnt w h:=Int.mul_le_mul_of_nonneg_right (by omega) hc.1
 rw [Int.sub_mul] at c2
 have c3:cnt w h*cnt w h≤16*16:=Int.mul_le_mul hc.2 hc.2 hc.1 (by omega)
 omega
end Go.Proofs.YtmddnnecgnpccaaGreat.V
set_option linter.all false
namespace Go.Proofs.YtmddnnecgnpccaaGreat.V
open Go Go.VM
theorem Gp {s:List Int} {j:Nat} (h:j<s.length):rd s (j:Int)=s[j]:=by simp [rd,List.getD_eq_getElem?_getD,h]
theorem A8 {s:List Int} {k:Int} (h0:0≤k) (h1:k<s.length):rd s k∈s:=by
 obtain ⟨i,rfl⟩:=Int.eq_ofNat_of_zero_le h0
 rw [Gp (by omega)];exact List.getElem_mem _
def endC (w h c:Int):Int:=next w h (c/4) (c%4)
def backC (w h c:Int):Int:=4*endC w h c+opp (c%4)
def link (w h:Int) (b:List Int) (c:Int):Prop:=has w h b c∧has w h b (backC w h c)
instance (w h:Int) (b:List Int) (c:Int):Decidable (link w h b c):=inferInstanceAs (Decidable (_∧_))
def neg (s:List Int):Nat:=s.countP (· < 0)
theorem Jh {s:List Int} {k x v:Int} (h0:0≤k) (h1:k<s.length) (hx:0≤x):rd (s.set k.toNat v) x=if x=k then v else rd s x:=by
 obtain ⟨i,rfl⟩:=Int.eq_ofNat_of_zero_le h0
 obtain ⟨j,rfl⟩:=Int.eq_ofNat_of_zero_le hx
 simp only [Int.toNat_natCast]
 by_cases hj:j<s.length
 ·rw [Gp (by simpa using hj),Gp hj,List.getElem_set]
  by_cases e:i=j
  ·subst e;simp
  ·rw [if_neg e,if_neg (by omega)]
 ·rw [if_neg (by omega)]
  simp [rd,hj]
theorem Fg {s:List Int} {x:Int} (h0:0≤x) (h:rd s x<0):x<s.length:=by
 obtain ⟨j,rfl⟩:=Int.eq_ofNat_of_zero_le h0
 by_cases hj:j<s.length
 ·omega
 ·simp [rd,hj] at h
theorem I2 {s:List Int} {k v:Int} (h0:0≤k) (h1:k<s.length) (h:rd s k<0) (hv:0≤v):neg (s.set k.toNat v)+1=neg s:=by
 obtain ⟨i,rfl⟩:=Int.eq_ofNat_of_zero_le h0
 have hi:i<s.length:=by omega
 rw [Gp hi] at h
 unfold neg
 rw [Int.toNat_natCast,List.countP_set hi]
 have:0<s.countP (· < 0):=List.countP_pos_iff.2 ⟨_,List.getElem_mem hi,by simpa using h⟩
 rw [if_pos (by simpa using h),if_neg (by simp;omega)]
 omega
def vst (w h:Int) (b:List Int) (a d:Int) (x:List Int×List Int) (p:Nat):List Int×List Int:=
 if link w h b (4*a+p)∧rd x.1 (next w h a p)<0 then (x.1.set (next w h a p).toNat d,x.2++[next w h a p]) else x
def vis (w h:Int) (b:List Int) (a d:Int) (x:List Int×List Int):List Int×List Int:=(List.range 4).foldl (vst w h b a d) x
theorem Ev {w h:Int} {b:List Int} {a:Int} {p:Nat} (hp:p<4) (h1:link w h b (4*a+p)):isN w h a∧isN w h (next w h a p)∧endC w h (4*a+p)=next w h a p:=by
 obtain ⟨⟨⟨h2,h3⟩,_⟩,_⟩:=h1
 have e1:(4*a+(p:Int))/4=a:=by omega
 have e2:(4*a+(p:Int))%4=p:=by omega
 unfold endC
 rw [e1,e2] at h3 ⊢
 exact ⟨⟨by omega,by omega⟩,Kp h3,rfl⟩
structure BExt (w h:Int) (d:Int) (x y:List Int×List Int):Prop where
 len:y.1.length=x.1.length
 old:∀v,0≤v→0≤rd x.1 v→rd y.1 v=rd x.1 v
 new:∀v∈y.2,v∈x.2∨(isN w h v∧rd y.1 v=d)
 sum:neg y.1+y.2.length=neg x.1+x.2.length
 pre:∀v∈x.2,v∈y.2
 low:(∀v∈x.1,-1≤v∧v≤d)→∀v∈y.1,-1≤v∧v≤d
theorem BExt.rfl' {w h d:Int} {x:List Int×List Int}:BExt w h d x x:=⟨rfl,fun _ _ _=>rfl,fun _ h=>.inl h,rfl,fun _ h=>h,fun h=>h⟩
theorem BExt.trans {w h d:Int} {x y z:List Int×List Int} (hd:0≤d) (a:BExt w h d x y) (b:BExt w h d y z):BExt w h d x z where
 len:=b.len.trans a.len
 old v h0 h1:=by
  have e:=a.old v h0 h1
  rw [b.old v h0 (by omega),e]
 new v hv:=by
  rcases b.new v hv with h1|h1
  ·rcases a.new v h1 with h2|⟨h2,h3⟩
   ·exact .inl h2
   ·exact .inr ⟨h2,by rw [b.old v h2.1 (by omega),h3]⟩
  ·exact .inr h1
 sum:=b.sum.trans a.sum
 pre v h:=b.pre v (a.pre v h)
 low h:=b.low (a.low h)
theorem Bq {w h:Int} {b:List Int} {a d:Int} {x:List Int×List Int} {p:Nat} (hp:p<4) (hd:0≤d):BExt w h d x (vst w h b a d x p):=by
 unfold vst
 by_cases hc:link w h b (4*a+p)∧rd x.1 (next w h a p)<0
 ·rw [if_pos hc]
  obtain ⟨h1,h2,h3⟩:=Ev hp hc.1
  have h4:=Fg h2.1 hc.2
  have:=I2 h2.1 h4 hc.2 hd
  refine ⟨by simp,fun v h0 h5=>?_,fun v hv=>?_,by simp;omega,fun v hv=>by simp [hv],fun hl v hv=>?_⟩
  ·simp only
   rw [Jh h2.1 h4 h0,if_neg (by intro e;subst e;omega)]
  ·simp only [List.mem_append,List.mem_singleton] at hv
   rcases hv with hv|rfl
   ·exact .inl hv
   ·exact .inr ⟨h2,by simp only;rw [Jh h2.1 h4 h2.1,if_pos rfl]⟩
  ·rcases List.mem_or_eq_of_mem_set hv with h6|rfl
   ·exact hl v h6
   ·omega
 ·rw [if_neg hc];exact BExt.rfl'
theorem Od {w h:Int} {b:List Int} {a d:Int} (hd:0≤d):∀(l:List Nat) (x:List Int×List Int),(∀p∈l,p<4)→BExt w h d x (l.foldl (vst w h b a d) x)
 | [],x,_=>BExt.rfl'
 | p::l,x,hp=>(Bq (hp p (by simp)) hd).trans hd (Od hd l _ (fun q hq=>hp q (by simp [hq])))
theorem Nr {w h:Int} {b:List Int} {a d:Int} (hd:0≤d) (x:List Int×List Int):BExt w h d x (vis w h b a d x):=Od hd _ _ (by simp)
theorem Bx {w h:Int} {b:List Int} {a d:Int} (s q q':List Int) (p:Nat):vst w h b a d (s,q++q') p=((vst w h b a d (s,q') p).1,q++(vst w h b a d (s,q') p).2):=by
 unfold vst
 simp only
 split<;>simp
theorem Oz {w h:Int} {b:List Int} {a d:Int} (q:List Int):∀(l:List Nat) (s q':List Int),l.foldl (vst w h b a d) (s,q++q')=((l.foldl (vst w h b a d) (s,q')).1,q++(l.foldl (vst w h b a d) (s,q')).2)
 | [],s,q'=>rfl
 | p::l,s,q'=>by
  rw [List.foldl_cons,List.foldl_cons,Bx]
  exact Oz q l _ _
theorem Bk {w h:Int} {b:List Int} {a d:Int} (q s q':List Int):vis w h b a d (s,q++q')=((vis w h b a d (s,q')).1,q++(vis w h b a d (s,q')).2):=Oz q _ _ _
inductive Run (w h:Int) (b:List Int):List Int→List Int→List Int→Int→List Int→Prop
 | done (s:List Int) (d:Int):Run w h b s [] [] d s
 | level {s:List Int} {x:Int} {nx:List Int} {d:Int} {r:List Int}:Run w h b s (x::nx) [] (d+1) r→Run w h b s [] (x::nx) d r
 | node {s:List Int} {a:Int} {rest nx:List Int} {d:Int} {r:List Int}:Run w h b (vis w h b a d (s,nx)).1 rest (vis w h b a d (s,nx)).2 d r→Run w h b s (a::rest) nx d r
structure Inv (w h:Int) (s rest nx:List Int) (d:Int):Prop where
 len:(s.length:Int)=cnt w h
 fr:∀v∈rest,isN w h v∧rd s v=d-1
 nw:∀v∈nx,isN w h v∧rd s v=d
 one:1≤d
 sum:d+neg s+nx.length≤cnt w h
 low:∀v∈s,-1≤v∧v≤d
theorem Inv.level {w h:Int} {s nx:List Int} {x d:Int} (i:Inv w h s [] (x::nx) d):Inv w h s (x::nx) [] (d+1):=
 ⟨i.len,fun v hv=>⟨(i.nw v hv).1,by have:=(i.nw v hv).2;omega⟩,by simp,by have:=i.one;omega,by have:=i.sum;simp at this ⊢;omega,fun v hv=>by have:=i.low v hv;omega⟩
theorem Inv.node {w h:Int} {b s rest nx:List Int} {a d:Int} (i:Inv w h s (a::rest) nx d):Inv w h (vis w h b a d (s,nx)).1 rest (vis w h b a d (s,nx)).2 d:=by
 have h1:=i.one
 have e:=Nr (w:=w) (h:=h) (b:=b) (a:=a) (d:=d) (by omega) (s,nx)
 refine ⟨by rw [e.len];exact i.len,fun v hv=>?_,fun v hv=>?_,h1,?_,e.low i.low⟩
 ·obtain ⟨h2,h3⟩:=i.fr v (by simp [hv])
  exact ⟨h2,by rw [e.old v h2.1 (by simp only;omega)];exact h3⟩
 ·rcases e.new v hv with h2|h2
  ·obtain ⟨h3,h4⟩:=i.nw v h2
   exact ⟨h3,by rw [e.old v h3.1 (by simp only;omega)];exact h4⟩
  ·exact h2
 ·have:=e.sum;have:=i.sum;simp only at *;omega
theorem qx {w h:Int} {b:List Int}:∀(m:Nat) (s rest nx:List Int) (d:Int),3*neg s+2*nx.length+rest.length≤m→Inv w h s rest nx d→∃r,Run w h b s rest nx d r:=by
 intro m
 induction m with
 | zero=>
  intro s rest nx d hm i
  cases rest with
  | nil=>cases nx with
   | nil=>exact ⟨s,.done s d⟩
   | cons x nx=>simp at hm
  | cons a rest=>simp at hm
 | succ m ih=>
  intro s rest nx d hm i
  cases rest with
  | nil=>cases nx with
   | nil=>exact ⟨s,.done s d⟩
   | cons x nx=>
    obtain ⟨r,hr⟩:=ih s (x::nx) [] (d+1) (by simp at hm ⊢;omega) i.level
    exact ⟨r,.level hr⟩
  | cons a rest=>
   have e:=(Nr (w:=w) (h:=h) (b:=b) (a:=a) (d:=d) (by have:=i.one;omega) (s,nx)).sum
   have e2:=(Nr (w:=w) (h:=h) (b:=b) (a:=a) (d:=d) (by have:=i.one;omega) (s,nx))
   have h1:nx.length≤(vis w h b a d (s,nx)).2.length:=by
    have:=Bk (w:=w) (h:=h) (b:=b) (a:=a) (d:=d) nx s []
    rw [List.append_nil] at this;rw [this];simp
   simp only at e
   obtain ⟨r,hr⟩:=ih (vis w h b a d (s,nx)).1 rest (vis w h b a d (s,nx)).2 d (by simp at hm;omega) i.node
   exact ⟨r,.node hr⟩
def start (w h root:Int):List Int:=(List.replicate (cnt w h).toNat (-1)).set root.toNat 0
theorem Em {w h root:Int} (hr:isN w h root):Inv w h (start w h root) [root] [] 1∧((neg (start w h root):Nat):Int)+1=cnt w h:=by
 have hc:=Qg w h
 have hl:root<((List.replicate (cnt w h).toNat (-1:Int)).length:Int):=by have:=hr.2;simp;omega
 have h0:rd (List.replicate (cnt w h).toNat (-1:Int)) root=-1:=by
  have:=A8 hr.1 hl
  exact List.eq_of_mem_replicate this
 have h1:=I2 (v:=0) hr.1 hl (by omega) (by omega)
 have h2:neg (List.replicate (cnt w h).toNat (-1:Int))=(cnt w h).toNat:=by unfold neg;simp [List.countP_replicate]
 rw [h2] at h1
 have h3:((neg (start w h root):Nat):Int)+1=cnt w h:=by unfold start;omega
 refine ⟨⟨by unfold start;simp;omega,fun v hv=>?_,by simp,by omega,by simp;omega,fun v hv=>?_⟩,h3⟩
 ·simp only [List.mem_singleton] at hv
  subst hv
  refine ⟨hr,?_⟩
  unfold start;rw [Jh hr.1 hl hr.1,if_pos rfl];omega
 ·rcases List.mem_or_eq_of_mem_set hv with h6|rfl
  ·have:=List.eq_of_mem_replicate h6;omega
  ·omega
def rootOk (w h:Int) (b:List Int) (root:Int):Prop:=meshOk w h b∧isN w h root
instance (w h:Int) (b:List Int) (root:Int):Decidable (rootOk w h b root):=inferInstanceAs (Decidable (_∧_))
theorem Ef {w h:Int} (b:List Int) {root:Int} (hr:isN w h root):∃r,Run w h b (start w h root) [root] [] 1 r:=qx _ _ _ _ _ (Nat.le_refl _) (Em hr).1
noncomputable def depths (w h:Int) (b:List Int) (root:Int):List Int:=if H:rootOk w h b root then Classical.choose (Ef b H.2) else []
def conn (w h:Int) (b:List Int):Prop:=meshOk w h b∧-1∉depths w h b 0
noncomputable instance (w h:Int) (b:List Int):Decidable (conn w h b):=inferInstanceAs (Decidable (_∧_))
def toRoot (w h:Int) (b d:List Int) (i:Int) (p:Nat):Prop:=link w h b (4*i+p)∧rd d (next w h i p)=rd d i-1
instance (w h:Int) (b d:List Int) (i:Int) (p:Nat):Decidable (toRoot w h b d i p):=inferInstanceAs (Decidable (_∧_))
def Hi (d:Int) (x:List Int×List Int):Prop:=∀v∈x.1,v<d∨(v=d∧x.2≠[])
theorem wo {w h:Int} {b:List Int} {a d:Int} {x:List Int×List Int} {p:Nat} (hx:Hi d x):Hi d (vst w h b a d x p):=by
 unfold vst
 split
 ·intro v hv
  rcases List.mem_or_eq_of_mem_set hv with h6|rfl
  ·rcases hx v h6 with h7|h7
   ·exact .inl h7
   ·exact .inr ⟨h7.1,by simp⟩
  ·exact .inr ⟨rfl,by simp⟩
 ·exact hx
theorem Lv {w h:Int} {b:List Int} {a d:Int}:∀(l:List Nat) (x:List Int×List Int),Hi d x→Hi d (l.foldl (vst w h b a d) x)
 | [],x,hx=>hx
 | p::l,x,hx=>Lv l _ (wo hx)
theorem Run.hi {w h:Int} {b s rest nx:List Int} {d:Int} {r:List Int} (R:Run w h b s rest nx d r):Inv w h s rest nx d→Hi d (s,nx)→∀v∈r,v<cnt w h:=by
 induction R with
 | done s d=>
  intro i hh v hv
  rcases hh v hv with h1|h1
  ·have:=i.sum;simp at this;omega
  ·exact absurd rfl h1.2
 | level _ ih=>
  exact fun i hh=>ih i.level (fun v hv=>by rcases hh v hv with h1|h1<;>exact .inl (by omega))
 | node _ ih=>exact fun i hh=>ih i.node (Lv _ _ hh)
def inP (P:List Int) (a:Int):Prop:=0≤a∧a<P.length
instance (P:List Int) (a:Int):Decidable (inP P a):=inferInstanceAs (Decidable (_∧_))
def chain (t:List Int):Nat→Int→List Int
 | 0,_=>[]
 | k+1,v=>if inP t v then v::chain t k (rd t v) else []
end Go.Proofs.YtmddnnecgnpccaaGreat.V
set_option linter.all false
namespace Go.Proofs.YtmddnnecgnpccaaGreat.V
open Go Go.VM Go.Proofs
set_option maxRecDepth 10000
variable {frz:Nat} {H:Heap}
abbrev dIntS:Dt Value (List Int):=dFlat Fl.int 3 1073741824
def Made2 {V A:Type} (T:Dt V A) (H:Heap) (a:A) (ok:Bool) (r:Value) (H':Heap):Prop:=∃u,r=.tuple #[u,.bool ok]∧T.Made H a u H'
abbrev MeshD:=Int×Int×List Int
def dMesh:Dt Value MeshD where
 val v a:=.agg #[.int .i64 a.1,.int .i64 a.2.1,v]
 Ow H v a:=dIntS.Ow H v a.2.2
 ids:=VM.ids
 frame h k:=dIntS.frame h k
 lt h:=dIntS.lt h
theorem Ys (v:Value) (a:MeshD):dMesh.val v a=.agg #[.int .i64 a.1,.int .i64 a.2.1,v]:=rfl
theorem Y5 {v:Value} {a:MeshD} (h:dMesh.Ow H v a):VM.one v=true∧v.cells=#[v]:=⟨h.1.rd.one',h.1.rd.cells⟩
theorem Xi {v:Value} {a:List Int} (h:dIntS.Ow H v a):VM.one v=true∧v.cells=#[v]:=⟨h.1.rd.one',h.1.rd.cells⟩
def dTable:Dt Value (List Int) where
 val v _:=.agg #[v]
 Ow H v a:=dIntS.Ow H v a
 ids:=VM.ids
 frame h k:=dIntS.frame h k
 lt h:=dIntS.lt h
theorem Xk (v:Value) (a:List Int):dTable.val v a=.agg #[v]:=rfl
theorem Xh {v:Value} {a:List Int} (h:dTable.Ow H v a):VM.one v=true∧v.cells=#[v]:=⟨h.1.rd.one',h.1.rd.cells⟩
abbrev ClassesD:=List Int×List Int
def dClasses:Dt (Value×Value) ClassesD where
 val v _:=.agg #[v.1,v.2]
 Ow H v a:=dIntS.Ow H v.1 a.1∧dIntS.Ow H v.2 a.2
 ids v:=VM.ids v.1++VM.ids v.2
 frame h k:=⟨dIntS.frame h.1 fun i hi=>k i (List.mem_append.2 (.inl hi)),dIntS.frame h.2 fun i hi=>k i (List.mem_append.2 (.inr hi))⟩
 lt h i hi:=by
  rcases List.mem_append.1 hi with hi|hi
  ·exact dIntS.lt h.1 i hi
  ·exact dIntS.lt h.2 i hi
theorem Wo (v:Value×Value) (a:ClassesD):dClasses.val v a=.agg #[v.1,v.2]:=rfl
theorem Wr {v:Value×Value} {a:ClassesD} (h:dClasses.Ow H v a):(VM.one v.1=true∧v.1.cells=#[v.1])∧VM.one v.2=true∧v.2.cells=#[v.2]:=⟨⟨h.1.1.rd.one',h.1.1.rd.cells⟩,h.2.1.rd.one',h.2.1.rd.cells⟩
abbrev FlitD:=Int×Int×Int×Bool×Bool
def flF:Fl FlitD:=⟨5,fun a=>[.int .i64 a.1,.int .i64 a.2.1,.int .i64 a.2.2.1,.bool a.2.2.2.1,.bool a.2.2.2.2],fun _=>rfl⟩
@[simp] theorem Y4:flF.n=5:=rfl
theorem Wb (a:FlitD):flF.f a=[.int .i64 a.1,.int .i64 a.2.1,.int .i64 a.2.2.1,.bool a.2.2.2.1,.bool a.2.2.2.2]:=rfl
theorem Yr (xs:List FlitD):ones (cellsOf flF xs)=true:=by
 induction xs with
 | nil=>rfl
 | cons a l ih=>rw [Wg];simp [ih,Wb]
theorem Qs {P:Program} {H:Heap} {s:TypeId} {f:Nat} (a:Addr):vfieldAddr P H s f (.pointer (some a))=match VM.look H a with
 | some _=>(match finfo P s f with|some (o,_,_)=>some (.pointer (some ⟨a.block,a.off+o,a.spot⟩))|none=>none)
 | none=>none:=rfl
abbrev SSD:=List (List FlitD)
abbrev SSV:=Value×List Value
def dSS:Dt SSV SSD where
 val v _:=v.1
 Ow H v a:=OwL flF 102 75 H v.1 v.2 a∧a.length≤2097152∧∀xs∈a,xs.length≤67108864
 ids v:=idsL v.1 v.2
 frame h k:=⟨h.1.frame k,h.2⟩
 lt h:=h.1.lt
theorem E3 {α:Type} (xss:List (List α)) {i:Nat} (h:i<xss.length):((xss.take (i+1)).map List.length).sum=((xss.take i).map List.length).sum+xss[i].length:=by
 rw [List.take_succ_eq_append_getElem h,List.map_append,List.sum_append];simp
theorem It {α:Type} (xss:List (List α)):∀xs∈xss,xs.length≤(xss.map List.length).sum:=by
 induction xss with
 | nil=>simp
 | cons a l ih=>
  intro xs hx;rcases List.mem_cons.1 hx with rfl|hx
  ·simp
  ·have:=ih xs hx;simp;omega
theorem Q9 {α:Type} {D:Fl α} {v:Value} {hs:List Value} {xss:List (List α)} (h:RdL D H v hs xss) {ty e:TypeId} (he:eltp Tryz.prog ty=some (e,1)) (ht:tsz Tryz.prog e=some (false,1)) {j:Nat} (hj:j<xss.length) :
 ∃a,hs[j]? = some a∧vindexAddr Tryz.prog H ty v (.int .i64 j)=some (elp v j)∧vload Tryz.prog H e (elp v j)=some a∧Rd D H a xss[j]:=by
 have hj':j<hs.length:=by rw [h.2.1];exact hj
 have q1:=h.1.idx (P:=Tryz.prog) (ty:=ty) (e:=e) (by simpa using he) (i:=(j:Int)) (by omega) (by omega)
 have q2:=h.1.cell1 (P:=Tryz.prog) rfl ht hj'
 refine ⟨hs[j],by simp [hj'],by simpa using q1,by simpa using q2,h.2.2 j _ _ (by simp [hj']) (by simp [hj])⟩
theorem Wv {l m:List Nat} {n:Nat} (h1:l.Nodup) (h2:m.Nodup) (h3:∀i∈l,i<n) (h4:∀i∈m,n≤i):(l++m).Nodup:=
 List.nodup_append.2 ⟨h1,h2,fun a ha b hb e=>by have:=h3 a ha;have:=h4 b hb;omega⟩
def dAnd {V A W B:Type} (T:Dt V A) (U:Dt W B):Dt (V×W) (A×B) where
 val _ _:=undef
 Ow H v a:=T.Ow H v.1 a.1∧U.Ow H v.2 a.2
 ids v:=T.ids v.1++U.ids v.2
 frame h k:=⟨T.frame h.1 fun i hi=>k i (List.mem_append.2 (.inl hi)),U.frame h.2 fun i hi=>k i (List.mem_append.2 (.inr hi))⟩
 lt h i hi:=by
  rcases List.mem_append.1 hi with hi|hi
  ·exact T.lt h.1 i hi
  ·exact U.lt h.2 i hi
def dNone (A:Type):Dt Unit A where
 val _ _:=undef
 Ow _ _ _:=True
 ids _:=[]
 frame _ _:=trivial
 lt _ i hi:=by simp at hi
abbrev NetD:=MeshD×ClassesD×SSD×List Int×List Int×SSD×SSD×Int
noncomputable instance:DecidableEq NetD:=fun _ _=>Classical.propDecidable _
abbrev NetV:=Value×(Value×Value)×SSV×Value×Value×SSV×SSV×Unit
def dNet0:Dt NetV NetD:=dAnd dMesh (dAnd dClasses (dAnd dSS (dAnd dIntS (dAnd dIntS (dAnd dSS (dAnd dSS (dNone Int)))))))
def netVal (v:NetV) (a:NetD):Value:=
 .agg #[.int .i64 a.1.1,.int .i64 a.1.2.1,v.1,v.2.1.1,v.2.1.2,v.2.2.1.1,v.2.2.2.1,v.2.2.2.2.1,v.2.2.2.2.2.1.1,v.2.2.2.2.2.2.1.1,.int .i64 a.2.2.2.2.2.2.2]
def dNet:Dt NetV NetD:={ dNet0 with val:=netVal }
theorem Qc (v:NetV) (a:NetD):dNet.val v a =
 .agg #[.int .i64 a.1.1,.int .i64 a.1.2.1,v.1,v.2.1.1,v.2.1.2,v.2.2.1.1,v.2.2.2.1,v.2.2.2.2.1,v.2.2.2.2.2.1.1,v.2.2.2.2.2.2.1.1,.int .i64 a.2.2.2.2.2.2.2]:=rfl
theorem Xy {v:SSV} {a:SSD} (h:dSS.Ow H v a):VM.one v.1=true∧v.1.cells=#[v.1]:=⟨h.1.1.rd.one',h.1.1.rd.cells⟩
theorem Qh {v:NetV} {a:NetD} (h:dNet.Ow H v a):(VM.one v.1=true∧v.1.cells=#[v.1])∧(VM.one v.2.1.1=true∧v.2.1.1.cells=#[v.2.1.1])∧(VM.one v.2.1.2=true∧v.2.1.2.cells=#[v.2.1.2])∧(VM.one v.2.2.1.1=true∧v.2.2.1.1.cells=#[v.2.2.1.1])∧
 (VM.one v.2.2.2.1=true∧v.2.2.2.1.cells=#[v.2.2.2.1])∧(VM.one v.2.2.2.2.1=true∧v.2.2.2.2.1.cells=#[v.2.2.2.2.1])∧(VM.one v.2.2.2.2.2.1.1=true∧v.2.2.2.2.2.1.1.cells=#[v.2.2.2.2.2.1.1])∧(VM.one v.2.2.2.2.2.2.1.1=true∧v.2.2.2.2.2.2.1.1.cells=#[v.2.2.2.2.2.2.1.1]):=by
 obtain ⟨h1,h2,h3,h4,h5,h6,h7,_⟩:=h
 exact ⟨Y5 h1,(Wr h2).1,(Wr h2).2,Xy h3,Xi h4,Xi h5,Xy h6,Xy h7⟩
theorem Bm (w h:Int) (v u:Value) (b T:List Int) (a to:Int) (hI:IsI H v b) (hT:IsI H u T) (hl:b.length≤1073741824) (hz:tsized w h b T) (ha:isN w h a) (hto:isN w h to) :
 vcall C frz 116 [.agg #[.int .i64 w,.int .i64 h,v],.agg #[u],.int .i64 a,.int .i64 to] H =
  some (.slice (some ⟨H.length,0,some 0⟩) (walk w h b T a to).length 0,H++[⟨(walk w h b T a to).map (.int .i64),0,3⟩]):=by
 rw [Qb (fn:=Tryz.f116) Tryz.func116 rfl (by kernel_rfl) rfl]
 simp [hI.one',hI.cells,hT.one',hT.cells,Qx]
 have hc:=Qg w h
 refine Yp (fun n t H'=>∃(o:List Int) (g:Nat) (x:Int) (G:Heap),n=(cnt w h).toNat+1-o.length∧t 3=.int .i64 to∧t 4=.pointer (some ⟨H.length,0,some 0⟩)∧t 5=.pointer (some ⟨H.length+1,0,some 0⟩)∧
  t 9=.slice (some ⟨H.length+2,0,some g⟩) o.length 0∧t 10=.int .i64 (cnt w h)∧t 11=.int .i64 x∧
  H'=H++⟨[.int .i64 w,.int .i64 h,v],0,28⟩::⟨[u],0,30⟩::⟨o.map (.int .i64),g,3⟩::G∧
  ((o.length≤(cnt w h).toNat∧isN w h x∧walkN w h b T to ((cnt w h).toNat-o.length) x o=walk w h b T a to)∨(o.length=(cnt w h).toNat+1∧walk w h b T a to=[]))) ?_
  (n:=(cnt w h).toNat+1) ⟨[],0,a,[],by simp [ha,walk]⟩
 rintro n t H' ⟨o,g,x,G,rfl,h3,h4,h5,h9,h10,h11,rfl,ho⟩ ih
 simp [h3,h4,h5,h9,h10,h11]
 refine Qr _ ?_ ?_<;>intro hn
 ·obtain ⟨ho1,hx,hw⟩:o.length≤(cnt w h).toNat∧isN w h x∧walkN w h b T to ((cnt w h).toNat-o.length) x o=walk w h b T a to:=by
   rcases ho with ho|ho
   ·exact ho
   ·omega
  obtain ⟨k0,k1,k2,k3⟩:=Ua hx hto
  have hTl:=hz.2
  have e1:IntKind.i64.wrap (x*cnt w h)=x*cnt w h:=w64 (by omega) (by omega)
  have e2:IntKind.i64.wrap (x*cnt w h+to)=x*cnt w h+to:=w64 (by omega) (by have:=hto.2;omega)
  have q1:∀L,vindexAddr Tryz.prog (H++L) 26 u (.int .i64 (x*cnt w h+to))=some (elp u (x*cnt w h+to).toNat):=fun L=>hT.idxA (e:=3) (by simp) k0 (by omega)
  have q2:∀L,vload Tryz.prog (H++L) 3 (elp u (x*cnt w h+to).toNat)=some (.int .i64 (portOf w h T x to)):=fun L=>hT.loadA (by simp) (by omega)
  simp [h3,h4,h5,h9,h10,h11,e1,e2,q1,q2]
  refine Qr _ ?_ ?_<;>intro hp
  ·have hw':walk w h b T a to=if x=to then o else []:=by
    rw [← hw];cases (cnt w h).toNat-o.length<;>simp [walkN,hp]
   simp [h3,h4,h5,h9,h10,h11,hp]
   refine Qr _ ?_ ?_<;>intro hq
   ·simp [h3,h4,h5,h9,h10,h11,hq] at hw' ⊢
    simp [hw']
   ·simp [h3,h4,h5,h9,h10,h11,hq] at hw' ⊢
    simp [hw']
  ·simp [h3,h4,h5,h9,h10,h11,hp]
   have hw0:¬stepOk w h b T x to→walk w h b T a to=[]:=fun hh=>by
    rw [← hw];cases (cnt w h).toNat-o.length<;>simp [walkN,hp,hh]
   have e3:IntKind.i64.wrap (4*x)=4*x:=w64 (by have:=hx.1;omega) (by have:=hx.2;omega)
   simp [Q4]
   refine We _ _ ?_ ?_<;>intro hr
   ·have e4:IntKind.i64.wrap (4*x+portOf w h T x to)=4*x+portOf w h T x to:=w64 (by have:=hx.1;have:=hr.1;omega) (by have:=hx.2;have:=hr.2;omega)
    simp [h3,h4,h5,h9,h10,h11,hp,hr,e3,e4,M4 _ _ _ _ _ (hI.app _) hl,hI.one',hI.cells]
    refine Qr _ ?_ ?_<;>intro hh
    ·simp [h3,h4,h5,h9,h10,h11,hp,hr,hh,e3,e4,Ym,hI.one',hI.cells]
     obtain ⟨s1,s2,s3⟩:=X9 hr hh
     refine Yz (by omega) ?_
     refine ih ((cnt w h).toNat+1-(o.length+1)) _ _ ⟨o++[4*x+portOf w h T x to],g+1,next w h x (portOf w h T x to),_,by simp,by simp [h3],by simp [h4],by simp [h5],by simp,by simp [h10],by simp,by simp;rfl,?_⟩ (by omega)
     by_cases hlt:o.length<(cnt w h).toNat
     ·refine .inl ⟨by simp;omega,s3,?_⟩
      rw [show (cnt w h).toNat-o.length=((cnt w h).toNat-(o++[4*x+portOf w h T x to]).length)+1 by simp;omega] at hw
      rw [← hw,walkN,if_neg hp,if_pos ⟨hr,hh⟩]
     ·refine .inr ⟨by simp;omega,?_⟩
      rw [show (cnt w h).toNat-o.length=0 by omega] at hw
      rw [← hw,walkN,if_neg hp]
    ·have hw2:=hw0 (fun k=>hh k.2)
     simp [h3,h4,h5,h9,h10,h11,hp,hr,hh,e3,e4,hw2]
   ·have hw2:=hw0 (fun k=>hr k.1)
    simp [h3,h4,h5,h9,h10,h11,hp,hr,hw2]
 ·have hw2:walk w h b T a to=[]:=by
   rcases ho with ho|ho
   ·omega
   ·exact ho.2
  simp [h3,h4,h5,h9,h10,h11,hn,hw2]
theorem Ka (w h:Int) (v u:Value) (b T:List Int) (a to:Int) (hI:IsI H v b) (hT:IsI H u T) (hl:b.length≤1073741824) (hz:tsized w h b T) (ha:isN w h a) (hto:isN w h to) :
 vcall C frz 111 [.agg #[.int .i64 w,.int .i64 h,v],.agg #[u],.int .i64 a,.int .i64 to] H =
  some (.int .i64 (if inR 0 (portOf w h T a to) 4 then portOf w h T a to else -1),H):=by
 rw [Qb (fn:=Tryz.f111) Tryz.func111 rfl (by kernel_rfl) rfl]
 have hc:=Qg w h
 obtain ⟨k0,k1,k2,k3⟩:=Ua ha hto
 have hTl:=hz.2
 have hc2:cnt w h*cnt w h≤16*16:=Int.mul_le_mul hc.2 hc.2 hc.1 (by omega)
 have hc3:0*0≤cnt w h*cnt w h:=Int.mul_le_mul hc.1 hc.1 (by omega) hc.1
 have e0:IntKind.i64.wrap (cnt w h*cnt w h)=cnt w h*cnt w h:=w64 (by omega) (by omega)
 have e1:IntKind.i64.wrap (a*cnt w h)=a*cnt w h:=w64 (by omega) (by omega)
 have e2:IntKind.i64.wrap (a*cnt w h+to)=a*cnt w h+to:=w64 (by omega) (by have:=hto.2;omega)
 have q1:∀L,vindexAddr Tryz.prog (H++L) 26 u (.int .i64 (a*cnt w h+to))=some (elp u (a*cnt w h+to).toNat):=fun L=>hT.idxA (e:=3) (by simp) k0 (by omega)
 have q2:∀L,vload Tryz.prog (H++L) 3 (elp u (a*cnt w h+to).toNat)=some (.int .i64 (portOf w h T a to)):=fun L=>hT.loadA (by simp) (by omega)
 simp [hI.one',hI.cells,hT.one',hT.cells,Wk,Vd _ _ _ _ (hI.app _) hl,hz.1,Qv,Nz,ha,hto,e0,e1,e2,q1,q2,hT.lenA,hTl]
 try refine Qr _ ?_ ?_<;>intro hr<;>simp [hr,q1,q2,e1,e2]
def ret (H:Heap) (xs:List Int):Value×Heap:=if xs=[] then (.slice none 0 0,H) else (.slice (some ⟨H.length,0,some 0⟩) xs.length 0,H++[⟨xs.map (.int .i64),0,3⟩])
theorem wh (w h:Int) (v u:Value) (b T:List Int) (a to:Int) (hI:IsI H v b) (hT:IsI H u T) (hl:b.length≤1073741824) (hz:tsized w h b T) (ha:isN w h a) (hto:isN w h to) (hne:a≠to) :
 vcall C frz 91 [.agg #[.int .i64 w,.int .i64 h,v],.agg #[u],.int .i64 a,.int .i64 to] H=some (ret H (walk w h b T a to)):=by
 rw [Qb (fn:=Tryz.f91) Tryz.func91 rfl (by kernel_rfl) rfl]
 have hc:=Qg w h
 simp [hI.one',hI.cells,hT.one',hT.cells,Wk,Vd _ _ _ _ (hI.app _) hl,hz.1,Xe,ha,hto,hne]
 refine Yp (fun n t H'=>∃(o:List Int) (g:Nat) (x:Int) (G:Heap),n=(cnt w h).toNat+1-o.length∧t 3=.int .i64 to∧t 4=.pointer (some ⟨H.length,0,some 0⟩)∧t 5=.pointer (some ⟨H.length+1,0,some 0⟩)∧
  t 9=.slice (some ⟨H.length+2,0,some g⟩) o.length 0∧t 10=.int .i64 x∧
  H'=H++⟨[.int .i64 w,.int .i64 h,v],0,28⟩::⟨[u],0,30⟩::⟨o.map (.int .i64),g,3⟩::G∧
  o.length≤(cnt w h).toNat∧isN w h x∧walkN w h b T to ((cnt w h).toNat-o.length) x o=walk w h b T a to∧(o=[]→x≠to)) ?_
  (n:=(cnt w h).toNat+1) ⟨[],0,a,[],by simp [ha,walk,hne]⟩
 rintro n t H' ⟨o,g,x,G,rfl,h3,h4,h5,h9,h10,rfl,ho1,hx,hw,hox⟩ ih
 have hpa:=fun F L=>Ka (frz:=F) (H:=H++L) w h v u b T x to (hI.app _) (hT.app _) hl hz hx hto
 have hw0:portOf w h T x to≠4→¬stepOk w h b T x to→walk w h b T a to=[]:=fun hp hh=>by
  rw [← hw];cases (cnt w h).toNat-o.length<;>simp [walkN,hp,hh]
 simp [h3,h4,h5,h9,h10,hI.one',hI.cells,hT.one',hT.cells,hpa]
 have hnil:walk w h b T a to=[]→(Value.slice none 0 0,H)=ret H (walk w h b T a to):=fun hh=>by rw [hh];rfl
 by_cases hr:inR 0 (portOf w h T x to) 4
 ·have hlt:¬portOf w h T x to<0:=by have:=hr.1;omega
  simp [hr,hlt]
  refine Qr _ ?_ ?_<;>intro hp
  ·have hw':walk w h b T a to=if x=to then o else []:=by
    rw [← hw];cases (cnt w h).toNat-o.length<;>simp [walkN,hp]
   simp [h3,h4,h5,h9,h10,hp]
   refine Qr _ ?_ ?_<;>intro hq
   ·have hon:o≠[]:=fun hh=>hox hh hq
    rw [if_pos hq] at hw'
    simp [h3,h4,h5,h9,h10,hq,hw',ret,hon]
   ·rw [if_neg hq] at hw'
    simp [h3,h4,h5,h9,h10,hq,hw',ret]
  ·have hr3:inR 0 (portOf w h T x to) 3:=⟨hr.1,by have:=hr.2;omega⟩
   have e3:IntKind.i64.wrap (4*x)=4*x:=w64 (by have:=hx.1;omega) (by have:=hx.2;omega)
   have e4:IntKind.i64.wrap (4*x+portOf w h T x to)=4*x+portOf w h T x to:=w64 (by have:=hx.1;have:=hr.1;omega) (by have:=hx.2;have:=hr.2;omega)
   simp [h3,h4,h5,h9,h10,hp,hI.one',hI.cells,e3,e4,Mh _ _ _ _ _ (hI.app _) hl,hz.1]
   refine We _ _ ?_ ?_<;>intro hh
   ·obtain ⟨s1,s2,s3⟩:=X9 hr3 hh
    have he:=fun F L=>Gm (frz:=F) (H:=H++L) w h v b (4*x+portOf w h T x to) (hI.app _) hh.1
    rw [s1,s2] at he
    simp [h3,h4,h5,h9,h10,hp,hh,hI.one',hI.cells,e3,e4,Wk]
    refine Qr _ ?_ ?_<;>intro hf
    ·have hwz:walk w h b T a to=[]:=by
      rw [show (cnt w h).toNat-o.length=0 by omega] at hw
      rw [← hw,walkN,if_neg hp]
     simp [h3,h4,h5,h9,h10,hp,hh,hf,hnil hwz]
    ·simp [h3,h4,h5,h9,h10,hp,hh,hf,hI.one',hI.cells,e3,e4]
     refine Yz (by omega) ?_
     simp [h3,h4,h5,h9,h10,hp,hh,hf,hI.one',hI.cells,e3,e4,he]
     refine ih ((cnt w h).toNat+1-(o.length+1)) _ _ ⟨o++[4*x+portOf w h T x to],g+1,next w h x (portOf w h T x to),_,by simp,by simp [h3],by simp [h4],by simp [h5],by simp,by simp,by simp;rfl,by simp;omega,s3,?_,by simp⟩ (by omega)
     rw [show (cnt w h).toNat-o.length=((cnt w h).toNat-(o++[4*x+portOf w h T x to]).length)+1 by simp;omega] at hw
     rw [← hw,walkN,if_neg hp,if_pos ⟨hr3,hh⟩]
   ·simp [h3,h4,h5,h9,h10,hp,hh]
    exact hnil (hw0 hp (fun hs=>hh hs.2))
 ·simp [hr]
  refine hnil (hw0 (fun hp=>hr ?_) fun hs=>hr ⟨hs.1.1,by have:=hs.1.2;omega⟩)
  rw [hp];exact ⟨by omega,by omega⟩
theorem Mm (w h:Int):IntKind.i64.wrap (cnt w h*cnt w h)=cnt w h*cnt w h:=by
 have hc:=Qg w h
 have hc2:cnt w h*cnt w h≤16*16:=Int.mul_le_mul hc.2 hc.2 hc.1 (by omega)
 have hc3:0*0≤cnt w h*cnt w h:=Int.mul_le_mul hc.1 hc.1 (by omega) hc.1
 exact w64 (by omega) (by omega)
theorem Bd (w h:Int) (v u:Value) (b T:List Int) (hI:IsI H v b) (hT:IsI H u T) (hl:b.length≤1073741824) :
 vcall C frz 115 [.agg #[.int .i64 w,.int .i64 h,v],.agg #[u]] H=some (.bool (decide (tsized w h b T)),H):=by
 rw [Qb (fn:=Tryz.f115) Tryz.func115 rfl (by kernel_rfl) rfl]
 simp [hI.one',hI.cells,hT.one',hT.cells,Qx,F4 _ _ _ _ (hI.app _) hl]
 refine We _ _ ?_ ?_<;>intro h1<;>simp [h1,tsized,hT.lenA,Mm,hI.one',hI.cells,hT.one',hT.cells,Qx,-Bool.decide_and]
def good (w h:Int) (b T:List Int) (a c:Nat):Prop:=((a:Int)=c→portOf w h T a a=4)∧((a:Int)≠c→walk w h b T a c≠[])
theorem Tz (w h:Int) (b T:List Int):tableOk w h b T↔tsized w h b T∧∀a,a<(cnt w h).toNat→∀c,c<(cnt w h).toNat→good w h b T a c:=by
 unfold tableOk good
 refine and_congr Iff.rfl ⟨fun k a ha c hc=>?_,fun k a ha c hc=>?_⟩
 ·exact ⟨fun e=>(k a ha c hc).1 (by omega),fun e=>(k a ha c hc).2 (by omega)⟩
 ·exact ⟨fun e=>(k a ha c hc).1 (by omega),fun e=>(k a ha c hc).2 (by omega)⟩
theorem Ww {w h:Int} {a:Nat} (k:a<(cnt w h).toNat):isN w h a:=⟨by omega,by omega⟩
theorem S5 (w h:Int) (v u:Value) (b T:List Int) (hI:IsI H v b) (hT:IsI H u T) (hl:b.length≤1073741824) :
 vcall C frz 93 [.agg #[.int .i64 w,.int .i64 h,v],.agg #[u]] H=some (.bool (decide (tableOk w h b T)),H):=by
 rw [Qb (fn:=Tryz.f93) Tryz.func93 rfl (by kernel_rfl) rfl]
 simp [hI.one',hI.cells,hT.one',hT.cells,Qx,Bd _ _ _ _ _ _ (hI.app _) (hT.app _) hl]
 refine Qr _ ?_ ?_<;>intro h1
 ·simp [h1,hI.one',hI.cells,hT.one',hT.cells,Qx]
  have hc:=Qg w h
  have no:∀i j:Nat,i<(cnt w h).toNat→j<(cnt w h).toNat→¬good w h b T i j→¬tableOk w h b T:=fun i j hi hj hg hh=>hg (((Tz w h b T).1 hh).2 i hi j hj)
  refine Yp (fun n t H'=>∃(i:Nat) (G:Heap),n=(cnt w h).toNat-i∧i≤(cnt w h).toNat∧t 2=.pointer (some ⟨H.length,0,some 0⟩)∧t 3=.pointer (some ⟨H.length+1,0,some 0⟩)∧
   t 5=.int .i64 (cnt w h)∧t 6=.int .i64 i∧H'=H++⟨[.int .i64 w,.int .i64 h,v],0,28⟩::⟨[u],0,30⟩::G∧∀a,a<i→∀c,c<(cnt w h).toNat→good w h b T a c) ?_
   (n:=(cnt w h).toNat) ⟨0,[],by simp⟩
  rintro n t H' ⟨i,G,rfl,hi,h2,h3,h5,h6,rfl,hk⟩ ih
  simp [h2,h3,h5,h6]
  refine Qr _ ?_ ?_<;>intro hlt
  ·simp [h2,h3,h5,h6,hlt]
   refine Yp (fun n t H'=>∃(j:Nat) (G:Heap),n=(cnt w h).toNat-j∧j≤(cnt w h).toNat∧t 2=.pointer (some ⟨H.length,0,some 0⟩)∧t 3=.pointer (some ⟨H.length+1,0,some 0⟩)∧
    t 5=.int .i64 (cnt w h)∧t 6=.int .i64 i∧t 7=.int .i64 j∧H'=H++⟨[.int .i64 w,.int .i64 h,v],0,28⟩::⟨[u],0,30⟩::G∧∀c,c<j→good w h b T i c) ?_
    (n:=(cnt w h).toNat) ⟨0,G,by simp [h2,h3,h5,h6]⟩
   clear h2 h3 h5 h6
   rintro n t H' ⟨j,G,rfl,hj,h2,h3,h5,h6,h7,rfl,hkj⟩ ih2
   simp [h2,h3,h5,h6,h7]
   refine Qr _ ?_ ?_<;>intro hlj
   ·have ni:i<(cnt w h).toNat:=by omega
    have nj:j<(cnt w h).toNat:=by omega
    obtain ⟨k0,k1,k2,k3⟩:=Ua (Ww ni) (Ww ni)
    have hTl:=h1.2
    have e1:IntKind.i64.wrap (i*cnt w h)=i*cnt w h:=w64 (by omega) (by omega)
    have e2:IntKind.i64.wrap (i*cnt w h+i)=i*cnt w h+i:=w64 (by omega) (by omega)
    have q1:∀L,vindexAddr Tryz.prog (H++L) 26 u (.int .i64 (i*cnt w h+i))=some (elp u (i*cnt w h+i:Int).toNat):=fun L=>hT.idxA (e:=3) (by simp) k0 (by omega)
    have q2:∀L,vload Tryz.prog (H++L) 3 (elp u (i*cnt w h+i:Int).toNat)=some (.int .i64 (portOf w h T i i)):=fun L=>hT.loadA (by simp) (by omega)
    have sw:=fun F L=>Bm (frz:=F) (H:=H++L) w h v u b T i j (hI.app _) (hT.app _) hl h1 (Ww ni) (Ww nj)
    have yes:=fun (t':Env) (G':Heap) (x2:t' 2=.pointer (some ⟨H.length,0,some 0⟩)) (x3:t' 3=.pointer (some ⟨H.length+1,0,some 0⟩)) (x5:t' 5=.int .i64 (cnt w h)) (x6:t' 6=.int .i64 i) (x7:t' 7=.int .i64 (j+1:Nat)) (hg:good w h b T i j)=>
     ih2 ((cnt w h).toNat-(j+1)) t' _ ⟨j+1,G',rfl,by omega,x2,x3,x5,x6,x7,rfl,fun c hc'=>by
      by_cases hcj:c<j
      ·exact hkj c hcj
      ·have:c=j:=by omega
       subst this;exact hg⟩ (by omega)
    simp [h2,h3,h5,h6,h7,hlj]
    refine We _ _ ?_ ?_<;>intro hij
    ·obtain rfl:i=j:=by omega
     simp [h2,h3,h5,h6,h7,hlj,e1,e2,q1,q2]
     refine We _ _ ?_ ?_<;>intro hp
     ·simp [h2,h3,h5,h6,h7,hlj,hp]
      refine yes _ _ (by simp [h2]) (by simp [h3]) (by simp [h5]) (by simp [h6]) ?_ ⟨fun _=>hp,fun hh=>absurd rfl hh⟩
      simp;rw [w64 (by omega) (by omega)]
     ·simp [h2,h3,h5,h6,h7,hlj,hp]
      exact no i i ni ni (fun hg=>hp (hg.1 rfl))
    ·simp [h2,h3,h5,h6,h7,hlj,hij,hI.one',hI.cells,hT.one',hT.cells,sw]
     refine Qr _ ?_ ?_<;>intro hp
     ·simp [h2,h3,h5,h6,h7,hlj,hp]
      exact no i j ni nj (fun hg=>hg.2 hij hp)
     ·simp [h2,h3,h5,h6,h7,hlj,hp]
      refine yes _ _ (by simp [h2]) (by simp [h3]) (by simp [h5]) (by simp [h6]) ?_ ⟨fun hh=>absurd hh hij,fun _=>hp⟩
      simp;rw [w64 (by omega) (by omega)]
   ·have:j=(cnt w h).toNat:=by omega
    subst this
    simp [h2,h3,h5,h6,h7,hlj]
    refine ih ((cnt w h).toNat-(i+1)) _ _ ⟨i+1,G,rfl,by omega,by simp [h2],by simp [h3],by simp [h5],?_,rfl,fun a ha c hc'=>?_⟩ (by omega)
    ·simp;rw [w64 (by omega) (by omega)]
    ·by_cases hai:a<i
     ·exact hk a hai c hc'
     ·have:a=i:=by omega
      subst this;exact hkj c hc'
  ·simp [h2,h3,h5,h6,hlt]
   have:i=(cnt w h).toNat:=by omega
   subst this
   exact (Tz w h b T).2 ⟨h1,hk⟩
 ·simp [h1]
  exact fun k=>h1 k.1
theorem Z3 (v:Value) (xs:List Int) (lo hi:Int) (hI:IsI H v xs) (hl:xs.length≤1073741824) :
 vcall C frz 40 [v,.int .i64 lo,.int .i64 hi] H=some (.bool (decide (∀x∈xs,inR lo x hi)),H):=by
 rw [Qb (fn:=Tryz.f40) Tryz.func40 rfl (by kernel_rfl) rfl]
 simp [hI.len]
 refine Yp (fun n t H'=>∃i:Nat,n=xs.length-i∧i≤xs.length∧t 1=.int .i64 lo∧t 2=.int .i64 hi∧t 9=v∧t 10=.int .i64 xs.length∧t 11=.int .i64 i∧H'=H∧∀x∈xs.take i,inR lo x hi) ?_ (n:=xs.length) ⟨0,by simp⟩
 rintro n t H' ⟨i,rfl,hi',h1,h2,h3,h4,h5,rfl,hj⟩ ih
 simp [h1,h2,h3,h4,h5]
 refine Qr _ ?_ ?_<;>intro h6
 ·simp [h1,h2,h3,h4,h5,h6,hI.idx,hI.load,Q6,Qv]
  refine Qr _ ?_ ?_<;>intro h7<;>simp [h1,h2,h3,h4,h5,h6,h7]
  ·refine ih (xs.length-(i+1)) _ _ ⟨i+1,rfl,by omega,by simp [h1],by simp [h2],by simp [h3],by simp [h4],?_,rfl,fun x hx=>?_⟩ (by omega)
   ·simp;rw [w64 (by omega) (by omega)]
   ·rw [List.take_succ_eq_append_getElem h6] at hx
    rcases List.mem_append.1 hx with hx|hx
    ·exact hj x hx
    ·rw [List.mem_singleton.1 hx];exact h7
  ·exact ⟨_,List.getElem_mem h6,h7⟩
 ·have:i=xs.length:=by omega
  subst this
  simp [h1,h2,h3,h4,h5]
  rwa [List.take_length] at hj
def rowPairs (n a m:Nat):List (Nat×Nat):=((List.range m).filter (fun c=>a≠c)).map fun c=>(a,c)
def allPairs (n m:Nat):List (Nat×Nat):=(List.range m).flatMap fun a=>rowPairs n a n
theorem La (n a m:Nat) (h:a=m):rowPairs n a (m+1)=rowPairs n a m:=by
 simp [rowPairs,List.range_succ,h]
theorem Kd (n a m:Nat) (h:a≠m):rowPairs n a (m+1)=rowPairs n a m++[(a,m)]:=by
 simp [rowPairs,List.range_succ,h]
theorem P0 (n m:Nat):allPairs n (m+1)=allPairs n m++rowPairs n m n:=by
 simp [allPairs,List.range_succ]
theorem Mi {n a c:Nat}:(a,c)∈allPairs n n↔a<n∧c<n∧a≠c:=by
 simp [allPairs,rowPairs]
theorem B9 (w h:Int) (f:Value) {Q:Value→Heap→Prop} (Inv:List (Nat×Nat)→Heap→Prop)
 (h0:Inv [] (H++[⟨[.int .i64 w,.int .i64 h],0,25⟩]))
 (hs:∀(done:List (Nat×Nat)) (a c:Nat) (H':Heap),a<(cnt w h).toNat→c<(cnt w h).toNat→a≠c→Inv done H'→wp (vclos (vcall C frz) f [.int .i64 a,.int .i64 c] H') fun r H''=>(r=.bool true∧Inv (done++[(a,c)]) H'')∨(r=.bool false∧Q (.bool false) H''))
 (he:∀H',Inv (allPairs (cnt w h).toNat (cnt w h).toNat) H'→Q (.bool true) H') :
 wp (vcall C frz 89 [.agg #[.int .i64 w,.int .i64 h],f] H) Q:=by
 rw [Qb (fn:=Tryz.f89) Tryz.func89 rfl (by kernel_rfl) rfl]
 have hc:=Qg w h
 simp [Wk]
 refine Qm (fun n t H'=>∃(i:Nat),n=(cnt w h).toNat-i∧i≤(cnt w h).toNat∧t 1=f∧t 5=.int .i64 (cnt w h)∧t 10=.int .i64 (cnt w h)∧t 11=.int .i64 i∧
  Inv (allPairs (cnt w h).toNat i) H') ?_ (n:=(cnt w h).toNat) ⟨0,by simp [allPairs,h0]⟩
 rintro n t H' ⟨i,rfl,hi,h1,h5,h10,h11,hk⟩ ih
 simp [h1,h5,h10,h11]
 refine Qf ?_ ?_<;>intro hlt
 ·simp [h1,h5,h10,h11,hlt]
  refine Qm (fun n t H'=>∃(j:Nat),n=(cnt w h).toNat-j∧j≤(cnt w h).toNat∧t 1=f∧t 5=.int .i64 (cnt w h)∧t 10=.int .i64 (cnt w h)∧t 11=.int .i64 i∧t 6=.int .i64 i∧t 14=.int .i64 (cnt w h)∧t 15=.int .i64 j∧
   Inv (allPairs (cnt w h).toNat i++rowPairs (cnt w h).toNat i j) H') ?_ (n:=(cnt w h).toNat) ⟨0,by simp [h1,h5,h10,h11,rowPairs,hk]⟩
  clear h1 h5 h10 h11 hk
  rintro n t H' ⟨j,rfl,hj,h1,h5,h10,h11,h6,h14,h15,hk⟩ ih2
  simp [h1,h5,h10,h11,h6,h14,h15]
  refine Qf ?_ ?_<;>intro hlj
  ·have ni:i<(cnt w h).toNat:=by omega
   have nj:j<(cnt w h).toNat:=by omega
   have yes:=fun (t':Env) (H':Heap) (x1:t' 1=f) (x5:t' 5=.int .i64 (cnt w h)) (x10:t' 10=.int .i64 (cnt w h)) (x11:t' 11=.int .i64 i) (x6:t' 6=.int .i64 i) (x14:t' 14=.int .i64 (cnt w h)) (x15:t' 15=.int .i64 (j+1:Nat)) (hg:Inv (allPairs (cnt w h).toNat i++rowPairs (cnt w h).toNat i (j+1)) H')=>
    ih2 ((cnt w h).toNat-(j+1)) t' H' ⟨j+1,rfl,by omega,x1,x5,x10,x11,x6,x14,x15,hg⟩ (by omega)
   simp [h1,h5,h10,h11,h6,h14,h15,hlj]
   refine Nu ?_ ?_<;>intro hij
   ·simp [h1,h5,h10,h11,h6,h14,h15,hlj,hij]
    refine yes _ _ (by simp [h1]) (by simp [h5]) (by simp [h10]) (by simp [h11]) (by simp [h6]) (by simp [h14]) ?_ (by rw [La _ _ _ (by omega)];exact hk)
    simp;rw [w64 (by omega) (by omega)]
   ·simp [h1,h5,h10,h11,h6,h14,h15,hlj,hij]
    refine Qd (hs _ i j H' ni nj (by omega) hk) ?_
    rintro r H'' (⟨rfl,hq⟩|⟨rfl,hq⟩)
    ·simp [h1,h5,h10,h11,h6,h14,h15,hlj,hij]
     refine yes _ _ (by simp [h1]) (by simp [h5]) (by simp [h10]) (by simp [h11]) (by simp [h6]) (by simp [h14]) ?_ (by rw [Kd _ _ _ (by omega),← List.append_assoc];exact hq)
     simp;rw [w64 (by omega) (by omega)]
    ·simp [h1,h5,h10,h11,h6,h14,h15,hlj,hij]
     exact hq
  ·have:j=(cnt w h).toNat:=by omega
   subst this
   simp [h1,h5,h10,h11,h6,h14,h15,hlj]
   refine ih ((cnt w h).toNat-(i+1)) _ _ ⟨i+1,rfl,by omega,by simp [h1],by simp [h5],by simp [h10],?_,by rw [P0];exact hk⟩ (by omega)
   ·simp;rw [w64 (by omega) (by omega)]
 ·simp [h1,h5,h10,h11,hlt]
  have:i=(cnt w h).toNat:=by omega
  subst this
  exact he _ hk
theorem Im (w h:Int) (v u:Value) (b T:List Int) (a c:Int) (r1 r2:Nat) (hI:IsI H v b) (hT:IsI H u T) (hl:b.length≤1073741824) (hz:tsized w h b T) (ha:isN w h a) (hto:isN w h c) (hne:a≠c)
 (g1:H[r1]? = some ⟨[.int .i64 w,.int .i64 h,v],0,28⟩) (g2:H[r2]? = some ⟨[u],0,30⟩) :
 vcall C frz 90 [.int .i64 a,.int .i64 c,.pointer (some ⟨r1,0,some 0⟩),.pointer (some ⟨r2,0,some 0⟩)] H=some (.bool (!decide (walk w h b T a c=[])),H):=by
 rw [Qb (fn:=Tryz.f90) Tryz.func90 rfl (by kernel_rfl) rfl]
 simp [VM.look,g1,g2,hI.one',hI.cells,hT.one',hT.cells,wh _ _ _ _ _ _ _ _ hI hT hl hz ha hto hne]
 by_cases hw:walk w h b T a c=[]
 ·simp [ret,hw]
 ·have:0<(walk w h b T a c).length:=List.length_pos_iff.2 hw
  simp [ret,hw,this]
theorem Et (w h:Int) (v u:Value) (b T:List Int) (hI:IsI H v b) (hT:IsI H u T) (hl:b.length≤1073741824) :
 wp (vcall C frz 66 [.agg #[.int .i64 w,.int .i64 h,v],.agg #[u]] H) (fun r _=>r=.bool (decide (tableOk w h b T))):=by
 rw [Qb (fn:=Tryz.f66) Tryz.func66 rfl (by kernel_rfl) rfl]
 simp [hI.one',hI.cells,hT.one',hT.cells,Wk,Vd _ _ _ _ (hI.app _) hl]
 refine Nu ?_ ?_<;>intro hm
 ·simp [hm,hT.lenA,Mm]
  refine Qf ?_ ?_<;>intro hz
  ·simp [hz]
   have hs:tsized w h b T:=⟨hm,hz⟩
   have hc:=Qg w h
   refine Qm (fun n t H'=>∃(i:Nat),n=(cnt w h).toNat-i∧i≤(cnt w h).toNat∧t 2=.pointer (some ⟨H.length,0,some 0⟩)∧t 3=.pointer (some ⟨H.length+1,0,some 0⟩)∧t 5=.int .i64 (cnt w h)∧t 22=.int .i64 (cnt w h)∧t 23=.int .i64 i∧
    H'=H++[⟨[.int .i64 w,.int .i64 h,v],0,28⟩,⟨[u],0,30⟩]∧∀a,a<i→portOf w h T a a=4) ?_ (n:=(cnt w h).toNat) ⟨0,by simp⟩
   rintro n t H' ⟨i,rfl,hi,h2,h3,h5,h22,h23,rfl,hk⟩ ih
   simp [h2,h3,h5,h22,h23]
   refine Qf ?_ ?_<;>intro hlt
   ·have ni:i<(cnt w h).toNat:=by omega
    obtain ⟨k0,k1,k2,k3⟩:=Ua (Ww ni) (Ww ni)
    have e1:IntKind.i64.wrap (i*cnt w h)=i*cnt w h:=w64 (by omega) (by omega)
    have e2:IntKind.i64.wrap (i*cnt w h+i)=i*cnt w h+i:=w64 (by omega) (by omega)
    have q1:∀L,vindexAddr Tryz.prog (H++L) 26 u (.int .i64 (i*cnt w h+i))=some (elp u (i*cnt w h+i:Int).toNat):=fun L=>hT.idxA (e:=3) (by simp) k0 (by omega)
    have q2:∀L,vload Tryz.prog (H++L) 3 (elp u (i*cnt w h+i:Int).toNat)=some (.int .i64 (portOf w h T i i)):=fun L=>hT.loadA (by simp) (by omega)
    simp [h2,h3,h5,h22,h23,hlt,e1,e2,q1,q2]
    refine Qf ?_ ?_<;>intro hp
    ·simp [h2,h3,h5,h22,h23,hlt,hp]
     refine ih ((cnt w h).toNat-(i+1)) _ _ ⟨i+1,rfl,by omega,by simp [h2],by simp [h3],by simp [h5],by simp [h22],?_,rfl,fun a ha=>?_⟩ (by omega)
     ·simp;rw [w64 (by omega) (by omega)]
     ·by_cases hai:a<i
      ·exact hk a hai
      ·have:a=i:=by omega
       subst this;exact hp
    ·simp [h2,h3,h5,h22,h23,hlt,hp]
     exact fun hh=>hp ((hh.2 i ni i ni).1 rfl)
   ·simp [h2,h3,h5,h22,h23,hlt]
    have:i=(cnt w h).toNat:=by omega
    subst this
    refine Qd (B9 w h _ (Q:=fun r _=>r=.bool (decide (tableOk w h b T))) (fun done H'=>∃L,H'=H++[⟨[.int .i64 w,.int .i64 h,v],0,28⟩,⟨[u],0,30⟩]++L∧∀p∈done,walk w h b T p.1 p.2≠[]) ⟨_,rfl,by simp⟩ ?_ ?_) ?_
    ·rintro done a c _ ha hc' hne ⟨L,rfl,hd⟩
     simp
     rw [Im w h v u b T a c _ _ (hI.app _) (hT.app _) hl hs (Ww ha) (Ww hc') (by omega) (by simp) (by simp)]
     simp
     by_cases hw:walk w h b T a c=[]
     ·refine .inr ⟨hw,?_⟩
      exact fun hh=>(hh.2 a (by omega) c (by omega)).2 (by omega) hw
     ·refine .inl ⟨hw,fun p q hp=>?_⟩
      rcases hp with hp|⟨rfl,rfl⟩
      ·exact hd (p,q) hp
      ·exact hw
    ·rintro _ ⟨L,rfl,hd⟩
     simp
     exact ⟨hs,fun a ha c hc'=>⟨fun _=>hk a ha,fun hne=>hd (a,c) (Mi.2 ⟨ha,hc',hne⟩)⟩⟩
    ·rintro _ H' rfl
     simp
  ·simp [hz]
   exact fun hh=>hz hh.1.2
 ·simp [hm]
  exact fun hh=>hm hh.1.1
theorem Oa (w h:Int) (v u:Value) (b T:List Int) (hI:IsI H v b) (hT:IsI H u T) (hl:b.length≤1073741824) :
 vcall C frz 66 [.agg #[.int .i64 w,.int .i64 h,v],.agg #[u]] H=some (.bool (decide (tableOk w h b T)),H):=
 (Et w h v u b T hI hT hl).exact (by simp) rfl
def castOk (w h:Int) (b T:List Int) (a:Int) (ts:List Int):Prop:=tableOk w h b T∧isN w h a∧∀x∈ts,isN w h x
instance (w h:Int) (b T:List Int) (a:Int) (ts:List Int):Decidable (castOk w h b T a ts):=inferInstanceAs (Decidable (_∧_))
def classesOk (w h:Int) (b A B:List Int):Prop:=tableOk w h b A∧tableOk w h b B
instance (w h:Int) (b A B:List Int):Decidable (classesOk w h b A B):=inferInstanceAs (Decidable (_∧_))
abbrev PkD:=Int×Int×Int×Int×Int
def packetOk (w h:Int) (p:PkD):Prop:=inR 1 p.1 9999∧isN w h p.2.1∧isN w h p.2.2.1∧p.2.1≠p.2.2.1∧inR 0 p.2.2.2.1 1∧inR 1 p.2.2.2.2 5
instance (w h:Int) (p:PkD):Decidable (packetOk w h p):=inferInstanceAs (Decidable (_∧_))
def pkV (p:PkD):Value:=.agg #[.int .i64 p.1,.int .i64 p.2.1,.int .i64 p.2.2.1,.int .i64 p.2.2.2.1,.int .i64 p.2.2.2.2]
theorem Lj (w h:Int) (v u1 u2:Value) (b A B:List Int) (hI:IsI H v b) (h1:IsI H u1 A) (h2:IsI H u2 B) (hl:b.length≤1073741824) :
 vcall C frz 37 [.agg #[.int .i64 w,.int .i64 h,v],.agg #[u1,u2]] H=some (.bool (decide (classesOk w h b A B)),H):=by
 rw [Qb (fn:=Tryz.f37) Tryz.func37 rfl (by kernel_rfl) rfl]
 have one:=And.intro (And.intro h1.one' h1.cells) (And.intro h2.one' h2.cells)
 simp [hI.one',hI.cells,one,Oa _ _ _ _ _ _ (hI.app _) (h1.app _) hl]
 refine We _ _ ?_ ?_<;>intro g<;>simp [g,classesOk,hI.one',hI.cells,one,Oa _ _ _ _ _ _ (hI.app _) (h2.app _) hl]
theorem Vf (w h:Int) (v u1 u2:Value) (b A B:List Int) (hI:IsI H v b) (h1:IsI H u1 A) (h2:IsI H u2 B) (hl:b.length≤1073741824) :
 vcall C frz 72 [.agg #[.int .i64 w,.int .i64 h,v],.agg #[u1,u2]] H=some (.bool (decide (classesOk w h b A B)),H):=by
 rw [Qb (fn:=Tryz.f72) Tryz.func72 rfl (by kernel_rfl) rfl]
 have one:=And.intro (And.intro h1.one' h1.cells) (And.intro h2.one' h2.cells)
 simp [hI.one',hI.cells,one,S5 _ _ _ _ _ _ (hI.app _) (h1.app _) hl]
 refine We _ _ ?_ ?_<;>intro g<;>simp [g,classesOk,hI.one',hI.cells,one,S5 _ _ _ _ _ _ (hI.app _) (h2.app _) hl]
theorem U9 (w h:Int) (p:PkD):vcall C frz 19 [.agg #[.int .i64 w,.int .i64 h],pkV p] H=some (.bool (decide (packetOk w h p)),H):=by
 obtain ⟨i,a,b,c,l⟩:=p
 rw [Qb (fn:=Tryz.f19) Tryz.func19 rfl (by kernel_rfl) rfl]
 by_cases g1:inR 1 i 9999
 ·by_cases g2:isN w h a
  ·by_cases g3:isN w h b
   ·by_cases g4:a=b
    ·simp [pkV,Qv,Xe,g1,g2,g3,g4,packetOk]
    ·by_cases g5:inR 0 c 1
     ·by_cases g6:inR 1 l 5<;>simp [pkV,Qv,Xe,g1,g2,g3,g4,g5,g6,packetOk]
     ·simp [pkV,Qv,Xe,g1,g2,g3,g4,g5,packetOk]
   ·simp [pkV,Qv,Xe,g1,g2,g3,packetOk]
  ·simp [pkV,Qv,Xe,g1,g2,packetOk]
 ·simp [pkV,Qv,Xe,g1,packetOk]
theorem Zy (w h:Int) (p:PkD):vcall C frz 77 [.agg #[.int .i64 w,.int .i64 h],pkV p] H=some (.bool (decide (packetOk w h p)),H):=by
 obtain ⟨i,a,b,c,l⟩:=p
 rw [Qb (fn:=Tryz.f77) Tryz.func77 rfl (by kernel_rfl) rfl]
 by_cases g1:inR 1 i 9999
 ·by_cases g2:isN w h a
  ·by_cases g3:isN w h b
   ·by_cases g4:a=b
    ·simp [pkV,Q4,Xr,g1,g2,g3,g4,packetOk]
    ·by_cases g5:inR 0 c 1
     ·by_cases g6:inR 1 l 5<;>simp [pkV,Q4,Xr,g1,g2,g3,g4,g5,g6,packetOk]
     ·simp [pkV,Q4,Xr,g1,g2,g3,g4,g5,packetOk]
   ·simp [pkV,Q4,Xr,g1,g2,g3,packetOk]
  ·simp [pkV,Q4,Xr,g1,g2,packetOk]
 ·simp [pkV,Q4,Xr,g1,packetOk]
def pkF:Fl PkD:=⟨5,fun a=>[.int .i64 a.1,.int .i64 a.2.1,.int .i64 a.2.2.1,.int .i64 a.2.2.2.1,.int .i64 a.2.2.2.2],fun _=>rfl⟩
@[simp] theorem Uw:pkF.n=5:=rfl
theorem Xw (a:PkD):pkF.f a=[.int .i64 a.1,.int .i64 a.2.1,.int .i64 a.2.2.1,.int .i64 a.2.2.2.1,.int .i64 a.2.2.2.2]:=rfl
theorem Lc (xs:List PkD):ones (cellsOf pkF xs)=true:=by
 induction xs with
 | nil=>rfl
 | cons a l ih=>rw [Wg];simp [ih,Xw]
def flitOk (w h:Int) (f:FlitD):Prop:=isN w h f.2.1∧inR 0 f.2.2.1 1
instance (w h:Int) (f:FlitD):Decidable (flitOk w h f):=inferInstanceAs (Decidable (_∧_))
def flitsOk (w h:Int) (l:List FlitD):Prop:=∀f∈l,flitOk w h f
instance (w h:Int) (l:List FlitD):Decidable (flitsOk w h l):=inferInstanceAs (Decidable (∀f∈l,flitOk w h f))
def sizesOk (x:NetD):Prop:=(x.2.2.1.length:Int)=10*cnt x.1.1 x.1.2.1∧(x.2.2.2.1.length:Int)=10*cnt x.1.1 x.1.2.1∧(x.2.2.2.2.1.length:Int)=5*cnt x.1.1 x.1.2.1∧(x.2.2.2.2.2.1.length:Int)=cnt x.1.1 x.1.2.1∧(x.2.2.2.2.2.2.1.length:Int)=cnt x.1.1 x.1.2.1
instance (x:NetD):Decidable (sizesOk x):=inferInstanceAs (Decidable (_∧_))
def bufOk (w h:Int) (l:List FlitD) (c:Int):Prop:=l.length≤3∧(∀f∈l,f.2.2.1=c)∧flitsOk w h l
instance (w h:Int) (l:List FlitD) (c:Int):Decidable (bufOk w h l c):=inferInstanceAs (Decidable (_∧_))
def srcOk (w h:Int) (l:List FlitD):Prop:=l.length≤60∧flitsOk w h l
instance (w h:Int) (l:List FlitD):Decidable (srcOk w h l):=inferInstanceAs (Decidable (_∧_))
def netOk (x:NetD):Prop:=classesOk x.1.1 x.1.2.1 x.1.2.2 x.2.1.1 x.2.1.2∧sizesOk x∧(∀i,i<x.2.2.1.length→bufOk x.1.1 x.1.2.1 (x.2.2.1.getD i []) ((i:Int)%2))∧(∀l∈x.2.2.2.2.2.1,srcOk x.1.1 x.1.2.1 l)∧
 (∀o∈x.2.2.2.1,inR (-1) o 4)∧(∀o∈x.2.2.2.2.1,inR 0 o 9)∧inR 0 x.2.2.2.2.2.2.2 1000000
instance (x:NetD):Decidable (netOk x):=inferInstanceAs (Decidable (_∧_))
theorem Pf (w h:Int) (v:Value) (xs:List FlitD) (hI:Rd flF H v xs) (hl:xs.length≤1073741824) :
 vcall C frz 39 [.agg #[.int .i64 w,.int .i64 h],v] H=some (.bool (decide (flitsOk w h xs)),H):=by
 refine wp.exact (by simp) ?_ rfl
 rw [Qb (fn:=Tryz.f39) Tryz.func39 rfl (by kernel_rfl) rfl]
 generalize hB:decide (flitsOk w h xs)=B
 simp [hI.app.len (P:=Tryz.prog) (ty:=75) (by simp)]
 refine Qm (fun n t H'=>∃i:Nat,n=xs.length-i∧i≤xs.length∧t 2=.pointer (some ⟨H.length,0,some 0⟩)∧t 7=v∧t 8=.int .i64 xs.length∧t 9=.int .i64 i∧Chg H H' []∧H'[H.length]? = some ⟨[.int .i64 w,.int .i64 h],0,25⟩∧∀f∈xs.take i,flitOk w h f) ?_ (n:=xs.length)
  ⟨0,rfl,by omega,by simp,by simp,by simp,by simp,Chg.app _,by simp,by simp⟩
 rintro n t H' ⟨i,rfl,hi,t2,t7,t8,t9,c,b2,hk⟩ ih
 simp [t2,t7,t8,t9]
 refine Qf ?_ ?_<;>intro g
 ·have hi':i<xs.length:=by omega
  have rd:=hI.chg c (by simp)
  have q1:=rd.idx (P:=Tryz.prog) (ty:=75) (e:=102) (by simp) (i:=(i:Int)) (by omega) (by omega)
  have q2:=rd.load (P:=Tryz.prog) (e:=102) (by simp) hi'
  simp only [Int.toNat_natCast,Y4] at q1 q2
  have l0:=c.1
  have hF:H.length≤H'.length:=l0
  have b2':=fun r=>Qa (Qo b2 [r]) (Ql H'.length r) (by simp;have:=Q0 b2;omega)
  have hlt:=Q0 b2
  have hne:H'.length≠H.length:=by omega
  have key:flitOk w h xs[i]↔isN w h xs[i].2.1∧inR 0 xs[i].2.2.1 1:=Iff.rfl
  have hsucc:∀f∈xs.take (i+1),f∈xs.take i∨f=xs[i]:=fun f hf=>by
   rw [List.take_succ_eq_append_getElem hi'] at hf
   rcases List.mem_append.1 hf with hf|hf
   ·exact .inl hf
   ·exact .inr (List.mem_singleton.1 hf)
  have hno:¬flitOk w h xs[i]→¬flitsOk w h xs:=fun hh k=>hh (k _ (List.getElem_mem hi'))
  simp [t2,t7,t8,t9,q1,q2,hF,Wb,VM.look,b2,Qo b2,Xe,Qv]
  by_cases g1:isN w h xs[i].2.1
  ·by_cases g2:inR 0 xs[i].2.2.1 1
   ·simp [t2,t7,t8,t9,g1,g2,Qv]
    refine ih (xs.length-(i+1)) _ _ ⟨i+1,rfl,by omega,by simp [t2],by simp [t7],by simp [t8],?_,c.trans (Chg.app _),Qo b2 _,fun f hf=>?_⟩ (by omega)
    ·simp;rw [w64 (by omega) (by omega)]
    ·rcases hsucc f hf with hf|rfl
     ·exact hk f hf
     ·exact ⟨g1,g2⟩
   ·simp [t2,t7,t8,t9,g1,g2,Qv]
    rw [← hB];exact decide_eq_false (hno (fun hh=>g2 hh.2))
  ·simp [t2,t7,t8,t9,g1]
   rw [← hB];exact decide_eq_false (hno (fun hh=>g1 hh.1))
 ·have:i=xs.length:=by omega
  subst this
  rw [List.take_length] at hk
  simp [t2,t7,t8,t9]
  rw [← hB];exact decide_eq_true hk
theorem Ry (w h:Int) (v:Value) (xs:List FlitD) (hI:Rd flF H v xs) (hl:xs.length≤1073741824) :
 vcall C frz 96 [.agg #[.int .i64 w,.int .i64 h],v] H=some (.bool (decide (flitsOk w h xs)),H):=by
 refine wp.exact (by simp) ?_ rfl
 rw [Qb (fn:=Tryz.f96) Tryz.func96 rfl (by kernel_rfl) rfl]
 generalize hB:decide (flitsOk w h xs)=B
 simp
 have rd:Rd flF (H++[⟨[.int .i64 w,.int .i64 h],0,25⟩]) v xs:=hI.app
 refine Qm (fun n t H'=>∃i:Nat,n=xs.length-i∧i≤xs.length∧t 1=v∧t 2=.pointer (some ⟨H.length,0,some 0⟩)∧t 5=.int .i64 i∧H'=H++[⟨[.int .i64 w,.int .i64 h],0,25⟩]∧∀f∈xs.take i,flitOk w h f) ?_ (n:=xs.length)
  ⟨0,rfl,by omega,by simp,by simp,by simp,rfl,by simp⟩
 rintro n t H' ⟨i,rfl,hi,t1,t2,t5,rfl,hk⟩ ih
 simp [t1,t2,t5,rd.len (P:=Tryz.prog) (ty:=75) (by simp)]
 refine Qf ?_ ?_<;>intro g
 ·have hi':i<xs.length:=by omega
  have q1:=rd.idx (P:=Tryz.prog) (ty:=75) (e:=102) (by simp) (i:=(i:Int)) (by omega) (by omega)
  have q2:=rd.cell (P:=Tryz.prog) (e:=3) (by simp) hi' (c:=1) (by decide)
  have q3:=rd.cell (P:=Tryz.prog) (e:=3) (by simp) hi' (c:=2) (by decide)
  have q4:=rd.field (P:=Tryz.prog) (s:=102) (f:=1) (o:=1) (n:=1) (ag:=false) (by simp) (j:=i*5) (by omega)
  have q5:=rd.field (P:=Tryz.prog) (s:=102) (f:=2) (o:=2) (n:=1) (ag:=false) (by simp) (j:=i*5) (by omega)
  simp only [Int.toNat_natCast,Y4,Wb] at q1 q2 q3
  simp at q2 q3
  have hsucc:∀f∈xs.take (i+1),f∈xs.take i∨f=xs[i]:=fun f hf=>by
   rw [List.take_succ_eq_append_getElem hi'] at hf
   rcases List.mem_append.1 hf with hf|hf
   ·exact .inl hf
   ·exact .inr (List.mem_singleton.1 hf)
  have hno:¬flitOk w h xs[i]→¬flitsOk w h xs:=fun hh k=>hh (k _ (List.getElem_mem hi'))
  simp [t1,t2,t5]
  rw [Qp (h:=by kernel_rfl)]
  simp [-vfieldAddr,Qs,t1,t2,t5,q1,q2,q3,q4,q5,Xr]
  by_cases g1:isN w h xs[i].2.1
  ·by_cases g2:inR 0 xs[i].2.2.1 1
   ·simp [-vfieldAddr,Qs,t1,t2,t5,g1,g2,Q4,q1,q5,q3]
    refine ih (xs.length-(i+1)) _ _ ⟨i+1,rfl,by omega,by simp [t1],by simp [t2],?_,rfl,fun f hf=>?_⟩ (by omega)
    ·simp;rw [w64 (by omega) (by omega)]
    ·rcases hsucc f hf with hf|rfl
     ·exact hk f hf
     ·exact ⟨g1,g2⟩
   ·simp [-vfieldAddr,Qs,t1,t2,t5,g1,g2,Q4,q1,q5,q3]
    rw [← hB];exact decide_eq_false (hno (fun hh=>g2 hh.2))
  ·simp [t1,t2,t5,g1]
   rw [← hB];exact decide_eq_false (hno (fun hh=>g1 hh.1))
 ·have:i=xs.length:=by omega
  subst this
  rw [List.take_length] at hk
  simp [t1,t2,t5]
  rw [← hB];exact decide_eq_true hk
theorem T5 (v:Value) (xs:List FlitD) (c:Int) (hI:Rd flF H v xs) (hl:xs.length≤1073741824) :
 wp (vcall C frz 38 [v,.int .i64 c] H) (fun r H'=>Ow flF 102 H' r (xs.filter fun f=>f.2.2.1=c)∧(∀i∈ids r,H.length≤i)∧Chg H H' []):=by
 rw [Qb (fn:=Tryz.f38) Tryz.func38 rfl (by kernel_rfl) rfl]
 simp [hI.app.len (P:=Tryz.prog) (ty:=75) (by simp)]
 refine Qm (fun n t H'=>∃(i:Nat) (r:Value),n=xs.length-i∧i≤xs.length∧t 1=.int .i64 c∧t 5=r∧t 9=v∧t 10=.int .i64 xs.length∧t 11=.int .i64 i∧Chg H H' []∧Ow flF 102 H' r ((xs.take i).filter fun f=>f.2.2.1=c)∧(∀j∈ids r,H.length≤j)) ?_ (n:=xs.length)
  ⟨0,.slice (some ⟨H.length,0,some 0⟩) 0 0,rfl,by omega,by simp,by simp,by simp,by simp,by simp,Chg.app _,Ow.new0 (D:=flF) (xs:=[]) rfl rfl rfl rfl,by simp⟩
 rintro n t H' ⟨i,r,rfl,hi,t1,t5,t9,t10,t11,ch,o,nr⟩ ih
 simp [t1,t5,t9,t10,t11]
 refine Qf ?_ ?_<;>intro g
 ·have hi':i<xs.length:=by omega
  have rd:=hI.chg ch (by simp)
  have q1:=rd.idx (P:=Tryz.prog) (ty:=75) (e:=102) (by simp) (i:=(i:Int)) (by omega) (by omega)
  have q2:=rd.load (P:=Tryz.prog) (e:=102) (by simp) hi'
  simp only [Int.toNat_natCast,Y4] at q1 q2
  have hF:H.length≤H'.length:=ch.1
  have hfl:=List.length_filter_le (fun f:FlitD=>decide (f.2.2.1=c)) (xs.take i)
  have htl:(xs.take i).length≤i:=by simp;omega
  simp [t1,t5,t9,t10,t11,q1,q2,hF,Wb,VM.look]
  refine Qf ?_ ?_<;>intro g1
  ·obtain ⟨r',H2,hap,o2,c2,n2⟩:=(o.app (L:=[⟨flF.f xs[i],0,102⟩])).push (P:=Tryz.prog) (frz:=H.length) (ty:=75) (a:=xs[i]) (by simp) rfl (by omega) nr
   simp only [Wb,List.append_assoc,List.cons_append,List.nil_append,List.length_append,List.length_cons,List.length_nil] at hap
   simp [t1,t5,t9,t10,t11,hap]
   refine ih (xs.length-(i+1)) _ _ ⟨i+1,r',rfl,by omega,by simp [t1],by simp,by simp [t9],by simp [t10],?_,(ch.trans (Chg.app _)).trans' c2 (fun j hj=>.inr (nr j hj)),?_,fun j hj=>?_⟩ (by omega)
   ·simp;rw [w64 (by omega) (by omega)]
   ·rw [List.take_succ_eq_append_getElem hi',List.filter_append];simpa [g1] using o2
   ·rcases n2 j hj with h1|h1
    ·exact nr j h1
    ·simp at h1;omega
  ·simp [t1,t5,t9,t10,t11,g1]
   refine ih (xs.length-(i+1)) _ _ ⟨i+1,r,rfl,by omega,by simp [t1],by simp [t5],by simp [t9],by simp [t10],?_,ch.trans (Chg.app _),?_,nr⟩ (by omega)
   ·simp;rw [w64 (by omega) (by omega)]
   ·rw [List.take_succ_eq_append_getElem hi',List.filter_append];simpa [g1] using o.app
 ·have:i=xs.length:=by omega
  subst this
  rw [List.take_length] at o
  simp [t1,t5,t9,t10,t11]
  exact ⟨o,nr,ch⟩
theorem Rg {l:List FlitD} {c:Int}:(l.filter fun f=>f.2.2.1=c).length=l.length↔∀f∈l,f.2.2.1=c:=by
 rw [List.length_filter_eq_length_iff];simp
theorem tmod2 (i:Nat):(i:Int).tmod 2=(i:Int)%2:=Int.tmod_eq_emod_of_nonneg (by omega)
theorem Wx {α:Type} {l:List α} {d:α} {i:Nat} (h:i<l.length):l.getD i d=l[i]:=by simp [List.getD_eq_getElem?_getD,h]
theorem Wl {α:Type} {l:List α} {i:Nat} (h:i<l.length) {x:α} (hx:x∈l.take (i+1)):x∈l.take i∨x=l[i]:=by
 rw [List.take_succ_eq_append_getElem h] at hx
 rcases List.mem_append.1 hx with hx|hx
 ·exact .inl hx
 ·exact .inr (List.mem_singleton.1 hx)
theorem Sp {v:NetV} {x:NetD} (o:dNet.Ow H v x):vcall C frz 18 [dNet.val v x] H=some (.bool (decide (netOk x)),H):=by
 have oo:=Qh o
 obtain ⟨u2,⟨u3,u4⟩,⟨u5,h5⟩,u6,u7,⟨u8,h8⟩,⟨u9,h9⟩,_⟩:=v
 obtain ⟨⟨w,h,b⟩,⟨A,B⟩,buf,own,turn,src,arr,tm⟩:=x
 obtain ⟨o2,o3,o5,o6,o7,o8,o9,_⟩:=o
 simp only at o2 o3 o5 o6 o7 o8 o9
 obtain ⟨p2,p3,p4,p5,p6,p7,p8,p9⟩:=oo
 simp only at p2 p3 p4 p5 p6 p7 p8 p9
 rw [Qc]
 refine wp.exact (by simp) ?_ rfl
 rw [Qb (fn:=Tryz.f18) Tryz.func18 rfl (by kernel_rfl) rfl]
 generalize hY:decide (netOk ((w,h,b),(A,B),buf,own,turn,src,arr,tm))=Y
 obtain ⟨N,hN⟩:∃N:Nat,cnt w h=N:=⟨(cnt w h).toNat,by have:=Qg w h;omega⟩
 have hN2:N≤16:=by have:=Qg w h;omega
 have w10:=@w6 (10*(N:Int)) (by omega)
 have w5:=@w6 (5*(N:Int)) (by omega)
 have cok:=fun F L=>Lj (frz:=F) (H:=H++L) w h u2 u3 u4 b A B (Rd.isI o2.1.rd.app) (Rd.isI o3.1.1.rd.app) (Rd.isI o3.2.1.rd.app) o2.2
 have ln5:=fun (L:Heap)=>(RdL.app (L:=L) o5.1.rd).1.len (P:=Tryz.prog) (ty:=33) (by simp)
 have ln8:=fun (L:Heap)=>(RdL.app (L:=L) o8.1.rd).1.len (P:=Tryz.prog) (ty:=33) (by simp)
 have ln9:=fun (L:Heap)=>(RdL.app (L:=L) o9.1.rd).1.len (P:=Tryz.prog) (ty:=33) (by simp)
 have ln6:=fun (L:Heap)=>(Rd.app (L:=L) o6.1.rd).len (P:=Tryz.prog) (ty:=26) (by simp)
 have ln7:=fun (L:Heap)=>(Rd.app (L:=L) o7.1.rd).len (P:=Tryz.prog) (ty:=26) (by simp)
 have hl5:=o5.1.rd.2.1
 have hl8:=o8.1.rd.2.1
 have hl9:=o9.1.rd.2.1
 have hb5:=o5.2.1
 have hb8:=o8.2.1
 simp only at ln5 ln8 ln9 ln6 ln7 hl5 hl8 hl9 hb5 hb8
 have no:¬netOk ((w,h,b),(A,B),buf,own,turn,src,arr,tm)→false=Y:=fun hh=>by rw [← hY];exact (decide_eq_false hh).symm
 have no':¬netOk ((w,h,b),(A,B),buf,own,turn,src,arr,tm)→Y=false:=fun hh=>(no hh).symm
 have ones:=And.intro p2 (And.intro p3 (And.intro p4 (And.intro p5 (And.intro p6 (And.intro p7 (And.intro p8 p9))))))
 simp [ones,Wk,hN,cok,w10,w5]
 by_cases c1:classesOk w h b A B
 rotate_left
 ·simp [c1];exact no' (fun k=>c1 k.1)
 by_cases c2:(buf.length:Int)=10*N
 rotate_left
 ·simp [c1,c2,ones,ln5,hl5,w10];exact no' (fun k=>c2 (by have:=k.2.1.1;simp only [hN] at this;exact this))
 by_cases c3:(own.length:Int)=10*N
 rotate_left
 ·simp [c1,c2,c3,ones,ln5,hl5,ln6,w10];exact no' (fun k=>c3 (by have:=k.2.1.2.1;simp only [hN] at this;exact this))
 by_cases c4:(turn.length:Int)=5*N
 rotate_left
 ·simp [c1,c2,c3,c4,ones,ln5,hl5,ln6,ln7,w10,w5];exact no' (fun k=>c4 (by have:=k.2.1.2.2.1;simp only [hN] at this;exact this))
 by_cases c5:(src.length:Int)=N
 rotate_left
 ·simp [c1,c2,c3,c4,c5,ones,ln5,hl5,ln6,ln7,ln8,hl8,w10,w5];exact no' (fun k=>c5 (by have:=k.2.1.2.2.2.1;simp only [hN] at this;exact this))
 by_cases c6:(arr.length:Int)=N
 rotate_left
 ·simp [c1,c2,c3,c4,c5,c6,ones,ln5,hl5,ln6,ln7,ln8,hl8,ln9,hl9,w10,w5];exact no' (fun k=>c6 (by have:=k.2.1.2.2.2.2;simp only [hN] at this;exact this))
 have hsz:sizesOk ((w,h,b),(A,B),buf,own,turn,src,arr,tm):=by unfold sizesOk;simp only [hN];exact ⟨c2,c3,c4,c5,c6⟩
 simp [c1,c2,c3,c4,c5,c6,ones,ln5,hl5,ln6,ln7,ln8,hl8,ln9,hl9,w10,w5]
 refine Qm (fun n t H'=>∃i:Nat,n=buf.length-i∧i≤buf.length∧t 1=.pointer (some ⟨H.length,0,some 0⟩)∧t 57=u5∧t 58=.int .i64 buf.length∧t 59=.int .i64 i∧Chg H H' []∧
  H'[H.length]? = some ⟨[.int .i64 w,.int .i64 h,u2,u3,u4,u5,u6,u7,u8,u9,.int .i64 tm],0,35⟩∧∀j,j<i→bufOk w h (buf.getD j []) ((j:Int)%2)) ?_ (n:=buf.length)
  ⟨0,rfl,by omega,by simp,by simp,by simp [c2],by simp,Chg.app _,by simp,by omega⟩
 rintro n t H' ⟨i,rfl,hi,t1,t57,t58,t59,ch,b0,hk⟩ ih
 simp [t1,t57,t58,t59]
 refine Qf ?_ ?_<;>intro g
 ·have hi':i<buf.length:=by omega
  have rl:=o5.1.rd.chg ch (by simp)
  obtain ⟨u,_,a2,a3,a4⟩:=Q9 rl (ty:=33) (e:=75) (by simp) (by simp) hi'
  have hlen:=o5.2.2 _ (List.getElem_mem hi')
  simp only at a2 a3 a4 hlen
  have lu:=a4.len (P:=Tryz.prog) (ty:=75) (by simp)
  have hbg:buf.getD i []=buf[i]:=Wx hi'
  have bad:¬bufOk w h buf[i] ((i:Int)%2)→Y=false:=fun hh=>no' (fun k=>hh (by have:=k.2.2.1 i hi';simp only [hbg] at this;exact this))
  obtain ⟨l,hl⟩:∃l,l=buf[i]:=⟨_,rfl⟩
  rw [← hl] at a4 lu hlen bad hbg
  simp [t1,t57,t58,t59,a2,a3,lu]
  by_cases g1:l.length≤3
  rotate_left
  ·have g1':(3:Int)<l.length:=by omega
   simp [g1'];exact bad (fun k=>g1 k.1)
  have g1':¬(3:Int)<l.length:=by omega
  simp [g1',t1,t57,t58,t59,tmod2]
  refine Qd (T5 u l ((i:Int)%2) a4 (by omega)) ?_
  rintro r H2 ⟨orr,nr,cc⟩
  have b0:=Qa b0 cc (by simp)
  have lr:=orr.rd.len (P:=Tryz.prog) (ty:=75) (by simp)
  have lu2:=(a4.chg cc (by simp)).len (P:=Tryz.prog) (ty:=75) (by simp)
  have hfl:=Rg (l:=l) (c:=(i:Int)%2)
  generalize (l.filter fun f=>f.2.2.1=(i:Int)%2).length=q at *
  simp [t1,t57,t58,t59,lr,lu2]
  by_cases g2:q=l.length
  rotate_left
  ·have g2':¬(q:Int)=l.length:=by omega
   simp [g2'];exact bad (fun k=>g2 (hfl.2 k.2.1))
  have af:=fun F=>Pf (frz:=F) (H:=H2) w h u l (a4.chg cc (by simp)) (by omega)
  simp [g2,t1,t57,t58,t59,VM.look,b0,af]
  by_cases g3:flitsOk w h l
  rotate_left
  ·simp [g3];exact bad (fun k=>g3 k.2.2)
  simp [g3,t1,t57,t58,t59]
  refine ih (buf.length-(i+1)) _ _ ⟨i+1,rfl,by omega,by simp [t1],by simp [t57],by simp [t58],?_,ch.trans cc,b0,fun j hj=>?_⟩ (by omega)
  ·simp;rw [w64 (by omega) (by omega)]
  ·by_cases hji:j<i
   ·exact hk j hji
   ·have:j=i:=by omega
    subst this
    rw [hbg];exact ⟨g1,hfl.1 g2,g3⟩
 ·have:i=buf.length:=by omega
  subst this
  clear ih
  have l8:=(o8.1.rd.chg ch (by simp)).1.len (P:=Tryz.prog) (ty:=33) (by simp)
  simp only at l8
  simp [t1,t57,t58,t59,VM.look,b0,ones,l8,hl8]
  refine Qm (fun n t H2=>∃i:Nat,n=src.length-i∧i≤src.length∧t 1=.pointer (some ⟨H.length,0,some 0⟩)∧t 87=u8∧t 88=.int .i64 src.length∧t 89=.int .i64 i∧H2=H'∧∀l∈src.take i,srcOk w h l) ?_ (n:=src.length)
   ⟨0,rfl,by omega,by simp [t1],by simp,by simp,by simp,rfl,by simp⟩
  clear t1 t57 t58 t59
  rintro n t H2 ⟨i,rfl,hi,t1,t87,t88,t89,rfl,hk2⟩ ih
  simp [t1,t87,t88,t89]
  refine Qf ?_ ?_<;>intro g
  ·have hi':i<src.length:=by omega
   have rl:=o8.1.rd.chg ch (by simp)
   obtain ⟨u,_,a2,a3,a4⟩:=Q9 rl (ty:=33) (e:=75) (by simp) (by simp) hi'
   have hlen:=o8.2.2 _ (List.getElem_mem hi')
   simp only at a2 a3 a4 hlen
   have lu:=a4.len (P:=Tryz.prog) (ty:=75) (by simp)
   have bad:¬srcOk w h src[i]→Y=false:=fun hh=>no' (fun k=>hh (k.2.2.2.1 _ (List.getElem_mem hi')))
   have hst:=fun {x} (hx:x∈src.take (i+1))=>Wl hi' hx
   obtain ⟨l,hl⟩:∃l,l=src[i]:=⟨_,rfl⟩
   rw [← hl] at a4 lu hlen bad hst
   simp [t1,t87,t88,t89,a2,a3,lu]
   by_cases g1:l.length≤60
   rotate_left
   ·have g1':(60:Int)<l.length:=by omega
    simp [g1'];exact bad (fun k=>g1 k.1)
   have g1':¬(60:Int)<l.length:=by omega
   have af:=fun F=>Pf (frz:=F) (H:=H2) w h u l a4 (by omega)
   simp [g1',t1,t87,t88,t89,VM.look,b0,af]
   by_cases g3:flitsOk w h l
   rotate_left
   ·simp [g3];exact bad (fun k=>g3 k.2)
   simp [g3,t1,t87,t88,t89]
   refine ih (src.length-(i+1)) _ _ ⟨i+1,rfl,by omega,by simp [t1],by simp [t87],by simp [t88],?_,rfl,fun x hx=>?_⟩ (by omega)
   ·simp;rw [w64 (by omega) (by omega)]
   ·rcases hst hx with hx|rfl
    ·exact hk2 x hx
    ·exact ⟨g1,g3⟩
  ·have:i=src.length:=by omega
   subst this
   rw [List.take_length] at hk2
   have ai:=fun F=>Z3 (frz:=F) (H:=H2) u6 own (-1) 4 (Rd.isI (o6.1.rd.chg ch (by simp))) (by have:=o6.2;omega)
   have ai2:=fun F=>Z3 (frz:=F) (H:=H2) u7 turn 0 9 (Rd.isI (o7.1.rd.chg ch (by simp))) (by have:=o7.2;omega)
   have ai3:=fun F=>Qv (frz:=F) (H:=H2) tm 0 1000000
   have hiff:netOk ((w,h,b),(A,B),buf,own,turn,src,arr,tm)↔(∀x∈own,inR (-1) x 4)∧(∀x∈turn,inR 0 x 9)∧inR 0 tm 1000000:=
    ⟨fun k=>k.2.2.2.2,fun k=>⟨c1,hsz,hk,hk2,k⟩⟩
   have hY2:Y=(decide (∀x∈own,inR (-1) x 4)&&decide (∀x∈turn,inR 0 x 9)&&decide (inR 0 tm 1000000)):=by
    rw [← hY,Bool.eq_iff_iff];simp only [decide_eq_true_eq,Bool.and_eq_true,and_assoc];exact hiff
   generalize decide (∀x∈own,inR (-1) x 4)=P1 at *
   generalize decide (∀x∈turn,inR 0 x 9)=P2 at *
   generalize decide (inR 0 tm 1000000)=P3 at *
   simp [t1,t87,t88,t89,VM.look,b0,ones,ai,ai2,ai3,hY2]
   cases P1<;>cases P2<;>cases P3<;>simp [t1,VM.look,b0,ones,ai2,ai3]
theorem V3 {v:NetV} {x:NetD} (o:dNet.Ow H v x):vcall C frz 76 [dNet.val v x] H=some (.bool (decide (netOk x)),H):=by
 have oo:=Qh o
 obtain ⟨u2,⟨u3,u4⟩,⟨u5,h5⟩,u6,u7,⟨u8,h8⟩,⟨u9,h9⟩,_⟩:=v
 obtain ⟨⟨w,h,b⟩,⟨A,B⟩,buf,own,turn,src,arr,tm⟩:=x
 obtain ⟨o2,o3,o5,o6,o7,o8,o9,_⟩:=o
 simp only at o2 o3 o5 o6 o7 o8 o9
 obtain ⟨p2,p3,p4,p5,p6,p7,p8,p9⟩:=oo
 simp only at p2 p3 p4 p5 p6 p7 p8 p9
 rw [Qc]
 refine wp.exact (by simp) ?_ rfl
 rw [Qb (fn:=Tryz.f76) Tryz.func76 rfl (by kernel_rfl) rfl]
 generalize hY:decide (netOk ((w,h,b),(A,B),buf,own,turn,src,arr,tm))=Y
 obtain ⟨N,hN⟩:∃N:Nat,cnt w h=N:=⟨(cnt w h).toNat,by have:=Qg w h;omega⟩
 have hN2:N≤16:=by have:=Qg w h;omega
 have w10:=@w6 (10*(N:Int)) (by omega)
 have w5:=@w6 (5*(N:Int)) (by omega)
 have cok:=fun F L=>Vf (frz:=F) (H:=H++L) w h u2 u3 u4 b A B (Rd.isI o2.1.rd.app) (Rd.isI o3.1.1.rd.app) (Rd.isI o3.2.1.rd.app) o2.2
 have ln5:=fun (L:Heap)=>(RdL.app (L:=L) o5.1.rd).1.len (P:=Tryz.prog) (ty:=33) (by simp)
 have ln8:=fun (L:Heap)=>(RdL.app (L:=L) o8.1.rd).1.len (P:=Tryz.prog) (ty:=33) (by simp)
 have ln9:=fun (L:Heap)=>(RdL.app (L:=L) o9.1.rd).1.len (P:=Tryz.prog) (ty:=33) (by simp)
 have ln6:=fun (L:Heap)=>(Rd.app (L:=L) o6.1.rd).len (P:=Tryz.prog) (ty:=26) (by simp)
 have ln7:=fun (L:Heap)=>(Rd.app (L:=L) o7.1.rd).len (P:=Tryz.prog) (ty:=26) (by simp)
 have hl5:=o5.1.rd.2.1
 have hl8:=o8.1.rd.2.1
 have hl9:=o9.1.rd.2.1
 have hb5:=o5.2.1
 have hb8:=o8.2.1
 simp only at ln5 ln8 ln9 ln6 ln7 hl5 hl8 hl9 hb5 hb8
 have no:¬netOk ((w,h,b),(A,B),buf,own,turn,src,arr,tm)→false=Y:=fun hh=>by rw [← hY];exact (decide_eq_false hh).symm
 have no':¬netOk ((w,h,b),(A,B),buf,own,turn,src,arr,tm)→Y=false:=fun hh=>(no hh).symm
 have ones:=And.intro p2 (And.intro p3 (And.intro p4 (And.intro p5 (And.intro p6 (And.intro p7 (And.intro p8 p9))))))
 simp [ones,Qx,hN,cok,w10,w5]
 by_cases c1:classesOk w h b A B
 rotate_left
 ·simp [c1];exact no' (fun k=>c1 k.1)
 by_cases c2:(buf.length:Int)=10*N
 rotate_left
 ·simp [c1,c2,ones,ln5,hl5,w10];exact no' (fun k=>c2 (by have:=k.2.1.1;simp only [hN] at this;exact this))
 by_cases c3:(own.length:Int)=10*N
 rotate_left
 ·simp [c1,c2,c3,ones,ln5,hl5,ln6,w10];exact no' (fun k=>c3 (by have:=k.2.1.2.1;simp only [hN] at this;exact this))
 by_cases c4:(turn.length:Int)=5*N
 rotate_left
 ·simp [c1,c2,c3,c4,ones,ln5,hl5,ln6,ln7,w10,w5];exact no' (fun k=>c4 (by have:=k.2.1.2.2.1;simp only [hN] at this;exact this))
 by_cases c5:(src.length:Int)=N
 rotate_left
 ·simp [c1,c2,c3,c4,c5,ones,ln5,hl5,ln6,ln7,ln8,hl8,w10,w5];exact no' (fun k=>c5 (by have:=k.2.1.2.2.2.1;simp only [hN] at this;exact this))
 by_cases c6:(arr.length:Int)=N
 rotate_left
 ·simp [c1,c2,c3,c4,c5,c6,ones,ln5,hl5,ln6,ln7,ln8,hl8,ln9,hl9,w10,w5];exact no' (fun k=>c6 (by have:=k.2.1.2.2.2.2;simp only [hN] at this;exact this))
 by_cases c7:inR 0 tm 1000000
 rotate_left
 ·simp [c1,c2,c3,c4,c5,c6,c7,Q4,ones,ln5,hl5,ln6,ln7,ln8,hl8,ln9,hl9,w10,w5];exact no' (fun k=>c7 k.2.2.2.2.2.2)
 have hsz:sizesOk ((w,h,b),(A,B),buf,own,turn,src,arr,tm):=by unfold sizesOk;simp only [hN];exact ⟨c2,c3,c4,c5,c6⟩
 simp [c1,c2,c3,c4,c5,c6,c7,Q4,ones,ln5,hl5,ln6,ln7,ln8,hl8,ln9,hl9,w10,w5]
 have hbl:buf.length=10*N:=by omega
 have hol:own.length=10*N:=by omega
 have htl:turn.length=5*N:=by omega
 have hsl:src.length=N:=by omega
 obtain ⟨G,hG⟩:∃G,G=H++[⟨[.int .i64 w,.int .i64 h,u2,u3,u4,u5,u6,u7,u8,u9,.int .i64 tm],0,35⟩]:=⟨_,rfl⟩
 rw [← hG]
 have b0:G[H.length]? = some ⟨[.int .i64 w,.int .i64 h,u2,u3,u4,u5,u6,u7,u8,u9,.int .i64 tm],0,35⟩:=by rw [hG];simp
 have ch:Chg H G []:=by rw [hG];exact Chg.app _
 clear hG
 have i6:IsI G u6 own:=Rd.isI (o6.1.rd.chg ch (by simp))
 have i7:IsI G u7 turn:=Rd.isI (o7.1.rd.chg ch (by simp))
 refine Qm (fun n t H'=>∃i:Nat,n=10*N-i∧i≤10*N∧t 1=.pointer (some ⟨H.length,0,some 0⟩)∧t 3=.int .i64 N∧t 4=.int .i64 i∧H'=G∧
  ∀j,j<i→bufOk w h (buf.getD j []) ((j:Int)%2)∧inR (-1) (own.getD j 0) 4) ?_ (n:=10*N)
  ⟨0,rfl,by omega,by simp,by simp,by simp,rfl,by omega⟩
 rintro n t H' ⟨i,rfl,hi,t1,t3,t4,rfl,hk⟩ ih
 simp [t1,t3,t4,w10]
 refine Qf ?_ ?_<;>intro g
 ·have hi':i<buf.length:=by omega
  have hio:i<own.length:=by omega
  have rl:=o5.1.rd.chg ch (by simp)
  obtain ⟨u,_,a2,a3,a4⟩:=Q9 rl (ty:=33) (e:=75) (by simp) (by simp) hi'
  have hlen:=o5.2.2 _ (List.getElem_mem hi')
  simp only at a2 a3 a4 hlen
  have lu:=a4.len (P:=Tryz.prog) (ty:=75) (by simp)
  have hbg:buf.getD i []=buf[i]:=Wx hi'
  have bad:¬bufOk w h buf[i] ((i:Int)%2)→Y=false:=fun hh=>no' (fun k=>hh (by have:=k.2.2.1 i hi';simp only [hbg] at this;exact this))
  obtain ⟨l,hl⟩:∃l,l=buf[i]:=⟨_,rfl⟩
  rw [← hl] at a4 lu hlen bad hbg
  have q1:=i6.idx (P:=Tryz.prog) (ty:=26) (e:=3) (by simp) (i:=(i:Int)) (by omega) (by omega)
  have q2:=i6.load (P:=Tryz.prog) (e:=3) (by simp) hio
  simp only [Int.toNat_natCast,Wx hio] at q1 q2
  simp [t1,t3,t4,VM.look,b0,ones,a2,a3,lu]
  by_cases g1:l.length≤3
  rotate_left
  ·have g1':(3:Int)<l.length:=by omega
   simp [g1'];exact bad (fun k=>g1 k.1)
  have g1':¬(3:Int)<l.length:=by omega
  have af:=fun F=>Ry (frz:=F) (H:=H') w h u l a4 (by omega)
  simp [g1',t1,t3,t4,VM.look,b0,ones,af]
  by_cases g3:flitsOk w h l
  rotate_left
  ·simp [g3];exact bad (fun k=>g3 k.2.2)
  simp [g3,t1,t3,t4,VM.look,b0,ones,q1,q2,Q4]
  by_cases g4:inR (-1) own[i] 4
  rotate_left
  ·simp [g4];exact no' (fun k=>g4 (k.2.2.2.2.1 _ (List.getElem_mem hio)))
  simp [g4,t1,t3,t4]
  refine Qm (fun n t H2=>∃c:Nat,n=l.length-c∧c≤l.length∧t 1=.pointer (some ⟨H.length,0,some 0⟩)∧t 3=.int .i64 N∧t 4=.int .i64 i∧t 5=u∧t 6=.int .i64 c∧H2=H'∧∀f∈l.take c,f.2.2.1=(i:Int)%2) ?_ (n:=l.length)
   ⟨0,rfl,by omega,by simp [t1],by simp [t3],by simp [t4],by simp,by simp,rfl,by simp⟩
  clear t1 t3 t4
  rintro n t H2 ⟨c,rfl,hc,t1,t3,t4,t5,t6,rfl,hk3⟩ ih2
  simp [t1,t3,t4,t5,t6,lu]
  refine Qf ?_ ?_<;>intro g5
  ·have hc':c<l.length:=by omega
   have r1:=a4.idx (P:=Tryz.prog) (ty:=75) (e:=102) (by simp) (i:=(c:Int)) (by omega) (by omega)
   have r2:=a4.cell (P:=Tryz.prog) (e:=3) (by simp) hc' (c:=2) (by decide)
   have r3:=a4.field (P:=Tryz.prog) (s:=102) (f:=2) (o:=2) (n:=1) (ag:=false) (by simp) (j:=c*5) (by omega)
   simp only [Int.toNat_natCast,Y4,Wb] at r1 r2
   simp at r2
   simp [-vfieldAddr,Qs,t1,t3,t4,t5,t6,r1,r2,r3,tmod2]
   refine Qf ?_ ?_<;>intro g6
   ·simp [t1,t3,t4,t5,t6]
    refine ih2 (l.length-(c+1)) _ _ ⟨c+1,rfl,by omega,by simp [t1],by simp [t3],by simp [t4],by simp [t5],?_,rfl,fun f hf=>?_⟩ (by omega)
    ·simp;rw [w64 (by omega) (by omega)]
    ·rcases Wl hc' hf with hf|rfl
     ·exact hk3 f hf
     ·exact g6
   ·simp [t1,t3,t4,t5,t6]
    exact bad (fun k=>g6 (k.2.1 _ (List.getElem_mem hc')))
  ·have:c=l.length:=by omega
   subst this
   rw [List.take_length] at hk3
   simp [t1,t3,t4,t5,t6]
   refine ih (10*N-(i+1)) _ _ ⟨i+1,rfl,by omega,by simp [t1],by simp [t3],?_,rfl,fun j hj=>?_⟩ (by omega)
   ·simp;rw [w64 (by omega) (by omega)]
   ·by_cases hji:j<i
    ·exact hk j hji
    ·have:j=i:=by omega
     subst this
     rw [hbg,Wx hio];exact ⟨⟨g1,hk3,g3⟩,g4⟩
 ·have:i=10*N:=by omega
  subst this
  clear ih
  simp [t1,t3,t4]
  refine Qm (fun n t H2=>∃i:Nat,n=5*N-i∧i≤5*N∧t 1=.pointer (some ⟨H.length,0,some 0⟩)∧t 3=.int .i64 N∧t 7=.int .i64 i∧H2=H'∧∀x∈turn.take i,inR 0 x 9) ?_ (n:=5*N)
   ⟨0,rfl,by omega,by simp [t1],by simp [t3],by simp,rfl,by simp⟩
  clear t1 t3 t4
  rintro n t H2 ⟨i,rfl,hi,t1,t3,t7,rfl,hk2⟩ ih
  simp [t1,t3,t7,w5]
  refine Qf ?_ ?_<;>intro g
  ·have hit:i<turn.length:=by omega
   have q1:=i7.idx (P:=Tryz.prog) (ty:=26) (e:=3) (by simp) (i:=(i:Int)) (by omega) (by omega)
   have q2:=i7.load (P:=Tryz.prog) (e:=3) (by simp) hit
   simp only [Int.toNat_natCast,Wx hit] at q1 q2
   simp [t1,t3,t7,VM.look,b0,ones,q1,q2,Q4]
   by_cases g4:inR 0 turn[i] 9
   rotate_left
   ·simp [g4];exact no' (fun k=>g4 (k.2.2.2.2.2.1 _ (List.getElem_mem hit)))
   simp [g4,t1,t3,t7]
   refine ih (5*N-(i+1)) _ _ ⟨i+1,rfl,by omega,by simp [t1],by simp [t3],?_,rfl,fun x hx=>?_⟩ (by omega)
   ·simp;rw [w64 (by omega) (by omega)]
   ·rcases Wl hit hx with hx|rfl
    ·exact hk2 x hx
    ·exact g4
  ·have:i=5*N:=by omega
   subst this
   clear ih
   simp [t1,t3,t7]
   refine Qm (fun n t H'=>∃i:Nat,n=N-i∧i≤N∧t 1=.pointer (some ⟨H.length,0,some 0⟩)∧t 3=.int .i64 N∧t 8=.int .i64 i∧H'=H2∧∀l∈src.take i,srcOk w h l) ?_ (n:=N)
    ⟨0,rfl,by omega,by simp [t1],by simp [t3],by simp,rfl,by simp⟩
   clear t1 t3 t7
   rintro n t H' ⟨i,rfl,hi,t1,t3,t8,rfl,hk4⟩ ih
   simp [t1,t3,t8]
   refine Qf ?_ ?_<;>intro g
   ·have hi':i<src.length:=by omega
    have rl:=o8.1.rd.chg ch (by simp)
    obtain ⟨u,_,a2,a3,a4⟩:=Q9 rl (ty:=33) (e:=75) (by simp) (by simp) hi'
    have hlen:=o8.2.2 _ (List.getElem_mem hi')
    simp only at a2 a3 a4 hlen
    have lu:=a4.len (P:=Tryz.prog) (ty:=75) (by simp)
    have bad:¬srcOk w h src[i]→Y=false:=fun hh=>no' (fun k=>hh (k.2.2.2.1 _ (List.getElem_mem hi')))
    have hst:=fun {x} (hx:x∈src.take (i+1))=>Wl hi' hx
    obtain ⟨l,hl⟩:∃l,l=src[i]:=⟨_,rfl⟩
    rw [← hl] at a4 lu hlen bad hst
    simp [t1,t3,t8]
    rw [Qp (h:=by kernel_rfl)]
    simp [t1,t3,t8,VM.look,b0,ones,a2,a3,lu]
    by_cases g1:l.length≤60
    rotate_left
    ·have g1':(60:Int)<l.length:=by omega
     simp [g1'];exact bad (fun k=>g1 k.1)
    have g1':¬(60:Int)<l.length:=by omega
    have af:=fun F=>Ry (frz:=F) (H:=H') w h u l a4 (by omega)
    simp [g1',t1,t3,t8,VM.look,b0,ones,a2,a3,af]
    by_cases g3:flitsOk w h l
    rotate_left
    ·simp [g3];exact bad (fun k=>g3 k.2)
    simp [g3,t1,t3,t8]
    refine ih (N-(i+1)) _ _ ⟨i+1,rfl,by omega,by simp [t1],by simp [t3],?_,rfl,fun x hx=>?_⟩ (by omega)
    ·simp;rw [w64 (by omega) (by omega)]
    ·rcases hst hx with hx|rfl
     ·exact hk4 x hx
     ·exact ⟨g1,g3⟩
   ·have:i=N:=by omega
    subst this
    simp [t1,t3,t8]
    rw [← hsl,List.take_length] at hk4
    rw [← htl,List.take_length] at hk2
    rw [← hY]
    refine (decide_eq_true ⟨c1,hsz,fun j hj=>(hk j (by simp only at hj;omega)).1,hk4,fun x hx=>?_,hk2,c7⟩)
    obtain ⟨j,hj,rfl⟩:=List.mem_iff_getElem.1 hx
    have:=(hk j (by simp only at hj;omega)).2
    rw [Wx hj] at this;exact this
theorem D6 (x y:FlitD):cseq [0,0,0,1,1] (flF.f x) (flF.f y)=some (decide (x=y)):=by
 obtain ⟨p,t,c,h,l⟩:=x
 obtain ⟨p',t',c',h',l'⟩:=y
 simp only [Wb,cseq,ceq,if_true]
 congr 1
 rw [Bool.eq_iff_iff];simp [and_assoc]
theorem Ca (a b:Value) (xs ys:List Int) (ha:Rd Fl.int H a xs) (hb:Rd Fl.int H b ys) (hl:xs.length≤1073741824) :
 vcall C frz 67 [a,b] H=some (.bool (decide (xs=ys)),H):=by
 refine wp.exact (by simp) ?_ rfl
 rw [Qb (fn:=Tryz.f67) Tryz.func67 rfl (by kernel_rfl) rfl]
 generalize hY:decide (xs=ys)=Y
 have la:=ha.len (P:=Tryz.prog) (ty:=26) (by simp)
 have lb:=hb.len (P:=Tryz.prog) (ty:=26) (by simp)
 have no:¬xs=ys→Y=false:=fun hh=>by rw [← hY];exact decide_eq_false hh
 simp [la,lb]
 refine Qf ?_ ?_<;>intro h0
 ·have h0':xs.length=ys.length:=by omega
  simp [la]
  refine Qm (fun n t H'=>∃i:Nat,n=xs.length-i∧i≤xs.length∧t 0=a∧t 1=b∧t 12=.int .i64 xs.length∧t 13=.int .i64 i∧H'=H∧xs.take i=ys.take i) ?_ (n:=xs.length) ⟨0,rfl,by omega,by simp,by simp,by simp,by simp,rfl,by simp⟩
  rintro n t H' ⟨i,rfl,hi,t0,t1,t12,t13,rfl,h4⟩ ih
  simp [t0,t1,t12,t13,la]
  refine Qf ?_ ?_<;>intro h
  ·have hx:i<xs.length:=by omega
   have hy:i<ys.length:=by omega
   have q1:=ha.idx (P:=Tryz.prog) (ty:=26) (e:=3) (by simp) (i:=(i:Int)) (by omega) (by omega)
   have q2:=ha.cell1 (P:=Tryz.prog) (e:=3) rfl (by simp) hx
   have q3:=hb.idx (P:=Tryz.prog) (ty:=26) (e:=3) (by simp) (i:=(i:Int)) (by omega) (by omega)
   have q4:=hb.cell1 (P:=Tryz.prog) (e:=3) rfl (by simp) hy
   simp only [Int.toNat_natCast,Fl.int_n,Nat.mul_one] at q1 q2 q3 q4
   simp at q2 q4
   simp [t0,t1,t12,t13]
   rw [Qp (h:=by kernel_rfl)]
   simp [t0,t1,t12,t13,q1,q2,q3,q4]
   refine Qf ?_ ?_<;>intro h5
   ·simp [t0,t1,t12,t13]
    refine ih (xs.length-(i+1)) _ _ ⟨i+1,rfl,by omega,by simp [t0],by simp [t1],by simp [t12],?_,rfl,?_⟩ (by omega)
    ·simp;rw [w64 (by omega) (by omega)]
    ·rw [List.take_succ_eq_append_getElem hx,List.take_succ_eq_append_getElem hy,h4,h5]
   ·simp [t0,t1,t12,t13]
    exact no (fun hh=>h5 (by subst hh;rfl))
  ·have:i=xs.length:=by omega
   subst this
   rw [List.take_length,List.take_of_length_le (by omega)] at h4
   simp [t0,t1,t12,t13]
   rw [← hY];exact decide_eq_true h4
 ·simp
  exact no (fun hh=>h0 (by rw [hh]))
def flit0:FlitD:=(0,0,0,false,false)
def wholeAt (l:List FlitD) (i:Nat):FlitD:=((l.getD 0 flit0).1,(l.getD 0 flit0).2.1,(l.getD 0 flit0).2.2.1,decide ((i:Int)=0),decide ((i:Int)=(l.length:Int)-1))
def whole (l:List FlitD):Prop:=(∀i,i<l.length→l.getD i flit0=wholeAt l i)∧0<l.length
instance (l:List FlitD):Decidable (whole l):=inferInstanceAs (Decidable (_∧_))
theorem Eh (a b c a' b' c':Int) (d e d' e':Bool):cseq [0,0,0,1,1] [.int .i64 a,.int .i64 b,.int .i64 c,.bool d,.bool e] [.int .i64 a',.int .i64 b',.int .i64 c',.bool d',.bool e']=some (decide (((a,b,c,d,e):FlitD)=(a',b',c',d',e'))):=
 D6 (a,b,c,d,e) (a',b',c',d',e')
theorem Eg (v:Value) (xs:List FlitD) (hI:Rd flF H v xs) (hl:xs.length≤1073741824) :
 vcall C frz 87 [v] H=some (.bool (decide (whole xs)),H):=by
 refine wp.exact (by simp) ?_ rfl
 rw [Qb (fn:=Tryz.f87) Tryz.func87 rfl (by kernel_rfl) rfl]
 generalize hY:decide (whole xs)=Y
 have no:¬whole xs→Y=false:=fun hh=>by rw [← hY];exact decide_eq_false hh
 simp [hI.len (P:=Tryz.prog) (ty:=75) (by simp)]
 refine Qm (fun n t H'=>∃i:Nat,n=xs.length-i∧i≤xs.length∧t 0=v∧t 5=v∧t 6=.int .i64 xs.length∧t 7=.int .i64 i∧Chg H H' []∧∀j,j<i→xs.getD j flit0=wholeAt xs j) ?_ (n:=xs.length)
  ⟨0,rfl,by omega,by simp,by simp,by simp,by simp,Chg.refl _,by omega⟩
 rintro n t H' ⟨i,rfl,hi,t0,t5,t6,t7,c,hk⟩ ih
 simp [t0,t5,t6,t7]
 refine Qf ?_ ?_<;>intro g
 ·have hi':i<xs.length:=by omega
  have h0:0<xs.length:=by omega
  have rd:=hI.chg c (by simp)
  have q1:=rd.idx (P:=Tryz.prog) (ty:=75) (e:=102) (by simp) (i:=(i:Int)) (by omega) (by omega)
  have q2:=rd.load (P:=Tryz.prog) (e:=102) (by simp) hi'
  have rd2:=fun (r:Row)=>(rd.app (L:=[r]))
  have z0:=fun (r:Row)=>(rd2 r).idx (P:=Tryz.prog) (ty:=75) (e:=102) (by simp) (i:=0) (by omega) (by omega)
  have zl:=fun (r:Row)=>(rd2 r).len (P:=Tryz.prog) (ty:=75) (by simp)
  have f0:=fun (r:Row)=>(rd2 r).field (P:=Tryz.prog) (s:=102) (f:=0) (o:=0) (n:=1) (ag:=false) (by simp) (j:=0) h0
  have f1:=fun (r:Row)=>(rd2 r).field (P:=Tryz.prog) (s:=102) (f:=1) (o:=1) (n:=1) (ag:=false) (by simp) (j:=0) h0
  have f2:=fun (r:Row)=>(rd2 r).field (P:=Tryz.prog) (s:=102) (f:=2) (o:=2) (n:=1) (ag:=false) (by simp) (j:=0) h0
  have c0:=fun (r:Row)=>(rd2 r).cell (P:=Tryz.prog) (e:=3) (by simp) h0 (c:=0) (by decide)
  have c1:=fun (r:Row)=>(rd2 r).cell (P:=Tryz.prog) (e:=3) (by simp) h0 (c:=1) (by decide)
  have c2:=fun (r:Row)=>(rd2 r).cell (P:=Tryz.prog) (e:=3) (by simp) h0 (c:=2) (by decide)
  simp only [Int.toNat_natCast,Y4,Int.toNat_zero,Nat.zero_mul,Nat.zero_add,Nat.add_zero] at q1 q2 z0 f0 f1 f2 c0 c1 c2
  simp only [Wb] at c0 c1 c2
  simp at c0 c1 c2
  have hw:=@w6 ((xs.length:Int)-1) (by omega)
  have hF:H.length≤H'.length:=c.1
  have hg0:xs.getD 0 flit0=xs[0]:=by simp [List.getD_eq_getElem?_getD,h0]
  have hgi:xs.getD i flit0=xs[i]:=by simp [List.getD_eq_getElem?_getD,hi']
  have hwt:wholeAt xs i=(xs[0].1,xs[0].2.1,xs[0].2.2.1,decide ((i:Int)=0),decide ((i:Int)=(xs.length:Int)-1)):=by unfold wholeAt;rw [hg0]
  obtain ⟨p,hp⟩:∃p,p=xs[i]:=⟨_,rfl⟩
  obtain ⟨z,hz⟩:∃z,z=xs[0]:=⟨_,rfl⟩
  rw [← hp] at q2 hgi
  rw [← hz] at c0 c1 c2 hwt
  obtain ⟨B1,hB1⟩:∃B,B=decide ((i:Int)=0):=⟨_,rfl⟩
  obtain ⟨B2,hB2⟩:∃B,B=decide ((i:Int)=(xs.length:Int)-1):=⟨_,rfl⟩
  rw [← hB1,← hB2] at hwt
  have e1:∀[Inhabited Unit],decide ((i:Int)=0)=B1:=by intro _;exact hB1.symm
  have e1':∀[Inhabited Unit],decide (i=0)=B1:=by intro _;rw [hB1];congr 1;simp
  have e2:∀[Inhabited Unit],decide ((i:Int)=(xs.length:Int)-1)=B2:=by intro _;exact hB2.symm
  simp [t0,t5,t6,t7,q1,q2,Wb,hF]
  rw [Qp (h:=by kernel_rfl)]
  simp [-vfieldAddr,Qs,VM.look,t0,t5,t6,t7,z0,zl,f0,f1,f2,c0,c1,c2,hw,e1,e1',e2,Eh,-cseq,-Prod.mk.injEq]
  have hdec:(((p.1,p.2.1,p.2.2.1,p.2.2.2.1,p.2.2.2.2):FlitD)=(z.1,z.2.1,z.2.2.1,B1,B2))↔xs.getD i flit0=wholeAt xs i:=by rw [hgi,hwt]
  by_cases g2:xs.getD i flit0=wholeAt xs i
  ·have g3:=hdec.2 g2
   rw [decide_eq_true g3]
   simp [t0,t5,t6,t7]
   refine ih (xs.length-(i+1)) _ _ ⟨i+1,rfl,by omega,by simp [t0],by simp [t5],by simp [t6],?_,c.trans (Chg.app _),fun j hj=>?_⟩ (by omega)
   ·simp;rw [w64 (by omega) (by omega)]
   ·by_cases hji:j<i
    ·exact hk j hji
    ·have:j=i:=by omega
     subst this;exact g2
  ·have g3:¬((p.1,p.2.1,p.2.2.1,p.2.2.2.1,p.2.2.2.2):FlitD)=(z.1,z.2.1,z.2.2.1,B1,B2):=fun hh=>g2 (hdec.1 hh)
   rw [decide_eq_false g3]
   simp [t0,t5,t6,t7]
   exact no (fun hh=>g2 (hh.1 i hi'))
 ·have:i=xs.length:=by omega
  subst this
  have ll:=(hI.chg c (by simp)).len (P:=Tryz.prog) (ty:=75) (by simp)
  simp [t0,t5,t6,t7,ll]
  rw [← hY];exact decide_eq_decide.2 ⟨fun h0=>⟨hk,h0⟩,fun k=>k.2⟩
theorem Jq (v:Value) (xs:List FlitD) (hI:Rd flF H v xs) (hl:xs.length≤1073741824) :
 vcall C frz 129 [v] H=some (.bool (decide (whole xs)),H):=by
 refine wp.exact (by simp) ?_ rfl
 rw [Qb (fn:=Tryz.f129) Tryz.func129 rfl (by kernel_rfl) rfl]
 generalize hY:decide (whole xs)=Y
 have no:¬whole xs→Y=false:=fun hh=>by rw [← hY];exact decide_eq_false hh
 simp
 refine Qm (fun n t H'=>∃i:Nat,n=xs.length-i∧i≤xs.length∧t 0=v∧t 3=.int .i64 i∧Chg H H' []∧∀j,j<i→xs.getD j flit0=wholeAt xs j) ?_ (n:=xs.length)
  ⟨0,rfl,by omega,by simp,by simp,Chg.refl _,by omega⟩
 rintro n t H' ⟨i,rfl,hi,t0,t3,c,hk⟩ ih
 have ll:=(hI.chg c (by simp)).len (P:=Tryz.prog) (ty:=75) (by simp)
 simp [t0,t3,ll]
 refine Qf ?_ ?_<;>intro g
 ·have hi':i<xs.length:=by omega
  have h0:0<xs.length:=by omega
  have rd:=hI.chg c (by simp)
  have q1:=rd.idx (P:=Tryz.prog) (ty:=75) (e:=102) (by simp) (i:=(i:Int)) (by omega) (by omega)
  have q2:=rd.load (P:=Tryz.prog) (e:=102) (by simp) hi'
  have rd2:=fun (r:Row)=>(rd.app (L:=[r]))
  have z0:=fun (r:Row)=>(rd2 r).idx (P:=Tryz.prog) (ty:=75) (e:=102) (by simp) (i:=0) (by omega) (by omega)
  have zl:=fun (r:Row)=>(rd2 r).len (P:=Tryz.prog) (ty:=75) (by simp)
  have f0:=fun (r:Row)=>(rd2 r).field (P:=Tryz.prog) (s:=102) (f:=0) (o:=0) (n:=1) (ag:=false) (by simp) (j:=0) h0
  have f1:=fun (r:Row)=>(rd2 r).field (P:=Tryz.prog) (s:=102) (f:=1) (o:=1) (n:=1) (ag:=false) (by simp) (j:=0) h0
  have f2:=fun (r:Row)=>(rd2 r).field (P:=Tryz.prog) (s:=102) (f:=2) (o:=2) (n:=1) (ag:=false) (by simp) (j:=0) h0
  have c0:=fun (r:Row)=>(rd2 r).cell (P:=Tryz.prog) (e:=3) (by simp) h0 (c:=0) (by decide)
  have c1:=fun (r:Row)=>(rd2 r).cell (P:=Tryz.prog) (e:=3) (by simp) h0 (c:=1) (by decide)
  have c2:=fun (r:Row)=>(rd2 r).cell (P:=Tryz.prog) (e:=3) (by simp) h0 (c:=2) (by decide)
  simp only [Int.toNat_natCast,Y4,Int.toNat_zero,Nat.zero_mul,Nat.zero_add,Nat.add_zero] at q1 q2 z0 f0 f1 f2 c0 c1 c2
  simp only [Wb] at c0 c1 c2
  simp at c0 c1 c2
  have hw:=@w6 ((xs.length:Int)-1) (by omega)
  have hF:H.length≤H'.length:=c.1
  have hg0:xs.getD 0 flit0=xs[0]:=by simp [List.getD_eq_getElem?_getD,h0]
  have hgi:xs.getD i flit0=xs[i]:=by simp [List.getD_eq_getElem?_getD,hi']
  have hwt:wholeAt xs i=(xs[0].1,xs[0].2.1,xs[0].2.2.1,decide ((i:Int)=0),decide ((i:Int)=(xs.length:Int)-1)):=by unfold wholeAt;rw [hg0]
  obtain ⟨p,hp⟩:∃p,p=xs[i]:=⟨_,rfl⟩
  obtain ⟨z,hz⟩:∃z,z=xs[0]:=⟨_,rfl⟩
  rw [← hp] at q2 hgi
  rw [← hz] at c0 c1 c2 hwt
  obtain ⟨B1,hB1⟩:∃B,B=decide ((i:Int)=0):=⟨_,rfl⟩
  obtain ⟨B2,hB2⟩:∃B,B=decide ((i:Int)=(xs.length:Int)-1):=⟨_,rfl⟩
  rw [← hB1,← hB2] at hwt
  have e1:∀[Inhabited Unit],decide ((i:Int)=0)=B1:=by intro _;exact hB1.symm
  have e1':∀[Inhabited Unit],decide (i=0)=B1:=by intro _;rw [hB1];congr 1;simp
  have e2:∀[Inhabited Unit],decide ((i:Int)=(xs.length:Int)-1)=B2:=by intro _;exact hB2.symm
  simp [t0,t3,q1,q2,Wb,hF]
  rw [Qp (h:=by kernel_rfl)]
  have hcmp:xs.getD i flit0=wholeAt xs i↔p.1=z.1∧p.2.1=z.2.1∧p.2.2.1=z.2.2.1∧p.2.2.2.1=B1∧p.2.2.2.2=B2:=by
   rw [hgi,hwt];obtain ⟨_,_,_,_,_⟩:=p;simp
  have bad:¬(p.1=z.1∧p.2.1=z.2.1∧p.2.2.1=z.2.2.1∧p.2.2.2.1=B1∧p.2.2.2.2=B2)→Y=false:=fun hh=>no (fun k=>hh (hcmp.1 (k.1 i hi')))
  obtain ⟨p1,p2,p3,p4,p5⟩:=p
  simp only at hcmp bad
  simp [-vfieldAddr,Qs,VM.look,t0,t3,z0,zl,f0,f1,f2,c0,c1,c2,hw,e1,e1',e2]
  by_cases g1:p1=z.1
  rotate_left
  ·simp [t0,t3,g1];exact bad (fun k=>g1 k.1)
  simp [-vfieldAddr,Qs,VM.look,t0,t3,z0,zl,f0,f1,f2,c0,c1,c2,hw,e1,e1',e2,g1]
  by_cases g2:p2=z.2.1
  rotate_left
  ·simp [t0,t3,g2];exact bad (fun k=>g2 k.2.1)
  simp [-vfieldAddr,Qs,VM.look,t0,t3,z0,zl,f0,f1,f2,c0,c1,c2,hw,e1,e1',e2,g1,g2]
  by_cases g3:p3=z.2.2.1
  rotate_left
  ·simp [t0,t3,g3];exact bad (fun k=>g3 k.2.2.1)
  simp [-vfieldAddr,Qs,VM.look,t0,t3,z0,zl,f0,f1,f2,c0,c1,c2,hw,e1,e1',e2,g1,g2,g3]
  by_cases g4:p4=B1
  rotate_left
  ·have g4':(p4 != B1)=true:=bne_iff_ne.2 g4
   simp [t0,t3,g4'];exact bad (fun k=>g4 k.2.2.2.1)
  simp [-vfieldAddr,Qs,VM.look,t0,t3,z0,zl,f0,f1,f2,c0,c1,c2,hw,e1,e1',e2,g1,g2,g3,g4]
  by_cases g5:p5=B2
  rotate_left
  ·have g5':(p5 != B2)=true:=bne_iff_ne.2 g5
   simp [t0,t3,g5'];exact bad (fun k=>g5 k.2.2.2.2)
  have g6:=hcmp.2 ⟨g1,g2,g3,g4,g5⟩
  simp [t0,t3,g5]
  refine ih (xs.length-(i+1)) _ _ ⟨i+1,rfl,by omega,by simp [t0],?_,c.trans (Chg.app _),fun j hj=>?_⟩ (by omega)
  ·simp;rw [w64 (by omega) (by omega)]
  ·by_cases hji:j<i
   ·exact hk j hji
   ·have:j=i:=by omega
    subst this;exact g6
 ·have:i=xs.length:=by omega
  subst this
  simp [t0,t3,ll]
  rw [← hY];exact decide_eq_decide.2 ⟨fun h0=>⟨hk,h0⟩,fun k=>k.2⟩
def part (l:List FlitD) (f i:Nat):List FlitD:=(l.drop f).take (i+1-f)
def wpk (l:List FlitD):Nat→List Int×Nat
 | 0=>([],0)
 | i+1=>if whole (part l (wpk l i).2 i) then ((wpk l i).1++[(l.getD (wpk l i).2 flit0).1],i+1) else wpk l i
def wholePk (l:List FlitD):List Int:=if (wpk l l.length).2<l.length then [] else (wpk l l.length).1
theorem V9 (l:List FlitD):∀i,(wpk l i).2≤i∧(wpk l i).1.length≤i
 | 0=>by simp [wpk]
 | i+1=>by
  have:=V9 l i
  simp only [wpk];split
  ·simp;omega
  ·omega
theorem Ll {l:List FlitD} {f i:Nat} (hf:f≤i) (hi:i<l.length) {j:Nat} (hj:j+f≤i):(part l f i).getD j flit0=l.getD (f+j) flit0:=by
 unfold part
 simp only [List.getD_eq_getElem?_getD]
 rw [List.getElem?_take,if_pos (by omega),List.getElem?_drop]
theorem Ra {l:List FlitD} {f i:Nat} (hf:f≤i) (hi:i<l.length):(part l f i).length=i+1-f:=by unfold part;simp;omega
theorem R4 {l:List FlitD} {f i:Nat} (hf:f≤i) (hi:i<l.length) (h:whole (part l f i)):(l.getD i flit0).1=(l.getD f flit0).1:=by
 have h1:=h.1 (i-f) (by rw [Ra hf hi];omega)
 rw [Ll hf hi (by omega)] at h1
 rw [show f+(i-f)=i by omega] at h1
 rw [h1]
 unfold wholeAt
 rw [Ll hf hi (by omega)];rfl
def IntsOk (H:Heap) (xs:List Int) (r:Value) (H':Heap):Prop:=∃u ok,r=.tuple #[u,.bool ok]∧Ow Fl.int 3 H' u xs∧(∀i∈ids u,H.length≤i)∧Chg H H' []
theorem R5 (v:Value) (l:List FlitD) (o:Ow flF 102 H v l) (hl:l.length≤67108864) :
 wp (vcall C frz 63 [v] H) (IntsOk H (wholePk l)):=by
 rw [Qb (fn:=Tryz.f63) Tryz.func63 rfl (by kernel_rfl) rfl]
 simp
 refine Qm (fun n t H'=>∃(i:Nat) (out:Value),n=l.length-i∧i≤l.length∧t 0=v∧t 4=out∧t 5=.int .i64 (wpk l i).2∧t 6=.int .i64 ((i:Int)+1)∧Chg H H' []∧Ow Fl.int 3 H' out (wpk l i).1∧(∀j∈ids out,H.length≤j)) ?_ (n:=l.length)
  ⟨0,.slice (some ⟨H.length,0,some 0⟩) 0 0,rfl,by omega,by simp,by simp,by simp [wpk],by simp,Chg.app _,Ow.new0 (D:=Fl.int) (xs:=[]) rfl rfl rfl rfl,by simp⟩
 rintro n t H' ⟨i,out,rfl,hi,t0,t4,t5,t6,c,oo,no⟩ ih
 have ov:=o.chg c (by simp)
 have ll:=ov.rd.len (P:=Tryz.prog) (ty:=75) (by simp)
 obtain ⟨wle,wll⟩:=V9 l i
 have hF:H.length≤H'.length:=c.1
 simp [t0,t4,t5,t6,ll]
 refine Qf ?_ ?_<;>intro g
 ·have hi':i<l.length:=by omega
  obtain ⟨f,hf⟩:∃f,f=(wpk l i).2:=⟨_,rfl⟩
  have hwp:wpk l (i+1)=if whole (part l f i) then ((wpk l i).1++[(l.getD f flit0).1],i+1) else wpk l i:=by rw [hf];rfl
  rw [← hf] at t5 wle
  have e1:=@w6 ((i:Int)+1) (by omega)
  have e2:∀[Inhabited Unit],IntKind.i64.wrap ((i:Int)+1+1)=((i+1:Nat):Int)+1:=by intro _;rw [w64 (by omega) (by omega)];omega
  obtain ⟨s,hs,os,ids_s⟩:=ov.slice (P:=Tryz.prog) (ty:=75) (by simp) (lo:=some (.int .i64 (f:Int))) (hi:=some (.int .i64 ((i:Int)+1))) (l:=f) (u:=i+1) rfl rfl (by omega) (by omega)
  have iw:=fun F=>Eg (frz:=F) (H:=H') s (part l f i) os.rd (by rw [Ra wle hi'];omega)
  have hfl:f<l.length:=by omega
  have q1:=ov.rd.idx (P:=Tryz.prog) (ty:=75) (e:=102) (by simp) (i:=(f:Int)) (by omega) (by omega)
  have q2:=ov.rd.field (P:=Tryz.prog) (s:=102) (f:=0) (o:=0) (n:=1) (ag:=false) (by simp) (j:=f*5) (by omega)
  have q3:=ov.rd.cell (P:=Tryz.prog) (e:=3) (by simp) hfl (c:=0) (by decide)
  simp only [Int.toNat_natCast,Y4,Nat.add_zero] at q1 q2 q3
  simp only [Wb] at q3
  simp at q3
  simp [t0,t4,t5,t6,e1,hs,iw]
  refine Qf ?_ ?_<;>intro g2
  ·obtain ⟨out',H2,hap,o2,c2,n2⟩:=oo.push (P:=Tryz.prog) (frz:=H.length) (ty:=26) (a:=l[f].1) (by simp) rfl (by omega) no
   simp only [Fl.int_f] at hap
   have l2:=c2.1
   have hsame:=R4 wle hi' g2
   have hgf:l.getD f flit0=l[f]:=by simp [List.getD_eq_getElem?_getD,hfl]
   have hgi:l.getD i flit0=l[i]:=by simp [List.getD_eq_getElem?_getD,hi']
   rw [hgf,hgi] at hsame
   rw [if_pos g2,hgf] at hwp
   simp [-vfieldAddr,Qs,t0,t4,t5,t6,q1,q2,q3,hap,e1]
   refine ih (l.length-(i+1)) _ _ ⟨i+1,out',rfl,by omega,by simp [t0],by simp,by simp [hwp],by simp [e2],c.trans' c2 (fun j hj=>.inr (no j hj)),?_,fun j hj=>?_⟩ (by omega)
   ·rw [hwp];exact o2
   ·rcases n2 j hj with h1|h1
    ·exact no j h1
    ·omega
  ·rw [if_neg g2] at hwp
   simp [t0,t4,t5,t6]
   refine ih (l.length-(i+1)) _ _ ⟨i+1,out,rfl,by omega,by simp [t0],by simp [t4],by rw [hwp,← hf];simp [t5],by simp [e2],c,by rw [hwp];exact oo,no⟩ (by omega)
 ·have:i=l.length:=by omega
  subst this
  simp [t0,t4,t5,t6,ll]
  refine Qf ?_ ?_<;>intro g2
  ·have hz:wholePk l=[]:=if_pos (by omega)
   simp [t0,t4,t5,t6]
   exact ⟨.slice none 0 0,false,rfl,by rw [hz];exact .inl ⟨rfl,rfl⟩,by simp,c⟩
  ·have hz:wholePk l=(wpk l l.length).1:=if_neg (by omega)
   simp [t0,t4,t5,t6]
   exact ⟨out,true,rfl,by rw [hz];exact oo,no,c⟩
theorem Sf (v:Value) (l:List FlitD) (o:Ow flF 102 H v l) (hl:l.length≤67108864) :
 wp (vcall C frz 118 [v] H) (IntsOk H (wholePk l)):=by
 rw [Qb (fn:=Tryz.f118) Tryz.func118 rfl (by kernel_rfl) rfl]
 simp
 refine Qm (fun n t H'=>∃(i:Nat) (out:Value),n=l.length-i∧i≤l.length∧t 0=v∧t 4=out∧t 5=.int .i64 (wpk l i).2∧t 6=.int .i64 i∧Chg H H' []∧Ow Fl.int 3 H' out (wpk l i).1∧(∀j∈ids out,H.length≤j)) ?_ (n:=l.length)
  ⟨0,.slice (some ⟨H.length,0,some 0⟩) 0 0,rfl,by omega,by simp,by simp,by simp [wpk],by simp,Chg.app _,Ow.new0 (D:=Fl.int) (xs:=[]) rfl rfl rfl rfl,by simp⟩
 rintro n t H' ⟨i,out,rfl,hi,t0,t4,t5,t6,c,oo,no⟩ ih
 have ov:=o.chg c (by simp)
 have ll:=ov.rd.len (P:=Tryz.prog) (ty:=75) (by simp)
 obtain ⟨wle,wll⟩:=V9 l i
 have hF:H.length≤H'.length:=c.1
 simp [t0,t4,t5,t6,ll]
 refine Qf ?_ ?_<;>intro g
 ·have hi':i<l.length:=by omega
  obtain ⟨f,hf⟩:∃f,f=(wpk l i).2:=⟨_,rfl⟩
  have hwp:wpk l (i+1)=if whole (part l f i) then ((wpk l i).1++[(l.getD f flit0).1],i+1) else wpk l i:=by rw [hf];rfl
  rw [← hf] at t5 wle
  have e1:=@w6 ((i:Int)+1) (by omega)
  have e2:∀[Inhabited Unit],IntKind.i64.wrap ((i:Int)+1+1)=((i+1:Nat):Int)+1:=by intro _;rw [w64 (by omega) (by omega)];omega
  obtain ⟨s,hs,os,ids_s⟩:=ov.slice (P:=Tryz.prog) (ty:=75) (by simp) (lo:=some (.int .i64 (f:Int))) (hi:=some (.int .i64 ((i:Int)+1))) (l:=f) (u:=i+1) rfl rfl (by omega) (by omega)
  have iw:=fun F=>Jq (frz:=F) (H:=H') s (part l f i) os.rd (by rw [Ra wle hi'];omega)
  have hfl:f<l.length:=by omega
  have q1:=ov.rd.idx (P:=Tryz.prog) (ty:=75) (e:=102) (by simp) (i:=(i:Int)) (by omega) (by omega)
  have q2:=ov.rd.field (P:=Tryz.prog) (s:=102) (f:=0) (o:=0) (n:=1) (ag:=false) (by simp) (j:=i*5) (by omega)
  have q3:=ov.rd.cell (P:=Tryz.prog) (e:=3) (by simp) hi' (c:=0) (by decide)
  simp only [Int.toNat_natCast,Y4,Nat.add_zero] at q1 q2 q3
  simp only [Wb] at q3
  simp at q3
  simp [t0,t4,t5,t6,e1,hs,iw]
  refine Qf ?_ ?_<;>intro g2
  ·obtain ⟨out',H2,hap,o2,c2,n2⟩:=oo.push (P:=Tryz.prog) (frz:=H.length) (ty:=26) (a:=l[i].1) (by simp) rfl (by omega) no
   simp only [Fl.int_f] at hap
   have l2:=c2.1
   have hsame:=R4 wle hi' g2
   have hgf:l.getD f flit0=l[f]:=by simp [List.getD_eq_getElem?_getD,hfl]
   have hgi:l.getD i flit0=l[i]:=by simp [List.getD_eq_getElem?_getD,hi']
   rw [hgf,hgi] at hsame
   rw [if_pos g2,hgf] at hwp
   simp [-vfieldAddr,Qs,t0,t4,t5,t6,q1,q2,q3,hap,e1]
   refine ih (l.length-(i+1)) _ _ ⟨i+1,out',rfl,by omega,by simp [t0],by simp,by simp [hwp],by simp,c.trans' c2 (fun j hj=>.inr (no j hj)),?_,fun j hj=>?_⟩ (by omega)
   ·rw [hwp];rw [hsame] at o2;exact o2
   ·rcases n2 j hj with h1|h1
    ·exact no j h1
    ·omega
  ·rw [if_neg g2] at hwp
   simp [t0,t4,t5,t6]
   refine ih (l.length-(i+1)) _ _ ⟨i+1,out,rfl,by omega,by simp [t0],by simp [t4],by rw [hwp,← hf];simp [t5],by simp [e1],c,by rw [hwp];exact oo,no⟩ (by omega)
 ·have:i=l.length:=by omega
  subst this
  simp [t0,t4,t5,t6,ll]
  refine Qf ?_ ?_<;>intro g2
  ·have hz:wholePk l=[]:=if_pos (by omega)
   simp [t0,t4,t5,t6]
   exact ⟨.slice (some ⟨H'.length,0,some 0⟩) 0 0,false,rfl,by rw [hz];exact Ow.new0 (D:=Fl.int) (xs:=[]) rfl rfl rfl rfl,by simp;omega,c.trans (Chg.app _)⟩
  ·have hz:wholePk l=(wpk l l.length).1:=if_neg (by omega)
   simp [t0,t4,t5,t6]
   exact ⟨out,true,rfl,by rw [hz];exact oo,no,c⟩
def trim (l:List FlitD):List FlitD:=(l.reverse.dropWhile fun f=>!f.2.2.2.2).reverse
theorem V7 (l:List FlitD) (f:FlitD):trim (l++[f])=if f.2.2.2.2=true then l++[f] else trim l:=by
 unfold trim
 rw [List.reverse_append,List.reverse_singleton,List.singleton_append,List.dropWhile_cons]
 cases h:f.2.2.2.2<;>simp
def arrIds (arr:SSD) (node:Nat) (c:Int):List Int:=wholePk (trim ((arr.getD node []).filter fun f=>f.2.2.1=c))
theorem Me (v:Value) (xs:List FlitD) (c:Int) (hI:Rd flF H v xs) (hl:xs.length≤1073741824) :
 wp (vcall C frz 117 [v,.int .i64 c] H) (fun r H'=>Ow flF 102 H' r (xs.filter fun f=>f.2.2.1=c)∧(∀i∈ids r,H.length≤i)∧Chg H H' []):=by
 rw [Qb (fn:=Tryz.f117) Tryz.func117 rfl (by kernel_rfl) rfl]
 simp
 refine Qm (fun n t H'=>∃(i:Nat) (r:Value),n=xs.length-i∧i≤xs.length∧t 0=v∧t 1=.int .i64 c∧t 5=r∧t 6=.int .i64 i∧Chg H H' []∧Ow flF 102 H' r ((xs.take i).filter fun f=>f.2.2.1=c)∧(∀j∈ids r,H.length≤j)) ?_ (n:=xs.length)
  ⟨0,.slice (some ⟨H.length,0,some 0⟩) 0 0,rfl,by omega,by simp,by simp,by simp,by simp,Chg.app _,Ow.new0 (D:=flF) (xs:=[]) rfl rfl rfl rfl,by simp⟩
 rintro n t H' ⟨i,r,rfl,hi,t0,t1,t5,t6,ch,o,nr⟩ ih
 have rd:=hI.chg ch (by simp)
 simp [t0,t1,t5,t6,rd.len (P:=Tryz.prog) (ty:=75) (by simp)]
 refine Qf ?_ ?_<;>intro g
 ·have hi':i<xs.length:=by omega
  have q1:=rd.idx (P:=Tryz.prog) (ty:=75) (e:=102) (by simp) (i:=(i:Int)) (by omega) (by omega)
  have q2:=rd.load (P:=Tryz.prog) (e:=102) (by simp) hi'
  have q3:=rd.field (P:=Tryz.prog) (s:=102) (f:=2) (o:=2) (n:=1) (ag:=false) (by simp) (j:=i*5) (by omega)
  have q4:=rd.cell (P:=Tryz.prog) (e:=3) (by simp) hi' (c:=2) (by decide)
  simp only [Int.toNat_natCast,Y4] at q1 q2 q4
  simp only [Wb] at q4
  simp at q4
  have hF:H.length≤H'.length:=ch.1
  have hfl:=List.length_filter_le (fun f:FlitD=>decide (f.2.2.1=c)) (xs.take i)
  have htl:(xs.take i).length≤i:=by simp;omega
  simp [-vfieldAddr,Qs,t0,t1,t5,t6,q1,q3,q4]
  refine Qf ?_ ?_<;>intro g1
  ·obtain ⟨r',H2,hap,o2,c2,n2⟩:=o.push (P:=Tryz.prog) (frz:=H.length) (ty:=75) (a:=xs[i]) (by simp) rfl (by omega) nr
   simp only [Wb] at hap
   simp [t0,t1,t5,t6,q1,q2,Wb,hap]
   refine ih (xs.length-(i+1)) _ _ ⟨i+1,r',rfl,by omega,by simp [t0],by simp [t1],by simp,?_,ch.trans' c2 (fun j hj=>.inr (nr j hj)),?_,fun j hj=>?_⟩ (by omega)
   ·simp;rw [w64 (by omega) (by omega)]
   ·rw [List.take_succ_eq_append_getElem hi',List.filter_append];simpa [g1] using o2
   ·rcases n2 j hj with h1|h1
    ·exact nr j h1
    ·omega
  ·simp [t0,t1,t5,t6,g1]
   refine ih (xs.length-(i+1)) _ _ ⟨i+1,r,rfl,by omega,by simp [t0],by simp [t1],by simp [t5],?_,ch,?_,nr⟩ (by omega)
   ·simp;rw [w64 (by omega) (by omega)]
   ·rw [List.take_succ_eq_append_getElem hi',List.filter_append];simpa [g1] using o
 ·have:i=xs.length:=by omega
  subst this
  rw [List.take_length] at o
  simp [t0,t1,t5,t6]
  exact ⟨o,nr,ch⟩
theorem Oe {id:Nat} {w h tm:Int} {u2 u3 u4 u5 u6 u7 u8:Value} {v9:SSV} {arr:SSD} {node:Nat} {k:Int} (hr:H[id]? = some ⟨[.int .i64 w,.int .i64 h,u2,u3,u4,u5,u6,u7,u8,v9.1,.int .i64 tm],0,35⟩) (h9:dSS.Ow H v9 arr) (hn:node<arr.length) :
 wp (vcall C frz 34 [.pointer (some ⟨id,0,some 0⟩),.int .i64 node,.int .i64 k] H) (IntsOk H (arrIds arr node k)):=by
 rw [Qb (fn:=Tryz.f34) Tryz.func34 rfl (by kernel_rfl) rfl]
 have rl:=h9.1.rd
 obtain ⟨u,_,a2,a3,a4⟩:=Q9 rl (ty:=33) (e:=75) (by simp) (by simp) hn
 have hm:=h9.2.2 _ (List.getElem_mem hn)
 have hg:arr.getD node []=arr[node]:=by simp [List.getD_eq_getElem?_getD,hn]
 simp [VM.vnil,VM.look,hr,a2,a3]
 refine Qd (T5 u arr[node] k a4 (by omega)) ?_
 rintro s G1 ⟨os,ns,c1⟩
 have cH:Chg H G1 []:=c1
 have ns':∀i∈ids s,H.length≤i:=fun i hi=>by have:=ns i hi;omega
 have hfl:=List.length_filter_le (fun f:FlitD=>decide (f.2.2.1=k)) arr[node]
 unfold arrIds
 rw [hg]
 generalize (arr[node].filter fun f=>f.2.2.1=k)=l0 at *
 simp
 refine Qm (fun n t H'=>∃(s:Value) (l:List FlitD),n=l.length∧t 8=s∧H'=G1∧Ow flF 102 G1 s l∧trim l=trim l0∧l.length≤l0.length) ?_ (n:=l0.length)
  ⟨s,l0,rfl,by simp,rfl,os,rfl,Nat.le_refl _⟩
 rintro n t H' ⟨s,l,rfl,t8,rfl,o,ht,hle⟩ ih
 have ll:=o.rd.len (P:=Tryz.prog) (ty:=75) (by simp)
 simp [t8,ll]
 have fin:trim l0=l→wp (vcall C H.length 63 [s] H') (fun r H2=>IntsOk H (wholePk (trim l0)) r H2):=fun e=>by
  rw [e]
  refine (R5 s l o (by omega)).mono ?_
  rintro r H2 ⟨u',ok,rfl,o2,n2,c2⟩
  exact ⟨u',ok,rfl,o2,fun i hi=>by have:=n2 i hi;have:=cH.1;omega,cH.trans c2⟩
 by_cases h0:l=[]
 ·have hz:trim l0=l:=by rw [← ht,h0];rfl
  have hl0:l.length=0:=by rw [h0];rfl
  simp [hl0,t8]
  refine Qd (fin hz) ?_
  rintro _ H2 ⟨u',ok,rfl,o2,n2,c2⟩
  simp
  exact ⟨u',ok,rfl,o2,n2,c2⟩
 ·have hpos:0<l.length:=List.length_pos_iff.2 h0
  obtain ⟨m,hm1⟩:∃m,l.length=m+1:=⟨l.length-1,by omega⟩
  have hml:m<l.length:=by omega
  have hsn:l=l.take m++[l[m]]:=by
   have:=List.take_succ_eq_append_getElem hml
   rw [← this,List.take_of_length_le (by omega)]
  have e1:∀[Inhabited Unit],IntKind.i64.wrap ((m:Int)+1-1)=(m:Int):=by intro _;rw [w64 (by omega) (by omega)];omega
  have e1':∀[Inhabited Unit],IntKind.i64.wrap (m:Int)=(m:Int):=by intro _;rw [w64 (by omega) (by omega)]
  have q1:=o.rd.idx (P:=Tryz.prog) (ty:=75) (e:=102) (by simp) (i:=(m:Int)) (by omega) (by omega)
  have q3:=o.rd.field (P:=Tryz.prog) (s:=102) (f:=4) (o:=4) (n:=1) (ag:=false) (by simp) (j:=m*5) (by omega)
  have q4:=o.rd.cell (P:=Tryz.prog) (e:=4) (by simp) hml (c:=4) (by decide)
  simp only [Int.toNat_natCast,Y4] at q1 q4
  simp only [Wb] at q4
  simp at q4
  have hgt:(0:Int)<(m:Int)+1:=by omega
  have hts:=V7 (l.take m) l[m]
  rw [← hsn] at hts
  obtain ⟨f,hf⟩:∃f,f=l[m]:=⟨_,rfl⟩
  rw [← hf] at hts q4
  simp [-vfieldAddr,Qs,t8,ll,hm1,hgt,e1,e1',q1,q3,q4]
  cases hb:f.2.2.2.2
  ·rw [if_neg (by rw [hb];simp)] at hts
   obtain ⟨s',hs',os',ids_s⟩:=o.slice (P:=Tryz.prog) (ty:=75) (by simp) (lo:=none) (hi:=some (.int .i64 (m:Int))) (l:=0) (u:=m) rfl rfl (by omega) (by omega)
   simp only [List.drop_zero,Nat.sub_zero] at os'
   simp [t8,ll,hm1,e1,e1',hs']
   refine ih (l.take m).length _ _ ⟨s',l.take m,rfl,by simp,rfl,os',by rw [← hts,ht],by simp;omega⟩ (by simp;omega)
  ·rw [if_pos hb] at hts
   have hz:trim l0=l:=by rw [← ht,hts]
   simp [t8]
   refine Qd (fin hz) ?_
   rintro _ H2 ⟨u',ok,rfl,o2,n2,c2⟩
   simp
   exact ⟨u',ok,rfl,o2,n2,c2⟩
theorem Ks {v:NetV} {x:NetD} {node:Nat} {k:Int} (o:dNet.Ow H v x) (hn:node<x.2.2.2.2.2.2.1.length) :
 wp (vcall C frz 98 [dNet.val v x,.int .i64 node,.int .i64 k] H) (IntsOk H (arrIds x.2.2.2.2.2.2.1 node k)):=by
 have ones:=Qh o
 obtain ⟨_,_,_,_,_,_,h9,_⟩:=o
 rw [Qc,Qb (fn:=Tryz.f98) Tryz.func98 rfl (by kernel_rfl) rfl]
 have rl:=h9.1.rd
 obtain ⟨arr,harr⟩:∃a,a=x.2.2.2.2.2.2.1:=⟨_,rfl⟩
 simp only [← harr] at hn h9 rl ⊢
 have rl':=fun (L:Heap)=>rl.app (L:=L)
 have hm:=h9.2.2 _ (List.getElem_mem hn)
 have hg:arr.getD node []=arr[node]:=by simp [List.getD_eq_getElem?_getD,hn]
 obtain ⟨u,hu,_,_,a4'⟩:=Q9 rl (ty:=33) (e:=75) (by simp) (by simp) hn
 have aa:∀(L:Heap),vindexAddr Tryz.prog (H++L) 33 v.2.2.2.2.2.2.1.1 (.int .i64 node)=some (elp v.2.2.2.2.2.2.1.1 node)∧vload Tryz.prog (H++L) 75 (elp v.2.2.2.2.2.2.1.1 node)=some u:=fun L=>by
  obtain ⟨u',hu',b2,b3,b4⟩:=Q9 (rl' L) (ty:=33) (e:=75) (by simp) (by simp) hn
  rw [hu] at hu';cases hu'
  exact ⟨b2,b3⟩
 have a2:=fun L=>(aa L).1
 have a3:=fun L=>(aa L).2
 simp [ones,a2,a3]
 refine Qd (Me u arr[node] k a4'.app (by omega)) ?_
 rintro s G1 ⟨os,ns,c1⟩
 have cH:Chg H G1 []:=(Chg.app []).trans c1
 have ns':∀i∈ids s,H.length≤i:=fun i hi=>by have:=ns i hi;simp at this;omega
 have hfl:=List.length_filter_le (fun f:FlitD=>decide (f.2.2.1=k)) arr[node]
 unfold arrIds
 rw [hg]
 generalize (arr[node].filter fun f=>f.2.2.1=k)=l0 at *
 simp
 refine Qm (fun n t H'=>∃(s:Value) (l:List FlitD),n=l.length∧t 8=s∧H'=G1∧Ow flF 102 G1 s l∧trim l=trim l0∧l.length≤l0.length) ?_ (n:=l0.length)
  ⟨s,l0,rfl,by simp,rfl,os,rfl,Nat.le_refl _⟩
 rintro n t H' ⟨s,l,rfl,t8,rfl,o,ht,hle⟩ ih
 have ll:=o.rd.len (P:=Tryz.prog) (ty:=75) (by simp)
 simp [t8,ll]
 have fin:trim l0=l→wp (vcall C H.length 118 [s] H') (fun r H2=>IntsOk H (wholePk (trim l0)) r H2):=fun e=>by
  rw [e]
  refine (Sf s l o (by omega)).mono ?_
  rintro r H2 ⟨u',ok,rfl,o2,n2,c2⟩
  exact ⟨u',ok,rfl,o2,fun i hi=>by have:=n2 i hi;have:=cH.1;omega,cH.trans c2⟩
 by_cases h0:l=[]
 ·have hz:trim l0=l:=by rw [← ht,h0];rfl
  have hl0:l.length=0:=by rw [h0];rfl
  simp [hl0,t8]
  refine Qd (fin hz) ?_
  rintro _ H2 ⟨u',ok,rfl,o2,n2,c2⟩
  simp
  exact ⟨u',ok,rfl,o2,n2,c2⟩
 ·have hpos:0<l.length:=List.length_pos_iff.2 h0
  obtain ⟨m,hm1⟩:∃m,l.length=m+1:=⟨l.length-1,by omega⟩
  have hml:m<l.length:=by omega
  have hsn:l=l.take m++[l[m]]:=by
   have:=List.take_succ_eq_append_getElem hml
   rw [← this,List.take_of_length_le (by omega)]
  have e1:∀[Inhabited Unit],IntKind.i64.wrap ((m:Int)+1-1)=(m:Int):=by intro _;rw [w64 (by omega) (by omega)];omega
  have e1':∀[Inhabited Unit],IntKind.i64.wrap (m:Int)=(m:Int):=by intro _;rw [w64 (by omega) (by omega)]
  have q1:=o.rd.idx (P:=Tryz.prog) (ty:=75) (e:=102) (by simp) (i:=(m:Int)) (by omega) (by omega)
  have q3:=o.rd.field (P:=Tryz.prog) (s:=102) (f:=4) (o:=4) (n:=1) (ag:=false) (by simp) (j:=m*5) (by omega)
  have q4:=o.rd.cell (P:=Tryz.prog) (e:=4) (by simp) hml (c:=4) (by decide)
  simp only [Int.toNat_natCast,Y4] at q1 q4
  simp only [Wb] at q4
  simp at q4
  have hgt:(0:Int)<(m:Int)+1:=by omega
  have hts:=V7 (l.take m) l[m]
  rw [← hsn] at hts
  obtain ⟨f,hf⟩:∃f,f=l[m]:=⟨_,rfl⟩
  rw [← hf] at hts q4
  simp [-vfieldAddr,Qs,t8,ll,hm1,hgt,e1,e1',q1,q3,q4]
  cases hb:f.2.2.2.2
  ·rw [if_neg (by rw [hb];simp)] at hts
   obtain ⟨s',hs',os',ids_s⟩:=o.slice (P:=Tryz.prog) (ty:=75) (by simp) (lo:=none) (hi:=some (.int .i64 (m:Int))) (l:=0) (u:=m) rfl rfl (by omega) (by omega)
   simp only [List.drop_zero,Nat.sub_zero] at os'
   simp [t8,ll,hm1,e1,e1',hs']
   refine ih (l.take m).length _ _ ⟨s',l.take m,rfl,by simp,rfl,os',by rw [← hts,ht],by simp;omega⟩ (by simp;omega)
  ·rw [if_pos hb] at hts
   have hz:trim l0=l:=by rw [← ht,hts]
   simp [t8]
   refine Qd (fin hz) ?_
   rintro _ H2 ⟨u',ok,rfl,o2,n2,c2⟩
   simp
   exact ⟨u',ok,rfl,o2,n2,c2⟩
def isFlow (a b c:Int) (p:PkD):Prop:=p.2.1=a∧p.2.2.1=b∧p.2.2.2.1=c
instance (a b c:Int) (p:PkD):Decidable (isFlow a b c p):=inferInstanceAs (Decidable (_∧_))
def sentP (list:List PkD) (id a b c:Int):Prop:=∃p∈list,p.1=id∧isFlow a b c p
instance (list:List PkD) (id a b c:Int):Decidable (sentP list id a b c):=inferInstanceAs (Decidable (∃p∈list,_))
def sentIds (list:List PkD) (a b c:Int):List Int:=(list.filter fun p=>isFlow a b c p).map (·.1)
def among (all:List Int) (list:List PkD) (a b c:Int):List Int:=all.filter fun id=>sentP list id a b c
theorem Uh (all:List Int) (list:List PkD) (a b c:Int):(among all list a b c).length≤all.length:=List.length_filter_le _ _
theorem Ty (list:List PkD) (a b c:Int):(sentIds list a b c).length≤list.length:=by unfold sentIds;rw [List.length_map];exact List.length_filter_le _ _
def NewInts (H:Heap) (xs:List Int) (r:Value) (H':Heap):Prop:=Ow Fl.int 3 H' r xs∧(∀i∈ids r,H.length≤i)∧Chg H H' []
theorem Cv (v:Value) (list:List PkD) (id a b c:Int) (hI:Rd pkF H v list) (hl:list.length≤1073741824) :
 vcall C frz 68 [v,.int .i64 id,.int .i64 a,.int .i64 b,.int .i64 c] H=some (.bool (decide (sentP list id a b c)),H):=by
 refine wp.exact (by simp) ?_ rfl
 rw [Qb (fn:=Tryz.f68) Tryz.func68 rfl (by kernel_rfl) rfl]
 generalize hY:decide (sentP list id a b c)=Y
 simp [hI.len (P:=Tryz.prog) (ty:=36) (by simp)]
 refine Qm (fun n t H'=>∃i:Nat,n=list.length-i∧i≤list.length∧t 1=.int .i64 id∧t 2=.int .i64 a∧t 3=.int .i64 b∧t 4=.int .i64 c∧t 13=v∧t 14=.int .i64 list.length∧t 15=.int .i64 i∧Chg H H' []∧∀p∈list.take i,¬(p.1=id∧isFlow a b c p)) ?_ (n:=list.length)
  ⟨0,rfl,by omega,by simp,by simp,by simp,by simp,by simp,by simp,by simp,Chg.refl _,by simp⟩
 rintro n t H' ⟨i,rfl,hi,t1,t2,t3,t4,t13,t14,t15,ch,hk⟩ ih
 simp [t1,t2,t3,t4,t13,t14,t15]
 refine Qf ?_ ?_<;>intro g
 ·have hi':i<list.length:=by omega
  have rd:=hI.chg ch (by simp)
  have q1:=rd.idx (P:=Tryz.prog) (ty:=36) (e:=47) (by simp) (i:=(i:Int)) (by omega) (by omega)
  have q2:=rd.load (P:=Tryz.prog) (e:=47) (by simp) hi'
  simp only [Int.toNat_natCast,Uw] at q1 q2
  have hF:H.length≤H'.length:=ch.1
  have hst:=fun {x} (hx:x∈list.take (i+1))=>Wl hi' hx
  have hmem:=List.getElem_mem hi'
  obtain ⟨p,hp⟩:∃p,p=list[i]:=⟨_,rfl⟩
  rw [← hp] at q2 hst hmem
  have ext:¬(p.1=id∧isFlow a b c p)→∀x∈list.take (i+1),¬(x.1=id∧isFlow a b c x):=fun hh x hx=>by
   rcases hst hx with hx|rfl
   ·exact hk x hx
   ·exact hh
  simp [t1,t2,t3,t4,t13,t14,t15,q1,q2,Xw,hF,VM.look]
  by_cases g1:p.1=id
  rotate_left
  ·simp [t1,t2,t3,t4,t13,t14,t15,g1]
   refine ih (list.length-(i+1)) _ _ ⟨i+1,rfl,by omega,by simp [t1],by simp [t2],by simp [t3],by simp [t4],by simp [t13],by simp [t14],?_,ch.trans (Chg.app _),ext (fun k=>g1 k.1)⟩ (by omega)
   simp;rw [w64 (by omega) (by omega)]
  simp [t1,t2,t3,t4,t13,t14,t15,VM.look,g1]
  by_cases g2:p.2.1=a
  rotate_left
  ·simp [t1,t2,t3,t4,t13,t14,t15,g1,g2]
   refine ih (list.length-(i+1)) _ _ ⟨i+1,rfl,by omega,by simp [t1],by simp [t2],by simp [t3],by simp [t4],by simp [t13],by simp [t14],?_,ch.trans (Chg.app _),ext (fun k=>g2 k.2.1)⟩ (by omega)
   simp;rw [w64 (by omega) (by omega)]
  simp [t1,t2,t3,t4,t13,t14,t15,VM.look,g1,g2]
  by_cases g3:p.2.2.1=b
  rotate_left
  ·simp [t1,t2,t3,t4,t13,t14,t15,g1,g2,g3]
   refine ih (list.length-(i+1)) _ _ ⟨i+1,rfl,by omega,by simp [t1],by simp [t2],by simp [t3],by simp [t4],by simp [t13],by simp [t14],?_,ch.trans (Chg.app _),ext (fun k=>g3 k.2.2.1)⟩ (by omega)
   simp;rw [w64 (by omega) (by omega)]
  simp [t1,t2,t3,t4,t13,t14,t15,VM.look,g1,g2,g3]
  by_cases g4:p.2.2.2.1=c
  rotate_left
  ·simp [t1,t2,t3,t4,t13,t14,t15,g1,g2,g3,g4]
   refine ih (list.length-(i+1)) _ _ ⟨i+1,rfl,by omega,by simp [t1],by simp [t2],by simp [t3],by simp [t4],by simp [t13],by simp [t14],?_,ch.trans (Chg.app _),ext (fun k=>g4 k.2.2.2)⟩ (by omega)
   simp;rw [w64 (by omega) (by omega)]
  simp [t1,t2,t3,t4,t13,t14,t15,VM.look,g1,g2,g3,g4]
  rw [← hY];exact decide_eq_true ⟨p,hmem,g1,g2,g3,g4⟩
 ·have:i=list.length:=by omega
  subst this
  rw [List.take_length] at hk
  simp [t1,t2,t3,t4,t13,t14,t15]
  rw [← hY];exact decide_eq_false (fun ⟨p,h1,h2⟩=>hk p h1 h2)
theorem Lr (u v:Value) (all:List Int) (list:List PkD) (a b c:Int) (hA:Rd Fl.int H u all) (hI:Rd pkF H v list) (hla:all.length≤1073741824) (hl:list.length≤1073741824) :
 wp (vcall C frz 44 [u,v,.int .i64 a,.int .i64 b,.int .i64 c] H) (NewInts H (among all list a b c)):=by
 rw [Qb (fn:=Tryz.f44) Tryz.func44 rfl (by kernel_rfl) rfl]
 simp [hA.app.len (P:=Tryz.prog) (ty:=26) (by simp)]
 refine Qm (fun n t H'=>∃(i:Nat) (out:Value),n=all.length-i∧i≤all.length∧t 1=v∧t 2=.int .i64 a∧t 3=.int .i64 b∧t 4=.int .i64 c∧t 11=out∧t 15=u∧t 16=.int .i64 all.length∧t 17=.int .i64 i∧NewInts H (among (all.take i) list a b c) out H') ?_ (n:=all.length)
  ⟨0,.slice (some ⟨H.length,0,some 0⟩) 0 0,rfl,by omega,by simp,by simp,by simp,by simp,by simp,by simp,by simp,by simp,Ow.new0 (D:=Fl.int) (xs:=[]) rfl rfl rfl rfl,by simp,Chg.app _⟩
 rintro n t H' ⟨i,out,rfl,hi,t1,t2,t3,t4,t11,t15,t16,t17,o,no,ch⟩ ih
 simp [t1,t2,t3,t4,t11,t15,t16,t17]
 refine Qf ?_ ?_<;>intro g
 ·have hi':i<all.length:=by omega
  have ra:=(hA.chg ch (by simp)).isI
  have q1:=ra.idx (P:=Tryz.prog) (ty:=26) (e:=3) (by simp) (i:=(i:Int)) (by omega) (by omega)
  have q2:=ra.load (P:=Tryz.prog) (e:=3) (by simp) hi'
  simp only [Int.toNat_natCast,Wx hi'] at q1 q2
  have is:=fun F=>Cv (frz:=F) (H:=H') v list all[i] a b c (hI.chg ch (by simp)) hl
  have hal:=Uh (all.take i) list a b c
  have htl:(all.take i).length≤i:=by simp;omega
  have hF:H.length≤H'.length:=ch.1
  have hsu:among (all.take (i+1)) list a b c=among (all.take i) list a b c++(if sentP list all[i] a b c then [all[i]] else []):=by
   unfold among;rw [List.take_succ_eq_append_getElem hi',List.filter_append];congr 1;by_cases h:sentP list all[i] a b c<;>simp [h]
  simp [t1,t2,t3,t4,t11,t15,t16,t17,q1,q2,is]
  refine Qf ?_ ?_<;>intro g1
  ·obtain ⟨r',H2,hap,o2,c2,n2⟩:=o.push (P:=Tryz.prog) (frz:=H.length) (ty:=26) (a:=all[i]) (by simp) rfl (by omega) no
   simp only [Fl.int_f] at hap
   simp [t1,t2,t3,t4,t11,t15,t16,t17,hap]
   refine ih (all.length-(i+1)) _ _ ⟨i+1,r',rfl,by omega,by simp [t1],by simp [t2],by simp [t3],by simp [t4],by simp,by simp [t15],by simp [t16],?_,by rw [hsu,if_pos g1];exact o2,fun j hj=>?_,ch.trans' c2 (fun j hj=>.inr (no j hj))⟩ (by omega)
   ·simp;rw [w64 (by omega) (by omega)]
   ·rcases n2 j hj with h1|h1
    ·exact no j h1
    ·omega
  ·simp [t1,t2,t3,t4,t11,t15,t16,t17]
   refine ih (all.length-(i+1)) _ _ ⟨i+1,out,rfl,by omega,by simp [t1],by simp [t2],by simp [t3],by simp [t4],by simp [t11],by simp [t15],by simp [t16],?_,by rw [hsu,if_neg g1,List.append_nil];exact o,no,ch⟩ (by omega)
   simp;rw [w64 (by omega) (by omega)]
 ·have:i=all.length:=by omega
  subst this
  rw [List.take_length] at o
  simp [t1,t2,t3,t4,t11,t15,t16,t17]
  exact ⟨o,no,ch⟩
theorem Jz (v:Value) (list:List PkD) (a b c:Int) (hI:Rd pkF H v list) (hl:list.length≤1073741824) :
 wp (vcall C frz 45 [v,.int .i64 a,.int .i64 b,.int .i64 c] H) (NewInts H (sentIds list a b c)):=by
 rw [Qb (fn:=Tryz.f45) Tryz.func45 rfl (by kernel_rfl) rfl]
 simp [hI.app.len (P:=Tryz.prog) (ty:=36) (by simp)]
 refine Qm (fun n t H'=>∃(i:Nat) (out:Value),n=list.length-i∧i≤list.length∧t 1=.int .i64 a∧t 2=.int .i64 b∧t 3=.int .i64 c∧t 9=out∧t 13=v∧t 14=.int .i64 list.length∧t 15=.int .i64 i∧NewInts H (sentIds (list.take i) a b c) out H') ?_ (n:=list.length)
  ⟨0,.slice (some ⟨H.length,0,some 0⟩) 0 0,rfl,by omega,by simp,by simp,by simp,by simp,by simp,by simp,by simp,Ow.new0 (D:=Fl.int) (xs:=[]) rfl rfl rfl rfl,by simp,Chg.app _⟩
 rintro n t H' ⟨i,out,rfl,hi,t1,t2,t3,t9,t13,t14,t15,o,no,ch⟩ ih
 have rd:=hI.chg ch (by simp)
 simp [t1,t2,t3,t9,t13,t14,t15,rd.len (P:=Tryz.prog) (ty:=36) (by simp)]
 refine Qf ?_ ?_<;>intro g
 ·have hi':i<list.length:=by omega
  have q1:=rd.idx (P:=Tryz.prog) (ty:=36) (e:=47) (by simp) (i:=(i:Int)) (by omega) (by omega)
  have q2:=rd.load (P:=Tryz.prog) (e:=47) (by simp) hi'
  have f0:=rd.field (P:=Tryz.prog) (s:=47) (f:=0) (o:=0) (n:=1) (ag:=false) (by simp) (j:=i*5) (by omega)
  have f1:=rd.field (P:=Tryz.prog) (s:=47) (f:=1) (o:=1) (n:=1) (ag:=false) (by simp) (j:=i*5) (by omega)
  have f2:=rd.field (P:=Tryz.prog) (s:=47) (f:=2) (o:=2) (n:=1) (ag:=false) (by simp) (j:=i*5) (by omega)
  have f3:=rd.field (P:=Tryz.prog) (s:=47) (f:=3) (o:=3) (n:=1) (ag:=false) (by simp) (j:=i*5) (by omega)
  have k0:=rd.cell (P:=Tryz.prog) (e:=3) (by simp) hi' (c:=0) (by decide)
  have k1:=rd.cell (P:=Tryz.prog) (e:=3) (by simp) hi' (c:=1) (by decide)
  have k2:=rd.cell (P:=Tryz.prog) (e:=3) (by simp) hi' (c:=2) (by decide)
  have k3:=rd.cell (P:=Tryz.prog) (e:=3) (by simp) hi' (c:=3) (by decide)
  simp only [Int.toNat_natCast,Uw,Nat.add_zero] at q1 q2 f0 k0 k1 k2 k3
  simp only [Xw] at k0 k1 k2 k3
  simp at k0 k1 k2 k3
  have hsl:=Ty (list.take i) a b c
  have htl:(list.take i).length≤i:=by simp;omega
  have hF:H.length≤H'.length:=ch.1
  have hsu:sentIds (list.take (i+1)) a b c=sentIds (list.take i) a b c++(if isFlow a b c list[i] then [list[i].1] else []):=by
   unfold sentIds;rw [List.take_succ_eq_append_getElem hi',List.filter_append,List.map_append];congr 1;by_cases h:isFlow a b c list[i]<;>simp [h]
  obtain ⟨p,hp⟩:∃p,p=list[i]:=⟨_,rfl⟩
  rw [← hp] at q2 k0 k1 k2 k3 hsu
  simp [-vfieldAddr,Qs,t1,t2,t3,t9,t13,t14,t15,q1,q2,f0,f1,f2,f3,k0,k1,k2,k3,Xw,hF,VM.look]
  by_cases g1:p.2.1=a
  rotate_left
  ·have hno:¬isFlow a b c p:=fun k=>g1 k.1
   simp [t1,t2,t3,t9,t13,t14,t15,g1]
   refine ih (list.length-(i+1)) _ _ ⟨i+1,out,rfl,by omega,by simp [t1],by simp [t2],by simp [t3],by simp [t9],by simp [t13],by simp [t14],?_,by rw [hsu,if_neg hno,List.append_nil];exact o.app,no,ch.trans (Chg.app _)⟩ (by omega)
   simp;rw [w64 (by omega) (by omega)]
  simp [-vfieldAddr,Qs,t1,t2,t3,t9,t13,t14,t15,VM.look,q1,f0,f1,f2,f3,k0,k1,k2,k3,g1]
  by_cases g2:p.2.2.1=b
  rotate_left
  ·have hno:¬isFlow a b c p:=fun k=>g2 k.2.1
   simp [t1,t2,t3,t9,t13,t14,t15,g1,g2]
   refine ih (list.length-(i+1)) _ _ ⟨i+1,out,rfl,by omega,by simp [t1],by simp [t2],by simp [t3],by simp [t9],by simp [t13],by simp [t14],?_,by rw [hsu,if_neg hno,List.append_nil];exact o.app,no,ch.trans (Chg.app _)⟩ (by omega)
   simp;rw [w64 (by omega) (by omega)]
  simp [-vfieldAddr,Qs,t1,t2,t3,t9,t13,t14,t15,VM.look,q1,f0,f1,f2,f3,k0,k1,k2,k3,g1,g2]
  by_cases g3:p.2.2.2.1=c
  rotate_left
  ·have hno:¬isFlow a b c p:=fun k=>g3 k.2.2
   simp [t1,t2,t3,t9,t13,t14,t15,g1,g2,g3]
   refine ih (list.length-(i+1)) _ _ ⟨i+1,out,rfl,by omega,by simp [t1],by simp [t2],by simp [t3],by simp [t9],by simp [t13],by simp [t14],?_,by rw [hsu,if_neg hno,List.append_nil];exact o.app,no,ch.trans (Chg.app _)⟩ (by omega)
   simp;rw [w64 (by omega) (by omega)]
  simp [-vfieldAddr,Qs,t1,t2,t3,t9,t13,t14,t15,VM.look,q1,f0,f1,f2,f3,k0,k1,k2,k3,g1,g2,g3]
  obtain ⟨r',H2,hap,o2,c2,n2⟩:=(o.app (L:=[⟨[.int .i64 p.1,.int .i64 a,.int .i64 b,.int .i64 c,.int .i64 p.2.2.2.2],0,47⟩])).push (P:=Tryz.prog) (frz:=H.length) (ty:=26) (a:=p.1) (by simp) rfl (by omega) no
  simp only [Fl.int_f,List.append_assoc,List.cons_append,List.nil_append,List.length_append,List.length_cons,List.length_nil] at hap
  simp [t1,t2,t3,t9,t13,t14,t15,hap]
  refine ih (list.length-(i+1)) _ _ ⟨i+1,r',rfl,by omega,by simp [t1],by simp [t2],by simp [t3],by simp,by simp [t13],by simp [t14],?_,by rw [hsu,if_pos ⟨g1,g2,g3⟩];exact o2,fun j hj=>?_,(ch.trans (Chg.app _)).trans' c2 (fun j hj=>.inr (no j hj))⟩ (by omega)
  ·simp;rw [w64 (by omega) (by omega)]
  ·rcases n2 j hj with h1|h1
   ·exact no j h1
   ·simp at h1;omega
 ·have:i=list.length:=by omega
  subst this
  rw [List.take_length] at o
  simp [t1,t2,t3,t9,t13,t14,t15]
  exact ⟨o,no,ch⟩
theorem Kq (v:Value) (list:List PkD) (a b c:Int) (hI:Rd pkF H v list) (hl:list.length≤1073741824) :
 wp (vcall C frz 101 [v,.int .i64 a,.int .i64 b,.int .i64 c] H) (NewInts H (sentIds list a b c)):=by
 rw [Qb (fn:=Tryz.f101) Tryz.func101 rfl (by kernel_rfl) rfl]
 simp
 refine Qm (fun n t H'=>∃(i:Nat) (out:Value),n=list.length-i∧i≤list.length∧t 0=v∧t 1=.int .i64 a∧t 2=.int .i64 b∧t 3=.int .i64 c∧t 9=out∧t 10=.int .i64 i∧NewInts H (sentIds (list.take i) a b c) out H') ?_ (n:=list.length)
  ⟨0,.slice (some ⟨H.length,0,some 0⟩) 0 0,rfl,by omega,by simp,by simp,by simp,by simp,by simp,by simp,Ow.new0 (D:=Fl.int) (xs:=[]) rfl rfl rfl rfl,by simp,Chg.app _⟩
 rintro n t H' ⟨i,out,rfl,hi,t0,t1,t2,t3,t9,t10,o,no,ch⟩ ih
 have rd:=hI.chg ch (by simp)
 simp [t0,t1,t2,t3,t9,t10,rd.len (P:=Tryz.prog) (ty:=36) (by simp)]
 refine Qf ?_ ?_<;>intro g
 ·have hi':i<list.length:=by omega
  have q1:=rd.idx (P:=Tryz.prog) (ty:=36) (e:=47) (by simp) (i:=(i:Int)) (by omega) (by omega)
  have q2:=rd.load (P:=Tryz.prog) (e:=47) (by simp) hi'
  have f0:=rd.field (P:=Tryz.prog) (s:=47) (f:=0) (o:=0) (n:=1) (ag:=false) (by simp) (j:=i*5) (by omega)
  have f1:=rd.field (P:=Tryz.prog) (s:=47) (f:=1) (o:=1) (n:=1) (ag:=false) (by simp) (j:=i*5) (by omega)
  have f2:=rd.field (P:=Tryz.prog) (s:=47) (f:=2) (o:=2) (n:=1) (ag:=false) (by simp) (j:=i*5) (by omega)
  have f3:=rd.field (P:=Tryz.prog) (s:=47) (f:=3) (o:=3) (n:=1) (ag:=false) (by simp) (j:=i*5) (by omega)
  have k0:=rd.cell (P:=Tryz.prog) (e:=3) (by simp) hi' (c:=0) (by decide)
  have k1:=rd.cell (P:=Tryz.prog) (e:=3) (by simp) hi' (c:=1) (by decide)
  have k2:=rd.cell (P:=Tryz.prog) (e:=3) (by simp) hi' (c:=2) (by decide)
  have k3:=rd.cell (P:=Tryz.prog) (e:=3) (by simp) hi' (c:=3) (by decide)
  simp only [Int.toNat_natCast,Uw,Nat.add_zero] at q1 q2 f0 k0 k1 k2 k3
  simp only [Xw] at k0 k1 k2 k3
  simp at k0 k1 k2 k3
  have hsl:=Ty (list.take i) a b c
  have htl:(list.take i).length≤i:=by simp;omega
  have hF:H.length≤H'.length:=ch.1
  have hsu:sentIds (list.take (i+1)) a b c=sentIds (list.take i) a b c++(if isFlow a b c list[i] then [list[i].1] else []):=by
   unfold sentIds;rw [List.take_succ_eq_append_getElem hi',List.filter_append,List.map_append];congr 1;by_cases h:isFlow a b c list[i]<;>simp [h]
  obtain ⟨p,hp⟩:∃p,p=list[i]:=⟨_,rfl⟩
  rw [← hp] at q2 k0 k1 k2 k3 hsu
  simp [-vfieldAddr,Qs,t0,t1,t2,t3,t9,t10,q1,q2,f0,f1,f2,f3,k0,k1,k2,k3,Xw,hF,VM.look]
  by_cases g1:p.2.1=a
  rotate_left
  ·have hno:¬isFlow a b c p:=fun k=>g1 k.1
   simp [t0,t1,t2,t3,t9,t10,g1]
   refine ih (list.length-(i+1)) _ _ ⟨i+1,out,rfl,by omega,by simp [t0],by simp [t1],by simp [t2],by simp [t3],by simp [t9],?_,by rw [hsu,if_neg hno,List.append_nil];exact o,no,ch⟩ (by omega)
   simp;rw [w64 (by omega) (by omega)]
  simp [-vfieldAddr,Qs,t0,t1,t2,t3,t9,t10,VM.look,q1,f0,f1,f2,f3,k0,k1,k2,k3,g1]
  by_cases g2:p.2.2.1=b
  rotate_left
  ·have hno:¬isFlow a b c p:=fun k=>g2 k.2.1
   simp [t0,t1,t2,t3,t9,t10,g1,g2]
   refine ih (list.length-(i+1)) _ _ ⟨i+1,out,rfl,by omega,by simp [t0],by simp [t1],by simp [t2],by simp [t3],by simp [t9],?_,by rw [hsu,if_neg hno,List.append_nil];exact o,no,ch⟩ (by omega)
   simp;rw [w64 (by omega) (by omega)]
  simp [-vfieldAddr,Qs,t0,t1,t2,t3,t9,t10,VM.look,q1,f0,f1,f2,f3,k0,k1,k2,k3,g1,g2]
  by_cases g3:p.2.2.2.1=c
  rotate_left
  ·have hno:¬isFlow a b c p:=fun k=>g3 k.2.2
   simp [t0,t1,t2,t3,t9,t10,g1,g2,g3]
   refine ih (list.length-(i+1)) _ _ ⟨i+1,out,rfl,by omega,by simp [t0],by simp [t1],by simp [t2],by simp [t3],by simp [t9],?_,by rw [hsu,if_neg hno,List.append_nil];exact o,no,ch⟩ (by omega)
   simp;rw [w64 (by omega) (by omega)]
  simp [-vfieldAddr,Qs,t0,t1,t2,t3,t9,t10,VM.look,q1,f0,f1,f2,f3,k0,k1,k2,k3,g1,g2,g3]
  obtain ⟨r',H2,hap,o2,c2,n2⟩:=o.push (P:=Tryz.prog) (frz:=H.length) (ty:=26) (a:=p.1) (by simp) rfl (by omega) no
  simp only [Fl.int_f] at hap
  simp [t0,t1,t2,t3,t9,t10,hap]
  refine ih (list.length-(i+1)) _ _ ⟨i+1,r',rfl,by omega,by simp [t0],by simp [t1],by simp [t2],by simp [t3],by simp,?_,by rw [hsu,if_pos ⟨g1,g2,g3⟩];exact o2,fun j hj=>?_,(ch).trans' c2 (fun j hj=>.inr (no j hj))⟩ (by omega)
  ·simp;rw [w64 (by omega) (by omega)]
  ·rcases n2 j hj with h1|h1
   ·exact no j h1
   ·omega
 ·have:i=list.length:=by omega
  subst this
  rw [List.take_length] at o
  simp [t0,t1,t2,t3,t9,t10]
  exact ⟨o,no,ch⟩
def isPre (xs ys:List Int):Prop:=xs=ys.take xs.length
instance (xs ys:List Int):Decidable (isPre xs ys):=inferInstanceAs (Decidable (_=_))
theorem Ns (a b:Value) (xs ys:List Int) (ha:Rd Fl.int H a xs) (hb:Ow Fl.int 3 H b ys) (hl:xs.length≤1073741824) :
 vcall C frz 43 [a,b] H=some (.bool (decide (isPre xs ys)),H):=by
 rw [Qb (fn:=Tryz.f43) Tryz.func43 rfl (by kernel_rfl) rfl]
 have la:=ha.len (P:=Tryz.prog) (ty:=26) (by simp)
 have lb:=hb.rd.len (P:=Tryz.prog) (ty:=26) (by simp)
 by_cases g:xs.length≤ys.length
 ·obtain ⟨s,hs,os,_⟩:=hb.slice (P:=Tryz.prog) (ty:=26) (by simp) (lo:=none) (hi:=some (.int .i64 (xs.length:Int))) (l:=0) (u:=xs.length) rfl rfl (by omega) g
  simp only [List.drop_zero,Nat.sub_zero] at os
  have eq:=fun F=>Ca (frz:=F) (H:=H) a s xs (ys.take xs.length) ha os.rd hl
  simp [la,lb,g,hs,eq]
  exact Iff.rfl
 ·have hn:¬isPre xs ys:=fun k=>by have:=congrArg List.length k;simp at this;omega
  simp [la,lb,g,hn]
theorem Pp (a b:Value) (xs ys:List Int) (ha:Rd Fl.int H a xs) (hb:Rd Fl.int H b ys) (hl:xs.length≤1073741824) :
 vcall C frz 99 [a,b] H=some (.bool (decide (isPre xs ys)),H):=by
 refine wp.exact (by simp) ?_ rfl
 rw [Qb (fn:=Tryz.f99) Tryz.func99 rfl (by kernel_rfl) rfl]
 have la:=ha.len (P:=Tryz.prog) (ty:=26) (by simp)
 have lb:=hb.len (P:=Tryz.prog) (ty:=26) (by simp)
 generalize hY:decide (isPre xs ys)=Y
 have no:¬isPre xs ys→Y=false:=fun hh=>by rw [← hY];exact decide_eq_false hh
 simp
 refine Qm (fun n t H'=>∃i:Nat,n=xs.length-i∧i≤xs.length∧t 0=a∧t 1=b∧t 5=.int .i64 i∧H'=H∧i≤ys.length∧xs.take i=ys.take i) ?_ (n:=xs.length)
  ⟨0,rfl,by omega,by simp,by simp,by simp,rfl,by omega,by simp⟩
 rintro n t H' ⟨i,rfl,hi,t0,t1,t5,rfl,hy,hk⟩ ih
 simp [t0,t1,t5,la]
 refine Qf ?_ ?_<;>intro g
 ·have hi':i<xs.length:=by omega
  by_cases g1:ys.length≤i
  ·have hn:¬isPre xs ys:=fun k=>by have:=congrArg List.length k;simp at this;omega
   simp
   rw [Qp (h:=by kernel_rfl)]
   simp [t0,t1,t5,la,lb,g1,no hn]
  ·have hi2:i<ys.length:=by omega
   have q1:=ha.idx (P:=Tryz.prog) (ty:=26) (e:=3) (by simp) (i:=(i:Int)) (by omega) (by omega)
   have q2:=ha.isI.load (P:=Tryz.prog) (e:=3) (by simp) hi'
   have p1:=hb.idx (P:=Tryz.prog) (ty:=26) (e:=3) (by simp) (i:=(i:Int)) (by omega) (by omega)
   have p2:=hb.isI.load (P:=Tryz.prog) (e:=3) (by simp) hi2
   simp only [Int.toNat_natCast,Wx hi',Wx hi2,Fl.int_n,Nat.mul_one] at q1 q2 p1 p2
   have g1':¬(ys.length:Int)≤i:=by omega
   simp
   rw [Qp (h:=by kernel_rfl)]
   simp [t0,t1,t5,la,lb,g1,g1',q1,q2,p1,p2]
   refine Qf ?_ ?_<;>intro g2
   ·simp [t0,t1,t5]
    refine ih (xs.length-(i+1)) _ _ ⟨i+1,rfl,by omega,by simp [t0],by simp [t1],?_,rfl,by omega,by rw [List.take_succ_eq_append_getElem hi',List.take_succ_eq_append_getElem hi2,hk,g2]⟩ (by omega)
    simp;rw [w64 (by omega) (by omega)]
   ·have hn:¬isPre xs ys:=fun k=>g2 (by
     unfold isPre at k
     have h1:=congrArg (fun l=>l[i]?) k
     simp [List.getElem?_take,hi',hi2] at h1
     exact h1)
    simp [t0,t1,t5,no hn]
 ·have:i=xs.length:=by omega
  subst this
  rw [List.take_length] at hk
  simp [t0,t1,t5,la]
  rw [← hY];exact (decide_eq_true (p:=isPre xs ys) hk)
theorem Th {list:List PkD} {j:Nat} (h:j<list.length) {q:PkD→Prop} (h1:∀p∈list.take j,¬q p) (h2:¬q list[j]):∀p∈list.take (j+1),¬q p:=fun p hp=>by
 rcases Wl h hp with hp|rfl
 ·exact h1 p hp
 ·exact h2
theorem Cs (u v:Value) (all:List Int) (list:List PkD) (a b c:Int) (hA:Rd Fl.int H u all) (hI:Rd pkF H v list) (hla:all.length≤1073741824) (hl:list.length≤1073741824) :
 wp (vcall C frz 100 [u,v,.int .i64 a,.int .i64 b,.int .i64 c] H) (NewInts H (among all list a b c)):=by
 rw [Qb (fn:=Tryz.f100) Tryz.func100 rfl (by kernel_rfl) rfl]
 simp
 refine Qm (fun n t H'=>∃(i:Nat) (out:Value),n=all.length-i∧i≤all.length∧t 0=u∧t 1=v∧t 2=.int .i64 a∧t 3=.int .i64 b∧t 4=.int .i64 c∧t 11=out∧t 12=.int .i64 i∧NewInts H (among (all.take i) list a b c) out H') ?_ (n:=all.length)
  ⟨0,.slice (some ⟨H.length,0,some 0⟩) 0 0,rfl,by omega,by simp,by simp,by simp,by simp,by simp,by simp,by simp,Ow.new0 (D:=Fl.int) (xs:=[]) rfl rfl rfl rfl,by simp,Chg.app _⟩
 rintro n t H' ⟨i,out,rfl,hi,t0,t1,t2,t3,t4,t11,t12,o,no,ch⟩ ih
 have ra:=hA.chg ch (by simp)
 simp [t0,t1,t2,t3,t4,t11,t12,ra.len (P:=Tryz.prog) (ty:=26) (by simp)]
 refine Qf ?_ ?_<;>intro g
 ·have hi':i<all.length:=by omega
  have hal:=Uh (all.take i) list a b c
  have htl:(all.take i).length≤i:=by simp;omega
  have hsu:among (all.take (i+1)) list a b c=among (all.take i) list a b c++(if sentP list all[i] a b c then [all[i]] else []):=by
   unfold among;rw [List.take_succ_eq_append_getElem hi',List.filter_append];congr 1;by_cases h:sentP list all[i] a b c<;>simp [h]
  simp [t0,t1,t2,t3,t4,t11,t12]
  refine Qm (fun n t G=>∃(j:Nat),n=list.length-j∧j≤list.length∧t 0=u∧t 1=v∧t 2=.int .i64 a∧t 3=.int .i64 b∧t 4=.int .i64 c∧t 11=out∧t 12=.int .i64 i∧t 13=.int .i64 j∧NewInts H (among (all.take i) list a b c) out G∧∀p∈list.take j,¬(p.1=all[i]∧isFlow a b c p)) ?_ (n:=list.length)
   ⟨0,rfl,by omega,by simp [t0],by simp [t1],by simp [t2],by simp [t3],by simp [t4],by simp [t11],by simp [t12],by simp,⟨o,no,ch⟩,by simp⟩
  clear o ch t0 t1 t2 t3 t4 t11 t12 ra no
  rintro n s G ⟨j,rfl,hj,t0,t1,t2,t3,t4,t11,t12,t13,⟨o,no,ch⟩,hk⟩ ih2
  have rd:=hI.chg ch (by simp)
  simp [t0,t1,t2,t3,t4,t11,t12,t13,rd.len (P:=Tryz.prog) (ty:=36) (by simp)]
  refine Qf ?_ ?_<;>intro g0
  ·have hj':j<list.length:=by omega
   have ra:=hA.chg ch (by simp)
   have p1:=fun L=>(ra.app (L:=L)).isI.idx (P:=Tryz.prog) (ty:=26) (e:=3) (by simp) (i:=(i:Int)) (by omega) (by omega)
   have p2:=fun L=>(ra.app (L:=L)).isI.load (P:=Tryz.prog) (e:=3) (by simp) hi'
   have q1:=rd.idx (P:=Tryz.prog) (ty:=36) (e:=47) (by simp) (i:=(j:Int)) (by omega) (by omega)
   have q2:=rd.load (P:=Tryz.prog) (e:=47) (by simp) hj'
   simp only [Int.toNat_natCast,Uw,Wx hi'] at q1 q2 p1 p2
   have hF:H.length≤G.length:=ch.1
   have hext:=Th (q:=fun p=>p.1=all[i]∧isFlow a b c p) hj' hk
   have hmem:=List.getElem_mem hj'
   obtain ⟨p,hp⟩:∃p,p=list[j]:=⟨_,rfl⟩
   rw [← hp] at q2 hext hmem
   simp [t0,t1,t2,t3,t4,t11,t12,t13,q1,q2,Xw,hF,VM.look]
   rw [Qp (h:=by kernel_rfl)]
   simp [t0,t1,t2,t3,t4,t11,t12,t13,p1,p2,Xw,hF,VM.look]
   by_cases g1:p.1=all[i]
   rotate_left
   ·simp [t0,t1,t2,t3,t4,t11,t12,t13,g1]
    refine ih2 (list.length-(j+1)) _ _ ⟨j+1,rfl,by omega,by simp [t0],by simp [t1],by simp [t2],by simp [t3],by simp [t4],by simp [t11],by simp [t12],?_,⟨o.app,no,ch.trans (Chg.app _)⟩,hext (fun k=>g1 k.1)⟩ (by omega)
    simp;rw [w64 (by omega) (by omega)]
   simp [t0,t1,t2,t3,t4,t11,t12,t13,VM.look,g1]
   by_cases g2:p.2.1=a
   rotate_left
   ·simp [t0,t1,t2,t3,t4,t11,t12,t13,g1,g2]
    refine ih2 (list.length-(j+1)) _ _ ⟨j+1,rfl,by omega,by simp [t0],by simp [t1],by simp [t2],by simp [t3],by simp [t4],by simp [t11],by simp [t12],?_,⟨o.app,no,ch.trans (Chg.app _)⟩,hext (fun k=>g2 k.2.1)⟩ (by omega)
    simp;rw [w64 (by omega) (by omega)]
   simp [t0,t1,t2,t3,t4,t11,t12,t13,VM.look,g1,g2]
   by_cases g3:p.2.2.1=b
   rotate_left
   ·simp [t0,t1,t2,t3,t4,t11,t12,t13,g1,g2,g3]
    refine ih2 (list.length-(j+1)) _ _ ⟨j+1,rfl,by omega,by simp [t0],by simp [t1],by simp [t2],by simp [t3],by simp [t4],by simp [t11],by simp [t12],?_,⟨o.app,no,ch.trans (Chg.app _)⟩,hext (fun k=>g3 k.2.2.1)⟩ (by omega)
    simp;rw [w64 (by omega) (by omega)]
   simp [t0,t1,t2,t3,t4,t11,t12,t13,VM.look,g1,g2,g3]
   by_cases g4:p.2.2.2.1=c
   rotate_left
   ·simp [t0,t1,t2,t3,t4,t11,t12,t13,g1,g2,g3,g4]
    refine ih2 (list.length-(j+1)) _ _ ⟨j+1,rfl,by omega,by simp [t0],by simp [t1],by simp [t2],by simp [t3],by simp [t4],by simp [t11],by simp [t12],?_,⟨o.app,no,ch.trans (Chg.app _)⟩,hext (fun k=>g4 k.2.2.2)⟩ (by omega)
    simp;rw [w64 (by omega) (by omega)]
   simp [t0,t1,t2,t3,t4,t11,t12,t13,VM.look,g1,g2,g3,g4]
   have hS:sentP list all[i] a b c:=⟨p,hmem,g1,g2,g3,g4⟩
   obtain ⟨r',H2,hap,o2,c2,n2⟩:=(o.app (L:=[⟨[.int .i64 all[i],.int .i64 a,.int .i64 b,.int .i64 c,.int .i64 p.2.2.2.2],0,47⟩])).push (P:=Tryz.prog) (frz:=H.length) (ty:=26) (a:=all[i]) (by simp) rfl (by omega) no
   simp only [Fl.int_f,List.append_assoc,List.cons_append,List.nil_append,List.length_append,List.length_cons,List.length_nil] at hap
   simp [t0,t1,t2,t3,t4,t11,t12,t13,p1,p2,hap]
   refine ih (all.length-(i+1)) _ _ ⟨i+1,r',rfl,by omega,by simp [t0],by simp [t1],by simp [t2],by simp [t3],by simp [t4],by simp,?_,by rw [hsu,if_pos hS];exact o2,fun j hj=>?_,(ch.trans (Chg.app _)).trans' c2 (fun j hj=>.inr (no j hj))⟩ (by omega)
   ·simp [t12];rw [w64 (by omega) (by omega)]
   ·rcases n2 j hj with h1|h1
    ·exact no j h1
    ·simp at h1;omega
  ·have:j=list.length:=by omega
   subst this
   rw [List.take_length] at hk
   have hno:¬sentP list all[i] a b c:=fun ⟨p,h1,h2⟩=>hk p h1 h2
   simp [t0,t1,t2,t3,t4,t11,t12,t13]
   refine ih (all.length-(i+1)) _ _ ⟨i+1,out,rfl,by omega,by simp [t0],by simp [t1],by simp [t2],by simp [t3],by simp [t4],by simp [t11],?_,by rw [hsu,if_neg hno,List.append_nil];exact o,no,ch⟩ (by omega)
   simp;rw [w64 (by omega) (by omega)]
 ·have:i=all.length:=by omega
  subst this
  rw [List.take_length] at o
  simp [t0,t1,t2,t3,t4,t11,t12,ra.len (P:=Tryz.prog) (ty:=26) (by simp)]
  exact ⟨o,no,ch⟩
theorem Uu {α:Type} (p:α→Bool):∀l:List α,(l.dropWhile p).length≤l.length
 | []=>by simp
 | a::l=>by
  rw [List.dropWhile_cons];split;· have:=Uu p l;simp;omega
  ·simp
theorem D8 (l:List FlitD):(trim l).length≤l.length:=by unfold trim;rw [List.length_reverse];have:=Uu (fun f:FlitD=>!f.2.2.2.2) l.reverse;rw [List.length_reverse] at this;exact this
theorem Kh (l:List FlitD):(wholePk l).length≤l.length:=by
 unfold wholePk;split
 ·simp
 ·exact (V9 l l.length).2
theorem U4 (arr:SSD) (node:Nat) (c:Int):(arrIds arr node c).length≤(arr.getD node []).length:=by
 unfold arrIds
 exact Nat.le_trans (Kh _) (Nat.le_trans (D8 _) (List.length_filter_le _ _))
def flowOk (arr:SSD) (list:List PkD) (fr to:Nat) (c:Int):Prop:=isPre (among (arrIds arr to c) list fr to c) (sentIds list fr to c)
instance (arr:SSD) (list:List PkD) (fr to:Nat) (c:Int):Decidable (flowOk arr list fr to c):=inferInstanceAs (Decidable (isPre _ _))
def keepsOk (x:NetD) (list:List PkD):Prop:=netOk x∧∀to,to<x.2.2.2.2.2.2.1.length→∀c:Nat,c<2→∀fr,fr<x.2.2.2.2.2.2.1.length→flowOk x.2.2.2.2.2.2.1 list fr to c
instance (x:NetD) (list:List PkD):Decidable (keepsOk x list):=inferInstanceAs (Decidable (_∧_))
theorem Mg {v:NetV} {x:NetD} {u:Value} {list:List PkD} (o:dNet.Ow H v x) (hI:Rd pkF H u list) (hl:list.length≤1073741824):vcall C frz 20 [dNet.val v x,u] H=some (.bool (decide (keepsOk x list)),H):=by
 have ones:=Qh o
 have nk:=fun F L=>Sp (frz:=F) (H:=H++L) (v:=v) (x:=x) (Dt.app (T:=dNet) o)
 simp only [Qc] at nk ⊢
 refine wp.exact (by simp) ?_ rfl
 rw [Qb (fn:=Tryz.f20) Tryz.func20 rfl (by kernel_rfl) rfl]
 generalize hY:decide (keepsOk x list)=Y
 have no:¬keepsOk x list→Y=false:=fun hh=>by rw [← hY];exact decide_eq_false hh
 simp [ones,nk]
 by_cases g0:netOk x
 rotate_left
 ·simp [g0,no (fun k=>g0 k.1)]
 simp [g0,ones]
 obtain ⟨G,hG⟩:∃G,G=H++[⟨[.int .i64 x.1.1,.int .i64 x.1.2.1,v.1,v.2.1.1,v.2.1.2,v.2.2.1.1,v.2.2.2.1,v.2.2.2.2.1,v.2.2.2.2.2.1.1,v.2.2.2.2.2.2.1.1,.int .i64 x.2.2.2.2.2.2.2],0,35⟩]:=⟨_,rfl⟩
 rw [← hG]
 have b0:G[H.length]? = some ⟨[.int .i64 x.1.1,.int .i64 x.1.2.1,v.1,v.2.1.1,v.2.1.2,v.2.2.1.1,v.2.2.2.1,v.2.2.2.2.1,v.2.2.2.2.2.1.1,v.2.2.2.2.2.2.1.1,.int .i64 x.2.2.2.2.2.2.2],0,35⟩:=by rw [hG];simp
 have hGl:H.length<G.length:=by rw [hG];simp
 have h9:dSS.Ow G v.2.2.2.2.2.2.1 x.2.2.2.2.2.2.1:=by rw [hG];exact Dt.app (T:=dSS) o.2.2.2.2.2.2.1
 have hI':Rd pkF G u list:=by rw [hG];exact hI.app
 obtain ⟨arr,harr⟩:∃a,a=x.2.2.2.2.2.2.1:=⟨_,rfl⟩
 rw [← harr] at h9
 have hkeep:(∀to,to<arr.length→∀c:Nat,c<2→∀fr,fr<arr.length→flowOk arr list fr to c)→Y=true:=fun k=>by rw [← hY,decide_eq_true];exact ⟨g0,by rw [← harr];exact k⟩
 have hfail:∀to,to<arr.length→∀c:Nat,c<2→∀fr,fr<arr.length→¬flowOk arr list fr to c→Y=false:=fun to h1 c h2 fr h3 h4=>no (fun k=>h4 (by have:=k.2;rw [← harr] at this;exact this to h1 c h2 fr h3))
 have hal:=h9.2.1
 have l9:=h9.1.1.rd.len (P:=Tryz.prog) (ty:=33) (by simp)
 rw [h9.1.2.1] at l9
 clear hG hY no
 simp [b0,VM.look,l9]
 refine Qm (fun n t G1=>∃i:Nat,n=arr.length-i∧i≤arr.length∧t 1=u∧t 2=.pointer (some ⟨H.length,0,some 0⟩)∧t 15=.int .i64 arr.length∧t 16=.int .i64 i∧Chg G G1 []∧∀to,to<i→∀c:Nat,c<2→∀fr,fr<arr.length→flowOk arr list fr to c) ?_ (n:=arr.length)
  ⟨0,rfl,by omega,by simp,by simp,by simp,by simp,Chg.refl _,fun _ h=>absurd h (by omega)⟩
 rintro n t G1 ⟨i,rfl,hi,t1,t2,t15,t16,ch,hk⟩ ih
 simp [t1,t2,t15,t16]
 refine Qf ?_ ?_<;>intro g
 rotate_left
 ·have:i=arr.length:=by omega
  subst this
  simp [t1,t2,t15,t16]
  exact hkeep hk
 have hi':i<arr.length:=by omega
 simp [t1,t2,t15,t16]
 refine Qm (fun n t G1=>∃k:Nat,n=2-k∧k≤2∧t 1=u∧t 2=.pointer (some ⟨H.length,0,some 0⟩)∧t 5=.int .i64 i∧t 15=.int .i64 arr.length∧t 16=.int .i64 i∧t 19=.int .i64 k∧Chg G G1 []∧∀c:Nat,c<k→∀fr,fr<arr.length→flowOk arr list fr i c) ?_ (n:=2)
  ⟨0,rfl,by omega,by simp [t1],by simp [t2],by simp,by simp [t15],by simp [t16],by simp,ch,fun _ h=>absurd h (by omega)⟩
 clear ch t1 t2 t15 t16
 rintro n t G1 ⟨k,rfl,hk2,t1,t2,t5,t15,t16,t19,ch,hc⟩ ih2
 simp [t1,t2,t5,t15,t16,t19]
 refine Qf ?_ ?_<;>intro g2
 rotate_left
 ·have:k=2:=by omega
  subst this
  simp [t1,t2,t5,t15,t16,t19]
  refine ih (arr.length-(i+1)) _ _ ⟨i+1,rfl,by omega,by simp [t1],by simp [t2],by simp [t15],?_,ch,fun to h=>?_⟩ (by omega)
  ·simp;rw [w64 (by omega) (by omega)]
  ·rcases Nat.lt_succ_iff_lt_or_eq.1 h with h|rfl
   ·exact hk to h
   ·exact hc
 have b1:=Qa b0 ch (by simp)
 have h91:=Dt.chg (T:=dSS) h9 ch (by simp)
 have hm:=h91.2.2 _ (List.getElem_mem hi')
 have hg:arr.getD i []=arr[i]:=by simp [List.getD_eq_getElem?_getD,hi']
 simp [t1,t2,t5,t15,t16,t19]
 refine Qd (Oe b1 h91 hi') ?_
 rintro _ G2 ⟨s,ok,rfl,os,ns,c2⟩
 have b2:=Qa b1 c2 (by simp)
 have h92:=Dt.chg (T:=dSS) h91 c2 (by simp)
 have l92:=h92.1.1.rd.len (P:=Tryz.prog) (ty:=33) (by simp)
 rw [h92.1.2.1] at l92
 have hal2:=U4 arr i k
 rw [hg] at hal2
 have hb2:(arrIds arr i k).length≤67108864:=by omega
 simp [t1,t2,t5,t15,t16,t19,b2,VM.look,l92]
 have ch2:Chg G G2 []:=ch.trans c2
 refine Qm (fun n t G3=>∃j:Nat,n=arr.length-j∧j≤arr.length∧t 1=u∧t 2=.pointer (some ⟨H.length,0,some 0⟩)∧t 5=.int .i64 i∧t 6=.int .i64 k∧t 7=s∧t 15=.int .i64 arr.length∧t 16=.int .i64 i∧t 19=.int .i64 k∧t 30=.int .i64 arr.length∧t 31=.int .i64 j∧Chg G2 G3 []∧∀fr,fr<j→flowOk arr list fr i k) ?_ (n:=arr.length)
  ⟨0,rfl,by omega,by simp [t1],by simp [t2],by simp [t5],by simp,by simp,by simp [t15],by simp [t16],by simp [t19],by simp,by simp,Chg.refl _,fun _ h=>absurd h (by omega)⟩
 clear t1 t2 t5 t15 t16 t19
 rintro n t G3 ⟨j,rfl,hj,t1,t2,t5,t6,t7,t15,t16,t19,t30,t31,c3,hf⟩ ih3
 simp [t1,t2,t5,t6,t7,t15,t16,t19,t30,t31]
 refine Qf ?_ ?_<;>intro g3
 rotate_left
 ·have:j=arr.length:=by omega
  subst this
  simp [t1,t2,t5,t6,t7,t15,t16,t19,t30,t31]
  refine ih2 (2-(k+1)) _ _ ⟨k+1,rfl,by omega,by simp [t1],by simp [t2],by simp [t5],by simp [t15],by simp [t16],?_,ch2.trans c3,fun c h=>?_⟩ (by omega)
  ·simp;rw [w64 (by omega) (by omega)]
  ·rcases Nat.lt_succ_iff_lt_or_eq.1 h with h|rfl
   ·exact hc c h
   ·exact hf
 have hj':j<arr.length:=by omega
 have os3:=os.chg c3 (by simp)
 have hI3:Rd pkF G3 u list:=hI'.chg (ch2.trans c3) (by simp)
 simp [t1,t2,t5,t6,t7,t15,t16,t19,t30,t31]
 refine Qd (Lr s u _ list j i k os3.rd hI3 (by omega) hl) ?_
 rintro r4 G4 ⟨o4,n4,c4⟩
 have hI4:=hI3.chg c4 (by simp)
 simp [t1,t2,t5,t6,t7,t15,t16,t19,t30,t31]
 refine Qd (Jz u list j i k hI4 hl) ?_
 rintro r5 G5 ⟨o5,n5,c5⟩
 have o45:=o4.chg c5 (by simp)
 have hal3:=Uh (arrIds arr i k) list j i k
 have ip:=fun F=>Ns (frz:=F) (H:=G5) r4 r5 _ _ o45.rd o5 (by omega)
 simp [t1,t2,t5,t6,t7,t15,t16,t19,t30,t31,ip]
 by_cases g5:flowOk arr list j i k
 ·have g5':isPre (among (arrIds arr i k) list j i k) (sentIds list j i k):=g5
  simp [t1,t2,t5,t6,t7,t15,t16,t19,t30,t31,g5']
  refine ih3 (arr.length-(j+1)) _ _ ⟨j+1,rfl,by omega,by simp [t1],by simp [t2],by simp [t5],by simp [t6],by simp [t7],by simp [t15],by simp [t16],by simp [t19],by simp [t30],?_,(c3.trans c4).trans c5,fun fr h=>?_⟩ (by omega)
  ·simp;rw [w64 (by omega) (by omega)]
  ·rcases Nat.lt_succ_iff_lt_or_eq.1 h with h|rfl
   ·exact hf fr h
   ·exact g5
 ·have g5':¬isPre (among (arrIds arr i k) list j i k) (sentIds list j i k):=g5
  simp [t1,t2,t5,t6,t7,t15,t16,t19,t30,t31,g5']
  exact hfail i hi' k (by omega) j hj' g5
theorem Pu {v:NetV} {x:NetD} {u:Value} {list:List PkD} (o:dNet.Ow H v x) (hI:Rd pkF H u list) (hl:list.length≤1073741824):vcall C frz 78 [dNet.val v x,u] H=some (.bool (decide (keepsOk x list)),H):=by
 have ones:=Qh o
 have nk:=fun F L=>V3 (frz:=F) (H:=H++L) (v:=v) (x:=x) (Dt.app (T:=dNet) o)
 simp only [Qc] at nk ⊢
 refine wp.exact (by simp) ?_ rfl
 rw [Qb (fn:=Tryz.f78) Tryz.func78 rfl (by kernel_rfl) rfl]
 generalize hY:decide (keepsOk x list)=Y
 have no:¬keepsOk x list→Y=false:=fun hh=>by rw [← hY];exact decide_eq_false hh
 simp [ones,nk]
 by_cases g0:netOk x
 rotate_left
 ·simp [g0,no (fun k=>g0 k.1)]
 have hcnt:=g0.2.1.2.2.2.2
 have hcr:=Qg x.1.1 x.1.2.1
 simp [g0,ones,Qx]
 obtain ⟨G,hG⟩:∃G,G=H++[⟨[.int .i64 x.1.1,.int .i64 x.1.2.1,v.1,v.2.1.1,v.2.1.2,v.2.2.1.1,v.2.2.2.1,v.2.2.2.2.1,v.2.2.2.2.2.1.1,v.2.2.2.2.2.2.1.1,.int .i64 x.2.2.2.2.2.2.2],0,35⟩]:=⟨_,rfl⟩
 rw [← hG]
 have b0:G[H.length]? = some ⟨[.int .i64 x.1.1,.int .i64 x.1.2.1,v.1,v.2.1.1,v.2.1.2,v.2.2.1.1,v.2.2.2.1,v.2.2.2.2.1,v.2.2.2.2.2.1.1,v.2.2.2.2.2.2.1.1,.int .i64 x.2.2.2.2.2.2.2],0,35⟩:=by rw [hG];simp
 have oG:dNet.Ow G v x:=by rw [hG];exact Dt.app (T:=dNet) o
 have hI':Rd pkF G u list:=by rw [hG];exact hI.app
 have at22:=fun F G' c i (hc:Chg G G' []) (hi:i<x.2.2.2.2.2.2.1.length)=>Ks (frz:=F) (H:=G') (k:=c) (Dt.chg (T:=dNet) oG hc (by simp)) hi
 have hb9:=oG.2.2.2.2.2.2.1.2.2
 simp only [Qc] at at22
 obtain ⟨arr,harr⟩:∃a,a=x.2.2.2.2.2.2.1:=⟨_,rfl⟩
 rw [← harr] at at22 hcnt hb9
 rw [← hcnt]
 rw [← hcnt] at hcr
 have hkeep:(∀to,to<arr.length→∀c:Nat,c<2→∀fr,fr<arr.length→flowOk arr list fr to c)→Y=true:=fun k=>by rw [← hY,decide_eq_true];exact ⟨g0,by rw [← harr];exact k⟩
 have hfail:∀to,to<arr.length→∀c:Nat,c<2→∀fr,fr<arr.length→¬flowOk arr list fr to c→Y=false:=fun to h1 c h2 fr h3 h4=>no (fun k=>h4 (by have:=k.2;rw [← harr] at this;exact this to h1 c h2 fr h3))
 clear hG hY no
 refine Qm (fun n t G1=>∃i:Nat,n=2*arr.length-i∧i≤2*arr.length∧t 1=u∧t 2=.pointer (some ⟨H.length,0,some 0⟩)∧t 5=.int .i64 arr.length∧t 6=.int .i64 i∧Chg G G1 []∧∀m,m<i→∀fr,fr<arr.length→flowOk arr list fr (m/2) ((m%2:Nat):Int)) ?_ (n:=2*arr.length)
  ⟨0,rfl,by omega,by simp,by simp,by simp,by simp,Chg.refl _,fun _ h=>absurd h (by omega)⟩
 rintro n t G1 ⟨i,rfl,hi,t1,t2,t5,t6,ch,hk⟩ ih
 have e0:=@w6 (2*(arr.length:Int)) (by omega)
 simp [t1,t2,t5,t6,e0]
 refine Qf ?_ ?_<;>intro g
 rotate_left
 ·simp [t1,t2,t5,t6]
  refine hkeep fun to h1 c h2 fr h3=>?_
  have:=hk (to*2+c) (by omega) fr h3
  rw [show (to*2+c)/2=to by omega,show (to*2+c)%2=c by omega] at this
  exact this
 obtain ⟨q,hq⟩:∃q,q=i/2:=⟨_,rfl⟩
 obtain ⟨r,hr⟩:∃r,r=i%2:=⟨_,rfl⟩
 have e1:∀[Inhabited Unit],IntKind.i64.wrap ((i:Int)/2)=(q:Int):=by intro _;rw [w64 (by omega) (by omega)];omega
 have e2:(i:Int).tmod 2=(r:Int):=by rw [tmod2,hr];omega
 have hi':q<arr.length:=by omega
 have hr2:r<2:=by omega
 have b1:=Qa b0 ch (by simp)
 have hm:=hb9 _ (List.getElem_mem hi')
 have hg:arr.getD q []=arr[q]:=by simp [List.getD_eq_getElem?_getD,hi']
 simp [t1,t2,t5,t6,e1,e2,VM.look,b1,ones]
 refine Qd (at22 _ _ _ _ ch hi') ?_
 rintro _ G2 ⟨s,ok,rfl,os,ns,c2⟩
 have b2:=Qa b1 c2 (by simp)
 have hal2:=U4 arr q r
 rw [hg] at hal2
 have hb2:(arrIds arr q r).length≤67108864:=by omega
 have ch2:Chg G G2 []:=ch.trans c2
 have emp:arrIds arr q r=[]→∀fr,flowOk arr list fr q r:=fun e fr=>by unfold flowOk;rw [e];rfl
 simp [t1,t2,t5,t6]
 refine Qm (fun n t G3=>∃j:Nat,n=arr.length-j∧j≤arr.length∧t 1=u∧t 2=.pointer (some ⟨H.length,0,some 0⟩)∧t 5=.int .i64 arr.length∧t 6=.int .i64 i∧t 7=s∧t 9=.int .i64 j∧Chg G2 G3 []∧∀fr,fr<j→flowOk arr list fr q r) ?_ (n:=arr.length)
  ⟨0,rfl,by omega,by simp [t1],by simp [t2],by simp [t5],by simp [t6],by simp,by simp,Chg.refl _,fun _ h=>absurd h (by omega)⟩
 clear t1 t2 t5 t6
 rintro n t G3 ⟨j,rfl,hj,t1,t2,t5,t6,t7,t9,c3,hf⟩ ih3
 have os3:=os.chg c3 (by simp)
 have ls:=os3.rd.len (P:=Tryz.prog) (ty:=26) (by simp)
 have leave:∀t':Env,t' 1=u→t' 2=.pointer (some ⟨H.length,0,some 0⟩)→t' 5=.int .i64 arr.length→t' 6=.int .i64 ((i+1:Nat):Int)→(∀fr,fr<arr.length→flowOk arr list fr q r)→(∃i':Nat,2*arr.length-(i+1)=2*arr.length-i'∧i'≤2*arr.length∧t' 1=u∧t' 2=.pointer (some ⟨H.length,0,some 0⟩)∧t' 5=.int .i64 arr.length∧t' 6=.int .i64 i'∧Chg G G3 []∧∀m,m<i'→∀fr,fr<arr.length→flowOk arr list fr (m/2) ((m%2:Nat):Int)):=by
  intro t' h1 h2 h5 h6 hh
  refine ⟨i+1,rfl,by omega,h1,h2,h5,h6,ch2.trans c3,fun m hm fr hfr=>?_⟩
  rcases Nat.lt_succ_iff_lt_or_eq.1 hm with hm|rfl
  ·exact hk m hm fr hfr
  ·rw [← hq,← hr];exact hh fr hfr
 by_cases g3:j<arr.length
 rotate_left
 ·have:j=arr.length:=by omega
  subst this
  simp [t1,t2,t5,t6,t7,t9]
  refine ih _ _ _ (leave _ (by simp [t1]) (by simp [t2]) (by simp [t5]) ?_ hf) (by omega)
  simp;rw [w64 (by omega) (by omega)]
 by_cases g4:arrIds arr q r=[]
 ·simp [t1,t2,t5,t6,t7,t9,g3,ls,g4]
  refine ih _ _ _ (leave _ (by simp [t1]) (by simp [t2]) (by simp [t5]) ?_ (fun fr _=>emp g4 fr)) (by omega)
  simp;rw [w64 (by omega) (by omega)]
 have g4':=List.length_pos_iff.2 g4
 have hI3:Rd pkF G3 u list:=hI'.chg (ch2.trans c3) (by simp)
 simp [t1,t2,t5,t6,t7,t9,g3,ls,g4',e1,e2]
 refine Qd (Cs s u _ list j q r os3.rd hI3 (by omega) hl) ?_
 rintro r4 G4 ⟨o4,n4,c4⟩
 have hI4:=hI3.chg c4 (by simp)
 simp [t1,t2,t5,t6,t7,t9,e1,e2]
 refine Qd (Kq u list j q r hI4 hl) ?_
 rintro r5 G5 ⟨o5,n5,c5⟩
 have o45:=o4.chg c5 (by simp)
 have hal3:=Uh (arrIds arr q r) list j q r
 have ip:=fun F=>Pp (frz:=F) (H:=G5) r4 r5 _ _ o45.rd o5.rd (by omega)
 simp [t1,t2,t5,t6,t7,t9,ip]
 by_cases g5:flowOk arr list j q r
 ·have g5':isPre (among (arrIds arr q r) list j q r) (sentIds list j q r):=g5
  simp [t1,t2,t5,t6,t7,t9,g5']
  refine ih3 (arr.length-(j+1)) _ _ ⟨j+1,rfl,by omega,by simp [t1],by simp [t2],by simp [t5],by simp [t6],by simp [t7],?_,(c3.trans c4).trans c5,fun fr h=>?_⟩ (by omega)
  ·simp;rw [w64 (by omega) (by omega)]
  ·rcases Nat.lt_succ_iff_lt_or_eq.1 h with h|rfl
   ·exact hf fr h
   ·exact g5
 ·have g5':¬isPre (among (arrIds arr q r) list j q r) (sentIds list j q r):=g5
  simp [t1,t2,t5,t6,t7,t9,g5']
  exact hfail q hi' r hr2 j (by omega) g5
end Go.Proofs.YtmddnnecgnpccaaGreat.V
set_option linter.all false
namespace Go.Proofs.YtmddnnecgnpccaaGreat.V
open Go Go.VM Go.Proofs
set_option maxRecDepth 10000
abbrev GrD:=Nat×Nat×Nat
def upd (s:SSD) (k:Nat) (f:List FlitD→List FlitD):SSD:=s.set k (f (s.getD k []))
@[simp] theorem Yj (s:SSD) (k:Nat) (f:List FlitD→List FlitD):(upd s k f).length=s.length:=by simp [upd]
theorem Wd {s:SSD} {k:Nat} (f:List FlitD→List FlitD) (h:k<s.length):(upd s k f).getD k []=f (s.getD k []):=by
 simp [upd,List.getD_eq_getElem?_getD,h]
theorem Qy {s:SSD} {k j:Nat} (f:List FlitD→List FlitD) (h:k≠j):(upd s k f).getD j []=s.getD j []:=by
 simp [upd,List.getD_eq_getElem?_getD,List.getElem?_set_ne h]
theorem Dc {s:SSD} {k j:Nat} (f g:List FlitD→List FlitD) (h:k≠j):upd (upd s k f) j g=upd (upd s j g) k f:=by
 have e1:=Qy (s:=s) f h
 have e2:=Qy (s:=s) g h.symm
 show (upd s k f).set j (g ((upd s k f).getD j []))=(upd s j g).set k (f ((upd s j g).getD k []))
 rw [e1,e2]
 exact List.set_comm _ _ h
theorem I6 (s:SSD) (k:Nat) (f g:List FlitD→List FlitD):upd (upd s k f) k g=upd s k (fun l=>g (f l)):=by
 by_cases h:k<s.length
 ·show (upd s k f).set k (g ((upd s k f).getD k []))=_
  rw [Wd f h]
  simp [upd]
 ·simp [upd,List.set_eq_of_length_le (Nat.le_of_not_lt h)]
theorem Dz {s:SSD} {k j:Nat} (f:FlitD) (h:s.getD k []≠[]):upd (upd s j (·++[f])) k (List.drop 1)=upd (upd s k (List.drop 1)) j (·++[f]):=by
 by_cases e:j=k
 ·subst e
  rw [I6,I6]
  unfold upd
  congr 1
  cases hh:s.getD j [] with
  | nil=>exact absurd hh h
  | cons a l=>rfl
 ·exact Dc _ _ e
def headL (l:List FlitD):FlitD:=l.headD (0,0,0,false,false)
def headOf (x:NetD) (j:Nat):FlitD:=headL (x.2.2.1.getD j [])
def frm (g:GrD):Nat:=10*g.1+g.2.2
def tgt (x:NetD) (a p c:Nat):Nat:=(10*next x.1.1 x.1.2.1 a p+2*opp p+c).toNat
def outAt (a p c:Nat):Nat:=10*a+2*p+c
def popS (s:SSD) (g:GrD):SSD:=upd s (frm g) (List.drop 1)
def pushS (x:NetD) (s:SSD) (g:GrD):SSD:=if g.2.1=4 then s else upd s (tgt x g.1 g.2.1 (g.2.2%2)) (·++[headOf x (frm g)])
def arrS (x:NetD) (s:SSD) (g:GrD):SSD:=if g.2.1=4 then upd s g.1 (·++[headOf x (frm g)]) else s
def ownS (x:NetD) (s:List Int) (g:GrD):List Int:=s.set (outAt g.1 g.2.1 (g.2.2%2)) (if (headOf x (frm g)).2.2.2.2 then -1 else ((g.2.2/2:Nat):Int))
def turnS (s:List Int) (g:GrD):List Int:=s.set (5*g.1+g.2.1) (((g.2.2+1)%10:Nat):Int)
def srcHead (x:NetD) (k:Nat):FlitD:=headL (x.2.2.2.2.2.1.getD k [])
def entAt (x:NetD) (k:Nat):Nat:=(10*(k:Int)+8+(srcHead x k).2.2.1).toNat
def entS (x:NetD) (s:SSD) (k:Nat):SSD:=upd s (entAt x k) (·++[srcHead x k])
def srcS (s:SSD) (k:Nat):SSD:=upd s k (List.drop 1)
def wantedN (x:NetD) (a i:Nat):Int:=
 if x.2.2.1.getD (10*a+i) []=[] then -1
 else if (headOf x (10*a+i)).2.2.2.1 then portOf x.1.1 x.1.2.1 (if i%2=1 then x.2.1.2 else x.2.1.1) a (headOf x (10*a+i)).2.1
 else match (List.range 5).find? fun p=>x.2.2.2.1.getD (outAt a p (i%2)) 0=((i/2:Nat):Int) with
  | some p=>(p:Int)
  | none=>-1
def roomN (x:NetD) (a p c:Nat):Prop:=p=4∨(has x.1.1 x.1.2.1 x.1.2.2 (4*a+p)∧(x.2.2.1.getD (tgt x a p c) []).length<3)
noncomputable instance (x:NetD) (a p c:Nat):Decidable (roomN x a p c):=inferInstanceAs (Decidable (_∨_))
def reqN (x:NetD) (a i p:Nat):Prop:=wantedN x a i=(p:Int)∧roomN x a p (i%2)∧
 x.2.2.2.1.getD (outAt a p (i%2)) 0=if (headOf x (10*a+i)).2.2.2.1 then -1 else ((i/2:Nat):Int)
noncomputable instance (x:NetD) (a i p:Nat):Decidable (reqN x a i p):=inferInstanceAs (Decidable (_∧_))
noncomputable def reqsN (x:NetD) (a p:Nat):List Nat:=(List.range 10).filter fun i=>reqN x a i p
def firstF (t:Int) (l:List Int):Int:=l.foldl (fun b y=>if b<0∨(y-t+10)%10<(b-t+10)%10 then y else b) (-1)
noncomputable def freeN (x:NetD) (a p:Nat) (u:List Bool):List Nat:=(reqsN x a p).filter fun i=>!u.getD (i/2) false
noncomputable def pickN (x:NetD) (a p:Nat) (u:List Bool):Int:=firstF (x.2.2.2.2.1.getD (5*a+p) 0) ((freeN x a p u).map Int.ofNat)
noncomputable def grStep (x:NetD) (a:Nat) (st:List GrD×List Bool) (p:Nat):List GrD×List Bool:=
 if 0≤pickN x a p st.2 then (st.1++[(a,p,(pickN x a p st.2).toNat)],st.2.set ((pickN x a p st.2).toNat/2) true) else st
noncomputable def grTo (x:NetD) (a p:Nat):List GrD×List Bool:=(List.range p).foldl (grStep x a) ([],List.replicate 5 false)
noncomputable def grN (x:NetD) (a:Nat):List GrD:=(grTo x a 5).1
noncomputable def allTo (x:NetD) (n:Nat):List GrD:=(List.range n).flatMap (grN x)
noncomputable def allN (x:NetD):List GrD:=allTo x (cnt x.1.1 x.1.2.1).toNat
def entersN (x:NetD) (k:Nat):Prop:=x.2.2.2.2.2.1.getD k []≠[]∧(x.2.2.1.getD (entAt x k) []).length<3
noncomputable instance (x:NetD) (k:Nat):Decidable (entersN x k):=inferInstanceAs (Decidable (_∧_))
noncomputable def enterN (x:NetD):List Nat:=(List.range (cnt x.1.1 x.1.2.1).toNat).filter fun k=>entersN x k
noncomputable def stepN (x:NetD):NetD:=
 (x.1,x.2.1,(enterN x).foldl (entS x) ((allN x).foldl (pushS x) ((allN x).foldl popS x.2.2.1)),(allN x).foldl (ownS x) x.2.2.2.1,(allN x).foldl turnS x.2.2.2.2.1,
  (enterN x).foldl srcS x.2.2.2.2.2.1,(allN x).foldl (arrS x) x.2.2.2.2.2.2.1,x.2.2.2.2.2.2.2+1)
def bothS (x:NetD) (s:SSD) (g:GrD):SSD:=pushS x (popS s g) g
@[simp] theorem Mr (s:SSD) (g:GrD):(popS s g).length=s.length:=Yj _ _ _
@[simp] theorem V6 (x:NetD) (s:SSD) (g:GrD):(pushS x s g).length=s.length:=by unfold pushS;split<;>simp
@[simp] theorem R3 (x:NetD) (s:SSD) (g:GrD):(arrS x s g).length=s.length:=by unfold arrS;split<;>simp
@[simp] theorem Rt (x:NetD) (s:List Int) (g:GrD):(ownS x s g).length=s.length:=by unfold ownS;simp
@[simp] theorem Tn (s:List Int) (g:GrD):(turnS s g).length=s.length:=by unfold turnS;simp
@[simp] theorem Ru (x:NetD) (s:SSD) (k:Nat):(entS x s k).length=s.length:=Yj _ _ _
@[simp] theorem St (s:SSD) (k:Nat):(srcS s k).length=s.length:=Yj _ _ _
theorem Q1 {α β:Type} {f:List β→α→List β} (h:∀s a,(f s a).length=s.length):∀(l:List α) (s:List β),(l.foldl f s).length=s.length
 | [],s=>rfl
 | a::l,s=>by rw [List.foldl_cons,Q1 h l,h]
theorem W3 {α β:Type} (f:β→α→β) (s:β) {l:List α} {i:Nat} (h:i<l.length):(l.take (i+1)).foldl f s=f ((l.take i).foldl f s) l[i]:=by
 rw [List.take_succ_eq_append_getElem h,List.foldl_append];rfl
theorem Ey {x:NetD} {s:SSD} {g g':GrD} (h:s.getD (frm g') []≠[]):popS (pushS x s g) g'=pushS x (popS s g') g:=by
 unfold popS pushS
 by_cases e:g.2.1=4
 ·rw [if_pos e,if_pos e]
 ·rw [if_neg e,if_neg e];exact Dz _ h
theorem Sq (x:NetD):∀(l:List GrD) (s:SSD),(l.map frm).Nodup→(∀g∈l,s.getD (frm g) []≠[])→l.foldl (bothS x) s=l.foldl (pushS x) (l.foldl popS s)
 | [],s,_,_=>rfl
 | g::l,s,nd,hs=>by
  obtain ⟨n1,n2⟩:=List.nodup_cons.1 nd
  have hne:∀g'∈l,frm g≠frm g':=fun g' hg e=>n1 (e▸List.mem_map_of_mem hg)
  have h1:∀g'∈l,(popS s g).getD (frm g') []≠[]:=fun g' hg=>by
   rw [popS,Qy _ (hne g' hg)];exact hs g' (List.mem_cons_of_mem _ hg)
  have h2:∀g'∈l,(bothS x s g).getD (frm g') []≠[]:=fun g' hg=>by
   have:=h1 g' hg
   unfold bothS pushS
   split
   ·exact this
   ·by_cases e:tgt x g.1 g.2.1 (g.2.2%2)=frm g'
    ·rw [e]
     by_cases hl:frm g'<(popS s g).length
     ·rw [Wd _ hl];simp
     ·simp [List.getD_eq_getElem?_getD,List.getElem?_eq_none (Nat.le_of_not_lt hl)] at this
    ·rw [Qy _ e];exact this
  rw [List.foldl_cons,Sq x l _ n2 h2]
  have key:∀(m:List GrD) (z:SSD),(m.map frm).Nodup→(∀g'∈m,z.getD (frm g') []≠[])→m.foldl popS (pushS x z g)=pushS x (m.foldl popS z) g:=by
   intro m
   induction m with
   | nil=>intro z _ _;rfl
   | cons g' m ih=>
    intro z nz hz
    obtain ⟨z1,z2⟩:=List.nodup_cons.1 nz
    rw [List.foldl_cons,List.foldl_cons,Ey (hz g' (List.mem_cons_self ..))]
    refine ih _ z2 fun g2 hg2=>?_
    have hne2:frm g'≠frm g2:=fun e=>z1 (e▸List.mem_map_of_mem hg2)
    rw [popS,Qy _ hne2];exact hz g2 (List.mem_cons_of_mem _ hg2)
  show l.foldl (pushS x) (l.foldl popS (pushS x (popS s g) g))=_
  rw [key l (popS s g) n2 h1]
  rfl
theorem Ug (t:Int):∀(l:List Int) (b:Int),(l.foldl (fun b y=>if b<0∨(y-t+10)%10<(b-t+10)%10 then y else b) b)=b∨(l.foldl (fun b y=>if b<0∨(y-t+10)%10<(b-t+10)%10 then y else b) b)∈l
 | [],b=>.inl rfl
 | y::l,b=>by
  rw [List.foldl_cons]
  rcases Ug t l (if b<0∨(y-t+10)%10<(b-t+10)%10 then y else b) with h|h
  ·rw [h];split
   ·exact .inr (List.mem_cons_self ..)
   ·exact .inl rfl
  ·exact .inr (List.mem_cons_of_mem _ h)
theorem Ky {t:Int} {l:List Int} (h:0≤firstF t l):firstF t l∈l:=by
 rcases Ug t l (-1) with g|g
 ·unfold firstF at h;rw [g] at h;omega
 ·exact g
theorem Lx {x:NetD} {a p:Nat} {u:List Bool} (h:0≤pickN x a p u):(pickN x a p u).toNat∈freeN x a p u:=by
 have:=Ky h
 obtain ⟨i,hi,he⟩:=List.mem_map.1 this
 have e:pickN x a p u=(i:Int):=he.symm
 rw [e];simpa using hi
theorem Pe {x:NetD} {a p i:Nat} {u:List Bool} (h:i∈freeN x a p u):i<10∧reqN x a i p∧u.getD (i/2) false=false:=by
 obtain ⟨h1,h2⟩:=List.mem_filter.1 h
 obtain ⟨h3,h4⟩:=List.mem_filter.1 h1
 exact ⟨List.mem_range.1 h3,by simpa using h4,by simpa using h2⟩
theorem X8 (x:NetD) (a p:Nat):grTo x a (p+1)=grStep x a (grTo x a p) p:=by
 unfold grTo;rw [List.range_succ,List.foldl_append];rfl
structure GrOk (x:NetD) (a p:Nat) (st:List GrD×List Bool):Prop where
 len:st.2.length=5
 at':∀g∈st.1,g.1=a∧g.2.1<p∧g.2.2<10∧reqN x a g.2.2 g.2.1∧st.2.getD (g.2.2/2) false=true
 nd:(st.1.map frm).Nodup
 le:st.1.length≤p
theorem Cx {u:List Bool} {k j:Nat} (h:u.getD j false=true):(u.set k true).getD j false=true:=by
 simp only [List.getD_eq_getElem?_getD,List.getElem?_set] at *
 split
 ·split<;>simp_all
 ·exact h
theorem Y8 (x:NetD) (a:Nat):∀p,p≤5→GrOk x a p (grTo x a p)
 | 0,_=>⟨rfl,fun g h=>by simp [grTo] at h,by simp [grTo],by simp [grTo]⟩
 | p+1,hp=>by
  obtain ⟨h1,h2,h3,h4⟩:=Y8 x a p (by omega)
  rw [X8]
  unfold grStep
  generalize grTo x a p=st at *
  split
  ·rename_i hk
   obtain ⟨k1,k2,k3⟩:=Pe (Lx hk)
   generalize hk':(pickN x a p st.2).toNat=k at *
   refine ⟨by simpa using h1,fun g hg=>?_,?_,by simp only [List.length_append,List.length_cons,List.length_nil];omega⟩
   ·rcases List.mem_append.1 hg with hg|hg
    ·obtain ⟨g1,g2,g3,g4,g5⟩:=h2 g hg
     exact ⟨g1,by omega,g3,g4,Cx g5⟩
    ·have:=List.mem_singleton.1 hg
     subst this
     exact ⟨rfl,by simp,k1,k2,by show (st.2.set (k/2) true).getD (k/2) false=true;rw [List.getD_eq_getElem?_getD,List.getElem?_set_self (by rw [h1];omega)];rfl⟩
   ·rw [List.map_append]
    refine List.nodup_append.2 ⟨h3,by simp,fun y hy z hz e=>?_⟩
    obtain ⟨g,hg,rfl⟩:=List.mem_map.1 hy
    simp at hz
    obtain ⟨g1,g2,g3,g4,g5⟩:=h2 g hg
    have:g.2.2=k:=by have:frm g=frm (a,p,k):=e.trans hz;unfold frm at this;simp only at this;omega
    rw [this,k3] at g5
    simp at g5
  ·exact ⟨h1,fun g hg=>by obtain ⟨g1,g2,g3,g4,g5⟩:=h2 g hg;exact ⟨g1,by omega,g3,g4,g5⟩,h3,by omega⟩
theorem Za (x:NetD) (n:Nat):allTo x (n+1)=allTo x n++grN x n:=by
 unfold allTo;rw [List.range_succ,List.flatMap_append];simp
theorem I9 (x:NetD) (a:Nat):(grN x a).length≤5:=(Y8 x a 5 (by omega)).le
theorem Yx (x:NetD):∀n,(∀g∈allTo x n,g.1<n∧g.2.1<5∧g.2.2<10∧reqN x g.1 g.2.2 g.2.1)∧((allTo x n).map frm).Nodup∧(allTo x n).length≤5*n
 | 0=>⟨fun g h=>by simp [allTo] at h,by simp [allTo],by simp [allTo]⟩
 | n+1=>by
  obtain ⟨h1,h2,h3⟩:=Yx x n
  obtain ⟨_,k2,k3,k4⟩:=Y8 x n 5 (by omega)
  rw [Za]
  refine ⟨fun g hg=>?_,?_,by simp [grN];omega⟩
  ·rcases List.mem_append.1 hg with hg|hg
   ·obtain ⟨a1,a2⟩:=h1 g hg;exact ⟨by omega,a2⟩
   ·obtain ⟨a1,a2,a3,a4,_⟩:=k2 g hg
    exact ⟨by omega,a2,a3,by rw [a1];exact a4⟩
  ·rw [List.map_append]
   refine List.nodup_append.2 ⟨h2,k3,fun y hy z hz e=>?_⟩
   obtain ⟨g,hg,rfl⟩:=List.mem_map.1 hy
   obtain ⟨g',hg',rfl⟩:=List.mem_map.1 hz
   have a1:=h1 g hg
   have a2:=k2 g' hg'
   unfold frm at e;omega
theorem W4 {x:NetD} {g:GrD} (h:g∈allN x):(g.1:Int)<cnt x.1.1 x.1.2.1∧g.2.1<5∧g.2.2<10∧reqN x g.1 g.2.2 g.2.1:=by
 obtain ⟨h1,h2⟩:=(Yx x _).1 g h
 exact ⟨by omega,h2⟩
theorem Xz (x:NetD):((allN x).map frm).Nodup:=(Yx x _).2.1
theorem Rw (x:NetD):(allN x).length≤80:=by
 have:=(Yx x (cnt x.1.1 x.1.2.1).toNat).2.2
 have:=Qg x.1.1 x.1.2.1
 unfold allN;omega
theorem Yn {x:NetD} {a i p:Nat} (h:reqN x a i p):x.2.2.1.getD (10*a+i) []≠[]:=fun e=>by
 have:=h.1
 unfold wantedN at this
 rw [if_pos e] at this
 omega
theorem Uq {l:List FlitD} (h:l≠[]):headL l∈l:=by
 cases l with
 | nil=>exact absurd rfl h
 | cons a l=>exact List.mem_cons_self ..
def allP (P:Nat→FlitD→Prop) (s:SSD):Prop:=∀j,∀f∈s.getD j [],P j f
def runOk (x:NetD):Prop:=classesOk x.1.1 x.1.2.1 x.1.2.2 x.2.1.1 x.2.1.2∧sizesOk x∧allP (fun j f=>f.2.2.1=(j:Int)%2∧flitOk x.1.1 x.1.2.1 f) x.2.2.1∧allP (fun _ f=>flitOk x.1.1 x.1.2.1 f) x.2.2.2.2.2.1∧∀o∈x.2.2.2.2.1,inR 0 o 9
theorem O5 {P:Nat→FlitD→Prop} {s:SSD} {k:Nat} (h:allP P s):allP P (upd s k (List.drop 1)):=fun j f hf=>by
 by_cases e:k=j
 ·subst e
  by_cases hl:k<s.length
  ·rw [Wd _ hl] at hf;exact h k f (List.mem_of_mem_drop hf)
  ·simp [upd,List.getD_eq_getElem?_getD,List.getElem?_eq_none (Nat.le_of_not_lt hl),List.set_eq_of_length_le (Nat.le_of_not_lt hl)] at hf
 ·rw [Qy _ e] at hf;exact h j f hf
theorem O8 {P:Nat→FlitD→Prop} {s:SSD} {k:Nat} {y:FlitD} (h:allP P s) (hy:P k y):allP P (upd s k (·++[y])):=fun j f hf=>by
 by_cases e:k=j
 ·subst e
  by_cases hl:k<s.length
  ·rw [Wd _ hl] at hf
   rcases List.mem_append.1 hf with hf|hf
   ·exact h k f hf
   ·rw [List.mem_singleton.1 hf];exact hy
  ·simp [upd,List.getD_eq_getElem?_getD,List.getElem?_eq_none (Nat.le_of_not_lt hl),List.set_eq_of_length_le (Nat.le_of_not_lt hl)] at hf
 ·rw [Qy _ e] at hf;exact h j f hf
theorem Xd {α β:Type} {f:β→α→β} (I:β→Prop):∀(l:List α) (s:β),I s→(∀s a,a∈l→I s→I (f s a))→I (l.foldl f s)
 | [],s,h,_=>h
 | a::l,s,h,k=>Xd I l _ (k s a (List.mem_cons_self ..) h) fun s b hb=>k s b (List.mem_cons_of_mem _ hb)
theorem Zu {x:NetD} {a p c:Nat} (h:has x.1.1 x.1.2.1 x.1.2.2 (4*(a:Int)+p)) (hp:p<4) :
 isN x.1.1 x.1.2.1 (next x.1.1 x.1.2.1 a p)∧0≤opp p∧opp p<4:=by
 obtain ⟨_,_,h3⟩:=X9 (w:=x.1.1) (h:=x.1.2.1) (a:=a) (p:=p) (b:=x.1.2.2) ⟨by omega,by omega⟩ h
 refine ⟨h3,?_⟩
 unfold opp
 rw [if_neg (by omega),if_pos (by omega)]
 omega
theorem Xn {x:NetD} {a p c:Nat} (h:has x.1.1 x.1.2.1 x.1.2.2 (4*(a:Int)+p)) (hp:p<4) (hc:c<2) :
 ((tgt x a p c:Nat):Int)=10*next x.1.1 x.1.2.1 a p+2*opp p+c∧((tgt x a p c:Nat):Int)<10*cnt x.1.1 x.1.2.1∧((tgt x a p c:Nat):Int)%2=c:=by
 obtain ⟨⟨h1,h2⟩,h3,h4⟩:=Zu (c:=c) h hp
 unfold tgt
 generalize next x.1.1 x.1.2.1 a p=N at *
 generalize opp p=O at *
 refine ⟨by omega,by omega,by omega⟩
theorem Bs {x:NetD} (h:runOk x) {a i p:Nat} (r:reqN x a i p):(headOf x (10*a+i)).2.2.1=((10*a+i:Nat):Int)%2∧flitOk x.1.1 x.1.2.1 (headOf x (10*a+i)):=
 h.2.2.1 _ _ (Uq (Yn r))
theorem Zx {x:NetD} (h:runOk x) {k:Nat} (r:x.2.2.2.2.2.1.getD k []≠[]):flitOk x.1.1 x.1.2.1 (srcHead x k)∧(entAt x k:Int)=10*k+8+(srcHead x k).2.2.1∧(entAt x k:Int)%2=(srcHead x k).2.2.1:=by
 have:=h.2.2.2.1 k _ (Uq r)
 have h2:=this.2
 unfold inR at h2
 refine ⟨this,?_⟩
 unfold entAt srcHead
 omega
theorem Wu {x:NetD} {k:Nat} (h:k∈enterN x):(k:Int)<cnt x.1.1 x.1.2.1∧entersN x k:=by
 obtain ⟨h1,h2⟩:=List.mem_filter.1 h
 have:=List.mem_range.1 h1
 exact ⟨by omega,by simpa using h2⟩
theorem Y6 (x:NetD):(enterN x).Nodup:=List.Pairwise.filter _ List.nodup_range
theorem U0 (x:NetD):(enterN x).length≤16:=by
 have h1:=List.length_filter_le (fun k=>decide (entersN x k)) (List.range (cnt x.1.1 x.1.2.1).toNat)
 have:=Qg x.1.1 x.1.2.1
 rw [List.length_range] at h1
 unfold enterN;omega
theorem Sz {x:NetD} (h:runOk x):runOk (stepN x):=by
 have hx:=h
 obtain ⟨h1,⟨s1,s2,s3,s4,s5⟩,h3,h4,h5⟩:=h
 refine ⟨h1,⟨?_,?_,?_,?_,?_⟩,?_,?_,?_⟩
 ·show (((enterN x).foldl (entS x) ((allN x).foldl (pushS x) ((allN x).foldl popS x.2.2.1))).length:Int)=_
  rw [Q1 (Ru x),Q1 (V6 x),Q1 Mr];exact s1
 ·show (((allN x).foldl (ownS x) x.2.2.2.1).length:Int)=_
  rw [Q1 (Rt x)];exact s2
 ·show (((allN x).foldl turnS x.2.2.2.2.1).length:Int)=_
  rw [Q1 Tn];exact s3
 ·show (((enterN x).foldl srcS x.2.2.2.2.2.1).length:Int)=_
  rw [Q1 St];exact s4
 ·show (((allN x).foldl (arrS x) x.2.2.2.2.2.2.1).length:Int)=_
  rw [Q1 (R3 x)];exact s5
 ·refine Xd _ _ _ (Xd _ _ _ (Xd _ _ _ h3 fun s g hg hs=>O5 hs) fun s g hg hs=>?_) fun s k hk hs=>?_
  ·unfold pushS
   split
   ·exact hs
   ·rename_i hp
    obtain ⟨a1,a2,a3,a4⟩:=W4 hg
    have hh:=a4.2.1
    rcases hh with hh|⟨hh,_⟩
    ·exact absurd hh hp
    obtain ⟨t1,t2,t3⟩:=Xn (c:=g.2.2%2) hh (by omega) (by omega)
    obtain ⟨e1,e2⟩:=Bs hx a4
    refine O8 hs ⟨?_,e2⟩
    show (headOf x (10*g.1+g.2.2)).2.2.1=_
    rw [e1,t3];omega
  ·obtain ⟨_,e1,_⟩:=Wu hk
   obtain ⟨f1,f2,f3⟩:=Zx hx e1
   exact O8 hs ⟨f3.symm,f1⟩
 ·exact Xd _ _ _ h4 fun s k hk hs=>O5 hs
 ·refine Xd (fun s:List Int=>∀o∈s,inR 0 o 9) _ _ h5 fun s g hg hs o ho=>?_
  rcases List.mem_or_eq_of_mem_set ho with ho|rfl
  ·exact hs o ho
  ·unfold inR;omega
def allL (L:Nat) (s:SSD):Prop:=∀l∈s,l.length≤L
theorem Gs {s:SSD} {k:Nat} {f:List FlitD→List FlitD} {l:List FlitD} (h:l∈upd s k f):l∈s∨(l=f (s.getD k [])∧k<s.length):=by
 unfold upd at h
 by_cases hl:k<s.length
 ·rcases List.mem_or_eq_of_mem_set h with h|h
  ·exact .inl h
  ·exact .inr ⟨h,hl⟩
 ·rw [List.set_eq_of_length_le (Nat.le_of_not_lt hl)] at h;exact .inl h
theorem Yh {s:SSD} {k:Nat} (hl:k<s.length):s.getD k []∈s:=by
 simp [List.getD_eq_getElem?_getD,hl]
theorem Uf {L:Nat} {s:SSD} {k:Nat} (h:allL L s):allL L (upd s k (List.drop 1)):=fun l hl=>by
 rcases Gs hl with hl|⟨rfl,hk⟩
 ·exact h l hl
 ·have:=h _ (Yh hk);rw [List.length_drop];omega
theorem V5 {L:Nat} {s:SSD} {k:Nat} {y:FlitD} (h:allL L s):allL (L+1) (upd s k (·++[y])):=fun l hl=>by
 rcases Gs hl with hl|⟨rfl,hk⟩
 ·have:=h l hl;omega
 ·have:=h _ (Yh hk);simp only [List.length_append,List.length_cons,List.length_nil];omega
theorem Qu {L M:Nat} {s:SSD} (h:allL L s) (k:L≤M):allL M s:=fun l hl=>by have:=h l hl;omega
theorem Wj {α:Type} {f:SSD→α→SSD} (hf:∀s a L,allL L s→allL (L+1) (f s a)):∀(l:List α) (s:SSD) (L:Nat),allL L s→allL (L+l.length) (l.foldl f s)
 | [],s,L,h=>by simpa using h
 | a::l,s,L,h=>by
  have:=Wj hf l (f s a) (L+1) (hf s a L h)
  rw [List.foldl_cons,List.length_cons]
  exact Qu this (by omega)
theorem Oq {L:Nat} (l:List GrD) (s:SSD) (h:allL L s):allL L (l.foldl popS s):=Xd _ _ _ h fun s g hg hs=>Uf hs
theorem Ox {L:Nat} (l:List Nat) (s:SSD) (h:allL L s):allL L (l.foldl srcS s):=Xd _ _ _ h fun s g hg hs=>Uf hs
theorem Up (x:NetD) (s:SSD) (g:GrD) (L:Nat) (h:allL L s):allL (L+1) (pushS x s g):=by
 unfold pushS;split
 ·exact Qu h (by omega)
 ·exact V5 h
theorem Pn (x:NetD) (s:SSD) (g:GrD) (L:Nat) (h:allL L s):allL (L+1) (arrS x s g):=by
 unfold arrS;split
 ·exact V5 h
 ·exact Qu h (by omega)
theorem Oh (x:NetD) (s:SSD) (g:GrD) (L:Nat) (h:allL L s):allL (L+1) (bothS x s g):=Up x _ g L (Uf h)
theorem Ro (x:NetD) (s:SSD) (k:Nat) (L:Nat) (h:allL L s):allL (L+1) (entS x s k):=V5 h
theorem Eb {x:NetD} {L:Nat} (h1:allL L x.2.2.1) (h2:allL L x.2.2.2.2.2.2.1):allL (L+96) (stepN x).2.2.1∧allL (L+96) (stepN x).2.2.2.2.2.2.1:=by
 have a1:=Rw x
 have a2:=U0 x
 refine ⟨?_,?_⟩
 ·exact Qu (Wj (Ro x) (enterN x) _ _ (Wj (Up x) (allN x) _ _ (Oq (allN x) _ h1))) (by omega)
 ·exact Qu (Wj (Pn x) (allN x) _ _ h2) (by omega)
end Go.Proofs.YtmddnnecgnpccaaGreat.V
set_option linter.all false
namespace Go.Proofs.YtmddnnecgnpccaaGreat.V
open Go Go.VM Go.Proofs
set_option maxRecDepth 10000
variable {frz:Nat} {H:Heap}
theorem Tg (ys:List Int):ones (cellsOf Fl.int ys)=true:=by
 rw [Wh];unfold ones
 rw [List.all_eq_true]
 intro x hx
 obtain ⟨y,_,rfl⟩:=List.mem_map.1 hx
 rfl
theorem Ik (w h:Int) (v:Value) (b:List Int) (hI:IsI H v b) (hl:b.length≤1073741824):wp (vcall C frz 55 [.agg #[.int .i64 w,.int .i64 h,v]] H) (dMesh.Made H (w,h,b)):=by
 rw [Qb (fn:=Tryz.f55) Tryz.func55 rfl (by kernel_rfl) rfl]
 have one:=And.intro hI.one' hI.cells
 simp [one]
 rw [Yg (h:=⟨by kernel_rfl,by kernel_rfl⟩)]
 simp [emps,empOp,empB,one,(hI.app _).src]
 by_cases h0:b=[]
 ·subst h0
  simp
  exact ⟨_,rfl,⟨.inl ⟨rfl,rfl⟩,by simp⟩,Chg.app _,by simp [dMesh],by simp [dMesh]⟩
 ·simp [h0,hl]
  exact ⟨_,rfl,⟨Ow.new (D:=Fl.int) (e:=3) (xs:=b) (k:=2) (by simp) (Wh _).symm (by simp) rfl,hl⟩,Chg.app _,by simp [dMesh],Qw (.slice (some ⟨H.length+2,0,some 0⟩) b.length 0)⟩
theorem O3 (w h:Int) (v:Value) (b:List Int) (hI:IsI H v b) (hl:b.length≤1073741824):wp (vcall C frz 73 [.agg #[.int .i64 w,.int .i64 h,v]] H) (dMesh.Made H (w,h,b)):=by
 rw [Qb (fn:=Tryz.f73) Tryz.func73 rfl (by kernel_rfl) rfl]
 have one:=And.intro hI.one' hI.cells
 simp [one]
 rw [Yg (h:=⟨by kernel_rfl,by kernel_rfl⟩)]
 simp [emps,empOp,empB,one,(hI.app _).src]
 by_cases h0:b=[]
 ·subst h0
  simp
  exact ⟨_,rfl,⟨.inl ⟨rfl,rfl⟩,by simp⟩,Chg.app _,by simp [dMesh],by simp [dMesh]⟩
 ·simp [h0,hl]
  exact ⟨_,rfl,⟨Ow.new (D:=Fl.int) (e:=3) (xs:=b) (k:=2) (by simp) (Wh _).symm (by simp) rfl,hl⟩,Chg.app _,by simp [dMesh],Qw (.slice (some ⟨H.length+2,0,some 0⟩) b.length 0)⟩
theorem T4 (v:Value) (xs:List Int) (hI:IsI H v xs) (hl:xs.length≤1073741824):wp (vcall C frz 82 [.agg #[v]] H) (dTable.Made H xs):=by
 rw [Qb (fn:=Tryz.f82) Tryz.func82 rfl (by kernel_rfl) rfl]
 have one:=And.intro hI.one' hI.cells
 simp [one,(hI.app _).src]
 by_cases h0:xs=[]
 ·subst h0
  simp
  exact ⟨_,rfl,⟨Ow.new (D:=Fl.int) (e:=3) (xs:=[]) (k:=2) (by simp) rfl rfl rfl,by simp⟩,Chg.app _,by simp [dTable],Qw (.slice (some ⟨H.length+2,0,some 0⟩) 0 0)⟩
 ·simp [h0,hl]
  exact ⟨_,rfl,⟨Ow.new (D:=Fl.int) (e:=3) (xs:=xs) (k:=2) (by simp) (Wh _).symm (by simp) rfl,hl⟩,Chg.app _,by simp [dTable],Qw (.slice (some ⟨H.length+2,0,some 1⟩) xs.length 0)⟩
theorem Ok (v:Value) (xs:List Int) (hI:IsI H v xs) (hl:xs.length≤1073741824):wp (vcall C frz 94 [.agg #[v]] H) (dTable.Made H xs):=by
 rw [Qb (fn:=Tryz.f94) Tryz.func94 rfl (by kernel_rfl) rfl]
 have one:=And.intro hI.one' hI.cells
 simp [one,(hI.app _).src]
 by_cases h0:xs=[]
 ·subst h0
  simp
  exact ⟨_,rfl,⟨Ow.new (D:=Fl.int) (e:=3) (xs:=[]) (k:=2) (by simp) rfl rfl rfl,by simp⟩,Chg.app _,by simp [dTable],Qw (.slice (some ⟨H.length+2,0,some 0⟩) 0 0)⟩
 ·simp [h0,hl]
  exact ⟨_,rfl,⟨Ow.new (D:=Fl.int) (e:=3) (xs:=xs) (k:=2) (by simp) (Wh _).symm (by simp) rfl,hl⟩,Chg.app _,by simp [dTable],Qw (.slice (some ⟨H.length+2,0,some 1⟩) xs.length 0)⟩
theorem Vy:∀(hs:List Value),(hs.flatMap ids).Nodup→∀{i j:Nat} {a b:Value},i≠j→hs[i]? = some a→hs[j]? = some b→∀x∈ids a,x∉ids b
 | [],_,i,j,a,b,_,h1,_=>by simp at h1
 | c::hs,nd,i,j,a,b,hij,h1,h2=>by
  rw [List.flatMap_cons] at nd
  obtain ⟨n1,n2,n3⟩:=List.nodup_append.1 nd
  intro x hx hx'
  cases i with
  | zero=>
   cases j with
   | zero=>exact absurd rfl hij
   | succ j=>
    simp at h1 h2
    subst h1
    exact n3 x hx x (List.mem_flatMap.2 ⟨b,List.mem_of_getElem? h2,hx'⟩) rfl
  | succ i=>
   cases j with
   | zero=>
    simp at h1 h2
    subst h2
    exact n3 x hx' x (List.mem_flatMap.2 ⟨a,List.mem_of_getElem? h1,hx⟩) rfl
   | succ j=>exact Vy hs n2 (i:=i) (j:=j) (fun e=>hij (by omega)) (by simpa using h1) (by simpa using h2) x hx hx'
def ahead (a:SSD) (i:Nat):Nat:=((a.take i).map List.length).sum
theorem S3 (a:SSD) {i:Nat} (h:i<a.length):ahead a (i+1)=ahead a i+(a.getD i []).length:=by
 unfold ahead;rw [E3 a h,List.getD_eq_getElem?_getD,List.getElem?_eq_getElem h];rfl
theorem Lp (a:SSD) (h2:∀xs∈a,xs.length≤67108864):∀i,i≤a.length→ahead a i≤67108864*i
 | 0,_=>by simp [ahead]
 | i+1,h=>by
  have:=Lp a h2 i (by omega)
  have hm:=h2 _ (List.getElem_mem (show i<a.length by omega))
  rw [S3 a (by omega),List.getD_eq_getElem?_getD,List.getElem?_eq_getElem (by omega)]
  simp;omega
theorem Ue (v:Value) (xs:List Int) (hI:Rd Fl.int H v xs) (hl:xs.length≤1073741824):∃r L,vappend Tryz.prog frz H 26 26 (.slice none 0 0) v=some (r,H++L)∧dIntS.Ow (H++L) r xs∧(∀i∈ids r,H.length≤i):=by
 have hs:=hI.src
 simp only [Fl.int_n] at hs
 by_cases h0:xs=[]
 ·subst h0
  refine ⟨.slice none 0 0,[],?_,⟨.inl ⟨rfl,rfl⟩,by simp⟩,by simp⟩
  simp [hs]
 ·refine ⟨.slice (some ⟨H.length,0,some 0⟩) xs.length 0,[⟨cellsOf Fl.int xs,0,3⟩],?_,⟨Ow.new0 rfl rfl (Tg xs) rfl,hl⟩,by simp⟩
  have:xs.length≠0:=fun hh=>h0 (List.length_eq_zero_iff.1 hh)
  simp [hs,h0,hl,Tg]
theorem Zs (v:Value) (hs:List Value) (xss:SSD) (hI:RdL flF H v hs xss) (hb:xss.length≤2097152) (hb2:∀xs∈xss,xs.length≤67108864) :
 wp (vcall C frz 57 [v] H) (dSS.Made H xss):=by
 rw [Qb (fn:=Tryz.f57) Tryz.func57 rfl (by kernel_rfl) rfl]
 have hl:=hI.2.1
 simp [(hI.app).1.len (P:=Tryz.prog) (ty:=33) (by simp),hl]
 refine Qm (fun n t H'=>∃(i:Nat) (out:Value) (gs:List Value),n=xss.length-i∧i≤xss.length∧t 7=v∧t 8=.int .i64 xss.length∧t 9=.int .i64 i∧t 3=out∧gs.length=i∧Ow Fl.val 75 H' out gs∧Chg H H' []∧
  (∀(j:Nat) (a:Value) (xs:List FlitD),gs[j]? = some a→xss[j]? = some xs→Ow flF 102 H' a xs)∧(∀x∈idsL out gs,H.length≤x∧x<H'.length)∧(idsL out gs).Nodup) ?_ (n:=xss.length)
  ⟨0,.slice (some ⟨H.length,0,some 0⟩) 0 0,[],rfl,by omega,by simp,by simp,by simp,by simp,rfl,Ow.new0 (D:=Fl.val) (xs:=[]) rfl rfl rfl rfl,Chg.app _,by simp,by simp [idsL],by simp [idsL]⟩
 rintro n t H' ⟨i,out,gs,rfl,hi,t7,t8,t9,t3,hgl,o,c,hin,hids,hnd⟩ ih
 have rd:=hI.chg c (by simp)
 have l0:=c.1
 simp [t7,t8,t9,t3,rd.1.len (P:=Tryz.prog) (ty:=33) (by simp),hl]
 refine Qf ?_ ?_<;>intro h
 ·have h':i<xss.length:=by omega
  obtain ⟨u,a1,a2,a3,a4⟩:=Q9 rd (ty:=33) (e:=75) (by simp) (by simp) h'
  have hm:=hb2 _ (List.getElem_mem h')
  have a2':vindexAddr Tryz.prog (H'++[⟨[],0,102⟩]) 33 v (.int .i64 i)=some (elp v i):=by
   obtain ⟨_,_,q,_,_⟩:=Q9 (rd.app (L:=[⟨[],0,102⟩])) (ty:=33) (e:=75) (by simp) (by simp) h';exact q
  have a3':vload Tryz.prog (H'++[⟨[],0,102⟩]) 75 (elp v i)=some u:=by
   obtain ⟨u',q1,_,q,_⟩:=Q9 (rd.app (L:=[⟨[],0,102⟩])) (ty:=33) (e:=75) (by simp) (by simp) h'
   rw [a1] at q1;cases q1;exact q
  have o0:Ow flF 102 (H'++[⟨[],0,102⟩]) (.slice (some ⟨H'.length,0,some 0⟩) 0 0) []:=Ow.new0 (D:=flF) (xs:=[]) rfl rfl rfl rfl
  obtain ⟨r,H2,hap,or_,c1,n1⟩:=o0.append (P:=Tryz.prog) (frz:=H.length) (ty:=75) (a4.app (L:=[⟨[],0,102⟩])) (by simp) (Yr _) (by simp;omega) (by simp;omega)
  rw [List.nil_append] at or_
  have l1:=c1.1
  simp at l1
  have cc1:Chg H' H2 []:=(Chg.app []).trans' c1 (fun x hx=>.inr (by simp at hx;omega))
  have nr:∀x∈ids r,H'.length≤x:=fun x hx=>by
   rcases n1 x hx with h1|h1
   ·simp at h1;omega
   ·simp at h1;omega
  have oo:=o.chg cc1 (by simp)
  have hout:∀x∈ids out,H.length≤x∧x<H'.length:=fun x hx=>hids x (List.mem_append.2 (.inl hx))
  obtain ⟨out',H4,hap2,o4,c4,n4⟩:=oo.push (P:=Tryz.prog) (frz:=H.length) (ty:=33) (a:=r) (by simp) (by simp [or_.rd.one']) (by omega) (fun x hx=>(hout x hx).1)
  simp only [Fl.val_f] at hap2
  have l4:=c4.1
  have one:=And.intro or_.rd.one' or_.rd.cells
  have rlt:=or_.lt
  have o4lt:=o4.lt
  simp [-Qq,t7,t8,t9,t3,a2,a3,a2',a3',hap,hap2,one]
  refine ih (xss.length-(i+1)) _ _ ⟨i+1,out',gs++[r],rfl,by omega,by simp [t7],by simp [t8],?_,by simp,by simp [hgl],o4,(c.trans cc1).trans' c4 (fun x hx=>.inr (hout x hx).1),fun j a xs ha hx=>?_,fun x hx=>?_,?_⟩ (by omega)
  ·simp;rw [w64 (by omega) (by omega)]
  ·by_cases hj:j<gs.length
   ·rw [List.getElem?_append_left hj] at ha
    refine ((hin j a xs ha hx).chg cc1 (by simp)).chg c4 (fun y hy hh=>?_)
    exact (List.nodup_append.1 hnd).2.2 y hh y (List.mem_flatMap.2 ⟨a,List.mem_of_getElem? ha,hy⟩) rfl
   ·rw [List.getElem?_append_right (by omega)] at ha
    have hj2:=(List.getElem?_eq_some_iff.1 ha).1
    simp at hj2
    have:j=i:=by omega
    subst this
    rw [show j-gs.length=0 by omega] at ha
    simp at ha
    subst ha
    rw [List.getElem?_eq_getElem h'] at hx
    cases hx
    exact or_.chg c4 (fun y hy hh=>by have:=nr y hy;have:=(hout y hh).2;omega)
  ·rcases List.mem_append.1 hx with hx|hx
   ·have h2:=o4lt x hx
    rcases n4 x hx with h1|h1
    ·exact ⟨(hout x h1).1,h2⟩
    ·exact ⟨by omega,h2⟩
   ·rw [List.flatMap_append] at hx
    rcases List.mem_append.1 hx with hx|hx
    ·have:=hids x (List.mem_append.2 (.inr hx));omega
    ·simp at hx
     have:=nr x hx;have:=rlt x hx;omega
  ·obtain ⟨d1,d2,d3⟩:=List.nodup_append.1 hnd
   have hgl2:∀x∈gs.flatMap ids,x<H'.length:=fun x hx=>(hids x (List.mem_append.2 (.inr hx))).2
   refine List.nodup_append.2 ⟨Qw _,?_,fun a ha b hb e=>?_⟩
   ·rw [List.flatMap_append]
    exact Wv d2 (by simpa using Qw r) (n:=H'.length) hgl2 (fun x hx=>by simp at hx;exact nr x hx)
   ·subst e
    rw [List.flatMap_append] at hb
    rcases n4 a ha with h1|h1
    ·rcases List.mem_append.1 hb with hb|hb
     ·exact d3 a h1 a hb rfl
     ·simp at hb
      have:=nr a hb;have:=(hout a h1).2;omega
    ·rcases List.mem_append.1 hb with hb|hb
     ·have:=hgl2 a hb;omega
     ·simp at hb
      have:=rlt a hb;omega
 ·have:i=xss.length:=by omega
  subst this
  simp [t7,t8,t9,t3]
  exact ⟨(out,gs),rfl,⟨⟨o,hgl,hin⟩,hb,hb2⟩,c,fun x hx=>(hids x hx).1,hnd⟩
theorem U3 (v:Value) (hs:List Value) (xss:SSD) (hI:RdL flF H v hs xss) (hb:xss.length≤2097152) (hb2:∀xs∈xss,xs.length≤67108864) :
 wp (vcall C frz 95 [v] H) (dSS.Made H xss):=by
 rw [Qb (fn:=Tryz.f95) Tryz.func95 rfl (by kernel_rfl) rfl]
 have hl:=hI.2.1
 simp [(hI.app).1.len (P:=Tryz.prog) (ty:=33) (by simp),hl]
 refine Qm (fun n t H'=>∃(i:Nat) (out:Value) (gs:List Value),n=xss.length-i∧i≤xss.length∧t 0=v∧t 4=.int .i64 i∧t 3=out∧gs.length=i∧Ow Fl.val 75 H' out gs∧Chg H H' []∧
  (∀(j:Nat) (a:Value) (xs:List FlitD),gs[j]? = some a→xss[j]? = some xs→Ow flF 102 H' a xs)∧(∀x∈idsL out gs,H.length≤x∧x<H'.length)∧(idsL out gs).Nodup) ?_ (n:=xss.length)
  ⟨0,.slice (some ⟨H.length,0,some 0⟩) 0 0,[],rfl,by omega,by simp,by simp,by simp,rfl,Ow.new0 (D:=Fl.val) (xs:=[]) rfl rfl rfl rfl,Chg.app _,by simp,by simp [idsL],by simp [idsL]⟩
 rintro n t H' ⟨i,out,gs,rfl,hi,t0,t4,t3,hgl,o,c,hin,hids,hnd⟩ ih
 have rd:=hI.chg c (by simp)
 have l0:=c.1
 simp [t0,t4,t3,rd.1.len (P:=Tryz.prog) (ty:=33) (by simp),hl]
 refine Qf ?_ ?_<;>intro h
 ·have h':i<xss.length:=by omega
  obtain ⟨u,a1,a2,a3,a4⟩:=Q9 rd (ty:=33) (e:=75) (by simp) (by simp) h'
  have hm:=hb2 _ (List.getElem_mem h')
  have a2':vindexAddr Tryz.prog (H'++[⟨[],0,102⟩]) 33 v (.int .i64 i)=some (elp v i):=by
   obtain ⟨_,_,q,_,_⟩:=Q9 (rd.app (L:=[⟨[],0,102⟩])) (ty:=33) (e:=75) (by simp) (by simp) h';exact q
  have a3':vload Tryz.prog (H'++[⟨[],0,102⟩]) 75 (elp v i)=some u:=by
   obtain ⟨u',q1,_,q,_⟩:=Q9 (rd.app (L:=[⟨[],0,102⟩])) (ty:=33) (e:=75) (by simp) (by simp) h'
   rw [a1] at q1;cases q1;exact q
  have o0:Ow flF 102 (H'++[⟨[],0,102⟩]) (.slice (some ⟨H'.length,0,some 0⟩) 0 0) []:=Ow.new0 (D:=flF) (xs:=[]) rfl rfl rfl rfl
  obtain ⟨r,H2,hap,or_,c1,n1⟩:=o0.append (P:=Tryz.prog) (frz:=H.length) (ty:=75) (a4.app (L:=[⟨[],0,102⟩])) (by simp) (Yr _) (by simp;omega) (by simp;omega)
  rw [List.nil_append] at or_
  have l1:=c1.1
  simp at l1
  have cc1:Chg H' H2 []:=(Chg.app []).trans' c1 (fun x hx=>.inr (by simp at hx;omega))
  have nr:∀x∈ids r,H'.length≤x:=fun x hx=>by
   rcases n1 x hx with h1|h1
   ·simp at h1;omega
   ·simp at h1;omega
  have oo:=o.chg cc1 (by simp)
  have hout:∀x∈ids out,H.length≤x∧x<H'.length:=fun x hx=>hids x (List.mem_append.2 (.inl hx))
  obtain ⟨out',H4,hap2,o4,c4,n4⟩:=oo.push (P:=Tryz.prog) (frz:=H.length) (ty:=33) (a:=r) (by simp) (by simp [or_.rd.one']) (by omega) (fun x hx=>(hout x hx).1)
  simp only [Fl.val_f] at hap2
  have l4:=c4.1
  have one:=And.intro or_.rd.one' or_.rd.cells
  have rlt:=or_.lt
  have o4lt:=o4.lt
  simp [-Qq,t0,t4,t3,a2,a3,a2',a3',hap,hap2,one]
  refine ih (xss.length-(i+1)) _ _ ⟨i+1,out',gs++[r],rfl,by omega,by simp [t0],?_,by simp,by simp [hgl],o4,(c.trans cc1).trans' c4 (fun x hx=>.inr (hout x hx).1),fun j a xs ha hx=>?_,fun x hx=>?_,?_⟩ (by omega)
  ·simp;rw [w64 (by omega) (by omega)]
  ·by_cases hj:j<gs.length
   ·rw [List.getElem?_append_left hj] at ha
    refine ((hin j a xs ha hx).chg cc1 (by simp)).chg c4 (fun y hy hh=>?_)
    exact (List.nodup_append.1 hnd).2.2 y hh y (List.mem_flatMap.2 ⟨a,List.mem_of_getElem? ha,hy⟩) rfl
   ·rw [List.getElem?_append_right (by omega)] at ha
    have hj2:=(List.getElem?_eq_some_iff.1 ha).1
    simp at hj2
    have:j=i:=by omega
    subst this
    rw [show j-gs.length=0 by omega] at ha
    simp at ha
    subst ha
    rw [List.getElem?_eq_getElem h'] at hx
    cases hx
    exact or_.chg c4 (fun y hy hh=>by have:=nr y hy;have:=(hout y hh).2;omega)
  ·rcases List.mem_append.1 hx with hx|hx
   ·have h2:=o4lt x hx
    rcases n4 x hx with h1|h1
    ·exact ⟨(hout x h1).1,h2⟩
    ·exact ⟨by omega,h2⟩
   ·rw [List.flatMap_append] at hx
    rcases List.mem_append.1 hx with hx|hx
    ·have:=hids x (List.mem_append.2 (.inr hx));omega
    ·simp at hx
     have:=nr x hx;have:=rlt x hx;omega
  ·obtain ⟨d1,d2,d3⟩:=List.nodup_append.1 hnd
   have hgl2:∀x∈gs.flatMap ids,x<H'.length:=fun x hx=>(hids x (List.mem_append.2 (.inr hx))).2
   refine List.nodup_append.2 ⟨Qw _,?_,fun a ha b hb e=>?_⟩
   ·rw [List.flatMap_append]
    exact Wv d2 (by simpa using Qw r) (n:=H'.length) hgl2 (fun x hx=>by simp at hx;exact nr x hx)
   ·subst e
    rw [List.flatMap_append] at hb
    rcases n4 a ha with h1|h1
    ·rcases List.mem_append.1 hb with hb|hb
     ·exact d3 a h1 a hb rfl
     ·simp at hb
      have:=nr a hb;have:=(hout a h1).2;omega
    ·rcases List.mem_append.1 hb with hb|hb
     ·have:=hgl2 a hb;omega
     ·simp at hb
      have:=rlt a hb;omega
 ·have:i=xss.length:=by omega
  subst this
  simp [t0,t4,t3]
  exact ⟨(out,gs),rfl,⟨⟨o,hgl,hin⟩,hb,hb2⟩,c,fun x hx=>(hids x hx).1,hnd⟩
end Go.Proofs.YtmddnnecgnpccaaGreat.V
