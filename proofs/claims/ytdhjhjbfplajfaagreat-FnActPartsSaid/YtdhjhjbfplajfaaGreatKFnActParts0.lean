/- Texts of a proof, joined. -/
import Derived.Test.YtdhjhjbfplajfaaGreatProg
import Derived.KernelRfl
import Derived.Test.YtdhjhjbfplajfaaGreatKM0
import Derived.Test.YtdhjhjbfplajfaaGreatKM1
namespace Go.Proofs.YtdhjhjbfplajfaaGreat.V
open Go Go.VM Go.Proofs
noncomputable def C:Ctx:={ P:=Tryz.prog,mode:=fun g=>if [15,16,24,29,30,34,49,58,82,86,94,109,122,136,140,141,142,143,144,145,147,148,155,162,164,165,166,173].contains g then 2 else if [6,7,10,13,14,18,19,23,27,28,32,37,42,44,45,54,56,57,60,61,62,63,65,67,68,69,72,80,81,83,87,88,90,91,92,103,104,105,110,119,125,127,137,151,175].contains g then 1 else 0,ext:=fun _=>none }
@[simp] theorem CP:C.P=Tryz.prog:=rfl
theorem drawn:DrawOk C:=Nx C (by kernel_rfl)
@[simp] theorem mode0:C.mode 0=0:=rfl
@[simp] theorem mode1:C.mode 1=0:=rfl
@[simp] theorem mode2:C.mode 2=0:=rfl
@[simp] theorem mode3:C.mode 3=0:=rfl
@[simp] theorem mode4:C.mode 4=0:=rfl
@[simp] theorem mode5:C.mode 5=0:=rfl
@[simp] theorem mode6:C.mode 6=1:=rfl
@[simp] theorem mode7:C.mode 7=1:=rfl
@[simp] theorem mode8:C.mode 8=0:=rfl
@[simp] theorem mode9:C.mode 9=0:=rfl
@[simp] theorem mode10:C.mode 10=1:=rfl
@[simp] theorem mode11:C.mode 11=0:=rfl
@[simp] theorem mode12:C.mode 12=0:=rfl
@[simp] theorem mode13:C.mode 13=1:=rfl
@[simp] theorem mode14:C.mode 14=1:=rfl
@[simp] theorem mode15:C.mode 15=2:=rfl
@[simp] theorem mode16:C.mode 16=2:=rfl
@[simp] theorem mode17:C.mode 17=0:=rfl
@[simp] theorem mode18:C.mode 18=1:=rfl
@[simp] theorem mode19:C.mode 19=1:=rfl
@[simp] theorem mode20:C.mode 20=0:=rfl
@[simp] theorem mode21:C.mode 21=0:=rfl
@[simp] theorem mode22:C.mode 22=0:=rfl
@[simp] theorem mode23:C.mode 23=1:=rfl
@[simp] theorem mode24:C.mode 24=2:=rfl
@[simp] theorem mode25:C.mode 25=0:=rfl
@[simp] theorem mode26:C.mode 26=0:=rfl
@[simp] theorem mode27:C.mode 27=1:=rfl
@[simp] theorem mode28:C.mode 28=1:=rfl
@[simp] theorem mode29:C.mode 29=2:=rfl
@[simp] theorem mode30:C.mode 30=2:=rfl
@[simp] theorem mode31:C.mode 31=0:=rfl
@[simp] theorem mode32:C.mode 32=1:=rfl
@[simp] theorem mode33:C.mode 33=0:=rfl
@[simp] theorem mode34:C.mode 34=2:=rfl
@[simp] theorem mode35:C.mode 35=0:=rfl
@[simp] theorem mode36:C.mode 36=0:=rfl
@[simp] theorem mode37:C.mode 37=1:=rfl
@[simp] theorem mode38:C.mode 38=0:=rfl
@[simp] theorem mode39:C.mode 39=0:=rfl
@[simp] theorem mode40:C.mode 40=0:=rfl
@[simp] theorem mode41:C.mode 41=0:=rfl
@[simp] theorem mode42:C.mode 42=1:=rfl
@[simp] theorem mode43:C.mode 43=0:=rfl
@[simp] theorem mode44:C.mode 44=1:=rfl
@[simp] theorem mode45:C.mode 45=1:=rfl
@[simp] theorem mode46:C.mode 46=0:=rfl
@[simp] theorem mode47:C.mode 47=0:=rfl
@[simp] theorem mode48:C.mode 48=0:=rfl
@[simp] theorem mode49:C.mode 49=2:=rfl
@[simp] theorem mode50:C.mode 50=0:=rfl
@[simp] theorem mode51:C.mode 51=0:=rfl
@[simp] theorem mode52:C.mode 52=0:=rfl
@[simp] theorem mode53:C.mode 53=0:=rfl
@[simp] theorem mode54:C.mode 54=1:=rfl
@[simp] theorem mode55:C.mode 55=0:=rfl
@[simp] theorem mode56:C.mode 56=1:=rfl
@[simp] theorem mode57:C.mode 57=1:=rfl
@[simp] theorem mode58:C.mode 58=2:=rfl
@[simp] theorem mode59:C.mode 59=0:=rfl
@[simp] theorem mode60:C.mode 60=1:=rfl
@[simp] theorem mode61:C.mode 61=1:=rfl
@[simp] theorem mode62:C.mode 62=1:=rfl
@[simp] theorem mode63:C.mode 63=1:=rfl
@[simp] theorem mode64:C.mode 64=0:=rfl
@[simp] theorem mode65:C.mode 65=1:=rfl
@[simp] theorem mode66:C.mode 66=0:=rfl
@[simp] theorem mode67:C.mode 67=1:=rfl
@[simp] theorem mode68:C.mode 68=1:=rfl
@[simp] theorem mode69:C.mode 69=1:=rfl
@[simp] theorem mode70:C.mode 70=0:=rfl
@[simp] theorem mode71:C.mode 71=0:=rfl
@[simp] theorem mode72:C.mode 72=1:=rfl
@[simp] theorem mode73:C.mode 73=0:=rfl
@[simp] theorem mode74:C.mode 74=0:=rfl
@[simp] theorem mode75:C.mode 75=0:=rfl
@[simp] theorem mode76:C.mode 76=0:=rfl
@[simp] theorem mode77:C.mode 77=0:=rfl
@[simp] theorem mode78:C.mode 78=0:=rfl
@[simp] theorem mode79:C.mode 79=0:=rfl
@[simp] theorem mode80:C.mode 80=1:=rfl
@[simp] theorem mode81:C.mode 81=1:=rfl
@[simp] theorem mode82:C.mode 82=2:=rfl
@[simp] theorem mode83:C.mode 83=1:=rfl
@[simp] theorem mode84:C.mode 84=0:=rfl
@[simp] theorem mode85:C.mode 85=0:=rfl
@[simp] theorem mode86:C.mode 86=2:=rfl
@[simp] theorem mode87:C.mode 87=1:=rfl
@[simp] theorem mode88:C.mode 88=1:=rfl
@[simp] theorem mode89:C.mode 89=0:=rfl
@[simp] theorem mode90:C.mode 90=1:=rfl
@[simp] theorem mode91:C.mode 91=1:=rfl
@[simp] theorem mode92:C.mode 92=1:=rfl
@[simp] theorem mode93:C.mode 93=0:=rfl
@[simp] theorem mode94:C.mode 94=2:=rfl
@[simp] theorem mode95:C.mode 95=0:=rfl
@[simp] theorem mode96:C.mode 96=0:=rfl
@[simp] theorem mode97:C.mode 97=0:=rfl
@[simp] theorem mode98:C.mode 98=0:=rfl
@[simp] theorem mode99:C.mode 99=0:=rfl
@[simp] theorem mode100:C.mode 100=0:=rfl
@[simp] theorem mode101:C.mode 101=0:=rfl
@[simp] theorem mode102:C.mode 102=0:=rfl
@[simp] theorem mode103:C.mode 103=1:=rfl
@[simp] theorem mode104:C.mode 104=1:=rfl
@[simp] theorem mode105:C.mode 105=1:=rfl
@[simp] theorem mode106:C.mode 106=0:=rfl
@[simp] theorem mode107:C.mode 107=0:=rfl
@[simp] theorem mode108:C.mode 108=0:=rfl
@[simp] theorem mode109:C.mode 109=2:=rfl
@[simp] theorem mode110:C.mode 110=1:=rfl
@[simp] theorem mode111:C.mode 111=0:=rfl
@[simp] theorem mode112:C.mode 112=0:=rfl
@[simp] theorem mode113:C.mode 113=0:=rfl
@[simp] theorem mode114:C.mode 114=0:=rfl
@[simp] theorem mode115:C.mode 115=0:=rfl
@[simp] theorem mode116:C.mode 116=0:=rfl
@[simp] theorem mode117:C.mode 117=0:=rfl
@[simp] theorem mode118:C.mode 118=0:=rfl
@[simp] theorem mode119:C.mode 119=1:=rfl
@[simp] theorem mode120:C.mode 120=0:=rfl
@[simp] theorem mode121:C.mode 121=0:=rfl
@[simp] theorem mode122:C.mode 122=2:=rfl
@[simp] theorem mode123:C.mode 123=0:=rfl
@[simp] theorem mode124:C.mode 124=0:=rfl
@[simp] theorem mode125:C.mode 125=1:=rfl
@[simp] theorem mode126:C.mode 126=0:=rfl
@[simp] theorem mode127:C.mode 127=1:=rfl
@[simp] theorem mode128:C.mode 128=0:=rfl
@[simp] theorem mode129:C.mode 129=0:=rfl
@[simp] theorem mode130:C.mode 130=0:=rfl
@[simp] theorem mode131:C.mode 131=0:=rfl
@[simp] theorem mode132:C.mode 132=0:=rfl
@[simp] theorem mode133:C.mode 133=0:=rfl
@[simp] theorem mode134:C.mode 134=0:=rfl
@[simp] theorem mode135:C.mode 135=0:=rfl
@[simp] theorem mode136:C.mode 136=2:=rfl
@[simp] theorem mode137:C.mode 137=1:=rfl
@[simp] theorem mode138:C.mode 138=0:=rfl
@[simp] theorem mode139:C.mode 139=0:=rfl
@[simp] theorem mode140:C.mode 140=2:=rfl
@[simp] theorem mode141:C.mode 141=2:=rfl
@[simp] theorem mode142:C.mode 142=2:=rfl
@[simp] theorem mode143:C.mode 143=2:=rfl
@[simp] theorem mode144:C.mode 144=2:=rfl
@[simp] theorem mode145:C.mode 145=2:=rfl
@[simp] theorem mode146:C.mode 146=0:=rfl
@[simp] theorem mode147:C.mode 147=2:=rfl
@[simp] theorem mode148:C.mode 148=2:=rfl
@[simp] theorem mode149:C.mode 149=0:=rfl
@[simp] theorem mode150:C.mode 150=0:=rfl
@[simp] theorem mode151:C.mode 151=1:=rfl
@[simp] theorem mode152:C.mode 152=0:=rfl
@[simp] theorem mode153:C.mode 153=0:=rfl
@[simp] theorem mode154:C.mode 154=0:=rfl
@[simp] theorem mode155:C.mode 155=2:=rfl
@[simp] theorem mode156:C.mode 156=0:=rfl
@[simp] theorem mode157:C.mode 157=0:=rfl
@[simp] theorem mode158:C.mode 158=0:=rfl
@[simp] theorem mode159:C.mode 159=0:=rfl
@[simp] theorem mode160:C.mode 160=0:=rfl
@[simp] theorem mode161:C.mode 161=0:=rfl
@[simp] theorem mode162:C.mode 162=2:=rfl
@[simp] theorem mode163:C.mode 163=0:=rfl
@[simp] theorem mode164:C.mode 164=2:=rfl
@[simp] theorem mode165:C.mode 165=2:=rfl
@[simp] theorem mode166:C.mode 166=2:=rfl
@[simp] theorem mode167:C.mode 167=0:=rfl
@[simp] theorem mode168:C.mode 168=0:=rfl
@[simp] theorem mode169:C.mode 169=0:=rfl
@[simp] theorem mode170:C.mode 170=0:=rfl
@[simp] theorem mode171:C.mode 171=0:=rfl
@[simp] theorem mode172:C.mode 172=0:=rfl
@[simp] theorem mode173:C.mode 173=2:=rfl
@[simp] theorem mode174:C.mode 174=0:=rfl
@[simp] theorem mode175:C.mode 175=1:=rfl
@[simp] theorem mode176:C.mode 176=0:=rfl
@[simp] theorem mode177:C.mode 177=0:=rfl
@[simp] theorem mode178:C.mode 178=0:=rfl
@[simp] theorem mode179:C.mode 179=0:=rfl
@[simp] theorem mode180:C.mode 180=0:=rfl
@[simp] theorem mode181:C.mode 181=0:=rfl
@[simp] theorem mode182:C.mode 182=0:=rfl
@[simp] theorem mode183:C.mode 183=0:=rfl
@[simp] theorem mode184:C.mode 184=0:=rfl
@[simp] theorem mode185:C.mode 185=0:=rfl
@[simp] theorem mode186:C.mode 186=0:=rfl
@[simp] theorem mode187:C.mode 187=0:=rfl
@[simp] theorem mode188:C.mode 188=0:=rfl
@[simp] theorem mode189:C.mode 189=0:=rfl
@[simp] theorem mode190:C.mode 190=0:=rfl
@[simp] theorem mode191:C.mode 191=0:=rfl
@[simp] theorem mode192:C.mode 192=0:=rfl
@[simp] theorem mode193:C.mode 193=0:=rfl
@[simp] theorem tsz3:tsz Tryz.prog 3=some (false,1):=by kernel_rfl
@[simp] theorem tzero3:tzero Tryz.prog 3=some [.int .i64 0]:=by kernel_rfl
@[simp] theorem tsz4:tsz Tryz.prog 4=some (false,1):=by kernel_rfl
@[simp] theorem tsz5:tsz Tryz.prog 5=some (false,1):=by kernel_rfl
@[simp] theorem und9:Tryz.prog.underlying 9=some .string:=by kernel_rfl
@[simp] theorem tsz22:tsz Tryz.prog 22=some (false,1):=by kernel_rfl
@[simp] theorem eltp22:eltp Tryz.prog 22=some (5,1):=by kernel_rfl
@[simp] theorem isSl22:isSl Tryz.prog 22=true:=by kernel_rfl
@[simp] theorem tsz25:tsz Tryz.prog 25=some (true,2):=by kernel_rfl
@[simp] theorem tzero25:tzero Tryz.prog 25=some [.int .i64 0,.int .i64 0]:=by kernel_rfl
@[simp] theorem ky:finfo Tryz.prog 25 0=some (0,false,1):=by kernel_rfl
@[simp] theorem ng:finfo Tryz.prog 25 1=some (1,false,1):=by kernel_rfl
@[simp] theorem flatN25:flatN Tryz.prog 25=some [0,0]:=by kernel_rfl
@[simp] theorem bplaces25:bplaces Tryz.prog 25=some [(0,1),(1,1)]:=by kernel_rfl
@[simp] theorem tsz26:tsz Tryz.prog 26=some (false,1):=by kernel_rfl
@[simp] theorem tzero26:tzero Tryz.prog 26=some [.slice none 0 0]:=by kernel_rfl
@[simp] theorem eltp26:eltp Tryz.prog 26=some (3,1):=by kernel_rfl
@[simp] theorem isSl26:isSl Tryz.prog 26=true:=by kernel_rfl
@[simp] theorem tsz28:tsz Tryz.prog 28=some (true,3):=by kernel_rfl
@[simp] theorem tzero28:tzero Tryz.prog 28=some [.int .i64 0,.int .i64 0,.slice none 0 0]:=by kernel_rfl
@[simp] theorem kd:finfo Tryz.prog 28 0=some (0,true,2):=by kernel_rfl
@[simp] theorem km:finfo Tryz.prog 28 1=some (2,false,1):=by kernel_rfl
@[simp] theorem bplaces28:bplaces Tryz.prog 28=some [(0,2),(2,1)]:=by kernel_rfl
@[simp] theorem tsz30:tsz Tryz.prog 30=some (true,1):=by kernel_rfl
@[simp] theorem tzero30:tzero Tryz.prog 30=some [.slice none 0 0]:=by kernel_rfl
@[simp] theorem mh:finfo Tryz.prog 30 0=some (0,false,1):=by kernel_rfl
@[simp] theorem bplaces30:bplaces Tryz.prog 30=some [(0,1)]:=by kernel_rfl
@[simp] theorem tsz32:tsz Tryz.prog 32=some (true,2):=by kernel_rfl
@[simp] theorem tzero32:tzero Tryz.prog 32=some [.slice none 0 0,.slice none 0 0]:=by kernel_rfl
@[simp] theorem kp:finfo Tryz.prog 32 0=some (0,true,1):=by kernel_rfl
@[simp] theorem gy:finfo Tryz.prog 32 1=some (1,true,1):=by kernel_rfl
@[simp] theorem bplaces32:bplaces Tryz.prog 32=some [(0,1),(1,1)]:=by kernel_rfl
@[simp] theorem tsz33:tsz Tryz.prog 33=some (false,1):=by kernel_rfl
@[simp] theorem eltp33:eltp Tryz.prog 33=some (82,1):=by kernel_rfl
@[simp] theorem isSl33:isSl Tryz.prog 33=true:=by kernel_rfl
@[simp] theorem tsz35:tsz Tryz.prog 35=some (true,11):=by kernel_rfl
@[simp] theorem tzero35:tzero Tryz.prog 35=some [.int .i64 0,.int .i64 0,.slice none 0 0,.slice none 0 0,.slice none 0 0,.slice none 0 0,.slice none 0 0,.slice none 0 0,.slice none 0 0,.slice none 0 0,.int .i64 0]:=by kernel_rfl
@[simp] theorem kw:finfo Tryz.prog 35 0=some (0,true,3):=by kernel_rfl
@[simp] theorem gz:finfo Tryz.prog 35 1=some (3,true,2):=by kernel_rfl
@[simp] theorem gb:finfo Tryz.prog 35 2=some (5,false,1):=by kernel_rfl
@[simp] theorem gk:finfo Tryz.prog 35 3=some (6,false,1):=by kernel_rfl
@[simp] theorem mp:finfo Tryz.prog 35 4=some (7,false,1):=by kernel_rfl
@[simp] theorem ke:finfo Tryz.prog 35 5=some (8,false,1):=by kernel_rfl
@[simp] theorem jt:finfo Tryz.prog 35 6=some (9,false,1):=by kernel_rfl
@[simp] theorem gx:finfo Tryz.prog 35 7=some (10,false,1):=by kernel_rfl
@[simp] theorem bplaces35:bplaces Tryz.prog 35=some [(0,3),(3,2),(5,1),(6,1),(7,1),(8,1),(9,1),(10,1)]:=by kernel_rfl
@[simp] theorem tsz36:tsz Tryz.prog 36=some (false,1):=by kernel_rfl
@[simp] theorem eltp36:eltp Tryz.prog 36=some (63,5):=by kernel_rfl
@[simp] theorem isSl36:isSl Tryz.prog 36=true:=by kernel_rfl
@[simp] theorem tsz38:tsz Tryz.prog 38=some (true,12):=by kernel_rfl
@[simp] theorem tzero38:tzero Tryz.prog 38=some [.int .i64 0,.int .i64 0,.slice none 0 0,.slice none 0 0,.slice none 0 0,.slice none 0 0,.slice none 0 0,.slice none 0 0,.slice none 0 0,.slice none 0 0,.int .i64 0,.slice none 0 0]:=by kernel_rfl
@[simp] theorem jz:finfo Tryz.prog 38 0=some (0,true,11):=by kernel_rfl
@[simp] theorem gh:finfo Tryz.prog 38 1=some (11,false,1):=by kernel_rfl
@[simp] theorem bplaces38:bplaces Tryz.prog 38=some [(0,11),(11,1)]:=by kernel_rfl
@[simp] theorem eltp39:eltp Tryz.prog 39=some (58,5):=by kernel_rfl
@[simp] theorem isSl39:isSl Tryz.prog 39=true:=by kernel_rfl
@[simp] theorem tsz58:tsz Tryz.prog 58=some (true,5):=by kernel_rfl
@[simp] theorem tzero58:tzero Tryz.prog 58=some [.int .i64 0,.int .i64 0,.int .i64 0,.int .i64 0,.int .i64 0]:=by kernel_rfl
@[simp] theorem gf:finfo Tryz.prog 58 0=some (0,false,1):=by kernel_rfl
@[simp] theorem gq:finfo Tryz.prog 58 1=some (1,false,1):=by kernel_rfl
@[simp] theorem gv:finfo Tryz.prog 58 2=some (2,false,1):=by kernel_rfl
@[simp] theorem ju:finfo Tryz.prog 58 3=some (3,false,1):=by kernel_rfl
@[simp] theorem gt:finfo Tryz.prog 58 4=some (4,false,1):=by kernel_rfl
@[simp] theorem flatN58:flatN Tryz.prog 58=some [0,0,0,0,0]:=by kernel_rfl
@[simp] theorem bplaces58:bplaces Tryz.prog 58=some [(0,1),(1,1),(2,1),(3,1),(4,1)]:=by kernel_rfl
@[simp] theorem tsz63:tsz Tryz.prog 63=some (true,5):=by kernel_rfl
@[simp] theorem tzero63:tzero Tryz.prog 63=some [.int .i64 0,.int .i64 0,.int .i64 0,.int .i64 0,.int .i64 0]:=by kernel_rfl
@[simp] theorem gw:finfo Tryz.prog 63 0=some (0,false,1):=by kernel_rfl
@[simp] theorem gm:finfo Tryz.prog 63 1=some (1,false,1):=by kernel_rfl
@[simp] theorem kz:finfo Tryz.prog 63 2=some (2,false,1):=by kernel_rfl
@[simp] theorem mf:finfo Tryz.prog 63 3=some (3,false,1):=by kernel_rfl
@[simp] theorem kv:finfo Tryz.prog 63 4=some (4,false,1):=by kernel_rfl
@[simp] theorem flatN63:flatN Tryz.prog 63=some [0,0,0,0,0]:=by kernel_rfl
@[simp] theorem bplaces63:bplaces Tryz.prog 63=some [(0,1),(1,1),(2,1),(3,1),(4,1)]:=by kernel_rfl
@[simp] theorem tzero71:tzero Tryz.prog 71=some [.slice none 0 0,.int .i64 0,.int .i64 0]:=by kernel_rfl
@[simp] theorem my:finfo Tryz.prog 71 0=some (0,false,1):=by kernel_rfl
@[simp] theorem kt:finfo Tryz.prog 71 1=some (1,false,1):=by kernel_rfl
@[simp] theorem gn:finfo Tryz.prog 71 2=some (2,false,1):=by kernel_rfl
@[simp] theorem bplaces71:bplaces Tryz.prog 71=some [(0,1),(1,1),(2,1)]:=by kernel_rfl
@[simp] theorem tsz82:tsz Tryz.prog 82=some (false,1):=by kernel_rfl
@[simp] theorem tzero82:tzero Tryz.prog 82=some [.slice none 0 0]:=by kernel_rfl
@[simp] theorem eltp82:eltp Tryz.prog 82=some (115,5):=by kernel_rfl
@[simp] theorem isSl82:isSl Tryz.prog 82=true:=by kernel_rfl
@[simp] theorem tsz115:tsz Tryz.prog 115=some (true,5):=by kernel_rfl
@[simp] theorem tzero115:tzero Tryz.prog 115=some [.int .i64 0,.int .i64 0,.int .i64 0,.bool false,.bool false]:=by kernel_rfl
@[simp] theorem jo:finfo Tryz.prog 115 0=some (0,false,1):=by kernel_rfl
@[simp] theorem yk:finfo Tryz.prog 115 1=some (1,false,1):=by kernel_rfl
@[simp] theorem zv:finfo Tryz.prog 115 2=some (2,false,1):=by kernel_rfl
@[simp] theorem yv:finfo Tryz.prog 115 3=some (3,false,1):=by kernel_rfl
@[simp] theorem jd:finfo Tryz.prog 115 4=some (4,false,1):=by kernel_rfl
@[simp] theorem flatN115:flatN Tryz.prog 115=some [0,0,0,1,1]:=by kernel_rfl
@[simp] theorem bplaces115:bplaces Tryz.prog 115=some [(0,1),(1,1),(2,1),(3,1),(4,1)]:=by kernel_rfl
@[simp] theorem eltp142:eltp Tryz.prog 142=some (146,3):=by kernel_rfl
@[simp] theorem isSl142:isSl Tryz.prog 142=true:=by kernel_rfl
@[simp] theorem tsz146:tsz Tryz.prog 146=some (true,3):=by kernel_rfl
@[simp] theorem tzero146:tzero Tryz.prog 146=some [.int .i64 0,.int .i64 0,.int .i64 0]:=by kernel_rfl
@[simp] theorem zj:finfo Tryz.prog 146 0=some (0,false,1):=by kernel_rfl
@[simp] theorem jg:finfo Tryz.prog 146 1=some (1,false,1):=by kernel_rfl
@[simp] theorem jk:finfo Tryz.prog 146 2=some (2,false,1):=by kernel_rfl
@[simp] theorem bplaces146:bplaces Tryz.prog 146=some [(0,1),(1,1),(2,1)]:=by kernel_rfl
@[simp] theorem tsz163:tsz Tryz.prog 163=some (true,5):=by kernel_rfl
@[simp] theorem tzero163:tzero Tryz.prog 163=some [.bool false,.bool false,.bool false,.bool false,.bool false]:=by kernel_rfl
@[simp] theorem arrp163:arrp Tryz.prog 163=some (5,1):=by kernel_rfl
@[simp] theorem tsz183:tsz Tryz.prog 183=some (false,1):=by kernel_rfl
@[simp] theorem tzero183:tzero Tryz.prog 183=some [.int .u64 0]:=by kernel_rfl
@[simp] theorem eltp188:eltp Tryz.prog 188=some (26,1):=by kernel_rfl
@[simp] theorem isSl188:isSl Tryz.prog 188=true:=by kernel_rfl
end Go.Proofs.YtdhjhjbfplajfaaGreat.V
set_option linter.all false
namespace Go.Proofs.YtdhjhjbfplajfaaGreat.V
open Go Go.VM
def rd (b:List Int) (j:Int):Int:=b.getD j.toNat 0
def inR (lo n hi:Int):Prop:=lo≤n∧n≤hi
instance (lo n hi:Int):Decidable (inR lo n hi):=inferInstanceAs (Decidable (_∧_))
def okG (w h:Int):Prop:=(1≤w∧w≤4)∧1≤h∧h≤4
instance (w h:Int):Decidable (okG w h):=inferInstanceAs (Decidable (_∧_))
def cnt (w h:Int):Int:=if okG w h then w*h else 0
def isN (w h n:Int):Prop:=0≤n∧n<cnt w h
instance (w h n:Int):Decidable (isN w h n):=inferInstanceAs (Decidable (_∧_))
def nodeAt (w h x y:Int):Int:=if okG w h∧(0≤x∧x<w)∧0≤y∧y<h then y*w+x else -1
def next (w h n p:Int):Int:=
 if isN w h n then
  (if p=0 then nodeAt w h (n%w) (n/w-1) else if p=1 then nodeAt w h (n%w+1) (n/w) else if p=2 then nodeAt w h (n%w) (n/w+1)
   else if p=3 then nodeAt w h (n%w-1) (n/w) else if p=4 then n else -1)
 else -1
def leads (w h c:Int):Prop:=(0≤c∧c<4*cnt w h)∧0≤next w h (c/4) (c%4)
instance (w h c:Int):Decidable (leads w h c):=inferInstanceAs (Decidable (_∧_))
def opp (p:Int):Int:=if p=4 then 4 else if 0≤p∧p≤3 then (p+2)%4 else -1
def goodAt (w h:Int) (b:List Int) (j:Nat):Prop:=leads w h (b.getD j 0)∧(0<j→b.getD (j-1) 0<b.getD j 0)
instance (w h:Int) (b:List Int) (j:Nat):Decidable (goodAt w h b j):=inferInstanceAs (Decidable (_∧_))
def meshOk (w h:Int) (b:List Int):Prop:=(∀j,j<b.length→goodAt w h b j)∧okG w h
instance (w h:Int) (b:List Int):Decidable (meshOk w h b):=inferInstanceAs (Decidable (_∧_))
def has (w h:Int) (b:List Int) (c:Int):Prop:=leads w h c∧c∉b
instance (w h:Int) (b:List Int) (c:Int):Decidable (has w h b c):=inferInstanceAs (Decidable (_∧_))
theorem Xe {w h:Int} (h1:okG w h):1≤w*h∧w*h≤16:=by
 obtain ⟨⟨a1,a2⟩,b1,b2⟩:=h1
 have c1:1*1≤w*h:=Int.mul_le_mul a1 b1 (by omega) (by omega)
 have c2:w*h≤4*4:=Int.mul_le_mul a2 b2 (by omega) (by omega)
 omega
theorem Qg (w h:Int):0≤cnt w h∧cnt w h≤16:=by
 unfold cnt;split
 ·rename_i h1;have:=Xe h1;omega
 ·omega
theorem Yh {w h n:Int} (h1:isN w h n):okG w h∧0≤n∧n<w*h∧n<16:=by
 obtain ⟨a,b⟩:=h1
 have:=Qg w h
 unfold cnt at b;split at b
 ·rename_i hg;have:=Xe hg;exact ⟨hg,a,b,by omega⟩
 ·omega
theorem w64 {x:Int} (h1 : -9223372036854775808≤x) (h2:x≤9223372036854775807):IntKind.i64.wrap x=x:=by rw [IntKind.wrap_i64];omega
theorem w6 (x:Int) (h : -9223372036854775808≤x∧x≤9223372036854775807):∀[Inhabited Unit],IntKind.i64.wrap x=x:=by intro _;exact w64 h.1 h.2
end Go.Proofs.YtdhjhjbfplajfaaGreat.V
set_option linter.all false
namespace Go.Proofs.YtdhjhjbfplajfaaGreat.V
open Go Go.VM Go.Proofs
set_option maxRecDepth 10000
variable {frz:Nat} {H:Heap}
theorem Ql (n lo hi:Int):vcall C frz 40 [.int .i64 n,.int .i64 lo,.int .i64 hi] H=some (.bool (decide (inR lo n hi)),H):=by
 rw [Qb (fn:=Tryz.f40) Tryz.func40 rfl (by kernel_rfl) rfl]
 simp
 repeat' (first|refine Q9 _ _ ?_ ?_|refine Qq _ ?_ ?_)<;>intro h<;>simp [h,inR]
theorem Ym (n lo hi:Int):vcall C frz 59 [.int .i64 n,.int .i64 lo,.int .i64 hi] H=some (.bool (decide (inR lo n hi)),H):=by
 rw [Qb (fn:=Tryz.f59) Tryz.func59 rfl (by kernel_rfl) rfl]
 simp
 repeat' (first|refine Q9 _ _ ?_ ?_|refine Qq _ ?_ ?_)<;>intro h<;>simp [h,inR]
theorem Vk (w h:Int):vcall C frz 70 [.agg #[.int .i64 w,.int .i64 h]] H=some (.bool (decide (okG w h)),H):=by
 rw [Qb (fn:=Tryz.f70) Tryz.func70 rfl (by kernel_rfl) rfl]
 simp [Ql]
 refine Q9 _ _ ?_ ?_<;>intro h1<;>simp [h1,Ql]
 ·have:okG w h↔inR 1 h 4:=⟨fun g=>g.2,fun g=>⟨h1,g⟩⟩
  simp [this]
 ·exact fun g=>h1 g.1
theorem Ug (w h:Int):vcall C frz 31 [.agg #[.int .i64 w,.int .i64 h]] H=some (.bool (decide (okG w h)),H):=by
 rw [Qb (fn:=Tryz.f31) Tryz.func31 rfl (by kernel_rfl) rfl]
 simp [Ym]
 refine Q9 _ _ ?_ ?_<;>intro h1<;>simp [h1,Ym]
 ·have:okG w h↔inR 1 h 4:=⟨fun g=>g.2,fun g=>⟨h1,g⟩⟩
  simp [this]
 ·exact fun g=>h1 g.1
theorem Wd (w h:Int):vcall C frz 35 [.agg #[.int .i64 w,.int .i64 h]] H=some (.int .i64 (cnt w h),H):=by
 rw [Qb (fn:=Tryz.f35) Tryz.func35 rfl (by kernel_rfl) rfl]
 simp [Vk]
 refine Qq _ ?_ ?_<;>intro h1<;>simp [h1,cnt]
 have:=Xe h1
 exact w64 (by omega) (by omega)
theorem Wa (w h:Int):vcall C frz 17 [.agg #[.int .i64 w,.int .i64 h]] H=some (.int .i64 (cnt w h),H):=by
 rw [Qb (fn:=Tryz.f17) Tryz.func17 rfl (by kernel_rfl) rfl]
 simp [Ug]
 refine Qq _ ?_ ?_<;>intro h1<;>simp [h1,cnt]
 have:=Xe h1
 exact w64 (by omega) (by omega)
theorem Mm (w h n:Int):inR 0 n (IntKind.i64.wrap (cnt w h-1))↔isN w h n:=by
 have:=Qg w h
 rw [w64 (by omega) (by omega)]
 simp only [inR,isN];omega
theorem Wu (w h n:Int):vcall C frz 41 [.agg #[.int .i64 w,.int .i64 h],.int .i64 n] H=some (.bool (decide (isN w h n)),H):=by
 rw [Qb (fn:=Tryz.f41) Tryz.func41 rfl (by kernel_rfl) rfl]
 simp [Wd,Ql,Mm]
theorem Cs (w h n:Int):vcall C frz 134 [.agg #[.int .i64 w,.int .i64 h],.int .i64 n] H=some (.bool (decide (isN w h n)),H):=by
 rw [Qb (fn:=Tryz.f134) Tryz.func134 rfl (by kernel_rfl) rfl]
 simp [Wa,Ym,Mm]
theorem Bm (w h x y:Int) (h1:okG w h):(inR 0 x (IntKind.i64.wrap (w-1))↔0≤x∧x<w)∧(inR 0 y (IntKind.i64.wrap (h-1))↔0≤y∧y<h):=by
 obtain ⟨⟨a1,a2⟩,b1,b2⟩:=h1
 rw [w64 (by omega) (by omega),w64 (by omega) (by omega)]
 simp only [inR];omega
theorem B8 {w h x y:Int} (h1:okG w h) (h2:0≤x∧x<w) (h3:0≤y∧y<h):IntKind.i64.wrap (IntKind.i64.wrap (y*w)+x)=y*w+x:=by
 have hm:=Xe h1
 obtain ⟨⟨a1,a2⟩,b1,b2⟩:=h1
 have c1:0*0≤y*w:=Int.mul_le_mul h3.1 (by omega) (by omega) (by omega)
 have c2:y*w≤h*w:=Int.mul_le_mul_of_nonneg_right (by omega) (by omega)
 rw [Int.mul_comm h w] at c2
 rw [w64 (x:=y*w) (by omega) (by omega),w64 (by omega) (by omega)]
theorem Z7 (w h x y:Int):vcall C frz 159 [.agg #[.int .i64 w,.int .i64 h],.int .i64 x,.int .i64 y] H=some (.int .i64 (nodeAt w h x y),H):=by
 rw [Qb (fn:=Tryz.f159) Tryz.func159 rfl (by kernel_rfl) rfl]
 simp [Vk]
 refine Q9 _ _ ?_ ?_<;>intro h1<;>simp [h1,Ql,nodeAt]
 obtain ⟨e1,e2⟩:=Bm w h x y h1
 simp only [e1,e2]
 refine Q9 _ _ ?_ ?_<;>intro h2<;>simp [h2,Ql]
 simp only [e2]
 refine Qq _ ?_ ?_<;>intro h3<;>simp [h3]
 exact B8 h1 h2 h3
theorem Ys (w h x y:Int):vcall C frz 135 [.agg #[.int .i64 w,.int .i64 h],.int .i64 x,.int .i64 y] H=some (.int .i64 (nodeAt w h x y),H):=by
 rw [Qb (fn:=Tryz.f135) Tryz.func135 rfl (by kernel_rfl) rfl]
 simp [Ug]
 refine Q9 _ _ ?_ ?_<;>intro h1<;>simp [h1,Ym,nodeAt]
 obtain ⟨e1,e2⟩:=Bm w h x y h1
 simp only [e1,e2]
 refine Q9 _ _ ?_ ?_<;>intro h2<;>simp [h2,Ym]
 simp only [e2]
 refine Qq _ ?_ ?_<;>intro h3<;>simp [h3]
 exact B8 h1 h2 h3
theorem X3 (w h x y:Int) : -1≤nodeAt w h x y∧nodeAt w h x y<16:=by
 unfold nodeAt
 split
 ·rename_i h1
  obtain ⟨h1,h2,h3⟩:=h1
  have hm:=Xe h1
  obtain ⟨⟨a1,a2⟩,b1,b2⟩:=h1
  have c1:0*0≤y*w:=Int.mul_le_mul h3.1 (by omega) (by omega) (by omega)
  have c2:y*w≤(h-1)*w:=Int.mul_le_mul_of_nonneg_right (by omega) (by omega)
  rw [Int.sub_mul,Int.mul_comm h w] at c2
  omega
 ·omega
theorem Fp {n w:Int} (h:0≤n) (h1:1≤w) (h2:n<16):IntKind.i64.wrap (n.tdiv w)=n/w:=by
 rw [Int.tdiv_eq_ediv_of_nonneg h]
 have h3:=Int.ediv_le_self w h
 have h4:=Int.ediv_nonneg h (by omega:0≤w)
 exact w64 (by omega) (by omega)
theorem F7 {n w:Int} (h:0≤n):n.tmod w=n%w:=Int.tmod_eq_emod_of_nonneg h
theorem Nl {n w:Int} (h:0≤n) (h1:1≤w) (h2:n<16):0≤n/w∧n/w<16:=⟨Int.ediv_nonneg h (by omega),by have:=Int.ediv_le_self w h;omega⟩
theorem Ni {n w:Int} (h1:1≤w) (h2:w≤4):0≤n%w∧n%w<4:=⟨Int.emod_nonneg _ (by omega),by have:=Int.emod_lt_of_pos n (by omega:0<w);omega⟩
theorem U8 (w h n p:Int):vcall C frz 131 [.agg #[.int .i64 w,.int .i64 h],.int .i64 n,.int .i64 p] H=some (.int .i64 (next w h n p),H):=by
 rw [Qb (fn:=Tryz.f131) Tryz.func131 rfl (by kernel_rfl) rfl]
 simp [Wu]
 refine Qq _ ?_ ?_<;>intro h1<;>simp [h1,next]
 obtain ⟨⟨⟨a1,a2⟩,b1,b2⟩,g2,g3,g4⟩:=Yh h1
 rw [Qf (h:=by kernel_rfl)]
 simp
 refine Ws (by omega) ?_
 refine Ws (by omega) ?_
 obtain ⟨d1,d2⟩:=Nl g2 a1 g4
 obtain ⟨m1,m2⟩:=Ni (n:=n) a1 a2
 rw [Fp g2 a1 g4,F7 g2]
 refine Qq _ ?_ ?_<;>intro p0<;>simp [p0,Z7]
 ·rw [w64 (by omega) (by omega)]
 refine Qq _ ?_ ?_<;>intro p1<;>simp [p1,Z7]
 ·rw [w64 (by omega) (by omega)]
 refine Qq _ ?_ ?_<;>intro p2<;>simp [p2,Z7]
 ·rw [w64 (by omega) (by omega)]
 refine Qq _ ?_ ?_<;>intro p3<;>simp [p3,Z7]
 ·rw [w64 (by omega) (by omega)]
 refine Qq _ ?_ ?_<;>intro p4<;>simp [p4,Z7]
theorem Sq (w h n p:Int):vcall C frz 118 [.agg #[.int .i64 w,.int .i64 h],.int .i64 n,.int .i64 p] H=some (.int .i64 (next w h n p),H):=by
 rw [Qb (fn:=Tryz.f118) Tryz.func118 rfl (by kernel_rfl) rfl]
 simp [Cs]
 refine Qq _ ?_ ?_<;>intro h1<;>simp [h1,next]
 obtain ⟨⟨⟨a1,a2⟩,b1,b2⟩,g2,g3,g4⟩:=Yh h1
 refine Ws (by omega) ?_
 refine Ws (by omega) ?_
 obtain ⟨d1,d2⟩:=Nl g2 a1 g4
 obtain ⟨m1,m2⟩:=Ni (n:=n) a1 a2
 rw [Fp g2 a1 g4,F7 g2]
 refine Qq _ ?_ ?_<;>intro p0<;>simp [p0,Ys]
 ·rw [w64 (by omega) (by omega)]
 refine Qq _ ?_ ?_<;>intro p1<;>simp [p1,Ys]
 ·rw [w64 (by omega) (by omega)]
 refine Qq _ ?_ ?_<;>intro p2<;>simp [p2,Ys]
 ·rw [w64 (by omega) (by omega)]
 refine Qq _ ?_ ?_<;>intro p3<;>simp [p3,Ys]
 ·rw [w64 (by omega) (by omega)]
 refine Qq _ ?_ ?_<;>intro p4<;>simp [p4,Ys]
theorem Iv (w h n p:Int) : -1≤next w h n p∧next w h n p<16:=by
 unfold next
 split
 ·rename_i h1
  have:=Yh h1
  have a0:=X3 w h (n%w) (n/w-1)
  have a1:=X3 w h (n%w+1) (n/w)
  have a2:=X3 w h (n%w) (n/w+1)
  have a3:=X3 w h (n%w-1) (n/w)
  repeat' split
  all_goals omega
 ·omega
theorem V3 (w h c:Int):inR 0 c (IntKind.i64.wrap (IntKind.i64.wrap (4*cnt w h)-1))↔0≤c∧c<4*cnt w h:=by
 have:=Qg w h
 rw [w64 (x:=4*cnt w h) (by omega) (by omega),w64 (by omega) (by omega)]
 simp only [inR];omega
theorem Vt {w h c:Int} (h1:0≤c∧c<4*cnt w h):IntKind.i64.wrap (c.tdiv 4)=c/4∧c.tmod 4=c%4:=by
 have:=Qg w h
 rw [Int.tdiv_eq_ediv_of_nonneg h1.1,Int.tmod_eq_emod_of_nonneg h1.1]
 exact ⟨w64 (by omega) (by omega),rfl⟩
theorem Mn (w h c:Int):vcall C frz 113 [.agg #[.int .i64 w,.int .i64 h],.int .i64 c] H=some (.bool (decide (leads w h c)),H):=by
 rw [Qb (fn:=Tryz.f113) Tryz.func113 rfl (by kernel_rfl) rfl]
 simp [Wd,Ql]
 refine Q9 _ _ ?_ ?_<;>intro h1<;>simp [h1]
 ·rw [V3] at h1
  obtain ⟨e1,e2⟩:=Vt h1
  simp [e1,e2,U8,leads,h1]
 ·rw [V3] at h1
  exact fun g=>h1 g.1
theorem R2 (w h c:Int):vcall C frz 132 [.agg #[.int .i64 w,.int .i64 h],.int .i64 c] H=some (.bool (decide (leads w h c)),H):=by
 rw [Qb (fn:=Tryz.f132) Tryz.func132 rfl (by kernel_rfl) rfl]
 simp [Wa,Ym]
 refine Q9 _ _ ?_ ?_<;>intro h1<;>simp [h1]
 ·rw [V3] at h1
  obtain ⟨e1,e2⟩:=Vt h1
  simp [e1,e2,Sq,leads,h1]
 ·rw [V3] at h1
  exact fun g=>h1 g.1
theorem Qw (xs:List Int) (i:Nat) (h:i<xs.length):xs.getD i 0=xs[i]:=by simp [List.getD_eq_getElem?_getD,h]
theorem wr0:IntKind.i64.wrap 0=0:=by decide
theorem xl:vcall C frz 170 [.slice none 0 0,.int .i64 0] H=some (.slice none 0 0,H):=by
 rw [Qb (fn:=Tryz.f170) Tryz.func170 rfl (by kernel_rfl) rfl]
 simp [wr0]
theorem jf (n:Int) (h0:0<n) (h1:n≤1073741824) :
 vcall C frz 170 [.slice none 0 0,.int .i64 n] H=some (.slice (some ⟨H.length,0,some 0⟩) 0 0,H++[⟨[],0,3⟩]):=by
 rw [Qb (fn:=Tryz.f170) Tryz.func170 rfl (by kernel_rfl) rfl]
 have e:IntKind.i64.wrap n=n:=w64 (by omega) (by omega)
 simp [wr0,e,h0]
 refine Qq _ ?_ ?_<;>intro h2
 ·omega
 simp [h2,wr0,e,h0]
 exact Ws h1 (Ws (by omega) rfl)
theorem Ba (id:Nat) (x y:Value) (xs ys:List Int) (hr:H[id]? = some ⟨[x,y],0,26⟩) (hx:IsI H x xs) (hy:IsI H y ys) (hl:xs.length+ys.length≤1073741824) :
 vcall C frz 156 [.slice (some ⟨id,0,some 0⟩) 2 0] H=some (if xs++ys=[] then (.slice none 0 0,H) else (.slice (some ⟨H.length,0,some 0⟩) (xs++ys).length 0,H++[⟨(xs++ys).map (.int .i64),0,3⟩])):=by
 rw [Qb (fn:=Tryz.f156) Tryz.func156 rfl (by kernel_rfl) rfl]
 simp [VM.look,hr]
 have lk0:∀o,VM.look H ⟨id,o,some 0⟩=some ⟨[x,y],0,26⟩:=fun o=>by simp [VM.look,hr]
 have lk:∀L o,VM.look (H++L) ⟨id,o,some 0⟩=some ⟨[x,y],0,26⟩:=fun L o=>by
  simp [VM.look,List.getElem?_append_left (List.getElem?_eq_some_iff.1 hr).1,hr]
 have e1:IntKind.i64.wrap (xs.length:Int)=xs.length:=w64 (by omega) (by omega)
 have e2:IntKind.i64.wrap ((xs.length:Int)+ys.length)=xs.length+ys.length:=w64 (by omega) (by omega)
 have n1:¬(xs.length:Int)<0:=by omega
 have n2:¬(xs.length:Int)+ys.length<0:=by omega
 have wr1:IntKind.i64.wrap 1=1:=by decide
 have wr2:IntKind.i64.wrap 2=2:=by decide
 rw [W0]
 simp [VM.look,hr,hx.len,hy.len,wr0,wr1,wr2,e1,n1]
 rw [W3,W0]
 simp [VM.look,hr,hx.len,hy.len,wr0,wr1,wr2,e1,e2,n1,n2]
 rw [W3,W0]
 simp [VM.look,hr,hx.len,hy.len,wr0,wr1,wr2,e1,e2,n1,n2]
 by_cases h0:xs.length+ys.length=0
 ·obtain rfl:xs=[]:=List.length_eq_zero_iff.1 (by omega)
  obtain rfl:ys=[]:=List.length_eq_zero_iff.1 (by omega)
  simp [xl,lk0]
  rw [W0]
  simp [lk0,hx.src,wr0,wr1]
  rw [W3,W0]
  simp [lk0,hy.src,wr0,wr1,wr2]
  rw [W3,W0]
  simp [lk0,wr0,wr1,wr2]
 ·have hno:¬(xs=[]∧ys=[]):=fun ⟨a,b⟩=>h0 (by rw [a,b];rfl)
  simp [jf _ (show (0:Int)<xs.length+ys.length by omega) (by omega),hno,lk]
  rw [W0]
  simp [lk,(hx.app _).src,wr0,wr1]
  by_cases hx0:xs=[]
  ·have hy0:ys≠[]:=fun hh=>hno ⟨hx0,hh⟩
   have hyl:ys.length≤1073741824:=by omega
   simp [hx0]
   rw [W3,W0]
   simp [lk,(hy.app _).src,wr0,wr1,wr2,hy0,hyl]
   rw [W3,W0]
   simp [lk,wr0,wr1,wr2]
  ·have hxl:xs.length≤1073741824:=by omega
   simp [hx0,hxl]
   rw [W3,W0]
   simp [lk,(hy.app _).src,wr0,wr1,wr2]
   by_cases hy0:ys=[]
   ·simp [hy0]
    rw [W3,W0]
    simp [lk,wr0,wr1,wr2]
   ·simp [hy0,hl]
    rw [W3,W0]
    simp [lk,wr0,wr1,wr2]
theorem Zf {w h:Int} {b:List Int} {i:Nat} (h5:i<b.length) (hg:¬goodAt w h b i):¬meshOk w h b:=fun hh=>hg (hh.1 i h5)
theorem Sj {w h:Int} {b:List Int} {i:Nat} (hj:∀j<i,goodAt w h b j) (hg:goodAt w h b i):∀j<i+1,goodAt w h b j:=fun j hh=>by
 by_cases hji:j<i
 ·exact hj j hji
 ·have:j=i:=by omega
  rw [this];exact hg
theorem W4 {w h:Int} {b:List Int} {i:Nat} (h5:i<b.length):goodAt w h b i↔leads w h b[i]∧(0<i→b[i-1]<b[i]):=by
 unfold goodAt
 rw [Qw _ _ h5]
 refine and_congr Iff.rfl ⟨fun g p=>?_,fun g p=>?_⟩
 ·have:=g p;rwa [Qw _ _ (by omega)] at this
 ·rw [Qw _ _ (by omega)];exact g p
theorem Df (w h:Int) (v:Value) (b:List Int) (hI:IsI H v b) (hl:b.length≤1073741824) :
 vcall C frz 116 [.agg #[.int .i64 w,.int .i64 h,v]] H=some (.bool (decide (meshOk w h b)),H):=by
 rw [Qb (fn:=Tryz.f116) Tryz.func116 rfl (by kernel_rfl) rfl]
 simp [hI.one',hI.cells,hI.lenA,Ug]
 refine Qq _ ?_ ?_<;>intro hg<;>simp [hg]
 ·refine Xg (fun n t H'=>∃i:Nat,n=b.length-i∧i≤b.length∧t 1=.pointer (some ⟨H.length,0,some 0⟩)∧t 3=.int .i64 i∧
   H'=H++[⟨[.int .i64 w,.int .i64 h,v],0,28⟩]∧∀j<i,goodAt w h b j) ?_ (n:=b.length) ⟨0,by simp⟩
  rintro n t H' ⟨i,rfl,hi,h1,h3,rfl,hj⟩ ih
  have next:=fun (t':Env) (e1:t' 1=.pointer (some ⟨H.length,0,some 0⟩)) (e2:t' 3=.int .i64 (i+1:Nat)) (e3:i<b.length) (e4:goodAt w h b i)=>
   ih (b.length-(i+1)) t' _ ⟨i+1,rfl,by omega,e1,e2,rfl,Sj hj e4⟩ (by omega)
  simp [h1,h3,hI.lenA]
  refine Qq _ ?_ ?_<;>intro h5
  ·simp [h1,h3,h5]
   rw [Qf (h:=by kernel_rfl)]
   simp [h1,h3,h5,hI.idxA,hI.loadA,Qw,R2]
   refine Q9 _ _ ?_ ?_<;>intro hL<;>simp [h1,h3,h5,hL]
   ·refine Q9 _ _ ?_ ?_<;>intro h0
    ·have e:IntKind.i64.wrap ((i:Int)-1)=((i-1:Nat):Int):=by rw [w64 (by omega) (by omega)];omega
     have e':i-1<b.length:=by omega
     simp [h1,h3,h5,h0,hL,hI.idxA,hI.loadA,Qw,e,e']
     refine Qq _ ?_ ?_<;>intro h6
     ·simp [h1,h3,h5,h0,hL,h6]
      refine Zf h5 ?_
      rw [W4 h5]
      exact fun hh=>absurd (hh.2 h0) (by omega)
     ·simp [h1,h3,h5,h0,hL,h6]
      refine next _ (by simp [h1]) ?_ h5 ((W4 h5).2 ⟨hL,fun _=>by omega⟩)
      simp;rw [w64 (by omega) (by omega)]
    ·simp [h1,h3,h5,h0,hL]
     refine next _ (by simp [h1]) ?_ h5 ((W4 h5).2 ⟨hL,fun hh=>absurd hh h0⟩)
     simp;rw [w64 (by omega) (by omega)]
   ·refine Zf h5 ?_
    rw [W4 h5]
    exact fun hh=>hL hh.1
  ·have:i=b.length:=by omega
   subst this
   simp [h1,h3]
   exact ⟨hj,hg⟩
 ·exact fun hh=>hg hh.2
theorem Ra {b:List Int} {c:Int} {i:Nat} (h:i<b.length) (h1:c∉b.take i) (h2:¬b[i]=c):c∉b.take (i+1):=by
 rw [List.take_succ_eq_append_getElem h]
 simp only [List.mem_append,List.mem_singleton,not_or]
 exact ⟨h1,fun hh=>h2 hh.symm⟩
def place (b:List Int) (c:Int):Int:=if c∈b then b.idxOf c else -1
theorem L7 (b:List Int) (c:Int) : -1≤place b c∧place b c<b.length∧(0≤place b c↔c∈b):=by
 unfold place
 split
 ·rename_i h
  have:=List.idxOf_lt_length_iff.2 h
  refine ⟨by omega,by omega,?_⟩
  simp [h]
 ·rename_i h
  refine ⟨by omega,by omega,?_⟩
  simp [h]
theorem Bz {b:List Int} {c:Int} {i:Nat} (h:i<b.length) (h1:c∉b.take i) (h2:b[i]=c):place b c=i:=by
 have hm:c∈b:=h2▸List.getElem_mem h
 unfold place
 rw [if_pos hm]
 have e:b=b.take i++b.drop i:=(List.take_append_drop i b).symm
 have e2:b.drop i=c::b.drop (i+1):=by rw [List.drop_eq_getElem_cons h,h2]
 rw [e,List.idxOf_append,if_neg h1,e2,List.idxOf_cons_self]
 simp;omega
theorem ja (v:Value) (b:List Int) (c:Int) (hI:IsI H v b) (hl:b.length≤1073741824) :
 vcall C frz 133 [v,.int .i64 c] H=some (.bool (decide (c∈b)),H):=by
 rw [Qb (fn:=Tryz.f133) Tryz.func133 rfl (by kernel_rfl) rfl]
 simp [hI.len]
 refine Xg (fun n t H'=>∃i:Nat,n=b.length-i∧i≤b.length∧t 0=v∧t 1=.int .i64 c∧t 5=.int .i64 i∧H'=H∧c∉b.take i) ?_ (n:=b.length) ⟨0,by simp⟩
 rintro n t H' ⟨i,rfl,hi,h1,h2,h3,rfl,hj⟩ ih
 simp [h1,h2,h3,hI.len]
 refine Qq _ ?_ ?_<;>intro h5
 ·simp [h1,h2,h3,h5,hI.idx,hI.load,Qw]
  refine Qq _ ?_ ?_<;>intro h6<;>simp [h1,h2,h3,h6]
  ·rw [← h6];exact List.getElem_mem h5
  ·refine ih (b.length-(i+1)) _ _ ⟨i+1,rfl,by omega,by simp [h1],by simp [h2],?_,rfl,Ra h5 hj h6⟩ (by omega)
   simp;rw [w64 (by omega) (by omega)]
 ·have:i=b.length:=by omega
  subst this
  simp [h1,h2,h3]
  rwa [List.take_length] at hj
theorem N4 (v:Value) (b:List Int) (c:Int) (hI:IsI H v b) (hl:b.length≤1073741824) :
 vcall C frz 75 [v,.int .i64 c] H=some (.int .i64 (place b c),H):=by
 rw [Qb (fn:=Tryz.f75) Tryz.func75 rfl (by kernel_rfl) rfl]
 simp [hI.len]
 refine Xg (fun n t H'=>∃i:Nat,n=b.length-i∧i≤b.length∧t 0=v∧t 1=.int .i64 c∧t 6=v∧t 7=.int .i64 b.length∧t 8=.int .i64 i∧H'=H∧c∉b.take i) ?_ (n:=b.length) ⟨0,by simp⟩
 rintro n t H' ⟨i,rfl,hi,h0,h1,h2,h3,h4,rfl,hj⟩ ih
 simp [h0,h1,h2,h3,h4,hI.len]
 refine Qq _ ?_ ?_<;>intro h5
 ·simp [h0,h1,h2,h3,h4,h5,hI.idx,hI.load,Qw]
  refine Qq _ ?_ ?_<;>intro h6<;>simp [h0,h1,h2,h3,h4,h6]
  ·rw [Bz (c:=b[i]) h5 (by first|exact hj|(rw [h6];exact hj)|(rw [← h6];exact hj)) rfl]
  ·refine ih (b.length-(i+1)) _ _ ⟨i+1,rfl,by omega,by simp [h0],by simp [h1],by simp [h2],by simp [h3],?_,rfl,Ra h5 hj (by omega)⟩ (by omega)
   simp;rw [w64 (by omega) (by omega)]
 ·have:i=b.length:=by omega
  subst this
  simp [h0,h1,h2,h3]
  rw [List.take_length] at hj
  rw [place,if_neg hj]
theorem Zl (v:Value) (b:List Int) (c:Int) (hI:IsI H v b) (hl:b.length≤1073741824) :
 vcall C frz 48 [v,.int .i64 c] H=some (.bool (decide (c∈b)),H):=by
 rw [Qb (fn:=Tryz.f48) Tryz.func48 rfl (by kernel_rfl) rfl]
 simp [N4 _ _ _ hI hl,L7]
theorem Ci (w h:Int) (v:Value) (b:List Int) (c:Int) (hI:IsI H v b) (hl:b.length≤1073741824) :
 vcall C frz 117 [.agg #[.int .i64 w,.int .i64 h,v],.int .i64 c] H=some (.bool (decide (has w h b c)),H):=by
 rw [Qb (fn:=Tryz.f117) Tryz.func117 rfl (by kernel_rfl) rfl]
 simp [hI.one',hI.cells,R2]
 refine Q9 _ _ ?_ ?_<;>intro h1<;>simp [h1,ja _ _ _ (hI.app _) hl,has,-Bool.decide_and]
theorem Vo (w h:Int) (v:Value) (b:List Int) (c:Int) (hI:IsI H v b) (h0:leads w h c) :
 vcall C frz 115 [.agg #[.int .i64 w,.int .i64 h,v],.int .i64 c] H=some (.int .i64 (next w h (c/4) (c%4)),H):=by
 rw [Qb (fn:=Tryz.f115) Tryz.func115 rfl (by kernel_rfl) rfl]
 obtain ⟨e1,e2⟩:=Vt h0.1
 simp [hI.one',hI.cells,e1,e2,U8]
theorem Yu (w h:Int) (v:Value) (b:List Int) (hI:IsI H v b) (hl:b.length≤1073741824) :
 vcall C frz 93 [.agg #[.int .i64 w,.int .i64 h,v]] H=some (.bool (decide (meshOk w h b)),H):=by
 rw [Qb (fn:=Tryz.f93) Tryz.func93 rfl (by kernel_rfl) rfl]
 simp [hI.one',hI.cells,hI.lenA]
 refine Xg (fun n t H'=>∃i:Nat,n=b.length-i∧i≤b.length∧t 1=.pointer (some ⟨H.length,0,some 0⟩)∧t 6=v∧t 7=.int .i64 b.length∧t 8=.int .i64 i∧
  H'=H++[⟨[.int .i64 w,.int .i64 h,v],0,28⟩]∧∀j<i,goodAt w h b j) ?_ (n:=b.length) ⟨0,by simp⟩
 rintro n t H' ⟨i,rfl,hi,h1,h2,h3,h4,rfl,hj⟩ ih
 have next:=fun (t':Env) (e1:t' 1=.pointer (some ⟨H.length,0,some 0⟩)) (e2:t' 6=v) (e3:t' 7=.int .i64 b.length) (e4:t' 8=.int .i64 (i+1:Nat)) (e5:i<b.length) (e6:goodAt w h b i)=>
  ih (b.length-(i+1)) t' _ ⟨i+1,rfl,by omega,e1,e2,e3,e4,rfl,Sj hj e6⟩ (by omega)
 simp [h1,h2,h3,h4]
 refine Qq _ ?_ ?_<;>intro h5
 ·simp [h1,h2,h3,h4,h5,hI.idxA,hI.loadA,Qw,Mn]
  refine Q9 _ _ ?_ ?_<;>intro hL<;>simp [h1,h2,h3,h4,h5,hL]
  ·refine Q9 _ _ ?_ ?_<;>intro h0
   ·have e:IntKind.i64.wrap ((i:Int)-1)=((i-1:Nat):Int):=by rw [w64 (by omega) (by omega)];omega
    have e':i-1<b.length:=by omega
    simp [h1,h2,h3,h4,h5,h0,hL,hI.idxA,hI.loadA,Qw,e,e']
    refine Qq _ ?_ ?_<;>intro h6
    ·simp [h1,h2,h3,h4,h5,h0,hL,h6]
     refine Zf h5 ?_
     rw [W4 h5]
     exact fun hh=>absurd (hh.2 h0) (by omega)
    ·simp [h1,h2,h3,h4,h5,h0,hL,h6]
     refine next _ (by simp [h1]) (by simp [h2]) (by simp [h3]) ?_ h5 ((W4 h5).2 ⟨hL,fun _=>by omega⟩)
     simp;rw [w64 (by omega) (by omega)]
   ·simp [h1,h2,h3,h4,h5,h0,hL]
    refine next _ (by simp [h1]) (by simp [h2]) (by simp [h3]) ?_ h5 ((W4 h5).2 ⟨hL,fun hh=>absurd hh h0⟩)
    simp;rw [w64 (by omega) (by omega)]
  ·refine Zf h5 ?_
   rw [W4 h5]
   exact fun hh=>hL hh.1
 ·have:i=b.length:=by omega
  subst this
  simp [h1,h2,h3,h4,Vk]
  exact ⟨fun hg=>⟨hj,hg⟩,fun hh=>hh.2⟩
theorem Je (w h:Int) (v:Value) (b:List Int) (r:Int) (hI:IsI H v b) (hl:b.length≤1073741824) :
 vcall C frz 157 [.agg #[.int .i64 w,.int .i64 h,v],.int .i64 r] H=some (.bool (decide (meshOk w h b∧isN w h r)),H):=by
 rw [Qb (fn:=Tryz.f157) Tryz.func157 rfl (by kernel_rfl) rfl]
 simp [hI.one',hI.cells,Yu _ _ _ _ (hI.app _) hl]
 refine Q9 _ _ ?_ ?_<;>intro h1<;>simp [h1,Wu,-Bool.decide_and]
theorem X5 (w h:Int) (v:Value) (b:List Int) (c:Int) (hI:IsI H v b) (hl:b.length≤1073741824) :
 vcall C frz 108 [.agg #[.int .i64 w,.int .i64 h,v],.int .i64 c] H=some (.bool (decide (meshOk w h b∧has w h b c)),H):=by
 rw [Qb (fn:=Tryz.f108) Tryz.func108 rfl (by kernel_rfl) rfl]
 simp [hI.one',hI.cells,Yu _ _ _ _ (hI.app _) hl]
 refine Q9 _ _ ?_ ?_<;>intro h1<;>simp [h1,Mn,-Bool.decide_and]
 refine Q9 _ _ ?_ ?_<;>intro h2<;>simp [h2,has,Zl _ _ _ (hI.app _) hl,-Bool.decide_and]
end Go.Proofs.YtdhjhjbfplajfaaGreat.V
set_option linter.all false
namespace Go.Proofs.YtdhjhjbfplajfaaGreat.V
open Go Go.VM Go.Proofs
set_option maxRecDepth 10000
def portOf (w h:Int) (T:List Int) (a to:Int):Int:=rd T (a*cnt w h+to)
def stepOk (w h:Int) (b T:List Int) (a to:Int):Prop:=inR 0 (portOf w h T a to) 3∧has w h b (4*a+portOf w h T a to)
instance (w h:Int) (b T:List Int) (a to:Int):Decidable (stepOk w h b T a to):=inferInstanceAs (Decidable (_∧_))
def walkN (w h:Int) (b T:List Int) (to:Int):Nat→Int→List Int→List Int
 | 0,a,out=>if portOf w h T a to=4 then (if a=to then out else []) else []
 | f+1,a,out=>if portOf w h T a to=4 then (if a=to then out else []) else
  if stepOk w h b T a to then walkN w h b T to f (next w h a (portOf w h T a to)) (out++[4*a+portOf w h T a to]) else []
def walk (w h:Int) (b T:List Int) (a to:Int):List Int:=walkN w h b T to (cnt w h).toNat a []
def tsized (w h:Int) (b T:List Int):Prop:=meshOk w h b∧(T.length:Int)=cnt w h*cnt w h
instance (w h:Int) (b T:List Int):Decidable (tsized w h b T):=inferInstanceAs (Decidable (_∧_))
def tableOk (w h:Int) (b T:List Int):Prop:=tsized w h b T∧∀a,a<(cnt w h).toNat→∀c,c<(cnt w h).toNat→(a=c→portOf w h T a a=4)∧(a≠c→walk w h b T a c≠[])
instance (w h:Int) (b T:List Int):Decidable (tableOk w h b T):=inferInstanceAs (Decidable (_∧_))
theorem Zp {w h x y:Int} (hx:0≤nodeAt w h x y):isN w h (nodeAt w h x y):=by
 refine ⟨hx,?_⟩
 unfold nodeAt at hx ⊢
 split
 ·rename_i h1
  obtain ⟨h1,h2,h3⟩:=h1
  have hm:=Xe h1
  have c2:y*w≤(h-1)*w:=Int.mul_le_mul_of_nonneg_right (by omega) (by have:=h1.1.1;omega)
  rw [Int.sub_mul,Int.mul_comm h w] at c2
  rw [cnt,if_pos h1]
  omega
 ·rename_i h1;rw [if_neg h1] at hx;omega
theorem Ln {w h a p:Int} (hx:0≤next w h a p):isN w h (next w h a p):=by
 unfold next at hx ⊢
 by_cases h1:isN w h a
 ·rw [if_pos h1] at hx ⊢
  by_cases p0:p=0
  ·rw [if_pos p0] at hx ⊢;exact Zp hx
  rw [if_neg p0] at hx ⊢
  by_cases p1:p=1
  ·rw [if_pos p1] at hx ⊢;exact Zp hx
  rw [if_neg p1] at hx ⊢
  by_cases p2:p=2
  ·rw [if_pos p2] at hx ⊢;exact Zp hx
  rw [if_neg p2] at hx ⊢
  by_cases p3:p=3
  ·rw [if_pos p3] at hx ⊢;exact Zp hx
  rw [if_neg p3] at hx ⊢
  by_cases p4:p=4
  ·rw [if_pos p4] at hx ⊢;exact h1
  rw [if_neg p4] at hx;omega
 ·rw [if_neg h1] at hx;omega
theorem Ye {w h a p:Int} {b:List Int} (h0:inR 0 p 3) (h1:has w h b (4*a+p)):(4*a+p)/4=a∧(4*a+p)%4=p∧isN w h (next w h a p):=by
 obtain ⟨h2,h3⟩:=h0
 have e1:(4*a+p)/4=a:=by omega
 have e2:(4*a+p)%4=p:=by omega
 refine ⟨e1,e2,Ln ?_⟩
 have:=h1.1.2
 rwa [e1,e2] at this
theorem Vx {w h a to:Int} (h1:isN w h a) (h2:isN w h to):0≤a*cnt w h+to∧a*cnt w h+to<cnt w h*cnt w h∧a*cnt w h≤256∧0≤a*cnt w h:=by
 have hc:=Qg w h
 obtain ⟨a1,a2⟩:=h1
 obtain ⟨b1,b2⟩:=h2
 have c1:0*0≤a*cnt w h:=Int.mul_le_mul a1 hc.1 (by omega) (by omega)
 have c2:a*cnt w h≤(cnt w h-1)*cnt w h:=Int.mul_le_mul_of_nonneg_right (by omega) hc.1
 rw [Int.sub_mul] at c2
 have c3:cnt w h*cnt w h≤16*16:=Int.mul_le_mul hc.2 hc.2 hc.1 (by omega)
 omega
end Go.Proofs.YtdhjhjbfplajfaaGreat.V
set_option linter.all false
namespace Go.Proofs.YtdhjhjbfplajfaaGreat.V
open Go Go.VM
theorem Yw {s:List Int} {j:Nat} (h:j<s.length):rd s (j:Int)=s[j]:=by simp [rd,List.getD_eq_getElem?_getD,h]
theorem Po {s:List Int} {k:Int} (h0:0≤k) (h1:k<s.length):rd s k∈s:=by
 obtain ⟨i,rfl⟩:=Int.eq_ofNat_of_zero_le h0
 rw [Yw (by omega)];exact List.getElem_mem _
theorem Gr (w h:Int) (b:List Int):meshOk w h b↔okG w h∧(∀c∈b,leads w h c)∧b.Pairwise (· < ·):=by
 have e:∀j,j<b.length→b.getD j 0=rd b (j:Int):=fun j _=>by simp [rd]
 constructor
 ·rintro ⟨h1,h2⟩
  refine ⟨h2,fun c hc=>?_,?_⟩
  ·obtain ⟨j,hj,rfl⟩:=List.getElem_of_mem hc
   have:=(h1 j hj).1
   rwa [Qw _ _ hj] at this
  ·rw [List.pairwise_iff_getElem]
   intro i j hi hj hij
   induction j with
   | zero=>omega
   | succ j ih=>
    have:=(h1 (j+1) hj).2 (by omega)
    rw [Qw _ _ hj,Nat.add_sub_cancel,Qw _ _ (by omega)] at this
    by_cases h3:i=j
    ·subst h3;exact this
    ·exact Int.lt_trans (ih (by omega) (by omega)) this
 ·rintro ⟨h1,h2,h3⟩
  refine ⟨fun j hj=>⟨by rw [Qw _ _ hj];exact h2 _ (List.getElem_mem hj),fun h0=>?_⟩,h1⟩
  rw [Qw _ _ hj,Qw _ _ (by omega)]
  exact List.pairwise_iff_getElem.1 h3 _ _ _ _ (by omega)
def endC (w h c:Int):Int:=next w h (c/4) (c%4)
def backC (w h c:Int):Int:=4*endC w h c+opp (c%4)
def link (w h:Int) (b:List Int) (c:Int):Prop:=has w h b c∧has w h b (backC w h c)
instance (w h:Int) (b:List Int) (c:Int):Decidable (link w h b c):=inferInstanceAs (Decidable (_∧_))
theorem Ia {n:Nat}:∀{b:List Int},b.Pairwise (· < ·)→(∀c∈b,0≤c∧c<(n:Int))→b.length≤n:=by
 intro b hb hc
 have key:∀(b:List Int) (lo:Int),b.Pairwise (· < ·)→(∀c∈b,lo≤c∧c<(n:Int))→0≤lo→(b.length:Int)≤max 0 (n-lo):=by
  intro b
  induction b with
  | nil=>intro lo _ _ _;simp;omega
  | cons a l ih=>
   intro lo hp hm h0
   have h1:=hm a (by simp)
   have h2:=ih (a+1) (List.pairwise_cons.1 hp).2 (fun c hc=>⟨by have:=(List.pairwise_cons.1 hp).1 c hc;omega,(hm c (by simp [hc])).2⟩) (by omega)
   simp;omega
 have:=key b 0 hb (fun c h=>⟨(hc c h).1,(hc c h).2⟩) (by omega)
 omega
def neg (s:List Int):Nat:=s.countP (· < 0)
theorem Tp {s:List Int} {k x v:Int} (h0:0≤k) (h1:k<s.length) (hx:0≤x):rd (s.set k.toNat v) x=if x=k then v else rd s x:=by
 obtain ⟨i,rfl⟩:=Int.eq_ofNat_of_zero_le h0
 obtain ⟨j,rfl⟩:=Int.eq_ofNat_of_zero_le hx
 simp only [Int.toNat_natCast]
 by_cases hj:j<s.length
 ·rw [Yw (by simpa using hj),Yw hj,List.getElem_set]
  by_cases e:i=j
  ·subst e;simp
  ·rw [if_neg e,if_neg (by omega)]
 ·rw [if_neg (by omega)]
  simp [rd,hj]
theorem Ex {s:List Int} {x:Int} (h0:0≤x) (h:rd s x<0):x<s.length:=by
 obtain ⟨j,rfl⟩:=Int.eq_ofNat_of_zero_le h0
 by_cases hj:j<s.length
 ·omega
 ·simp [rd,hj] at h
theorem F5 {s:List Int} {k v:Int} (h0:0≤k) (h1:k<s.length) (h:rd s k<0) (hv:0≤v):neg (s.set k.toNat v)+1=neg s:=by
 obtain ⟨i,rfl⟩:=Int.eq_ofNat_of_zero_le h0
 have hi:i<s.length:=by omega
 rw [Yw hi] at h
 unfold neg
 rw [Int.toNat_natCast,List.countP_set hi]
 have:0<s.countP (· < 0):=List.countP_pos_iff.2 ⟨_,List.getElem_mem hi,by simpa using h⟩
 rw [if_pos (by simpa using h),if_neg (by simp;omega)]
 omega
def vst (w h:Int) (b:List Int) (a d:Int) (x:List Int×List Int) (p:Nat):List Int×List Int:=
 if link w h b (4*a+p)∧rd x.1 (next w h a p)<0 then (x.1.set (next w h a p).toNat d,x.2++[next w h a p]) else x
def vis (w h:Int) (b:List Int) (a d:Int) (x:List Int×List Int):List Int×List Int:=(List.range 4).foldl (vst w h b a d) x
theorem Wm {w h:Int} {b:List Int} {a:Int} {p:Nat} (hp:p<4) (h1:link w h b (4*a+p)):isN w h a∧isN w h (next w h a p)∧endC w h (4*a+p)=next w h a p:=by
 obtain ⟨⟨⟨h2,h3⟩,_⟩,_⟩:=h1
 have e1:(4*a+(p:Int))/4=a:=by omega
 have e2:(4*a+(p:Int))%4=p:=by omega
 unfold endC
 rw [e1,e2] at h3 ⊢
 exact ⟨⟨by omega,by omega⟩,Ln h3,rfl⟩
structure BExt (w h:Int) (d:Int) (x y:List Int×List Int):Prop where
 len:y.1.length=x.1.length
 old:∀v,0≤v→0≤rd x.1 v→rd y.1 v=rd x.1 v
 new:∀v∈y.2,v∈x.2∨(isN w h v∧rd y.1 v=d)
 sum:neg y.1+y.2.length=neg x.1+x.2.length
 pre:∀v∈x.2,v∈y.2
 low:(∀v∈x.1,-1≤v∧v≤d)→∀v∈y.1,-1≤v∧v≤d
theorem BExt.rfl' {w h d:Int} {x:List Int×List Int}:BExt w h d x x:=⟨rfl,fun _ _ _=>rfl,fun _ h=>.inl h,rfl,fun _ h=>h,fun h=>h⟩
theorem BExt.trans {w h d:Int} {x y z:List Int×List Int} (hd:0≤d) (a:BExt w h d x y) (b:BExt w h d y z):BExt w h d x z where
 len:=b.len.trans a.len
 old v h0 h1:=by
  have e:=a.old v h0 h1
  rw [b.old v h0 (by omega),e]
 new v hv:=by
  rcases b.new v hv with h1|h1
  ·rcases a.new v h1 with h2|⟨h2,h3⟩
   ·exact .inl h2
   ·exact .inr ⟨h2,by rw [b.old v h2.1 (by omega),h3]⟩
  ·exact .inr h1
 sum:=b.sum.trans a.sum
 pre v h:=b.pre v (a.pre v h)
 low h:=b.low (a.low h)
theorem Ma {w h:Int} {b:List Int} {a d:Int} {x:List Int×List Int} {p:Nat} (hp:p<4) (hd:0≤d):BExt w h d x (vst w h b a d x p):=by
 unfold vst
 by_cases hc:link w h b (4*a+p)∧rd x.1 (next w h a p)<0
 ·rw [if_pos hc]
  obtain ⟨h1,h2,h3⟩:=Wm hp hc.1
  have h4:=Ex h2.1 hc.2
  have:=F5 h2.1 h4 hc.2 hd
  refine ⟨by simp,fun v h0 h5=>?_,fun v hv=>?_,by simp;omega,fun v hv=>by simp [hv],fun hl v hv=>?_⟩
  ·simp only
   rw [Tp h2.1 h4 h0,if_neg (by intro e;subst e;omega)]
  ·simp only [List.mem_append,List.mem_singleton] at hv
   rcases hv with hv|rfl
   ·exact .inl hv
   ·exact .inr ⟨h2,by simp only;rw [Tp h2.1 h4 h2.1,if_pos rfl]⟩
  ·rcases List.mem_or_eq_of_mem_set hv with h6|rfl
   ·exact hl v h6
   ·omega
 ·rw [if_neg hc];exact BExt.rfl'
theorem Nk {w h:Int} {b:List Int} {a d:Int} (hd:0≤d):∀(l:List Nat) (x:List Int×List Int),(∀p∈l,p<4)→BExt w h d x (l.foldl (vst w h b a d) x)
 | [],x,_=>BExt.rfl'
 | p::l,x,hp=>(Ma (hp p (by simp)) hd).trans hd (Nk hd l _ (fun q hq=>hp q (by simp [hq])))
theorem S2 {w h:Int} {b:List Int} {a d:Int} (hd:0≤d) (x:List Int×List Int):BExt w h d x (vis w h b a d x):=Nk hd _ _ (by simp)
theorem qg {w h:Int} {b:List Int} {a d:Int} (s q q':List Int) (p:Nat):vst w h b a d (s,q++q') p=((vst w h b a d (s,q') p).1,q++(vst w h b a d (s,q') p).2):=by
 unfold vst
 simp only
 split<;>simp
theorem O7 {w h:Int} {b:List Int} {a d:Int} (q:List Int):∀(l:List Nat) (s q':List Int),l.foldl (vst w h b a d) (s,q++q')=((l.foldl (vst w h b a d) (s,q')).1,q++(l.foldl (vst w h b a d) (s,q')).2)
 | [],s,q'=>rfl
 | p::l,s,q'=>by
  rw [List.foldl_cons,List.foldl_cons,qg]
  exact O7 q l _ _
theorem Ec {w h:Int} {b:List Int} {a d:Int} (q s q':List Int):vis w h b a d (s,q++q')=((vis w h b a d (s,q')).1,q++(vis w h b a d (s,q')).2):=O7 q _ _ _
inductive Run (w h:Int) (b:List Int):List Int→List Int→List Int→Int→List Int→Prop
 | done (s:List Int) (d:Int):Run w h b s [] [] d s
 | level {s:List Int} {x:Int} {nx:List Int} {d:Int} {r:List Int}:Run w h b s (x::nx) [] (d+1) r→Run w h b s [] (x::nx) d r
 | node {s:List Int} {a:Int} {rest nx:List Int} {d:Int} {r:List Int}:Run w h b (vis w h b a d (s,nx)).1 rest (vis w h b a d (s,nx)).2 d r→Run w h b s (a::rest) nx d r
structure Inv (w h:Int) (s rest nx:List Int) (d:Int):Prop where
 len:(s.length:Int)=cnt w h
 fr:∀v∈rest,isN w h v∧rd s v=d-1
 nw:∀v∈nx,isN w h v∧rd s v=d
 one:1≤d
 sum:d+neg s+nx.length≤cnt w h
 low:∀v∈s,-1≤v∧v≤d
theorem Inv.level {w h:Int} {s nx:List Int} {x d:Int} (i:Inv w h s [] (x::nx) d):Inv w h s (x::nx) [] (d+1):=
 ⟨i.len,fun v hv=>⟨(i.nw v hv).1,by have:=(i.nw v hv).2;omega⟩,by simp,by have:=i.one;omega,by have:=i.sum;simp at this ⊢;omega,fun v hv=>by have:=i.low v hv;omega⟩
theorem Inv.node {w h:Int} {b s rest nx:List Int} {a d:Int} (i:Inv w h s (a::rest) nx d):Inv w h (vis w h b a d (s,nx)).1 rest (vis w h b a d (s,nx)).2 d:=by
 have h1:=i.one
 have e:=S2 (w:=w) (h:=h) (b:=b) (a:=a) (d:=d) (by omega) (s,nx)
 refine ⟨by rw [e.len];exact i.len,fun v hv=>?_,fun v hv=>?_,h1,?_,e.low i.low⟩
 ·obtain ⟨h2,h3⟩:=i.fr v (by simp [hv])
  exact ⟨h2,by rw [e.old v h2.1 (by simp only;omega)];exact h3⟩
 ·rcases e.new v hv with h2|h2
  ·obtain ⟨h3,h4⟩:=i.nw v h2
   exact ⟨h3,by rw [e.old v h3.1 (by simp only;omega)];exact h4⟩
  ·exact h2
 ·have:=e.sum;have:=i.sum;simp only at *;omega
theorem zu {w h:Int} {b:List Int}:∀(m:Nat) (s rest nx:List Int) (d:Int),3*neg s+2*nx.length+rest.length≤m→Inv w h s rest nx d→∃r,Run w h b s rest nx d r:=by
 intro m
 induction m with
 | zero=>
  intro s rest nx d hm i
  cases rest with
  | nil=>cases nx with
   | nil=>exact ⟨s,.done s d⟩
   | cons x nx=>simp at hm
  | cons a rest=>simp at hm
 | succ m ih=>
  intro s rest nx d hm i
  cases rest with
  | nil=>cases nx with
   | nil=>exact ⟨s,.done s d⟩
   | cons x nx=>
    obtain ⟨r,hr⟩:=ih s (x::nx) [] (d+1) (by simp at hm ⊢;omega) i.level
    exact ⟨r,.level hr⟩
  | cons a rest=>
   have e:=(S2 (w:=w) (h:=h) (b:=b) (a:=a) (d:=d) (by have:=i.one;omega) (s,nx)).sum
   have e2:=(S2 (w:=w) (h:=h) (b:=b) (a:=a) (d:=d) (by have:=i.one;omega) (s,nx))
   have h1:nx.length≤(vis w h b a d (s,nx)).2.length:=by
    have:=Ec (w:=w) (h:=h) (b:=b) (a:=a) (d:=d) nx s []
    rw [List.append_nil] at this;rw [this];simp
   simp only at e
   obtain ⟨r,hr⟩:=ih (vis w h b a d (s,nx)).1 rest (vis w h b a d (s,nx)).2 d (by simp at hm;omega) i.node
   exact ⟨r,.node hr⟩
def start (w h root:Int):List Int:=(List.replicate (cnt w h).toNat (-1)).set root.toNat 0
theorem X9 {w h root:Int} (hr:isN w h root):Inv w h (start w h root) [root] [] 1∧((neg (start w h root):Nat):Int)+1=cnt w h:=by
 have hc:=Qg w h
 have hl:root<((List.replicate (cnt w h).toNat (-1:Int)).length:Int):=by have:=hr.2;simp;omega
 have h0:rd (List.replicate (cnt w h).toNat (-1:Int)) root=-1:=by
  have:=Po hr.1 hl
  exact List.eq_of_mem_replicate this
 have h1:=F5 (v:=0) hr.1 hl (by omega) (by omega)
 have h2:neg (List.replicate (cnt w h).toNat (-1:Int))=(cnt w h).toNat:=by unfold neg;simp [List.countP_replicate]
 rw [h2] at h1
 have h3:((neg (start w h root):Nat):Int)+1=cnt w h:=by unfold start;omega
 refine ⟨⟨by unfold start;simp;omega,fun v hv=>?_,by simp,by omega,by simp;omega,fun v hv=>?_⟩,h3⟩
 ·simp only [List.mem_singleton] at hv
  subst hv
  refine ⟨hr,?_⟩
  unfold start;rw [Tp hr.1 hl hr.1,if_pos rfl];omega
 ·rcases List.mem_or_eq_of_mem_set hv with h6|rfl
  ·have:=List.eq_of_mem_replicate h6;omega
  ·omega
theorem Run.inv {w h:Int} {b s rest nx:List Int} {d:Int} {r:List Int} (R:Run w h b s rest nx d r):Inv w h s rest nx d→∃d',Inv w h r [] [] d':=by
 induction R with
 | done s d=>exact fun i=>⟨d,i⟩
 | level _ ih=>exact fun i=>ih i.level
 | node _ ih=>exact fun i=>ih i.node
def rootOk (w h:Int) (b:List Int) (root:Int):Prop:=meshOk w h b∧isN w h root
instance (w h:Int) (b:List Int) (root:Int):Decidable (rootOk w h b root):=inferInstanceAs (Decidable (_∧_))
theorem O4 {w h:Int} (b:List Int) {root:Int} (hr:isN w h root):∃r,Run w h b (start w h root) [root] [] 1 r:=zu _ _ _ _ _ (Nat.le_refl _) (X9 hr).1
noncomputable def depths (w h:Int) (b:List Int) (root:Int):List Int:=if H:rootOk w h b root then Classical.choose (O4 b H.2) else []
theorem Zr {w h:Int} {b:List Int} {root:Int} (H:rootOk w h b root):Run w h b (start w h root) [root] [] 1 (depths w h b root):=by
 unfold depths;rw [dif_pos H];exact Classical.choose_spec (O4 b H.2)
theorem Yz {w h:Int} {b:List Int} {root:Int} (H:¬rootOk w h b root):depths w h b root=[]:=dif_neg H
theorem Wp {w h:Int} {b:List Int} {root:Int} (H:rootOk w h b root):(((depths w h b root).length:Nat):Int)=cnt w h∧∀v∈depths w h b root,-1≤v∧v≤16:=by
 obtain ⟨d,i⟩:=(Zr H).inv (X9 H.2).1
 have hc:=Qg w h
 refine ⟨i.len,fun v hv=>?_⟩
 have:=i.low v hv;have:=i.sum;omega
theorem Uv (w h:Int) (b:List Int) (root:Int):(depths w h b root).length≤16:=by
 have hc:=Qg w h
 by_cases H:rootOk w h b root
 ·have:=(Wp H).1;omega
 ·rw [Yz H];simp
theorem I9 {w h:Int} {b:List Int} {root:Int} {v:Int} (hv:v∈depths w h b root) : -1≤v∧v≤16:=by
 by_cases H:rootOk w h b root
 ·exact (Wp H).2 v hv
 ·rw [Yz H] at hv;simp at hv
theorem xc {w h:Int} (h1:okG w h):isN w h 0:=by
 have:=Xe h1
 refine ⟨by omega,?_⟩
 unfold cnt;rw [if_pos h1];omega
def conn (w h:Int) (b:List Int):Prop:=meshOk w h b∧-1∉depths w h b 0
noncomputable instance (w h:Int) (b:List Int):Decidable (conn w h b):=inferInstanceAs (Decidable (_∧_))
noncomputable def depthOf (w h:Int) (b:List Int) (root:Int):Int:=(depths w h b root).foldl max (-1)
noncomputable def better (w h:Int) (b:List Int) (best:Int) (root:Nat):Int:=if depthOf w h b (root:Int)<depthOf w h b best then (root:Int) else best
noncomputable def bestRoot (w h:Int) (b:List Int):Int:=if conn w h b then (List.range (cnt w h).toNat).foldl (better w h b) 0 else -1
def toRoot (w h:Int) (b d:List Int) (i:Int) (p:Nat):Prop:=link w h b (4*i+p)∧rd d (next w h i p)=rd d i-1
instance (w h:Int) (b d:List Int) (i:Int) (p:Nat):Decidable (toRoot w h b d i p):=inferInstanceAs (Decidable (_∧_))
def par (w h:Int) (b d:List Int) (i:Int):Int:=
 if rd d i>0 then
  (if toRoot w h b d i 0 then next w h i (0:Nat) else if toRoot w h b d i 1 then next w h i (1:Nat) else if toRoot w h b d i 2 then next w h i (2:Nat) else if toRoot w h b d i 3 then next w h i (3:Nat) else -1)
 else -1
def pars (w h:Int) (b d:List Int):List Int:=(List.range d.length).map fun i:Nat=>par w h b d (i:Int)
noncomputable def parents (w h:Int) (b:List Int) (root:Int):List Int:=pars w h b (depths w h b root)
theorem Xo (w h:Int) (b:List Int) (root:Int):(parents w h b root).length=(depths w h b root).length:=by simp [parents,pars]
def Hi (d:Int) (x:List Int×List Int):Prop:=∀v∈x.1,v<d∨(v=d∧x.2≠[])
theorem jb {w h:Int} {b:List Int} {a d:Int} {x:List Int×List Int} {p:Nat} (hx:Hi d x):Hi d (vst w h b a d x p):=by
 unfold vst
 split
 ·intro v hv
  rcases List.mem_or_eq_of_mem_set hv with h6|rfl
  ·rcases hx v h6 with h7|h7
   ·exact .inl h7
   ·exact .inr ⟨h7.1,by simp⟩
  ·exact .inr ⟨rfl,by simp⟩
 ·exact hx
theorem Mt {w h:Int} {b:List Int} {a d:Int}:∀(l:List Nat) (x:List Int×List Int),Hi d x→Hi d (l.foldl (vst w h b a d) x)
 | [],x,hx=>hx
 | p::l,x,hx=>Mt l _ (jb hx)
theorem Run.hi {w h:Int} {b s rest nx:List Int} {d:Int} {r:List Int} (R:Run w h b s rest nx d r):Inv w h s rest nx d→Hi d (s,nx)→∀v∈r,v<cnt w h:=by
 induction R with
 | done s d=>
  intro i hh v hv
  rcases hh v hv with h1|h1
  ·have:=i.sum;simp at this;omega
  ·exact absurd rfl h1.2
 | level _ ih=>
  exact fun i hh=>ih i.level (fun v hv=>by rcases hh v hv with h1|h1<;>exact .inl (by omega))
 | node _ ih=>exact fun i hh=>ih i.node (Mt _ _ hh)
theorem E2 {w h:Int} {b:List Int} {root:Int} (H:rootOk w h b root):∀v∈depths w h b root,v<cnt w h:=by
 refine (Zr H).hi (X9 H.2).1 (fun v hv=>?_)
 have:=(X9 H.2).1.low v hv
 rcases List.mem_or_eq_of_mem_set hv with h6|rfl
 ·have:=List.eq_of_mem_replicate h6;exact .inl (by omega)
 ·exact .inl (by omega)
theorem Nh (w h:Int) (b d:List Int) (i:Int):par w h b d i=-1∨∃p:Nat,p<4∧par w h b d i=next w h i p∧toRoot w h b d i p∧rd d i>0:=by
 unfold par
 by_cases h0:rd d i>0
 ·rw [if_pos h0]
  by_cases e0:toRoot w h b d i 0
  ·rw [if_pos e0];exact .inr ⟨0,by omega,rfl,e0,h0⟩
  rw [if_neg e0]
  by_cases e1:toRoot w h b d i 1
  ·rw [if_pos e1];exact .inr ⟨1,by omega,rfl,e1,h0⟩
  rw [if_neg e1]
  by_cases e2:toRoot w h b d i 2
  ·rw [if_pos e2];exact .inr ⟨2,by omega,rfl,e2,h0⟩
  rw [if_neg e2]
  by_cases e3:toRoot w h b d i 3
  ·rw [if_pos e3];exact .inr ⟨3,by omega,rfl,e3,h0⟩
  rw [if_neg e3];exact .inl rfl
 ·rw [if_neg h0];exact .inl rfl
def Tree (t:List Int) (m:Int→Int):Prop:=∀i:Int,0≤i→i<t.length→m i<t.length∧(rd t i=-1∨(0≤rd t i∧rd t i<t.length∧0≤m (rd t i)∧m (rd t i)+1=m i))
theorem Vr {w h:Int} {b:List Int} {root:Int} (H:rootOk w h b root):Tree (parents w h b root) (rd (depths w h b root)):=by
 have hl:=Xo w h b root
 obtain ⟨hc,_⟩:=Wp H
 intro i h0 h1
 have h2:i<((depths w h b root).length:Int):=by omega
 refine ⟨by have:=E2 H _ (Po h0 h2);omega,?_⟩
 have e:rd (parents w h b root) i=par w h b (depths w h b root) i:=by
  obtain ⟨j,rfl⟩:=Int.eq_ofNat_of_zero_le h0
  rw [Yw (by omega)];simp [parents,pars]
 rw [e]
 rcases Nh w h b (depths w h b root) i with h3|⟨p,hp,h3,h4,h5⟩
 ·exact .inl h3
 ·obtain ⟨_,hn,_⟩:=Wm hp h4.1
  rw [h3]
  refine .inr ⟨hn.1,by have:=hn.2;omega,?_,?_⟩
  ·have:=h4.2;omega
  ·have:=h4.2;omega
def inP (P:List Int) (a:Int):Prop:=0≤a∧a<P.length
instance (P:List Int) (a:Int):Decidable (inP P a):=inferInstanceAs (Decidable (_∧_))
@[simp] theorem Qb9 (P:List Int):inP P (-1)=False:=by simp [inP]
def ancN (P:List Int):Nat→Int→List Int→List Int
 | 0,a,out=>if inP P a then [] else if a=-1∧out≠[] then out else []
 | f+1,a,out=>if inP P a then ancN P f (rd P a) (out++[a]) else if a=-1∧out≠[] then out else []
def anc (P:List Int) (a:Int):List Int:=ancN P P.length a []
theorem Ai (P:List Int):∀f a out,(ancN P f a out).length≤out.length+f:=by
 intro f
 induction f with
 | zero=>
  intro a out;unfold ancN;repeat' split
  all_goals simp
 | succ f ih=>
  intro a out;unfold ancN;split
  ·have:=ih (rd P a) (out++[a]);simp at this;omega
  ·split<;>simp
theorem S1 (P:List Int) (a:Int):(anc P a).length≤P.length:=by have:=Ai P P.length a [];simpa [anc] using this
theorem A5 (P:List Int):∀f a out,(∀x∈out,inP P x)→∀x∈ancN P f a out,inP P x:=by
 intro f
 induction f with
 | zero=>
  intro a out ho x hx;unfold ancN at hx;repeat' split at hx
  all_goals first|exact ho x hx|(simp at hx)
 | succ f ih=>
  intro a out ho x hx;unfold ancN at hx;split at hx
  ·rename_i h1
   exact ih _ _ (fun y hy=>by rcases List.mem_append.1 hy with hy|hy;exact ho y hy;rw [List.mem_singleton.1 hy];exact h1) x hx
  ·split at hx
   ·exact ho x hx
   ·simp at hx
theorem ym {P:List Int} {a x:Int} (h:x∈anc P a):inP P x:=A5 P P.length a [] (by simp) x h
def common (P:List Int) (a b:Int):Int:=((anc P a).find? (fun x=>decide (x∈anc P b))).getD (-1)
theorem D4 {P:List Int} {a b:Int} (h:∀x∈anc P a,x∉anc P b):common P a b=-1:=by
 unfold common
 rw [List.find?_eq_none.2 (by simpa using h)];rfl
theorem Zc {P:List Int} {a b:Int} (h:0≤common P a b):common P a b∈anc P a∧common P a b∈anc P b:=by
 unfold common at h ⊢
 cases hf:(anc P a).find? (fun x=>decide (x∈anc P b)) with
 | none=>rw [hf] at h;simp at h
 | some u=>
  have h1:=List.mem_of_find?_eq_some hf
  have h2:=List.find?_some hf
  exact ⟨h1,by simpa using h2⟩
def treeNodes (P:List Int) (a b:Int):List Int:=
 if common P a b<0 then [] else (anc P a).take ((anc P a).idxOf (common P a b)+1)++((anc P b).take ((anc P b).idxOf (common P a b))).reverse
theorem A2 {l:List Int} {q:Int→Bool} {j:Nat} (h:j<l.length) (hq:∀x∈l.take j,q x=false) (hx:q l[j]=true):l.find? q=some l[j]:=by
 have e:l=l.take j++(l[j]::l.drop (j+1)):=by rw [← List.drop_eq_getElem_cons h,List.take_append_drop]
 have e2:=congrArg (List.find? q) e
 rw [e2,List.find?_append,List.find?_eq_none.2 (by simpa using hq),List.find?_cons_of_pos hx];rfl
def chain (t:List Int):Nat→Int→List Int
 | 0,_=>[]
 | k+1,v=>if inP t v then v::chain t k (rd t v) else []
def Ends (t:List Int):Nat→Int→Prop
 | 0,v=>v=-1
 | k+1,v=>v=-1∨(inP t v∧Ends t k (rd t v))
theorem Tree.ends {t:List Int} {m:Int→Int} (T:Tree t m):∀(k:Nat) (v:Int),0≤v→v<t.length→m v<k→(0≤m v∨0<k)→Ends t k v:=by
 intro k
 induction k with
 | zero=>intro v h0 h1 h2 h3;omega
 | succ k ih=>
  intro v h0 h1 h2 _
  refine .inr ⟨⟨h0,h1⟩,?_⟩
  rcases (T v h0 h1).2 with h3|⟨h3,h4,h5,h6⟩
  ·rw [h3];cases k<;>simp [Ends]
  ·exact ih _ h3 h4 (by omega) (.inl h5)
theorem J8 {t:List Int}:∀(k:Nat) (v:Int) (out:List Int),Ends t k v→(out≠[]∨(0≤v∧v<t.length))→ancN t k v out=out++chain t k v:=by
 intro k
 induction k with
 | zero=>
  intro v out he ho
  have he:v=-1:=he
  subst he
  have ho:out≠[]:=ho.resolve_right (by omega)
  simp [ancN,chain,ho]
 | succ k ih=>
  intro v out he ho
  rcases he with rfl|⟨h1,h2⟩
  ·have ho:out≠[]:=ho.resolve_right (by omega)
   simp [ancN,chain,ho]
  ·simp only [ancN,chain]
   rw [if_pos h1,if_pos h1,ih _ _ h2 (.inl (by simp))]
   simp
theorem E5 {t:List Int}:∀(k k':Nat) (v:Int),Ends t k v→Ends t k' v→chain t k v=chain t k' v:=by
 intro k
 induction k with
 | zero=>
  intro k' v h1 h2
  have h1:v=-1:=h1
  subst h1
  cases k' with
  | zero=>rfl
  | succ k'=>simp [chain]
 | succ k ih=>
  intro k' v h1 h2
  cases k' with
  | zero=>
   have h2:v=-1:=h2
   subst h2;simp [chain]
  | succ k'=>
   rcases h1 with rfl|⟨h1,h3⟩
   ·simp [chain]
   ·rcases h2 with rfl|⟨_,h4⟩
    ·simp at h1
    ·simp only [chain];rw [if_pos h1,if_pos h1,ih _ _ h3 h4]
theorem Kf {t:List Int} {m:Int→Int} (T:Tree t m) {v:Int} (h0:0≤v) (h1:v<t.length):anc t v=v::(if rd t v=-1 then [] else anc t (rd t v)):=by
 have hE:∀u:Int,0≤u→u<t.length→Ends t t.length u:=fun u a b=>T.ends t.length u a b (T u a b).1 (.inr (by omega))
 have e:∀u:Int,0≤u→u<t.length→anc t u=chain t t.length u:=fun u a b=>by
  have:=J8 t.length u [] (hE u a b) (.inr ⟨a,b⟩);simpa [anc] using this
 rw [e v h0 h1]
 obtain ⟨n,hn⟩:∃n,t.length=n+1:=⟨t.length-1,by omega⟩
 have h2:=hE v h0 h1
 rw [hn] at h2 ⊢
 rcases h2 with h2|⟨_,h3⟩
 ·omega
 simp only [chain]
 rw [if_pos (show inP t v from ⟨h0,h1⟩)]
 rcases (T v h0 h1).2 with h4|⟨h4,h5,_,_⟩
 ·rw [if_pos h4,h4];cases n<;>simp [chain]
 ·rw [if_neg (by omega),e _ h4 h5,E5 n t.length _ h3 (hE _ h4 h5)]
end Go.Proofs.YtdhjhjbfplajfaaGreat.V
set_option linter.all false
namespace Go.Proofs.YtdhjhjbfplajfaaGreat.V
open Go Go.VM Go.Proofs
set_option maxRecDepth 10000
variable {frz:Nat} {H:Heap}
theorem Qbd (v:Value) (P:List Int) (a:Int) (hI:IsI H v P) (hl:P.length≤1073741823) :
 vcall C frz 154 [v,.int .i64 a] H=some (if anc P a=[] then (.slice none 0 0,H) else (.slice (some ⟨H.length,0,some 0⟩) (anc P a).length 0,H++[⟨(anc P a).map (.int .i64),0,3⟩])):=by
 rw [Qb (fn:=Tryz.f154) Tryz.func154 rfl (by kernel_rfl) rfl]
 simp
 refine Xg (fun n t H'=>∃(o:List Int) (g:Nat) (x:Int) (G:Heap),n=P.length-o.length∧t 0=v∧t 5=.slice (some ⟨H.length,0,some g⟩) o.length 0∧t 6=.int .i64 x∧
  H'=H++⟨o.map (.int .i64),g,3⟩::G∧o.length≤P.length∧ancN P (P.length-o.length) x o=anc P a) ?_ (n:=P.length) ⟨[],0,a,[],by simp [anc]⟩
 rintro n t H' ⟨o,g,x,G,rfl,h0,h5,h6,rfl,ho,hw⟩ ih
 have hin:inR 0 x (IntKind.i64.wrap ((P.length:Int)-1))↔inP P x:=by
  rw [w64 (by omega) (by omega)];simp only [inR,inP];omega
 simp [h0,h5,h6,hI.lenA,Ym,Ql,hin]
 have hz:¬inP P x→anc P a=if x=-1∧o≠[] then o else []:=fun hx=>by
  rw [← hw];cases P.length-o.length<;>simp only [ancN,if_neg hx]
 have hm:¬inP P (-1):=fun hh=>by have:=hh.1;omega
 refine Q9 _ _ ?_ ?_<;>intro h1
 ·have hx:¬inP P x:=h1▸hm
  by_cases ho0:o=[]
  ·have:=hz hx
   simp [ho0] at this
   have hm':¬inR 0 (-1) (IntKind.i64.wrap ((P.length:Int)-1)):=fun hh=>by have:=hh.1;omega
   simp [h0,h5,h6,h1,ho0,hI.lenA,Ql,hm',this]
  ·have hol:o.length≠0:=fun hh=>ho0 (List.length_eq_zero_iff.1 hh)
   have:=hz hx
   simp [h1,ho0] at this
   simp [h0,h5,h6,h1,ho0,this]
 ·simp [h0,h5,h6,h1,hI.lenA,Ql,hin]
  refine Q9 _ _ ?_ ?_<;>intro hx
  ·simp [h0,h5,h6,hx,hI.lenA]
   refine Qq _ ?_ ?_<;>intro hf
   ·have hz':anc P a=[]:=by
     rw [← hw,show P.length-o.length=0 by omega,ancN,if_pos hx]
    simp [h0,h5,h6,hz']
   ·have q1:∀L,vindexAddr Tryz.prog (H++L) 26 v (.int .i64 x)=some (elp v x.toNat):=fun L=>hI.idxA (e:=3) (by simp) hx.1 hx.2
    have q2:∀L,vload Tryz.prog (H++L) 3 (elp v x.toNat)=some (.int .i64 (rd P x)):=fun L=>hI.loadA (by simp) (by have:=hx.1;have:=hx.2;omega)
    simp [h0,h5,h6]
    refine Ws (by omega) ?_
    simp [h0,h5,h6,q1,q2]
    refine ih (P.length-(o.length+1)) _ _ ⟨o++[x],g+1,rd P x,_,by simp,by simp [h0],by simp,by simp,by simp;rfl,by simp;omega,?_⟩ (by omega)
    rw [show P.length-o.length=(P.length-(o++[x]).length)+1 by simp;omega,ancN,if_pos hx] at hw
    exact hw
  ·have:=hz hx
   simp [h1] at this
   simp [h0,h5,h6,hx,this]
theorem K8 {xs:List Int} {r:Option (Value×Heap)} (h:r=some (if xs=[] then (.slice none 0 0,H) else (.slice (some ⟨H.length,0,some 0⟩) xs.length 0,H++[⟨xs.map (.int .i64),0,3⟩]))):wp r (Made Fl.int 3 H xs):=by
 subst h
 by_cases hx:xs=[]
 ·simp [hx];exact ⟨[],by simp,.inl ⟨rfl,rfl⟩,by simp⟩
 ·simp [hx]
  exact ⟨_,rfl,Ow.new0 rfl (Q7 xs).symm (by simp) rfl,by simp⟩
theorem Fh (v:Value) (P:List Int) (a:Int) (hI:IsI H v P) (hl:P.length≤1073741823):wp (vcall C frz 154 [v,.int .i64 a] H) (Made Fl.int 3 H (anc P a)):=K8 (Qbd v P a hI hl)
theorem Dj {P:List Int} {a b:Int} {i:Nat} (h:i<(anc P a).length) (h1:∀x∈(anc P a).take i,x∉anc P b) (h2:(anc P a)[i]∈anc P b):common P a b=(anc P a)[i]:=by
 unfold common
 rw [A2 h (by simpa using h1) (by simpa using h2)];rfl
theorem N1 {xs:List Int} {p:Int→Prop} {i:Nat} (h:i<xs.length) (h1:∀x∈xs.take i,p x) (h2:p xs[i]):∀x∈xs.take (i+1),p x:=by
 rw [List.take_succ_eq_append_getElem h]
 intro x hx
 rcases List.mem_append.1 hx with hx|hx
 ·exact h1 x hx
 ·rw [List.mem_singleton.1 hx];exact h2
theorem C2 (v:Value) (P:List Int) (a b:Int) (hI:IsI H v P) (hl:P.length≤1073741823) :
 wp (vcall C frz 153 [v,.int .i64 a,.int .i64 b] H) (fun r _=>r=.int .i64 (common P a b)):=by
 rw [Qb (fn:=Tryz.f153) Tryz.func153 rfl (by kernel_rfl) rfl]
 simp
 refine Qc (Fh v P b hI hl) ?_
 rintro vb _ ⟨L1,rfl,ob,nb⟩
 simp
 refine Qc (Fh v P a (hI.app _) hl) ?_
 rintro va _ ⟨L2,rfl,oa,na⟩
 have ob:=(ob.app (L:=L2)).rd.isI
 have oa:=oa.rd.isI
 have hla:=S1 P a
 have hlb:=S1 P b
 simp only [List.append_assoc] at oa ob
 simp [oa.len]
 refine Qi (fun n t H'=>∃i:Nat,n=(anc P a).length-i∧i≤(anc P a).length∧t 7=vb∧t 15=va∧t 16=.int .i64 (anc P a).length∧t 17=.int .i64 i∧H'=H++(L1++L2)∧∀x∈(anc P a).take i,x∉anc P b) ?_ (n:=(anc P a).length) ⟨0,by simp⟩
 rintro n t H' ⟨i,rfl,hi,h7,h15,h16,h17,rfl,hj⟩ ih
 simp [h7,h15,h16,h17]
 refine Qd ?_ ?_<;>intro h5
 ·simp [h7,h15,h16,h17,h5,oa.idx,oa.load,Qw,Zl _ _ _ ob (by omega)]
  refine Qd ?_ ?_<;>intro h6
  ·simp [h7,h15,h16,h17,h5,h6]
   exact (Dj h5 hj h6).symm
  ·simp [h7,h15,h16,h17,h5,h6]
   refine ih ((anc P a).length-(i+1)) _ _ ⟨i+1,rfl,by omega,by simp [h7],by simp [h15],by simp [h16],?_,rfl,N1 h5 hj h6⟩ (by omega)
   simp;rw [w64 (by omega) (by omega)]
 ·have:i=(anc P a).length:=by omega
  subst this
  simp
  rw [List.take_length] at hj
  rw [D4 hj]
theorem Al (v:Value) (P:List Int) (a b:Int) (hI:IsI H v P) (hl:P.length≤1073741823):vcall C frz 153 [v,.int .i64 a,.int .i64 b] H=some (.int .i64 (common P a b),H):=
 (C2 v P a b hI hl).exact (by simp) rfl
def flip (xs:List Int) (i:Nat):List Int:=(List.range xs.length).map fun j=>if j<i∨xs.length-i≤j then rd xs ((xs.length-1-j:Nat):Int) else rd xs (j:Int)
theorem Xy (xs:List Int) (i:Nat):(flip xs i).length=xs.length:=by simp [flip]
theorem Y8 (xs:List Int) (i j:Nat) (h:j<xs.length):(flip xs i)[j]'(by rw [Xy];exact h)=if j<i∨xs.length-i≤j then xs[xs.length-1-j] else xs[j]:=by
 simp only [flip,List.getElem_map,List.getElem_range]
 split
 ·rw [Yw (by omega)]
 ·rw [Yw h]
theorem Ef (xs:List Int):flip xs 0=xs:=by
 apply List.ext_getElem (Xy _ _)
 intro j h1 h2
 rw [Y8 _ _ _ h2,if_neg (by omega)]
theorem Ah (xs:List Int) (i:Nat) (h:xs.length≤2*i+1):flip xs i=xs.reverse:=by
 apply List.ext_getElem (by rw [Xy,List.length_reverse])
 intro j h1 h2
 rw [Y8 _ _ _ (by simpa using h2),List.getElem_reverse]
 split
 ·rfl
 ·congr 1;rw [List.length_reverse] at h2;omega
theorem Dl (xs:List Int) (i:Nat) (h:2*i+1<xs.length):((flip xs i).set i ((flip xs i)[xs.length-1-i]'(by rw [Xy];omega))).set (xs.length-1-i) ((flip xs i)[i]'(by rw [Xy];omega))=flip xs (i+1):=by
 apply List.ext_getElem (by simp [Xy])
 intro j h1 h2
 rw [Xy] at h2
 rw [List.getElem_set,List.getElem_set,Y8 _ _ _ h2,Y8 _ _ _ (by omega),Y8 _ _ _ (by omega),Y8 _ _ _ h2]
 by_cases e1:xs.length-1-i=j
 ·subst e1
  rw [if_pos rfl,if_neg (by omega),if_pos (by omega)]
  congr 1;omega
 ·by_cases e2:i=j
  ·subst e2
   rw [if_neg e1,if_pos rfl,if_neg (by omega),if_pos (by omega)]
  ·rw [if_neg e1,if_neg e2]
   by_cases e3:j<i∨xs.length-i≤j
   ·rw [if_pos e3,if_pos (by omega)]
   ·rw [if_neg e3,if_neg (by omega)]
theorem De (v:Value) (xs:List Int) (e:TypeId) (h:Ow Fl.int e H v xs) (hl:xs.length≤1073741824) (hf:∀i∈ids v,frz≤i) :
 wp (vcall C frz 155 [v] H) (fun _ H'=>Ow Fl.int e H' v xs.reverse∧Chg H H' (ids v)∧H'.length=H.length):=by
 rw [Qb (fn:=Tryz.f155) Tryz.func155 rfl (by kernel_rfl) rfl]
 simp [h.rd.len]
 refine Qi (fun n t H'=>∃i:Nat,n=xs.length-i∧i≤xs.length∧t 0=v∧t 2=.int .i64 i∧t 3=.int .i64 (xs.length-1-i)∧2*i≤xs.length+1∧Ow Fl.int e H' v (flip xs i)∧Chg H H' (ids v)∧H'.length=H.length) ?_ (n:=xs.length)
  ⟨0,by simp,by omega,by simp,by simp,by simp;exact w64 (by omega) (by omega),by omega,by rw [Ef];exact h,Chg.refl _,rfl⟩
 rintro n t H' ⟨i,rfl,hi,h0,h2,h3,h2i,o,c,l⟩ ih
 simp [h0,h2,h3]
 refine Qd ?_ ?_<;>intro h5
 ·have i1:=o.rd.isI
  have fl:=Xy xs i
  have e1:((xs.length:Int)-1-i).toNat=xs.length-1-i:=by omega
  have e2:((xs.length:Int)-1-i)=((xs.length-1-i:Nat):Int):=by omega
  rw [e2] at h3
  simp [h0,h2,h3,h5]
  rw [Qf (h:=by kernel_rfl)]
  have p1:i<(flip xs i).length:=by omega
  have p2:xs.length-1-i<(flip xs i).length:=by omega
  simp [h0,h2,h3,h5,i1.idx,i1.load,p1,p2,Qw]
  obtain ⟨H1,s1,o1,c1,l1⟩:=o.put1 (P:=Tryz.prog) (frz:=frz) rfl (et:=3) (ag:=false) (by simp) p1 (x:=.int .i64 ((flip xs i)[xs.length-1-i])) rfl rfl rfl hf
  have i2:=o1.rd.isI
  have p3:xs.length-1-i<((flip xs i).set i (flip xs i)[xs.length-1-i]).length:=by simp;omega
  obtain ⟨H2,s2,o2,c2,l2⟩:=o1.put1 (P:=Tryz.prog) (frz:=frz) rfl (et:=3) (ag:=false) (by simp) p3 (x:=.int .i64 ((flip xs i)[i])) rfl rfl rfl hf
  simp [s1,h0,h2,h3,i2.idx,p2,s2]
  refine ih (xs.length-(i+1)) _ _ ⟨i+1,rfl,by omega,by simp [h0],?_,?_,by omega,?_,c.trans (c1.trans c2),by omega⟩ (by omega)
  ·simp;rw [w64 (by omega) (by omega)]
  ·simp;rw [w64 (by omega) (by omega)];omega
  ·rw [Dl xs i (by omega)] at o2;exact o2
 ·simp
  exact ⟨by rw [← Ah xs i (by omega)];exact o,c,l⟩
abbrev dIntS:Dt Value (List Int):=dFlat Fl.int 3 1073741824
def Made2 {V A:Type} (T:Dt V A) (H:Heap) (a:A) (ok:Bool) (r:Value) (H':Heap):Prop:=∃u,r=.tuple #[u,.bool ok]∧T.Made H a u H'
abbrev MeshD:=Int×Int×List Int
def dMesh:Dt Value MeshD where
 val v a:=.agg #[.int .i64 a.1,.int .i64 a.2.1,v]
 Ow H v a:=dIntS.Ow H v a.2.2
 ids:=VM.ids
 frame h k:=dIntS.frame h k
 lt h:=dIntS.lt h
theorem Wz (v:Value) (a:MeshD):dMesh.val v a=.agg #[.int .i64 a.1,.int .i64 a.2.1,v]:=rfl
theorem W7 {v:Value} {a:MeshD} (h:dMesh.Ow H v a):VM.one v=true∧v.cells=#[v]:=⟨h.1.rd.one',h.1.rd.cells⟩
theorem Yt {v:Value} {a:List Int} (h:dIntS.Ow H v a):VM.one v=true∧v.cells=#[v]:=⟨h.1.rd.one',h.1.rd.cells⟩
def dTable:Dt Value (List Int) where
 val v _:=.agg #[v]
 Ow H v a:=dIntS.Ow H v a
 ids:=VM.ids
 frame h k:=dIntS.frame h k
 lt h:=dIntS.lt h
theorem Wn (v:Value) (a:List Int):dTable.val v a=.agg #[v]:=rfl
theorem Wo {v:Value} {a:List Int} (h:dTable.Ow H v a):VM.one v=true∧v.cells=#[v]:=⟨h.1.rd.one',h.1.rd.cells⟩
abbrev ClassesD:=List Int×List Int
def dClasses:Dt (Value×Value) ClassesD where
 val v _:=.agg #[v.1,v.2]
 Ow H v a:=dIntS.Ow H v.1 a.1∧dIntS.Ow H v.2 a.2
 ids v:=VM.ids v.1++VM.ids v.2
 frame h k:=⟨dIntS.frame h.1 fun i hi=>k i (List.mem_append.2 (.inl hi)),dIntS.frame h.2 fun i hi=>k i (List.mem_append.2 (.inr hi))⟩
 lt h i hi:=by
  rcases List.mem_append.1 hi with hi|hi
  ·exact dIntS.lt h.1 i hi
  ·exact dIntS.lt h.2 i hi
theorem Wg (v:Value×Value) (a:ClassesD):dClasses.val v a=.agg #[v.1,v.2]:=rfl
theorem Q5 {v:Value×Value} {a:ClassesD} (h:dClasses.Ow H v a):(VM.one v.1=true∧v.1.cells=#[v.1])∧VM.one v.2=true∧v.2.cells=#[v.2]:=⟨⟨h.1.1.rd.one',h.1.1.rd.cells⟩,h.2.1.rd.one',h.2.1.rd.cells⟩
abbrev FlitD:=Int×Int×Int×Bool×Bool
def flF:Fl FlitD:=⟨5,fun a=>[.int .i64 a.1,.int .i64 a.2.1,.int .i64 a.2.2.1,.bool a.2.2.2.1,.bool a.2.2.2.2],fun _=>rfl⟩
@[simp] theorem Se:flF.n=5:=rfl
theorem Xh (a:FlitD):flF.f a=[.int .i64 a.1,.int .i64 a.2.1,.int .i64 a.2.2.1,.bool a.2.2.2.1,.bool a.2.2.2.2]:=rfl
theorem Vl (xs:List FlitD):ones (cellsOf flF xs)=true:=by
 induction xs with
 | nil=>rfl
 | cons a l ih=>rw [Wj];simp [ih,Xh]
theorem W6 {P:Program} {H:Heap} {s:TypeId} {f:Nat} (a:Addr):vfieldAddr P H s f (.pointer (some a))=match VM.look H a with
 | some _=>(match finfo P s f with|some (o,_,_)=>some (.pointer (some ⟨a.block,a.off+o,a.spot⟩))|none=>none)
 | none=>none:=rfl
abbrev SSD:=List (List FlitD)
abbrev SSV:=Value×List Value
def dSS:Dt SSV SSD where
 val v _:=v.1
 Ow H v a:=OwL flF 115 82 H v.1 v.2 a∧a.length≤2097152∧∀xs∈a,xs.length≤67108864
 ids v:=idsL v.1 v.2
 frame h k:=⟨h.1.frame k,h.2⟩
 lt h:=h.1.lt
theorem B5 {α:Type} (xss:List (List α)) {i:Nat} (h:i<xss.length):((xss.take (i+1)).map List.length).sum=((xss.take i).map List.length).sum+xss[i].length:=by
 rw [List.take_succ_eq_append_getElem h,List.map_append,List.sum_append];simp
theorem It {α:Type} (xss:List (List α)):∀xs∈xss,xs.length≤(xss.map List.length).sum:=by
 induction xss with
 | nil=>simp
 | cons a l ih=>
  intro xs hx;rcases List.mem_cons.1 hx with rfl|hx
  ·simp
  ·have:=ih xs hx;simp;omega
theorem W9 {α:Type} {D:Fl α} {v:Value} {hs:List Value} {xss:List (List α)} (h:RdL D H v hs xss) {ty e:TypeId} (he:eltp Tryz.prog ty=some (e,1)) (ht:tsz Tryz.prog e=some (false,1)) {j:Nat} (hj:j<xss.length) :
 ∃a,hs[j]? = some a∧vindexAddr Tryz.prog H ty v (.int .i64 j)=some (elp v j)∧vload Tryz.prog H e (elp v j)=some a∧Rd D H a xss[j]:=by
 have hj':j<hs.length:=by rw [h.2.1];exact hj
 have q1:=h.1.idx (P:=Tryz.prog) (ty:=ty) (e:=e) (by simpa using he) (i:=(j:Int)) (by omega) (by omega)
 have q2:=h.1.cell1 (P:=Tryz.prog) rfl ht hj'
 refine ⟨hs[j],by simp [hj'],by simpa using q1,by simpa using q2,h.2.2 j _ _ (by simp [hj']) (by simp [hj])⟩
theorem Yq {l m:List Nat} {n:Nat} (h1:l.Nodup) (h2:m.Nodup) (h3:∀i∈l,i<n) (h4:∀i∈m,n≤i):(l++m).Nodup:=
 List.nodup_append.2 ⟨h1,h2,fun a ha b hb e=>by have:=h3 a ha;have:=h4 b hb;omega⟩
def dAnd {V A W B:Type} (T:Dt V A) (U:Dt W B):Dt (V×W) (A×B) where
 val _ _:=undef
 Ow H v a:=T.Ow H v.1 a.1∧U.Ow H v.2 a.2
 ids v:=T.ids v.1++U.ids v.2
 frame h k:=⟨T.frame h.1 fun i hi=>k i (List.mem_append.2 (.inl hi)),U.frame h.2 fun i hi=>k i (List.mem_append.2 (.inr hi))⟩
 lt h i hi:=by
  rcases List.mem_append.1 hi with hi|hi
  ·exact T.lt h.1 i hi
  ·exact U.lt h.2 i hi
def dNone (A:Type):Dt Unit A where
 val _ _:=undef
 Ow _ _ _:=True
 ids _:=[]
 frame _ _:=trivial
 lt _ i hi:=by simp at hi
abbrev NetD:=MeshD×ClassesD×SSD×List Int×List Int×SSD×SSD×Int
noncomputable instance:DecidableEq NetD:=fun _ _=>Classical.propDecidable _
abbrev NetV:=Value×(Value×Value)×SSV×Value×Value×SSV×SSV×Unit
def dNet0:Dt NetV NetD:=dAnd dMesh (dAnd dClasses (dAnd dSS (dAnd dIntS (dAnd dIntS (dAnd dSS (dAnd dSS (dNone Int)))))))
def netVal (v:NetV) (a:NetD):Value:=
 .agg #[.int .i64 a.1.1,.int .i64 a.1.2.1,v.1,v.2.1.1,v.2.1.2,v.2.2.1.1,v.2.2.2.1,v.2.2.2.2.1,v.2.2.2.2.2.1.1,v.2.2.2.2.2.2.1.1,.int .i64 a.2.2.2.2.2.2.2]
def dNet:Dt NetV NetD:={ dNet0 with val:=netVal }
theorem Qk (v:NetV) (a:NetD):dNet.val v a =
 .agg #[.int .i64 a.1.1,.int .i64 a.1.2.1,v.1,v.2.1.1,v.2.1.2,v.2.2.1.1,v.2.2.2.1,v.2.2.2.2.1,v.2.2.2.2.2.1.1,v.2.2.2.2.2.2.1.1,.int .i64 a.2.2.2.2.2.2.2]:=rfl
theorem Ui {v:SSV} {a:SSD} (h:dSS.Ow H v a):VM.one v.1=true∧v.1.cells=#[v.1]:=⟨h.1.1.rd.one',h.1.1.rd.cells⟩
theorem Qn {v:NetV} {a:NetD} (h:dNet.Ow H v a):(VM.one v.1=true∧v.1.cells=#[v.1])∧(VM.one v.2.1.1=true∧v.2.1.1.cells=#[v.2.1.1])∧(VM.one v.2.1.2=true∧v.2.1.2.cells=#[v.2.1.2])∧(VM.one v.2.2.1.1=true∧v.2.2.1.1.cells=#[v.2.2.1.1])∧
 (VM.one v.2.2.2.1=true∧v.2.2.2.1.cells=#[v.2.2.2.1])∧(VM.one v.2.2.2.2.1=true∧v.2.2.2.2.1.cells=#[v.2.2.2.2.1])∧(VM.one v.2.2.2.2.2.1.1=true∧v.2.2.2.2.2.1.1.cells=#[v.2.2.2.2.2.1.1])∧(VM.one v.2.2.2.2.2.2.1.1=true∧v.2.2.2.2.2.2.1.1.cells=#[v.2.2.2.2.2.2.1.1]):=by
 obtain ⟨h1,h2,h3,h4,h5,h6,h7,_⟩:=h
 exact ⟨W7 h1,(Q5 h2).1,(Q5 h2).2,Ui h3,Yt h4,Yt h5,Ui h6,Ui h7⟩
theorem qd (w h:Int) (v u:Value) (b T:List Int) (a to:Int) (hI:IsI H v b) (hT:IsI H u T) (hl:b.length≤1073741824) (hz:tsized w h b T) (ha:isN w h a) (hto:isN w h to) :
 vcall C frz 102 [.agg #[.int .i64 w,.int .i64 h,v],.agg #[u],.int .i64 a,.int .i64 to] H =
  some (.slice (some ⟨H.length,0,some 0⟩) (walk w h b T a to).length 0,H++[⟨(walk w h b T a to).map (.int .i64),0,3⟩]):=by
 rw [Qb (fn:=Tryz.f102) Tryz.func102 rfl (by kernel_rfl) rfl]
 simp [hI.one',hI.cells,hT.one',hT.cells,Wa]
 have hc:=Qg w h
 refine Xg (fun n t H'=>∃(o:List Int) (g:Nat) (x:Int) (G:Heap),n=(cnt w h).toNat+1-o.length∧t 3=.int .i64 to∧t 4=.pointer (some ⟨H.length,0,some 0⟩)∧t 5=.pointer (some ⟨H.length+1,0,some 0⟩)∧
  t 9=.slice (some ⟨H.length+2,0,some g⟩) o.length 0∧t 10=.int .i64 (cnt w h)∧t 11=.int .i64 x∧
  H'=H++⟨[.int .i64 w,.int .i64 h,v],0,28⟩::⟨[u],0,30⟩::⟨o.map (.int .i64),g,3⟩::G∧
  ((o.length≤(cnt w h).toNat∧isN w h x∧walkN w h b T to ((cnt w h).toNat-o.length) x o=walk w h b T a to)∨(o.length=(cnt w h).toNat+1∧walk w h b T a to=[]))) ?_
  (n:=(cnt w h).toNat+1) ⟨[],0,a,[],by simp [ha,walk]⟩
 rintro n t H' ⟨o,g,x,G,rfl,h3,h4,h5,h9,h10,h11,rfl,ho⟩ ih
 simp [h3,h4,h5,h9,h10,h11]
 refine Qq _ ?_ ?_<;>intro hn
 ·obtain ⟨ho1,hx,hw⟩:o.length≤(cnt w h).toNat∧isN w h x∧walkN w h b T to ((cnt w h).toNat-o.length) x o=walk w h b T a to:=by
   rcases ho with ho|ho
   ·exact ho
   ·omega
  obtain ⟨k0,k1,k2,k3⟩:=Vx hx hto
  have hTl:=hz.2
  have e1:IntKind.i64.wrap (x*cnt w h)=x*cnt w h:=w64 (by omega) (by omega)
  have e2:IntKind.i64.wrap (x*cnt w h+to)=x*cnt w h+to:=w64 (by omega) (by have:=hto.2;omega)
  have q1:∀L,vindexAddr Tryz.prog (H++L) 26 u (.int .i64 (x*cnt w h+to))=some (elp u (x*cnt w h+to).toNat):=fun L=>hT.idxA (e:=3) (by simp) k0 (by omega)
  have q2:∀L,vload Tryz.prog (H++L) 3 (elp u (x*cnt w h+to).toNat)=some (.int .i64 (portOf w h T x to)):=fun L=>hT.loadA (by simp) (by omega)
  simp [h3,h4,h5,h9,h10,h11,e1,e2,q1,q2]
  refine Qq _ ?_ ?_<;>intro hp
  ·have hw':walk w h b T a to=if x=to then o else []:=by
    rw [← hw];cases (cnt w h).toNat-o.length<;>simp [walkN,hp]
   simp [h3,h4,h5,h9,h10,h11,hp]
   refine Qq _ ?_ ?_<;>intro hq
   ·simp [h3,h4,h5,h9,h10,h11,hq] at hw' ⊢
    simp [hw']
   ·simp [h3,h4,h5,h9,h10,h11,hq] at hw' ⊢
    simp [hw']
  ·simp [h3,h4,h5,h9,h10,h11,hp]
   have hw0:¬stepOk w h b T x to→walk w h b T a to=[]:=fun hh=>by
    rw [← hw];cases (cnt w h).toNat-o.length<;>simp [walkN,hp,hh]
   have e3:IntKind.i64.wrap (4*x)=4*x:=w64 (by have:=hx.1;omega) (by have:=hx.2;omega)
   simp [Ym]
   refine Q9 _ _ ?_ ?_<;>intro hr
   ·have e4:IntKind.i64.wrap (4*x+portOf w h T x to)=4*x+portOf w h T x to:=w64 (by have:=hx.1;have:=hr.1;omega) (by have:=hx.2;have:=hr.2;omega)
    simp [h3,h4,h5,h9,h10,h11,hp,hr,e3,e4,Ci _ _ _ _ _ (hI.app _) hl,hI.one',hI.cells]
    refine Qq _ ?_ ?_<;>intro hh
    ·simp [h3,h4,h5,h9,h10,h11,hp,hr,hh,e3,e4,Sq,hI.one',hI.cells]
     obtain ⟨s1,s2,s3⟩:=Ye hr hh
     refine Ws (by omega) ?_
     refine ih ((cnt w h).toNat+1-(o.length+1)) _ _ ⟨o++[4*x+portOf w h T x to],g+1,next w h x (portOf w h T x to),_,by simp,by simp [h3],by simp [h4],by simp [h5],by simp,by simp [h10],by simp,by simp;rfl,?_⟩ (by omega)
     by_cases hlt:o.length<(cnt w h).toNat
     ·refine .inl ⟨by simp;omega,s3,?_⟩
      rw [show (cnt w h).toNat-o.length=((cnt w h).toNat-(o++[4*x+portOf w h T x to]).length)+1 by simp;omega] at hw
      rw [← hw,walkN,if_neg hp,if_pos ⟨hr,hh⟩]
     ·refine .inr ⟨by simp;omega,?_⟩
      rw [show (cnt w h).toNat-o.length=0 by omega] at hw
      rw [← hw,walkN,if_neg hp]
    ·have hw2:=hw0 (fun k=>hh k.2)
     simp [h3,h4,h5,h9,h10,h11,hp,hr,hh,e3,e4,hw2]
   ·have hw2:=hw0 (fun k=>hr k.1)
    simp [h3,h4,h5,h9,h10,h11,hp,hr,hw2]
 ·have hw2:walk w h b T a to=[]:=by
   rcases ho with ho|ho
   ·omega
   ·exact ho.2
  simp [h3,h4,h5,h9,h10,h11,hn,hw2]
theorem Lu (w h:Int) (v u:Value) (b T:List Int) (a to:Int) (hI:IsI H v b) (hT:IsI H u T) (hl:b.length≤1073741824) (hz:tsized w h b T) (ha:isN w h a) (hto:isN w h to) :
 vcall C frz 114 [.agg #[.int .i64 w,.int .i64 h,v],.agg #[u],.int .i64 a,.int .i64 to] H =
  some (.int .i64 (if inR 0 (portOf w h T a to) 4 then portOf w h T a to else -1),H):=by
 rw [Qb (fn:=Tryz.f114) Tryz.func114 rfl (by kernel_rfl) rfl]
 have hc:=Qg w h
 obtain ⟨k0,k1,k2,k3⟩:=Vx ha hto
 have hTl:=hz.2
 have hc2:cnt w h*cnt w h≤16*16:=Int.mul_le_mul hc.2 hc.2 hc.1 (by omega)
 have hc3:0*0≤cnt w h*cnt w h:=Int.mul_le_mul hc.1 hc.1 (by omega) hc.1
 have e0:IntKind.i64.wrap (cnt w h*cnt w h)=cnt w h*cnt w h:=w64 (by omega) (by omega)
 have e1:IntKind.i64.wrap (a*cnt w h)=a*cnt w h:=w64 (by omega) (by omega)
 have e2:IntKind.i64.wrap (a*cnt w h+to)=a*cnt w h+to:=w64 (by omega) (by have:=hto.2;omega)
 have q1:∀L,vindexAddr Tryz.prog (H++L) 26 u (.int .i64 (a*cnt w h+to))=some (elp u (a*cnt w h+to).toNat):=fun L=>hT.idxA (e:=3) (by simp) k0 (by omega)
 have q2:∀L,vload Tryz.prog (H++L) 3 (elp u (a*cnt w h+to).toNat)=some (.int .i64 (portOf w h T a to)):=fun L=>hT.loadA (by simp) (by omega)
 simp [hI.one',hI.cells,hT.one',hT.cells,Wd,Yu _ _ _ _ (hI.app _) hl,hz.1,Ql,Mm,ha,hto,e0,e1,e2,q1,q2,hT.lenA,hTl]
 try refine Qq _ ?_ ?_<;>intro hr<;>simp [hr,q1,q2,e1,e2]
def ret (H:Heap) (xs:List Int):Value×Heap:=if xs=[] then (.slice none 0 0,H) else (.slice (some ⟨H.length,0,some 0⟩) xs.length 0,H++[⟨xs.map (.int .i64),0,3⟩])
theorem za (w h:Int) (v u:Value) (b T:List Int) (a to:Int) (hI:IsI H v b) (hT:IsI H u T) (hl:b.length≤1073741824) (hz:tsized w h b T) (ha:isN w h a) (hto:isN w h to) (hne:a≠to) :
 vcall C frz 96 [.agg #[.int .i64 w,.int .i64 h,v],.agg #[u],.int .i64 a,.int .i64 to] H=some (ret H (walk w h b T a to)):=by
 rw [Qb (fn:=Tryz.f96) Tryz.func96 rfl (by kernel_rfl) rfl]
 have hc:=Qg w h
 simp [hI.one',hI.cells,hT.one',hT.cells,Wd,Yu _ _ _ _ (hI.app _) hl,hz.1,Wu,ha,hto,hne]
 refine Xg (fun n t H'=>∃(o:List Int) (g:Nat) (x:Int) (G:Heap),n=(cnt w h).toNat+1-o.length∧t 3=.int .i64 to∧t 4=.pointer (some ⟨H.length,0,some 0⟩)∧t 5=.pointer (some ⟨H.length+1,0,some 0⟩)∧
  t 9=.slice (some ⟨H.length+2,0,some g⟩) o.length 0∧t 10=.int .i64 x∧
  H'=H++⟨[.int .i64 w,.int .i64 h,v],0,28⟩::⟨[u],0,30⟩::⟨o.map (.int .i64),g,3⟩::G∧
  o.length≤(cnt w h).toNat∧isN w h x∧walkN w h b T to ((cnt w h).toNat-o.length) x o=walk w h b T a to∧(o=[]→x≠to)) ?_
  (n:=(cnt w h).toNat+1) ⟨[],0,a,[],by simp [ha,walk,hne]⟩
 rintro n t H' ⟨o,g,x,G,rfl,h3,h4,h5,h9,h10,rfl,ho1,hx,hw,hox⟩ ih
 have hpa:=fun F L=>Lu (frz:=F) (H:=H++L) w h v u b T x to (hI.app _) (hT.app _) hl hz hx hto
 have hw0:portOf w h T x to≠4→¬stepOk w h b T x to→walk w h b T a to=[]:=fun hp hh=>by
  rw [← hw];cases (cnt w h).toNat-o.length<;>simp [walkN,hp,hh]
 simp [h3,h4,h5,h9,h10,hI.one',hI.cells,hT.one',hT.cells,hpa]
 have hnil:walk w h b T a to=[]→(Value.slice none 0 0,H)=ret H (walk w h b T a to):=fun hh=>by rw [hh];rfl
 by_cases hr:inR 0 (portOf w h T x to) 4
 ·have hlt:¬portOf w h T x to<0:=by have:=hr.1;omega
  simp [hr,hlt]
  refine Qq _ ?_ ?_<;>intro hp
  ·have hw':walk w h b T a to=if x=to then o else []:=by
    rw [← hw];cases (cnt w h).toNat-o.length<;>simp [walkN,hp]
   simp [h3,h4,h5,h9,h10,hp]
   refine Qq _ ?_ ?_<;>intro hq
   ·have hon:o≠[]:=fun hh=>hox hh hq
    rw [if_pos hq] at hw'
    simp [h3,h4,h5,h9,h10,hq,hw',ret,hon]
   ·rw [if_neg hq] at hw'
    simp [h3,h4,h5,h9,h10,hq,hw',ret]
  ·have hr3:inR 0 (portOf w h T x to) 3:=⟨hr.1,by have:=hr.2;omega⟩
   have e3:IntKind.i64.wrap (4*x)=4*x:=w64 (by have:=hx.1;omega) (by have:=hx.2;omega)
   have e4:IntKind.i64.wrap (4*x+portOf w h T x to)=4*x+portOf w h T x to:=w64 (by have:=hx.1;have:=hr.1;omega) (by have:=hx.2;have:=hr.2;omega)
   simp [h3,h4,h5,h9,h10,hp,hI.one',hI.cells,e3,e4,X5 _ _ _ _ _ (hI.app _) hl,hz.1]
   refine Q9 _ _ ?_ ?_<;>intro hh
   ·obtain ⟨s1,s2,s3⟩:=Ye hr3 hh
    have he:=fun F L=>Vo (frz:=F) (H:=H++L) w h v b (4*x+portOf w h T x to) (hI.app _) hh.1
    rw [s1,s2] at he
    simp [h3,h4,h5,h9,h10,hp,hh,hI.one',hI.cells,e3,e4,Wd]
    refine Qq _ ?_ ?_<;>intro hf
    ·have hwz:walk w h b T a to=[]:=by
      rw [show (cnt w h).toNat-o.length=0 by omega] at hw
      rw [← hw,walkN,if_neg hp]
     simp [h3,h4,h5,h9,h10,hp,hh,hf,hnil hwz]
    ·simp [h3,h4,h5,h9,h10,hp,hh,hf,hI.one',hI.cells,e3,e4]
     refine Ws (by omega) ?_
     simp [h3,h4,h5,h9,h10,hp,hh,hf,hI.one',hI.cells,e3,e4,he]
     refine ih ((cnt w h).toNat+1-(o.length+1)) _ _ ⟨o++[4*x+portOf w h T x to],g+1,next w h x (portOf w h T x to),_,by simp,by simp [h3],by simp [h4],by simp [h5],by simp,by simp,by simp;rfl,by simp;omega,s3,?_,by simp⟩ (by omega)
     rw [show (cnt w h).toNat-o.length=((cnt w h).toNat-(o++[4*x+portOf w h T x to]).length)+1 by simp;omega] at hw
     rw [← hw,walkN,if_neg hp,if_pos ⟨hr3,hh⟩]
   ·simp [h3,h4,h5,h9,h10,hp,hh]
    exact hnil (hw0 hp (fun hs=>hh hs.2))
 ·simp [hr]
  refine hnil (hw0 (fun hp=>hr ?_) fun hs=>hr ⟨hs.1.1,by have:=hs.1.2;omega⟩)
  rw [hp];exact ⟨by omega,by omega⟩
theorem Lq (w h:Int):IntKind.i64.wrap (cnt w h*cnt w h)=cnt w h*cnt w h:=by
 have hc:=Qg w h
 have hc2:cnt w h*cnt w h≤16*16:=Int.mul_le_mul hc.2 hc.2 hc.1 (by omega)
 have hc3:0*0≤cnt w h*cnt w h:=Int.mul_le_mul hc.1 hc.1 (by omega) hc.1
 exact w64 (by omega) (by omega)
theorem A3 (w h:Int) (v u:Value) (b T:List Int) (hI:IsI H v b) (hT:IsI H u T) (hl:b.length≤1073741824) :
 vcall C frz 101 [.agg #[.int .i64 w,.int .i64 h,v],.agg #[u]] H=some (.bool (decide (tsized w h b T)),H):=by
 rw [Qb (fn:=Tryz.f101) Tryz.func101 rfl (by kernel_rfl) rfl]
 simp [hI.one',hI.cells,hT.one',hT.cells,Wa,Df _ _ _ _ (hI.app _) hl]
 refine Q9 _ _ ?_ ?_<;>intro h1<;>simp [h1,tsized,hT.lenA,Lq,hI.one',hI.cells,hT.one',hT.cells,Wa,-Bool.decide_and]
def good (w h:Int) (b T:List Int) (a c:Nat):Prop:=((a:Int)=c→portOf w h T a a=4)∧((a:Int)≠c→walk w h b T a c≠[])
theorem So (w h:Int) (b T:List Int):tableOk w h b T↔tsized w h b T∧∀a,a<(cnt w h).toNat→∀c,c<(cnt w h).toNat→good w h b T a c:=by
 unfold tableOk good
 refine and_congr Iff.rfl ⟨fun k a ha c hc=>?_,fun k a ha c hc=>?_⟩
 ·exact ⟨fun e=>(k a ha c hc).1 (by omega),fun e=>(k a ha c hc).2 (by omega)⟩
 ·exact ⟨fun e=>(k a ha c hc).1 (by omega),fun e=>(k a ha c hc).2 (by omega)⟩
theorem Wr {w h:Int} {a:Nat} (k:a<(cnt w h).toNat):isN w h a:=⟨by omega,by omega⟩
theorem Ph (w h:Int) (v u:Value) (b T:List Int) (hI:IsI H v b) (hT:IsI H u T) (hl:b.length≤1073741824) :
 vcall C frz 79 [.agg #[.int .i64 w,.int .i64 h,v],.agg #[u]] H=some (.bool (decide (tableOk w h b T)),H):=by
 rw [Qb (fn:=Tryz.f79) Tryz.func79 rfl (by kernel_rfl) rfl]
 simp [hI.one',hI.cells,hT.one',hT.cells,Wa,A3 _ _ _ _ _ _ (hI.app _) (hT.app _) hl]
 refine Qq _ ?_ ?_<;>intro h1
 ·simp [h1,hI.one',hI.cells,hT.one',hT.cells,Wa]
  have hc:=Qg w h
  have no:∀i j:Nat,i<(cnt w h).toNat→j<(cnt w h).toNat→¬good w h b T i j→¬tableOk w h b T:=fun i j hi hj hg hh=>hg (((So w h b T).1 hh).2 i hi j hj)
  refine Xg (fun n t H'=>∃(i:Nat) (G:Heap),n=(cnt w h).toNat-i∧i≤(cnt w h).toNat∧t 2=.pointer (some ⟨H.length,0,some 0⟩)∧t 3=.pointer (some ⟨H.length+1,0,some 0⟩)∧
   t 5=.int .i64 (cnt w h)∧t 6=.int .i64 i∧H'=H++⟨[.int .i64 w,.int .i64 h,v],0,28⟩::⟨[u],0,30⟩::G∧∀a,a<i→∀c,c<(cnt w h).toNat→good w h b T a c) ?_
   (n:=(cnt w h).toNat) ⟨0,[],by simp⟩
  rintro n t H' ⟨i,G,rfl,hi,h2,h3,h5,h6,rfl,hk⟩ ih
  simp [h2,h3,h5,h6]
  refine Qq _ ?_ ?_<;>intro hlt
  ·simp [h2,h3,h5,h6,hlt]
   refine Xg (fun n t H'=>∃(j:Nat) (G:Heap),n=(cnt w h).toNat-j∧j≤(cnt w h).toNat∧t 2=.pointer (some ⟨H.length,0,some 0⟩)∧t 3=.pointer (some ⟨H.length+1,0,some 0⟩)∧
    t 5=.int .i64 (cnt w h)∧t 6=.int .i64 i∧t 7=.int .i64 j∧H'=H++⟨[.int .i64 w,.int .i64 h,v],0,28⟩::⟨[u],0,30⟩::G∧∀c,c<j→good w h b T i c) ?_
    (n:=(cnt w h).toNat) ⟨0,G,by simp [h2,h3,h5,h6]⟩
   clear h2 h3 h5 h6
   rintro n t H' ⟨j,G,rfl,hj,h2,h3,h5,h6,h7,rfl,hkj⟩ ih2
   simp [h2,h3,h5,h6,h7]
   refine Qq _ ?_ ?_<;>intro hlj
   ·have ni:i<(cnt w h).toNat:=by omega
    have nj:j<(cnt w h).toNat:=by omega
    obtain ⟨k0,k1,k2,k3⟩:=Vx (Wr ni) (Wr ni)
    have hTl:=h1.2
    have e1:IntKind.i64.wrap (i*cnt w h)=i*cnt w h:=w64 (by omega) (by omega)
    have e2:IntKind.i64.wrap (i*cnt w h+i)=i*cnt w h+i:=w64 (by omega) (by omega)
    have q1:∀L,vindexAddr Tryz.prog (H++L) 26 u (.int .i64 (i*cnt w h+i))=some (elp u (i*cnt w h+i:Int).toNat):=fun L=>hT.idxA (e:=3) (by simp) k0 (by omega)
    have q2:∀L,vload Tryz.prog (H++L) 3 (elp u (i*cnt w h+i:Int).toNat)=some (.int .i64 (portOf w h T i i)):=fun L=>hT.loadA (by simp) (by omega)
    have sw:=fun F L=>qd (frz:=F) (H:=H++L) w h v u b T i j (hI.app _) (hT.app _) hl h1 (Wr ni) (Wr nj)
    have yes:=fun (t':Env) (G':Heap) (x2:t' 2=.pointer (some ⟨H.length,0,some 0⟩)) (x3:t' 3=.pointer (some ⟨H.length+1,0,some 0⟩)) (x5:t' 5=.int .i64 (cnt w h)) (x6:t' 6=.int .i64 i) (x7:t' 7=.int .i64 (j+1:Nat)) (hg:good w h b T i j)=>
     ih2 ((cnt w h).toNat-(j+1)) t' _ ⟨j+1,G',rfl,by omega,x2,x3,x5,x6,x7,rfl,fun c hc'=>by
      by_cases hcj:c<j
      ·exact hkj c hcj
      ·have:c=j:=by omega
       subst this;exact hg⟩ (by omega)
    simp [h2,h3,h5,h6,h7,hlj]
    refine Q9 _ _ ?_ ?_<;>intro hij
    ·obtain rfl:i=j:=by omega
     simp [h2,h3,h5,h6,h7,hlj,e1,e2,q1,q2]
     refine Q9 _ _ ?_ ?_<;>intro hp
     ·simp [h2,h3,h5,h6,h7,hlj,hp]
      refine yes _ _ (by simp [h2]) (by simp [h3]) (by simp [h5]) (by simp [h6]) ?_ ⟨fun _=>hp,fun hh=>absurd rfl hh⟩
      simp;rw [w64 (by omega) (by omega)]
     ·simp [h2,h3,h5,h6,h7,hlj,hp]
      exact no i i ni ni (fun hg=>hp (hg.1 rfl))
    ·simp [h2,h3,h5,h6,h7,hlj,hij,hI.one',hI.cells,hT.one',hT.cells,sw]
     refine Qq _ ?_ ?_<;>intro hp
     ·simp [h2,h3,h5,h6,h7,hlj,hp]
      exact no i j ni nj (fun hg=>hg.2 hij hp)
     ·simp [h2,h3,h5,h6,h7,hlj,hp]
      refine yes _ _ (by simp [h2]) (by simp [h3]) (by simp [h5]) (by simp [h6]) ?_ ⟨fun hh=>absurd hh hij,fun _=>hp⟩
      simp;rw [w64 (by omega) (by omega)]
   ·have:j=(cnt w h).toNat:=by omega
    subst this
    simp [h2,h3,h5,h6,h7,hlj]
    refine ih ((cnt w h).toNat-(i+1)) _ _ ⟨i+1,G,rfl,by omega,by simp [h2],by simp [h3],by simp [h5],?_,rfl,fun a ha c hc'=>?_⟩ (by omega)
    ·simp;rw [w64 (by omega) (by omega)]
    ·by_cases hai:a<i
     ·exact hk a hai c hc'
     ·have:a=i:=by omega
      subst this;exact hkj c hc'
  ·simp [h2,h3,h5,h6,hlt]
   have:i=(cnt w h).toNat:=by omega
   subst this
   exact (So w h b T).2 ⟨h1,hk⟩
 ·simp [h1]
  exact fun k=>h1 k.1
theorem Uf (v:Value) (xs:List Int) (lo hi:Int) (hI:IsI H v xs) (hl:xs.length≤1073741824) :
 vcall C frz 39 [v,.int .i64 lo,.int .i64 hi] H=some (.bool (decide (∀x∈xs,inR lo x hi)),H):=by
 rw [Qb (fn:=Tryz.f39) Tryz.func39 rfl (by kernel_rfl) rfl]
 simp [hI.len]
 refine Xg (fun n t H'=>∃i:Nat,n=xs.length-i∧i≤xs.length∧t 1=.int .i64 lo∧t 2=.int .i64 hi∧t 9=v∧t 10=.int .i64 xs.length∧t 11=.int .i64 i∧H'=H∧∀x∈xs.take i,inR lo x hi) ?_ (n:=xs.length) ⟨0,by simp⟩
 rintro n t H' ⟨i,rfl,hi',h1,h2,h3,h4,h5,rfl,hj⟩ ih
 simp [h1,h2,h3,h4,h5]
 refine Qq _ ?_ ?_<;>intro h6
 ·simp [h1,h2,h3,h4,h5,h6,hI.idx,hI.load,Qw,Ql]
  refine Qq _ ?_ ?_<;>intro h7<;>simp [h1,h2,h3,h4,h5,h6,h7]
  ·refine ih (xs.length-(i+1)) _ _ ⟨i+1,rfl,by omega,by simp [h1],by simp [h2],by simp [h3],by simp [h4],?_,rfl,fun x hx=>?_⟩ (by omega)
   ·simp;rw [w64 (by omega) (by omega)]
   ·rw [List.take_succ_eq_append_getElem h6] at hx
    rcases List.mem_append.1 hx with hx|hx
    ·exact hj x hx
    ·rw [List.mem_singleton.1 hx];exact h7
  ·exact ⟨_,List.getElem_mem h6,h7⟩
 ·have:i=xs.length:=by omega
  subst this
  simp [h1,h2,h3,h4,h5]
  rwa [List.take_length] at hj
def rowPairs (n a m:Nat):List (Nat×Nat):=((List.range m).filter (fun c=>a≠c)).map fun c=>(a,c)
def allPairs (n m:Nat):List (Nat×Nat):=(List.range m).flatMap fun a=>rowPairs n a n
theorem Kp (n a m:Nat) (h:a=m):rowPairs n a (m+1)=rowPairs n a m:=by
 simp [rowPairs,List.range_succ,h]
theorem M1 (n a m:Nat) (h:a≠m):rowPairs n a (m+1)=rowPairs n a m++[(a,m)]:=by
 simp [rowPairs,List.range_succ,h]
theorem Ob (n m:Nat):allPairs n (m+1)=allPairs n m++rowPairs n m n:=by
 simp [allPairs,List.range_succ]
theorem Mh {n a c:Nat}:(a,c)∈allPairs n n↔a<n∧c<n∧a≠c:=by
 simp [allPairs,rowPairs]
theorem A4 (w h:Int) (f:Value) {Q:Value→Heap→Prop} (Inv:List (Nat×Nat)→Heap→Prop)
 (h0:Inv [] (H++[⟨[.int .i64 w,.int .i64 h],0,25⟩]))
 (hs:∀(done:List (Nat×Nat)) (a c:Nat) (H':Heap),a<(cnt w h).toNat→c<(cnt w h).toNat→a≠c→Inv done H'→wp (vclos (vcall C frz) f [.int .i64 a,.int .i64 c] H') fun r H''=>(r=.bool true∧Inv (done++[(a,c)]) H'')∨(r=.bool false∧Q (.bool false) H''))
 (he:∀H',Inv (allPairs (cnt w h).toNat (cnt w h).toNat) H'→Q (.bool true) H') :
 wp (vcall C frz 94 [.agg #[.int .i64 w,.int .i64 h],f] H) Q:=by
 rw [Qb (fn:=Tryz.f94) Tryz.func94 rfl (by kernel_rfl) rfl]
 have hc:=Qg w h
 simp [Wd]
 refine Qi (fun n t H'=>∃(i:Nat),n=(cnt w h).toNat-i∧i≤(cnt w h).toNat∧t 1=f∧t 5=.int .i64 (cnt w h)∧t 10=.int .i64 (cnt w h)∧t 11=.int .i64 i∧
  Inv (allPairs (cnt w h).toNat i) H') ?_ (n:=(cnt w h).toNat) ⟨0,by simp [allPairs,h0]⟩
 rintro n t H' ⟨i,rfl,hi,h1,h5,h10,h11,hk⟩ ih
 simp [h1,h5,h10,h11]
 refine Qd ?_ ?_<;>intro hlt
 ·simp [h1,h5,h10,h11,hlt]
  refine Qi (fun n t H'=>∃(j:Nat),n=(cnt w h).toNat-j∧j≤(cnt w h).toNat∧t 1=f∧t 5=.int .i64 (cnt w h)∧t 10=.int .i64 (cnt w h)∧t 11=.int .i64 i∧t 6=.int .i64 i∧t 14=.int .i64 (cnt w h)∧t 15=.int .i64 j∧
   Inv (allPairs (cnt w h).toNat i++rowPairs (cnt w h).toNat i j) H') ?_ (n:=(cnt w h).toNat) ⟨0,by simp [h1,h5,h10,h11,rowPairs,hk]⟩
  clear h1 h5 h10 h11 hk
  rintro n t H' ⟨j,rfl,hj,h1,h5,h10,h11,h6,h14,h15,hk⟩ ih2
  simp [h1,h5,h10,h11,h6,h14,h15]
  refine Qd ?_ ?_<;>intro hlj
  ·have ni:i<(cnt w h).toNat:=by omega
   have nj:j<(cnt w h).toNat:=by omega
   have yes:=fun (t':Env) (H':Heap) (x1:t' 1=f) (x5:t' 5=.int .i64 (cnt w h)) (x10:t' 10=.int .i64 (cnt w h)) (x11:t' 11=.int .i64 i) (x6:t' 6=.int .i64 i) (x14:t' 14=.int .i64 (cnt w h)) (x15:t' 15=.int .i64 (j+1:Nat)) (hg:Inv (allPairs (cnt w h).toNat i++rowPairs (cnt w h).toNat i (j+1)) H')=>
    ih2 ((cnt w h).toNat-(j+1)) t' H' ⟨j+1,rfl,by omega,x1,x5,x10,x11,x6,x14,x15,hg⟩ (by omega)
   simp [h1,h5,h10,h11,h6,h14,h15,hlj]
   refine Wq ?_ ?_<;>intro hij
   ·simp [h1,h5,h10,h11,h6,h14,h15,hlj,hij]
    refine yes _ _ (by simp [h1]) (by simp [h5]) (by simp [h10]) (by simp [h11]) (by simp [h6]) (by simp [h14]) ?_ (by rw [Kp _ _ _ (by omega)];exact hk)
    simp;rw [w64 (by omega) (by omega)]
   ·simp [h1,h5,h10,h11,h6,h14,h15,hlj,hij]
    refine Qc (hs _ i j H' ni nj (by omega) hk) ?_
    rintro r H'' (⟨rfl,hq⟩|⟨rfl,hq⟩)
    ·simp [h1,h5,h10,h11,h6,h14,h15,hlj,hij]
     refine yes _ _ (by simp [h1]) (by simp [h5]) (by simp [h10]) (by simp [h11]) (by simp [h6]) (by simp [h14]) ?_ (by rw [M1 _ _ _ (by omega),← List.append_assoc];exact hq)
     simp;rw [w64 (by omega) (by omega)]
    ·simp [h1,h5,h10,h11,h6,h14,h15,hlj,hij]
     exact hq
  ·have:j=(cnt w h).toNat:=by omega
   subst this
   simp [h1,h5,h10,h11,h6,h14,h15,hlj]
   refine ih ((cnt w h).toNat-(i+1)) _ _ ⟨i+1,rfl,by omega,by simp [h1],by simp [h5],by simp [h10],?_,by rw [Ob];exact hk⟩ (by omega)
   ·simp;rw [w64 (by omega) (by omega)]
 ·simp [h1,h5,h10,h11,hlt]
  have:i=(cnt w h).toNat:=by omega
  subst this
  exact he _ hk
theorem Gc (w h:Int) (v u:Value) (b T:List Int) (a c:Int) (r1 r2:Nat) (hI:IsI H v b) (hT:IsI H u T) (hl:b.length≤1073741824) (hz:tsized w h b T) (ha:isN w h a) (hto:isN w h c) (hne:a≠c)
 (g1:H[r1]? = some ⟨[.int .i64 w,.int .i64 h,v],0,28⟩) (g2:H[r2]? = some ⟨[u],0,30⟩) :
 vcall C frz 95 [.int .i64 a,.int .i64 c,.pointer (some ⟨r1,0,some 0⟩),.pointer (some ⟨r2,0,some 0⟩)] H=some (.bool (!decide (walk w h b T a c=[])),H):=by
 rw [Qb (fn:=Tryz.f95) Tryz.func95 rfl (by kernel_rfl) rfl]
 simp [VM.look,g1,g2,hI.one',hI.cells,hT.one',hT.cells,za _ _ _ _ _ _ _ _ hI hT hl hz ha hto hne]
 by_cases hw:walk w h b T a c=[]
 ·simp [ret,hw]
 ·have:0<(walk w h b T a c).length:=List.length_pos_iff.2 hw
  simp [ret,hw,this]
theorem Ds (w h:Int) (v u:Value) (b T:List Int) (hI:IsI H v b) (hT:IsI H u T) (hl:b.length≤1073741824) :
 wp (vcall C frz 71 [.agg #[.int .i64 w,.int .i64 h,v],.agg #[u]] H) (fun r _=>r=.bool (decide (tableOk w h b T))):=by
 rw [Qb (fn:=Tryz.f71) Tryz.func71 rfl (by kernel_rfl) rfl]
 simp [hI.one',hI.cells,hT.one',hT.cells,Wd,Yu _ _ _ _ (hI.app _) hl]
 refine Wq ?_ ?_<;>intro hm
 ·simp [hm,hT.lenA,Lq]
  refine Qd ?_ ?_<;>intro hz
  ·simp [hz]
   have hs:tsized w h b T:=⟨hm,hz⟩
   have hc:=Qg w h
   refine Qi (fun n t H'=>∃(i:Nat),n=(cnt w h).toNat-i∧i≤(cnt w h).toNat∧t 2=.pointer (some ⟨H.length,0,some 0⟩)∧t 3=.pointer (some ⟨H.length+1,0,some 0⟩)∧t 5=.int .i64 (cnt w h)∧t 22=.int .i64 (cnt w h)∧t 23=.int .i64 i∧
    H'=H++[⟨[.int .i64 w,.int .i64 h,v],0,28⟩,⟨[u],0,30⟩]∧∀a,a<i→portOf w h T a a=4) ?_ (n:=(cnt w h).toNat) ⟨0,by simp⟩
   rintro n t H' ⟨i,rfl,hi,h2,h3,h5,h22,h23,rfl,hk⟩ ih
   simp [h2,h3,h5,h22,h23]
   refine Qd ?_ ?_<;>intro hlt
   ·have ni:i<(cnt w h).toNat:=by omega
    obtain ⟨k0,k1,k2,k3⟩:=Vx (Wr ni) (Wr ni)
    have e1:IntKind.i64.wrap (i*cnt w h)=i*cnt w h:=w64 (by omega) (by omega)
    have e2:IntKind.i64.wrap (i*cnt w h+i)=i*cnt w h+i:=w64 (by omega) (by omega)
    have q1:∀L,vindexAddr Tryz.prog (H++L) 26 u (.int .i64 (i*cnt w h+i))=some (elp u (i*cnt w h+i:Int).toNat):=fun L=>hT.idxA (e:=3) (by simp) k0 (by omega)
    have q2:∀L,vload Tryz.prog (H++L) 3 (elp u (i*cnt w h+i:Int).toNat)=some (.int .i64 (portOf w h T i i)):=fun L=>hT.loadA (by simp) (by omega)
    simp [h2,h3,h5,h22,h23,hlt,e1,e2,q1,q2]
    refine Qd ?_ ?_<;>intro hp
    ·simp [h2,h3,h5,h22,h23,hlt,hp]
     refine ih ((cnt w h).toNat-(i+1)) _ _ ⟨i+1,rfl,by omega,by simp [h2],by simp [h3],by simp [h5],by simp [h22],?_,rfl,fun a ha=>?_⟩ (by omega)
     ·simp;rw [w64 (by omega) (by omega)]
     ·by_cases hai:a<i
      ·exact hk a hai
      ·have:a=i:=by omega
       subst this;exact hp
    ·simp [h2,h3,h5,h22,h23,hlt,hp]
     exact fun hh=>hp ((hh.2 i ni i ni).1 rfl)
   ·simp [h2,h3,h5,h22,h23,hlt]
    have:i=(cnt w h).toNat:=by omega
    subst this
    refine Qc (A4 w h _ (Q:=fun r _=>r=.bool (decide (tableOk w h b T))) (fun done H'=>∃L,H'=H++[⟨[.int .i64 w,.int .i64 h,v],0,28⟩,⟨[u],0,30⟩]++L∧∀p∈done,walk w h b T p.1 p.2≠[]) ⟨_,rfl,by simp⟩ ?_ ?_) ?_
    ·rintro done a c _ ha hc' hne ⟨L,rfl,hd⟩
     simp
     rw [Gc w h v u b T a c _ _ (hI.app _) (hT.app _) hl hs (Wr ha) (Wr hc') (by omega) (by simp) (by simp)]
     simp
     by_cases hw:walk w h b T a c=[]
     ·refine .inr ⟨hw,?_⟩
      exact fun hh=>(hh.2 a (by omega) c (by omega)).2 (by omega) hw
     ·refine .inl ⟨hw,fun p q hp=>?_⟩
      rcases hp with hp|⟨rfl,rfl⟩
      ·exact hd (p,q) hp
      ·exact hw
    ·rintro _ ⟨L,rfl,hd⟩
     simp
     exact ⟨hs,fun a ha c hc'=>⟨fun _=>hk a ha,fun hne=>hd (a,c) (Mh.2 ⟨ha,hc',hne⟩)⟩⟩
    ·rintro _ H' rfl
     simp
  ·simp [hz]
   exact fun hh=>hz hh.1.2
 ·simp [hm]
  exact fun hh=>hm hh.1.1
theorem Om (w h:Int) (v u:Value) (b T:List Int) (hI:IsI H v b) (hT:IsI H u T) (hl:b.length≤1073741824) :
 vcall C frz 71 [.agg #[.int .i64 w,.int .i64 h,v],.agg #[u]] H=some (.bool (decide (tableOk w h b T)),H):=
 (Ds w h v u b T hI hT hl).exact (by simp) rfl
def castOk (w h:Int) (b T:List Int) (a:Int) (ts:List Int):Prop:=tableOk w h b T∧isN w h a∧∀x∈ts,isN w h x
instance (w h:Int) (b T:List Int) (a:Int) (ts:List Int):Decidable (castOk w h b T a ts):=inferInstanceAs (Decidable (_∧_))
def classesOk (w h:Int) (b A B:List Int):Prop:=tableOk w h b A∧tableOk w h b B
instance (w h:Int) (b A B:List Int):Decidable (classesOk w h b A B):=inferInstanceAs (Decidable (_∧_))
abbrev PkD:=Int×Int×Int×Int×Int
def packetOk (w h:Int) (p:PkD):Prop:=inR 1 p.1 9999∧isN w h p.2.1∧isN w h p.2.2.1∧p.2.1≠p.2.2.1∧inR 0 p.2.2.2.1 1∧inR 1 p.2.2.2.2 5
instance (w h:Int) (p:PkD):Decidable (packetOk w h p):=inferInstanceAs (Decidable (_∧_))
def pkV (p:PkD):Value:=.agg #[.int .i64 p.1,.int .i64 p.2.1,.int .i64 p.2.2.1,.int .i64 p.2.2.2.1,.int .i64 p.2.2.2.2]
theorem Sp (w h:Int) (v u1 u2:Value) (b A B:List Int) (hI:IsI H v b) (h1:IsI H u1 A) (h2:IsI H u2 B) (hl:b.length≤1073741824) :
 vcall C frz 36 [.agg #[.int .i64 w,.int .i64 h,v],.agg #[u1,u2]] H=some (.bool (decide (classesOk w h b A B)),H):=by
 rw [Qb (fn:=Tryz.f36) Tryz.func36 rfl (by kernel_rfl) rfl]
 have one:=And.intro (And.intro h1.one' h1.cells) (And.intro h2.one' h2.cells)
 simp [hI.one',hI.cells,one,Om _ _ _ _ _ _ (hI.app _) (h1.app _) hl]
 refine Q9 _ _ ?_ ?_<;>intro g<;>simp [g,classesOk,hI.one',hI.cells,one,Om _ _ _ _ _ _ (hI.app _) (h2.app _) hl]
theorem N3 (w h:Int) (v u1 u2:Value) (b A B:List Int) (hI:IsI H v b) (h1:IsI H u1 A) (h2:IsI H u2 B) (hl:b.length≤1073741824) :
 vcall C frz 55 [.agg #[.int .i64 w,.int .i64 h,v],.agg #[u1,u2]] H=some (.bool (decide (classesOk w h b A B)),H):=by
 rw [Qb (fn:=Tryz.f55) Tryz.func55 rfl (by kernel_rfl) rfl]
 have one:=And.intro (And.intro h1.one' h1.cells) (And.intro h2.one' h2.cells)
 simp [hI.one',hI.cells,one,Ph _ _ _ _ _ _ (hI.app _) (h1.app _) hl]
 refine Q9 _ _ ?_ ?_<;>intro g<;>simp [g,classesOk,hI.one',hI.cells,one,Ph _ _ _ _ _ _ (hI.app _) (h2.app _) hl]
theorem Rz (w h:Int) (p:PkD):vcall C frz 21 [.agg #[.int .i64 w,.int .i64 h],pkV p] H=some (.bool (decide (packetOk w h p)),H):=by
 obtain ⟨i,a,b,c,l⟩:=p
 rw [Qb (fn:=Tryz.f21) Tryz.func21 rfl (by kernel_rfl) rfl]
 by_cases g1:inR 1 i 9999
 ·by_cases g2:isN w h a
  ·by_cases g3:isN w h b
   ·by_cases g4:a=b
    ·simp [pkV,Ql,Wu,g1,g2,g3,g4,packetOk]
    ·by_cases g5:inR 0 c 1
     ·by_cases g6:inR 1 l 5<;>simp [pkV,Ql,Wu,g1,g2,g3,g4,g5,g6,packetOk]
     ·simp [pkV,Ql,Wu,g1,g2,g3,g4,g5,packetOk]
   ·simp [pkV,Ql,Wu,g1,g2,g3,packetOk]
  ·simp [pkV,Ql,Wu,g1,g2,packetOk]
 ·simp [pkV,Ql,Wu,g1,packetOk]
def pkF:Fl PkD:=⟨5,fun a=>[.int .i64 a.1,.int .i64 a.2.1,.int .i64 a.2.2.1,.int .i64 a.2.2.2.1,.int .i64 a.2.2.2.2],fun _=>rfl⟩
@[simp] theorem Lc:pkF.n=5:=rfl
theorem Uw (a:PkD):pkF.f a=[.int .i64 a.1,.int .i64 a.2.1,.int .i64 a.2.2.1,.int .i64 a.2.2.2.1,.int .i64 a.2.2.2.2]:=rfl
theorem Bf (xs:List PkD):ones (cellsOf pkF xs)=true:=by
 induction xs with
 | nil=>rfl
 | cons a l ih=>rw [Wj];simp [ih,Uw]
abbrev dPk:Dt Value (List PkD):=dFlat pkF 63 1073741824
abbrev ChipD:=NetD×List PkD
abbrev ChipV:=NetV×Value
def dChip:Dt ChipV ChipD:={ dAnd dNet dPk with val:=fun v a=>.agg #[.int .i64 a.1.1.1,.int .i64 a.1.1.2.1,v.1.1,v.1.2.1.1,v.1.2.1.2,v.1.2.2.1.1,v.1.2.2.2.1,v.1.2.2.2.2.1,v.1.2.2.2.2.2.1.1,v.1.2.2.2.2.2.2.1.1,.int .i64 a.1.2.2.2.2.2.2.2,v.2] }
theorem Qj (v:ChipV) (a:ChipD):dChip.val v a=.agg #[.int .i64 a.1.1.1,.int .i64 a.1.1.2.1,v.1.1,v.1.2.1.1,v.1.2.1.2,v.1.2.2.1.1,v.1.2.2.2.1,v.1.2.2.2.2.1,v.1.2.2.2.2.2.1.1,v.1.2.2.2.2.2.2.1.1,.int .i64 a.1.2.2.2.2.2.2.2,v.2]:=rfl
theorem Qs {v:ChipV} {a:ChipD} (h:dChip.Ow H v a):((VM.one v.1.1=true∧v.1.1.cells=#[v.1.1])∧(VM.one v.1.2.1.1=true∧v.1.2.1.1.cells=#[v.1.2.1.1])∧(VM.one v.1.2.1.2=true∧v.1.2.1.2.cells=#[v.1.2.1.2])∧(VM.one v.1.2.2.1.1=true∧v.1.2.2.1.1.cells=#[v.1.2.2.1.1])∧
 (VM.one v.1.2.2.2.1=true∧v.1.2.2.2.1.cells=#[v.1.2.2.2.1])∧(VM.one v.1.2.2.2.2.1=true∧v.1.2.2.2.2.1.cells=#[v.1.2.2.2.2.1])∧(VM.one v.1.2.2.2.2.2.1.1=true∧v.1.2.2.2.2.2.1.1.cells=#[v.1.2.2.2.2.2.1.1])∧(VM.one v.1.2.2.2.2.2.2.1.1=true∧v.1.2.2.2.2.2.2.1.1.cells=#[v.1.2.2.2.2.2.2.1.1]))∧VM.one v.2=true∧v.2.cells=#[v.2]:=
 ⟨Qn h.1,h.2.1.rd.one',h.2.1.rd.cells⟩
def flitOk (w h:Int) (f:FlitD):Prop:=isN w h f.2.1∧inR 0 f.2.2.1 1
instance (w h:Int) (f:FlitD):Decidable (flitOk w h f):=inferInstanceAs (Decidable (_∧_))
def flitsOk (w h:Int) (l:List FlitD):Prop:=∀f∈l,flitOk w h f
instance (w h:Int) (l:List FlitD):Decidable (flitsOk w h l):=inferInstanceAs (Decidable (∀f∈l,flitOk w h f))
def sizesOk (x:NetD):Prop:=(x.2.2.1.length:Int)=10*cnt x.1.1 x.1.2.1∧(x.2.2.2.1.length:Int)=10*cnt x.1.1 x.1.2.1∧(x.2.2.2.2.1.length:Int)=5*cnt x.1.1 x.1.2.1∧(x.2.2.2.2.2.1.length:Int)=cnt x.1.1 x.1.2.1∧(x.2.2.2.2.2.2.1.length:Int)=cnt x.1.1 x.1.2.1
instance (x:NetD):Decidable (sizesOk x):=inferInstanceAs (Decidable (_∧_))
def bufOk (w h:Int) (l:List FlitD) (c:Int):Prop:=l.length≤3∧(∀f∈l,f.2.2.1=c)∧flitsOk w h l
instance (w h:Int) (l:List FlitD) (c:Int):Decidable (bufOk w h l c):=inferInstanceAs (Decidable (_∧_))
def srcOk (w h:Int) (l:List FlitD):Prop:=l.length≤60∧flitsOk w h l
instance (w h:Int) (l:List FlitD):Decidable (srcOk w h l):=inferInstanceAs (Decidable (_∧_))
def netOk (x:NetD):Prop:=classesOk x.1.1 x.1.2.1 x.1.2.2 x.2.1.1 x.2.1.2∧sizesOk x∧(∀i,i<x.2.2.1.length→bufOk x.1.1 x.1.2.1 (x.2.2.1.getD i []) ((i:Int)%2))∧(∀l∈x.2.2.2.2.2.1,srcOk x.1.1 x.1.2.1 l)∧
 (∀o∈x.2.2.2.1,inR (-1) o 4)∧(∀o∈x.2.2.2.2.1,inR 0 o 9)∧inR 0 x.2.2.2.2.2.2.2 1000000
instance (x:NetD):Decidable (netOk x):=inferInstanceAs (Decidable (_∧_))
theorem Pp (w h:Int) (v:Value) (xs:List FlitD) (hI:Rd flF H v xs) (hl:xs.length≤1073741824) :
 vcall C frz 38 [.agg #[.int .i64 w,.int .i64 h],v] H=some (.bool (decide (flitsOk w h xs)),H):=by
 refine wp.exact (by simp) ?_ rfl
 rw [Qb (fn:=Tryz.f38) Tryz.func38 rfl (by kernel_rfl) rfl]
 generalize hB:decide (flitsOk w h xs)=B
 simp [hI.app.len (P:=Tryz.prog) (ty:=82) (by simp)]
 refine Qi (fun n t H'=>∃i:Nat,n=xs.length-i∧i≤xs.length∧t 2=.pointer (some ⟨H.length,0,some 0⟩)∧t 7=v∧t 8=.int .i64 xs.length∧t 9=.int .i64 i∧Chg H H' []∧H'[H.length]? = some ⟨[.int .i64 w,.int .i64 h],0,25⟩∧∀f∈xs.take i,flitOk w h f) ?_ (n:=xs.length)
  ⟨0,rfl,by omega,by simp,by simp,by simp,by simp,Chg.app _,by simp,by simp⟩
 rintro n t H' ⟨i,rfl,hi,t2,t7,t8,t9,c,b2,hk⟩ ih
 simp [t2,t7,t8,t9]
 refine Qd ?_ ?_<;>intro g
 ·have hi':i<xs.length:=by omega
  have rd:=hI.chg c (by simp)
  have q1:=rd.idx (P:=Tryz.prog) (ty:=82) (e:=115) (by simp) (i:=(i:Int)) (by omega) (by omega)
  have q2:=rd.load (P:=Tryz.prog) (e:=115) (by simp) hi'
  simp only [Int.toNat_natCast,Se] at q1 q2
  have l0:=c.1
  have hF:H.length≤H'.length:=l0
  have b2':=fun r=>Qa (Qp b2 [r]) (Qe H'.length r) (by simp;have:=Qu b2;omega)
  have hlt:=Qu b2
  have hne:H'.length≠H.length:=by omega
  have key:flitOk w h xs[i]↔isN w h xs[i].2.1∧inR 0 xs[i].2.2.1 1:=Iff.rfl
  have hsucc:∀f∈xs.take (i+1),f∈xs.take i∨f=xs[i]:=fun f hf=>by
   rw [List.take_succ_eq_append_getElem hi'] at hf
   rcases List.mem_append.1 hf with hf|hf
   ·exact .inl hf
   ·exact .inr (List.mem_singleton.1 hf)
  have hno:¬flitOk w h xs[i]→¬flitsOk w h xs:=fun hh k=>hh (k _ (List.getElem_mem hi'))
  simp [t2,t7,t8,t9,q1,q2,hF,Xh,VM.look,b2,Qp b2,Wu,Ql]
  by_cases g1:isN w h xs[i].2.1
  ·by_cases g2:inR 0 xs[i].2.2.1 1
   ·simp [t2,t7,t8,t9,g1,g2,Ql]
    refine ih (xs.length-(i+1)) _ _ ⟨i+1,rfl,by omega,by simp [t2],by simp [t7],by simp [t8],?_,c.trans (Chg.app _),Qp b2 _,fun f hf=>?_⟩ (by omega)
    ·simp;rw [w64 (by omega) (by omega)]
    ·rcases hsucc f hf with hf|rfl
     ·exact hk f hf
     ·exact ⟨g1,g2⟩
   ·simp [t2,t7,t8,t9,g1,g2,Ql]
    rw [← hB];exact decide_eq_false (hno (fun hh=>g2 hh.2))
  ·simp [t2,t7,t8,t9,g1]
   rw [← hB];exact decide_eq_false (hno (fun hh=>g1 hh.1))
 ·have:i=xs.length:=by omega
  subst this
  rw [List.take_length] at hk
  simp [t2,t7,t8,t9]
  rw [← hB];exact decide_eq_true hk
theorem Sd (v:Value) (xs:List FlitD) (c:Int) (hI:Rd flF H v xs) (hl:xs.length≤1073741824) :
 wp (vcall C frz 37 [v,.int .i64 c] H) (fun r H'=>Ow flF 115 H' r (xs.filter fun f=>f.2.2.1=c)∧(∀i∈ids r,H.length≤i)∧Chg H H' []):=by
 rw [Qb (fn:=Tryz.f37) Tryz.func37 rfl (by kernel_rfl) rfl]
 simp [hI.app.len (P:=Tryz.prog) (ty:=82) (by simp)]
 refine Qi (fun n t H'=>∃(i:Nat) (r:Value),n=xs.length-i∧i≤xs.length∧t 1=.int .i64 c∧t 5=r∧t 9=v∧t 10=.int .i64 xs.length∧t 11=.int .i64 i∧Chg H H' []∧Ow flF 115 H' r ((xs.take i).filter fun f=>f.2.2.1=c)∧(∀j∈ids r,H.length≤j)) ?_ (n:=xs.length)
  ⟨0,.slice (some ⟨H.length,0,some 0⟩) 0 0,rfl,by omega,by simp,by simp,by simp,by simp,by simp,Chg.app _,Ow.new0 (D:=flF) (xs:=[]) rfl rfl rfl rfl,by simp⟩
 rintro n t H' ⟨i,r,rfl,hi,t1,t5,t9,t10,t11,ch,o,nr⟩ ih
 simp [t1,t5,t9,t10,t11]
 refine Qd ?_ ?_<;>intro g
 ·have hi':i<xs.length:=by omega
  have rd:=hI.chg ch (by simp)
  have q1:=rd.idx (P:=Tryz.prog) (ty:=82) (e:=115) (by simp) (i:=(i:Int)) (by omega) (by omega)
  have q2:=rd.load (P:=Tryz.prog) (e:=115) (by simp) hi'
  simp only [Int.toNat_natCast,Se] at q1 q2
  have hF:H.length≤H'.length:=ch.1
  have hfl:=List.length_filter_le (fun f:FlitD=>decide (f.2.2.1=c)) (xs.take i)
  have htl:(xs.take i).length≤i:=by simp;omega
  simp [t1,t5,t9,t10,t11,q1,q2,hF,Xh,VM.look]
  refine Qd ?_ ?_<;>intro g1
  ·obtain ⟨r',H2,hap,o2,c2,n2⟩:=(o.app (L:=[⟨flF.f xs[i],0,115⟩])).push (P:=Tryz.prog) (frz:=H.length) (ty:=82) (a:=xs[i]) (by simp) rfl (by omega) nr
   simp only [Xh,List.append_assoc,List.cons_append,List.nil_append,List.length_append,List.length_cons,List.length_nil] at hap
   simp [t1,t5,t9,t10,t11,hap]
   refine ih (xs.length-(i+1)) _ _ ⟨i+1,r',rfl,by omega,by simp [t1],by simp,by simp [t9],by simp [t10],?_,(ch.trans (Chg.app _)).trans' c2 (fun j hj=>.inr (nr j hj)),?_,fun j hj=>?_⟩ (by omega)
   ·simp;rw [w64 (by omega) (by omega)]
   ·rw [List.take_succ_eq_append_getElem hi',List.filter_append];simpa [g1] using o2
   ·rcases n2 j hj with h1|h1
    ·exact nr j h1
    ·simp at h1;omega
  ·simp [t1,t5,t9,t10,t11,g1]
   refine ih (xs.length-(i+1)) _ _ ⟨i+1,r,rfl,by omega,by simp [t1],by simp [t5],by simp [t9],by simp [t10],?_,ch.trans (Chg.app _),?_,nr⟩ (by omega)
   ·simp;rw [w64 (by omega) (by omega)]
   ·rw [List.take_succ_eq_append_getElem hi',List.filter_append];simpa [g1] using o.app
 ·have:i=xs.length:=by omega
  subst this
  rw [List.take_length] at o
  simp [t1,t5,t9,t10,t11]
  exact ⟨o,nr,ch⟩
theorem Pj {l:List FlitD} {c:Int}:(l.filter fun f=>f.2.2.1=c).length=l.length↔∀f∈l,f.2.2.1=c:=by
 rw [List.length_filter_eq_length_iff];simp
theorem tmod2 (i:Nat):(i:Int).tmod 2=(i:Int)%2:=Int.tmod_eq_emod_of_nonneg (by omega)
theorem Tb {α:Type} {l:List α} {d:α} {i:Nat} (h:i<l.length):l.getD i d=l[i]:=by simp [List.getD_eq_getElem?_getD,h]
theorem Uu {α:Type} {l:List α} {i:Nat} (h:i<l.length) {x:α} (hx:x∈l.take (i+1)):x∈l.take i∨x=l[i]:=by
 rw [List.take_succ_eq_append_getElem h] at hx
 rcases List.mem_append.1 hx with hx|hx
 ·exact .inl hx
 ·exact .inr (List.mem_singleton.1 hx)
theorem Sy {v:NetV} {x:NetD} (o:dNet.Ow H v x):vcall C frz 20 [dNet.val v x] H=some (.bool (decide (netOk x)),H):=by
 have oo:=Qn o
 obtain ⟨u2,⟨u3,u4⟩,⟨u5,h5⟩,u6,u7,⟨u8,h8⟩,⟨u9,h9⟩,_⟩:=v
 obtain ⟨⟨w,h,b⟩,⟨A,B⟩,buf,own,turn,src,arr,tm⟩:=x
 obtain ⟨o2,o3,o5,o6,o7,o8,o9,_⟩:=o
 simp only at o2 o3 o5 o6 o7 o8 o9
 obtain ⟨p2,p3,p4,p5,p6,p7,p8,p9⟩:=oo
 simp only at p2 p3 p4 p5 p6 p7 p8 p9
 rw [Qk]
 refine wp.exact (by simp) ?_ rfl
 rw [Qb (fn:=Tryz.f20) Tryz.func20 rfl (by kernel_rfl) rfl]
 generalize hY:decide (netOk ((w,h,b),(A,B),buf,own,turn,src,arr,tm))=Y
 obtain ⟨N,hN⟩:∃N:Nat,cnt w h=N:=⟨(cnt w h).toNat,by have:=Qg w h;omega⟩
 have hN2:N≤16:=by have:=Qg w h;omega
 have w10:=@w6 (10*(N:Int)) (by omega)
 have w5:=@w6 (5*(N:Int)) (by omega)
 have cok:=fun F L=>Sp (frz:=F) (H:=H++L) w h u2 u3 u4 b A B (Rd.isI o2.1.rd.app) (Rd.isI o3.1.1.rd.app) (Rd.isI o3.2.1.rd.app) o2.2
 have ln5:=fun (L:Heap)=>(RdL.app (L:=L) o5.1.rd).1.len (P:=Tryz.prog) (ty:=33) (by simp)
 have ln8:=fun (L:Heap)=>(RdL.app (L:=L) o8.1.rd).1.len (P:=Tryz.prog) (ty:=33) (by simp)
 have ln9:=fun (L:Heap)=>(RdL.app (L:=L) o9.1.rd).1.len (P:=Tryz.prog) (ty:=33) (by simp)
 have ln6:=fun (L:Heap)=>(Rd.app (L:=L) o6.1.rd).len (P:=Tryz.prog) (ty:=26) (by simp)
 have ln7:=fun (L:Heap)=>(Rd.app (L:=L) o7.1.rd).len (P:=Tryz.prog) (ty:=26) (by simp)
 have hl5:=o5.1.rd.2.1
 have hl8:=o8.1.rd.2.1
 have hl9:=o9.1.rd.2.1
 have hb5:=o5.2.1
 have hb8:=o8.2.1
 simp only at ln5 ln8 ln9 ln6 ln7 hl5 hl8 hl9 hb5 hb8
 have no:¬netOk ((w,h,b),(A,B),buf,own,turn,src,arr,tm)→false=Y:=fun hh=>by rw [← hY];exact (decide_eq_false hh).symm
 have no':¬netOk ((w,h,b),(A,B),buf,own,turn,src,arr,tm)→Y=false:=fun hh=>(no hh).symm
 have ones:=And.intro p2 (And.intro p3 (And.intro p4 (And.intro p5 (And.intro p6 (And.intro p7 (And.intro p8 p9))))))
 simp [ones,Wd,hN,cok,w10,w5]
 by_cases c1:classesOk w h b A B
 rotate_left
 ·simp [c1];exact no' (fun k=>c1 k.1)
 by_cases c2:(buf.length:Int)=10*N
 rotate_left
 ·simp [c1,c2,ones,ln5,hl5,w10];exact no' (fun k=>c2 (by have:=k.2.1.1;simp only [hN] at this;exact this))
 by_cases c3:(own.length:Int)=10*N
 rotate_left
 ·simp [c1,c2,c3,ones,ln5,hl5,ln6,w10];exact no' (fun k=>c3 (by have:=k.2.1.2.1;simp only [hN] at this;exact this))
 by_cases c4:(turn.length:Int)=5*N
 rotate_left
 ·simp [c1,c2,c3,c4,ones,ln5,hl5,ln6,ln7,w10,w5];exact no' (fun k=>c4 (by have:=k.2.1.2.2.1;simp only [hN] at this;exact this))
 by_cases c5:(src.length:Int)=N
 rotate_left
 ·simp [c1,c2,c3,c4,c5,ones,ln5,hl5,ln6,ln7,ln8,hl8,w10,w5];exact no' (fun k=>c5 (by have:=k.2.1.2.2.2.1;simp only [hN] at this;exact this))
 by_cases c6:(arr.length:Int)=N
 rotate_left
 ·simp [c1,c2,c3,c4,c5,c6,ones,ln5,hl5,ln6,ln7,ln8,hl8,ln9,hl9,w10,w5];exact no' (fun k=>c6 (by have:=k.2.1.2.2.2.2;simp only [hN] at this;exact this))
 have hsz:sizesOk ((w,h,b),(A,B),buf,own,turn,src,arr,tm):=by unfold sizesOk;simp only [hN];exact ⟨c2,c3,c4,c5,c6⟩
 simp [c1,c2,c3,c4,c5,c6,ones,ln5,hl5,ln6,ln7,ln8,hl8,ln9,hl9,w10,w5]
 refine Qi (fun n t H'=>∃i:Nat,n=buf.length-i∧i≤buf.length∧t 1=.pointer (some ⟨H.length,0,some 0⟩)∧t 57=u5∧t 58=.int .i64 buf.length∧t 59=.int .i64 i∧Chg H H' []∧
  H'[H.length]? = some ⟨[.int .i64 w,.int .i64 h,u2,u3,u4,u5,u6,u7,u8,u9,.int .i64 tm],0,35⟩∧∀j,j<i→bufOk w h (buf.getD j []) ((j:Int)%2)) ?_ (n:=buf.length)
  ⟨0,rfl,by omega,by simp,by simp,by simp [c2],by simp,Chg.app _,by simp,by omega⟩
 rintro n t H' ⟨i,rfl,hi,t1,t57,t58,t59,ch,b0,hk⟩ ih
 simp [t1,t57,t58,t59]
 refine Qd ?_ ?_<;>intro g
 ·have hi':i<buf.length:=by omega
  have rl:=o5.1.rd.chg ch (by simp)
  obtain ⟨u,_,a2,a3,a4⟩:=W9 rl (ty:=33) (e:=82) (by simp) (by simp) hi'
  have hlen:=o5.2.2 _ (List.getElem_mem hi')
  simp only at a2 a3 a4 hlen
  have lu:=a4.len (P:=Tryz.prog) (ty:=82) (by simp)
  have hbg:buf.getD i []=buf[i]:=Tb hi'
  have bad:¬bufOk w h buf[i] ((i:Int)%2)→Y=false:=fun hh=>no' (fun k=>hh (by have:=k.2.2.1 i hi';simp only [hbg] at this;exact this))
  obtain ⟨l,hl⟩:∃l,l=buf[i]:=⟨_,rfl⟩
  rw [← hl] at a4 lu hlen bad hbg
  simp [t1,t57,t58,t59,a2,a3,lu]
  by_cases g1:l.length≤3
  rotate_left
  ·have g1':(3:Int)<l.length:=by omega
   simp [g1'];exact bad (fun k=>g1 k.1)
  have g1':¬(3:Int)<l.length:=by omega
  simp [g1',t1,t57,t58,t59,tmod2]
  refine Qc (Sd u l ((i:Int)%2) a4 (by omega)) ?_
  rintro r H2 ⟨orr,nr,cc⟩
  have b0:=Qa b0 cc (by simp)
  have lr:=orr.rd.len (P:=Tryz.prog) (ty:=82) (by simp)
  have lu2:=(a4.chg cc (by simp)).len (P:=Tryz.prog) (ty:=82) (by simp)
  have hfl:=Pj (l:=l) (c:=(i:Int)%2)
  generalize (l.filter fun f=>f.2.2.1=(i:Int)%2).length=q at *
  simp [t1,t57,t58,t59,lr,lu2]
  by_cases g2:q=l.length
  rotate_left
  ·have g2':¬(q:Int)=l.length:=by omega
   simp [g2'];exact bad (fun k=>g2 (hfl.2 k.2.1))
  have af:=fun F=>Pp (frz:=F) (H:=H2) w h u l (a4.chg cc (by simp)) (by omega)
  simp [g2,t1,t57,t58,t59,VM.look,b0,af]
  by_cases g3:flitsOk w h l
  rotate_left
  ·simp [g3];exact bad (fun k=>g3 k.2.2)
  simp [g3,t1,t57,t58,t59]
  refine ih (buf.length-(i+1)) _ _ ⟨i+1,rfl,by omega,by simp [t1],by simp [t57],by simp [t58],?_,ch.trans cc,b0,fun j hj=>?_⟩ (by omega)
  ·simp;rw [w64 (by omega) (by omega)]
  ·by_cases hji:j<i
   ·exact hk j hji
   ·have:j=i:=by omega
    subst this
    rw [hbg];exact ⟨g1,hfl.1 g2,g3⟩
 ·have:i=buf.length:=by omega
  subst this
  clear ih
  have l8:=(o8.1.rd.chg ch (by simp)).1.len (P:=Tryz.prog) (ty:=33) (by simp)
  simp only at l8
  simp [t1,t57,t58,t59,VM.look,b0,ones,l8,hl8]
  refine Qi (fun n t H2=>∃i:Nat,n=src.length-i∧i≤src.length∧t 1=.pointer (some ⟨H.length,0,some 0⟩)∧t 87=u8∧t 88=.int .i64 src.length∧t 89=.int .i64 i∧H2=H'∧∀l∈src.take i,srcOk w h l) ?_ (n:=src.length)
   ⟨0,rfl,by omega,by simp [t1],by simp,by simp,by simp,rfl,by simp⟩
  clear t1 t57 t58 t59
  rintro n t H2 ⟨i,rfl,hi,t1,t87,t88,t89,rfl,hk2⟩ ih
  simp [t1,t87,t88,t89]
  refine Qd ?_ ?_<;>intro g
  ·have hi':i<src.length:=by omega
   have rl:=o8.1.rd.chg ch (by simp)
   obtain ⟨u,_,a2,a3,a4⟩:=W9 rl (ty:=33) (e:=82) (by simp) (by simp) hi'
   have hlen:=o8.2.2 _ (List.getElem_mem hi')
   simp only at a2 a3 a4 hlen
   have lu:=a4.len (P:=Tryz.prog) (ty:=82) (by simp)
   have bad:¬srcOk w h src[i]→Y=false:=fun hh=>no' (fun k=>hh (k.2.2.2.1 _ (List.getElem_mem hi')))
   have hst:=fun {x} (hx:x∈src.take (i+1))=>Uu hi' hx
   obtain ⟨l,hl⟩:∃l,l=src[i]:=⟨_,rfl⟩
   rw [← hl] at a4 lu hlen bad hst
   simp [t1,t87,t88,t89,a2,a3,lu]
   by_cases g1:l.length≤60
   rotate_left
   ·have g1':(60:Int)<l.length:=by omega
    simp [g1'];exact bad (fun k=>g1 k.1)
   have g1':¬(60:Int)<l.length:=by omega
   have af:=fun F=>Pp (frz:=F) (H:=H2) w h u l a4 (by omega)
   simp [g1',t1,t87,t88,t89,VM.look,b0,af]
   by_cases g3:flitsOk w h l
   rotate_left
   ·simp [g3];exact bad (fun k=>g3 k.2)
   simp [g3,t1,t87,t88,t89]
   refine ih (src.length-(i+1)) _ _ ⟨i+1,rfl,by omega,by simp [t1],by simp [t87],by simp [t88],?_,rfl,fun x hx=>?_⟩ (by omega)
   ·simp;rw [w64 (by omega) (by omega)]
   ·rcases hst hx with hx|rfl
    ·exact hk2 x hx
    ·exact ⟨g1,g3⟩
  ·have:i=src.length:=by omega
   subst this
   rw [List.take_length] at hk2
   have ai:=fun F=>Uf (frz:=F) (H:=H2) u6 own (-1) 4 (Rd.isI (o6.1.rd.chg ch (by simp))) (by have:=o6.2;omega)
   have ai2:=fun F=>Uf (frz:=F) (H:=H2) u7 turn 0 9 (Rd.isI (o7.1.rd.chg ch (by simp))) (by have:=o7.2;omega)
   have ai3:=fun F=>Ql (frz:=F) (H:=H2) tm 0 1000000
   have hiff:netOk ((w,h,b),(A,B),buf,own,turn,src,arr,tm)↔(∀x∈own,inR (-1) x 4)∧(∀x∈turn,inR 0 x 9)∧inR 0 tm 1000000:=
    ⟨fun k=>k.2.2.2.2,fun k=>⟨c1,hsz,hk,hk2,k⟩⟩
   have hY2:Y=(decide (∀x∈own,inR (-1) x 4)&&decide (∀x∈turn,inR 0 x 9)&&decide (inR 0 tm 1000000)):=by
    rw [← hY,Bool.eq_iff_iff];simp only [decide_eq_true_eq,Bool.and_eq_true,and_assoc];exact hiff
   generalize decide (∀x∈own,inR (-1) x 4)=P1 at *
   generalize decide (∀x∈turn,inR 0 x 9)=P2 at *
   generalize decide (inR 0 tm 1000000)=P3 at *
   simp [t1,t87,t88,t89,VM.look,b0,ones,ai,ai2,ai3,hY2]
   cases P1<;>cases P2<;>cases P3<;>simp [t1,VM.look,b0,ones,ai2,ai3]
theorem Lv (x y:FlitD):cseq [0,0,0,1,1] (flF.f x) (flF.f y)=some (decide (x=y)):=by
 obtain ⟨p,t,c,h,l⟩:=x
 obtain ⟨p',t',c',h',l'⟩:=y
 simp only [Xh,cseq,ceq,if_true]
 congr 1
 rw [Bool.eq_iff_iff];simp [and_assoc]
theorem Jk (x y:PkD):cseq [0,0,0,0,0] (pkF.f x) (pkF.f y)=some (decide (x=y)):=by
 obtain ⟨p,t,c,h,l⟩:=x
 obtain ⟨p',t',c',h',l'⟩:=y
 simp only [Uw,cseq,ceq,if_true]
 congr 1
 rw [Bool.eq_iff_iff];simp [and_assoc]
theorem Jl (a b:Value) (xs ys:List Int) (ha:Rd Fl.int H a xs) (hb:Rd Fl.int H b ys) (hl:xs.length≤1073741824) :
 vcall C frz 53 [a,b] H=some (.bool (decide (xs=ys)),H):=by
 refine wp.exact (by simp) ?_ rfl
 rw [Qb (fn:=Tryz.f53) Tryz.func53 rfl (by kernel_rfl) rfl]
 generalize hY:decide (xs=ys)=Y
 have la:=ha.len (P:=Tryz.prog) (ty:=26) (by simp)
 have lb:=hb.len (P:=Tryz.prog) (ty:=26) (by simp)
 have no:¬xs=ys→Y=false:=fun hh=>by rw [← hY];exact decide_eq_false hh
 simp [la,lb]
 refine Qd ?_ ?_<;>intro h0
 ·have h0':xs.length=ys.length:=by omega
  simp [la]
  refine Qi (fun n t H'=>∃i:Nat,n=xs.length-i∧i≤xs.length∧t 0=a∧t 1=b∧t 12=.int .i64 xs.length∧t 13=.int .i64 i∧H'=H∧xs.take i=ys.take i) ?_ (n:=xs.length) ⟨0,rfl,by omega,by simp,by simp,by simp,by simp,rfl,by simp⟩
  rintro n t H' ⟨i,rfl,hi,t0,t1,t12,t13,rfl,h4⟩ ih
  simp [t0,t1,t12,t13,la]
  refine Qd ?_ ?_<;>intro h
  ·have hx:i<xs.length:=by omega
   have hy:i<ys.length:=by omega
   have q1:=ha.idx (P:=Tryz.prog) (ty:=26) (e:=3) (by simp) (i:=(i:Int)) (by omega) (by omega)
   have q2:=ha.cell1 (P:=Tryz.prog) (e:=3) rfl (by simp) hx
   have q3:=hb.idx (P:=Tryz.prog) (ty:=26) (e:=3) (by simp) (i:=(i:Int)) (by omega) (by omega)
   have q4:=hb.cell1 (P:=Tryz.prog) (e:=3) rfl (by simp) hy
   simp only [Int.toNat_natCast,Fl.int_n,Nat.mul_one] at q1 q2 q3 q4
   simp at q2 q4
   simp [t0,t1,t12,t13]
   rw [Qf (h:=by kernel_rfl)]
   simp [t0,t1,t12,t13,q1,q2,q3,q4]
   refine Qd ?_ ?_<;>intro h5
   ·simp [t0,t1,t12,t13]
    refine ih (xs.length-(i+1)) _ _ ⟨i+1,rfl,by omega,by simp [t0],by simp [t1],by simp [t12],?_,rfl,?_⟩ (by omega)
    ·simp;rw [w64 (by omega) (by omega)]
    ·rw [List.take_succ_eq_append_getElem hx,List.take_succ_eq_append_getElem hy,h4,h5]
   ·simp [t0,t1,t12,t13]
    exact no (fun hh=>h5 (by subst hh;rfl))
  ·have:i=xs.length:=by omega
   subst this
   rw [List.take_length,List.take_of_length_le (by omega)] at h4
   simp [t0,t1,t12,t13]
   rw [← hY];exact decide_eq_true h4
 ·simp
  exact no (fun hh=>h0 (by rw [hh]))
theorem C7 (a b:Value) (xs ys:List FlitD) (ha:Rd flF H a xs) (hb:Rd flF H b ys) (hl:xs.length≤1073741824) :
 vcall C frz 98 [a,b] H=some (.bool (decide (xs=ys)),H):=by
 refine wp.exact (by simp) ?_ rfl
 rw [Qb (fn:=Tryz.f98) Tryz.func98 rfl (by kernel_rfl) rfl]
 generalize hY:decide (xs=ys)=Y
 have la:=ha.len (P:=Tryz.prog) (ty:=82) (by simp)
 have lb:=hb.len (P:=Tryz.prog) (ty:=82) (by simp)
 have no:¬xs=ys→Y=false:=fun hh=>by rw [← hY];exact decide_eq_false hh
 simp [la,lb]
 refine Qd ?_ ?_<;>intro h0
 ·have h0':xs.length=ys.length:=by omega
  simp [la]
  refine Qi (fun n t H'=>∃i:Nat,n=xs.length-i∧i≤xs.length∧t 0=a∧t 1=b∧t 12=.int .i64 xs.length∧t 13=.int .i64 i∧H'=H∧xs.take i=ys.take i) ?_ (n:=xs.length) ⟨0,rfl,by omega,by simp,by simp,by simp,by simp,rfl,by simp⟩
  rintro n t H' ⟨i,rfl,hi,t0,t1,t12,t13,rfl,h4⟩ ih
  simp [t0,t1,t12,t13,la]
  refine Qd ?_ ?_<;>intro h
  ·have hx:i<xs.length:=by omega
   have hy:i<ys.length:=by omega
   have q1:=ha.idx (P:=Tryz.prog) (ty:=82) (e:=115) (by simp) (i:=(i:Int)) (by omega) (by omega)
   have q2:=ha.load (P:=Tryz.prog) (e:=115) (by simp) hx
   have q3:=hb.idx (P:=Tryz.prog) (ty:=82) (e:=115) (by simp) (i:=(i:Int)) (by omega) (by omega)
   have q4:=hb.load (P:=Tryz.prog) (e:=115) (by simp) hy
   simp only [Int.toNat_natCast,Se] at q1 q2 q3 q4
   simp [t0,t1,t12,t13]
   rw [Qf (h:=by kernel_rfl)]
   simp [t0,t1,t12,t13,q1,q2,q3,q4,Lv,-cseq]
   refine Qd ?_ ?_<;>intro h5
   ·simp [t0,t1,t12,t13]
    refine ih (xs.length-(i+1)) _ _ ⟨i+1,rfl,by omega,by simp [t0],by simp [t1],by simp [t12],?_,rfl,?_⟩ (by omega)
    ·simp;rw [w64 (by omega) (by omega)]
    ·rw [List.take_succ_eq_append_getElem hx,List.take_succ_eq_append_getElem hy,h4,h5]
   ·simp [t0,t1,t12,t13]
    exact no (fun hh=>h5 (by subst hh;rfl))
  ·have:i=xs.length:=by omega
   subst this
   rw [List.take_length,List.take_of_length_le (by omega)] at h4
   simp [t0,t1,t12,t13]
   rw [← hY];exact decide_eq_true h4
 ·simp
  exact no (fun hh=>h0 (by rw [hh]))
theorem Co (a b:Value) (xs ys:List PkD) (ha:Rd pkF H a xs) (hb:Rd pkF H b ys) (hl:xs.length≤1073741824) :
 vcall C frz 26 [a,b] H=some (.bool (decide (xs=ys)),H):=by
 refine wp.exact (by simp) ?_ rfl
 rw [Qb (fn:=Tryz.f26) Tryz.func26 rfl (by kernel_rfl) rfl]
 generalize hY:decide (xs=ys)=Y
 have la:=ha.len (P:=Tryz.prog) (ty:=36) (by simp)
 have lb:=hb.len (P:=Tryz.prog) (ty:=36) (by simp)
 have no:¬xs=ys→Y=false:=fun hh=>by rw [← hY];exact decide_eq_false hh
 simp [la,lb]
 refine Qd ?_ ?_<;>intro h0
 ·have h0':xs.length=ys.length:=by omega
  simp [la]
  refine Qi (fun n t H'=>∃i:Nat,n=xs.length-i∧i≤xs.length∧t 0=a∧t 1=b∧t 12=.int .i64 xs.length∧t 13=.int .i64 i∧H'=H∧xs.take i=ys.take i) ?_ (n:=xs.length) ⟨0,rfl,by omega,by simp,by simp,by simp,by simp,rfl,by simp⟩
  rintro n t H' ⟨i,rfl,hi,t0,t1,t12,t13,rfl,h4⟩ ih
  simp [t0,t1,t12,t13,la]
  refine Qd ?_ ?_<;>intro h
  ·have hx:i<xs.length:=by omega
   have hy:i<ys.length:=by omega
   have q1:=ha.idx (P:=Tryz.prog) (ty:=36) (e:=63) (by simp) (i:=(i:Int)) (by omega) (by omega)
   have q2:=ha.load (P:=Tryz.prog) (e:=63) (by simp) hx
   have q3:=hb.idx (P:=Tryz.prog) (ty:=36) (e:=63) (by simp) (i:=(i:Int)) (by omega) (by omega)
   have q4:=hb.load (P:=Tryz.prog) (e:=63) (by simp) hy
   simp only [Int.toNat_natCast,Lc] at q1 q2 q3 q4
   simp [t0,t1,t12,t13]
   rw [Qf (h:=by kernel_rfl)]
   simp [t0,t1,t12,t13,q1,q2,q3,q4,Jk,-cseq]
   refine Qd ?_ ?_<;>intro h5
   ·simp [t0,t1,t12,t13]
    refine ih (xs.length-(i+1)) _ _ ⟨i+1,rfl,by omega,by simp [t0],by simp [t1],by simp [t12],?_,rfl,?_⟩ (by omega)
    ·simp;rw [w64 (by omega) (by omega)]
    ·rw [List.take_succ_eq_append_getElem hx,List.take_succ_eq_append_getElem hy,h4,h5]
   ·simp [t0,t1,t12,t13]
    exact no (fun hh=>h5 (by subst hh;rfl))
  ·have:i=xs.length:=by omega
   subst this
   rw [List.take_length,List.take_of_length_le (by omega)] at h4
   simp [t0,t1,t12,t13]
   rw [← hY];exact decide_eq_true h4
 ·simp
  exact no (fun hh=>h0 (by rw [hh]))
theorem Le (a b:Value) (xs ys:List FlitD) (ha:Rd flF H a xs) (hb:Rd flF H b ys) (hl:xs.length≤1073741824) :
 vcall C frz 77 [a,b] H=some (.bool (decide (xs=ys)),H):=by
 rw [Qb (fn:=Tryz.f77) Tryz.func77 rfl (by kernel_rfl) rfl]
 simp [C7 a b xs ys ha hb hl]
theorem Jg (a b:Value) (hs gs:List Value) (xs ys:SSD) (ha:RdL flF H a hs xs) (hb:RdL flF H b gs ys) (hl:xs.length≤1073741824) (hl2:∀l∈xs,l.length≤1073741824) :
 vcall C frz 76 [a,b,.func (.func 77) #[] #[]] H=some (.bool (decide (xs=ys)),H):=by
 refine wp.exact (by simp) ?_ rfl
 rw [Qb (fn:=Tryz.f76) Tryz.func76 rfl (by kernel_rfl) rfl]
 generalize hY:decide (xs=ys)=Y
 have la:=ha.1.len (P:=Tryz.prog) (ty:=33) (by simp)
 have lb:=hb.1.len (P:=Tryz.prog) (ty:=33) (by simp)
 have ea:=ha.2.1
 have eb:=hb.2.1
 have no:¬xs=ys→Y=false:=fun hh=>by rw [← hY];exact decide_eq_false hh
 simp [la,lb,ea,eb]
 refine Qd ?_ ?_<;>intro h0
 ·have h0':xs.length=ys.length:=by omega
  simp [la,ea]
  refine Qi (fun n t H'=>∃i:Nat,n=xs.length-i∧i≤xs.length∧t 1=b∧t 2=.func (.func 77) #[] #[]∧t 15=a∧t 16=.int .i64 xs.length∧t 17=.int .i64 i∧H'=H∧xs.take i=ys.take i) ?_ (n:=xs.length) ⟨0,rfl,by omega,by simp,by simp,by simp,by simp,by simp,rfl,by simp⟩
  rintro n t H' ⟨i,rfl,hi,t1,t2,t15,t16,t17,rfl,h4⟩ ih
  simp [t1,t2,t15,t16,t17]
  refine Qd ?_ ?_<;>intro h
  ·have hx:i<xs.length:=by omega
   have hy:i<ys.length:=by omega
   obtain ⟨p,_,a2,a3,a4⟩:=W9 ha (ty:=33) (e:=82) (by simp) (by simp) hx
   obtain ⟨q,_,b2,b3,b4⟩:=W9 hb (ty:=33) (e:=82) (by simp) (by simp) hy
   have eq:=fun F=>Le (frz:=F) p q xs[i] ys[i] a4 b4 (hl2 _ (List.getElem_mem hx))
   simp [t1,t2,t15,t16,t17,a2,a3,b2,b3,eq]
   refine Qd ?_ ?_<;>intro h5
   ·simp [t1,t2,t15,t16,t17]
    refine ih (xs.length-(i+1)) _ _ ⟨i+1,rfl,by omega,by simp [t1],by simp [t2],by simp [t15],by simp [t16],?_,rfl,?_⟩ (by omega)
    ·simp;rw [w64 (by omega) (by omega)]
    ·rw [List.take_succ_eq_append_getElem hx,List.take_succ_eq_append_getElem hy,h4,h5]
   ·simp [t1,t2,t15,t16,t17]
    exact no (fun hh=>h5 (by subst hh;rfl))
  ·have:i=xs.length:=by omega
   subst this
   rw [List.take_length,List.take_of_length_le (by omega)] at h4
   simp [t1,t2,t15,t16,t17]
   rw [← hY];exact decide_eq_true h4
 ·simp
  exact no (fun hh=>h0 (by rw [hh]))
theorem Kv (a b:Value) (hs gs:List Value) (xs ys:SSD) (ha:RdL flF H a hs xs) (hb:RdL flF H b gs ys) (hl:xs.length≤1073741824) (hl2:∀l∈xs,l.length≤1073741824) :
 vcall C frz 52 [a,b] H=some (.bool (decide (xs=ys)),H):=by
 rw [Qb (fn:=Tryz.f52) Tryz.func52 rfl (by kernel_rfl) rfl]
 simp [Jg a b hs gs xs ys ha hb hl hl2]
theorem Z8 {a b:SSV} {x y:SSD} (ha:dSS.Ow H a x) (hb:dSS.Ow H b y):vcall C frz 52 [a.1,b.1] H=some (.bool (decide (x=y)),H):=
 Kv a.1 b.1 a.2 b.2 x y ha.1.rd hb.1.rd (by have:=ha.2.1;omega) (fun l hl=>by have:=ha.2.2 l hl;omega)
theorem Ud {a b:Value} {x y:List Int} (ha:dIntS.Ow H a x) (hb:dIntS.Ow H b y):vcall C frz 53 [a,b] H=some (.bool (decide (x=y)),H):=
 Jl a b x y ha.1.rd hb.1.rd ha.2
theorem Iy {a b:Value} {w h w' h':Int} {x y:List Int} (ha:dMesh.Ow H a (w,h,x)) (hb:dMesh.Ow H b (w',h',y)) :
 vcall C frz 50 [.agg #[.int .i64 w,.int .i64 h,a],.agg #[.int .i64 w',.int .i64 h',b]] H=some (.bool ((w == w'&&h == h')&&decide (x=y)),H):=by
 rw [Qb (fn:=Tryz.f50) Tryz.func50 rfl (by kernel_rfl) rfl]
 have oa:=W7 ha
 have ob:=W7 hb
 have e:=fun F L=>Ud (frz:=F) (H:=H++L) (Dt.app (T:=dIntS) ha) (Dt.app (T:=dIntS) hb)
 simp only at e oa ob
 generalize decide (x=y)=Q at *
 simp [oa,ob]
 cases hP:(w == w')<;>cases hP2:(h == h')<;>simp [oa,ob,e]
theorem Oh {a b:Value×Value} {x y:ClassesD} (ha:dClasses.Ow H a x) (hb:dClasses.Ow H b y) :
 vcall C frz 51 [.agg #[a.1,a.2],.agg #[b.1,b.2]] H=some (.bool (decide (x.1=y.1)&&decide (x.2=y.2)),H):=by
 rw [Qb (fn:=Tryz.f51) Tryz.func51 rfl (by kernel_rfl) rfl]
 have oa:=Q5 ha
 have ob:=Q5 hb
 have e1:=fun F L=>Ud (frz:=F) (H:=H++L) (Dt.app (T:=dIntS) ha.1) (Dt.app (T:=dIntS) hb.1)
 have e2:=fun F L=>Ud (frz:=F) (H:=H++L) (Dt.app (T:=dIntS) ha.2) (Dt.app (T:=dIntS) hb.2)
 generalize decide (x.1=y.1)=Q1 at *
 generalize decide (x.2=y.2)=Q2 at *
 simp [oa,ob,e1]
 cases Q1<;>simp [oa,ob,e2]
theorem E4 {a b:NetV} {x y:NetD} (ha:dNet.Ow H a x) (hb:dNet.Ow H b y):vcall C frz 25 [dNet.val a x,dNet.val b y] H=some (.bool (decide (x=y)),H):=by
 have oa:=Qn ha
 have ob:=Qn hb
 obtain ⟨a1,⟨a2,a3⟩,⟨a4,ha4⟩,a5,a6,⟨a7,ha7⟩,⟨a8,ha8⟩,_⟩:=a
 obtain ⟨b1,⟨b2,b3⟩,⟨b4,hb4⟩,b5,b6,⟨b7,hb7⟩,⟨b8,hb8⟩,_⟩:=b
 obtain ⟨⟨w,h,x1⟩,⟨x2,x3⟩,x4,x5,x6,x7,x8,tm⟩:=x
 obtain ⟨⟨w',h',y1⟩,⟨y2,y3⟩,y4,y5,y6,y7,y8,tm'⟩:=y
 obtain ⟨h1,h2,h3,h4,h5,h6,h7,_⟩:=ha
 obtain ⟨k1,k2,k3,k4,k5,k6,k7,_⟩:=hb
 simp only at h1 h2 h3 h4 h5 h6 h7 k1 k2 k3 k4 k5 k6 k7 oa ob
 have e1:=fun F L=>Iy (frz:=F) (H:=H++L) (Dt.app h1) (Dt.app k1)
 have e2:=fun F L=>Oh (frz:=F) (H:=H++L) (Dt.app h2) (Dt.app k2)
 have e3:=fun F L=>Z8 (frz:=F) (H:=H++L) (Dt.app h3) (Dt.app k3)
 have e4:=fun F L=>Ud (frz:=F) (H:=H++L) (Dt.app h4) (Dt.app k4)
 have e5:=fun F L=>Ud (frz:=F) (H:=H++L) (Dt.app h5) (Dt.app k5)
 have e6:=fun F L=>Z8 (frz:=F) (H:=H++L) (Dt.app h6) (Dt.app k6)
 have e7:=fun F L=>Z8 (frz:=F) (H:=H++L) (Dt.app h7) (Dt.app k7)
 simp only at e2 e3 e6 e7
 rw [Qk,Qk]
 refine wp.exact (by simp) ?_ rfl
 rw [Qb (fn:=Tryz.f25) Tryz.func25 rfl (by kernel_rfl) rfl]
 have hY:decide ((((w,h,x1),(x2,x3),x4,x5,x6,x7,x8,tm):NetD)=((w',h',y1),(y2,y3),y4,y5,y6,y7,y8,tm')) =
  (((w == w'&&h == h')&&decide (x1=y1))&&((decide (x2=y2)&&decide (x3=y3))&&(decide (x4=y4)&&(decide (x5=y5)&&(decide (x6=y6)&&(decide (x7=y7)&&(decide (x8=y8)&&decide (tm=tm')))))))):=by
  rw [Bool.eq_iff_iff];simp only [decide_eq_true_eq,Bool.and_eq_true,Prod.mk.injEq,beq_iff_eq,and_assoc]
 generalize decide ((((w,h,x1),(x2,x3),x4,x5,x6,x7,x8,tm):NetD)=((w',h',y1),(y2,y3),y4,y5,y6,y7,y8,tm'))=Y at *
 generalize ((w == w'&&h == h')&&decide (x1=y1))=P1 at *
 generalize (decide (x2=y2)&&decide (x3=y3))=P2 at *
 generalize decide (x4=y4)=P3 at *
 generalize decide (x5=y5)=P4 at *
 generalize decide (x6=y6)=P5 at *
 generalize decide (x7=y7)=P6 at *
 generalize decide (x8=y8)=P7 at *
 simp [oa,ob,e1]
 cases P1
 ·simp [hY]
 simp [oa,ob,e2]
 cases P2
 ·simp [hY]
 simp [oa,ob,e3]
 cases P3
 ·simp [hY]
 simp [oa,ob,e4]
 cases P4
 ·simp [hY]
 simp [oa,ob,e5]
 cases P5
 ·simp [hY]
 simp [oa,ob,e6]
 cases P6
 ·simp [hY]
 simp [oa,ob,e7]
 cases P7
 ·simp [hY]
 simp [oa,ob,hY]
theorem Ic {a b:ChipV} {x y:ChipD} (ha:dChip.Ow H a x) (hb:dChip.Ow H b y):vcall C frz 11 [dChip.val a x,dChip.val b y] H=some (.bool (decide (x=y)),H):=by
 have oa:=Qs ha
 have ob:=Qs hb
 have e1:=fun F L=>E4 (frz:=F) (H:=H++L) (Dt.app (T:=dNet) ha.1) (Dt.app (T:=dNet) hb.1)
 have e2:=fun F L=>Co (frz:=F) (H:=H++L) a.2 b.2 x.2 y.2 ha.2.1.rd.app hb.2.1.rd.app ha.2.2
 simp only [Qk] at e1
 rw [Qj,Qj]
 have hY:decide (x=y)=(decide (x.1=y.1)&&decide (x.2=y.2)):=by
  obtain ⟨x1,x2⟩:=x;obtain ⟨y1,y2⟩:=y
  rw [Bool.eq_iff_iff];simp only [decide_eq_true_eq,Bool.and_eq_true,Prod.mk.injEq]
 refine wp.exact (by simp) ?_ rfl
 rw [Qb (fn:=Tryz.f11) Tryz.func11 rfl (by kernel_rfl) rfl]
 generalize decide (x=y)=Y at *
 generalize decide (x.1=y.1)=P1 at *
 generalize decide (x.2=y.2)=P2 at *
 simp [oa,ob,e1]
 cases P1
 ·simp [hY]
 simp [oa,ob,e2]
 cases P2<;>simp [hY]
end Go.Proofs.YtdhjhjbfplajfaaGreat.V
set_option linter.all false
namespace Go.Proofs.YtdhjhjbfplajfaaGreat.V
open Go Go.VM Go.Proofs
def G (xs:List Int) (i:Nat):Int:=xs.getD i 0
theorem Pb {xs:List Int} {i:Nat} (h:i<xs.length):G xs i=xs[i]:=by simp [G,List.getD_eq_getElem?_getD,h]
def swp (xs:List Int) (i j:Nat):List Int:=(xs.set i (G xs j)).set j (G xs i)
@[simp] theorem wy (xs:List Int) (i j:Nat):(swp xs i j).length=xs.length:=by simp [swp]
theorem Yk {xs:List Int} {i j:Nat} (hi:i<xs.length) (hj:j<xs.length) (k:Nat):G (swp xs i j) k=if k=j then G xs i else if k=i then G xs j else G xs k:=by
 unfold swp
 by_cases hk:k<xs.length
 ·rw [Pb (by simpa using hk),List.getElem_set,List.getElem_set]
  by_cases h1:k=j
  ·rw [if_pos h1.symm,if_pos h1]
  ·rw [if_neg (Ne.symm h1),if_neg h1]
   by_cases h2:k=i
   ·rw [if_pos h2.symm,if_pos h2]
   ·rw [if_neg (Ne.symm h2),if_neg h2,Pb hk]
 ·rw [if_neg (by omega),if_neg (by omega)]
  simp [G,List.getD_eq_getElem?_getD,hk]
theorem C3 {xs:List Int} {i j:Nat} (hi:i<xs.length) (hj:j<xs.length):(swp xs i j).Perm xs:=by
 unfold swp
 rw [Pb hi,Pb hj]
 exact List.set_set_perm hi hj
inductive Sw (a b:Nat) (xs:List Int):List Int→Prop
 | refl:Sw a b xs xs
 | step {ys:List Int} (i j:Nat) (h:Sw a b xs ys) (hi:a≤i∧i<b) (hj:a≤j∧j<b):Sw a b xs (swp ys i j)
variable {a b c d:Nat} {xs ys zs:List Int}
theorem Sw.len (h:Sw a b xs ys):ys.length=xs.length:=by
 induction h with
 | refl=>rfl
 | step i j _ _ _ ih=>rw [wy,ih]
theorem Sw.trans (h:Sw a b xs ys) (h':Sw a b ys zs):Sw a b xs zs:=by
 induction h' with
 | refl=>exact h
 | step i j _ hi hj ih=>exact .step i j ih hi hj
theorem Sw.mono (h:Sw a b xs ys) (ha:c≤a) (hb:b≤d):Sw c d xs ys:=by
 induction h with
 | refl=>exact .refl
 | step i j _ hi hj ih=>exact .step i j ih (by omega) (by omega)
theorem Sw.perm (h:Sw a b xs ys) (hb:b≤xs.length):ys.Perm xs:=by
 induction h with
 | refl=>exact List.Perm.refl _
 | step i j g hi hj ih=>exact (C3 (by rw [g.len];omega) (by rw [g.len];omega)).trans ih
theorem Sw.out (h:Sw a b xs ys) (hb:b≤xs.length) {k:Nat} (hk:k<a∨b≤k):G ys k=G xs k:=by
 induction h with
 | refl=>rfl
 | step i j g hi hj ih=>rw [Yk (by rw [g.len];omega) (by rw [g.len];omega),if_neg (by omega),if_neg (by omega),ih]
theorem Sw.all (h:Sw a b xs ys) (hb:b≤xs.length) {p:Int→Prop} (hp:∀k,a≤k→k<b→p (G xs k)):∀k,a≤k→k<b→p (G ys k):=by
 induction h with
 | refl=>exact hp
 | step i j g hi hj ih=>
  intro k h1 h2
  rw [Yk (by rw [g.len];omega) (by rw [g.len];omega)]
  split
  ·exact ih i hi.1 hi.2
  ·split
   ·exact ih j hj.1 hj.2
   ·exact ih k h1 h2
theorem Sw.all' (h:Sw a b xs ys) (hb:b≤xs.length) {p:Int→Prop} (hc:c≤a) (hd:b≤d) (hp:∀k,c≤k→k<d→p (G xs k)):∀k,c≤k→k<d→p (G ys k):=by
 intro k h1 h2
 by_cases hk:a≤k∧k<b
 ·exact h.all hb (fun q g1 g2=>hp q (by omega) (by omega)) k hk.1 hk.2
 ·rw [h.out hb (by omega)];exact hp k h1 h2
def Srt (ys:List Int) (a b:Nat):Prop:=∀p q,a≤p→p<q→q<b→G ys p≤G ys q
theorem Srt.short (h:b≤a+1):Srt ys a b:=fun p q h1 h2 h3=>by omega
theorem Srt.frame (h:Srt ys a b) (he:∀k,a≤k→k<b→G zs k=G ys k):Srt zs a b:=fun p q h1 h2 h3=>by
 rw [he p h1 (by omega),he q (by omega) h3];exact h p q h1 h2 h3
theorem Srt.join (h1:Srt ys a b) (h2:Srt ys b c) (h:∀p q,a≤p→p<b→b≤q→q<c→G ys p≤G ys q):Srt ys a c:=fun p q h3 h4 h5=>by
 by_cases hq:q<b
 ·exact h1 p q h3 h4 hq
 ·by_cases hp:p<b
  ·exact h p q h3 hp (by omega) h5
  ·exact h2 p q (by omega) h4 h5
theorem Srt.pairwise (h:Srt ys 0 ys.length):ys.Pairwise (·≤·):=by
 rw [List.pairwise_iff_getElem]
 intro i j hi hj hij
 have:=h i j (Nat.zero_le _) hij hj
 rwa [Pb hi,Pb hj] at this
def Ins (ys:List Int) (a i j:Nat):Prop:=∀p q,a≤p→p<q→q≤i→q≠j→G ys p≤G ys q
theorem Ins.start (h:Srt ys a b):Ins ys a b b:=fun p q h1 h2 h3 h4=>h p q h1 h2 (by omega)
theorem Ins.step {i j:Nat} (h:Ins ys a i j) (hi:i<ys.length) (ha:a<j) (hj:j≤i) (hlt:G ys j<G ys (j-1)):Ins (swp ys j (j-1)) a i (j-1):=by
 intro p q h1 h2 h3 h4
 rw [Yk (by omega) (by omega),Yk (by omega) (by omega)]
 rw [if_neg h4]
 by_cases hp:p=j-1
 ·rw [if_pos hp]
  by_cases hq:q=j
  ·rw [if_pos hq];omega
  ·rw [if_neg hq];have:=h (j-1) q (by omega) (by omega) h3 hq;omega
 ·rw [if_neg hp]
  by_cases hpj:p=j
  ·rw [if_pos hpj]
   rw [if_neg (by omega)]
   exact h (j-1) q (by omega) (by omega) h3 (by omega)
  ·rw [if_neg hpj]
   by_cases hq:q=j
   ·rw [if_pos hq];exact h p (j-1) h1 (by omega) (by omega) (by omega)
   ·rw [if_neg hq];exact h p q h1 h2 h3 hq
theorem Ins.done {i j:Nat} (h:Ins ys a i j) (hj:j=a∨(a<j∧G ys (j-1)≤G ys j)):Srt ys a (i+1):=by
 intro p q h1 h2 h3
 by_cases hq:q=j
 ·subst hq
  rcases hj with hj|⟨hj,hle⟩
  ·omega
  ·by_cases hp:p=q-1
   ·rw [hp];exact hle
   ·have:=h p (q-1) h1 (by omega) (by omega) (by omega);omega
 ·exact h p q h1 h2 (by omega) hq
def Hp (ys:List Int) (f lo n:Nat):Prop:=∀r c,lo≤r→(c=2*r+1∨c=2*r+2)→c<n→G ys (f+c)≤G ys (f+r)
def HpB (ys:List Int) (f lo n r:Nat):Prop:=
 (∀s c,lo≤s→s≠r→(c=2*s+1∨c=2*s+2)→c<n→G ys (f+c)≤G ys (f+s))∧
 (∀s c,lo≤s→(r=2*s+1∨r=2*s+2)→(c=2*r+1∨c=2*r+2)→c<n→G ys (f+c)≤G ys (f+s))
theorem HpB.start {f lo n:Nat} (h:Hp ys f (lo+1) n):HpB ys f lo n lo:=
 ⟨fun s c h1 h2 h3 h4=>h s c (by omega) h3 h4,fun s c h1 h2=>by omega⟩
theorem HpB.done {f lo n r:Nat} (h:HpB ys f lo n r) (hd:∀c,(c=2*r+1∨c=2*r+2)→c<n→G ys (f+c)≤G ys (f+r)):Hp ys f lo n:=fun s c h1 h2 h3=>by
 by_cases hs:s=r
 ·subst hs;exact hd c h2 h3
 ·exact h.1 s c h1 hs h2 h3
theorem HpB.step {f lo n r c:Nat} (h:HpB ys f lo n r) (hl:f+n≤ys.length) (hlo:lo≤r) (hc:c=2*r+1∨c=2*r+2) (hn:c<n) (hlt:G ys (f+r)<G ys (f+c))
 (hbig:∀q,(q=2*r+1∨q=2*r+2)→q<n→G ys (f+q)≤G ys (f+c)):HpB (swp ys (f+r) (f+c)) f lo n c:=by
 have gc:G (swp ys (f+r) (f+c)) (f+c)=G ys (f+r):=by rw [Yk (by omega) (by omega),if_pos rfl]
 have gr:G (swp ys (f+r) (f+c)) (f+r)=G ys (f+c):=by rw [Yk (by omega) (by omega),if_neg (by omega),if_pos rfl]
 have go:∀k,k≠c→k≠r→G (swp ys (f+r) (f+c)) (f+k)=G ys (f+k):=fun k h1 h2=>by rw [Yk (by omega) (by omega),if_neg (by omega),if_neg (by omega)]
 refine ⟨fun s q h1 h2 h3 h4=>?_,fun s q h1 h2 h3 h4=>?_⟩
 ·by_cases hq:q=c
  ·have hs:s=r:=by omega
   subst hq hs
   rw [gc,gr];omega
  ·by_cases hs:s=r
   ·subst hs
    rw [gr,go q hq (by omega)]
    exact hbig q h3 h4
   ·by_cases hqr:q=r
    ·subst hqr
     rw [gr,go s h2 hs]
     exact h.2 s c h1 h3 hc hn
    ·rw [go q hq hqr,go s h2 hs];exact h.1 s q h1 hs h3 h4
 ·have hs:s=r:=by omega
  subst hs
  rw [gr,go q (by omega) (by omega)]
  exact h.1 c q (by omega) (by omega) h3 h4
theorem Hp.top {f n:Nat} (h:Hp ys f 0 n):∀c,c<n→G ys (f+c)≤G ys f:=by
 intro c
 induction c using Nat.strongRecOn with
 | _ c ih=>
  intro hc
  by_cases h0:c=0
  ·subst h0;exact Int.le_refl _
  ·have h1:=h ((c-1)/2) c (by omega) (by omega) hc
   have h2:=ih ((c-1)/2) (by omega) (by omega)
   omega
theorem Hp.frame {f lo n:Nat} (h:Hp ys f lo n) (he:∀k,lo≤k→k<n→G zs (f+k)=G ys (f+k)):Hp zs f lo n:=fun r c h1 h2 h3=>by
 rw [he c (by omega) h3,he r h1 (by omega)];exact h r c h1 h2 h3
end Go.Proofs.YtdhjhjbfplajfaaGreat.V
set_option linter.all false
namespace Go.Proofs.YtdhjhjbfplajfaaGreat.V
open Go Go.VM Go.Proofs
set_option maxRecDepth 10000
variable {frz:Nat} {H:Heap} {v:Value} {xs:List Int} {e:TypeId}
theorem Qt (o:Ow Fl.int e H v xs) {i:Nat} (h1:i<xs.length):vindexAddr Tryz.prog H 26 v (.int .i64 i)=some (elp v i):=by
 have:=o.rd.isI.idx (P:=Tryz.prog) (ty:=26) (e:=3) (by simp) (i:=(i:Int)) (by omega) (by omega)
 simpa using this
theorem Qv (o:Ow Fl.int e H v xs) {i:Nat} (h1:i<xs.length):vload Tryz.prog H 3 (elp v i)=some (.int .i64 (G xs i)):=
 o.rd.isI.load (P:=Tryz.prog) (e:=3) (by simp) h1
theorem Ww (o:Ow Fl.int e H v xs) {i j:Nat} (hi:i<xs.length) (hj:j<xs.length) (hf:∀i∈ids v,frz≤i) :
 ∃H1 H2,vstore Tryz.prog frz H 3 (.int .i64 (G xs j)) (elp v i)=some H1∧(∀k:Nat,k<xs.length→vindexAddr Tryz.prog H1 26 v (.int .i64 k)=some (elp v k))∧
  vstore Tryz.prog frz H1 3 (.int .i64 (G xs i)) (elp v j)=some H2∧Ow Fl.int e H2 v (swp xs i j)∧Chg H H2 (ids v)∧H2.length=H.length:=by
 obtain ⟨H1,s1,o1,c1,l1⟩:=o.put1 (P:=Tryz.prog) (frz:=frz) rfl (et:=3) (ag:=false) (by simp) hi (x:=.int .i64 (G xs j)) (y:=G xs j) rfl rfl rfl hf
 obtain ⟨H2,s2,o2,c2,l2⟩:=o1.put1 (P:=Tryz.prog) (frz:=frz) rfl (et:=3) (ag:=false) (by simp) (j:=j) (by simpa using hj) (x:=.int .i64 (G xs i)) (y:=G xs i) rfl rfl rfl hf
 exact ⟨H1,H2,s1,fun k hk=>Qt o1 (by simpa using hk),s2,o2,c1.trans c2,by omega⟩
def Swd (H:Heap) (v:Value) (xs:List Int) (e:TypeId) (a b:Nat) (K:List Int→Prop) (H':Heap):Prop:=
 ∃ys,Sw a b xs ys∧K ys∧Ow Fl.int e H' v ys∧Chg H H' (ids v)∧H'.length=H.length
theorem Xm (a b:Int):vcall C frz 146 [.int .i64 a,.int .i64 b] H=some (.bool (decide (a<b)),H):=by
 have nan:=fun (F:Nat) (H:Heap) (a:Int)=>show vcall C F 167 [.int .i64 a] H=some (.bool false,H) by
  rw [Qb (fn:=Tryz.f167) Tryz.func167 rfl (by kernel_rfl) rfl]
  simp
 rw [Qb (fn:=Tryz.f146) Tryz.func146 rfl (by kernel_rfl) rfl]
 simp [nan]
theorem Dk (v:Value) (xs:List Int) (e:TypeId) (a b:Nat) (h:Ow Fl.int e H v xs) (hab:a≤b) (hb:b≤xs.length) (hl:xs.length≤1073741824) (hf:∀i∈ids v,frz≤i) :
 wp (vcall C frz 140 [v,.int .i64 a,.int .i64 b] H) (fun _ H'=>Swd H v xs e a b (fun ys=>Srt ys a b) H'):=by
 rw [Qb (fn:=Tryz.f140) Tryz.func140 rfl (by kernel_rfl) rfl]
 simp
 refine Qi (fun n t H'=>∃i:Nat,n=b-i∧t 0=v∧t 1=.int .i64 a∧t 2=.int .i64 b∧t 6=.int .i64 i∧a+1≤i∧i≤max (a+1) b∧Swd H v xs e a b (fun ys=>Srt ys a i) H') ?_ (n:=b-(a+1))
  ⟨a+1,by simp,by simp,by simp,by simp,by simp;exact w64 (by omega) (by omega),by omega,by omega,xs,.refl,Srt.short (by omega),h,Chg.refl _,rfl⟩
 rintro n t H' ⟨i,rfl,h0,h1,h2,h6,ha,hi,ys,sw,sr,o,c,l⟩ ih
 simp [h0,h1,h2,h6]
 refine Qd ?_ ?_<;>intro hib
 ·simp [h0,h1,h2,h6]
  refine Qi (fun n t H'=>∃j:Nat,n=j∧t 0=v∧t 1=.int .i64 a∧t 2=.int .i64 b∧t 6=.int .i64 i∧t 7=.int .i64 j∧a≤j∧j≤i∧Swd H v xs e a b (fun ys=>Ins ys a i j) H') ?_ (n:=i)
   ⟨i,rfl,by simp [h0],by simp [h1],by simp [h2],by simp [h6],by simp,by omega,by omega,ys,sw,Ins.start sr,o,c,l⟩
  rintro j t H' ⟨_,rfl,h0,h1,h2,h6,h7,haj,hji,ys,sw,ins,o,c,l⟩ ih2
  have len:=sw.len
  simp [h0,h1,h2,h6,h7]
  rw [Qf (h:=by kernel_rfl)]
  simp [h0,h1,h2,h6,h7]
  refine Wq ?_ ?_<;>intro hja
  ·have e1:IntKind.i64.wrap ((j:Int)-1)=((j-1:Nat):Int):=by rw [w64 (by omega) (by omega)];omega
   have p1:j<ys.length:=by omega
   have p2:j-1<ys.length:=by omega
   simp [h0,h1,h2,h6,h7,hja,e1,Qt o p1,Qt o p2,Qv o p1,Qv o p2,Xm]
   have out:∀t':Env,t' 0=v→t' 1=.int .i64 a→t' 2=.int .i64 b→t' 6=.int .i64 (IntKind.i64.wrap ((i:Int)+1))→(j=a∨(a<j∧G ys (j-1)≤G ys j))→
    ∃i':Nat,b-(i+1)=b-i'∧t' 0=v∧t' 1=.int .i64 a∧t' 2=.int .i64 b∧t' 6=.int .i64 i'∧a+1≤i'∧i'≤max (a+1) b∧Swd H v xs e a b (fun ys=>Srt ys a i') H':=by
    intro t' g0 g1 g2 g6 hj
    exact ⟨i+1,rfl,g0,g1,g2,by rw [g6,w64 (by omega) (by omega)];simp,by omega,by omega,ys,sw,ins.done hj,o,c,l⟩
   refine Qd ?_ ?_<;>intro hlt
   ·simp [h0,h1,h2,h6,h7]
    rw [Qf (h:=by kernel_rfl)]
    obtain ⟨H1,H2,s1,ix,s2,o2,c2,l2⟩:=Ww o p1 p2 hf
    simp [h0,h1,h2,h6,h7,e1,Qt o p1,Qt o p2,Qv o p1,Qv o p2,s1,ix _ p1,ix _ p2,s2]
    refine ih2 (j-1) _ _ ⟨j-1,rfl,by simp [h0],by simp [h1],by simp [h2],by simp [h6],by simp [e1],by omega,by omega,_,sw.step j (j-1) (by omega) (by omega),?_,o2,c.trans c2,by omega⟩ (by omega)
    exact ins.step (by omega) hja hji hlt
   ·simp [h0,h1,h2,h6,h7]
    refine ih (b-(i+1)) _ _ (out _ ?_ ?_ ?_ ?_ (.inr ⟨hja,by omega⟩)) (by omega)<;>simp [h0,h1,h2]
  ·simp [h0,h1,h2,h6,h7,hja]
   refine ih (b-(i+1)) _ _ ⟨i+1,rfl,by simp [h0],by simp [h1],by simp [h2],?_,by omega,by omega,ys,sw,ins.done (.inl (by omega)),o,c,l⟩ (by omega)
   simp;exact w64 (by omega) (by omega)
 ·have:i=max (a+1) b:=by omega
  simp
  exact ⟨ys,sw,fun p q h1 h2 h3=>sr p q h1 h2 (by omega),o,c,l⟩
theorem Pr (v:Value) (xs:List Int) (e:TypeId) (lo n f:Nat) (h:Ow Fl.int e H v xs) (hp:Hp xs f (lo+1) n) (hlo:lo≤n) (hn:f+n≤xs.length) (hl:xs.length≤1073741824) (hf:∀i∈ids v,frz≤i) :
 wp (vcall C frz 162 [v,.int .i64 lo,.int .i64 n,.int .i64 f] H) (fun _ H'=>Swd H v xs e (f+lo) (f+n) (fun ys=>Hp ys f lo n) H'):=by
 rw [Qb (fn:=Tryz.f162) Tryz.func162 rfl (by kernel_rfl) rfl]
 simp
 refine Qi (fun m t H'=>∃r:Nat,m=n-r∧t 0=v∧t 2=.int .i64 n∧t 3=.int .i64 f∧t 8=.int .i64 r∧lo≤r∧r≤n∧Swd H v xs e (f+lo) (f+n) (fun ys=>HpB ys f lo n r) H') ?_ (n:=n-lo)
  ⟨lo,rfl,by simp,by simp,by simp,by simp,by omega,by omega,xs,.refl,HpB.start hp,h,Chg.refl _,rfl⟩
 rintro m t H' ⟨r,rfl,h0,h2,h3,h8,hlr,hrn,ys,sw,hb,o,c,l⟩ ih
 have len:=sw.len
 obtain ⟨c1,hc1⟩:∃c1,c1=2*r+1:=⟨_,rfl⟩
 obtain ⟨c2,hc2⟩:∃c2,c2=2*r+2:=⟨_,rfl⟩
 obtain ⟨d0,hd0⟩:∃d0,d0=f+r:=⟨_,rfl⟩
 obtain ⟨d1,hd1⟩:∃d1,d1=f+c1:=⟨_,rfl⟩
 obtain ⟨d2,hd2⟩:∃d2,d2=f+c2:=⟨_,rfl⟩
 have e1:IntKind.i64.wrap (IntKind.i64.wrap (2*(r:Int))+1)=(c1:Int):=by rw [w64 (x:=2*(r:Int)) (by omega) (by omega),w64 (by omega) (by omega)];omega
 simp [h0,h2,h3,h8,e1]
 refine Qd ?_ ?_<;>intro hc
 ·simp
  exact ⟨ys,sw,hb.done (fun q h1 h2=>by omega),o,c,l⟩
 ·have e2:IntKind.i64.wrap ((c1:Int)+1)=(c2:Int):=by rw [w64 (by omega) (by omega)];omega
  have e3:IntKind.i64.wrap ((f:Int)+(c1:Int))=(d1:Int):=by rw [w64 (by omega) (by omega)];omega
  have e4:IntKind.i64.wrap ((d1:Int)+1)=(d2:Int):=by rw [w64 (by omega) (by omega)];omega
  have e5:IntKind.i64.wrap ((f:Int)+(r:Int))=(d0:Int):=by rw [w64 (by omega) (by omega)];omega
  have p0:d0<ys.length:=by omega
  have p1:d1<ys.length:=by omega
  refine (fun (rest:∀(q:Nat) (t':Env),(q=2*r+1∨q=2*r+2)→q<n→(∀p,(p=2*r+1∨p=2*r+2)→p<n→G ys (f+p)≤G ys (f+q))→
   t' 0=v→t' 2=.int .i64 n→t' 3=.int .i64 f→t' 8=.int .i64 r→t' 9=.int .i64 q→wp (go ?F ?k .normal t' H') ?Q)=>?main) ?rest
  case main=>
   simp [h0,h2,h3,h8,hc,e2]
   rw [Qf (h:=by kernel_rfl)]
   simp [h0,h2,h3,h8,e2]
   refine Wq ?_ ?_<;>intro g1
   ·have p2:d2<ys.length:=by omega
    simp [h0,h2,h3,h8,e2,g1,e3,e4,Qt o p1,Qt o p2,Qv o p1,Qv o p2,Xm]
    refine Qd ?_ ?_<;>intro g2<;>simp [e2]
    ·refine rest c2 _ (.inr hc2) g1 (fun p g3 g4=>?_) ?_ ?_ ?_ ?_ ?_<;>try simp [h0,h2,h3,h8]
     rw [← hd2]
     rcases g3 with g3|g3
     ·rw [g3,← hc1,← hd1];omega
     ·rw [g3,← hc2,← hd2];omega
    ·refine rest c1 _ (.inl hc1) (by omega) (fun p g3 g4=>?_) ?_ ?_ ?_ ?_ ?_<;>try simp [h0,h2,h3,h8]
     rw [← hd1]
     rcases g3 with g3|g3
     ·rw [g3,← hc1,← hd1];omega
     ·rw [g3,← hc2,← hd2];omega
   ·simp [h0,h2,h3,h8,e2,g1]
    refine rest c1 _ (.inl hc1) (by omega) (fun p g3 g4=>?_) ?_ ?_ ?_ ?_ ?_<;>try simp [h0,h2,h3,h8]
    have:p=c1:=by omega
    rw [this];omega
  case rest=>
   intro q t hq hqn hbig h0 h2 h3 h8 h9
   obtain ⟨dq,hdq⟩:∃dq,dq=f+q:=⟨_,rfl⟩
   have e6:IntKind.i64.wrap ((f:Int)+(q:Int))=(dq:Int):=by rw [w64 (by omega) (by omega)];omega
   have pq:dq<ys.length:=by omega
   rw [← hdq] at hbig
   rw [Qf (h:=by kernel_rfl)]
   simp [h0,h2,h3,h8,h9,e5,e6,Qt o p0,Qt o pq,Qv o p0,Qv o pq,Xm]
   refine Qd ?_ ?_<;>intro g1
   ·simp [h0,h2,h3,h8,h9]
    rw [Qf (h:=by kernel_rfl)]
    obtain ⟨H1,H2,s1,ix,s2,o2,c3,l2⟩:=Ww o p0 pq hf
    simp [h0,h2,h3,h8,h9,e5,e6,Qt o p0,Qt o pq,Qv o p0,Qv o pq,s1,ix _ p0,ix _ pq,s2]
    refine ih (n-q) _ _ ⟨q,rfl,by simp [h0],by simp [h2],by simp [h3],by simp,by omega,by omega,_,sw.step d0 dq (by omega) (by omega),?_,o2,c.trans c3,by omega⟩ (by omega)
    subst hd0 hdq
    exact hb.step (by omega) hlr hq hqn g1 hbig
   ·simp
    subst hd0 hdq
    exact ⟨ys,sw,hb.done (fun p g3 g4=>by have:=hbig p g3 g4;omega),o,c,l⟩
theorem Gx (v:Value) (xs:List Int) (e:TypeId) (a b:Nat) (h:Ow Fl.int e H v xs) (hab:a<b) (hb:b≤xs.length) (hl:xs.length≤1073741824) (hf:∀i∈ids v,frz≤i) :
 wp (vcall C frz 141 [v,.int .i64 a,.int .i64 b] H) (fun _ H'=>Swd H v xs e a b (fun ys=>Srt ys a b) H'):=by
 rw [Qb (fn:=Tryz.f141) Tryz.func141 rfl (by kernel_rfl) rfl]
 obtain ⟨n,hn⟩:∃n,n=b-a:=⟨_,rfl⟩
 have e1:IntKind.i64.wrap ((b:Int)-a)=(n:Int):=by rw [w64 (by omega) (by omega)];omega
 have e2:IntKind.i64.wrap ((n:Int)-1)=((n-1:Nat):Int):=by rw [w64 (by omega) (by omega)];omega
 have e3:IntKind.i64.wrap (((n-1:Nat):Int)/2)=(((n-1)/2+1:Nat):Int)-1:=by rw [w64 (by omega) (by omega)];omega
 have e4:((n:Int)-1)=((n-1:Nat):Int):=by omega
 have hbn:a+n=b:=by omega
 simp [e1,e2,e3]
 refine Qi (fun m t H'=>∃k:Nat,m=k∧t 0=v∧t 6=.int .i64 a∧t 7=.int .i64 0∧t 8=.int .i64 n∧t 9=.int .i64 ((k:Int)-1)∧k≤n∧Swd H v xs e a b (fun ys=>Hp ys a k n) H') ?_ (n:=(n-1)/2+1)
  ⟨(n-1)/2+1,rfl,by simp,by simp,by simp,by simp,by simp,by omega,xs,.refl,fun r c h1 h2 h3=>by omega,h,Chg.refl _,rfl⟩
 rintro k t H' ⟨_,rfl,h0,h6,h7,h8,h9,hkn,ys,sw,hp,o,c,l⟩ ih
 have len:=sw.len
 simp [h0,h6,h7,h8,h9]
 refine Qd ?_ ?_<;>intro hk
 ·obtain ⟨k,rfl⟩:∃k',k=k'+1:=⟨k-1,by omega⟩
  have e5:((k+1:Nat):Int)-1=(k:Int):=by omega
  rw [e5] at h9
  simp [h0,h6,h7,h8,h9]
  refine Qc (Pr v ys e k n a o hp (by omega) (by omega) (by omega) hf) ?_
  rintro _ H1 ⟨zs,sw1,hp1,o1,c1,l1⟩
  simp [h0,h6,h7,h8,h9]
  refine ih k _ _ ⟨k,rfl,by simp [h0],by simp [h6],by simp [h7],by simp [h8],?_,by omega,zs,sw.trans (sw1.mono (by omega) (by omega)),hp1,o1,c.trans c1,by omega⟩ (by omega)
  simp;rw [w64 (by omega) (by omega)]
 ·obtain rfl:k=0:=by omega
  simp [h0,h6,h7,h8,h9,e2]
  refine Qi (fun m t H'=>∃k:Nat,m=k∧t 0=v∧t 6=.int .i64 a∧t 7=.int .i64 0∧t 10=.int .i64 ((k:Int)-1)∧k≤n∧
   Swd H v xs e a b (fun ys=>Hp ys a 0 k∧Srt ys (a+k) b∧∀p q,a≤p→p<a+k→a+k≤q→q<b→G ys p≤G ys q) H') ?_ (n:=n)
   ⟨n,rfl,by simp [h0],by simp [h6],by simp [h7],by simp [e4],by omega,ys,sw,⟨hp,Srt.short (by omega),fun p q h1 h2 h3 h4=>by omega⟩,o,c,l⟩
  clear ih h0 h6 h7 h8 h9 o c l hp sw len
  rintro k t H' ⟨_,rfl,h0,h6,h7,h10,hkn,ys,sw,⟨hp,hs,hle⟩,o,c,l⟩ ih
  have len:=sw.len
  simp [h0,h6,h7,h10]
  refine Qd ?_ ?_<;>intro hk
  ·obtain ⟨k,rfl⟩:∃k',k=k'+1:=⟨k-1,by omega⟩
   have e5:((k+1:Nat):Int)-1=(k:Int):=by omega
   rw [e5] at h10
   obtain ⟨d,hd⟩:∃d,d=a+k:=⟨_,rfl⟩
   have e6:IntKind.i64.wrap ((a:Int)+(k:Int))=(d:Int):=by rw [w64 (by omega) (by omega)];omega
   have p0:a<ys.length:=by omega
   have p1:d<ys.length:=by omega
   obtain ⟨H1,H2,s1,ix,s2,o2,c2,l2⟩:=Ww o p0 p1 hf
   simp [h0,h6,h7,h10]
   rw [Qf (h:=by kernel_rfl)]
   simp [h0,h6,h7,h10,e6,Qt o p0,Qt o p1,Qv o p0,Qv o p1,s1,ix _ p0,ix _ p1,s2]
   have gs:=fun q=>Yk (xs:=ys) p0 p1 q
   refine Qc (Pr v _ e 0 k a o2 (fun r q h1 h2 h3=>?_) (by omega) (by simp;omega) (by simp;omega) hf) ?_
   ·rw [gs,gs,if_neg (by omega),if_neg (by omega),if_neg (by omega),if_neg (by omega)]
    exact hp r q (by omega) h2 (by omega)
   ·rintro _ H3 ⟨zs,sw1,hp1,o3,c3,l3⟩
    simp only [Nat.add_zero] at sw1
    have hlz:a+k≤(swp ys a d).length:=by simp;omega
    have top:=hp.top
    have hz:∀q,q<a∨a+k≤q→G zs q=G (swp ys a d) q:=fun q hq=>sw1.out hlz hq
    have zd:G zs d=G ys a:=by rw [hz d (by omega),gs,if_pos rfl]
    have zo:∀q,d<q→q<b→G zs q=G ys q:=fun q h1 h2=>by rw [hz q (by omega),gs,if_neg (by omega),if_neg (by omega)]
    have zlo:∀p,a≤p→p<a+k→G zs p≤G ys a∧∀q,d<q→q<b→G zs p≤G ys q:=sw1.all (p:=fun x=>x≤G ys a∧∀q,d<q→q<b→x≤G ys q) hlz (fun p h1 h2=>by
     rw [gs,if_neg (by omega)]
     split
     ·have:=top k (by omega);rw [← hd] at this
      exact ⟨this,fun q g1 g2=>hle d q (by omega) (by omega) (by omega) g2⟩
     ·have:=top (p-a) (by omega);rw [show a+(p-a)=p by omega] at this
      exact ⟨this,fun q g1 g2=>hle p q (by omega) (by omega) (by omega) g2⟩)
    simp [h0,h6,h7,h10]
    refine ih k _ _ ⟨k,rfl,by simp [h0],by simp [h6],by simp [h7],?_,by omega,zs,(sw.step a d (by omega) (by omega)).trans (sw1.mono (by omega) (by omega)),⟨hp1,fun p q h1 h2 h3=>?_,fun p q h1 h2 h3 h4=>?_⟩,o3,c.trans (c2.trans c3),by omega⟩ (by omega)
    ·simp;rw [w64 (by omega) (by omega)]
    ·rw [zo q (by omega) h3]
     by_cases hpd:p=d
     ·rw [hpd,zd];exact hle a q (by omega) (by omega) (by omega) h3
     ·rw [zo p (by omega) (by omega)];exact hs p q (by omega) h2 h3
    ·by_cases hq:q=d
     ·rw [hq,zd];exact (zlo p h1 h2).1
     ·rw [zo q (by omega) h4];exact (zlo p h1 h2).2 q (by omega) h4
  ·obtain rfl:k=0:=by omega
   simp
   exact ⟨ys,sw,hs,o,c,l⟩
theorem Iq (v:Value) (xs:List Int) (e:TypeId) (a b:Nat) (h:Ow Fl.int e H v xs) (hab:a<b) (hb:b≤xs.length) (hl:xs.length≤1073741824) (hf:∀i∈ids v,frz≤i) :
 wp (vcall C frz 144 [v,.int .i64 a,.int .i64 b] H) (fun _ H'=>Swd H v xs e a b (fun ys=>True) H'):=by
 rw [Qb (fn:=Tryz.f144) Tryz.func144 rfl (by kernel_rfl) rfl]
 have e1:IntKind.i64.wrap ((b:Int)-1)=((b-1:Nat):Int):=by rw [w64 (by omega) (by omega)];omega
 simp [e1]
 refine Qi (fun m t H'=>∃i j:Nat,m=j-i∧t 0=v∧t 6=.int .i64 i∧t 7=.int .i64 j∧a≤i∧j<b∧i≤j+1∧Swd H v xs e a b (fun ys=>True) H') ?_ (n:=b-1-a)
  ⟨a,b-1,rfl,by simp,by simp,by simp,by omega,by omega,by omega,xs,.refl,trivial,h,Chg.refl _,rfl⟩
 rintro m t H' ⟨i,j,rfl,h0,h6,h7,hi,hj,hij,ys,sw,_,o,c,l⟩ ih
 have len:=sw.len
 simp [h0,h6,h7]
 refine Qd ?_ ?_<;>intro hk
 ·have p0:i<ys.length:=by omega
  have p1:j<ys.length:=by omega
  obtain ⟨H1,H2,s1,ix,s2,o2,c2,l2⟩:=Ww o p0 p1 hf
  simp [h0,h6,h7]
  rw [Qf (h:=by kernel_rfl)]
  simp [h0,h6,h7,Qt o p0,Qt o p1,Qv o p0,Qv o p1,s1,ix _ p0,ix _ p1,s2]
  refine ih (j-1-(i+1)) _ _ ⟨i+1,j-1,rfl,by simp [h0],?_,?_,by omega,by omega,by omega,_,sw.step i j (by omega) (by omega),trivial,o2,c.trans c2,by omega⟩ (by omega)
  ·simp;rw [w64 (by omega) (by omega)]
  ·simp;rw [w64 (by omega) (by omega)];omega
 ·simp
  exact ⟨ys,sw,trivial,o,c,l⟩
def BoxI (H:Heap) (r:Nat):Prop:=∃s,H[r]? = some ⟨[.int .i64 s],0,3⟩
theorem Rs (v:Value) (xs:List Int) (e:TypeId) (a b r:Nat) (h:Ow Fl.int e H v xs) (ha:a<xs.length) (hb:b<xs.length) (hr:BoxI H r) (hf:frz≤r) :
 wp (vcall C frz 173 [v,.int .i64 a,.int .i64 b,.pointer (some ⟨r,0,some 0⟩)] H)
  (fun u H'=>(∃a' b':Nat,u=.tuple #[.int .i64 a',.int .i64 b']∧((a'=a∧b'=b)∨(a'=b∧b'=a)))∧Chg H H' [r]∧BoxI H' r):=by
 obtain ⟨s,hs⟩:=hr
 rw [Qb (fn:=Tryz.f173) Tryz.func173 rfl (by kernel_rfl) rfl]
 simp
 rw [Qf (h:=by kernel_rfl)]
 simp [Qt h ha,Qt h hb,Qv h ha,Qv h hb,Xm]
 refine Qd ?_ ?_<;>intro g1
 ·simp [vnil,VM.look,hs,hf]
  exact ⟨⟨b,a,⟨rfl,rfl⟩,.inr ⟨rfl,rfl⟩⟩,Qe _ _,_,Qh hs⟩
 ·simp
  exact ⟨⟨a,b,⟨rfl,rfl⟩,.inl ⟨rfl,rfl⟩⟩,Chg.refl _,_,hs⟩
theorem Lg (v:Value) (xs:List Int) (e:TypeId) (a b c r:Nat) (h:Ow Fl.int e H v xs) (ha:a<xs.length) (hb:b<xs.length) (hc:c<xs.length) (hr:BoxI H r) (hf:frz≤r) (hn:r∉ids v) :
 wp (vcall C frz 166 [v,.int .i64 a,.int .i64 b,.int .i64 c,.pointer (some ⟨r,0,some 0⟩)] H)
  (fun u H'=>(∃m:Nat,u=.int .i64 m∧(m=a∨m=b∨m=c))∧Chg H H' [r]∧BoxI H' r):=by
 rw [Qb (fn:=Tryz.f166) Tryz.func166 rfl (by kernel_rfl) rfl]
 simp
 refine Qc (Rs v xs e a b r h ha hb hr hf) ?_
 rintro _ H1 ⟨⟨a1,b1,rfl,h1⟩,c1,r1⟩
 have o1:=h.chg c1 (fun i hi hh=>by simp at hh;subst hh;exact hn hi)
 simp
 refine Qc (Rs v xs e b1 c r o1 (by omega) hc r1 hf) ?_
 rintro _ H2 ⟨⟨b2,c2,rfl,h2⟩,c2',r2⟩
 have o2:=o1.chg c2' (fun i hi hh=>by simp at hh;subst hh;exact hn hi)
 simp
 refine Qc (Rs v xs e a1 b2 r o2 (by omega) (by omega) r2 hf) ?_
 rintro _ H3 ⟨⟨a3,b3,rfl,h3⟩,c3,r3⟩
 simp
 exact ⟨⟨b3,rfl,by omega⟩,c1.trans (c2'.trans c3),r3⟩
theorem Ue (v:Value) (xs:List Int) (e:TypeId) (a r:Nat) (h:Ow Fl.int e H v xs) (h0:0<a) (ha:a+1<xs.length) (hl:xs.length≤1073741824) (hr:BoxI H r) (hf:frz≤r) (hn:r∉ids v) :
 wp (vcall C frz 165 [v,.int .i64 a,.pointer (some ⟨r,0,some 0⟩)] H)
  (fun u H'=>(∃m:Nat,u=.int .i64 m∧(m+1=a∨m=a∨m=a+1))∧Chg H H' [r]∧BoxI H' r):=by
 rw [Qb (fn:=Tryz.f165) Tryz.func165 rfl (by kernel_rfl) rfl]
 have e1:IntKind.i64.wrap ((a:Int)-1)=((a-1:Nat):Int):=by rw [w64 (by omega) (by omega)];omega
 have e2:IntKind.i64.wrap ((a:Int)+1)=((a+1:Nat):Int):=by rw [w64 (by omega) (by omega)];omega
 simp [e1]
 rw [e2]
 refine Qc (Lg v xs e (a-1) a (a+1) r h (by omega) (by omega) ha hr hf hn) ?_
 rintro _ H1 ⟨⟨m,rfl,hm⟩,c1,r1⟩
 simp
 exact ⟨⟨m,rfl,by omega⟩,c1,r1⟩
theorem Oc (v:Value) (xs:List Int) (e:TypeId) (a b:Nat) (h:Ow Fl.int e H v xs) (hab:a+8≤b) (hb:b≤xs.length) (hl:xs.length≤1073741824) (hf:frz≤H.length) :
 wp (vcall C frz 143 [v,.int .i64 a,.int .i64 b] H)
  (fun u H'=>(∃(m:Nat) (k:Int),u=.tuple #[.int .i64 m,.int .i64 k]∧a≤m∧m<b)∧Chg H H' []):=by
 rw [Qb (fn:=Tryz.f143) Tryz.func143 rfl (by kernel_rfl) rfl]
 obtain ⟨n,hn⟩:∃n,n=b-a:=⟨_,rfl⟩
 have e1:∀[Inhabited Unit],IntKind.i64.wrap ((b:Int)-a)=(n:Int):=by intro _;rw [w64 (by omega) (by omega)];omega
 obtain ⟨q,hq⟩:∃q,q=n/4:=⟨_,rfl⟩
 have e2:∀[Inhabited Unit],IntKind.i64.wrap ((n:Int)/4)=(q:Int):=by intro _;rw [w64 (by omega) (by omega)];omega
 obtain ⟨q2,hq2⟩:∃q2,q2=q*2:=⟨_,rfl⟩
 obtain ⟨q3,hq3⟩:∃q3,q3=q*3:=⟨_,rfl⟩
 obtain ⟨i0,hi0⟩:∃i0,i0=a+q:=⟨_,rfl⟩
 obtain ⟨i1,hi1⟩:∃i1,i1=a+q2:=⟨_,rfl⟩
 obtain ⟨i2,hi2⟩:∃i2,i2=a+q3:=⟨_,rfl⟩
 have e3:∀[Inhabited Unit],IntKind.i64.wrap (q:Int)=(q:Int):=by intro _;rw [w64 (by omega) (by omega)]
 have e4:∀[Inhabited Unit],IntKind.i64.wrap ((q:Int)*2)=(q2:Int):=by intro _;rw [w64 (by omega) (by omega)];omega
 have e5:∀[Inhabited Unit],IntKind.i64.wrap ((q:Int)*3)=(q3:Int):=by intro _;rw [w64 (by omega) (by omega)];omega
 have e6:∀[Inhabited Unit],IntKind.i64.wrap ((a:Int)+q)=(i0:Int):=by intro _;rw [w64 (by omega) (by omega)];omega
 have e7:∀[Inhabited Unit],IntKind.i64.wrap ((a:Int)+q2)=(i1:Int):=by intro _;rw [w64 (by omega) (by omega)];omega
 have e8:∀[Inhabited Unit],IntKind.i64.wrap ((a:Int)+q3)=(i2:Int):=by intro _;rw [w64 (by omega) (by omega)];omega
 have g8:(8:Int)≤n:=by omega
 have lt:=h.lt
 have nin:H.length∉ids v:=fun hh=>by have:=lt _ hh;omega
 simp [e1,e2,e3,e4,e5,e6,e7,e8,g8]
 have b0:BoxI (H++[⟨[.int .i64 0],0,3⟩]) H.length:=⟨0,by simp⟩
 have o0:Ow Fl.int e (H++[⟨[.int .i64 0],0,3⟩]) v xs:=h.app
 refine Rm (F:=?F) (k:=?k) (d:=?d) (Q:=?Q) (fun r t=>∃(i0 i1 i2:Nat) (H1:Heap),r=vcall C frz 166 [v,.int .i64 i0,.int .i64 i1,.int .i64 i2,.pointer (some ⟨H.length,0,some 0⟩)] H1∧
  (a≤i0∧i0<b)∧(a≤i1∧i1<b)∧(a≤i2∧i2<b)∧t 9=.pointer (some ⟨H.length,0,some 0⟩)∧
  Chg (H++[⟨[.int .i64 0],0,3⟩]) H1 [H.length]∧BoxI H1 H.length) ?main ?rest
 case main=>
  intro rest
  refine Qd ?_ ?_<;>intro g1
  ·simp [e6,e7,e8]
   refine Qc (Ue v xs e i0 H.length o0 (by omega) (by omega) hl b0 hf nin) ?_
   rintro _ H1 ⟨⟨j0,rfl,hj0⟩,c1,r1⟩
   have o1:=o0.chg c1 (fun i hi hh=>by simp at hh;subst hh;exact nin hi)
   simp [e6,e7,e8]
   refine Qc (Ue v xs e i1 H.length o1 (by omega) (by omega) hl r1 hf nin) ?_
   rintro _ H2 ⟨⟨j1,rfl,hj1⟩,c2,r2⟩
   have o2:=o1.chg c2 (fun i hi hh=>by simp at hh;subst hh;exact nin hi)
   simp [e6,e7,e8]
   refine Qc (Ue v xs e i2 H.length o2 (by omega) (by omega) hl r2 hf nin) ?_
   rintro _ H3 ⟨⟨j2,rfl,hj2⟩,c3,r3⟩
   simp [e6,e7,e8]
   refine rest _ _ ?_
   exact ⟨j0,j1,j2,H3,rfl,by omega,by omega,by omega,by simp,c1.trans (c2.trans c3),r3⟩
  ·simp [e6,e7,e8]
   refine rest _ _ ?_
   exact ⟨i0,i1,i2,_,rfl,by omega,by omega,by omega,by simp,Chg.refl _,b0⟩
 case rest=>
  rintro _ t ⟨i0,i1,i2,H1,rfl,h0,h1,h2,t9,c1,r1⟩
  have o1:=o0.chg c1 (fun i hi hh=>by simp at hh;subst hh;exact nin hi)
  refine Qc (Lg v xs e i0 i1 i2 H.length o1 (by omega) (by omega) (by omega) r1 hf nin) ?_
  rintro _ H2 ⟨⟨m,rfl,hm⟩,c2,s,hs⟩
  have cc:Chg H H2 []:=(Chg.app (L:=[⟨[.int .i64 0],0,3⟩]) []).trans' (c1.trans c2) (fun i hi=>by simp at hi;subst hi;right;simp)
  simp [t9,VM.look,hs]
  refine Qd ?_ ?_<;>intro g2<;>simp
  ·exact ⟨⟨m,rfl,by omega⟩,cc⟩
  ·refine Qd ?_ ?_<;>intro g3<;>simp
   ·exact ⟨⟨m,rfl,by omega⟩,cc⟩
   ·exact ⟨⟨m,rfl,by omega⟩,cc⟩
def blen (y:Nat):Nat:=if y=0 then 0 else y.log2+1
def tabOk (T:ByteArray):Bool:=(List.range 256).all fun y=>match T[y]? with|some b=>b.toNat == blen y|none=>false
theorem Uo {y:Nat} (h:y<256):y<2 ^ blen y∧(2 ^ blen y≤2*y∨y=0)∧blen y≤8:=by
 have:∀y:Fin 256,y.val<2 ^ blen y.val∧(2 ^ blen y.val≤2*y.val∨y.val=0)∧blen y.val≤8:=by decide +kernel
 exact this ⟨y,h⟩
theorem Ml {x z s n:Nat} (hz:z=x/2 ^ s) (h1:z<2 ^ n) (h2:2 ^ n≤2*z∨z=0) (h0:0<z):x<2 ^ (n+s)∧(2 ^ (n+s)≤2*x∨x=0):=by
 have hp:0<2 ^ s:=Nat.pow_pos (by decide)
 rw [Nat.pow_add]
 subst hz
 refine ⟨(Nat.div_lt_iff_lt_mul hp).1 h1,.inl ?_⟩
 have h3:x/2 ^ s*2 ^ s≤x:=Nat.div_mul_le_self _ _
 have h4:2 ^ n*2 ^ s≤2*(x/2 ^ s)*2 ^ s:=Nat.mul_le_mul_right _ (by omega)
 rw [Nat.mul_assoc] at h4
 omega
theorem Zh {T:ByteArray} {y:Nat} (hy:y<256) (h:tabOk T=true):vindex Tryz.prog 9 (.string T) (.int .u8 (IntKind.u8.wrap (y:Int)))=some (.int .u8 (blen y)):=by
 have e1:IntKind.u8.wrap (y:Int)=(y:Int):=by show (y:Int)%256=y;omega
 have:=List.all_eq_true.1 h y (by simpa using hy)
 have hn:(0:Int)≤y:=by omega
 rw [e1]
 simp only [vindex,und9,hn,if_true,Int.toNat_natCast]
 cases hT:T[y]? with
 | none=>rw [hT] at this;simp at this
 | some b=>rw [hT] at this;simp at this;simp [this]
theorem Mr (x j:Nat) (hj:j≤64):ishr .u64 (x:Int) (j:Int)=((x/2 ^ j:Nat):Int):=Kt .u64 x j hj
theorem Ay (x:Nat) (hx:x<2147483648) :
 wp (vcall C frz 150 [.int .u64 x] H) (fun r H'=>H'=H∧∃n:Nat,r=.int .i64 n∧x<2 ^ n∧(2 ^ n≤2*x∨x=0)∧n≤32):=by
 rw [Qb (fn:=Tryz.f150) Tryz.func150 rfl (by kernel_rfl) rfl]
 have g1:¬(4294967296:Int)≤x:=by omega
 have e8:IntKind.i64.wrap 8=8:=rfl
 have e16:IntKind.i64.wrap 16=16:=rfl
 have e24:IntKind.i64.wrap 24=24:=rfl
 simp [g1]
 refine Qd ?_ ?_<;>intro g2
 ·obtain ⟨y,hy⟩:∃y,y=x/65536:=⟨_,rfl⟩
  have s16:ishr .u64 (x:Int) 16=(y:Int):=by rw [hy];exact Mr x 16 (by decide)
  simp [s16]
  refine Qd ?_ ?_<;>intro g3
  ·obtain ⟨z,hz⟩:∃z,z=y/256:=⟨_,rfl⟩
   have s8:ishr .u64 (y:Int) 8=(z:Int):=by rw [hz];exact Mr y 8 (by decide)
   simp [s8]
   rw [Zh (y:=z) (by omega) (by decide +kernel)]
   obtain ⟨q1,q2,q3⟩:=Uo (y:=z) (by omega)
   have w8:IntKind.i64.wrap (blen z:Int)=(blen z:Int):=w64 (by omega) (by omega)
   simp [w8,e8,e16,e24]
   refine ⟨blen z+24,?_,?_⟩
   ·rw [w64 (by omega) (by omega)];omega
   ·have:=Ml (x:=x) (z:=z) (s:=24) (by omega) q1 q2 (by omega);omega
  ·simp
   rw [Zh (y:=y) (by omega) (by decide +kernel)]
   obtain ⟨q1,q2,q3⟩:=Uo (y:=y) (by omega)
   have w8:IntKind.i64.wrap (blen y:Int)=(blen y:Int):=w64 (by omega) (by omega)
   simp [w8,e8,e16,e24]
   refine ⟨blen y+16,?_,?_⟩
   ·rw [w64 (by omega) (by omega)];omega
   ·have:=Ml (x:=x) (z:=y) (s:=16) (by omega) q1 q2 (by omega);omega
 ·simp
  refine Qd ?_ ?_<;>intro g3
  ·obtain ⟨z,hz⟩:∃z,z=x/256:=⟨_,rfl⟩
   have s8:ishr .u64 (x:Int) 8=(z:Int):=by rw [hz];exact Mr x 8 (by decide)
   simp [s8]
   rw [Zh (y:=z) (by omega) (by decide +kernel)]
   obtain ⟨q1,q2,q3⟩:=Uo (y:=z) (by omega)
   have w8:IntKind.i64.wrap (blen z:Int)=(blen z:Int):=w64 (by omega) (by omega)
   simp [w8,e8,e16,e24]
   refine ⟨blen z+8,?_,?_⟩
   ·rw [w64 (by omega) (by omega)];omega
   ·have:=Ml (x:=x) (z:=z) (s:=8) (by omega) q1 q2 (by omega);omega
  ·simp
   rw [Zh (y:=x) (by omega) (by decide +kernel)]
   obtain ⟨q1,q2,q3⟩:=Uo (y:=x) (by omega)
   have w8:IntKind.i64.wrap (blen x:Int)=(blen x:Int):=w64 (by omega) (by omega)
   simp [w8,e8,e16,e24]
   exact ⟨blen x,rfl,q1,q2,by omega⟩
theorem yj (x:Nat) (hx:x<2147483648) :
 wp (vcall C frz 123 [.int .u64 x] H) (fun r H'=>H'=H∧∃n:Nat,r=.int .i64 n∧x<2 ^ n∧(2 ^ n≤2*x∨x=0)∧n≤32):=by
 rw [Qb (fn:=Tryz.f123) Tryz.func123 rfl (by kernel_rfl) rfl]
 simp
 refine Qc (Ay x hx) ?_
 rintro _ _ ⟨rfl,n,rfl,h⟩
 simp
 exact ⟨n,rfl,h⟩
theorem w64u {x:Int} (h0:0≤x) (h1:x<18446744073709551616):IntKind.u64.wrap x=x:=by show x%18446744073709551616=x;omega
theorem zr (x:Nat) (hx:x<2147483648) :
 wp (vcall C frz 163 [.int .i64 x] H) (fun r H'=>H'=H∧∃m:Nat,r=.int .u64 m∧x<m∧(m≤2*x∨x=0)∧m≤4294967296):=by
 rw [Qb (fn:=Tryz.f163) Tryz.func163 rfl (by kernel_rfl) rfl]
 have e1:IntKind.u64.wrap (x:Int)=(x:Int):=w64u (by omega) (by omega)
 simp [e1]
 refine Qc (yj x hx) ?_
 rintro _ _ ⟨rfl,n,rfl,h1,h2,h3⟩
 have hm:2 ^ n≤2 ^ 32:=Nat.pow_le_pow_right (by decide) h3
 have e2:ishl .u64 1 (n:Int)=((2 ^ n:Nat):Int):=by
  unfold ishl
  rw [Int.toNat_natCast,Nat.min_eq_left (show n≤IntKind.u64.bits by show n≤64;omega),Int.one_mul,w64u (Int.le_of_lt (Int.pow_pos (by decide))) (by
   have:((2:Int) ^ n)=((2 ^ n:Nat):Int):=by simp
   rw [this];omega)]
  simp
 have hn:(0:Int)≤n:=by omega
 simp [vneed,hn,e2]
 exact ⟨2 ^ n,by simp,h1,h2,by omega⟩
def BoxX (H:Heap) (r:Nat):Prop:=∃s,H[r]? = some ⟨[.int .u64 s],0,183⟩
theorem xh (r:Nat) (hr:BoxX H r) (hf:frz≤r) :
 wp (vcall C frz 164 [.pointer (some ⟨r,0,some 0⟩)] H) (fun u H'=>(∃z,u=.int .u64 z)∧Chg H H' [r]∧BoxX H' r):=by
 obtain ⟨s,hs⟩:=hr
 rw [Qb (fn:=Tryz.f164) Tryz.func164 rfl (by kernel_rfl) rfl]
 simp
 rw [Qf (h:=by kernel_rfl)]
 simp [vnil,VM.look,hs,hf]
 have l:=Qu hs
 rw [Qf (h:=by kernel_rfl)]
 simp [vnil,VM.look,hs,hf,l]
 rw [Qf (h:=by kernel_rfl)]
 simp [vnil,VM.look,hs,hf,l]
 exact ⟨Qe _ _,_,by simp [l];rfl⟩
theorem F8 (a:Int) (b:Nat) (hb:b<18446744073709551616):0≤iand .u64 a b∧iand .u64 a b≤b:=by
 unfold iand
 have h1:(BitVec.ofInt IntKind.u64.bits a&&& BitVec.ofInt IntKind.u64.bits (b:Int)).toNat≤b:=by
  rw [BitVec.toNat_and]
  refine Nat.le_trans Nat.and_le_right ?_
  rw [BitVec.toNat_ofInt]
  have:IntKind.u64.bits=64:=rfl
  rw [this];omega
 rw [w64u (by omega) (by omega)]
 omega
theorem J7 (v:Value) (xs:List Int) (e:TypeId) (a b:Nat) (h:Ow Fl.int e H v xs) (hab:a≤b) (hb:b≤xs.length) (hl:xs.length≤1073741824) (hf:∀i∈ids v,frz≤i) (hF:frz≤H.length) :
 wp (vcall C frz 142 [v,.int .i64 a,.int .i64 b] H) (fun _ H'=>∃ys,Sw a b xs ys∧Ow Fl.int e H' v ys∧Chg H H' (ids v)):=by
 rw [Qb (fn:=Tryz.f142) Tryz.func142 rfl (by kernel_rfl) rfl]
 obtain ⟨n,hn⟩:∃n,n=b-a:=⟨_,rfl⟩
 have e1:∀[Inhabited Unit],IntKind.i64.wrap ((b:Int)-a)=(n:Int):=by intro _;rw [w64 (by omega) (by omega)];omega
 simp [e1]
 refine Qd ?_ ?_<;>intro g1
 ·have lt:=h.lt
  have nin:H.length∉ids v:=fun hh=>by have:=lt _ hh;omega
  have e2:∀[Inhabited Unit],IntKind.u64.wrap (n:Int)=(n:Int):=by intro _;exact w64u (by omega) (by omega)
  have e3:∀[Inhabited Unit],IntKind.i64.wrap (n:Int)=(n:Int):=by intro _;exact w64 (by omega) (by omega)
  simp [e1,e2,VM.look,hF]
  refine Qc (zr n (by omega)) ?_
  rintro _ _ ⟨rfl,m,rfl,m1,m2,m3⟩
  obtain ⟨q,hq⟩:∃q,q=n/4:=⟨_,rfl⟩
  obtain ⟨q2,hq2⟩:∃q2,q2=q*2:=⟨_,rfl⟩
  obtain ⟨s,hs⟩:∃s,s=a+q2:=⟨_,rfl⟩
  have e4:∀[Inhabited Unit],IntKind.i64.wrap ((n:Int)/4)=(q:Int):=by intro _;rw [w64 (by omega) (by omega)];omega
  have e5:∀[Inhabited Unit],IntKind.i64.wrap ((q:Int)*2)=(q2:Int):=by intro _;rw [w64 (by omega) (by omega)];omega
  have e6:∀[Inhabited Unit],IntKind.i64.wrap ((a:Int)+q2)=(s:Int):=by intro _;rw [w64 (by omega) (by omega)];omega
  have e7:∀[Inhabited Unit],IntKind.i64.wrap ((s:Int)-1)=((s-1:Nat):Int):=by intro _;rw [w64 (by omega) (by omega)];omega
  have e8:∀[Inhabited Unit],IntKind.i64.wrap ((s:Int)+1)=((s+1:Nat):Int):=by intro _;rw [w64 (by omega) (by omega)];omega
  have e9:∀[Inhabited Unit],IntKind.u64.wrap ((m:Int)-1)=((m-1:Nat):Int):=by intro _;rw [w64u (by omega) (by omega)];omega
  simp [e1,e2,e3,e4,e5,e6,e7]
  refine Qi (fun c t H'=>∃i:Nat,c=s+2-i∧s≤i+1∧i≤s+2∧t 0=v∧t 1=.int .i64 a∧t 6=.int .i64 n∧t 7=.pointer (some ⟨H.length,0,some 0⟩)∧t 8=.int .u64 m∧t 9=.int .i64 i∧
   BoxX H' H.length∧Chg (H++[⟨[.int .u64 n],0,183⟩]) H' (H.length::ids v)∧∃ys,Sw a b xs ys∧Ow Fl.int e H' v ys) ?_ (n:=s+2-(s-1))
   ⟨s-1,rfl,by omega,by omega,by simp,by simp,by simp,by simp,by simp,by simp,⟨n,by simp⟩,Chg.refl _,xs,.refl,h.app⟩
  rintro c t H1 ⟨i,rfl,hi1,hi2,t0,t1,t6,t7,t8,t9,bx,ch,ys,sw,o⟩ ih
  have len:=sw.len
  simp [t0,t1,t6,t7,t8,t9,e4,e5,e6,e8]
  refine Qd ?_ ?_<;>intro g2
  ·have p0:i<ys.length:=by omega
   simp [t0,t1,t6,t7,t8,t9]
   refine Qc (xh H.length bx hF) ?_
   rintro _ H2 ⟨⟨z,rfl⟩,c2,bx2⟩
   have o2:=o.chg c2 (fun i hi hh=>by simp at hh;subst hh;exact nin hi)
   obtain ⟨k,hk⟩:∃k:Nat,iand .u64 z ((m-1:Nat):Int)=k:=⟨_,(Int.toNat_of_nonneg (F8 z (m-1) (by omega)).1).symm⟩
   have hk2:=(F8 z (m-1) (by omega)).2
   rw [hk] at hk2
   have e10:∀[Inhabited Unit],IntKind.i64.wrap (k:Int)=(k:Int):=by intro _;exact w64 (by omega) (by omega)
   have hk':∀[Inhabited Unit],iand .u64 z ((m-1:Nat):Int)=k:=by intro _;exact hk
   clear hk
   simp [t0,t1,t6,t7,t8,t9,e9,hk',e10]
   refine Yo (F:=?F) (k:=?k) (Q:=?Q) (fun t H'=>∃d:Nat,d<n∧H'=H2∧t 0=v∧t 1=.int .i64 a∧t 6=.int .i64 n∧t 7=.pointer (some ⟨H.length,0,some 0⟩)∧t 8=.int .u64 m∧t 9=.int .i64 i∧t 10=.int .i64 d) ?main ?rest
   case main=>
    intro rest
    refine Qd ?_ ?_<;>intro g3
    ·have e11:∀[Inhabited Unit],IntKind.i64.wrap ((k:Int)-n)=((k-n:Nat):Int):=by intro _;rw [w64 (by omega) (by omega)];omega
     simp [t0,t1,t6,t7,t8,t9,e9,hk',e10,e11]
     refine rest _ _ ?_
     exact ⟨k-n,by omega,rfl,by simp [t0],by simp [t1],by simp [t6],by simp [t7],by simp [t8],by simp [t9],by simp⟩
    ·simp
     refine rest _ _ ?_
     exact ⟨k,by omega,rfl,by simp [t0],by simp [t1],by simp [t6],by simp [t7],by simp [t8],by simp [t9],by simp⟩
   case rest=>
    rintro t _ ⟨d,hd,rfl,t0,t1,t6,t7,t8,t9,t10⟩
    obtain ⟨j,hj⟩:∃j,j=a+d:=⟨_,rfl⟩
    have e12:∀[Inhabited Unit],IntKind.i64.wrap ((a:Int)+d)=(j:Int):=by intro _;rw [w64 (by omega) (by omega)];omega
    have p1:j<ys.length:=by omega
    obtain ⟨H3,H4,s1,ix,s2,o4,c4,l4⟩:=Ww o2 p0 p1 hf
    rw [Qf (h:=by kernel_rfl)]
    simp [t0,t1,t6,t7,t8,t9,t10,e12,Qt o2 p0,Qt o2 p1,Qv o2 p0,Qv o2 p1,s1,ix _ p0,ix _ p1,s2]
    obtain ⟨sx,hsx⟩:=bx2
    have bx4:BoxX H4 H.length:=⟨sx,Qa hsx c4 nin⟩
    refine ih (s+2-(i+1)) _ _ ⟨i+1,rfl,by omega,by omega,by simp [t0],by simp [t1],by simp [t6],by simp [t7],by simp [t8],?_,bx4,?_,_,sw.step i j (by omega) (by omega),o4⟩ (by omega)
    ·simp;rw [w64 (by omega) (by omega)]
    ·exact ch.trans ((c2.mono (by simp)).trans (c4.mono (fun q hq=>by simp [hq])))
  ·simp
   exact ⟨ys,sw,o,(Chg.app (ids v)).trans' ch (fun q hq=>by
    rcases List.mem_cons.1 hq with hq|hq
    ·right;simp [hq]
    ·exact .inl hq)⟩
 ·simp
  exact ⟨xs,.refl,h,Chg.refl _⟩
def Pt (ys:List Int) (a b:Nat) (x:Int) (P:Int→Prop) (i j:Nat):Prop:=G ys a=x∧(∀k,a<k→k<i→P (G ys k))∧∀k,j<k→k<b→¬P (G ys k)
section
variable {ys:List Int} {a b i j:Nat} {x:Int} {P:Int→Prop}
theorem Pt.incr (h:Pt ys a b x P i j) (ha:a<i) (hp:P (G ys i)):Pt ys a b x P (i+1) j:=⟨h.1,fun k h1 h2=>by
 by_cases hk:k=i
 ·rw [hk];exact hp
 ·exact h.2.1 k h1 (by omega),h.2.2⟩
theorem Pt.decr (h:Pt ys a b x P i j) (hj:0<j) (hp:¬P (G ys j)):Pt ys a b x P i (j-1):=⟨h.1,h.2.1,fun k h1 h2=>by
 by_cases hk:k=j
 ·rw [hk];exact hp
 ·exact h.2.2 k (by omega) h2⟩
theorem Pt.swap (h:Pt ys a b x P i j) (ha:a<i) (hij:i<j) (hj:j<b) (hb:b≤ys.length) (hi:¬P (G ys i)) (hp:P (G ys j)):Pt (swp ys i j) a b x P (i+1) (j-1):=by
 have g:=fun k=>Yk (xs:=ys) (i:=i) (j:=j) (by omega) (by omega) k
 refine ⟨?_,fun k h1 h2=>?_,fun k h1 h2=>?_⟩
 ·rw [g,if_neg (by omega),if_neg (by omega)];exact h.1
 ·rw [g,if_neg (by omega)]
  split
  ·exact hp
  ·exact h.2.1 k h1 (by omega)
 ·rw [g]
  split
  ·exact hi
  ·rw [if_neg (by omega)];exact h.2.2 k (by omega) h2
theorem Pt.fin (h:Pt ys a b x P i j) (hij:i=j+1) (ha:a<i) (hj:j<b) (hb:b≤ys.length):G (swp ys j a) j=x∧(∀k,a≤k→k<j→P (G (swp ys j a) k))∧∀k,j<k→k<b→¬P (G (swp ys j a) k):=by
 have g:=fun k=>Yk (xs:=ys) (i:=j) (j:=a) (by omega) (by omega) k
 refine ⟨?_,fun k h1 h2=>?_,fun k h1 h2=>?_⟩
 ·rw [g]
  split
  ·rename_i e;rw [e];exact h.1
  ·rw [if_pos rfl];exact h.1
 ·rw [g]
  split
  ·exact h.2.1 j (by omega) (by omega)
  ·rw [if_neg (by omega)];exact h.2.1 k (by omega) (by omega)
 ·rw [g,if_neg (by omega),if_neg (by omega)];exact h.2.2 k h1 h2
end
theorem Aq (v:Value) (xs:List Int) (e:TypeId) (a b p:Nat) (h:Ow Fl.int e H v xs) (hp:a≤p∧p<b) (hb:b≤xs.length) (hl:xs.length≤1073741824) (hf:∀i∈ids v,frz≤i) :
 wp (vcall C frz 147 [v,.int .i64 a,.int .i64 b,.int .i64 p] H) (fun r H'=>∃m:Nat,r=.int .i64 m∧a<m∧m≤b∧
  Swd H v xs e a b (fun ys=>(∀k,a≤k→k<m→¬G xs p<G ys k)∧∀k,m≤k→k<b→G xs p<G ys k) H'):=by
 rw [Qb (fn:=Tryz.f147) Tryz.func147 rfl (by kernel_rfl) rfl]
 obtain ⟨x,hx⟩:∃x,x=G xs p:=⟨_,rfl⟩
 obtain ⟨i0,hi0⟩:∃i0,i0=a+1:=⟨_,rfl⟩
 obtain ⟨j0,hj0⟩:∃j0,j0=b-1:=⟨_,rfl⟩
 have e2:∀[Inhabited Unit],IntKind.i64.wrap ((a:Int)+1)=(i0:Int):=by intro _;rw [w64 (by omega) (by omega)];omega
 have e3:∀[Inhabited Unit],IntKind.i64.wrap ((b:Int)-1)=(j0:Int):=by intro _;rw [w64 (by omega) (by omega)];omega
 have p0:a<xs.length:=by omega
 have p1:p<xs.length:=by omega
 simp
 rw [Qf (h:=by kernel_rfl)]
 obtain ⟨H1,H2,s1,ix,s2,o2,c2,l2⟩:=Ww h p0 p1 hf
 simp [Qt h p0,Qt h p1,Qv h p0,Qv h p1,s1,ix _ p0,ix _ p1,s2,e2,e3]
 have pt0:Pt (swp xs a p) a b x (fun y=>¬x<y) i0 j0:=by
  refine ⟨?_,fun k h1 h2=>by omega,fun k h1 h2=>by omega⟩
  rw [Yk p0 p1,hx]
  split
  ·rename_i e;rw [e]
  ·rw [if_pos rfl]
 have sw0:Sw a b xs (swp xs a p):=Sw.refl.step a p (by omega) (by omega)
 refine Qi (fun c t H'=>∃i j:Nat,c=j+1-i∧t 0=v∧t 1=.int .i64 a∧t 9=.int .i64 i∧t 10=.int .i64 j∧a<i∧i≤j+1∧j<b∧Swd H v xs e a b (fun ys=>Pt ys a b x (fun y=>¬x<y) i j) H') ?_ (n:=j0+1-i0)
  ⟨i0,j0,rfl,by simp,by simp,by simp,by simp,by omega,by omega,by omega,_,sw0,pt0,o2,c2,l2⟩
 rw [← hx]
 clear pt0 sw0 o2 s1 s2 ix c2 l2 p0 p1
 rintro c t H' ⟨i,j,rfl,h0,h1,hi,hj,hai,hij,hjb,ys,sw,pt,o,c,l⟩ ih
 have len:=sw.len
 have p0:a<ys.length:=by omega
 simp [h0,h1,hi,hj]
 obtain ⟨il,hil⟩:∃il,il=i:=⟨_,rfl⟩
 have hai':il≤i∧a<i:=⟨by omega,hai⟩
 refine Yo (F:=?F1) (k:=?k1) (Q:=?Q1) (fun t H1=>∃i:Nat,t 0=v∧t 1=.int .i64 a∧t 9=.int .i64 i∧t 10=.int .i64 j∧(il≤i∧a<i)∧i≤j+1∧(i=j+1∨(i≤j∧¬(fun y=>¬x<y) (G ys i)))∧H'=H1∧Pt ys a b x (fun y=>¬x<y) i j) ?main1 ?rest1
 case main1=>
  intro rest
  refine Qi (fun c t H1=>∃i:Nat,c=j+1-i∧t 0=v∧t 1=.int .i64 a∧t 9=.int .i64 i∧t 10=.int .i64 j∧(il≤i∧a<i)∧i≤j+1∧H'=H1∧Pt ys a b x (fun y=>¬x<y) i j) ?_ (n:=j+1-i)
   ⟨i,rfl,by simp [h0],by simp [h1],by simp [hi],by simp [hj],hai',hij,rfl,pt⟩
  rintro c t _ ⟨i,rfl,h0,h1,hi,hj,hai',hij,rfl,pt⟩ ih2
  have hai:=hai'.2
  simp [h0,h1,hi,hj]
  rw [Qf (h:=by kernel_rfl)]
  simp [h0,h1,hi,hj]
  refine Wq ?_ ?_<;>intro g1
  ·have p1:i<ys.length:=by omega
   simp [h0,h1,hi,hj,g1,Qt o p0,Qt o p1,Qv o p0,Qv o p1,Xm]
   refine Qd ?_ ?_<;>intro g2
   ·simp [h0,h1,hi,hj]
    refine rest _ _ ?_
    exact ⟨i,by simp [h0],by simp [h1],by simp [hi],by simp [hj],hai',by omega,.inr ⟨by omega,by have:=pt.1;show ¬(¬x<G ys i);omega⟩,rfl,pt⟩
   ·simp [h0,h1,hi,hj]
    refine ih2 (j+1-(i+1)) _ _ ⟨i+1,rfl,by simp [h0],by simp [h1],?_,by simp [hj],by omega,by omega,rfl,pt.incr hai (by have:=pt.1;show ¬x<G ys i;omega)⟩ (by omega)
    simp;rw [w64 (by omega) (by omega)]
  ·simp [h0,h1,hi,hj,g1]
   refine rest _ _ ?_
   exact ⟨i,by simp [h0],by simp [h1],by simp [hi],by simp [hj],hai',hij,.inl (by omega),rfl,pt⟩
 case rest1=>
  rintro t _ ⟨i,h0,h1,hi,hj,hai',hij,hex,rfl,pt⟩
  have hai:=hai'.2
  refine Qi (fun c t H1=>∃j':Nat,c=j'+1-i∧t 0=v∧t 1=.int .i64 a∧t 9=.int .i64 i∧t 10=.int .i64 j'∧j'≤j∧i≤j'+1∧H'=H1∧Pt ys a b x (fun y=>¬x<y) i j') ?_ (n:=j+1-i)
   ⟨j,rfl,by simp [h0],by simp [h1],by simp [hi],by simp [hj],Nat.le_refl _,hij,rfl,pt⟩
  have hex':i<j+1→¬(fun y=>¬x<y) (G ys i):=fun hh=>by rcases hex with hex|hex;omega;exact hex.2
  have hjb0:=hjb
  rintro c t _ ⟨j',rfl,h0,h1,hi,hj,hjj',hij,rfl,pt⟩ ih2
  have hjb:j'<b:=by omega
  simp [h0,h1,hi,hj]
  rw [Qf (h:=by kernel_rfl)]
  simp [h0,h1,hi,hj]
  refine Wq ?_ ?_<;>intro g1
  ·have p1:j'<ys.length:=by omega
   simp [h0,h1,hi,hj,g1,Qt o p0,Qt o p1,Qv o p0,Qv o p1,Xm]
   refine Qd ?_ ?_<;>intro g2
   ·simp [h0,h1,hi,hj]
    refine ih2 (j'-1+1-i) _ _ ⟨j'-1,rfl,by simp [h0],by simp [h1],by simp [hi],?_,by omega,by omega,rfl,pt.decr (by omega) (by have:=pt.1;show ¬(¬x<G ys j');omega)⟩ (by omega)
    simp;rw [w64 (by omega) (by omega)];omega
   ·simp [h0,h1,hi,hj]
    have hnj:¬j'<i:=by omega
    simp [hnj]
    have p2:i<ys.length:=by omega
    have hlo:(fun y=>¬x<y) (G ys j'):=by have:=pt.1;show ¬x<G ys j';omega
    rw [Qf (h:=by kernel_rfl)]
    obtain ⟨H3,H4,s3,ix3,s4,o4,c4,l4⟩:=Ww o p2 p1 hf
    simp [h0,h1,hi,hj,Qt o p2,Qt o p1,Qv o p2,Qv o p1,s3,ix3 _ p2,ix3 _ p1,s4]
    have hlt:i<j':=by
     rcases Nat.lt_or_ge i j' with q|q
     ·exact q
     ·have q2:i=j':=by omega
      exact absurd (q2▸hlo) (hex' (by omega))
    refine ih (j'-1+1-(i+1)) _ _ ⟨i+1,j'-1,rfl,by simp [h0],by simp [h1],?_,?_,by omega,by omega,by omega,_,sw.step i j' (by omega) (by omega),pt.swap hai hlt hjb (by omega) (hex' (by omega)) hlo,o4,c.trans c4,by omega⟩ (by omega)
    ·simp;rw [w64 (by omega) (by omega)]
    ·simp;rw [w64 (by omega) (by omega)];omega
  ·have hij':i=j'+1:=by omega
   have hji:j'<i:=by omega
   simp [h0,h1,hi,hj,g1,hji]
   refine ⟨i,rfl,by omega,by omega,ys,sw,⟨fun k k1 k2=>?_,fun k k1 k2=>?_⟩,o,c,l⟩
   ·by_cases hk:k=a
    ·have:=pt.1;rw [hk];omega
    ·have q:¬x<G ys k:=pt.2.1 k (by omega) k2
     omega
   ·have q:¬¬x<G ys k:=pt.2.2 k (by omega) k2
    omega
theorem zm (v:Value) (xs:List Int) (e:TypeId) (a b p:Nat) (h:Ow Fl.int e H v xs) (hp:a≤p∧p<b) (hb:b≤xs.length) (hl:xs.length≤1073741824) (hf:∀i∈ids v,frz≤i) :
 wp (vcall C frz 148 [v,.int .i64 a,.int .i64 b,.int .i64 p] H) (fun r H'=>∃(m:Nat) (d:Bool),r=.tuple #[.int .i64 m,.bool d]∧a≤m∧m<b∧
  Swd H v xs e a b (fun ys=>(∀k,a≤k→k<m→G ys k<G ys m)∧∀k,m<k→k<b→G ys m≤G ys k) H'):=by
 rw [Qb (fn:=Tryz.f148) Tryz.func148 rfl (by kernel_rfl) rfl]
 obtain ⟨x,hx⟩:∃x,x=G xs p:=⟨_,rfl⟩
 obtain ⟨i0,hi0⟩:∃i0,i0=a+1:=⟨_,rfl⟩
 obtain ⟨j0,hj0⟩:∃j0,j0=b-1:=⟨_,rfl⟩
 have e2:∀[Inhabited Unit],IntKind.i64.wrap ((a:Int)+1)=(i0:Int):=by intro _;rw [w64 (by omega) (by omega)];omega
 have e3:∀[Inhabited Unit],IntKind.i64.wrap ((b:Int)-1)=(j0:Int):=by intro _;rw [w64 (by omega) (by omega)];omega
 have p0:a<xs.length:=by omega
 have p1:p<xs.length:=by omega
 simp
 rw [Qf (h:=by kernel_rfl)]
 obtain ⟨H1,H2,s1,ix,s2,o2,c2,l2⟩:=Ww h p0 p1 hf
 simp [Qt h p0,Qt h p1,Qv h p0,Qv h p1,s1,ix _ p0,ix _ p1,s2,e2,e3]
 have pt0:Pt (swp xs a p) a b x (fun y=>y<x) i0 j0:=by
  refine ⟨?_,fun k h1 h2=>by omega,fun k h1 h2=>by omega⟩
  rw [Yk p0 p1,hx]
  split
  ·rename_i e;rw [e]
  ·rw [if_pos rfl]
 have sw0:Sw a b xs (swp xs a p):=Sw.refl.step a p (by omega) (by omega)
 obtain ⟨ys,sw,o,c,l,pt⟩:∃ys,Sw a b xs ys∧Ow Fl.int e H2 v ys∧Chg H H2 (ids v)∧H2.length=H.length∧Pt ys a b x (fun y=>y<x) i0 j0:=⟨_,sw0,o2,c2,l2,pt0⟩
 obtain ⟨i,hii⟩:∃i,i0=i:=⟨_,rfl⟩
 obtain ⟨j,hjj⟩:∃j,j0=j:=⟨_,rfl⟩
 rw [hii] at pt ⊢
 rw [hjj] at pt ⊢
 have hai:a<i:=by omega
 have hij:i≤j+1:=by omega
 have hjb:j<b:=by omega
 clear pt0 sw0 o2 s1 s2 ix c2 l2 p0 p1
 have len:=sw.len
 have p0:a<ys.length:=by omega
 refine Yo (F:=?F) (k:=?k) (Q:=?Q) (fun t H1=>H2=H1∧t 0=v∧t 1=.int .i64 a∧t 10=.int .i64 i∧t 11=.int .i64 j) ?main ?rest
 case main=>intro rest;refine rest _ _ ?_;exact ⟨rfl,by simp,by simp,by simp,by simp⟩
 case rest=>
  rintro t H' ⟨rfl,h0,h1,hi,hj⟩
  obtain ⟨H',hH⟩:∃H',H'=H2:=⟨_,rfl⟩
  subst hH
  obtain ⟨il,hil⟩:∃il,il=i:=⟨_,rfl⟩
  have hai':il≤i∧a<i:=⟨by omega,hai⟩
  refine Yo (F:=?F3) (k:=?k3) (Q:=?Q3) (fun t H1=>∃i:Nat,t 0=v∧t 1=.int .i64 a∧t 10=.int .i64 i∧t 11=.int .i64 j∧(il≤i∧a<i)∧i≤j+1∧(i=j+1∨(i≤j∧¬(fun y=>y<x) (G ys i)))∧H'=H1∧Pt ys a b x (fun y=>y<x) i j) ?main3 ?rest3
  case main3=>
   intro rest
   refine Qi (fun c t H1=>∃i:Nat,c=j+1-i∧t 0=v∧t 1=.int .i64 a∧t 10=.int .i64 i∧t 11=.int .i64 j∧(il≤i∧a<i)∧i≤j+1∧H'=H1∧Pt ys a b x (fun y=>y<x) i j) ?_ (n:=j+1-i)
    ⟨i,rfl,by simp [h0],by simp [h1],by simp [hi],by simp [hj],hai',hij,rfl,pt⟩
   rintro c t _ ⟨i,rfl,h0,h1,hi,hj,hai',hij,rfl,pt⟩ ih2
   have hai:=hai'.2
   simp [h0,h1,hi,hj]
   rw [Qf (h:=by kernel_rfl)]
   simp [h0,h1,hi,hj]
   refine Wq ?_ ?_<;>intro g1
   ·have p1:i<ys.length:=by omega
    simp [h0,h1,hi,hj,g1,Qt o p0,Qt o p1,Qv o p0,Qv o p1,Xm]
    refine Qd ?_ ?_<;>intro g2
    ·simp [h0,h1,hi,hj]
     refine ih2 (j+1-(i+1)) _ _ ⟨i+1,rfl,by simp [h0],by simp [h1],?_,by simp [hj],by omega,by omega,rfl,pt.incr hai (by have:=pt.1;show G ys i<x;omega)⟩ (by omega)
     simp;rw [w64 (by omega) (by omega)]
    ·simp [h0,h1,hi,hj]
     refine rest _ _ ?_
     exact ⟨i,by simp [h0],by simp [h1],by simp [hi],by simp [hj],hai',by omega,.inr ⟨by omega,by have:=pt.1;show ¬(G ys i<x);omega⟩,rfl,pt⟩
   ·simp [h0,h1,hi,hj,g1]
    refine rest _ _ ?_
    exact ⟨i,by simp [h0],by simp [h1],by simp [hi],by simp [hj],hai',hij,.inl (by omega),rfl,pt⟩
  case rest3=>
   rintro t _ ⟨i,h0,h1,hi,hj,hai',hij,hex,rfl,pt⟩
   have hai:=hai'.2
   refine Qi (fun c t H1=>∃j':Nat,c=j'+1-i∧t 0=v∧t 1=.int .i64 a∧t 10=.int .i64 i∧t 11=.int .i64 j'∧j'≤j∧i≤j'+1∧H'=H1∧Pt ys a b x (fun y=>y<x) i j') ?_ (n:=j+1-i)
    ⟨j,rfl,by simp [h0],by simp [h1],by simp [hi],by simp [hj],Nat.le_refl _,hij,rfl,pt⟩
   have hex':i<j+1→¬(fun y=>y<x) (G ys i):=fun hh=>by rcases hex with hex|hex;omega;exact hex.2
   have hjb0:=hjb
   rintro c t _ ⟨j',rfl,h0,h1,hi,hj,hjj',hij,rfl,pt⟩ ih2
   have hjb:j'<b:=by omega
   simp [h0,h1,hi,hj]
   rw [Qf (h:=by kernel_rfl)]
   simp [h0,h1,hi,hj]
   refine Wq ?_ ?_<;>intro g1
   ·have p1:j'<ys.length:=by omega
    simp [h0,h1,hi,hj,g1,Qt o p0,Qt o p1,Qv o p0,Qv o p1,Xm]
    refine Qd ?_ ?_<;>intro g2
    ·simp [h0,h1,hi,hj]
     have hnj:¬j'<i:=by omega
     simp [hnj]
     have p2:i<ys.length:=by omega
     have hlo:(fun y=>y<x) (G ys j'):=by have:=pt.1;show G ys j'<x;omega
     rw [Qf (h:=by kernel_rfl)]
     obtain ⟨H3,H4,s3,ix3,s4,o4,c4,l4⟩:=Ww o p2 p1 hf
     simp [h0,h1,hi,hj,Qt o p2,Qt o p1,Qv o p2,Qv o p1,s3,ix3 _ p2,ix3 _ p1,s4]
     have hlt:i<j':=by
      rcases Nat.lt_or_ge i j' with q|q
      ·exact q
      ·have q2:i=j':=by omega
       exact absurd (q2▸hlo) (hex' (by omega))
     refine Qi (fun c t H'=>∃i j:Nat,c=j+1-i∧t 0=v∧t 1=.int .i64 a∧t 10=.int .i64 i∧t 11=.int .i64 j∧a<i∧i≤j+1∧j<b∧Swd H v xs e a b (fun ys=>Pt ys a b x (fun y=>y<x) i j) H') ?_ (n:=j'-1+1-(i+1))
      ⟨i+1,j'-1,rfl,by simp [h0],by simp [h1],by simp;rw [w64 (by omega) (by omega)],by simp;rw [w64 (by omega) (by omega)];omega,by omega,by omega,by omega,_,sw.step i j' (by omega) (by omega),pt.swap hai hlt hjb (by omega) (hex' (by omega)) hlo,o4,c.trans c4,by omega⟩
     rintro c t H' ⟨i,j,rfl,h0,h1,hi,hj,hai,hij,hjb,ys,sw,pt,o,c,l⟩ ih
     have len:=sw.len
     have p0:a<ys.length:=by omega
     simp [h0,h1,hi,hj]
     obtain ⟨il,hil⟩:∃il,il=i:=⟨_,rfl⟩
     have hai':il≤i∧a<i:=⟨by omega,hai⟩
     refine Yo (F:=?F32) (k:=?k2) (Q:=?Q32) (fun t H1=>∃i:Nat,t 0=v∧t 1=.int .i64 a∧t 10=.int .i64 i∧t 11=.int .i64 j∧(il≤i∧a<i)∧i≤j+1∧(i=j+1∨(i≤j∧¬(fun y=>y<x) (G ys i)))∧H'=H1∧Pt ys a b x (fun y=>y<x) i j) ?main32 ?rest32
     case main32=>
      intro rest
      refine Qi (fun c t H1=>∃i:Nat,c=j+1-i∧t 0=v∧t 1=.int .i64 a∧t 10=.int .i64 i∧t 11=.int .i64 j∧(il≤i∧a<i)∧i≤j+1∧H'=H1∧Pt ys a b x (fun y=>y<x) i j) ?_ (n:=j+1-i)
       ⟨i,rfl,by simp [h0],by simp [h1],by simp [hi],by simp [hj],hai',hij,rfl,pt⟩
      rintro c t _ ⟨i,rfl,h0,h1,hi,hj,hai',hij,rfl,pt⟩ ih2
      have hai:=hai'.2
      simp [h0,h1,hi,hj]
      rw [Qf (h:=by kernel_rfl)]
      simp [h0,h1,hi,hj]
      refine Wq ?_ ?_<;>intro g1
      ·have p1:i<ys.length:=by omega
       simp [h0,h1,hi,hj,g1,Qt o p0,Qt o p1,Qv o p0,Qv o p1,Xm]
       refine Qd ?_ ?_<;>intro g2
       ·simp [h0,h1,hi,hj]
        refine ih2 (j+1-(i+1)) _ _ ⟨i+1,rfl,by simp [h0],by simp [h1],?_,by simp [hj],by omega,by omega,rfl,pt.incr hai (by have:=pt.1;show G ys i<x;omega)⟩ (by omega)
        simp;rw [w64 (by omega) (by omega)]
       ·simp [h0,h1,hi,hj]
        refine rest _ _ ?_
        exact ⟨i,by simp [h0],by simp [h1],by simp [hi],by simp [hj],hai',by omega,.inr ⟨by omega,by have:=pt.1;show ¬(G ys i<x);omega⟩,rfl,pt⟩
      ·simp [h0,h1,hi,hj,g1]
       refine rest _ _ ?_
       exact ⟨i,by simp [h0],by simp [h1],by simp [hi],by simp [hj],hai',hij,.inl (by omega),rfl,pt⟩
     case rest32=>
      rintro t _ ⟨i,h0,h1,hi,hj,hai',hij,hex,rfl,pt⟩
      have hai:=hai'.2
      refine Qi (fun c t H1=>∃j':Nat,c=j'+1-i∧t 0=v∧t 1=.int .i64 a∧t 10=.int .i64 i∧t 11=.int .i64 j'∧j'≤j∧i≤j'+1∧H'=H1∧Pt ys a b x (fun y=>y<x) i j') ?_ (n:=j+1-i)
       ⟨j,rfl,by simp [h0],by simp [h1],by simp [hi],by simp [hj],Nat.le_refl _,hij,rfl,pt⟩
      have hex':i<j+1→¬(fun y=>y<x) (G ys i):=fun hh=>by rcases hex with hex|hex;omega;exact hex.2
      have hjb0:=hjb
      rintro c t _ ⟨j',rfl,h0,h1,hi,hj,hjj',hij,rfl,pt⟩ ih2
      have hjb:j'<b:=by omega
      simp [h0,h1,hi,hj]
      rw [Qf (h:=by kernel_rfl)]
      simp [h0,h1,hi,hj]
      refine Wq ?_ ?_<;>intro g1
      ·have p1:j'<ys.length:=by omega
       simp [h0,h1,hi,hj,g1,Qt o p0,Qt o p1,Qv o p0,Qv o p1,Xm]
       refine Qd ?_ ?_<;>intro g2
       ·simp [h0,h1,hi,hj]
        have hnj:¬j'<i:=by omega
        simp [hnj]
        have p2:i<ys.length:=by omega
        have hlo:(fun y=>y<x) (G ys j'):=by have:=pt.1;show G ys j'<x;omega
        rw [Qf (h:=by kernel_rfl)]
        obtain ⟨H3,H4,s3,ix3,s4,o4,c4,l4⟩:=Ww o p2 p1 hf
        simp [h0,h1,hi,hj,Qt o p2,Qt o p1,Qv o p2,Qv o p1,s3,ix3 _ p2,ix3 _ p1,s4]
        have hlt:i<j':=by
         rcases Nat.lt_or_ge i j' with q|q
         ·exact q
         ·have q2:i=j':=by omega
          exact absurd (q2▸hlo) (hex' (by omega))
        refine ih (j'-1+1-(i+1)) _ _ ⟨i+1,j'-1,rfl,by simp [h0],by simp [h1],?_,?_,by omega,by omega,by omega,_,sw.step i j' (by omega) (by omega),pt.swap hai hlt hjb (by omega) (hex' (by omega)) hlo,o4,c.trans c4,by omega⟩ (by omega)
        ·simp;rw [w64 (by omega) (by omega)]
        ·simp;rw [w64 (by omega) (by omega)];omega
       ·simp [h0,h1,hi,hj]
        refine ih2 (j'-1+1-i) _ _ ⟨j'-1,rfl,by simp [h0],by simp [h1],by simp [hi],?_,by omega,by omega,rfl,pt.decr (by omega) (by have:=pt.1;show ¬(G ys j'<x);omega)⟩ (by omega)
        simp;rw [w64 (by omega) (by omega)];omega
      ·have hij':i=j'+1:=by omega
       have hji:j'<i:=by omega
       simp [h0,h1,hi,hj,g1,hji]
       have p3:j'<ys.length:=by omega
       rw [Qf (h:=by kernel_rfl)]
       obtain ⟨H3,H4,s3,ix3,s4,o4,c4,l4⟩:=Ww o p3 p0 hf
       simp [h0,h1,hi,hj,Qt o p3,Qt o p0,Qv o p3,Qv o p0,s3,ix3 _ p3,ix3 _ p0,s4]
       obtain ⟨f1,f2,f3⟩:=pt.fin hij' hai hjb (by omega)
       exact ⟨j',rfl,by omega,by omega,_,sw.step j' a (by omega) (by omega),⟨fun k k1 k2=>by have:=f2 k k1 k2;rw [f1];exact this,fun k k1 k2=>by have:=f3 k k1 k2;rw [f1];omega⟩,o4,c.trans c4,by omega⟩
    ·simp [h0,h1,hi,hj]
     refine ih2 (j'-1+1-i) _ _ ⟨j'-1,rfl,by simp [h0],by simp [h1],by simp [hi],?_,by omega,by omega,rfl,pt.decr (by omega) (by have:=pt.1;show ¬(G ys j'<x);omega)⟩ (by omega)
     simp;rw [w64 (by omega) (by omega)];omega
   ·have hij':i=j'+1:=by omega
    have hji:j'<i:=by omega
    simp [h0,h1,hi,hj,g1,hji]
    have p3:j'<ys.length:=by omega
    rw [Qf (h:=by kernel_rfl)]
    obtain ⟨H3,H4,s3,ix3,s4,o4,c4,l4⟩:=Ww o p3 p0 hf
    simp [h0,h1,hi,hj,Qt o p3,Qt o p0,Qv o p3,Qv o p0,s3,ix3 _ p3,ix3 _ p0,s4]
    obtain ⟨f1,f2,f3⟩:=pt.fin hij' hai hjb (by omega)
    exact ⟨j',rfl,by omega,by omega,_,sw.step j' a (by omega) (by omega),⟨fun k k1 k2=>by have:=f2 k k1 k2;rw [f1];exact this,fun k k1 k2=>by have:=f3 k k1 k2;rw [f1];omega⟩,o4,c.trans c4,by omega⟩
theorem Srt.snoc {ys:List Int} {a i:Nat} (h:Srt ys a i) (hi:a<i→G ys (i-1)≤G ys i):Srt ys a (i+1):=fun p q h1 h2 h3=>by
 by_cases hq:q=i
 ·rw [hq]
  have hlt:a<i:=by omega
  have:=hi hlt
  by_cases hp:p=i-1
  ·rw [hp];exact this
  ·have:=h p (i-1) h1 (by omega) (by omega);omega
 ·exact h p q h1 h2 (by omega)
theorem Dr (v:Value) (xs:List Int) (e:TypeId) (a b:Nat) (h:Ow Fl.int e H v xs) (hab:a<b) (hb:b≤xs.length) (hl:xs.length≤1073741824) (hlo:0<a→∀k,a≤k→k<b→G xs (a-1)≤G xs k) (hf:∀i∈ids v,frz≤i) :
 wp (vcall C frz 145 [v,.int .i64 a,.int .i64 b] H) (fun r H'=>∃d:Bool,r=.bool d∧Swd H v xs e a b (fun ys=>d=true→Srt ys a b) H'):=by
 rw [Qb (fn:=Tryz.f145) Tryz.func145 rfl (by kernel_rfl) rfl]
 obtain ⟨i0,hi0⟩:∃i0,i0=a+1:=⟨_,rfl⟩
 have e2:∀[Inhabited Unit],IntKind.i64.wrap ((a:Int)+1)=(i0:Int):=by intro _;rw [w64 (by omega) (by omega)];omega
 simp [e2]
 refine Qi (fun c t H'=>∃i s:Nat,c=5-s∧s≤5∧t 0=v∧t 1=.int .i64 a∧t 2=.int .i64 b∧t 7=.int .i64 i∧t 8=.int .i64 s∧a<i∧i≤b∧Swd H v xs e a b (fun ys=>Srt ys a i) H') ?_ (n:=5)
  ⟨i0,0,rfl,by omega,by simp,by simp,by simp,by simp,by simp,by omega,by omega,xs,.refl,Srt.short (by omega),h,Chg.refl _,rfl⟩
 rintro c t H' ⟨i,s,rfl,hs,h0,h1,h2,h7,h8,hai,hib,ys,sw,sr,o,c,l⟩ ih
 have len:=sw.len
 simp [h0,h1,h2,h7,h8]
 refine Qd ?_ ?_<;>intro g0
 ·simp [h0,h1,h2,h7,h8]
  refine L6 (F:=?F) (k1:=?k1) (k2:=?k2) (Q:=?Q) (fun c t H1=>∃i:Nat,c=.bool (decide ((i:Int)=b))∧H'=H1∧t 0=v∧t 1=.int .i64 a∧t 2=.int .i64 b∧t 7=.int .i64 i∧t 8=.int .i64 s∧a<i∧i≤b∧Srt ys a i) ?main ?rest
  case main=>
   intro rest
   refine Qi (fun c t H1=>∃i:Nat,c=b-i∧H'=H1∧t 0=v∧t 1=.int .i64 a∧t 2=.int .i64 b∧t 7=.int .i64 i∧t 8=.int .i64 s∧a<i∧i≤b∧Srt ys a i) ?_ (n:=b-i)
    ⟨i,rfl,rfl,by simp [h0],by simp [h1],by simp [h2],by simp [h7],by simp [h8],hai,hib,sr⟩
   rintro c t _ ⟨i,rfl,rfl,h0,h1,h2,h7,h8,hai,hib,sr⟩ ih2
   have e3:∀[Inhabited Unit],IntKind.i64.wrap ((i:Int)-1)=((i-1:Nat):Int):=by intro _;rw [w64 (by omega) (by omega)];omega
   simp [h0,h1,h2,h7,h8]
   rw [Qf (h:=by kernel_rfl)]
   simp [h0,h1,h2,h7,h8]
   refine Wq ?_ ?_<;>intro g1
   ·have p1:i<ys.length:=by omega
    have p2:i-1<ys.length:=by omega
    simp [h0,h1,h2,h7,h8,g1,e3,Qt o p1,Qt o p2,Qv o p1,Qv o p2,Xm]
    refine Qd ?_ ?_<;>intro g2
    ·simp [h0,h1,h2,h7,h8]
     refine rest _ _ _ ?_
     exact ⟨i,rfl,rfl,by simp [h0],by simp [h1],by simp [h2],by simp [h7],by simp [h8],hai,hib,sr⟩
    ·simp [h0,h1,h2,h7,h8]
     refine ih2 (b-(i+1)) _ _ ⟨i+1,rfl,rfl,by simp [h0],by simp [h1],by simp [h2],?_,by simp [h8],by omega,by omega,sr.snoc (fun _=>by omega)⟩ (by omega)
     simp;rw [w64 (by omega) (by omega)]
   ·simp [h0,h1,h2,h7,h8,g1]
    refine rest _ _ _ ?_
    exact ⟨i,rfl,rfl,by simp [h0],by simp [h1],by simp [h2],by simp [h7],by simp [h8],hai,hib,sr⟩
  case rest=>
   rintro _ t _ ⟨i,rfl,rfl,h0,h1,h2,h7,h8,hai,hib,sr⟩
   obtain ⟨n,hn⟩:∃n,n=b-a:=⟨_,rfl⟩
   obtain ⟨m,hm⟩:∃m,m=i-a:=⟨_,rfl⟩
   obtain ⟨r,hr⟩:∃r,r=b-i:=⟨_,rfl⟩
   have e4:∀[Inhabited Unit],IntKind.i64.wrap ((b:Int)-a)=(n:Int):=by intro _;rw [w64 (by omega) (by omega)];omega
   have e5:∀[Inhabited Unit],IntKind.i64.wrap ((i:Int)-a)=(m:Int):=by intro _;rw [w64 (by omega) (by omega)];omega
   have e6:∀[Inhabited Unit],IntKind.i64.wrap ((b:Int)-i)=(r:Int):=by intro _;rw [w64 (by omega) (by omega)];omega
   have e3:∀[Inhabited Unit],IntKind.i64.wrap ((i:Int)-1)=((i-1:Nat):Int):=by intro _;rw [w64 (by omega) (by omega)];omega
   refine Qd ?_ ?_<;>intro g1
   ·simp
    have hib:i=b:=by omega
    exact ⟨ys,sw,hib▸sr,o,c,l⟩
   ·simp [h0,h1,h2,h7,h8,e4]
    refine Qd ?_ ?_<;>intro g2
    ·simp
     exact ⟨ys,sw,trivial,o,c,l⟩
    ·have p1:i<ys.length:=by omega
     have p2:i-1<ys.length:=by omega
     simp [h0,h1,h2,h7,h8]
     rw [Qf (h:=by kernel_rfl)]
     obtain ⟨H3,H4,s3,ix3,s4,o4,c4,l4⟩:=Ww o p1 p2 hf
     simp [h0,h1,h2,h7,h8,e3,e5,Qt o p1,Qt o p2,Qv o p1,Qv o p2,s3,ix3 _ p1,ix3 _ p2,s4]
     have sw4:=sw.step i (i-1) (by omega) (by omega)
     have sr4:Srt (swp ys i (i-1)) a (i-1):=Srt.frame (fun p q q1 q2 q3=>sr p q q1 q2 (by omega)) (fun k k1 k2=>by rw [Yk p1 p2,if_neg (by omega),if_neg (by omega)])
     have c5:=c.trans c4
     have l5:H4.length=H.length:=by omega
     generalize swp ys i (i-1)=zs at *
     refine L6 (F:=?F2) (k1:=?k12) (k2:=?k22) (Q:=?Q2) (fun c t H1=>c=.bool (decide (2≤(r:Int)))∧t 0=v∧t 1=.int .i64 a∧t 2=.int .i64 b∧t 7=.int .i64 i∧t 8=.int .i64 s∧Swd H v xs e a b (fun ys=>Srt ys a i) H1) ?main2 ?rest2
     case main2=>
      intro rest2
      refine Qd ?_ ?_<;>intro g3
      ·simp [h0,h1,h2,h7,h8,e3]
       refine Qi (fun c t H1=>∃j:Nat,c=j∧t 0=v∧t 1=.int .i64 a∧t 2=.int .i64 b∧t 7=.int .i64 i∧t 8=.int .i64 s∧t 9=.int .i64 j∧a≤j∧j≤i-1∧Swd H v xs e a b (fun ys=>Ins ys a (i-1) j) H1) ?_ (n:=i-1)
        ⟨i-1,rfl,by simp [h0],by simp [h1],by simp [h2],by simp [h7],by simp [h8],by simp,by omega,by omega,zs,sw4,Ins.start sr4,o4,c5,l5⟩
       rintro j t H1 ⟨_,rfl,h0,h1,h2,h7,h8,h9,haj,hji,ws,sw,ins,o,c,l⟩ ih2
       have len:=sw.len
       have e7:∀[Inhabited Unit],IntKind.i64.wrap ((j:Int)-1)=((j-1:Nat):Int)∨j=0:=by
        intro _
        by_cases hj:j=0
        ·exact .inr hj
        ·left;rw [w64 (by omega) (by omega)];omega
       simp [h0,h1,h2,h7,h8,h9]
       refine Qd ?_ ?_<;>intro g4
       ·have e7:∀[Inhabited Unit],IntKind.i64.wrap ((j:Int)-1)=((j-1:Nat):Int):=by intro _;rw [w64 (by omega) (by omega)];omega
        have p3:j<ws.length:=by omega
        have p4:j-1<ws.length:=by omega
        simp [h0,h1,h2,h7,h8,h9]
        rw [Qf (h:=by kernel_rfl)]
        simp [h0,h1,h2,h7,h8,h9,e7,Qt o p3,Qt o p4,Qv o p3,Qv o p4,Xm]
        have low:j=a→G ws (j-1)≤G ws j:=by
         intro hja
         have:=sw.all hb (p:=fun y=>G xs (a-1)≤y) (fun k k1 k2=>hlo (by omega) k k1 k2) j haj (by omega)
         rw [hja] at this ⊢
         rw [sw.out hb (k:=a-1) (by omega)];exact this
        refine Qd ?_ ?_<;>intro g5
        ·have haj2:a<j:=by
          rcases Nat.lt_or_ge a j with q|q
          ·exact q
          ·have:=low (by omega);omega
         simp [h0,h1,h2,h7,h8,h9]
         rw [Qf (h:=by kernel_rfl)]
         obtain ⟨H5,H6,s5,ix5,s6,o6,c6,l6⟩:=Ww o p3 p4 hf
         simp [h0,h1,h2,h7,h8,h9,e7,Qt o p3,Qt o p4,Qv o p3,Qv o p4,s5,ix5 _ p3,ix5 _ p4,s6]
         refine ih2 (j-1) _ _ ⟨j-1,rfl,by simp [h0],by simp [h1],by simp [h2],by simp [h7],by simp [h8],by simp [e7],by omega,by omega,_,sw.step j (j-1) (by omega) (by omega),ins.step (by omega) haj2 hji g5,o6,c.trans c6,by omega⟩ (by omega)
        ·have sr6:Srt ws a (i-1+1):=ins.done (by
          rcases Nat.lt_or_ge a j with q|q
          ·exact .inr ⟨q,by omega⟩
          ·exact .inl (by omega))
         rw [show i-1+1=i by omega] at sr6
         simp [h0,h1,h2,h7,h8,h9,e6]
         refine rest2 _ _ _ ?_
         exact ⟨rfl,by simp [h0],by simp [h1],by simp [h2],by simp [h7],by simp [h8],ws,sw,sr6,o,c,l⟩
       ·have sr6:Srt ws a (i-1+1):=ins.done (.inl (by omega))
        rw [show i-1+1=i by omega] at sr6
        simp [h0,h1,h2,h7,h8,h9,e6]
        refine rest2 _ _ _ ?_
        exact ⟨rfl,by simp [h0],by simp [h1],by simp [h2],by simp [h7],by simp [h8],ws,sw,sr6,o,c,l⟩
      ·simp [h0,h1,h2,h7,h8,e6]
       refine rest2 _ _ _ ?_
       exact ⟨rfl,by simp [h0],by simp [h1],by simp [h2],by simp [h7],by simp [h8],zs,sw4,Srt.short (by omega),o4,c5,l5⟩
     case rest2=>
      clear sw4 sr4 o4 c5 l5 s3 s4 ix3 c4 p1 p2
      rintro _ t H1 ⟨rfl,h0,h1,h2,h7,h8,ws,sw,sr,o,c,l⟩
      have fin:∀(t:Env) (H1:Heap),t 0=v→t 1=.int .i64 a→t 2=.int .i64 b→t 7=.int .i64 i→t 8=.int .i64 (IntKind.i64.wrap ((s:Int)+1))→Swd H v xs e a b (fun ys=>Srt ys a i) H1→
       ∃i s':Nat,5-(s+1)=5-s'∧s'≤5∧t 0=v∧t 1=.int .i64 a∧t 2=.int .i64 b∧t 7=.int .i64 i∧t 8=.int .i64 s'∧a<i∧i≤b∧Swd H v xs e a b (fun ys=>Srt ys a i) H1:=
       fun t H1 g0 g1 g2 g7 g8 gs=>⟨i,s+1,rfl,by omega,g0,g1,g2,g7,by rw [g8,w64 (by omega) (by omega)];simp,hai,hib,gs⟩
      refine Qd ?_ ?_<;>intro g3
      ·have e8:∀[Inhabited Unit],IntKind.i64.wrap ((i:Int)+1)=((i+1:Nat):Int):=by intro _;rw [w64 (by omega) (by omega)];omega
       obtain ⟨j0,hj0⟩:∃j0,j0=i+1:=⟨_,rfl⟩
       rw [← hj0] at e8
       simp [h0,h1,h2,h7,h8,e8]
       refine Qi (fun c t H1=>∃j:Nat,c=b-j∧t 0=v∧t 1=.int .i64 a∧t 2=.int .i64 b∧t 7=.int .i64 i∧t 8=.int .i64 s∧t 10=.int .i64 j∧i<j∧j≤b∧Swd H v xs e a b (fun ys=>Srt ys a i) H1) ?_ (n:=b-j0)
        ⟨j0,rfl,by simp [h0],by simp [h1],by simp [h2],by simp [h7],by simp [h8],by simp,by omega,by omega,ws,sw,sr,o,c,l⟩
       rintro _ t H1 ⟨j,rfl,h0,h1,h2,h7,h8,h10,hij,hjb,ws,sw,sr,o,c,l⟩ ih2
       have len:=sw.len
       simp [h0,h1,h2,h7,h8,h10]
       refine Qd ?_ ?_<;>intro g4
       ·have e7:∀[Inhabited Unit],IntKind.i64.wrap ((j:Int)-1)=((j-1:Nat):Int):=by intro _;rw [w64 (by omega) (by omega)];omega
        have p3:j<ws.length:=by omega
        have p4:j-1<ws.length:=by omega
        simp [h0,h1,h2,h7,h8,h10]
        rw [Qf (h:=by kernel_rfl)]
        simp [h0,h1,h2,h7,h8,h10,e7,Qt o p3,Qt o p4,Qv o p3,Qv o p4,Xm]
        refine Qd ?_ ?_<;>intro g5
        ·simp [h0,h1,h2,h7,h8,h10]
         rw [Qf (h:=by kernel_rfl)]
         obtain ⟨H5,H6,s5,ix5,s6,o6,c6,l6⟩:=Ww o p3 p4 hf
         simp [h0,h1,h2,h7,h8,h10,e7,Qt o p3,Qt o p4,Qv o p3,Qv o p4,s5,ix5 _ p3,ix5 _ p4,s6]
         refine ih2 (b-(j+1)) _ _ ⟨j+1,rfl,by simp [h0],by simp [h1],by simp [h2],by simp [h7],by simp [h8],?_,by omega,by omega,_,sw.step j (j-1) (by omega) (by omega),Srt.frame sr (fun k k1 k2=>by rw [Yk p3 p4,if_neg (by omega),if_neg (by omega)]),o6,c.trans c6,by omega⟩ (by omega)
         simp;rw [w64 (by omega) (by omega)]
        ·simp [h0,h1,h2,h7,h8,h10]
         refine ih (5-(s+1)) _ _ (fin _ _ ?_ ?_ ?_ ?_ ?_ ⟨ws,sw,sr,o,c,l⟩) (by omega)<;>simp [h0,h1,h2,h7,h8]
       ·simp [h0,h1,h2,h7,h8,h10]
        refine ih (5-(s+1)) _ _ (fin _ _ ?_ ?_ ?_ ?_ ?_ ⟨ws,sw,sr,o,c,l⟩) (by omega)<;>simp [h0,h1,h2,h7,h8]
      ·simp [h0,h1,h2,h7,h8]
       refine ih (5-(s+1)) _ _ (fin _ _ ?_ ?_ ?_ ?_ ?_ ⟨ws,sw,sr,o,c,l⟩) (by omega)<;>simp [h0,h1,h2,h7,h8]
 ·simp
  exact ⟨ys,sw,trivial,o,c,l⟩
structure Pq (ys:List Int) (A B a b:Nat):Prop where
 le:A≤a∧a≤b∧b≤B
 left:Srt ys A a
 right:Srt ys b B
 lo:∀p q,A≤p→p<a→a≤q→q<B→G ys p≤G ys q
 hi:∀p q,A≤p→p<b→b≤q→q<B→G ys p≤G ys q
 low:0<A→∀k,A≤k→k<B→G ys (A-1)≤G ys k
section
variable {ys zs:List Int} {A B a b m:Nat}
theorem Pq.below (h:Pq ys A B a b) (ha:0<a):∀k,a≤k→k<B→G ys (a-1)≤G ys k:=fun k h1 h2=>by
 obtain ⟨l1,l2,l3⟩:=h.le
 by_cases hA:a=A
 ·have:=h.low (by omega) k (by omega) h2;rw [hA];exact this
 ·exact h.lo (a-1) k (by omega) (by omega) h1 h2
theorem Pq.sw (h:Pq ys A B a b) (s:Sw a b ys zs) (hB:B≤ys.length):Pq zs A B a b:=by
 obtain ⟨l1,l2,l3⟩:=h.le
 have hb:b≤ys.length:=by omega
 have out:=fun k (hk:k<a∨b≤k)=>s.out hb hk
 refine ⟨h.le,h.left.frame (fun k h1 h2=>out k (.inl h2)),h.right.frame (fun k h1 h2=>out k (.inr h1)),fun p q h1 h2 h3 h4=>?_,fun p q h1 h2 h3 h4=>?_,fun h0 k h1 h2=>?_⟩
 ·rw [out p (.inl h2)]
  exact s.all' hb (p:=fun y=>G ys p≤y) (Nat.le_refl a) l3 (fun k k1 k2=>h.lo p k h1 h2 k1 k2) q h3 h4
 ·rw [out q (.inr h3)]
  exact s.all' hb (p:=fun y=>y≤G ys q) l1 (Nat.le_refl b) (fun k k1 k2=>h.hi k q k1 k2 h3 h4) p h1 h2
 ·rw [out (A-1) (.inl (by omega))]
  exact s.all' hb (p:=fun y=>G ys (A-1)≤y) l1 l3 (fun k k1 k2=>h.low h0 k k1 k2) k h1 h2
theorem Pq.done (h:Pq ys A B a b) (s:Srt ys a b):Srt ys A B:=by
 obtain ⟨l1,l2,l3⟩:=h.le
 exact (h.left.join (s.join h.right (fun p q h1 h2 h3 h4=>h.hi p q (by omega) h2 h3 h4)) h.lo)
theorem Pq.eq {x:Int} (h:Pq ys A B a b) (hm:a<m∧m≤b) (hx:∀k,a≤k→k<b→x≤G ys k) (h1:∀k,a≤k→k<m→¬x<G ys k) (h2:∀k,m≤k→k<b→x<G ys k):Pq ys A B m b:=by
 obtain ⟨l1,l2,l3⟩:=h.le
 refine ⟨by omega,h.left.join (fun p q q1 q2 q3=>?_) (fun p q q1 q2 q3 q4=>h.lo p q q1 q2 q3 (by omega)),h.right,fun p q q1 q2 q3 q4=>?_,h.hi,h.low⟩
 ·have:=h1 p q1 (by omega);have:=hx q (by omega) (by omega);omega
 ·by_cases hp:p<a
  ·exact h.lo p q q1 hp (by omega) q4
  ·by_cases hq:q<b
   ·have:=h1 p (by omega) q2;have:=h2 q q3 hq;omega
   ·exact h.hi p q q1 (by omega) (by omega) q4
theorem Pq.goRight (h:Pq ys A B a b) (hm:a≤m∧m<b) (s:Srt ys a m) (h1:∀k,a≤k→k<m→G ys k≤G ys m) (h2:∀k,m<k→k<b→G ys m≤G ys k):Pq ys A B (m+1) b:=by
 obtain ⟨l1,l2,l3⟩:=h.le
 refine ⟨by omega,h.left.join (fun p q q1 q2 q3=>?_) (fun p q q1 q2 q3 q4=>h.lo p q q1 q2 q3 (by omega)),h.right,fun p q q1 q2 q3 q4=>?_,h.hi,h.low⟩
 ·by_cases hq:q=m
  ·rw [hq];exact h1 p q1 (by omega)
  ·exact s p q q1 q2 (by omega)
 ·by_cases hp:p<a
  ·exact h.lo p q q1 hp (by omega) q4
  ·by_cases hq:q<b
   ·have:=h2 q (by omega) hq
    by_cases hpm:p=m
    ·rw [hpm];exact this
    ·have:=h1 p (by omega) (by omega);omega
   ·exact h.hi p q q1 (by omega) (by omega) q4
theorem Pq.goLeft (h:Pq ys A B a b) (hm:a≤m∧m<b) (s:Srt ys (m+1) b) (h1:∀k,a≤k→k<m→G ys k≤G ys m) (h2:∀k,m<k→k<b→G ys m≤G ys k):Pq ys A B a m:=by
 obtain ⟨l1,l2,l3⟩:=h.le
 refine ⟨by omega,h.left,Srt.join (b:=b) (fun p q q1 q2 q3=>?_) h.right (fun p q q1 q2 q3 q4=>h.hi p q (by omega) q2 q3 q4),h.lo,fun p q q1 q2 q3 q4=>?_,h.low⟩
 ·by_cases hp:p=m
  ·rw [hp];exact h2 q (by omega) q3
  ·exact s p q (by omega) q2 q3
 ·by_cases hq:q<b
  ·by_cases hp:p<a
   ·exact h.lo p q q1 hp (by omega) q4
   ·have:=h1 p (by omega) q2
    by_cases hqm:q=m
    ·rw [hqm];exact this
    ·have:=h2 q (by omega) hq;omega
  ·exact h.hi p q q1 (by omega) (by omega) q4
end
theorem Qa5:∀(n:Nat) (H:Heap) (v:Value) (xs:List Int) (e:TypeId) (A B:Nat) (L:Int) (h:Ow Fl.int e H v xs) (hn:B-A≤n) (hab:A≤B) (hb:B≤xs.length) (hl:xs.length≤1073741824)
 (hlo:0<A→∀k,A≤k→k<B→G xs (A-1)≤G xs k) (hf:∀i∈ids v,frz≤i) (hF:frz≤H.length),
 wp (vcall C frz 122 [v,.int .i64 A,.int .i64 B,.int .i64 L] H) (fun _ H'=>∃ys,Sw A B xs ys∧Srt ys A B∧Ow Fl.int e H' v ys∧Chg H H' (ids v)):=by
 intro n
 induction n using Nat.strongRecOn with
 | _ n IH=>
 intro H v xs e A B L h hn hab hb hl hlo hf hF
 rw [Qb (fn:=Tryz.f122) Tryz.func122 rfl (by kernel_rfl) rfl]
 simp
 refine Qi (fun c t H'=>∃(a b:Nat) (L:Int) (w1 w2:Bool),c=b-a∧t 0=v∧t 1=.int .i64 a∧t 2=.int .i64 b∧t 3=.int .i64 L∧t 8=.bool w1∧t 9=.bool w2∧
  ∃ys,Sw A B xs ys∧Pq ys A B a b∧Ow Fl.int e H' v ys∧Chg H H' (ids v)) ?_ (n:=B-A)
  ⟨A,B,L,true,true,rfl,by simp,by simp,by simp,by simp,by simp,by simp,xs,.refl,⟨by omega,Srt.short (by omega),Srt.short (by omega),fun p q h1 h2 h3 h4=>by omega,fun p q h1 h2 h3 h4=>by omega,hlo⟩,h,Chg.refl _⟩
 rintro c t H' ⟨a,b,L,w1,w2,rfl,h0,h1,h2,h3,h8,h9,ys,sw,pq,o,c⟩ ih
 have len:=sw.len
 obtain ⟨l1,l2,l3⟩:=pq.le
 obtain ⟨n1,hn1⟩:∃n1,n1=b-a:=⟨_,rfl⟩
 have e1:∀[Inhabited Unit],IntKind.i64.wrap ((b:Int)-a)=(n1:Int):=by intro _;rw [w64 (by omega) (by omega)];omega
 simp [h0,h1,h2,h3,h8,h9,e1]
 refine Qd ?_ ?_<;>intro g1
 ·simp [h0,h1,h2,h3,h8,h9]
  refine Qc (Dk v ys e a b o l2 (by omega) (by omega) hf) ?_
  rintro _ H1 ⟨zs,sw1,sr1,o1,c1,k1⟩
  simp
  exact ⟨zs,sw.trans (sw1.mono l1 l3),(pq.sw sw1 (by omega)).done sr1,o1,c.trans c1⟩
 ·simp [h0,h1,h2,h3,h8,h9]
  refine Qd ?_ ?_<;>intro g2
  ·simp [h0,h1,h2,h3,h8,h9]
   refine Qc (Gx v ys e a b o (by omega) (by omega) (by omega) hf) ?_
   rintro _ H1 ⟨zs,sw1,sr1,o1,c1,k1⟩
   simp
   exact ⟨zs,sw.trans (sw1.mono l1 l3),(pq.sw sw1 (by omega)).done sr1,o1,c.trans c1⟩
  ·simp [h0,h1,h2,h3,h8,h9]
   refine Rm (F:=?F1) (k:=?k1) (d:=?d1) (Q:=?Q1) (fun r t=>∃(L:Int) (zs:List Int) (H1:Heap),r=vcall C frz 143 [v,.int .i64 a,.int .i64 b] H1∧t 0=v∧t 1=.int .i64 a∧t 2=.int .i64 b∧t 3=.int .i64 L∧t 10=.int .i64 n1∧t 8=.bool w1∧t 9=.bool w2∧
    Sw A B xs zs∧Pq zs A B a b∧Ow Fl.int e H1 v zs∧Chg H H1 (ids v)) ?main1 ?rest1
   case main1=>
    intro rest
    have h10:=True.intro
    refine Fq ?_ ?_<;>intro g3
    ·simp [h0,h1,h2,h3,h8,h9]
     refine rest _ _ ?_
     exact ⟨L,ys,H',rfl,by simp [h0],by simp [h1],by simp [h2],by simp [h3],by simp [h10],by simp [h8],by simp [h9],sw,pq,o,c⟩
    ·simp [h0,h1,h2,h3,h8,h9]
     refine Qc (J7 v ys e a b o l2 (by omega) (by omega) hf (by have:=c.1;omega)) ?_
     rintro _ H1 ⟨zs,sw1,o1,c1⟩
     simp [h0,h1,h2,h3,h8,h9]
     refine rest _ _ ?_
     exact ⟨IntKind.i64.wrap (L-1),zs,H1,rfl,by simp [h0],by simp [h1],by simp [h2],by simp,by simp,by simp [h8],by simp [h9],sw.trans (sw1.mono l1 l3),pq.sw sw1 (by omega),o1,c.trans c1⟩
   case rest1=>
    clear h0 h1 h2 h3 h8 h9 sw pq o c len
    rintro _ t ⟨L,ys,H',rfl,h0,h1,h2,h3,h10,h8,h9,sw,pq,o,c⟩
    have len:=sw.len
    refine Qc (Oc v ys e a b o (by omega) (by omega) (by omega) (by have:=c.1;omega)) ?_
    rintro _ H1 ⟨⟨p,k,rfl,hp1,hp2⟩,c1⟩
    have o1:=o.chg c1 (by simp)
    have cH1:=c.trans (c1.mono (by simp))
    simp [h0,h1,h2,h3,h8,h9]
    refine Ak (F:=?F2) (k:=?k2) (d:=?d2) (want:=?w2) (op:=?op2) (Q:=?Q2) (fun c t H1=>c=.bool w1∧∃(p:Nat) (k:Int) (zs:List Int),(a≤p∧p<b)∧t 0=v∧t 1=.int .i64 a∧t 2=.int .i64 b∧t 3=.int .i64 L∧t 10=.int .i64 n1∧t 8=.bool w1∧t 9=.bool w2∧t 11=.int .i64 p∧t 12=.int .i64 k∧t 62=.bool w1∧
     Sw A B xs zs∧Pq zs A B a b∧Ow Fl.int e H1 v zs∧Chg H H1 (ids v)) ?main2 ?rest2
    case main2=>
     intro rest
     refine Qd ?_ ?_<;>intro g3
     ·simp [h0,h1,h2,h3,h8,h9]
      refine Qc (Iq v ys e a b o1 (by omega) (by omega) (by omega) hf) ?_
      rintro _ H2 ⟨zs,sw1,_,o2,c2,k2⟩
      obtain ⟨b1,hb1⟩:∃b1,b1=b-1:=⟨_,rfl⟩
      obtain ⟨p1,hp3⟩:∃p1,p1=p-a:=⟨_,rfl⟩
      obtain ⟨p2,hp4⟩:∃p2,p2=b1-p1:=⟨_,rfl⟩
      have e2:∀[Inhabited Unit],IntKind.i64.wrap ((b:Int)-1)=(b1:Int):=by intro _;rw [w64 (by omega) (by omega)];omega
      have e3:∀[Inhabited Unit],IntKind.i64.wrap ((p:Int)-a)=(p1:Int):=by intro _;rw [w64 (by omega) (by omega)];omega
      have e4:∀[Inhabited Unit],IntKind.i64.wrap ((b1:Int)-p1)=(p2:Int):=by intro _;rw [w64 (by omega) (by omega)];omega
      simp [h0,h1,h2,h3,h8,h9,e2,e3,e4]
      refine rest _ _ _ ?_
      exact ⟨rfl,p2,1,zs,by omega,by simp [h0],by simp [h1],by simp [h2],by simp [h3],by simp [h10],by simp [h8],by simp [h9],by simp,by simp,by simp,sw.trans (sw1.mono l1 l3),pq.sw sw1 (by omega),o2,cH1.trans c2⟩
     ·simp [h0,h1,h2,h3,h8,h9]
      refine rest _ _ _ ?_
      exact ⟨rfl,p,k,ys,by omega,by simp [h0],by simp [h1],by simp [h2],by simp [h3],by simp [h10],by simp [h8],by simp [h9],by simp,by simp,by simp,sw,pq,o1,cH1⟩
    case rest2=>
     clear h0 h1 h2 h3 h8 h9 sw pq o c len o1 c1 cH1 hp1 hp2
     rintro _ t H1 ⟨rfl,p,k,ys,hp,h0,h1,h2,h3,h10,h8,h9,h11,h12,h62,sw,pq,o,c⟩
     have len:=sw.len
     refine Yo (F:=?F3) (k:=?k3) (Q:=?Q3) (fun t H1=>∃(zs:List Int),t 0=v∧t 1=.int .i64 a∧t 2=.int .i64 b∧t 3=.int .i64 L∧t 10=.int .i64 n1∧t 8=.bool w1∧t 9=.bool w2∧t 11=.int .i64 p∧
      Sw A B xs zs∧Pq zs A B a b∧Ow Fl.int e H1 v zs∧Chg H H1 (ids v)) ?main3 ?rest3
     case main3=>
      intro rest
      refine M0 ?_ ?_<;>intro g3
      ·simp [h0,h1,h2,h3,h8,h9,h11,h12,h62,g3]
       refine M0 ?_ ?_<;>intro g4
       ·simp [h0,h1,h2,h3,h8,h9,h11,h12,h62,g3,g4]
        refine Qd ?_ ?_<;>intro g5
        ·simp [h0,h1,h2,h3,h8,h9,h11,h12]
         refine Qc (Dr v ys e a b o (by omega) (by omega) (by omega) (fun h0 k k1 k2=>pq.below h0 k k1 (by omega)) hf) ?_
         rintro _ H2 ⟨d,rfl,zs,sw1,sr1,o2,c2,k2⟩
         simp
         refine Fq ?_ ?_<;>intro g6
         ·simp
          exact ⟨zs,sw.trans (sw1.mono l1 l3),(pq.sw sw1 (by omega)).done (sr1 g6),o2,c.trans c2⟩
         ·simp
          refine rest _ _ ?_
          exact ⟨zs,by simp [h0],by simp [h1],by simp [h2],by simp [h3],by simp [h10],by simp [h8],by simp [h9],by simp [h11],sw.trans (sw1.mono l1 l3),pq.sw sw1 (by omega),o2,c.trans c2⟩
        ·simp
         refine rest _ _ ?_
         exact ⟨ys,by simp [h0],by simp [h1],by simp [h2],by simp [h3],by simp [h10],by simp [h8],by simp [h9],by simp [h11],sw,pq,o,c⟩
       ·simp [h0,h1,h2,h3,h8,h9,h11,h12,h62,g3,g4]
        refine rest _ _ ?_
        exact ⟨ys,by simp [h0],by simp [h1],by simp [h2],by simp [h3],by simp [h10],by simp [h8,g3],by simp [h9,g4],by simp [h11],sw,pq,o,c⟩
      ·simp [h0,h1,h2,h3,h8,h9,h11,h12,h62,g3]
       refine rest _ _ ?_
       exact ⟨ys,by simp [h0],by simp [h1],by simp [h2],by simp [h3],by simp [h10],by simp [h8,g3],by simp [h9],by simp [h11],sw,pq,o,c⟩
     case rest3=>
      clear h0 h1 h2 h3 h8 h9 h11 h12 sw pq o c len
      rintro t H1 ⟨ys,h0,h1,h2,h3,h10,h8,h9,h11,sw,pq,o,c⟩
      have len:=sw.len
      have q1:p<ys.length:=by omega
      rw [Qf (h:=by kernel_rfl)]
      simp [h0,h1,h2,h3,h8,h9,h11]
      refine Rm (F:=?F4) (k:=?k4) (d:=?d4) (Q:=?Q4) (fun r t=>r=vcall C frz 148 [v,.int .i64 a,.int .i64 b,.int .i64 p] H1∧t 0=v∧t 1=.int .i64 a∧t 2=.int .i64 b∧t 3=.int .i64 L∧t 10=.int .i64 n1) ?main4 ?rest4
      case main4=>
       intro rest
       refine Wq ?_ ?_<;>intro g3
       ·have e5:∀[Inhabited Unit],IntKind.i64.wrap ((a:Int)-1)=((a-1:Nat):Int):=by intro _;rw [w64 (by omega) (by omega)];omega
        have q2:a-1<ys.length:=by omega
        simp [h0,h1,h2,h3,h8,h9,h11,g3,e5,Qt o q1,Qt o q2,Qv o q1,Qv o q2,Xm]
        refine Qd ?_ ?_<;>intro g4
        ·simp [h0,h1,h2,h3,h8,h9,h11]
         refine rest _ _ ?_
         exact ⟨rfl,by simp [h0],by simp [h1],by simp [h2],by simp [h3],by simp [h10]⟩
        ·simp [h0,h1,h2,h3,h8,h9,h11]
         refine Qc (Aq v ys e a b p o hp (by omega) (by omega) hf) ?_
         rintro _ H2 ⟨m,rfl,m1,m2,zs,sw1,⟨f1,f2⟩,o2,c2,k2⟩
         simp [h0,h1,h2,h3,h8,h9,h11]
         have low:=(pq.sw sw1 (by omega)).below g3
         have out:=sw1.out (by omega) (k:=a-1) (by omega)
         refine ih (b-m) _ _ ⟨m,b,L,w1,w2,rfl,by simp [h0],by simp,by simp [h2],by simp [h3],by simp [h8],by simp [h9],zs,sw.trans (sw1.mono l1 l3),(pq.sw sw1 (by omega)).eq ⟨m1,m2⟩ (fun k k1 k2=>?_) f1 f2,o2,c.trans c2⟩ (by omega)
         have:=low k k1 (by omega);omega
       ·simp [h0,h1,h2,h3,h8,h9,h11,g3]
        refine rest _ _ ?_
        exact ⟨rfl,by simp [h0],by simp [h1],by simp [h2],by simp [h3],by simp [h10]⟩
      case rest4=>
       rintro _ t ⟨rfl,h0,h1,h2,h3,h10⟩
       refine Qc (zm v ys e a b p o hp (by omega) (by omega) hf) ?_
       rintro _ H2 ⟨m,d,rfl,m1,m2,zs,sw1,⟨f1,f2⟩,o2,c2,k2⟩
       have pq2:=pq.sw sw1 (by omega)
       have len2:=sw1.len
       obtain ⟨r1,hr1⟩:∃r1,r1=m-a:=⟨_,rfl⟩
       obtain ⟨r2,hr2⟩:∃r2,r2=b-m:=⟨_,rfl⟩
       obtain ⟨mm,hmm⟩:∃mm,mm=m+1:=⟨_,rfl⟩
       have e6:∀[Inhabited Unit],IntKind.i64.wrap ((m:Int)-a)=(r1:Int):=by intro _;rw [w64 (by omega) (by omega)];omega
       have e7:∀[Inhabited Unit],IntKind.i64.wrap ((b:Int)-m)=(r2:Int):=by intro _;rw [w64 (by omega) (by omega)];omega
       have e8:∀[Inhabited Unit],IntKind.i64.wrap ((m:Int)+1)=(mm:Int):=by intro _;rw [w64 (by omega) (by omega)];omega
       have f1':∀k,a≤k→k<m→G zs k≤G zs m:=fun k k1 k2=>Int.le_of_lt (f1 k k1 k2)
       have cc:=c.trans c2
       have q8:∀[Inhabited Unit],IntKind.i64.wrap ((n1:Int)/8)=(n1/8:Nat):=by intro _;rw [w64 (by omega) (by omega)];omega
       obtain ⟨n8,hn8⟩:∃n8,n8=n1/8:=⟨_,rfl⟩
       rw [← hn8] at q8
       simp [h0,h1,h2,h3,h10,e6,e7,e8,q8]
       refine Qd ?_ ?_<;>intro g7
       ·simp [h0,h1,h2,h3,h10]
        refine Qc (IH (m-a) (by omega) H2 v zs e a m L o2 (Nat.le_refl _) (by omega) (by omega) (by omega) (fun q0 k k1 k2=>pq2.below q0 k k1 (by omega)) hf (by have:=cc.1;omega)) ?_
        rintro _ H3 ⟨ws,sw3,sr3,o3,c3⟩
        simp [h0,h1,h2,h3,h10,e8]
        have hbz:m≤zs.length:=by omega
        have wm:G ws m=G zs m:=sw3.out hbz (.inr (Nat.le_refl _))
        refine ih (b-mm) _ _ ⟨mm,b,L,decide (n8≤r1),d,rfl,by simp [h0],by simp,by simp [h2],by simp [h3],by simp,by simp,ws,(sw.trans (sw1.mono l1 l3)).trans (sw3.mono l1 (by omega)),?_,o3,cc.trans c3⟩ (by omega)
        rw [hmm]
        refine (pq2.sw (sw3.mono (Nat.le_refl _) (by omega)) (by omega)).goRight ⟨m1,m2⟩ sr3 ?_ (fun k k1 k2=>?_)
        ·rw [wm];exact sw3.all hbz (p:=fun y=>y≤G zs m) f1'
        ·rw [wm,sw3.out hbz (.inr (by omega))];exact f2 k k1 k2
       ·simp [h0,h1,h2,h3,h10,e8]
        refine Qc (IH (b-mm) (by omega) H2 v zs e mm b L o2 (Nat.le_refl _) (by omega) (by omega) (by omega) (fun q0 k k1 k2=>by rw [show mm-1=m by omega];exact f2 k (by omega) k2) hf (by have:=cc.1;omega)) ?_
        rintro _ H3 ⟨ws,sw3,sr3,o3,c3⟩
        simp [h0,h1,h2,h3,h10,e8]
        have hbz:b≤zs.length:=by omega
        have wm:G ws m=G zs m:=sw3.out hbz (.inl (by omega))
        refine ih (m-a) _ _ ⟨a,m,L,decide (n8≤r2),d,rfl,by simp [h0],by simp [h1],by simp,by simp [h3],by simp,by simp,ws,(sw.trans (sw1.mono l1 l3)).trans (sw3.mono (by omega) l3),?_,o3,cc.trans c3⟩ (by omega)
        refine (pq2.sw (sw3.mono (by omega) (Nat.le_refl _)) (by omega)).goLeft ⟨m1,m2⟩ (hmm▸sr3) (fun k k1 k2=>?_) (fun k k1 k2=>?_)
        ·rw [wm,sw3.out hbz (.inl (by omega))];exact f1' k k1 k2
        ·rw [wm];exact sw3.all hbz (p:=fun y=>G zs m≤y) (fun k k1 k2=>f2 k (by omega) k2) k (by omega) k2
theorem Eu {xs ys:List Int} (h1:xs.Pairwise (·≤·)) (h2:ys.Pairwise (·≤·)) (h:xs.Perm ys):xs=ys:=
 List.Perm.eq_of_pairwise (le:=(·≤·)) (fun a b _ _ h1 h2=>Int.le_antisymm h1 h2) h1 h2 h
def isort (xs:List Int):List Int:=xs.mergeSort (fun a b=>decide (a≤b))
theorem Rg (xs:List Int):(isort xs).Perm xs:=List.mergeSort_perm xs _
theorem N7 (xs:List Int):(isort xs).Pairwise (·≤·):=by
 have:=List.pairwise_mergeSort (le:=fun a b:Int=>decide (a≤b)) (fun a b c h1 h2=>by simp at *;omega) (fun a b=>by simp;omega) xs
 exact this.imp (fun h=>by simpa using h)
theorem Ei (xs:List Int):(isort xs).length=xs.length:=(Rg xs).length_eq
theorem jn (v:Value) (xs:List Int) (e:TypeId) (h:Ow Fl.int e H v xs) (hl:xs.length≤1073741824) (hf:∀i∈ids v,frz≤i) (hF:frz≤H.length) :
 wp (vcall C frz 109 [v] H) (fun _ H'=>Ow Fl.int e H' v (isort xs)∧Chg H H' (ids v)):=by
 rw [Qb (fn:=Tryz.f109) Tryz.func109 rfl (by kernel_rfl) rfl]
 have e1:∀[Inhabited Unit],IntKind.u64.wrap (xs.length:Int)=(xs.length:Int):=by intro _;exact w64u (by omega) (by omega)
 simp [h.rd.len,e1]
 refine Qc (yj xs.length (by omega)) ?_
 rintro _ H0 ⟨hH,n,rfl,_⟩
 rw [hH]
 simp
 have:=Qa5 (frz:=frz) xs.length H v xs e 0 xs.length n h (by omega) (by omega) (Nat.le_refl _) hl (fun h=>by omega) hf hF
 refine Qc (by simpa using this) ?_
 rintro _ H1 ⟨ys,sw,sr,o,c⟩
 simp
 have hys:ys=isort xs:=by
  have hp:=sw.perm (Nat.le_refl _)
  rw [← sw.len] at sr
  exact Eu sr.pairwise (N7 xs) (hp.trans (Rg xs).symm)
 subst hys
 exact ⟨o,c⟩
end Go.Proofs.YtdhjhjbfplajfaaGreat.V
set_option linter.all false
namespace Go.Proofs.YtdhjhjbfplajfaaGreat.V
open Go Go.VM Go.Proofs
set_option maxRecDepth 10000
variable {frz:Nat} {H:Heap}
theorem Ps (p:Int):vcall C frz 121 [.int .i64 p] H=some (.int .i64 (opp p),H):=by
 rw [Qb (fn:=Tryz.f121) Tryz.func121 rfl (by kernel_rfl) rfl]
 simp
 refine Qq _ ?_ ?_<;>intro h1<;>simp [h1,opp,Ql]
 refine Qq _ ?_ ?_<;>intro h2
 ·obtain ⟨h3,h4⟩:=h2
  simp [h3,h4]
  rw [w64 (by omega) (by omega),Int.tmod_eq_emod_of_nonneg (by omega)]
 ·have h3:¬(0≤p∧p≤3):=h2
  simp [h3]
theorem Dx (p:Int) : -1≤opp p∧opp p≤4:=by unfold opp;split<;>(try split)<;>omega
theorem Gl (w h c:Int) : -1≤endC w h c∧endC w h c<16:=Iv _ _ _ _
theorem Cv {w h c:Int}:IntKind.i64.wrap (4*endC w h c)=4*endC w h c∧IntKind.i64.wrap (4*endC w h c+opp (c%4))=backC w h c:=by
 have h1:=Gl w h c
 have h2:=Dx (c%4)
 exact ⟨w64 (by omega) (by omega),by unfold backC;exact w64 (by omega) (by omega)⟩
theorem zc (w h:Int) (v:Value) (b:List Int) (c:Int) (hI:IsI H v b) (h0:leads w h c) :
 vcall C frz 169 [.agg #[.int .i64 w,.int .i64 h,v],.int .i64 c] H=some (.int .i64 (backC w h c),H):=by
 rw [Qb (fn:=Tryz.f169) Tryz.func169 rfl (by kernel_rfl) rfl]
 obtain ⟨e1,e2⟩:=Vt h0.1
 obtain ⟨e3,e4⟩:=Cv (w:=w) (h:=h) (c:=c)
 have e5:next w h (c/4) (c%4)=endC w h c:=rfl
 simp [hI.one',hI.cells,Vo _ _ _ _ _ (hI.app _) h0,e2,Ps,e3,e4,e5]
theorem Mx (w h:Int) (v:Value) (b:List Int) (c:Int) (hI:IsI H v b) (hl:b.length≤1073741824) :
 vcall C frz 152 [.agg #[.int .i64 w,.int .i64 h,v],.int .i64 c] H=some (.bool (decide (meshOk w h b∧link w h b c)),H):=by
 rw [Qb (fn:=Tryz.f152) Tryz.func152 rfl (by kernel_rfl) rfl]
 simp [hI.one',hI.cells]
 rw [Qf (h:=by kernel_rfl)]
 simp [hI.one',hI.cells,X5 _ _ _ _ _ (hI.app _) hl,-Bool.decide_and]
 refine Q9 _ _ ?_ ?_<;>intro h1
 ·simp [h1,hI.one',hI.cells,zc _ _ _ _ _ (hI.app _) h1.2.1,X5 _ _ _ _ _ (hI.app _) hl,link]
 ·have h2:¬(meshOk w h b∧link w h b c):=fun hh=>h1 ⟨hh.1,hh.2.1⟩
  simp [h1]
  exact fun a b=>h2 ⟨a,b⟩
end Go.Proofs.YtdhjhjbfplajfaaGreat.V
